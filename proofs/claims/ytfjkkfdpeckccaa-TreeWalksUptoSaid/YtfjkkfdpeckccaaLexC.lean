/- Contracts of the cutter: what stands next as far as bytes are letters or digits; names; lifetimes. -/
import Derived.Test.YtfjkkfdpeckccaaLexB
namespace Go.Proofs.Ytfjkkfdpeckccaa
open Go.RowKit

/- A byte that may stand in a name. -/
def wordy (c : UInt8) : Bool := isWordy c.toNat
/- How many such bytes a text begins with. -/
def runF (l : List UInt8) : Nat := (l.takeWhile wordy).length
theorem runF_nil : runF [] = 0 := rfl
theorem runF_yes {c : UInt8} {r : List UInt8} (h : wordy c = true) : runF (c :: r) = runF r + 1 := by simp [runF, h]
theorem runF_no {c : UInt8} {r : List UInt8} (h : wordy c = false) : runF (c :: r) = 0 := by simp [runF, h]
theorem runF_le (l : List UInt8) : runF l ≤ l.length := by
  induction l with
  | nil => simp [runF]
  | cons c r ih =>
    cases h : wordy c
    · rw [runF_no h]; omega
    · rw [runF_yes h]; simp; omega

/- What a test of bytes answers, handed over as a function. -/
structure Tests (k : Nat) : Prop where
  enter : ∀ (xs : Array Value) (w : World), Sem.run Try.prog (callFunc k xs) w = .ok (.enter k xs) w
  test : ∀ (a : Int) (w : World), 0 ≤ a → a ≤ 255 → Calls Try.prog k #[.int .u8 a] w fun e w' => e = .returned (.bool (isWordy a)) ∧ w = w'
theorem tests_name : Tests 73 := ⟨fun xs w => by go_simp, fun a w => name1_any a w⟩
theorem tests_life : Tests 74 := ⟨fun xs w => by go_simp, fun a w => life1_any a w⟩
theorem tests_number : Tests 75 := ⟨fun xs w => by go_simp, fun a w => number1_any a w⟩

set_option maxHeartbeats 400000 in
theorem run_any (k b : Nat) (s : ByteArray) (p l f : Nat) (w : World) (hk : Tests k) (h : Cut w b s p l f) (hp : p ≤ s.size) (hs : s.size ≤ 100000) :
    Calls Try.prog 72 #[.pointer (some ⟨b, 0, none⟩), .func (.func k) #[] #[]] w fun e w' =>
      e = .returned (.string (s.extract p (p + runF (s.data.toList.drop p)))) ∧ Cut w' b s (p + runF (s.data.toList.drop p)) l f ∧ Step (· = b) w w' := by
  obtain ⟨c0, c1, c2, c3, f0, f1, f2, f3⟩ := h.cells
  have hlt : b < w.heap.size := blk_lt h.out
  have hen := hk.enter
  have HK := Lib.hid hk.test
  clear hk
  go_enter Try.func72, Try.ntmps72
  go_wp2
  clear c0 c1 c2 c3 f0 f1 f2 f3 hlt
  go_loopg [] s.size (fun g wr => ∃ p' : Nat, s.size - p' ≤ g ∧ p' ≤ s.size ∧ p ≤ p' ∧ p' + runF (s.data.toList.drop p') = p + runF (s.data.toList.drop p) ∧ Cut wr b s p' l f ∧ Step (· = b) w wr)
  case atStart => exact ⟨p, by omega, hp, Nat.le_refl _, rfl, h, Step.refl _ _⟩
  case round =>
    obtain ⟨p', hg, hp', hpp, heq, hc, hst⟩ := hrel
    have HE := Lib.hid heq
    clear heq
    obtain ⟨c0, c1, c2, c3, f0, f1, f2, f3⟩ := hc.cells
    have hlt : b < wr.heap.size := blk_lt hc.out
    by_cases hlt' : p' < s.size
    · have hdr := Lib.hid (drop_cons s p' hlt')
      have hb255 : ((s[p'].toNat : Int)) ≤ 255 := by have := s[p'].toNat_lt; omega
      cases hw : isWordy (s[p'].toNat : Int)
      · have hq := HK.out (s[p'].toNat : Int)
        rw [hw] at hq
        have HQ := Lib.hid hq
        have HW := Lib.hid hw
        clear hq hw
        go_wp2
        go_quiet ((exact (HQ.out _ (by omega) hb255).mono fun _ _ h => ⟨h.1, _, h.2.symm⟩))
        go_wp2
        go_quiet (fail)
        go_wp2
        go_ret
        rw [← HE.out, hdr.out, runF_no HW.out]
        exact ⟨rfl, (hc.drewN _).drewN _, (hst.drewN _).drewN _⟩
      · have hq := HK.out (s[p'].toNat : Int)
        rw [hw] at hq
        have HQ := Lib.hid hq
        have HW := Lib.hid hw
        clear hq hw
        go_wp2
        go_quiet ((exact (HQ.out _ (by omega) hb255).mono fun _ _ h => ⟨h.1, _, h.2.symm⟩))
        go_wp2
        go_roundg (gk - 1)
        case rel =>
          refine ⟨p' + 1, by omega, by omega, by omega, ?_, (hc.drewN _).set1 (q := p' + 1) (by omega), ?_⟩
          · rw [← HE.out, hdr.out, runF_yes HW.out]; omega
          · (repeat (with_reducible (first | exact hst | exact Step.refl _ _ | refine Step.drew ?_ | refine Step.drewN ?_ _ | refine Step.alloc ?_ _ | refine Step.setCell ?_ _ _ (fun _ => rfl))))
        case measure => omega
    · go_wp2
      go_quiet (fail)
      go_wp2
      go_quiet (fail)
      go_wp2
      go_ret
      have : s.data.toList.drop p' = [] := List.drop_of_length_le (by simp; omega)
      rw [← HE.out, this, runF_nil]
      exact ⟨rfl, (hc.drewN _).drewN _, (hst.drewN _).drewN _⟩

end Go.Proofs.Ytfjkkfdpeckccaa
