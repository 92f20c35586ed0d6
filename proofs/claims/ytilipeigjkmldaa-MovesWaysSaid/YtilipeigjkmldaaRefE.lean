/- Contracts of the document's answer, layer 20: Does. -/
import Derived.Test.YtilipeigjkmldaaRefD
namespace Go.Proofs.Ytilipeigjkmldaa
open Go.RowKit

theorem opAcc_kind (o : Opd) : ∀ a ∈ opAcc o, 1 ≤ a.kind := by
  intro a ha
  unfold opAcc at ha
  split at ha
  · rw [List.mem_singleton.1 ha]; show (1 : Int) ≤ 1; decide
  · split at ha
    · rw [List.mem_singleton.1 ha]; show (1 : Int) ≤ 2; decide
    · cases ha
theorem accI_kind (n : Nat) (x : Ins) : ∀ a ∈ accI n x, 1 ≤ a.kind := by
  intro a ha
  unfold accI at ha
  split at ha
  · rw [List.mem_singleton.1 ha]; show (1 : Int) ≤ 5; decide
  split at ha
  · rw [List.mem_singleton.1 ha]; show (1 : Int) ≤ 6; decide
  split at ha
  · rcases List.mem_append.1 ha with ha | ha
    · obtain ⟨o, _, ho⟩ := List.mem_flatMap.1 ha
      exact opAcc_kind o a ho
    · rcases List.mem_append.1 ha with ha | ha
      · split at ha
        · rw [List.mem_singleton.1 ha]
          show (1 : Int) ≤ if x.mu = true then 3 else 1
          split <;> decide
        · cases ha
      · rw [List.mem_singleton.1 ha]; show (1 : Int) ≤ 4; decide
  split at ha
  · exact opAcc_kind _ a ha
  split at ha
  · rcases List.mem_cons.1 ha with rfl | ha
    · show (1 : Int) ≤ 2; decide
    · obtain ⟨k, _, rfl⟩ := List.mem_map.1 ha; show (1 : Int) ≤ 6; decide
  · cases ha
theorem accB_kind (b : Bod) (i : Nat) : ∀ a ∈ accB b i, 1 ≤ a.kind := by
  intro a ha
  unfold accB at ha
  split at ha
  · exact accI_kind _ _ a ha
  · cases ha

def usedB (b : Bod) (i : Nat) (n : Int) : Bool := (accB b i).any (fun a => a.pl.loc == n && usesA a)
def lostB (b : Bod) (i : Nat) (n : Int) : Bool := (accB b i).any (fun a => a.pl.loc == n && !usesA a)

set_option maxRecDepth 100000 in
set_option maxHeartbeats 2000000 in
theorem does_any (B : Nat) (b : Bod) (bs : List Value) (i : Nat) (n : Int) (w : World) (h : BodAt w B b bs) (hi : i < b.code.length) (hs : BodSmall b) (hB : B ≤ w.heap.size) :
    Calls Try.prog 17 #[.agg bs.toArray, .int .i64 i, .int .i64 n] w fun e w' => e = .returned (.tuple #[.bool (usedB b i n), .bool (lostB b i n)]) ∧ Step (fun _ => False) w w' := by
  have H := Lib.hid h
  have HK := Lib.hid (accB_kind b i)
  have HUB : Hid (usedB b i n = (accB b i).any (fun a => a.pl.loc == n && usesA a)) := rfl
  have HLB : Hid (lostB b i n = (accB b i).any (fun a => a.pl.loc == n && !usesA a)) := rfl
  obtain ⟨vl, vc, xl, xs, rfl, ⟨al, cl, rfl, -⟩, -, ⟨ac, cc, rfl, -⟩⟩ := h
  have ST0 : Step (fun _ => False) w (w.alloc (.cells #[.string b.name, .int .i64 b.params, .slice al b.locals cl, .slice ac b.code.length cc] 29)) := (Step.refl _ _).alloc _
  have HACC := Lib.hid (racc_any B b _ i (w.alloc (.cells #[.string b.name, .int .i64 b.params, .slice al b.locals cl, .slice ac b.code.length cc] 29)) (BodAt.step ST0 (fun _ _ h => h) _ _ H.out) hi hs (Nat.le_trans hB ST0.size))
  clear hi hs
  go_enter Try.func17, Try.ntmps17
  go_wp2_with fail
  refine HACC.out.mono ?_
  rintro e w1 ⟨⟨v, xs2, rfl, hxs, hr⟩, h1⟩
  have HXS := Lib.hid hxs
  obtain ⟨ar, cr, rfl, hcl, hcm, -, hrr⟩ := hr
  have HRR := Lib.hid hrr
  clear hxs hrr
  obtain ⟨l, hl⟩ : ∃ l, l = accB b i := ⟨_, rfl⟩
  rw [← hl] at HXS HRR HK HUB HLB
  rw [← hl] at hcl
  rw [← hl]
  clear hl
  go_wp2_with fail
  go_loopg [9, 10, 11] l.length (fun gg s9 s10 s11 wr => ∃ k : Nat, s11 = .int .i64 k ∧ k ≤ l.length ∧ l.length - k ≤ gg ∧ s9 = .bool ((l.take k).any (fun a => a.pl.loc == n && usesA a)) ∧ s10 = .bool ((l.take k).any (fun a => a.pl.loc == n && !usesA a)) ∧ wr = w1)
  case atStart => exact ⟨0, rfl, Nat.zero_le _, by omega, rfl, rfl, rfl⟩
  case round =>
    obtain ⟨k, rfl, hk, hgg, rfl, rfl, rfl⟩ := hrel
    by_cases hlt : k < l.length
    · obtain ⟨a, ha⟩ : ∃ a, l[k]? = some a := ⟨l[k], List.getElem?_eq_getElem hlt⟩
      obtain ⟨g2, o2, rfl, -, -, hcell⟩ := HRR.out (by omega)
      obtain ⟨cs, ⟨va, rfl, ⟨ax, cx, rfl, -⟩⟩, f⟩ := Each.cells 3 AcAt.len HXS.out ha hcell
      have f0 := f 0 _ rfl
      have f1 := f 1 _ rfl
      have f2 := f 2 _ rfl
      rw [Nat.add_zero] at f0
      have hka := HK.out a (List.mem_of_getElem? ha)
      have HTU : Hid ((l.take (k + 1)).any (fun a => a.pl.loc == n && usesA a) = ((l.take k).any (fun a => a.pl.loc == n && usesA a) || (a.pl.loc == n && usesA a))) := by
        show _ = _
        obtain ⟨hk', rfl⟩ := List.getElem?_eq_some_iff.1 ha
        rw [List.take_succ_eq_append_getElem hk', List.any_append]; simp
      have HTL : Hid ((l.take (k + 1)).any (fun a => a.pl.loc == n && !usesA a) = ((l.take k).any (fun a => a.pl.loc == n && !usesA a) || (a.pl.loc == n && !usesA a))) := by
        show _ = _
        obtain ⟨hk', rfl⟩ := List.getElem?_eq_some_iff.1 ha
        rw [List.take_succ_eq_append_getElem hk', List.any_append]; simp
      have HUA : Hid (usesA a = (decide (a.kind = 1 ∨ a.kind = 2 ∨ a.kind = 3) || (decide (a.kind = 4) && decide (0 < a.pl.path.length)))) := rfl
      have hk0 : (0 : Int) ≤ (k : Int) := by omega
      have hk1 : (k : Int) < (l.length : Int) := by omega
      obtain ⟨bu, hbu⟩ : ∃ bu, bu = (l.take k).any (fun a => a.pl.loc == n && usesA a) := ⟨_, rfl⟩
      obtain ⟨bl, hbl⟩ : ∃ bl, bl = (l.take k).any (fun a => a.pl.loc == n && !usesA a) := ⟨_, rfl⟩
      rw [← hbu, ← hbl]
      rw [← hbu] at HTU
      rw [← hbl] at HTL
      clear f hcell ha hbu hbl
      by_cases hn : a.pl.loc = n
      · have en : (a.pl.loc != n) = false := by simp [hn]
        have EN : Hid ((a.pl.loc == n) = true) := by show _ = _; simpa using hn
        clear hn
        by_cases h3 : a.kind ≤ 3
        · have e3 : decide (a.kind ≤ 3) = true := decide_eq_true h3
          have HU : Hid (usesA a = true) := by show _ = _; rw [HUA.out, decide_eq_true (show a.kind = 1 ∨ a.kind = 2 ∨ a.kind = 3 by omega)]; rfl
          clear h3
          go_wp2
          go_roundg (gk - 1)
          case rel => exact ⟨k + 1, by go_num, by omega, by omega, by rw [HTU.out, EN.out, HU.out]; simp, by rw [HTL.out, EN.out, HU.out]; simp, rfl⟩
          case measure => omega
        · have e3 : decide (a.kind ≤ 3) = false := decide_eq_false h3
          have HU1 : Hid (usesA a = (decide (a.kind = 4) && decide (0 < a.pl.path.length))) := by show _ = _; rw [HUA.out, decide_eq_false (show ¬ (a.kind = 1 ∨ a.kind = 2 ∨ a.kind = 3) by omega)]; rfl
          by_cases h4 : a.kind = 4
          · have e4 : (a.kind == 4) = true := by simpa using h4
            by_cases h5 : 0 < a.pl.path.length
            · have HU : Hid (usesA a = true) := by show _ = _; rw [HU1.out, decide_eq_true h4, decide_eq_true h5]; rfl
              have e5 : decide (0 < a.pl.path.length) = true := decide_eq_true h5
              clear h3 h4 h5
              go_wp2
              go_roundg (gk - 1)
              case rel => exact ⟨k + 1, by go_num, by omega, by omega, by rw [HTU.out, EN.out, HU.out]; simp, by rw [HTL.out, EN.out, HU.out]; simp, rfl⟩
              case measure => omega
            · have HU : Hid (usesA a = false) := by show _ = _; rw [HU1.out, decide_eq_true h4, decide_eq_false h5]; rfl
              have e5 : decide (0 < a.pl.path.length) = false := decide_eq_false h5
              clear h3 h4 h5
              go_wp2
              go_roundg (gk - 1)
              case rel => exact ⟨k + 1, by go_num, by omega, by omega, by rw [HTU.out, EN.out, HU.out]; simp, by rw [HTL.out, EN.out, HU.out]; simp, rfl⟩
              case measure => omega
          · have e4 : (a.kind == 4) = false := by simpa using h4
            have HU : Hid (usesA a = false) := by show _ = _; rw [HU1.out, decide_eq_false h4]; rfl
            clear h3 h4
            go_wp2
            go_roundg (gk - 1)
            case rel => exact ⟨k + 1, by go_num, by omega, by omega, by rw [HTU.out, EN.out, HU.out]; simp, by rw [HTL.out, EN.out, HU.out]; simp, rfl⟩
            case measure => omega
      · have en : (a.pl.loc != n) = true := by simp [hn]
        have EN : Hid ((a.pl.loc == n) = false) := by show _ = _; simpa using hn
        clear hn
        go_wp2
        go_roundg (gk - 1)
        case rel => exact ⟨k + 1, by go_num, by omega, by omega, by rw [HTU.out, EN.out]; simp, by rw [HTL.out, EN.out]; simp, rfl⟩
        case measure => omega
    · have HT : Hid (l.take k = l) := List.take_of_length_le (by omega)
      rw [HT.out]
      rw [← HUB.out, ← HLB.out]
      go_wp2
      go_ret2
      exact ⟨rfl, ST0.trans h1⟩

end Go.Proofs.Ytilipeigjkmldaa
