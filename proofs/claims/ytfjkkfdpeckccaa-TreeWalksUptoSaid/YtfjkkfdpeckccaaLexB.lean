/- Contracts of the cutter's small methods: where it is. -/
import Derived.Test.YtfjkkfdpeckccaaLexA
import Derived.Test.YtfjkkfdpeckccaaShelf
import Derived.Deep.QuietTactic
import Derived.BigQuiet
import Derived.BigRegion
import Derived.Deep.LoopGhost
import Derived.Lib.Hide
import Derived.Deep.DeepFit
namespace Go.Proofs.Ytfjkkfdpeckccaa
open Go.RowKit

/- The cutter in its block. -/
structure Cut (w : World) (b : Nat) (s : ByteArray) (at' line from' : Nat) : Prop where
  out : w.heap[b]? = some (.cells #[.string s, .int .i64 at', .int .i64 line, .int .i64 from'] 78 (0, 0))

theorem Cut.cells {w : World} {b : Nat} {s : ByteArray} {p l f : Nat} (h : Cut w b s p l f) :
    w.cell? ⟨b, 0, none⟩ = some (.string s) ∧ w.cell? ⟨b, 1, none⟩ = some (.int .i64 p) ∧ w.cell? ⟨b, 2, none⟩ = some (.int .i64 l) ∧ w.cell? ⟨b, 3, none⟩ = some (.int .i64 f) ∧
    w.frozen? ⟨b, 0, none⟩ = false ∧ w.frozen? ⟨b, 1, none⟩ = false ∧ w.frozen? ⟨b, 2, none⟩ = false ∧ w.frozen? ⟨b, 3, none⟩ = false :=
  ⟨blk_cell h.out 0 _ rfl, blk_cell h.out 1 _ rfl, blk_cell h.out 2 _ rfl, blk_cell h.out 3 _ rfl, blk_free h.out 0, blk_free h.out 1, blk_free h.out 2, blk_free h.out 3⟩

theorem Cut.drew {w : World} {b : Nat} {s : ByteArray} {p l f : Nat} (h : Cut w b s p l f) : Cut w.drew b s p l f := ⟨h.out⟩
theorem Cut.drewN {w : World} {b : Nat} {s : ByteArray} {p l f : Nat} (h : Cut w b s p l f) (n : Nat) : Cut (w.drewN n) b s p l f := ⟨h.out⟩
theorem Cut.alloc {w : World} {b : Nat} {s : ByteArray} {p l f : Nat} (h : Cut w b s p l f) (o : Obj) : Cut (w.alloc o) b s p l f := ⟨blk_alloc h.out⟩
theorem Cut.set1 {w : World} {b : Nat} {s : ByteArray} {p l f q : Nat} {z : Int} (e : z = q) (h : Cut w b s p l f) : Cut (w.setCell ⟨b, 1, none⟩ (.int .i64 z)) b s q l f := by subst e; exact ⟨blk_set h.out 1 _⟩
theorem Cut.set2 {w : World} {b : Nat} {s : ByteArray} {p l f q : Nat} {z : Int} (e : z = q) (h : Cut w b s p l f) : Cut (w.setCell ⟨b, 2, none⟩ (.int .i64 z)) b s p q f := by subst e; exact ⟨blk_set h.out 2 _⟩
theorem Cut.set3 {w : World} {b : Nat} {s : ByteArray} {p l f q : Nat} {z : Int} (e : z = q) (h : Cut w b s p l f) : Cut (w.setCell ⟨b, 3, none⟩ (.int .i64 z)) b s p l q := by subst e; exact ⟨blk_set h.out 3 _⟩
theorem Cut.step {w w' : World} {b : Nat} {s : ByteArray} {p l f : Nat} {S : Nat → Prop} (h : Cut w b s p l f) (hs : Step S w w') (hb : ¬ S b) : Cut w' b s p l f := ⟨hs.keep h.out hb⟩

set_option maxHeartbeats 400000 in
theorem pos_any (b : Nat) (s : ByteArray) (p l f : Nat) (w : World) (h : Cut w b s p l f) (hf : f ≤ p) (hp : p ≤ 100000) :
    Calls Try.prog 42 #[.pointer (some ⟨b, 0, none⟩)] w fun e w' => e = .returned (.agg #[.int .i64 l, .int .i64 ((p : Int) - f + 1)]) ∧ Step (fun _ => False) w w' := by
  obtain ⟨c0, c1, c2, c3, f0, f1, f2, f3⟩ := h.cells
  have hlt : b < w.heap.size := blk_lt h.out
  go_enter Try.func42, Try.ntmps42
  go_wp2
  go_region
  go_wp2
  exact bodyPost_ret (v := .agg #[.int .i64 l, .int .i64 ((p : Int) - f + 1)]) (by simp [results, Try.results42, go_sem]) rfl ⟨rfl, ((Step.refl _ _).alloc _).drew⟩

theorem drop_cons (s : ByteArray) (p : Nat) (h : p < s.size) : s.data.toList.drop p = s[p] :: s.data.toList.drop (p + 1) := by
  rw [List.drop_eq_getElem_cons (by simpa using h)]; rfl

theorem byte_eq {c : UInt8} (k : UInt8) (h : ((c.toNat : Int) == (k.toNat : Int)) = true) : c = k := by
  have : c.toNat = k.toNat := Int.ofNat_inj.1 (beq_iff_eq.1 h)
  exact UInt8.toNat_inj.1 this
theorem byte_is {c : UInt8} (k : UInt8) (h : (c.toNat : Int) = (k.toNat : Int)) : c = k := UInt8.toNat_inj.1 (Int.ofNat_inj.1 h)
theorem byte_ne {c : UInt8} (k : UInt8) (h : ((c.toNat : Int) == (k.toNat : Int)) = false) : c ≠ k := by
  intro e; subst e; simp at h

/- What stands between tokens, passed over: whether in a remark; the text from here on; the place, the line, where the line begins. -/
def blankF : Bool → List UInt8 → Nat → Nat → Nat → Nat × Nat × Nat
  | _, [], p, l, f => (p, l, f)
  | true, c :: r, p, l, f => if c = 10 then blankF false r (p + 1) (l + 1) (p + 1) else blankF true r (p + 1) l f
  | false, c :: r, p, l, f =>
    if c = 10 then blankF false r (p + 1) (l + 1) (p + 1)
    else if c = 32 ∨ c = 9 ∨ c = 13 then blankF false r (p + 1) l f
    else if c = 47 ∧ r.head? = some 47 then blankF true r (p + 1) l f
    else (p, l, f)

theorem blankF_skip {c : UInt8} {r : List UInt8} {p l f : Nat} (h : c = 32 ∨ c = 9 ∨ c = 13) : blankF false (c :: r) p l f = blankF false r (p + 1) l f := by
  rcases h with rfl | rfl | rfl <;> simp [blankF]
theorem blankF_stop {c : UInt8} {r : List UInt8} {p l f : Nat} (h1 : c ≠ 10) (h2 : ¬ (c = 32 ∨ c = 9 ∨ c = 13)) (h3 : ¬ (c = 47 ∧ r.head? = some 47)) : blankF false (c :: r) p l f = (p, l, f) := by
  rw [blankF, if_neg h1, if_neg h2, if_neg h3]
theorem blankF_into {c : UInt8} {r : List UInt8} {p l f : Nat} (h : c = 47 ∧ r.head? = some 47) : blankF false (c :: r) p l f = blankF true (c :: r) p l f := by
  obtain ⟨rfl, h⟩ := h
  simp [blankF, h]
theorem blankF_out {c : UInt8} {r : List UInt8} {p l f : Nat} (h : c = 10) : blankF true (c :: r) p l f = blankF false (c :: r) p l f := by
  subst h; simp [blankF]
theorem hasPrefix_two (c : UInt8) (r : List UInt8) : Lib.hasPrefix (c :: r) [47, 47] = decide (c = 47 ∧ r.head? = some 47) := by
  cases r with
  | nil => simp [Lib.hasPrefix, List.isPrefixOf]
  | cons d r =>
    show ((47 : UInt8) == c && ((47 : UInt8) == d && true)) = decide (c = 47 ∧ some d = some 47)
    rw [Bool.eq_iff_iff]
    simp
    exact ⟨fun h => ⟨h.1.symm, h.2.symm⟩, fun h => ⟨h.1.symm, h.2.symm⟩⟩
theorem extract_end (s : ByteArray) (p : Nat) : (s.extract p s.size).data.toList = s.data.toList.drop p := by
  rw [Lib.extract_data]; simp [List.take_of_length_le]

theorem remark_any (t : ByteArray) (v : Bool) (h : Lib.hasPrefix t.data.toList [47, 47] = v) (w : World) :
    Calls Try.prog 50 #[.string t, .string ⟨#[47, 47]⟩] w fun e w' => e = .returned (.bool v) ∧ w = w' :=
  (Try.strings_HasPrefix _ _ _).mono fun _ _ hq => ⟨by rw [hq.1]; exact ret_bool h, hq.2.symm⟩

set_option maxRecDepth 100000 in
set_option maxHeartbeats 400000 in
theorem blank_any (b : Nat) (s : ByteArray) (p l f : Nat) (w : World) (h : Cut w b s p l f) (hf : f ≤ p) (hp : p ≤ s.size) (hs : s.size ≤ 100000) (hl : l ≤ p + 1) :
    Calls Try.prog 41 #[.pointer (some ⟨b, 0, none⟩)] w fun e w' => e = .returned (.tuple #[]) ∧
      ∃ p' l' f', (p', l', f') = blankF false (s.data.toList.drop p) p l f ∧ Cut w' b s p' l' f' ∧ Step (· = b) w w' := by
  go_enter Try.func41, Try.ntmps41
  go_wp2
  go_loopg [] s.size (fun g wr => ∃ p' l' f' : Nat, s.size - p' ≤ g ∧ p' ≤ s.size ∧ f' ≤ p' ∧ l' ≤ p' + 1 ∧ blankF false (s.data.toList.drop p') p' l' f' = blankF false (s.data.toList.drop p) p l f ∧ Cut wr b s p' l' f' ∧ Step (· = b) w wr)
  case atStart => exact ⟨p, l, f, by omega, hp, hf, hl, rfl, h, Step.refl _ _⟩
  case round =>
    obtain ⟨p', l', f', hg, hp', hf', hl', heq, hc, hst⟩ := hrel
    have HE := Lib.hid heq
    clear heq
    obtain ⟨c0, c1, c2, c3, f0, f1, f2, f3⟩ := hc.cells
    have hlt : b < wr.heap.size := blk_lt hc.out
    by_cases hlt' : p' < s.size
    · have hdr := Lib.hid (drop_cons s p' hlt')
      go_wp2
      go_quiet (fail)
      go_wp2
      go_quiet (fail)
      go_wp2
      · go_roundg (gk - 1)
        case rel =>
          refine ⟨p' + 1, l' + 1, p' + 1, by omega, by omega, by omega, by omega, ?_, ?_, ?_⟩
          · rw [← HE.out, hdr.out, blankF, if_pos (byte_eq 10 (by assumption))]
          · exact (((hc.drewN _).set1 (q := p' + 1) (by omega)).set2 (q := l' + 1) (by omega)).set3 (q := p' + 1) (by omega)
          · (repeat (with_reducible (first | exact hst | exact Step.refl _ _ | refine Step.drew ?_ | refine Step.drewN ?_ _ | refine Step.alloc ?_ _ | refine Step.setCell ?_ _ _ (fun _ => rfl))))
        case measure => omega
      · rename_i h1 h2
        have h3 := byte_is 32 h2
        go_roundg (gk - 1)
        case rel =>
          refine ⟨p' + 1, l', f', by omega, by omega, by omega, by omega, ?_, ?_, ?_⟩
          · rw [← HE.out, hdr.out, blankF_skip (.inl h3)]
          · exact (hc.drewN _).set1 (q := p' + 1) (by omega)
          · (repeat (with_reducible (first | exact hst | exact Step.refl _ _ | refine Step.drew ?_ | refine Step.drewN ?_ _ | refine Step.alloc ?_ _ | refine Step.setCell ?_ _ _ (fun _ => rfl))))
        case measure => omega
      · rename_i h1 h1b h2
        have h3 := byte_is 9 h2
        go_roundg (gk - 1)
        case rel =>
          refine ⟨p' + 1, l', f', by omega, by omega, by omega, by omega, ?_, ?_, ?_⟩
          · rw [← HE.out, hdr.out, blankF_skip (.inr (.inl h3))]
          · exact (hc.drewN _).set1 (q := p' + 1) (by omega)
          · (repeat (with_reducible (first | exact hst | exact Step.refl _ _ | refine Step.drew ?_ | refine Step.drewN ?_ _ | refine Step.alloc ?_ _ | refine Step.setCell ?_ _ _ (fun _ => rfl))))
        case measure => omega
      · rename_i h1 h1b h1c h2
        have h3 := byte_eq 13 (h2.resolve_left (by simp [h1b, h1c]))
        go_roundg (gk - 1)
        case rel =>
          refine ⟨p' + 1, l', f', by omega, by omega, by omega, by omega, ?_, ?_, ?_⟩
          · rw [← HE.out, hdr.out, blankF_skip (.inr (.inr h3))]
          · exact (hc.drewN _).set1 (q := p' + 1) (by omega)
          · (repeat (with_reducible (first | exact hst | exact Step.refl _ _ | refine Step.drew ?_ | refine Step.drewN ?_ _ | refine Step.alloc ?_ _ | refine Step.setCell ?_ _ _ (fun _ => rfl))))
        case measure => omega
      · have hn10 := byte_ne (c := s[p']) 10 (by assumption)
        have h2 : ((((s[p'].toNat : Int) == 32) = false ∧ ((s[p'].toNat : Int) == 9) = false) ∧ ((s[p'].toNat : Int) == 13) = false) := by assumption
        have hns : ¬ (s[p'] = 32 ∨ s[p'] = 9 ∨ s[p'] = 13) := fun e => e.elim (byte_ne 32 h2.1.1) fun e => e.elim (byte_ne 9 h2.1.2) (byte_ne 13 h2.2)
        by_cases hsl : s[p'] = 47 ∧ (s.data.toList.drop (p' + 1)).head? = some 47
        · have hpre := Lib.hid (show Lib.hasPrefix (s.extract p' s.size).data.toList [47, 47] = true by rw [extract_end, hdr.out, hasPrefix_two]; exact decide_eq_true hsl)
          have HI : Hid (blankF true (s.data.toList.drop p') p' l' f' = blankF false (s.data.toList.drop p) p l f) := by
            rw [← HE.out, hdr.out, blankF_into hsl]; exact rfl
          clear hsl HE
          go_wp2
          go_quiet ((go_at_call 50; exact (remark_any _ true hpre.out _).mono fun _ _ h => ⟨h.1, _, h.2.symm⟩))
          go_wp2
          obtain ⟨wo, rfl⟩ : ∃ wo : World, wo = wr := ⟨_, rfl⟩
          obtain ⟨g0, rfl⟩ : ∃ g : Nat, g = gk := ⟨_, rfl⟩
          go_loopg [] s.size (fun g wi => ∃ p2 : Nat, s.size - p2 ≤ g ∧ p2 ≤ s.size ∧ p' ≤ p2 ∧ blankF true (s.data.toList.drop p2) p2 l' f' = blankF false (s.data.toList.drop p) p l f ∧ Cut wi b s p2 l' f' ∧ Step (· = b) w wi)
          case atStart => exact ⟨p', by omega, by omega, Nat.le_refl _, HI.out, (hc.drewN _).drewN _, (hst.drewN _).drewN _⟩
          case round =>
            clear c0 c1 c2 c3 f0 f1 f2 f3 hlt hc hst
            obtain ⟨p2, hg2, hp2, hpp, heq2, hc, hst⟩ := hrel
            have HE2 := Lib.hid heq2
            clear heq2
            obtain ⟨c0, c1, c2, c3, f0, f1, f2, f3⟩ := hc.cells
            have hlt : b < wr.heap.size := blk_lt hc.out
            by_cases hlt2 : p2 < s.size
            · have hdr2 := Lib.hid (drop_cons s p2 hlt2)
              by_cases h10 : s[p2] = 10
              · have hb10 : ((s[p2].toNat : Int) == 10) = true := by rw [h10]; rfl
                have hpp2 : p' < p2 := by
                  rcases Nat.lt_or_ge p' p2 with h | h
                  · exact h
                  · have : p' = p2 := by omega
                    subst this
                    exact absurd h10 hn10
                have H10 := Lib.hid h10
                clear h10
                go_wp2
                go_quiet (fail)
                go_wp2
                go_roundg (g0 - 1)
                case rel =>
                  refine ⟨p2, l', f', by omega, by omega, by omega, by omega, ?_, hc.drewN _, hst.drewN _⟩
                  rw [← HE2.out, hdr2.out, blankF_out H10.out]
                case measure => omega
              · have hb10 : ((s[p2].toNat : Int) == 10) = false := by rw [beq_eq_false_iff_ne]; exact fun e => h10 (byte_is 10 e)
                have H10 := Lib.hid h10
                clear h10
                go_wp2
                go_quiet (fail)
                go_wp2
                go_roundg (gk - 1)
                case rel =>
                  refine ⟨p2 + 1, by omega, by omega, by omega, ?_, (hc.drewN _).set1 (q := p2 + 1) (by omega), ?_⟩
                  · rw [← HE2.out, hdr2.out, blankF, if_neg H10.out]
                  · (repeat (with_reducible (first | exact hst | exact Step.refl _ _ | refine Step.drew ?_ | refine Step.drewN ?_ _ | refine Step.alloc ?_ _ | refine Step.setCell ?_ _ _ (fun _ => rfl))))
                case measure => omega
            · go_wp2
              go_quiet (fail)
              go_wp2
              go_roundg (g0 - 1)
              case rel =>
                refine ⟨p2, l', f', by omega, by omega, by omega, by omega, ?_, hc.drewN _, hst.drewN _⟩
                rw [← HE2.out, List.drop_of_length_le (by simp; omega)]; rfl
              case measure => omega
        · have hpre := Lib.hid (show Lib.hasPrefix (s.extract p' s.size).data.toList [47, 47] = false by rw [extract_end, hdr.out, hasPrefix_two]; exact decide_eq_false hsl)
          have HS := Lib.hid hsl
          clear hsl
          go_wp2
          go_quiet ((go_at_call 50; exact (remark_any _ false hpre.out _).mono fun _ _ h => ⟨h.1, _, h.2.symm⟩))
          go_wp2
          refine bodyPost_ret (results_none rfl _ _ _) rfl ?_
          refine ⟨rfl, p', l', f', ?_, (hc.drewN _).drewN _, (hst.drewN _).drewN _⟩
          rw [← HE.out, hdr.out, blankF_stop hn10 hns HS.out]
    · go_wp2
      go_quiet (fail)
      go_wp2
      go_end0
      refine ⟨rfl, p', l', f', ?_, hc.drewN _, hst.drewN _⟩
      rw [← HE.out, List.drop_of_length_le (by simp; omega)]; rfl

end Go.Proofs.Ytfjkkfdpeckccaa
