/- Contracts of the cutter: a whole number. -/
import Derived.Test.YtfjkkfdpeckccaaLexF
namespace Go.Proofs.Ytfjkkfdpeckccaa
open Go.RowKit

def intR : Except Nat Nat → Except Nat (Nat × Nat)
  | .ok v => .ok (3, v)
  | .error c => .error c

/- Where the loop over the digits stands. -/
def IntAt (c0 : UInt8) (i v : Nat) : Prop := i = 0 ∧ v = 0 ∨ (c0 = 48 ∧ i = 1 ∧ v = 0) ∨ (c0 ≠ 48 ∧ 1 ≤ i ∧ 10 ^ (i - 1) ≤ v)

theorem IntAt.big {c0 : UInt8} {i v : Nat} (h : IntAt c0 i v) (h1 : ¬ (i = 1 ∧ c0 = 48)) (_hv : v ≤ 9223372036854775807) (h19 : 19 ≤ i) : 1000000000000000000 ≤ v := by
  rcases h with ⟨h, _⟩ | ⟨ha, hb, _⟩ | ⟨_, _, hc⟩
  · omega
  · exact absurd ⟨hb, ha⟩ h1
  · have := Nat.pow_le_pow_right (show 0 < 10 by omega) (show 18 ≤ i - 1 by omega)
    have e : (10 : Nat) ^ 18 = 1000000000000000000 := by decide
    omega
theorem IntAt.next {c0 c : UInt8} {i v : Nat} (h : IntAt c0 i v) (h1 : ¬ (i = 1 ∧ c0 = 48)) (hd : 48 ≤ c.toNat) (h0 : i = 0 → c = c0) : IntAt c0 (i + 1) (v * 10 + (c.toNat - 48)) := by
  rcases h with ⟨hi, hv⟩ | ⟨ha, hb, _⟩ | ⟨ha, hb, hc⟩
  · subst hi; subst hv
    have := h0 rfl
    subst this
    by_cases e : c = 48
    · subst e; exact .inr (.inl ⟨rfl, rfl, rfl⟩)
    · refine .inr (.inr ⟨e, by omega, ?_⟩)
      have : c.toNat ≠ 48 := fun x => e (UInt8.toNat_inj.1 x)
      simp; omega
  · exact absurd ⟨hb, ha⟩ h1
  · refine .inr (.inr ⟨ha, by omega, ?_⟩)
    have : 10 ^ (i + 1 - 1) = 10 ^ (i - 1) * 10 := by rw [← Nat.pow_succ]; congr 1; omega
    omega

set_option maxHeartbeats 1000000 in
theorem number_int (b : Nat) (s : ByteArray) (p l f N : Nat) (w : World) (h : Cut w b s p l f) (hp : p < s.size) (hs : s.size ≤ 100000) (hN : runF (s.data.toList.drop p) = N) (hN18 : N ≠ 18)
    (r : Except Nat Nat) (hr : intF (((s.data.toList.drop p).take N).headD 0) ((s.data.toList.drop p).take N) 0 0 = r) :
    Calls Try.prog 55 #[.pointer (some ⟨b, 0, none⟩)] w (NumPost N b s p l f w (intR r)) := by
  have hlt : b < w.heap.size := blk_lt h.out
  have hrl : p + N ≤ s.size := by have := runF_le (s.data.toList.drop p); simp at this; omega
  have HN := Lib.hid hN
  clear hN
  go_enter Try.func55, Try.ntmps55
  go_wp2_with fail
  refine (run_any _ b s p l f _ tests_number (h.alloc _) (by omega) hs).mono ?_
  rintro e w1 ⟨rfl, hc, hst⟩
  rw [HN.out] at hc ⊢
  have hsz := extract_size s p N hrl
  have hL := extract_list s p N
  rw [← hL] at hr
  generalize ht : s.extract p (p + N) = t at *
  have hnb := hst.keep (blk_new _ _) (by omega)
  obtain ⟨⟨d0, d1, d2, d3, d4⟩, e0, e1, e2, e3, e4⟩ := blk5 hnb
  have hlt1 : w.heap.size < w1.heap.size := blk_lt hnb
  have HT := Lib.hid ht
  have HR := Lib.hid hr
  clear ht hL hr
  have hs18 : ((N : Int) == 18) = false := by rw [beq_eq_false_iff_ne]; omega
  go_wp2_with fail
  go_loopg [48] N (fun g s48 wr => ∃ (i v : Nat), i ≤ N ∧ i ≤ 19 ∧ N - i ≤ g ∧ s48 = .int .i64 i ∧ v ≤ 9223372036854775807 ∧ IntAt (t.data.toList.headD 0) i v ∧ intF (t.data.toList.headD 0) (t.data.toList.drop i) i v = r ∧
    wr = w1.alloc (.cells #[.int .i64 3, .string t, .int .i64 0, .int .i64 0, .int .u64 v] 58))
  case atStart => exact ⟨0, 0, by omega, by omega, by omega, rfl, by omega, .inl ⟨rfl, rfl⟩, HR.out, rfl⟩
  case round =>
    obtain ⟨i, v, hi, hi19, hg, rfl, hv, hat, heq, rfl⟩ := hrel
    have HE := Lib.hid heq
    have HA := Lib.hid hat
    clear heq hat
    by_cases hlti : i < N
    · have hgd := get_list t i (by omega)
      have hdr := drop_get t.data.toList i (by rw [← Lib.size_eq]; omega)
      rw [← hgd] at hdr
      have hb255 : ((t[i].toNat : Int)) ≤ 255 := by have := t[i].toNat_lt; omega
      have hlt0 : 0 < t.size := by omega
      have h00 : t[0] = t.data.toList.headD 0 := by rw [get_list t 0 hlt0]; cases t.data.toList <;> rfl
      rw [← h00] at HA HE
      have H00 := Lib.hid h00
      clear h00
      have HD := Lib.hid hdr
      clear hdr hgd
      have hq := digit_any (t[i].toNat : Int)
      cases hd : isDigit (t[i].toNat : Int)
      · rw [hd] at hq
        have HQ := Lib.hid hq
        have HX := Lib.hid hd
        clear hq hd
        go_wp2_with (go_at_call 54; refine (HQ.out _ (by omega) hb255).mono ?_; rintro e w' ⟨rfl, rfl⟩)
        have hr0 : r = .error 1 := by rw [← HE.out, HD.out, intF, if_pos (.inl HX.out)]
        subst hr0
        refine bodyPost_ret (v := .tuple #[.agg #[.int .i64 0, .string ⟨#[]⟩, .int .i64 0, .int .i64 0, .int .u64 0], .int .i64 1]) (by simp [results, Try.results55, go_sem, d0, d1, d2, d3, d4, hlt1]) rfl ⟨rfl, ?_⟩
        exact (hst.of_alloc.five (Nat.le_refl _)).alloc _
      · rw [hd] at hq
        have HQ := Lib.hid hq
        have h48 : (48 : Int) ≤ t[i].toNat ∧ (t[i].toNat : Int) ≤ 57 := by simpa [isDigit] using hd
        obtain ⟨h48, h57⟩ := h48
        have HX := Lib.hid hd
        clear hq hd
        by_cases hi1 : i = 1 ∧ t[0] = 48
        · have hb1 : ((i : Int) == 1) = true := by rw [hi1.1]; rfl
          have hb2 : ((t[0].toNat : Int) == 48) = true := by rw [hi1.2]; rfl
          have H1 := Lib.hid hi1
          clear hi1
          go_wp2_with (go_at_call 54; refine (HQ.out _ (by omega) hb255).mono ?_; rintro e w' ⟨rfl, rfl⟩)
          have hr0 : r = .error 1 := by rw [← HE.out, HD.out, intF, if_pos (.inr H1.out)]
          subst hr0
          refine bodyPost_ret (v := .tuple #[.agg #[.int .i64 0, .string ⟨#[]⟩, .int .i64 0, .int .i64 0, .int .u64 0], .int .i64 1]) (by simp [results, Try.results55, go_sem, d0, d1, d2, d3, d4, hlt1]) rfl ⟨rfl, ?_⟩
          exact (hst.of_alloc.five (Nat.le_refl _)).alloc _
        · have hor : (((i : Int) == 1) = true ∧ ((t[0].toNat : Int) == 48) = false) ∨ (((i : Int) == 1) = false) := by
            by_cases e1 : i = 1
            · exact .inl ⟨by rw [e1]; rfl, by rw [beq_eq_false_iff_ne]; exact fun e => hi1 ⟨e1, byte_is 48 e⟩⟩
            · exact .inr (by rw [beq_eq_false_iff_ne]; omega)
          have H1 := Lib.hid hi1
          clear hi1
          by_cases h19 : 19 ≤ i
          · have HR2 : Hid (r = .error 2) := by
              show r = .error 2
              rw [← HE.out, HD.out, intF, if_neg (fun e => e.elim (by rw [HX.out]; simp) H1.out), if_pos]
              have := HA.out.big H1.out (by omega) h19
              omega
            have hb1 : ((i : Int) == 1) = false := by rw [beq_eq_false_iff_ne]; omega
            have hge : decide (19 ≤ (i : Int)) = true := by rw [decide_eq_true_eq]; omega
            clear hor
            · go_wp2_with (go_at_call 54; refine (HQ.out _ (by omega) hb255).mono ?_; rintro e w' ⟨rfl, rfl⟩)
              rw [HR2.out]
              refine bodyPost_ret (v := .tuple #[.agg #[.int .i64 0, .string ⟨#[]⟩, .int .i64 0, .int .i64 0, .int .u64 0], .int .i64 2]) (by simp [results, Try.results55, go_sem, d0, d1, d2, d3, d4, hlt1]) rfl ⟨rfl, ?_⟩
              exact (hst.of_alloc.five (Nat.le_refl _)).alloc _
          · have hge : decide (19 ≤ (i : Int)) = false := by rw [decide_eq_false_iff_not]; omega
            by_cases hbig : (v : Int) ≤ (9223372036854775807 - ((t[i].toNat : Int) - 48)) / 10
            · have HN2 : Hid (intF t[0] (t.data.toList.drop (i + 1)) (i + 1) (v * 10 + (t[i].toNat - 48)) = r ∧ IntAt t[0] (i + 1) (v * 10 + (t[i].toNat - 48)) ∧ v * 10 + (t[i].toNat - 48) ≤ 9223372036854775807 ∧ ((v : Int) * 10 + ((t[i].toNat : Int) - 48) = ((v * 10 + (t[i].toNat - 48) : Nat) : Int))) := by
                refine ⟨?_, ?_, by omega, by omega⟩
                · rw [← HE.out, HD.out, intF, if_neg (fun e => e.elim (by rw [HX.out]; simp) H1.out), if_neg (by omega)]
                · refine HA.out.next (c := t[i]) H1.out (by omega) ?_
                  intro e0
                  subst e0
                  rfl
              have hgt : decide ((9223372036854775807 - ((t[i].toNat : Int) - 48)) / 10 < (v : Int)) = false := by rw [decide_eq_false_iff_not]; omega
              rcases hor with ⟨hb1, hb2⟩ | hb1
              all_goals
                go_wp2_with (go_at_call 54; refine (HQ.out _ (by omega) hb255).mono ?_; rintro e w' ⟨rfl, rfl⟩)
                obtain ⟨hn1, hn2, hn3, hn4⟩ := HN2.out
                rw [hn4]
                go_roundg (gk - 1)
                case rel =>
                  exact ⟨i + 1, v * 10 + (t[i].toNat - 48), by omega, by omega, by omega, by go_num, hn3, by rw [← H00.out]; exact hn2, by rw [← H00.out]; exact hn1, rfl⟩
                case measure => omega
            · have HR2 : Hid (r = .error 2) := by
                show r = .error 2
                rw [← HE.out, HD.out, intF, if_neg (fun e => e.elim (by rw [HX.out]; simp) H1.out), if_pos (by omega)]
              have hgt : decide ((9223372036854775807 - ((t[i].toNat : Int) - 48)) / 10 < (v : Int)) = true := by rw [decide_eq_true_eq]; omega
              rcases hor with ⟨hb1, hb2⟩ | hb1
              all_goals
                go_wp2_with (go_at_call 54; refine (HQ.out _ (by omega) hb255).mono ?_; rintro e w' ⟨rfl, rfl⟩)
                rw [HR2.out]
                refine bodyPost_ret (v := .tuple #[.agg #[.int .i64 0, .string ⟨#[]⟩, .int .i64 0, .int .i64 0, .int .u64 0], .int .i64 2]) (by simp [results, Try.results55, go_sem, d0, d1, d2, d3, d4, hlt1]) rfl ⟨rfl, ?_⟩
                exact (hst.of_alloc.five (Nat.le_refl _)).alloc _
    · have hr0 : Hid (r = .ok v) := by
        show r = .ok v
        rw [← HE.out, List.drop_of_length_le (by rw [← Lib.size_eq]; omega)]; rfl
      go_wp2
      rw [hr0.out]
      refine bodyPost_ret (v := .tuple #[.agg #[.int .i64 3, .string t, .int .i64 0, .int .i64 0, .int .u64 v], .int .i64 0]) (by simp [results, Try.results55, go_sem, d0, d1, d2, d3, d4, hlt1]) rfl ⟨⟨by rw [HT.out]; rfl, ?_⟩, ?_⟩
      · exact (hc.five (by omega)).alloc _
      · exact (hst.of_alloc.five (Nat.le_refl _)).alloc _

end Go.Proofs.Ytfjkkfdpeckccaa
