/- Contracts of the reference of layer 1: a whole number; a number. -/
import Derived.Test.YtfjkkfdpeckccaaLexM
namespace Go.Proofs.Ytfjkkfdpeckccaa
open Go.RowKit

set_option maxHeartbeats 1000000 in
theorem refNum_a (t : ByteArray) (w : World) (hsz : t.size ≤ 100000) (h18 : t.size ≠ 18) (r : Except Nat Nat) (hr : intF (t.data.toList.headD 0) t.data.toList 0 0 = r) :
    Calls Try.prog 60 #[.string t] w (RefNum (intR r) w) := by
  have bs : ((t.size : Int) == 18) = false := by rw [beq_eq_false_iff_ne]; omega
  have g0q := h18
  clear h18
  clear g0q
  have HR := Lib.hid hr
  have hs1 : t.size ≤ 100000 := hsz
  clear hr hsz
  go_enter Try.func60, Try.ntmps60
  go_wp2_with fail
  go_loopg [8, 9] t.size (fun g s8 s9 wr => ∃ (i v : Nat), i ≤ t.size ∧ t.size - i ≤ g ∧ s9 = .int .i64 i ∧ s8 = .int .u64 v ∧ v ≤ 9223372036854775807 ∧ intF (t.data.toList.headD 0) (t.data.toList.drop i) i v = r ∧ wr = w)
  case atStart => exact ⟨0, 0, by omega, by omega, rfl, rfl, by omega, HR.out, rfl⟩
  case round =>
    obtain ⟨i, v, hi, hg, rfl, rfl, hv, heq, rfl⟩ := hrel
    have HE := Lib.hid heq
    clear heq
    by_cases hlti : i < t.size
    · have hgd := get_list t i hlti
      have hdr := drop_get t.data.toList i (by rw [← Lib.size_eq]; omega)
      rw [← hgd] at hdr
      have hb255 : ((t[i].toNat : Int)) ≤ 255 := by have := t[i].toNat_lt; omega
      have hlt0 : 0 < t.size := by omega
      have h00 : t[0] = t.data.toList.headD 0 := by rw [get_list t 0 hlt0]; cases t.data.toList <;> rfl
      rw [← h00] at HE
      have HD := Lib.hid hdr
      have H00 := Lib.hid h00
      clear hdr hgd h00
      have hq := refDigit_any (t[i].toNat : Int)
      cases hd : isDigit (t[i].toNat : Int)
      · rw [hd] at hq
        have HQ := Lib.hid hq
        have hr0 : Hid (r = .error 1) := by
          show _ = _
          rw [← HE.out, HD.out, intF, if_pos (.inl hd)]
        clear hq hd
        go_wp2_with (go_at_call 59; refine (HQ.out _ (by omega) hb255).mono ?_; rintro e w' ⟨rfl, rfl⟩)
        rw [hr0.out]
        go_ret3
        exact ⟨rfl, rfl⟩
      · rw [hd] at hq
        have HQ := Lib.hid hq
        have h48 : (48 : Int) ≤ t[i].toNat ∧ (t[i].toNat : Int) ≤ 57 := by simpa [isDigit] using hd
        obtain ⟨h48, h57⟩ := h48
        have HX := Lib.hid hd
        clear hq hd
        by_cases hi1 : i = 1 ∧ t[0] = 48
        · have hb1 : ((i : Int) == 1) = true := by rw [hi1.1]; rfl
          have hb2 : ((t[0].toNat : Int) == 48) = true := by rw [hi1.2]; rfl
          have hr0 : Hid (r = .error 1) := by
            show _ = _
            rw [← HE.out, HD.out, intF, if_pos (.inr hi1)]
          clear hi1
          go_wp2_with (go_at_call 59; refine (HQ.out _ (by omega) hb255).mono ?_; rintro e w' ⟨rfl, rfl⟩)
          rw [hr0.out]
          go_ret3
          exact ⟨rfl, rfl⟩
        · have hor : (((i : Int) == 1) = true ∧ ((t[0].toNat : Int) == 48) = false) ∨ (((i : Int) == 1) = false) := by
            by_cases e1 : i = 1
            · exact .inl ⟨by rw [e1]; rfl, by rw [beq_eq_false_iff_ne]; exact fun e => hi1 ⟨e1, byte_is 48 e⟩⟩
            · exact .inr (by rw [beq_eq_false_iff_ne]; omega)
          have H1 := Lib.hid hi1
          clear hi1
          by_cases hb92 : 922337203685477580 < v
          · have hr0 : Hid (r = .error 2) := by
              show r = .error 2
              rw [← HE.out, HD.out, intF, if_neg (fun e => e.elim (by rw [HX.out]; simp) H1.out), if_pos (by omega)]
            have hgt : decide ((922337203685477580 : Int) < (v : Int)) = true := by rw [decide_eq_true_eq]; omega
            rcases hor with ⟨hb1, hb2⟩ | hb1
            all_goals
              go_wp2_with (go_at_call 59; refine (HQ.out _ (by omega) hb255).mono ?_; rintro e w' ⟨rfl, rfl⟩)
              rw [hr0.out]
              go_ret3
              exact ⟨rfl, rfl⟩
          · have hgt : decide ((922337203685477580 : Int) < (v : Int)) = false := by rw [decide_eq_false_iff_not]; omega
            by_cases hbig : 9223372036854775807 < v * 10 + (t[i].toNat - 48)
            · have hr0 : Hid (r = .error 2) := by
                show r = .error 2
                rw [← HE.out, HD.out, intF, if_neg (fun e => e.elim (by rw [HX.out]; simp) H1.out), if_pos (by omega)]
              have hgu : decide ((9223372036854775807 - ((t[i].toNat : Int) - 48)) < (v : Int) * 10) = true := by rw [decide_eq_true_eq]; omega
              rcases hor with ⟨hb1, hb2⟩ | hb1
              all_goals
                go_wp2_with (go_at_call 59; refine (HQ.out _ (by omega) hb255).mono ?_; rintro e w' ⟨rfl, rfl⟩)
                rw [hr0.out]
                go_ret3
                exact ⟨rfl, rfl⟩
            · have hr0 : Hid (intF t[0] (t.data.toList.drop (i + 1)) (i + 1) (v * 10 + (t[i].toNat - 48)) = r) := by
                show _ = _
                rw [← HE.out, HD.out, intF, if_neg (fun e => e.elim (by rw [HX.out]; simp) H1.out), if_neg (by omega)]
              have hgu : decide ((9223372036854775807 - ((t[i].toNat : Int) - 48)) < (v : Int) * 10) = false := by rw [decide_eq_false_iff_not]; omega
              rcases hor with ⟨hb1, hb2⟩ | hb1
              all_goals
                go_wp2_with (go_at_call 59; refine (HQ.out _ (by omega) hb255).mono ?_; rintro e w' ⟨rfl, rfl⟩)
                go_roundg (gk - 1)
                case rel =>
                  exact ⟨i + 1, v * 10 + (t[i].toNat - 48), by omega, by omega, by go_num, by go_num, by omega, by rw [← H00.out]; exact hr0.out, rfl⟩
                case measure => omega
    · have hr0 : Hid (r = .ok v) := by
        show r = .ok v
        rw [← HE.out, List.drop_of_length_le (by rw [← Lib.size_eq]; omega)]; rfl
      go_wp2
      rw [hr0.out]
      go_ret3
      exact ⟨rfl, rfl⟩

set_option maxHeartbeats 1000000 in
theorem refNum_b (t : ByteArray) (w : World) (hsz : t.size ≤ 100000) (h18 : t.size = 18) (h0 : 0 < t.size) (hc : t[0] ≠ 48) (r : Except Nat Nat) (hr : intF (t.data.toList.headD 0) t.data.toList 0 0 = r) :
    Calls Try.prog 60 #[.string t] w (RefNum (intR r) w) := by
  have bs : ((t.size : Int) == 18) = true := by rw [beq_iff_eq]; omega
  have b0 : ((t[0].toNat : Int) == 48) = false := by rw [beq_eq_false_iff_ne]; exact fun e => hc (byte_is 48 e)
  have g0q := h18
  have HC := Lib.hid hc
  clear h18 hc
  clear g0q
  have HR := Lib.hid hr
  have hs1 : t.size ≤ 100000 := hsz
  clear hr hsz
  go_enter Try.func60, Try.ntmps60
  go_wp2_with fail
  go_loopg [8, 9] t.size (fun g s8 s9 wr => ∃ (i v : Nat), i ≤ t.size ∧ t.size - i ≤ g ∧ s9 = .int .i64 i ∧ s8 = .int .u64 v ∧ v ≤ 9223372036854775807 ∧ intF (t.data.toList.headD 0) (t.data.toList.drop i) i v = r ∧ wr = w)
  case atStart => exact ⟨0, 0, by omega, by omega, rfl, rfl, by omega, HR.out, rfl⟩
  case round =>
    obtain ⟨i, v, hi, hg, rfl, rfl, hv, heq, rfl⟩ := hrel
    have HE := Lib.hid heq
    clear heq
    by_cases hlti : i < t.size
    · have hgd := get_list t i hlti
      have hdr := drop_get t.data.toList i (by rw [← Lib.size_eq]; omega)
      rw [← hgd] at hdr
      have hb255 : ((t[i].toNat : Int)) ≤ 255 := by have := t[i].toNat_lt; omega
      have hlt0 : 0 < t.size := by omega
      have h00 : t[0] = t.data.toList.headD 0 := by rw [get_list t 0 hlt0]; cases t.data.toList <;> rfl
      rw [← h00] at HE
      have HD := Lib.hid hdr
      have H00 := Lib.hid h00
      clear hdr hgd h00
      have hq := refDigit_any (t[i].toNat : Int)
      cases hd : isDigit (t[i].toNat : Int)
      · rw [hd] at hq
        have HQ := Lib.hid hq
        have hr0 : Hid (r = .error 1) := by
          show _ = _
          rw [← HE.out, HD.out, intF, if_pos (.inl hd)]
        clear hq hd
        go_wp2_with (go_at_call 59; refine (HQ.out _ (by omega) hb255).mono ?_; rintro e w' ⟨rfl, rfl⟩)
        rw [hr0.out]
        go_ret3
        exact ⟨rfl, rfl⟩
      · rw [hd] at hq
        have HQ := Lib.hid hq
        have h48 : (48 : Int) ≤ t[i].toNat ∧ (t[i].toNat : Int) ≤ 57 := by simpa [isDigit] using hd
        obtain ⟨h48, h57⟩ := h48
        have HX := Lib.hid hd
        clear hq hd
        by_cases hi1 : i = 1 ∧ t[0] = 48
        · exact absurd hi1.2 HC.out
        · have hor : (((i : Int) == 1) = true ∧ ((t[0].toNat : Int) == 48) = false) ∨ (((i : Int) == 1) = false) := by
            by_cases e1 : i = 1
            · exact .inl ⟨by rw [e1]; rfl, by rw [beq_eq_false_iff_ne]; exact fun e => hi1 ⟨e1, byte_is 48 e⟩⟩
            · exact .inr (by rw [beq_eq_false_iff_ne]; omega)
          have H1 := Lib.hid hi1
          clear hi1
          by_cases hb92 : 922337203685477580 < v
          · have hr0 : Hid (r = .error 2) := by
              show r = .error 2
              rw [← HE.out, HD.out, intF, if_neg (fun e => e.elim (by rw [HX.out]; simp) H1.out), if_pos (by omega)]
            have hgt : decide ((922337203685477580 : Int) < (v : Int)) = true := by rw [decide_eq_true_eq]; omega
            rcases hor with ⟨hb1, hb2⟩ | hb1
            all_goals
              go_wp2_with (go_at_call 59; refine (HQ.out _ (by omega) hb255).mono ?_; rintro e w' ⟨rfl, rfl⟩)
              rw [hr0.out]
              go_ret3
              exact ⟨rfl, rfl⟩
          · have hgt : decide ((922337203685477580 : Int) < (v : Int)) = false := by rw [decide_eq_false_iff_not]; omega
            by_cases hbig : 9223372036854775807 < v * 10 + (t[i].toNat - 48)
            · have hr0 : Hid (r = .error 2) := by
                show r = .error 2
                rw [← HE.out, HD.out, intF, if_neg (fun e => e.elim (by rw [HX.out]; simp) H1.out), if_pos (by omega)]
              have hgu : decide ((9223372036854775807 - ((t[i].toNat : Int) - 48)) < (v : Int) * 10) = true := by rw [decide_eq_true_eq]; omega
              rcases hor with ⟨hb1, hb2⟩ | hb1
              all_goals
                go_wp2_with (go_at_call 59; refine (HQ.out _ (by omega) hb255).mono ?_; rintro e w' ⟨rfl, rfl⟩)
                rw [hr0.out]
                go_ret3
                exact ⟨rfl, rfl⟩
            · have hr0 : Hid (intF t[0] (t.data.toList.drop (i + 1)) (i + 1) (v * 10 + (t[i].toNat - 48)) = r) := by
                show _ = _
                rw [← HE.out, HD.out, intF, if_neg (fun e => e.elim (by rw [HX.out]; simp) H1.out), if_neg (by omega)]
              have hgu : decide ((9223372036854775807 - ((t[i].toNat : Int) - 48)) < (v : Int) * 10) = false := by rw [decide_eq_false_iff_not]; omega
              rcases hor with ⟨hb1, hb2⟩ | hb1
              all_goals
                go_wp2_with (go_at_call 59; refine (HQ.out _ (by omega) hb255).mono ?_; rintro e w' ⟨rfl, rfl⟩)
                go_roundg (gk - 1)
                case rel =>
                  exact ⟨i + 1, v * 10 + (t[i].toNat - 48), by omega, by omega, by go_num, by go_num, by omega, by rw [← H00.out]; exact hr0.out, rfl⟩
                case measure => omega
    · have hr0 : Hid (r = .ok v) := by
        show r = .ok v
        rw [← HE.out, List.drop_of_length_le (by rw [← Lib.size_eq]; omega)]; rfl
      go_wp2
      rw [hr0.out]
      go_ret3
      exact ⟨rfl, rfl⟩

set_option maxHeartbeats 1000000 in
theorem refNum_c (t : ByteArray) (w : World) (hsz : t.size ≤ 100000) (h18 : t.size = 18) (h0 : 0 < t.size) (h1 : 1 < t.size) (hc : t[0] = 48) (hd : t[1] ≠ 102) (r : Except Nat Nat) (hr : intF (t.data.toList.headD 0) t.data.toList 0 0 = r) :
    Calls Try.prog 60 #[.string t] w (RefNum (intR r) w) := by
  have bs : ((t.size : Int) == 18) = true := by rw [beq_iff_eq]; omega
  have b0 : ((t[0].toNat : Int) == 48) = true := by rw [hc]; rfl
  have b1 : ((t[1].toNat : Int) == 102) = false := by rw [beq_eq_false_iff_ne]; exact fun e => hd (byte_is 102 e)
  have g0q := h18
  have HC := Lib.hid hc
  clear h18 hc hd
  clear g0q
  have HR := Lib.hid hr
  have hs1 : t.size ≤ 100000 := hsz
  clear hr hsz
  go_enter Try.func60, Try.ntmps60
  go_wp2_with fail
  go_loopg [8, 9] t.size (fun g s8 s9 wr => ∃ (i v : Nat), i ≤ t.size ∧ t.size - i ≤ g ∧ s9 = .int .i64 i ∧ s8 = .int .u64 v ∧ v ≤ 9223372036854775807 ∧ intF (t.data.toList.headD 0) (t.data.toList.drop i) i v = r ∧ wr = w)
  case atStart => exact ⟨0, 0, by omega, by omega, rfl, rfl, by omega, HR.out, rfl⟩
  case round =>
    obtain ⟨i, v, hi, hg, rfl, rfl, hv, heq, rfl⟩ := hrel
    have HE := Lib.hid heq
    clear heq
    by_cases hlti : i < t.size
    · have hgd := get_list t i hlti
      have hdr := drop_get t.data.toList i (by rw [← Lib.size_eq]; omega)
      rw [← hgd] at hdr
      have hb255 : ((t[i].toNat : Int)) ≤ 255 := by have := t[i].toNat_lt; omega
      have hlt0 : 0 < t.size := by omega
      have h00 : t[0] = t.data.toList.headD 0 := by rw [get_list t 0 hlt0]; cases t.data.toList <;> rfl
      rw [← h00] at HE
      have HD := Lib.hid hdr
      have H00 := Lib.hid h00
      clear hdr hgd h00
      have hq := refDigit_any (t[i].toNat : Int)
      cases hd : isDigit (t[i].toNat : Int)
      · rw [hd] at hq
        have HQ := Lib.hid hq
        have hr0 : Hid (r = .error 1) := by
          show _ = _
          rw [← HE.out, HD.out, intF, if_pos (.inl hd)]
        clear hq hd
        go_wp2_with (go_at_call 59; refine (HQ.out _ (by omega) hb255).mono ?_; rintro e w' ⟨rfl, rfl⟩)
        rw [hr0.out]
        go_ret3
        exact ⟨rfl, rfl⟩
      · rw [hd] at hq
        have HQ := Lib.hid hq
        have h48 : (48 : Int) ≤ t[i].toNat ∧ (t[i].toNat : Int) ≤ 57 := by simpa [isDigit] using hd
        obtain ⟨h48, h57⟩ := h48
        have HX := Lib.hid hd
        clear hq hd
        by_cases hi1 : i = 1 ∧ t[0] = 48
        · have hb1 : ((i : Int) == 1) = true := by rw [hi1.1]; rfl
          skip
          have hr0 : Hid (r = .error 1) := by
            show _ = _
            rw [← HE.out, HD.out, intF, if_pos (.inr hi1)]
          clear hi1
          go_wp2_with (go_at_call 59; refine (HQ.out _ (by omega) hb255).mono ?_; rintro e w' ⟨rfl, rfl⟩)
          rw [hr0.out]
          go_ret3
          exact ⟨rfl, rfl⟩
        · have hor : False ∨ (((i : Int) == 1) = false) := by
            by_cases e1 : i = 1
            · exact absurd ⟨e1, HC.out⟩ hi1
            · exact .inr (by rw [beq_eq_false_iff_ne]; omega)
          have H1 := Lib.hid hi1
          clear hi1
          by_cases hb92 : 922337203685477580 < v
          · have hr0 : Hid (r = .error 2) := by
              show r = .error 2
              rw [← HE.out, HD.out, intF, if_neg (fun e => e.elim (by rw [HX.out]; simp) H1.out), if_pos (by omega)]
            have hgt : decide ((922337203685477580 : Int) < (v : Int)) = true := by rw [decide_eq_true_eq]; omega
            replace hor := hor.resolve_left id
            have hb1 := hor
            all_goals
              go_wp2_with (go_at_call 59; refine (HQ.out _ (by omega) hb255).mono ?_; rintro e w' ⟨rfl, rfl⟩)
              rw [hr0.out]
              go_ret3
              exact ⟨rfl, rfl⟩
          · have hgt : decide ((922337203685477580 : Int) < (v : Int)) = false := by rw [decide_eq_false_iff_not]; omega
            by_cases hbig : 9223372036854775807 < v * 10 + (t[i].toNat - 48)
            · have hr0 : Hid (r = .error 2) := by
                show r = .error 2
                rw [← HE.out, HD.out, intF, if_neg (fun e => e.elim (by rw [HX.out]; simp) H1.out), if_pos (by omega)]
              have hgu : decide ((9223372036854775807 - ((t[i].toNat : Int) - 48)) < (v : Int) * 10) = true := by rw [decide_eq_true_eq]; omega
              replace hor := hor.resolve_left id
              have hb1 := hor
              all_goals
                go_wp2_with (go_at_call 59; refine (HQ.out _ (by omega) hb255).mono ?_; rintro e w' ⟨rfl, rfl⟩)
                rw [hr0.out]
                go_ret3
                exact ⟨rfl, rfl⟩
            · have hr0 : Hid (intF t[0] (t.data.toList.drop (i + 1)) (i + 1) (v * 10 + (t[i].toNat - 48)) = r) := by
                show _ = _
                rw [← HE.out, HD.out, intF, if_neg (fun e => e.elim (by rw [HX.out]; simp) H1.out), if_neg (by omega)]
              have hgu : decide ((9223372036854775807 - ((t[i].toNat : Int) - 48)) < (v : Int) * 10) = false := by rw [decide_eq_false_iff_not]; omega
              replace hor := hor.resolve_left id
              have hb1 := hor
              all_goals
                go_wp2_with (go_at_call 59; refine (HQ.out _ (by omega) hb255).mono ?_; rintro e w' ⟨rfl, rfl⟩)
                go_roundg (gk - 1)
                case rel =>
                  exact ⟨i + 1, v * 10 + (t[i].toNat - 48), by omega, by omega, by go_num, by go_num, by omega, by rw [← H00.out]; exact hr0.out, rfl⟩
                case measure => omega
    · have hr0 : Hid (r = .ok v) := by
        show r = .ok v
        rw [← HE.out, List.drop_of_length_le (by rw [← Lib.size_eq]; omega)]; rfl
      go_wp2
      rw [hr0.out]
      go_ret3
      exact ⟨rfl, rfl⟩

theorem refNum_any (t : ByteArray) (w : World) (hsz : t.size ≤ 100000) :
    Calls Try.prog 60 #[.string t] w (RefNum ((numF t.data.toList).map fun x => (x.1, x.2.2)) w) := by
  have hl := Lib.size_eq t
  unfold numF
  by_cases h18 : t.size = 18
  · have h0 : 0 < t.size := by omega
    have h1 : 1 < t.size := by omega
    by_cases h2 : t.data.toList.take 2 = [48, 102]
    · rw [if_pos ⟨show t.data.toList.length = 18 by omega, h2⟩]
      refine (refNum_float t w h18 h2 _ rfl).mono fun e w' q => ?_
      cases hf : floatF 0 (t.data.toList.drop 2)
      · rw [hf] at q; exact q
      · rw [hf] at q; exact q
    · rw [if_neg (fun e => h2 e.2)]
      have hh : ∃ c d l, t.data.toList = c :: d :: l ∧ t[0] = c ∧ t[1] = d := by
        cases e : t.data.toList with
        | nil => rw [e] at hl; exact absurd (show t.size = 0 from hl) (by omega)
        | cons c l => cases l with
          | nil => rw [e] at hl; exact absurd (show t.size = 1 from hl) (by omega)
          | cons d l => exact ⟨c, d, l, rfl, by rw [get_list t 0 h0, e]; rfl, by rw [get_list t 1 h1, e]; rfl⟩
      obtain ⟨c, d, l, hcd, hc, hd⟩ := hh
      have key : Calls Try.prog 60 #[.string t] w (RefNum (intR (intF (t.data.toList.headD 0) t.data.toList 0 0)) w) := by
        by_cases hc48 : t[0] = 48
        · refine refNum_c t w hsz h18 h0 h1 hc48 (fun e => h2 ?_) _ rfl
          rw [hcd, ← hc, ← hd, hc48, e]; rfl
        · exact refNum_b t w hsz h18 h0 hc48 _ rfl
      refine key.mono fun e w' q => ?_
      cases hf : intF (t.data.toList.headD 0) t.data.toList 0 0
      · rw [hf] at q; exact q
      · rw [hf] at q; exact q
  · rw [if_neg (fun e => h18 (by have := e.1; omega))]
    refine (refNum_a t w hsz h18 _ rfl).mono fun e w' q => ?_
    cases hf : intF (t.data.toList.headD 0) t.data.toList 0 0
    · rw [hf] at q; exact q
    · rw [hf] at q; exact q

end Go.Proofs.Ytfjkkfdpeckccaa
