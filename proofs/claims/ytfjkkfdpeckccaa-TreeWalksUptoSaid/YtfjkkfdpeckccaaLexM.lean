/- Contracts of the reference of layer 1: where a run of letters and digits ends; a number. -/
import Derived.Test.YtfjkkfdpeckccaaLexK
namespace Go.Proofs.Ytfjkkfdpeckccaa
open Go.RowKit

set_option maxHeartbeats 400000 in
theorem end_any (s : ByteArray) (p : Nat) (w : World) (hp : p ≤ s.size) (hs : s.size ≤ 100000) :
    Calls Try.prog 58 #[.string s, .int .i64 p] w fun e w' => e = .returned (.int .i64 ((p + runF (s.data.toList.drop p) : Nat))) ∧ w = w' := by
  go_enter Try.func58, Try.ntmps58
  go_wp2
  go_loopg [1] s.size (fun g v wr => ∃ p' : Nat, v = .int .i64 p' ∧ s.size - p' ≤ g ∧ p' ≤ s.size ∧ p' + runF (s.data.toList.drop p') = p + runF (s.data.toList.drop p) ∧ wr = w)
  case atStart => exact ⟨p, rfl, by omega, hp, rfl, rfl⟩
  case round =>
    obtain ⟨p', rfl, hg, hp', heq, rfl⟩ := hrel
    have HE := Lib.hid heq
    clear heq
    by_cases hlt' : p' < s.size
    · have hdr := Lib.hid (drop_cons s p' hlt')
      have hb255 : ((s[p'].toNat : Int)) ≤ 255 := by have := s[p'].toNat_lt; omega
      cases hL : isLetter (s[p'].toNat : Int)
      · cases hD : isDigit (s[p'].toNat : Int)
        · have hq := refLetter_any (s[p'].toNat : Int)
          have hq2 := refDigit_any (s[p'].toNat : Int)
          rw [hL] at hq
          rw [hD] at hq2
          have HW : Hid (wordy s[p'] = false) := show _ = _ by simp [wordy, isWordy, hL, hD]
          have HQ := Lib.hid hq
          have HQ2 := Lib.hid hq2
          clear hq hq2 hL hD
          go_wp2_with (first | (go_at_call 57; refine (HQ.out _ (by omega) hb255).mono ?_; rintro e w' ⟨rfl, rfl⟩) | (go_at_call 59; refine (HQ2.out _ (by omega) hb255).mono ?_; rintro e w' ⟨rfl, rfl⟩))
          go_ret
          rw [← HE.out, hdr.out, runF_no HW.out]
          exact ⟨rfl, rfl⟩
        · have hq := refLetter_any (s[p'].toNat : Int)
          have hq2 := refDigit_any (s[p'].toNat : Int)
          rw [hL] at hq
          rw [hD] at hq2
          have HW : Hid (wordy s[p'] = true) := show _ = _ by simp [wordy, isWordy, hL, hD]
          have HQ := Lib.hid hq
          have HQ2 := Lib.hid hq2
          clear hq hq2 hL hD
          go_wp2_with (first | (go_at_call 57; refine (HQ.out _ (by omega) hb255).mono ?_; rintro e w' ⟨rfl, rfl⟩) | (go_at_call 59; refine (HQ2.out _ (by omega) hb255).mono ?_; rintro e w' ⟨rfl, rfl⟩))
          go_roundg (gk - 1)
          case rel =>
            refine ⟨p' + 1, by go_num, by omega, by omega, ?_, rfl⟩
            rw [← HE.out, hdr.out, runF_yes HW.out]; omega
          case measure => omega
      · have hq := refLetter_any (s[p'].toNat : Int)
        rw [hL] at hq
        have HW : Hid (wordy s[p'] = true) := show _ = _ by simp [wordy, isWordy, hL]
        have HQ := Lib.hid hq
        clear hq hL
        go_wp2_with (first | (go_at_call 57; refine (HQ.out _ (by omega) hb255).mono ?_; rintro e w' ⟨rfl, rfl⟩))
        go_roundg (gk - 1)
        case rel =>
          refine ⟨p' + 1, by go_num, by omega, by omega, ?_, rfl⟩
          rw [← HE.out, hdr.out, runF_yes HW.out]; omega
        case measure => omega
    · go_wp2
      go_ret
      have : s.data.toList.drop p' = [] := List.drop_of_length_le (by simp; omega)
      rw [← HE.out, this, runF_nil]
      exact ⟨rfl, rfl⟩

/- What the reference's 'number' answers. -/
def RefNum (r : Except Nat (Nat × Nat)) (w : World) (e : Ending) (w' : World) : Prop :=
  (match r with
    | .ok (k, v) => e = .returned (.tuple #[.int .u64 v, .int .i64 k, .int .i64 0])
    | .error c => e = .returned (.tuple #[.int .u64 0, .int .i64 0, .int .i64 c])) ∧ w = w'

set_option maxHeartbeats 1000000 in
theorem refNum_float (t : ByteArray) (w : World) (h18 : t.size = 18) (h2 : t.data.toList.take 2 = [48, 102]) (r : Option Nat) (hr : floatF 0 (t.data.toList.drop 2) = r) :
    Calls Try.prog 60 #[.string t] w (RefNum (floatR r) w) := by
  have h0 : 0 < t.size := by omega
  have h1 : 1 < t.size := by omega
  have g0 : t[0]'h0 = 48 := by rw [get_list t 0 h0]; cases e : t.data.toList with
    | nil => rw [e] at h2; simp at h2
    | cons c l => rw [e] at h2; simp at h2; exact h2.1
  have g1 : t[1]'h1 = 102 := by rw [get_list t 1 h1]; cases e : t.data.toList with
    | nil => rw [e] at h2; simp at h2
    | cons c l => cases l with
      | nil => rw [e] at h2; simp at h2
      | cons d l => rw [e] at h2; simp at h2; exact h2.2
  have b0 : (((t[0]'h0).toNat : Int) == 48) = true := by rw [g0]; rfl
  have b1 : (((t[1]'h1).toNat : Int) == 102) = true := by rw [g1]; rfl
  have bs : ((t.size : Int) == 18) = true := by rw [h18]; rfl
  have HR := Lib.hid hr
  have HS := Lib.hid h18
  have hs1 : 18 ≤ t.size := by omega
  clear g0 g1 h2 hr h18
  go_enter Try.func60, Try.ntmps60
  go_wp2_with fail
  go_loopg [5, 6] 16 (fun g s5 s6 wr => ∃ (i v : Nat), i ≤ 16 ∧ 16 - i ≤ g ∧ s6 = .int .i64 ((2 + i : Nat) : Int) ∧ s5 = .int .u64 v ∧ v < 16 ^ i ∧ floatF v (t.data.toList.drop (2 + i)) = r ∧ wr = w)
  case atStart => exact ⟨0, 0, by omega, by omega, rfl, rfl, by omega, HR.out, rfl⟩
  case round =>
    obtain ⟨i, v, hi, hg, rfl, rfl, hv, heq, rfl⟩ := hrel
    have HE := Lib.hid heq
    clear heq
    by_cases hlt16 : i < 16
    · have hv60 : v < 1152921504606846976 := by
        have := Nat.pow_le_pow_right (show 0 < 16 by omega) (show i ≤ 15 by omega)
        omega
      have hgd := get_list t (2 + i) (by omega)
      have hdr := drop_get t.data.toList (2 + i) (by rw [← Lib.size_eq]; omega)
      rw [← hgd] at hdr
      have hb255 : ((t[2 + i].toNat : Int)) ≤ 255 := by have := t[2 + i].toNat_lt; omega
      have HD := Lib.hid hdr
      clear hdr hgd
      have hq := refDigit_any (t[2 + i].toNat : Int)
      cases hd : isDigit (t[2 + i].toNat : Int)
      · rw [hd] at hq
        have HQ := Lib.hid hq
        clear hq
        by_cases hx : 97 ≤ t[2 + i].toNat ∧ t[2 + i].toNat ≤ 102
        · have hr0 : Hid (floatF (v * 16 + (t[2 + i].toNat - 87)) (t.data.toList.drop (2 + (i + 1))) = r) := by
            show _ = _
            have hxx : hexF t[2 + i] = some (t[2 + i].toNat - 87) := by rw [hexF, if_neg (by rw [hd]; simp), if_pos hx]
            rw [← HE.out, HD.out, floatF, hxx]; rfl
          obtain ⟨hx1, hx2⟩ := hx
          have ha : (97 : Int) ≤ t[2 + i].toNat := by omega
          have hb : (t[2 + i].toNat : Int) ≤ 102 := by omega
          clear hd hx1 hx2
          go_wp2_with (go_at_call 59; refine (HQ.out _ (by omega) hb255).mono ?_; rintro e w' ⟨rfl, rfl⟩)
          go_roundg (gk - 1)
          case rel =>
            refine ⟨i + 1, v * 16 + (t[2 + i].toNat - 87), by omega, by omega, by go_num, by go_num, ?_, hr0.out, rfl⟩
            rw [Nat.pow_succ]; omega
          case measure => omega
        · have hr0 : Hid (r = none) := by
            show _ = _
            have hxx : hexF t[2 + i] = none := by rw [hexF, if_neg (by rw [hd]; simp), if_neg hx]
            rw [← HE.out, HD.out, floatF, hxx]
          clear hd
          by_cases ha : (97 : Int) ≤ t[2 + i].toNat
          · have hb : (102 : Int) < t[2 + i].toNat := by omega
            clear hx
            go_wp2_with (go_at_call 59; refine (HQ.out _ (by omega) hb255).mono ?_; rintro e w' ⟨rfl, rfl⟩)
            rw [hr0.out]
            go_ret3
            exact ⟨rfl, rfl⟩
          · clear hx
            go_wp2_with (go_at_call 59; refine (HQ.out _ (by omega) hb255).mono ?_; rintro e w' ⟨rfl, rfl⟩)
            rw [hr0.out]
            go_ret3
            exact ⟨rfl, rfl⟩
      · have hr0 : Hid (floatF (v * 16 + (t[2 + i].toNat - 48)) (t.data.toList.drop (2 + (i + 1))) = r) := by
          show _ = _
          have hxx : hexF t[2 + i] = some (t[2 + i].toNat - 48) := by rw [hexF, if_pos hd]
          rw [← HE.out, HD.out, floatF, hxx]; rfl
        have h48 : (48 : Int) ≤ t[2 + i].toNat ∧ (t[2 + i].toNat : Int) ≤ 57 := by simpa [isDigit] using hd
        obtain ⟨h48, h57⟩ := h48
        rw [hd] at hq
        have HQ := Lib.hid hq
        clear hq hd
        go_wp2_with (go_at_call 59; refine (HQ.out _ (by omega) hb255).mono ?_; rintro e w' ⟨rfl, rfl⟩)
        go_roundg (gk - 1)
        case rel =>
          refine ⟨i + 1, v * 16 + (t[2 + i].toNat - 48), by omega, by omega, by go_num, by go_num, ?_, hr0.out, rfl⟩
          rw [Nat.pow_succ]; omega
        case measure => omega
    · have hr0 : Hid (r = some v) := by
        show _ = _
        rw [← HE.out, List.drop_of_length_le (by rw [← Lib.size_eq, HS.out]; omega)]; rfl
      go_wp2
      rw [hr0.out]
      go_ret3
      exact ⟨rfl, rfl⟩

end Go.Proofs.Ytfjkkfdpeckccaa
