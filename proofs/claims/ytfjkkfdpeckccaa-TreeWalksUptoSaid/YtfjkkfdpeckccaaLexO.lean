/- Contracts of the reference of layer 1: the marks; one token. -/
import Derived.Test.YtfjkkfdpeckccaaLexN
namespace Go.Proofs.Ytfjkkfdpeckccaa
open Go.RowKit

/- What the reference's 'one' answers. -/
def OnePost (s : ByteArray) (p : Nat) (w : World) (r : Except Nat (Nat × Nat × Nat)) (e : Ending) (w' : World) : Prop :=
  (match r with
    | .ok (k, n, v) => e = .returned (.tuple #[.agg #[.int .i64 k, .string (s.extract p (p + n)), .int .i64 0, .int .i64 0, .int .u64 v], .int .i64 ((p + n : Nat) : Int), .int .i64 0])
    | .error c => e = .returned (.tuple #[.agg #[.int .i64 0, .string ⟨#[]⟩, .int .i64 0, .int .i64 0, .int .u64 0], .int .i64 0, .int .i64 c])) ∧ Step (fun _ => False) w w'

set_option maxRecDepth 100000 in
set_option maxHeartbeats 400000 in
theorem one_name (s : ByteArray) (p : Nat) (w : World) (hp : p < s.size) (hs : s.size ≤ 100000) (N : Nat) (hN : runF (s.data.toList.drop p) = N) (hL : isLetter (s[p].toNat : Int) = true) (hn : N ≤ 24) :
    Calls Try.prog 44 #[.string s, .int .i64 p] w (OnePost s p w (.ok (1, N, 0))) := by
  have hb255 : ((s[p].toNat : Int)) ≤ 255 := by have := s[p].toNat_lt; omega
  have hq := refLetter_any (s[p].toNat : Int)
  rw [hL] at hq
  have HQ := Lib.hid hq
  clear hq hL
  have hrl : p + N ≤ s.size := by have := runF_le (s.data.toList.drop p); simp at this; omega
  have HN := Lib.hid hN
  clear hN
  go_enter Try.func44, Try.ntmps44
  go_wp2_with (first | (go_at_call 57; refine (HQ.out _ (by omega) hb255).mono ?_; rintro e w' ⟨rfl, rfl⟩) | (go_at_call 58; refine (end_any s p _ (by omega) hs).mono ?_; rintro e w' ⟨rfl, rfl⟩; rw [HN.out]))
  refine bodyPost_ret (v := .tuple #[.agg #[.int .i64 1, .string (s.extract p (p + N)), .int .i64 0, .int .i64 0, .int .u64 0], .int .i64 ((p + N : Nat) : Int), .int .i64 0]) (by simp [results, Try.results44, go_sem]) rfl ⟨rfl, ?_⟩
  exact (Step.refl _ w).alloc _

set_option maxRecDepth 100000 in
set_option maxHeartbeats 400000 in
theorem one_nameLong (s : ByteArray) (p : Nat) (w : World) (hp : p < s.size) (hs : s.size ≤ 100000) (N : Nat) (hN : runF (s.data.toList.drop p) = N) (hL : isLetter (s[p].toNat : Int) = true) (hn : 24 < N) :
    Calls Try.prog 44 #[.string s, .int .i64 p] w (OnePost s p w (.error 2)) := by
  have hb255 : ((s[p].toNat : Int)) ≤ 255 := by have := s[p].toNat_lt; omega
  have hq := refLetter_any (s[p].toNat : Int)
  rw [hL] at hq
  have HQ := Lib.hid hq
  clear hq hL
  have hrl : p + N ≤ s.size := by have := runF_le (s.data.toList.drop p); simp at this; omega
  have HN := Lib.hid hN
  clear hN
  go_enter Try.func44, Try.ntmps44
  go_wp2_with (first | (go_at_call 57; refine (HQ.out _ (by omega) hb255).mono ?_; rintro e w' ⟨rfl, rfl⟩) | (go_at_call 58; refine (end_any s p _ (by omega) hs).mono ?_; rintro e w' ⟨rfl, rfl⟩; rw [HN.out]))
  refine bodyPost_ret (v := .tuple #[.agg #[.int .i64 0, .string ⟨#[]⟩, .int .i64 0, .int .i64 0, .int .u64 0], .int .i64 0, .int .i64 2]) (by simp [results, Try.results44, go_sem]) rfl ⟨rfl, ?_⟩
  exact (Step.refl _ w).alloc _

theorem endS_any (s : ByteArray) (p : Nat) (w : World) (hp : p + 1 ≤ s.size) (hs : s.size ≤ 100000) :
    Calls Try.prog 58 #[.string s, .int .i64 ((p : Int) + 1)] w fun e w' => e = .returned (.int .i64 ((p + 1 + runF (s.data.toList.drop (p + 1)) : Nat))) ∧ w = w' :=
  end_any s (p + 1) w hp hs

set_option maxRecDepth 100000 in
set_option maxHeartbeats 400000 in
theorem one_lifeNone (s : ByteArray) (p : Nat) (w : World) (hp : p < s.size) (hs : s.size ≤ 100000) (N : Nat) (hN : runF (s.data.toList.drop (p + 1)) = N) (hL : isLetter (s[p].toNat : Int) = false) (hc : s[p] = 39) (hn : N = 0) :
    Calls Try.prog 44 #[.string s, .int .i64 p] w (OnePost s p w (.error 1)) := by
  have hb255 : ((s[p].toNat : Int)) ≤ 255 := by have := s[p].toNat_lt; omega
  have hq := refLetter_any (s[p].toNat : Int)
  rw [hL] at hq
  have HQ := Lib.hid hq
  clear hq hL
  have hrl : p + 1 + N ≤ s.size := by have := runF_le (s.data.toList.drop (p + 1)); simp at this; omega
  have HN := Lib.hid hN
  have hb39 : ((s[p].toNat : Int) == 39) = true := by rw [hc]; rfl
  clear hN hc
  have HZ := Lib.hid hn
  clear hn
  go_enter Try.func44, Try.ntmps44
  go_wp2_with (first | (go_at_call 57; refine (HQ.out _ (by omega) hb255).mono ?_; rintro e w' ⟨rfl, rfl⟩) | (go_at_call 58; refine (endS_any s p _ (by omega) hs).mono ?_; rintro e w' ⟨rfl, rfl⟩; rw [HN.out, HZ.out]))
  refine bodyPost_ret (v := .tuple #[.agg #[.int .i64 0, .string ⟨#[]⟩, .int .i64 0, .int .i64 0, .int .u64 0], .int .i64 0, .int .i64 1]) (by simp [results, Try.results44, go_sem]) rfl ⟨rfl, ?_⟩
  exact (Step.refl _ w).alloc _

set_option maxRecDepth 100000 in
set_option maxHeartbeats 400000 in
theorem one_lifeLow (s : ByteArray) (p : Nat) (w : World) (hp : p < s.size) (hs : s.size ≤ 100000) (N : Nat) (hN : runF (s.data.toList.drop (p + 1)) = N) (hL : isLetter (s[p].toNat : Int) = false) (hc : s[p] = 39) (hn : 0 < N) (hlt1 : p + 1 < s.size) (hsm : s[p + 1].toNat < 97) :
    Calls Try.prog 44 #[.string s, .int .i64 p] w (OnePost s p w (.error 1)) := by
  have hb255 : ((s[p].toNat : Int)) ≤ 255 := by have := s[p].toNat_lt; omega
  have hq := refLetter_any (s[p].toNat : Int)
  rw [hL] at hq
  have HQ := Lib.hid hq
  clear hq hL
  have hrl : p + 1 + N ≤ s.size := by have := runF_le (s.data.toList.drop (p + 1)); simp at this; omega
  have HN := Lib.hid hN
  have hb39 : ((s[p].toNat : Int) == 39) = true := by rw [hc]; rfl
  clear hN hc
  have hl97 : (s[p + 1].toNat : Int) < 97 := by omega
  go_enter Try.func44, Try.ntmps44
  go_wp2_with (first | (go_at_call 57; refine (HQ.out _ (by omega) hb255).mono ?_; rintro e w' ⟨rfl, rfl⟩) | (go_at_call 58; refine (endS_any s p _ (by omega) hs).mono ?_; rintro e w' ⟨rfl, rfl⟩; rw [HN.out]))
  refine bodyPost_ret (v := .tuple #[.agg #[.int .i64 0, .string ⟨#[]⟩, .int .i64 0, .int .i64 0, .int .u64 0], .int .i64 0, .int .i64 1]) (by simp [results, Try.results44, go_sem]) rfl ⟨rfl, ?_⟩
  exact (Step.refl _ w).alloc _

set_option maxRecDepth 100000 in
set_option maxHeartbeats 400000 in
theorem one_lifeHigh (s : ByteArray) (p : Nat) (w : World) (hp : p < s.size) (hs : s.size ≤ 100000) (N : Nat) (hN : runF (s.data.toList.drop (p + 1)) = N) (hL : isLetter (s[p].toNat : Int) = false) (hc : s[p] = 39) (hn : 0 < N) (hlt1 : p + 1 < s.size) (hsm : 122 < s[p + 1].toNat) :
    Calls Try.prog 44 #[.string s, .int .i64 p] w (OnePost s p w (.error 1)) := by
  have hb255 : ((s[p].toNat : Int)) ≤ 255 := by have := s[p].toNat_lt; omega
  have hq := refLetter_any (s[p].toNat : Int)
  rw [hL] at hq
  have HQ := Lib.hid hq
  clear hq hL
  have hrl : p + 1 + N ≤ s.size := by have := runF_le (s.data.toList.drop (p + 1)); simp at this; omega
  have HN := Lib.hid hN
  have hb39 : ((s[p].toNat : Int) == 39) = true := by rw [hc]; rfl
  clear hN hc
  have hl97 : (122 : Int) < s[p + 1].toNat := by omega
  go_enter Try.func44, Try.ntmps44
  go_wp2_with (first | (go_at_call 57; refine (HQ.out _ (by omega) hb255).mono ?_; rintro e w' ⟨rfl, rfl⟩) | (go_at_call 58; refine (endS_any s p _ (by omega) hs).mono ?_; rintro e w' ⟨rfl, rfl⟩; rw [HN.out]))
  refine bodyPost_ret (v := .tuple #[.agg #[.int .i64 0, .string ⟨#[]⟩, .int .i64 0, .int .i64 0, .int .u64 0], .int .i64 0, .int .i64 1]) (by simp [results, Try.results44, go_sem]) rfl ⟨rfl, ?_⟩
  exact (Step.refl _ w).alloc _

set_option maxRecDepth 100000 in
set_option maxHeartbeats 400000 in
theorem one_lifeLong (s : ByteArray) (p : Nat) (w : World) (hp : p < s.size) (hs : s.size ≤ 100000) (N : Nat) (hN : runF (s.data.toList.drop (p + 1)) = N) (hL : isLetter (s[p].toNat : Int) = false) (hc : s[p] = 39) (_hn : 0 < N) (hlt1 : p + 1 < s.size) (hsm : 97 ≤ s[p + 1].toNat) (hsm2 : s[p + 1].toNat ≤ 122) (hlong : 24 < N) :
    Calls Try.prog 44 #[.string s, .int .i64 p] w (OnePost s p w (.error 2)) := by
  have hb255 : ((s[p].toNat : Int)) ≤ 255 := by have := s[p].toNat_lt; omega
  have hq := refLetter_any (s[p].toNat : Int)
  rw [hL] at hq
  have HQ := Lib.hid hq
  clear hq hL
  have hrl : p + 1 + N ≤ s.size := by have := runF_le (s.data.toList.drop (p + 1)); simp at this; omega
  have HN := Lib.hid hN
  have hb39 : ((s[p].toNat : Int) == 39) = true := by rw [hc]; rfl
  clear hN hc
  have hl97 : (97 : Int) ≤ s[p + 1].toNat := by omega
  have hd97 : decide ((s[p + 1].toNat : Int) < 97) = false := by rw [decide_eq_false_iff_not]; omega
  have hd122 : decide ((122 : Int) < s[p + 1].toNat) = false := by rw [decide_eq_false_iff_not]; omega
  have hne1 : (((p : Int) + 1 + N) == (p : Int) + 1) = false := by rw [beq_eq_false_iff_ne]; omega
  clear hl97 hsm hsm2
  go_enter Try.func44, Try.ntmps44
  go_wp2_with (first | (go_at_call 57; refine (HQ.out _ (by omega) hb255).mono ?_; rintro e w' ⟨rfl, rfl⟩) | (go_at_call 58; refine (endS_any s p _ (by omega) hs).mono ?_; rintro e w' ⟨rfl, rfl⟩; rw [HN.out]))
  refine bodyPost_ret (v := .tuple #[.agg #[.int .i64 0, .string ⟨#[]⟩, .int .i64 0, .int .i64 0, .int .u64 0], .int .i64 0, .int .i64 2]) (by simp [results, Try.results44, go_sem]) rfl ⟨rfl, ?_⟩
  exact (Step.refl _ w).alloc _

set_option maxRecDepth 100000 in
set_option maxHeartbeats 400000 in
theorem one_life (s : ByteArray) (p : Nat) (w : World) (hp : p < s.size) (hs : s.size ≤ 100000) (N : Nat) (hN : runF (s.data.toList.drop (p + 1)) = N) (hL : isLetter (s[p].toNat : Int) = false) (hc : s[p] = 39) (hn : 0 < N) (hlt1 : p + 1 < s.size) (hsm : 97 ≤ s[p + 1].toNat) (hsm2 : s[p + 1].toNat ≤ 122) (hlong : N ≤ 24) :
    Calls Try.prog 44 #[.string s, .int .i64 p] w (OnePost s p w (.ok (2, N + 1, 0))) := by
  have hb255 : ((s[p].toNat : Int)) ≤ 255 := by have := s[p].toNat_lt; omega
  have hq := refLetter_any (s[p].toNat : Int)
  rw [hL] at hq
  have HQ := Lib.hid hq
  clear hq hL
  have hrl : p + 1 + N ≤ s.size := by have := runF_le (s.data.toList.drop (p + 1)); simp at this; omega
  have HN := Lib.hid hN
  have hb39 : ((s[p].toNat : Int) == 39) = true := by rw [hc]; rfl
  clear hN hc
  have hl97 : (97 : Int) ≤ s[p + 1].toNat := by omega
  have hd97 : decide ((s[p + 1].toNat : Int) < 97) = false := by rw [decide_eq_false_iff_not]; omega
  have hd122 : decide ((122 : Int) < s[p + 1].toNat) = false := by rw [decide_eq_false_iff_not]; omega
  have hne1 : (((p : Int) + 1 + N) == (p : Int) + 1) = false := by rw [beq_eq_false_iff_ne]; omega
  clear hl97 hsm hsm2
  go_enter Try.func44, Try.ntmps44
  go_wp2_with (first | (go_at_call 57; refine (HQ.out _ (by omega) hb255).mono ?_; rintro e w' ⟨rfl, rfl⟩) | (go_at_call 58; refine (endS_any s p _ (by omega) hs).mono ?_; rintro e w' ⟨rfl, rfl⟩; rw [HN.out]))
  rw [show p + 1 + N = p + (N + 1) by omega]
  refine bodyPost_ret (v := .tuple #[.agg #[.int .i64 2, .string (s.extract p (p + (N + 1))), .int .i64 0, .int .i64 0, .int .u64 0], .int .i64 ((p : Int) + 1 + N), .int .i64 0]) (by simp [results, Try.results44, go_sem]) rfl ⟨congrArg (fun z : Int => Ending.returned (.tuple #[.agg #[.int .i64 2, .string (s.extract p (p + (N + 1))), .int .i64 0, .int .i64 0, .int .u64 0], .int .i64 z, .int .i64 0])) (show (p : Int) + 1 + N = ((p + (N + 1) : Nat) : Int) by omega), ?_⟩
  exact (Step.refl _ w).alloc _


end Go.Proofs.Ytfjkkfdpeckccaa
