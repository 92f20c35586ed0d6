/- Contracts of the cutter: the next token. -/
import Derived.Test.YtfjkkfdpeckccaaLexI
namespace Go.Proofs.Ytfjkkfdpeckccaa
open Go.RowKit

def nextF : List UInt8 → Except Nat (Nat × Nat × Nat)
  | [] => .error 1
  | c :: r => if isLetter c.toNat then nameF (c :: r) else if c = 39 then lifeF (c :: r) else if isDigit c.toNat then numberF (c :: r) else markF (c :: r)

set_option maxHeartbeats 400000 in
theorem next_name_ok (b : Nat) (s : ByteArray) (p l f : Nat) (w : World) (kind n val : Nat) (m : Int) (h : Cut w b s p l f) (hp : p < s.size) (hs : s.size ≤ 100000) (hm : w.cell? ⟨0, 0, none⟩ = some (.int .i64 m)) (hb0 : b ≠ 0)
    (hL : isLetter (s[p].toNat : Int) = true)  (he : nameF (s.data.toList.drop p) = .ok (kind, n, val)) :
    Calls Try.prog 43 #[.pointer (some ⟨b, 0, none⟩)] w fun e w' => e = .returned (.tuple #[.agg #[.int .i64 kind, .string (s.extract p (p + n)), .int .i64 0, .int .i64 0, .int .u64 val], .int .i64 0]) ∧ Cut w' b s (p + n) l f ∧ Step (· = b) w w' := by
  obtain ⟨c0, c1, c2, c3, f0, f1, f2, f3⟩ := h.cells
  have hlt : b < w.heap.size := blk_lt h.out
  have hb255 : ((s[p].toNat : Int)) ≤ 255 := by have := s[p].toNat_lt; omega
  have hq := letter_any (s[p].toNat : Int)
  rw [hL] at hq
  have HQ := Lib.hid hq
  have HE := Lib.hid he
  clear hq hL he
  go_enter Try.func43, Try.ntmps43
  go_wp2
  go_quiet (fail)
  go_wp2_with ((go_at_call 51; refine (HQ.out _ (by omega) hb255).mono ?_; rintro e w' ⟨rfl, rfl⟩))
  refine ((name_gives.ok b s p l f _ kind n val m ((h.alloc _).drewN _) hp hs (cell_drewN (cell_alloc hm)) hb0 trivial HE.out)).mono ?_
  rintro e w1 ⟨rfl, hc1, hst⟩
  have hnb := hst.keep (blk_drewN (blk_new w _)) (by omega)
  obtain ⟨⟨d0, d1, d2, d3, d4⟩, e0, e1, e2, e3, e4⟩ := blk5 hnb
  have hst' : Step (· = b) w w1 := (((Step.refl _ w).alloc _).drewN _).trans hst
  clear hnb hst
  go_wp2
  refine bodyPost_ret (v := .tuple #[.agg #[.int .i64 kind, .string (s.extract p (p + n)), .int .i64 0, .int .i64 0, .int .u64 val], .int .i64 0]) (by simp [results, Try.results43, go_sem, d0, d1, d2, d3, d4]) rfl ⟨rfl, ?_, ?_⟩
  · exact hc1.five (by omega)
  · exact hst'.five (Nat.le_refl _)

set_option maxHeartbeats 400000 in
theorem next_name_bad (b : Nat) (s : ByteArray) (p l f : Nat) (w : World) (c : Nat) (m : Int) (h : Cut w b s p l f) (hp : p < s.size) (hs : s.size ≤ 100000) (hm : w.cell? ⟨0, 0, none⟩ = some (.int .i64 m)) (hb0 : b ≠ 0)
    (hL : isLetter (s[p].toNat : Int) = true)  (he : nameF (s.data.toList.drop p) = .error c) :
    Calls Try.prog 43 #[.pointer (some ⟨b, 0, none⟩)] w fun e w' => e = .returned (.tuple #[.agg #[.int .i64 0, .string ⟨#[]⟩, .int .i64 0, .int .i64 0, .int .u64 0], .int .i64 c]) ∧ Step (· = b) w w' := by
  obtain ⟨c0, c1, c2, c3, f0, f1, f2, f3⟩ := h.cells
  have hlt : b < w.heap.size := blk_lt h.out
  have hb255 : ((s[p].toNat : Int)) ≤ 255 := by have := s[p].toNat_lt; omega
  have hq := letter_any (s[p].toNat : Int)
  rw [hL] at hq
  have HQ := Lib.hid hq
  have HE := Lib.hid he
  clear hq hL he
  go_enter Try.func43, Try.ntmps43
  go_wp2
  go_quiet (fail)
  go_wp2_with ((go_at_call 51; refine (HQ.out _ (by omega) hb255).mono ?_; rintro e w' ⟨rfl, rfl⟩))
  refine ((name_gives.bad b s p l f _ c m ((h.alloc _).drewN _) hp hs (cell_drewN (cell_alloc hm)) hb0 trivial HE.out)).mono ?_
  rintro e w1 ⟨rfl, hst⟩
  have hnb := hst.keep (blk_drewN (blk_new w _)) (by omega)
  obtain ⟨⟨d0, d1, d2, d3, d4⟩, e0, e1, e2, e3, e4⟩ := blk5 hnb
  have hst' : Step (· = b) w w1 := (((Step.refl _ w).alloc _).drewN _).trans hst
  clear hnb hst
  go_wp2
  refine bodyPost_ret (v := .tuple #[.agg #[.int .i64 0, .string ⟨#[]⟩, .int .i64 0, .int .i64 0, .int .u64 0], .int .i64 c]) (by simp [results, Try.results43, go_sem, d0, d1, d2, d3, d4]) rfl ⟨rfl, ?_⟩
  exact hst'.five (Nat.le_refl _)

set_option maxHeartbeats 400000 in
theorem next_life_ok (b : Nat) (s : ByteArray) (p l f : Nat) (w : World) (kind n val : Nat) (m : Int) (h : Cut w b s p l f) (hp : p < s.size) (hs : s.size ≤ 100000) (hm : w.cell? ⟨0, 0, none⟩ = some (.int .i64 m)) (hb0 : b ≠ 0)
    (hL : isLetter (s[p].toNat : Int) = false) (hc : s[p] = 39) (he : lifeF (s.data.toList.drop p) = .ok (kind, n, val)) :
    Calls Try.prog 43 #[.pointer (some ⟨b, 0, none⟩)] w fun e w' => e = .returned (.tuple #[.agg #[.int .i64 kind, .string (s.extract p (p + n)), .int .i64 0, .int .i64 0, .int .u64 val], .int .i64 0]) ∧ Cut w' b s (p + n) l f ∧ Step (· = b) w w' := by
  obtain ⟨c0, c1, c2, c3, f0, f1, f2, f3⟩ := h.cells
  have hlt : b < w.heap.size := blk_lt h.out
  have hb255 : ((s[p].toNat : Int)) ≤ 255 := by have := s[p].toNat_lt; omega
  have hq := letter_any (s[p].toNat : Int)
  rw [hL] at hq
  have HQ := Lib.hid hq
  have HE := Lib.hid he
  clear hq hL he
  have hb39 : ((s[p].toNat : Int) == 39) = true := by rw [hc]; rfl
  have hg : (s.data.toList.drop p).headD 0 = 39 := by rw [drop_cons s p hp]; exact hc
  clear hc
  go_enter Try.func43, Try.ntmps43
  go_wp2
  go_quiet (fail)
  go_wp2_with ((go_at_call 51; refine (HQ.out _ (by omega) hb255).mono ?_; rintro e w' ⟨rfl, rfl⟩))
  refine ((life_gives.ok b s p l f _ kind n val m ((h.alloc _).drewN _) hp hs (cell_drewN (cell_alloc hm)) hb0 hg HE.out)).mono ?_
  rintro e w1 ⟨rfl, hc1, hst⟩
  have hnb := hst.keep (blk_drewN (blk_new w _)) (by omega)
  obtain ⟨⟨d0, d1, d2, d3, d4⟩, e0, e1, e2, e3, e4⟩ := blk5 hnb
  have hst' : Step (· = b) w w1 := (((Step.refl _ w).alloc _).drewN _).trans hst
  clear hnb hst
  go_wp2
  refine bodyPost_ret (v := .tuple #[.agg #[.int .i64 kind, .string (s.extract p (p + n)), .int .i64 0, .int .i64 0, .int .u64 val], .int .i64 0]) (by simp [results, Try.results43, go_sem, d0, d1, d2, d3, d4]) rfl ⟨rfl, ?_, ?_⟩
  · exact hc1.five (by omega)
  · exact hst'.five (Nat.le_refl _)

set_option maxHeartbeats 400000 in
theorem next_life_bad (b : Nat) (s : ByteArray) (p l f : Nat) (w : World) (c : Nat) (m : Int) (h : Cut w b s p l f) (hp : p < s.size) (hs : s.size ≤ 100000) (hm : w.cell? ⟨0, 0, none⟩ = some (.int .i64 m)) (hb0 : b ≠ 0)
    (hL : isLetter (s[p].toNat : Int) = false) (hc : s[p] = 39) (he : lifeF (s.data.toList.drop p) = .error c) :
    Calls Try.prog 43 #[.pointer (some ⟨b, 0, none⟩)] w fun e w' => e = .returned (.tuple #[.agg #[.int .i64 0, .string ⟨#[]⟩, .int .i64 0, .int .i64 0, .int .u64 0], .int .i64 c]) ∧ Step (· = b) w w' := by
  obtain ⟨c0, c1, c2, c3, f0, f1, f2, f3⟩ := h.cells
  have hlt : b < w.heap.size := blk_lt h.out
  have hb255 : ((s[p].toNat : Int)) ≤ 255 := by have := s[p].toNat_lt; omega
  have hq := letter_any (s[p].toNat : Int)
  rw [hL] at hq
  have HQ := Lib.hid hq
  have HE := Lib.hid he
  clear hq hL he
  have hb39 : ((s[p].toNat : Int) == 39) = true := by rw [hc]; rfl
  have hg : (s.data.toList.drop p).headD 0 = 39 := by rw [drop_cons s p hp]; exact hc
  clear hc
  go_enter Try.func43, Try.ntmps43
  go_wp2
  go_quiet (fail)
  go_wp2_with ((go_at_call 51; refine (HQ.out _ (by omega) hb255).mono ?_; rintro e w' ⟨rfl, rfl⟩))
  refine ((life_gives.bad b s p l f _ c m ((h.alloc _).drewN _) hp hs (cell_drewN (cell_alloc hm)) hb0 hg HE.out)).mono ?_
  rintro e w1 ⟨rfl, hst⟩
  have hnb := hst.keep (blk_drewN (blk_new w _)) (by omega)
  obtain ⟨⟨d0, d1, d2, d3, d4⟩, e0, e1, e2, e3, e4⟩ := blk5 hnb
  have hst' : Step (· = b) w w1 := (((Step.refl _ w).alloc _).drewN _).trans hst
  clear hnb hst
  go_wp2
  refine bodyPost_ret (v := .tuple #[.agg #[.int .i64 0, .string ⟨#[]⟩, .int .i64 0, .int .i64 0, .int .u64 0], .int .i64 c]) (by simp [results, Try.results43, go_sem, d0, d1, d2, d3, d4]) rfl ⟨rfl, ?_⟩
  exact hst'.five (Nat.le_refl _)

set_option maxHeartbeats 400000 in
theorem next_number_ok (b : Nat) (s : ByteArray) (p l f : Nat) (w : World) (kind n val : Nat) (m : Int) (h : Cut w b s p l f) (hp : p < s.size) (hs : s.size ≤ 100000) (hm : w.cell? ⟨0, 0, none⟩ = some (.int .i64 m)) (hb0 : b ≠ 0)
    (hL : isLetter (s[p].toNat : Int) = false) (hc : s[p] ≠ 39) (hD : isDigit (s[p].toNat : Int) = true) (he : numberF (s.data.toList.drop p) = .ok (kind, n, val)) :
    Calls Try.prog 43 #[.pointer (some ⟨b, 0, none⟩)] w fun e w' => e = .returned (.tuple #[.agg #[.int .i64 kind, .string (s.extract p (p + n)), .int .i64 0, .int .i64 0, .int .u64 val], .int .i64 0]) ∧ Cut w' b s (p + n) l f ∧ Step (· = b) w w' := by
  obtain ⟨c0, c1, c2, c3, f0, f1, f2, f3⟩ := h.cells
  have hlt : b < w.heap.size := blk_lt h.out
  have hb255 : ((s[p].toNat : Int)) ≤ 255 := by have := s[p].toNat_lt; omega
  have hq := letter_any (s[p].toNat : Int)
  rw [hL] at hq
  have HQ := Lib.hid hq
  have HE := Lib.hid he
  clear hq hL he
  have hb39 : ((s[p].toNat : Int) == 39) = false := by rw [beq_eq_false_iff_ne]; exact fun e => hc (byte_is 39 e)
  clear hc
  have hq2 := digit_any (s[p].toNat : Int)
  rw [hD] at hq2
  have HQ2 := Lib.hid hq2
  clear hq2 hD
  go_enter Try.func43, Try.ntmps43
  go_wp2
  go_quiet (fail)
  go_wp2_with (first | (go_at_call 51; refine (HQ.out _ (by omega) hb255).mono ?_; rintro e w' ⟨rfl, rfl⟩) | (go_at_call 54; refine (HQ2.out _ (by omega) hb255).mono ?_; rintro e w' ⟨rfl, rfl⟩))
  refine ((number_gives.ok b s p l f _ kind n val m ((h.alloc _).drewN _) hp hs (cell_drewN (cell_alloc hm)) hb0 trivial HE.out)).mono ?_
  rintro e w1 ⟨rfl, hc1, hst⟩
  have hnb := hst.keep (blk_drewN (blk_new w _)) (by omega)
  obtain ⟨⟨d0, d1, d2, d3, d4⟩, e0, e1, e2, e3, e4⟩ := blk5 hnb
  have hst' : Step (· = b) w w1 := (((Step.refl _ w).alloc _).drewN _).trans hst
  clear hnb hst
  go_wp2
  refine bodyPost_ret (v := .tuple #[.agg #[.int .i64 kind, .string (s.extract p (p + n)), .int .i64 0, .int .i64 0, .int .u64 val], .int .i64 0]) (by simp [results, Try.results43, go_sem, d0, d1, d2, d3, d4]) rfl ⟨rfl, ?_, ?_⟩
  · exact hc1.five (by omega)
  · exact hst'.five (Nat.le_refl _)

set_option maxHeartbeats 400000 in
theorem next_number_bad (b : Nat) (s : ByteArray) (p l f : Nat) (w : World) (c : Nat) (m : Int) (h : Cut w b s p l f) (hp : p < s.size) (hs : s.size ≤ 100000) (hm : w.cell? ⟨0, 0, none⟩ = some (.int .i64 m)) (hb0 : b ≠ 0)
    (hL : isLetter (s[p].toNat : Int) = false) (hc : s[p] ≠ 39) (hD : isDigit (s[p].toNat : Int) = true) (he : numberF (s.data.toList.drop p) = .error c) :
    Calls Try.prog 43 #[.pointer (some ⟨b, 0, none⟩)] w fun e w' => e = .returned (.tuple #[.agg #[.int .i64 0, .string ⟨#[]⟩, .int .i64 0, .int .i64 0, .int .u64 0], .int .i64 c]) ∧ Step (· = b) w w' := by
  obtain ⟨c0, c1, c2, c3, f0, f1, f2, f3⟩ := h.cells
  have hlt : b < w.heap.size := blk_lt h.out
  have hb255 : ((s[p].toNat : Int)) ≤ 255 := by have := s[p].toNat_lt; omega
  have hq := letter_any (s[p].toNat : Int)
  rw [hL] at hq
  have HQ := Lib.hid hq
  have HE := Lib.hid he
  clear hq hL he
  have hb39 : ((s[p].toNat : Int) == 39) = false := by rw [beq_eq_false_iff_ne]; exact fun e => hc (byte_is 39 e)
  clear hc
  have hq2 := digit_any (s[p].toNat : Int)
  rw [hD] at hq2
  have HQ2 := Lib.hid hq2
  clear hq2 hD
  go_enter Try.func43, Try.ntmps43
  go_wp2
  go_quiet (fail)
  go_wp2_with (first | (go_at_call 51; refine (HQ.out _ (by omega) hb255).mono ?_; rintro e w' ⟨rfl, rfl⟩) | (go_at_call 54; refine (HQ2.out _ (by omega) hb255).mono ?_; rintro e w' ⟨rfl, rfl⟩))
  refine ((number_gives.bad b s p l f _ c m ((h.alloc _).drewN _) hp hs (cell_drewN (cell_alloc hm)) hb0 trivial HE.out)).mono ?_
  rintro e w1 ⟨rfl, hst⟩
  have hnb := hst.keep (blk_drewN (blk_new w _)) (by omega)
  obtain ⟨⟨d0, d1, d2, d3, d4⟩, e0, e1, e2, e3, e4⟩ := blk5 hnb
  have hst' : Step (· = b) w w1 := (((Step.refl _ w).alloc _).drewN _).trans hst
  clear hnb hst
  go_wp2
  refine bodyPost_ret (v := .tuple #[.agg #[.int .i64 0, .string ⟨#[]⟩, .int .i64 0, .int .i64 0, .int .u64 0], .int .i64 c]) (by simp [results, Try.results43, go_sem, d0, d1, d2, d3, d4]) rfl ⟨rfl, ?_⟩
  exact hst'.five (Nat.le_refl _)

set_option maxHeartbeats 400000 in
theorem next_mark_ok (b : Nat) (s : ByteArray) (p l f : Nat) (w : World) (kind n val : Nat) (m : Int) (h : Cut w b s p l f) (hp : p < s.size) (hs : s.size ≤ 100000) (hm : w.cell? ⟨0, 0, none⟩ = some (.int .i64 m)) (hb0 : b ≠ 0)
    (hL : isLetter (s[p].toNat : Int) = false) (hc : s[p] ≠ 39) (hD : isDigit (s[p].toNat : Int) = false) (he : markF (s.data.toList.drop p) = .ok (kind, n, val)) :
    Calls Try.prog 43 #[.pointer (some ⟨b, 0, none⟩)] w fun e w' => e = .returned (.tuple #[.agg #[.int .i64 kind, .string (s.extract p (p + n)), .int .i64 0, .int .i64 0, .int .u64 val], .int .i64 0]) ∧ Cut w' b s (p + n) l f ∧ Step (· = b) w w' := by
  obtain ⟨c0, c1, c2, c3, f0, f1, f2, f3⟩ := h.cells
  have hlt : b < w.heap.size := blk_lt h.out
  have hb255 : ((s[p].toNat : Int)) ≤ 255 := by have := s[p].toNat_lt; omega
  have hq := letter_any (s[p].toNat : Int)
  rw [hL] at hq
  have HQ := Lib.hid hq
  have HE := Lib.hid he
  clear hq hL he
  have hb39 : ((s[p].toNat : Int) == 39) = false := by rw [beq_eq_false_iff_ne]; exact fun e => hc (byte_is 39 e)
  clear hc
  have hq2 := digit_any (s[p].toNat : Int)
  rw [hD] at hq2
  have HQ2 := Lib.hid hq2
  clear hq2 hD
  go_enter Try.func43, Try.ntmps43
  go_wp2
  go_quiet (fail)
  go_wp2_with (first | (go_at_call 51; refine (HQ.out _ (by omega) hb255).mono ?_; rintro e w' ⟨rfl, rfl⟩) | (go_at_call 54; refine (HQ2.out _ (by omega) hb255).mono ?_; rintro e w' ⟨rfl, rfl⟩))
  refine ((mark_gives.ok b s p l f _ kind n val m ((h.alloc _).drewN _) hp hs (cell_drewN (cell_alloc hm)) hb0 trivial HE.out)).mono ?_
  rintro e w1 ⟨rfl, hc1, hst⟩
  have hnb := hst.keep (blk_drewN (blk_new w _)) (by omega)
  obtain ⟨⟨d0, d1, d2, d3, d4⟩, e0, e1, e2, e3, e4⟩ := blk5 hnb
  have hst' : Step (· = b) w w1 := (((Step.refl _ w).alloc _).drewN _).trans hst
  clear hnb hst
  go_wp2
  refine bodyPost_ret (v := .tuple #[.agg #[.int .i64 kind, .string (s.extract p (p + n)), .int .i64 0, .int .i64 0, .int .u64 val], .int .i64 0]) (by simp [results, Try.results43, go_sem, d0, d1, d2, d3, d4]) rfl ⟨rfl, ?_, ?_⟩
  · exact hc1.five (by omega)
  · exact hst'.five (Nat.le_refl _)

set_option maxHeartbeats 400000 in
theorem next_mark_bad (b : Nat) (s : ByteArray) (p l f : Nat) (w : World) (c : Nat) (m : Int) (h : Cut w b s p l f) (hp : p < s.size) (hs : s.size ≤ 100000) (hm : w.cell? ⟨0, 0, none⟩ = some (.int .i64 m)) (hb0 : b ≠ 0)
    (hL : isLetter (s[p].toNat : Int) = false) (hc : s[p] ≠ 39) (hD : isDigit (s[p].toNat : Int) = false) (he : markF (s.data.toList.drop p) = .error c) :
    Calls Try.prog 43 #[.pointer (some ⟨b, 0, none⟩)] w fun e w' => e = .returned (.tuple #[.agg #[.int .i64 0, .string ⟨#[]⟩, .int .i64 0, .int .i64 0, .int .u64 0], .int .i64 c]) ∧ Step (· = b) w w' := by
  obtain ⟨c0, c1, c2, c3, f0, f1, f2, f3⟩ := h.cells
  have hlt : b < w.heap.size := blk_lt h.out
  have hb255 : ((s[p].toNat : Int)) ≤ 255 := by have := s[p].toNat_lt; omega
  have hq := letter_any (s[p].toNat : Int)
  rw [hL] at hq
  have HQ := Lib.hid hq
  have HE := Lib.hid he
  clear hq hL he
  have hb39 : ((s[p].toNat : Int) == 39) = false := by rw [beq_eq_false_iff_ne]; exact fun e => hc (byte_is 39 e)
  clear hc
  have hq2 := digit_any (s[p].toNat : Int)
  rw [hD] at hq2
  have HQ2 := Lib.hid hq2
  clear hq2 hD
  go_enter Try.func43, Try.ntmps43
  go_wp2
  go_quiet (fail)
  go_wp2_with (first | (go_at_call 51; refine (HQ.out _ (by omega) hb255).mono ?_; rintro e w' ⟨rfl, rfl⟩) | (go_at_call 54; refine (HQ2.out _ (by omega) hb255).mono ?_; rintro e w' ⟨rfl, rfl⟩))
  refine ((mark_gives.bad b s p l f _ c m ((h.alloc _).drewN _) hp hs (cell_drewN (cell_alloc hm)) hb0 trivial HE.out)).mono ?_
  rintro e w1 ⟨rfl, hst⟩
  have hnb := hst.keep (blk_drewN (blk_new w _)) (by omega)
  obtain ⟨⟨d0, d1, d2, d3, d4⟩, e0, e1, e2, e3, e4⟩ := blk5 hnb
  have hst' : Step (· = b) w w1 := (((Step.refl _ w).alloc _).drewN _).trans hst
  clear hnb hst
  go_wp2
  refine bodyPost_ret (v := .tuple #[.agg #[.int .i64 0, .string ⟨#[]⟩, .int .i64 0, .int .i64 0, .int .u64 0], .int .i64 c]) (by simp [results, Try.results43, go_sem, d0, d1, d2, d3, d4]) rfl ⟨rfl, ?_⟩
  exact hst'.five (Nat.le_refl _)

theorem next_gives : Gives 43 nextF (fun _ => True) where
  ok b s p l f w kind n val m h hp hs hm hb0 _ he := by
    have hd := drop_cons s p hp
    cases hL : isLetter (s[p].toNat : Int)
    · by_cases hc : s[p] = 39
      · exact next_life_ok b s p l f w kind n val m h hp hs hm hb0 hL hc (by rw [hd] at he ⊢; rw [nextF, hL, if_neg (by simp), if_pos hc] at he; exact he)
      · cases hD : isDigit (s[p].toNat : Int)
        · exact next_mark_ok b s p l f w kind n val m h hp hs hm hb0 hL hc hD (by rw [hd] at he ⊢; simpa only [nextF, hL, hc, hD, if_true, if_false, Bool.false_eq_true] using he)
        · exact next_number_ok b s p l f w kind n val m h hp hs hm hb0 hL hc hD (by rw [hd] at he ⊢; simpa only [nextF, hL, hc, hD, if_true, if_false, Bool.false_eq_true] using he)
    · exact next_name_ok b s p l f w kind n val m h hp hs hm hb0 hL (by rw [hd] at he ⊢; simpa only [nextF, hL, if_true] using he)
  bad b s p l f w c m h hp hs hm hb0 _ he := by
    have hd := drop_cons s p hp
    cases hL : isLetter (s[p].toNat : Int)
    · by_cases hc : s[p] = 39
      · exact next_life_bad b s p l f w c m h hp hs hm hb0 hL hc (by rw [hd] at he ⊢; rw [nextF, hL, if_neg (by simp), if_pos hc] at he; exact he)
      · cases hD : isDigit (s[p].toNat : Int)
        · exact next_mark_bad b s p l f w c m h hp hs hm hb0 hL hc hD (by rw [hd] at he ⊢; simpa only [nextF, hL, hc, hD, if_true, if_false, Bool.false_eq_true] using he)
        · exact next_number_bad b s p l f w c m h hp hs hm hb0 hL hc hD (by rw [hd] at he ⊢; simpa only [nextF, hL, hc, hD, if_true, if_false, Bool.false_eq_true] using he)
    · exact next_name_bad b s p l f w c m h hp hs hm hb0 hL (by rw [hd] at he ⊢; simpa only [nextF, hL, if_true] using he)

end Go.Proofs.Ytfjkkfdpeckccaa
