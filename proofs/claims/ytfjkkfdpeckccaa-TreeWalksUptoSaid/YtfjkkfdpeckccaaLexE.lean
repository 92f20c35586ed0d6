/- Contracts of the cutter: a lifetime. -/
import Derived.Test.YtfjkkfdpeckccaaLexD
namespace Go.Proofs.Ytfjkkfdpeckccaa
open Go.RowKit

/- The bytes of a cut of a text. -/
theorem extract_list (s : ByteArray) (p n : Nat) : (s.extract p (p + n)).data.toList = (s.data.toList.drop p).take n := by
  rw [Lib.extract_data, Nat.add_sub_cancel_left]
theorem toList_ne (t : ByteArray) (h : 0 < t.size) : ¬ t.toList = [] := by
  intro e
  rw [Lib.toList_data] at e
  rw [Lib.size_eq, e] at h
  exact absurd h (by simp)
theorem isEmpty_no (t : ByteArray) (h : 0 < t.size) : t.toList.isEmpty = false := by
  cases e : t.toList.isEmpty
  · rfl
  · exact absurd (List.isEmpty_iff.1 e) (toList_ne t h)
theorem str_ext {a b : ByteArray} (h : a.data.toList = b.data.toList) : a = b := by
  have : a.data = b.data := Array.toList_inj.1 h
  cases a; cases b; simp at this; rw [this]
theorem get_list (t : ByteArray) (i : Nat) (h : i < t.size) : t[i] = t.data.toList.getD i 0 := by
  have h' : i < t.data.toList.length := by simpa using h
  rw [List.getD_eq_getElem?_getD, List.getElem?_eq_getElem h']; rfl
theorem cut_head (s : ByteArray) (p n : Nat) (hn : 0 < n) (h : 0 < (s.extract p (p + n)).size) : (s.extract p (p + n))[0] = (s.data.toList.drop p).headD 0 := by
  rw [get_list _ 0 h, extract_list]
  cases hd : s.data.toList.drop p with
  | nil => simp
  | cons c r => cases n with
    | zero => omega
    | succ n => rfl

theorem quote_cut (s : ByteArray) (p N : Nat) (hp : p < s.size) (h39 : (s.data.toList.drop p).headD 0 = 39) : (⟨#[39]⟩ : ByteArray) ++ s.extract (p + 1) (p + 1 + N) = s.extract p (p + (N + 1)) := by
  apply str_ext
  rw [extract_list, drop_cons s p hp, List.take_succ_cons, ByteArray.data_append, Array.toList_append, extract_list]
  rw [drop_cons s p hp] at h39
  simp at h39
  rw [h39]; rfl

set_option maxHeartbeats 400000 in
theorem life_ok (b : Nat) (s : ByteArray) (p l f N : Nat) (w : World) (h : Cut w b s p l f) (hp : p < s.size) (hs : s.size ≤ 100000) (hN : runF (s.data.toList.drop (p + 1)) = N) (h39 : (s.data.toList.drop p).headD 0 = 39) (hpos : 0 < N) (hn : N ≤ 24)
    (hsm : isSmall (((s.data.toList.drop (p + 1)).headD 0).toNat : Int) = true) :
    Calls Try.prog 53 #[.pointer (some ⟨b, 0, none⟩)] w fun e w' =>
      e = .returned (.tuple #[.agg #[.int .i64 2, .string (s.extract p (p + (N + 1))), .int .i64 0, .int .i64 0, .int .u64 0], .int .i64 0]) ∧ Cut w' b s (p + (N + 1)) l f ∧ Step (· = b) w w' := by
  have hlt : b < w.heap.size := blk_lt h.out
  obtain ⟨c0, c1, c2, c3, f0, f1, f2, f3⟩ := h.cells
  have hrl : p + 1 + N ≤ s.size := by have := runF_le (s.data.toList.drop (p + 1)); simp at this; omega
  have HN := Lib.hid hN
  clear hN
  go_enter Try.func53, Try.ntmps53
  go_wp2_with fail
  refine (run_any _ b s (p + 1) l f _ tests_life ((h.set1 (q := p + 1) (by omega)).alloc _) (by omega) hs).mono ?_
  rintro e w1 ⟨rfl, hc, hst⟩
  rw [HN.out] at hc ⊢
  have hsz := extract_size s (p + 1) N hrl
  generalize ht : s.extract (p + 1) (p + 1 + N) = t at *
  obtain ⟨⟨d0, d1, d2, d3, d4⟩, e0, e1, e2, e3, e4⟩ := blk5 (hst.keep (blk_new_set _ _ _ _) (by omega))
  have h0 : 0 < t.size := by omega
  have HQC : Hid ((⟨#[39]⟩ : ByteArray) ++ t = s.extract p (p + (N + 1))) := by subst ht; exact quote_cut s p N hp h39
  clear h39
  have hh : t[0] = (s.data.toList.drop (p + 1)).headD 0 := by subst ht; exact cut_head s (p + 1) N hpos h0
  have hte := toList_ne t h0
  have hte' := isEmpty_no t h0
  have hb255 : ((t[0].toNat : Int)) ≤ 255 := by have := t[0].toNat_lt; omega
  have hq := small_any (t[0].toNat : Int)
  rw [hh] at hq
  rw [hsm, ← hh] at hq
  have HQ := Lib.hid hq
  have HT := Lib.hid ht
  clear ht hh hq hsm
  go_wp2_with (go_at_call 71; refine (HQ.out _ (by omega) hb255).mono ?_; rintro e w' ⟨rfl, rfl⟩)
  rw [HQC.out]
  refine bodyPost_ret (v := .tuple #[.agg #[.int .i64 2, .string (s.extract p (p + (N + 1))), .int .i64 0, .int .i64 0, .int .u64 0], .int .i64 0]) (by simp [results, Try.results53, go_sem, d0, d1, d2, d3, d4]) rfl ⟨rfl, ?_, ?_⟩
  · have := hc.five (r := w.heap.size) (v0 := .int .i64 2) (v1 := .string (s.extract p (p + (N + 1)))) (v2 := .int .i64 0) (v3 := .int .i64 0) (v4 := .int .u64 0) (by omega)
    rw [show p + (N + 1) = p + 1 + N by omega] at this ⊢; exact this
  · exact hst.of_alloc.of_set.five (Nat.le_refl _)

set_option maxHeartbeats 400000 in
theorem life_long (b : Nat) (s : ByteArray) (p l f N : Nat) (w : World) (h : Cut w b s p l f) (hp : p < s.size) (hs : s.size ≤ 100000) (hN : runF (s.data.toList.drop (p + 1)) = N) (hn : 24 < N)
    (hsm : isSmall (((s.data.toList.drop (p + 1)).headD 0).toNat : Int) = true) :
    Calls Try.prog 53 #[.pointer (some ⟨b, 0, none⟩)] w fun e w' =>
      e = .returned (.tuple #[.agg #[.int .i64 0, .string ⟨#[]⟩, .int .i64 0, .int .i64 0, .int .u64 0], .int .i64 2]) ∧ Step (· = b) w w' := by
  have hlt : b < w.heap.size := blk_lt h.out
  obtain ⟨c0, c1, c2, c3, f0, f1, f2, f3⟩ := h.cells
  have hrl : p + 1 + N ≤ s.size := by have := runF_le (s.data.toList.drop (p + 1)); simp at this; omega
  have HN := Lib.hid hN
  clear hN
  go_enter Try.func53, Try.ntmps53
  go_wp2_with fail
  refine (run_any _ b s (p + 1) l f _ tests_life ((h.set1 (q := p + 1) (by omega)).alloc _) (by omega) hs).mono ?_
  rintro e w1 ⟨rfl, hc, hst⟩
  rw [HN.out] at hc ⊢
  have hsz := extract_size s (p + 1) N hrl
  generalize ht : s.extract (p + 1) (p + 1 + N) = t at *
  obtain ⟨⟨d0, d1, d2, d3, d4⟩, e0, e1, e2, e3, e4⟩ := blk5 (hst.keep (blk_new_set _ _ _ _) (by omega))
  have h0 : 0 < t.size := by omega
  have hh : t[0] = (s.data.toList.drop (p + 1)).headD 0 := by subst ht; exact cut_head s (p + 1) N (by omega) h0
  have hte := toList_ne t h0
  have hte' := isEmpty_no t h0
  have hb255 : ((t[0].toNat : Int)) ≤ 255 := by have := t[0].toNat_lt; omega
  have hq := small_any (t[0].toNat : Int)
  rw [hh] at hq
  rw [hsm, ← hh] at hq
  have HQ := Lib.hid hq
  clear ht hh hq hsm
  go_wp2_with (go_at_call 71; refine (HQ.out _ (by omega) hb255).mono ?_; rintro e w' ⟨rfl, rfl⟩)
  refine bodyPost_ret (v := .tuple #[.agg #[.int .i64 0, .string ⟨#[]⟩, .int .i64 0, .int .i64 0, .int .u64 0], .int .i64 2]) (by simp [results, Try.results53, go_sem, d0, d1, d2, d3, d4]) rfl ⟨rfl, ?_⟩
  exact hst.of_alloc.of_set.five (Nat.le_refl _)

set_option maxHeartbeats 400000 in
theorem life_bad (b : Nat) (s : ByteArray) (p l f N : Nat) (w : World) (h : Cut w b s p l f) (hp : p < s.size) (hs : s.size ≤ 100000) (hN : runF (s.data.toList.drop (p + 1)) = N) (hn : 0 < N)
    (hsm : isSmall (((s.data.toList.drop (p + 1)).headD 0).toNat : Int) = false) :
    Calls Try.prog 53 #[.pointer (some ⟨b, 0, none⟩)] w fun e w' =>
      e = .returned (.tuple #[.agg #[.int .i64 0, .string ⟨#[]⟩, .int .i64 0, .int .i64 0, .int .u64 0], .int .i64 1]) ∧ Step (· = b) w w' := by
  have hlt : b < w.heap.size := blk_lt h.out
  obtain ⟨c0, c1, c2, c3, f0, f1, f2, f3⟩ := h.cells
  have hrl : p + 1 + N ≤ s.size := by have := runF_le (s.data.toList.drop (p + 1)); simp at this; omega
  have HN := Lib.hid hN
  clear hN
  go_enter Try.func53, Try.ntmps53
  go_wp2_with fail
  refine (run_any _ b s (p + 1) l f _ tests_life ((h.set1 (q := p + 1) (by omega)).alloc _) (by omega) hs).mono ?_
  rintro e w1 ⟨rfl, hc, hst⟩
  rw [HN.out] at hc ⊢
  have hsz := extract_size s (p + 1) N hrl
  generalize ht : s.extract (p + 1) (p + 1 + N) = t at *
  obtain ⟨⟨d0, d1, d2, d3, d4⟩, e0, e1, e2, e3, e4⟩ := blk5 (hst.keep (blk_new_set _ _ _ _) (by omega))
  have h0 : 0 < t.size := by omega
  have hh : t[0] = (s.data.toList.drop (p + 1)).headD 0 := by subst ht; exact cut_head s (p + 1) N (by omega) h0
  have hte := toList_ne t h0
  have hte' := isEmpty_no t h0
  have hb255 : ((t[0].toNat : Int)) ≤ 255 := by have := t[0].toNat_lt; omega
  have hq := small_any (t[0].toNat : Int)
  rw [hh] at hq
  rw [hsm, ← hh] at hq
  have HQ := Lib.hid hq
  clear ht hh hq hsm
  go_wp2_with (go_at_call 71; refine (HQ.out _ (by omega) hb255).mono ?_; rintro e w' ⟨rfl, rfl⟩)
  refine bodyPost_ret (v := .tuple #[.agg #[.int .i64 0, .string ⟨#[]⟩, .int .i64 0, .int .i64 0, .int .u64 0], .int .i64 1]) (by simp [results, Try.results53, go_sem, d0, d1, d2, d3, d4]) rfl ⟨rfl, ?_⟩
  exact hst.of_alloc.of_set.five (Nat.le_refl _)

set_option maxHeartbeats 400000 in
theorem life_none (b : Nat) (s : ByteArray) (p l f : Nat) (w : World) (h : Cut w b s p l f) (hp : p < s.size) (hs : s.size ≤ 100000) (hN : runF (s.data.toList.drop (p + 1)) = 0) :
    Calls Try.prog 53 #[.pointer (some ⟨b, 0, none⟩)] w fun e w' =>
      e = .returned (.tuple #[.agg #[.int .i64 0, .string ⟨#[]⟩, .int .i64 0, .int .i64 0, .int .u64 0], .int .i64 1]) ∧ Step (· = b) w w' := by
  have hlt : b < w.heap.size := blk_lt h.out
  obtain ⟨c0, c1, c2, c3, f0, f1, f2, f3⟩ := h.cells
  have HN := Lib.hid hN
  clear hN
  go_enter Try.func53, Try.ntmps53
  go_wp2_with fail
  refine (run_any _ b s (p + 1) l f _ tests_life ((h.set1 (q := p + 1) (by omega)).alloc _) (by omega) hs).mono ?_
  rintro e w1 ⟨rfl, hc, hst⟩
  rw [HN.out] at hc ⊢
  have ht : s.extract (p + 1) (p + 1 + 0) = ⟨#[]⟩ := str_ext (by rw [extract_list]; rfl)
  rw [ht]
  obtain ⟨⟨d0, d1, d2, d3, d4⟩, e0, e1, e2, e3, e4⟩ := blk5 (hst.keep (blk_new_set _ _ _ _) (by omega))
  clear ht
  go_wp2
  refine bodyPost_ret (v := .tuple #[.agg #[.int .i64 0, .string ⟨#[]⟩, .int .i64 0, .int .i64 0, .int .u64 0], .int .i64 1]) (by simp [results, Try.results53, go_sem, d0, d1, d2, d3, d4]) rfl ⟨rfl, ?_⟩
  exact hst.of_alloc.of_set.five (Nat.le_refl _)

theorem life_gives : Gives 53 lifeF (fun l => l.headD 0 = 39) where
  ok b s p l f w kind n val m h hp hs _ _ h39 he := by
    have hd := drop_cons s p hp
    rw [hd, lifeF] at he
    split at he
    · simp at he
    · rename_i h1
      split at he
      · simp at he
      · simp at he
        obtain ⟨rfl, rfl, rfl⟩ := he
        refine life_ok b s p l f _ w h hp hs rfl h39 ?_ (by omega) ?_
        · rcases Nat.eq_zero_or_pos (runF (s.data.toList.drop (p + 1))) with e | e
          · exact absurd (.inl e) h1
          · exact e
        · cases e : isSmall (((s.data.toList.drop (p + 1)).headD 0).toNat : Int)
          · exact absurd (.inr e) h1
          · rfl
  bad b s p l f w c m h hp hs _ _ h39 he := by
    have hd := drop_cons s p hp
    rw [hd, lifeF] at he
    by_cases h0 : runF (s.data.toList.drop (p + 1)) = 0
    · rw [if_pos (.inl h0)] at he
      simp at he; subst he
      exact life_none b s p l f w h hp hs h0
    · cases e : isSmall (((s.data.toList.drop (p + 1)).headD 0).toNat : Int)
      · rw [if_pos (.inr e)] at he
        simp at he; subst he
        exact life_bad b s p l f _ w h hp hs rfl (by omega) e
      · rw [if_neg (fun x => x.elim h0 (by rw [e]; simp))] at he
        split at he
        · simp at he; subst he
          exact life_long b s p l f _ w h hp hs rfl (by omega) e
        · simp at he

end Go.Proofs.Ytfjkkfdpeckccaa
