/- Contracts of package flow: one set put into another one. -/
import Derived.Test.YtilipeigjkmldaaFlowA
namespace Go.Proofs.Ytilipeigjkmldaa
open Go.RowKit

theorem set_getD (l : List Nat) (k : Nat) : l.set k (l.getD k 0) = l := by
  apply List.ext_getElem?
  intro i
  rw [List.getElem?_set]
  by_cases h : k = i
  · subst h
    by_cases h2 : k < l.length
    · simp [h2, List.getD_eq_getElem?_getD]
    · simp [h2]
  · simp [h]
def isNew (a b : List Nat) : Bool := decide (joinW a b ≠ a)
theorem isNew_nil : isNew [] [] = false := by simp [isNew, joinW]
theorem joinW_snoc (a b : List Nat) (k : Nat) (ha : k < a.length) (hb : k < b.length) (hl : a.length = b.length) : joinW (a.take (k + 1)) (b.take (k + 1)) = joinW (a.take k) (b.take k) ++ [a.getD k 0 ||| b.getD k 0] := by
  unfold joinW
  rw [List.take_add_one, List.take_add_one, List.getElem?_eq_getElem ha, List.getElem?_eq_getElem hb, List.zipWith_append (by simp [hl])]
  simp [List.getD_eq_getElem?_getD, List.getElem?_eq_getElem ha, List.getElem?_eq_getElem hb]
theorem take_snoc_getD (a : List Nat) (k : Nat) (ha : k < a.length) : a.take (k + 1) = a.take k ++ [a.getD k 0] := by
  rw [List.take_add_one, List.getElem?_eq_getElem ha, List.getD_eq_getElem?_getD, List.getElem?_eq_getElem ha]; rfl
theorem isNew_snoc (a b : List Nat) (k : Nat) (ha : k < a.length) (hb : k < b.length) (hl : a.length = b.length) : isNew (a.take (k + 1)) (b.take (k + 1)) = (isNew (a.take k) (b.take k) || decide (a.getD k 0 ||| b.getD k 0 ≠ a.getD k 0)) := by
  unfold isNew
  rw [joinW_snoc a b k ha hb hl, take_snoc_getD a k ha]
  have hlen : (joinW (a.take k) (b.take k)).length = (a.take k).length := joinW_len (by simp [hl])
  have h : (joinW (a.take k) (b.take k) ++ [a.getD k 0 ||| b.getD k 0] ≠ a.take k ++ [a.getD k 0]) ↔ (joinW (a.take k) (b.take k) ≠ a.take k ∨ a.getD k 0 ||| b.getD k 0 ≠ a.getD k 0) := by
    constructor
    · intro h
      by_cases h1 : joinW (a.take k) (b.take k) = a.take k
      · exact .inr fun h2 => h (by rw [h1, h2])
      · exact .inl h1
    · intro h h2
      obtain ⟨h3, h4⟩ := List.append_inj h2 hlen
      rcases h with h | h
      · exact h h3
      · exact h (by simpa using h4)
  rw [decide_eq_decide.2 h, Bool.decide_or]
theorem joinPart (a b : List Nat) (k : Nat) (ha : k < a.length) (hl : a.length = b.length) : (joinW (a.take k) (b.take k) ++ a.drop k).getD k 0 = a.getD k 0 := by
  have h1 : (joinW (a.take k) (b.take k)).length = k := by rw [joinW_len (by simp [hl])]; simp; omega
  rw [List.getD_eq_getElem?_getD, List.getElem?_append_right (by omega), h1, Nat.sub_self, List.getElem?_drop, Nat.add_zero, List.getD_eq_getElem?_getD]

def JoinPost (g : Nat) (a b : List Nat) (w : World) (e : Ending) (w' : World) : Prop := e = .returned (.bool (isNew a b)) ∧ SetB w' g (joinW a b) ∧ Step (· = g) w w'

set_option maxRecDepth 100000 in
set_option maxHeartbeats 2000000 in
theorem join_any (ga gb : Nat) (a b : List Nat) (w : World) (ha : SetB w ga a) (hb : SetB w gb b) (hne : gb ≠ ga) (hl : a.length = b.length) (hw : a.length ≤ 1000000) :
    Calls Try.prog 58 #[.slice (some ⟨ga, 0, none⟩) a.length a.length, .slice (some ⟨gb, 0, none⟩) b.length b.length] w (JoinPost ga a b w) := by
  have HA := Lib.hid ha
  have HB := Lib.hid hb
  have HL := Lib.hid hl
  have HNE := Lib.hid hne
  have hbw : b.length ≤ 1000000 := by omega
  clear ha hb hl hne
  go_enter Try.func58, Try.ntmps58
  go_wp2_with fail
  go_loopg [5, 6, 7, 10] b.length (fun gg s5 _ _ s10 wr => ∃ k : Nat, s10 = .int .i64 k ∧ k ≤ b.length ∧ b.length - k ≤ gg ∧ s5 = .bool (isNew (a.take k) (b.take k)) ∧ SetB wr ga (joinW (a.take k) (b.take k) ++ a.drop k) ∧ Step (· = ga) w wr)
  case atStart => exact ⟨0, rfl, Nat.zero_le _, by omega, rfl, by simpa [joinW] using HA.out, Step.refl _ _⟩
  case round =>
    obtain ⟨k, rfl, hk, hgg, rfl, hset, hst⟩ := hrel
    have HSET := Lib.hid hset
    clear hset
    by_cases hlt : k < b.length
    · have hlta : k < a.length := by have := HL.out; omega
      have HJP := Lib.hid (joinPart a b k hlta HL.out)
      have HJS := Lib.hid (join_take_step a b HL.out k hlt)
      have HIS := Lib.hid (isNew_snoc a b k hlta hlt HL.out)
      have hlen : (joinW (a.take k) (b.take k) ++ a.drop k).length = a.length := by
        have h1 : (joinW (a.take k) (b.take k)).length = k := by rw [joinW_len (by simp [HL.out])]; simp; omega
        rw [List.length_append, h1, List.length_drop]; omega
      obtain ⟨x, hx⟩ : ∃ x, x = a.getD k 0 := ⟨_, rfl⟩
      obtain ⟨y, hy⟩ : ∃ y, y = b.getD k 0 := ⟨_, rfl⟩
      have f1 := HSET.out.cell k (by omega)
      have hx64 := words_get HSET.out.ok k
      rw [HJP.out, ← hx] at f1 hx64
      have f2 := (HB.out.step hst (fun h => HNE.out h)).cell k hlt
      rw [← hy] at f2
      have hy64 : y < 18446744073709551616 := by rw [hy]; exact words_get HB.out.ok k
      obtain ⟨d, hd⟩ : ∃ d, d = y &&& (18446744073709551615 - x) := ⟨_, rfl⟩
      obtain ⟨z, hz⟩ : ∃ z, z = x ||| y := ⟨_, rfl⟩
      have HZ := Lib.hid (andnot_zero hx64 hy64)
      have HXJ : Hid ((joinW (a.take k) (b.take k) ++ a.drop k).getD k 0 = x) := by show _ = _; rw [HJP.out, hx]
      have HZ64 : Hid (z < 18446744073709551616) := by
        have := Nat.or_lt_two_pow (n := 64) (x := x) (y := y) (by simpa using hx64) (by simpa using hy64)
        show _ < _
        rw [hz]; simpa using this
      have R1 : bits .andNot .u64 (y : Int) (x : Int) = (d : Int) := val_andNot64 y x d hy64 hx64 hd
      have R2 : bits .or .u64 (x : Int) (y : Int) = (z : Int) := val_or64 x y z hx64 hy64 hz
      have hb0 : (0 : Int) ≤ (k : Int) := by omega
      have hb1 : (k : Int) < (a.length : Int) := by omega
      have hfz := blk_free HSET.out.blk k
      rw [← hx, ← hy, ← hz] at HJS HIS
      rw [← hd, ← hz] at HZ
      clear hlen hx hy hd hz
      by_cases hd0 : d = 0
      · have HN : Hid (z = x) := HZ.out.1 hd0
        have e0 : ((d : Int) != 0) = false := by simp [hd0]
        have HIS2 : Hid (isNew (a.take (k + 1)) (b.take (k + 1)) = isNew (a.take k) (b.take k)) := by show _ = _; rw [HIS.out, HN.out]; simp
        have HS2 : Hid (SetB wr ga (joinW (a.take (k + 1)) (b.take (k + 1)) ++ a.drop (k + 1))) := by
          have h := HJS.out
          rw [HN.out, ← HXJ.out, set_getD] at h
          rw [← h]; exact HSET.out
        clear hd0
        as_aux_lemma =>
          go_wp2_with fail
          go_roundg (gk - 1)
          case rel => exact ⟨k + 1, by go_num, by omega, by omega, by rw [HIS2.out], HS2.out, hst⟩
          case measure => omega
      · have HN : Hid (¬ z = x) := fun h => hd0 (HZ.out.2 h)
        have e0 : ((d : Int) != 0) = true := by simp [hd0]
        have HIS2 : Hid (isNew (a.take (k + 1)) (b.take (k + 1)) = true) := by show _ = _; rw [HIS.out, decide_eq_true (show z ≠ x from HN.out)]; simp
        have ST2 : Step (· = ga) w (wr.setCell ⟨ga, k, none⟩ (.int .u64 (z : Int))) := hst.setCell _ _ (fun _ => rfl)
        have HS2 : Hid (SetB (wr.setCell ⟨ga, k, none⟩ (.int .u64 (z : Int))) ga (joinW (a.take (k + 1)) (b.take (k + 1)) ++ a.drop (k + 1))) := by
          refine ⟨?_, ?_⟩
          · rw [← HJS.out, ← wordV_set]; exact blk_set HSET.out.blk k _
          · rw [← HJS.out]; exact words_set HSET.out.ok _ _ HZ64.out
        clear hd0
        as_aux_lemma =>
          go_wp2_with fail
          go_roundg (gk - 1)
          case rel => exact ⟨k + 1, by go_num, by omega, by omega, by rw [HIS2.out], HS2.out, ST2⟩
          case measure => omega
    · obtain rfl : k = b.length := by omega
      have HF : Hid (joinW (a.take b.length) (b.take b.length) ++ a.drop b.length = joinW a b) := by
        show _ = _
        rw [← HL.out, List.take_length, List.drop_length, List.append_nil, HL.out, List.take_length]
      have HI : Hid (isNew (a.take b.length) (b.take b.length) = isNew a b) := by
        show _ = _
        rw [← HL.out, List.take_length, HL.out, List.take_length]
      go_wp2
      go_ret
      exact ⟨ret_bool HI.out, by rw [← HF.out]; exact HSET.out, hst⟩

end Go.Proofs.Ytilipeigjkmldaa
