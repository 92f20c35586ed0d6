/- Contracts of package flow: facts are put into a set. / Contracts of package flow: one set put into another one. / Contracts of package flow: lists of a node; what may be a problem. -/
import Derived.Test.YtilipeigjkmldaaBodJ
import Derived.Test.YtilipeigjkmldaaCoreA
import Derived.StillTailTactics
namespace Go.Proofs.Ytilipeigjkmldaa
open Go.RowKit

def natV (l : List Nat) : List Value := intsV (l.map Int.ofNat)
def wordV (ws : List Nat) : List Value := ws.map (fun (n : Nat) => Value.int .u64 n)
theorem natV_get (l : List Nat) (i x : Nat) (h : l[i]? = some x) : (natV l)[i]? = some (.int .i64 x) := by simp [natV, intsV, h]
theorem wordV_get (ws : List Nat) (i : Nat) (h : i < ws.length) : (wordV ws)[i]? = some (.int .u64 (ws.getD i 0 : Nat)) := by simp [wordV, List.getD_eq_getElem?_getD, List.getElem?_eq_getElem h]
theorem wordV_len (ws : List Nat) : (wordV ws).length = ws.length := by simp [wordV]
theorem wordV_set (ws : List Nat) (i x : Nat) : (wordV ws).toArray.setIfInBounds i (.int .u64 x) = (wordV (ws.set i x)).toArray := by
  simp [wordV, List.map_set]
/- A set of facts in a block of its own. -/
structure SetB (w : World) (g : Nat) (ws : List Nat) : Prop where
  blk : w.heap[g]? = some (.cells (wordV ws).toArray 41 (0, 0))
  ok : words ws
theorem SetB.step {S : Nat → Prop} {w w' : World} {g : Nat} {ws : List Nat} (h : SetB w g ws) (hs : Step S w w') (hn : ¬ S g) : SetB w' g ws := ⟨hs.keep h.blk hn, h.ok⟩
theorem SetB.cell {w : World} {g : Nat} {ws : List Nat} (h : SetB w g ws) (i : Nat) (hi : i < ws.length) : w.cell? ⟨g, i, none⟩ = some (.int .u64 (ws.getD i 0 : Nat)) := blk_cell h.blk i _ (by simpa using wordV_get ws i hi)
theorem SetB.drew {w : World} {g : Nat} {ws : List Nat} (h : SetB w g ws) (n : Nat) : SetB (w.drewN n) g ws := ⟨h.blk, h.ok⟩

def PutPost (g : Nat) (ws : List Nat) (w : World) (e : Ending) (w' : World) : Prop := e = .returned (.tuple #[]) ∧ SetB w' g ws ∧ Step (· = g) w w'

set_option maxRecDepth 100000 in
set_option maxHeartbeats 1000000 in
theorem put_any (B g : Nat) (ws l : List Nat) (v : Value) (w : World) (hs : SetB w g ws) (hl : Row w B v l.length (natV l)) (hB : B ≤ g) (he : ∀ e ∈ l, e / 64 < ws.length) (hw : ws.length ≤ 1000000) :
    Calls Try.prog 78 #[.slice (some ⟨g, 0, none⟩) ws.length ws.length, v] w (PutPost g (setL ws l) w) := by
  obtain ⟨a, c, rfl, hcl, hcm, -, hr⟩ := hl
  have HR := Lib.hid hr
  have HS := Lib.hid hs
  have HE := Lib.hid he
  clear hr hs he
  go_enter Try.func78, Try.ntmps78
  go_wp2_with fail
  go_loopg [5, 8] l.length (fun gg _ s8 wr => ∃ i : Nat, s8 = .int .i64 i ∧ i ≤ l.length ∧ l.length - i ≤ gg ∧ SetB wr g (setL ws (l.take i)) ∧ Step (· = g) w wr)
  case atStart => exact ⟨0, rfl, Nat.zero_le _, by omega, HS.out, Step.refl _ _⟩
  case round =>
    obtain ⟨i, rfl, hi, hgg, hset, hst⟩ := hrel
    have HSET := Lib.hid hset
    clear hset
    by_cases hlt : i < l.length
    · obtain ⟨x, hx⟩ : ∃ x, l[i]? = some x := ⟨l[i], List.getElem?_eq_getElem hlt⟩
      obtain ⟨g2, o2, rfl, hg2, -, hcell⟩ := HR.out (by omega)
      have f0 := hst.cell (hcell i _ (natV_get l i x hx)) (fun h => by simp at h; omega)
      have hxl := HE.out x (List.mem_of_getElem? hx)
      have HT : Hid (setL ws (l.take (i + 1)) = setB (setL ws (l.take i)) x) := by
        show _ = _
        obtain ⟨hi', rfl⟩ := List.getElem?_eq_some_iff.1 hx
        rw [List.take_succ_eq_append_getElem hi', setL_snoc]
      obtain ⟨us, hus⟩ : ∃ us, us = setL ws (l.take i) := ⟨_, rfl⟩
      have hul : us.length = ws.length := by rw [hus, setL_len]
      rw [← hus] at HSET HT
      have HUL := Lib.hid hul
      obtain ⟨q, hq⟩ : ∃ q, q = x / 64 := ⟨_, rfl⟩
      obtain ⟨r, hr⟩ : ∃ r, r = x % 64 := ⟨_, rfl⟩
      obtain ⟨m, hm⟩ : ∃ m, m = 2 ^ r := ⟨_, rfl⟩
      obtain ⟨y, hy⟩ : ∃ y, y = us.getD q 0 := ⟨_, rfl⟩
      obtain ⟨z, hz⟩ : ∃ z, z = y ||| m := ⟨_, rfl⟩
      have f1 := HSET.out.cell q (by omega)
      rw [← hy] at f1
      have hy64 : y < 18446744073709551616 := by rw [hy]; exact words_get HSET.out.ok q
      have hm64 : m < 18446744073709551616 := by rw [hm, hr]; exact pow_lt x
      have R1 : IntKind.i64.wrap ((x : Int).tdiv 64) = (q : Int) := val_quo64 x q (by omega) hq
      have R2 : (x : Int).tmod 64 = (r : Int) := val_rem64 x r hr
      have R3 : Op.shift .shl .u64 1 .i64 (r : Int) = pure (.int .u64 (m : Int)) := val_shl1 r m (by omega) hm
      have R4 : bits .or .u64 (y : Int) (m : Int) = (z : Int) := val_or64 y m z hy64 hm64 hz
      have HT2 : Hid (setL ws (l.take (i + 1)) = us.set q z) := by show _ = _; rw [HT.out, hz, hy, hm, hr, hq]; rfl
      have hb0 : (0 : Int) ≤ (q : Int) := by omega
      have hb1 : (q : Int) < (ws.length : Int) := by have := HUL.out; omega
      have hb2 : q < ws.length := by omega
      have HOK : Hid (words (us.set q z)) := by rw [← HT2.out]; rw [HT.out]; exact setB_words HSET.out.ok x
      have hfz := blk_free HSET.out.blk q
      have R8 : IntKind.u64.wrap ((2 : Int) ^ r) = (m : Int) := val_pow r m (by omega) hm
      have R5 : (x : Int) / 64 = (q : Int) := by omega
      have R6 : (x : Int) % 64 = (r : Int) := by omega
      have R7 : IntKind.i64.wrap (q : Int) = (q : Int) := IntWalk.i64_in _ (by omega)
      clear hcell hx hus hul hq hr hm hy hz HT
      go_wp2
      go_still_tail 10, (by kernel_rfl)
      change wpList _ _ _ _ _ wr.drew
      go_wp2_with fail
      clear R1 R2 R3 R4 R5 R6 R7 R8 f0 f1 hfz
      have ST1 : Step (· = g) w (wr.drew.setCell ⟨g, q, none⟩ (.int .u64 (z : Int))) := hst.drew.setCell _ _ (fun _ => rfl)
      have HS1 : Hid (SetB (wr.drew.setCell ⟨g, q, none⟩ (.int .u64 (z : Int))) g (setL ws (l.take (i + 1)))) := by
        refine ⟨?_, by rw [HT2.out]; exact HOK.out⟩
        rw [HT2.out, ← wordV_set]
        exact blk_set (w := wr.drew) HSET.out.blk q _
      go_roundg (gk - 1)
      case rel => exact ⟨i + 1, by go_num, by omega, by omega, HS1.out, ST1⟩
      case measure => omega
    · have HF : Hid (SetB wr g (setL ws l)) := by have := HSET.out; rw [List.take_of_length_le (by omega)] at this; exact this
      go_wp2
      refine bodyPost_ret (results_none rfl _ _ _) rfl ?_
      exact ⟨rfl, HF.out, hst⟩

end Go.Proofs.Ytilipeigjkmldaa

namespace Go.Proofs.Ytilipeigjkmldaa
open Go.RowKit

theorem set_getD (l : List Nat) (k : Nat) : l.set k (l.getD k 0) = l := by
  apply List.ext_getElem?
  intro i
  rw [List.getElem?_set]
  by_cases h : k = i
  · subst h
    by_cases h2 : k < l.length
    · simp [h2, List.getD_eq_getElem?_getD]
    · simp [h2]
  · simp [h]
def isNew (a b : List Nat) : Bool := decide (joinW a b ≠ a)
theorem isNew_nil : isNew [] [] = false := by simp [isNew, joinW]
theorem joinW_snoc (a b : List Nat) (k : Nat) (ha : k < a.length) (hb : k < b.length) (hl : a.length = b.length) : joinW (a.take (k + 1)) (b.take (k + 1)) = joinW (a.take k) (b.take k) ++ [a.getD k 0 ||| b.getD k 0] := by
  unfold joinW
  rw [List.take_add_one, List.take_add_one, List.getElem?_eq_getElem ha, List.getElem?_eq_getElem hb, List.zipWith_append (by simp [hl])]
  simp [List.getD_eq_getElem?_getD, List.getElem?_eq_getElem ha, List.getElem?_eq_getElem hb]
theorem take_snoc_getD (a : List Nat) (k : Nat) (ha : k < a.length) : a.take (k + 1) = a.take k ++ [a.getD k 0] := by
  rw [List.take_add_one, List.getElem?_eq_getElem ha, List.getD_eq_getElem?_getD, List.getElem?_eq_getElem ha]; rfl
theorem isNew_snoc (a b : List Nat) (k : Nat) (ha : k < a.length) (hb : k < b.length) (hl : a.length = b.length) : isNew (a.take (k + 1)) (b.take (k + 1)) = (isNew (a.take k) (b.take k) || decide (a.getD k 0 ||| b.getD k 0 ≠ a.getD k 0)) := by
  unfold isNew
  rw [joinW_snoc a b k ha hb hl, take_snoc_getD a k ha]
  have hlen : (joinW (a.take k) (b.take k)).length = (a.take k).length := joinW_len (by simp [hl])
  have h : (joinW (a.take k) (b.take k) ++ [a.getD k 0 ||| b.getD k 0] ≠ a.take k ++ [a.getD k 0]) ↔ (joinW (a.take k) (b.take k) ≠ a.take k ∨ a.getD k 0 ||| b.getD k 0 ≠ a.getD k 0) := by
    constructor
    · intro h
      by_cases h1 : joinW (a.take k) (b.take k) = a.take k
      · exact .inr fun h2 => h (by rw [h1, h2])
      · exact .inl h1
    · intro h h2
      obtain ⟨h3, h4⟩ := List.append_inj h2 hlen
      rcases h with h | h
      · exact h h3
      · exact h (by simpa using h4)
  rw [decide_eq_decide.2 h, Bool.decide_or]
theorem joinPart (a b : List Nat) (k : Nat) (ha : k < a.length) (hl : a.length = b.length) : (joinW (a.take k) (b.take k) ++ a.drop k).getD k 0 = a.getD k 0 := by
  have h1 : (joinW (a.take k) (b.take k)).length = k := by rw [joinW_len (by simp [hl])]; simp; omega
  rw [List.getD_eq_getElem?_getD, List.getElem?_append_right (by omega), h1, Nat.sub_self, List.getElem?_drop, Nat.add_zero, List.getD_eq_getElem?_getD]

def JoinPost (g : Nat) (a b : List Nat) (w : World) (e : Ending) (w' : World) : Prop := e = .returned (.bool (isNew a b)) ∧ SetB w' g (joinW a b) ∧ Step (· = g) w w'

set_option maxRecDepth 100000 in
set_option maxHeartbeats 2000000 in
theorem join_any (ga gb : Nat) (a b : List Nat) (w : World) (ha : SetB w ga a) (hb : SetB w gb b) (hne : gb ≠ ga) (hl : a.length = b.length) (hw : a.length ≤ 1000000) :
    Calls Try.prog 58 #[.slice (some ⟨ga, 0, none⟩) a.length a.length, .slice (some ⟨gb, 0, none⟩) b.length b.length] w (JoinPost ga a b w) := by
  have HA := Lib.hid ha
  have HB := Lib.hid hb
  have HL := Lib.hid hl
  have HNE := Lib.hid hne
  have hbw : b.length ≤ 1000000 := by omega
  clear ha hb hl hne
  go_enter Try.func58, Try.ntmps58
  go_wp2_with fail
  go_loopg [5, 6, 7, 10] b.length (fun gg s5 _ _ s10 wr => ∃ k : Nat, s10 = .int .i64 k ∧ k ≤ b.length ∧ b.length - k ≤ gg ∧ s5 = .bool (isNew (a.take k) (b.take k)) ∧ SetB wr ga (joinW (a.take k) (b.take k) ++ a.drop k) ∧ Step (· = ga) w wr)
  case atStart => exact ⟨0, rfl, Nat.zero_le _, by omega, rfl, by simpa [joinW] using HA.out, Step.refl _ _⟩
  case round =>
    obtain ⟨k, rfl, hk, hgg, rfl, hset, hst⟩ := hrel
    have HSET := Lib.hid hset
    clear hset
    by_cases hlt : k < b.length
    · have hlta : k < a.length := by have := HL.out; omega
      have HJP := Lib.hid (joinPart a b k hlta HL.out)
      have HJS := Lib.hid (join_take_step a b HL.out k hlt)
      have HIS := Lib.hid (isNew_snoc a b k hlta hlt HL.out)
      have hlen : (joinW (a.take k) (b.take k) ++ a.drop k).length = a.length := by
        have h1 : (joinW (a.take k) (b.take k)).length = k := by rw [joinW_len (by simp [HL.out])]; simp; omega
        rw [List.length_append, h1, List.length_drop]; omega
      obtain ⟨x, hx⟩ : ∃ x, x = a.getD k 0 := ⟨_, rfl⟩
      obtain ⟨y, hy⟩ : ∃ y, y = b.getD k 0 := ⟨_, rfl⟩
      have f1 := HSET.out.cell k (by omega)
      have hx64 := words_get HSET.out.ok k
      rw [HJP.out, ← hx] at f1 hx64
      have f2 := (HB.out.step hst (fun h => HNE.out h)).cell k hlt
      rw [← hy] at f2
      have hy64 : y < 18446744073709551616 := by rw [hy]; exact words_get HB.out.ok k
      obtain ⟨d, hd⟩ : ∃ d, d = y &&& (18446744073709551615 - x) := ⟨_, rfl⟩
      obtain ⟨z, hz⟩ : ∃ z, z = x ||| y := ⟨_, rfl⟩
      have HZ := Lib.hid (andnot_zero hx64 hy64)
      have HXJ : Hid ((joinW (a.take k) (b.take k) ++ a.drop k).getD k 0 = x) := by show _ = _; rw [HJP.out, hx]
      have HZ64 : Hid (z < 18446744073709551616) := by
        have := Nat.or_lt_two_pow (n := 64) (x := x) (y := y) (by simpa using hx64) (by simpa using hy64)
        show _ < _
        rw [hz]; simpa using this
      have R1 : bits .andNot .u64 (y : Int) (x : Int) = (d : Int) := val_andNot64 y x d hy64 hx64 hd
      have R2 : bits .or .u64 (x : Int) (y : Int) = (z : Int) := val_or64 x y z hx64 hy64 hz
      have hb0 : (0 : Int) ≤ (k : Int) := by omega
      have hb1 : (k : Int) < (a.length : Int) := by omega
      have hfz := blk_free HSET.out.blk k
      rw [← hx, ← hy, ← hz] at HJS HIS
      rw [← hd, ← hz] at HZ
      clear hlen hx hy hd hz
      by_cases hd0 : d = 0
      · have HN : Hid (z = x) := HZ.out.1 hd0
        have e0 : ((d : Int) != 0) = false := by simp [hd0]
        have HIS2 : Hid (isNew (a.take (k + 1)) (b.take (k + 1)) = isNew (a.take k) (b.take k)) := by show _ = _; rw [HIS.out, HN.out]; simp
        have HS2 : Hid (SetB wr ga (joinW (a.take (k + 1)) (b.take (k + 1)) ++ a.drop (k + 1))) := by
          have h := HJS.out
          rw [HN.out, ← HXJ.out, set_getD] at h
          rw [← h]; exact HSET.out
        clear hd0
        as_aux_lemma =>
          go_wp2_with fail
          go_roundg (gk - 1)
          case rel => exact ⟨k + 1, by go_num, by omega, by omega, by rw [HIS2.out], HS2.out, hst⟩
          case measure => omega
      · have HN : Hid (¬ z = x) := fun h => hd0 (HZ.out.2 h)
        have e0 : ((d : Int) != 0) = true := by simp [hd0]
        have HIS2 : Hid (isNew (a.take (k + 1)) (b.take (k + 1)) = true) := by show _ = _; rw [HIS.out, decide_eq_true (show z ≠ x from HN.out)]; simp
        have ST2 : Step (· = ga) w (wr.setCell ⟨ga, k, none⟩ (.int .u64 (z : Int))) := hst.setCell _ _ (fun _ => rfl)
        have HS2 : Hid (SetB (wr.setCell ⟨ga, k, none⟩ (.int .u64 (z : Int))) ga (joinW (a.take (k + 1)) (b.take (k + 1)) ++ a.drop (k + 1))) := by
          refine ⟨?_, ?_⟩
          · rw [← HJS.out, ← wordV_set]; exact blk_set HSET.out.blk k _
          · rw [← HJS.out]; exact words_set HSET.out.ok _ _ HZ64.out
        clear hd0
        as_aux_lemma =>
          go_wp2_with fail
          go_roundg (gk - 1)
          case rel => exact ⟨k + 1, by go_num, by omega, by omega, by rw [HIS2.out], HS2.out, ST2⟩
          case measure => omega
    · obtain rfl : k = b.length := by omega
      have HF : Hid (joinW (a.take b.length) (b.take b.length) ++ a.drop b.length = joinW a b) := by
        show _ = _
        rw [← HL.out, List.take_length, List.drop_length, List.append_nil, HL.out, List.take_length]
      have HI : Hid (isNew (a.take b.length) (b.take b.length) = isNew a b) := by
        show _ = _
        rw [← HL.out, List.take_length, HL.out, List.take_length]
      go_wp2
      go_ret
      exact ⟨ret_bool HI.out, by rw [← HF.out]; exact HSET.out, hst⟩

end Go.Proofs.Ytilipeigjkmldaa

namespace Go.Proofs.Ytilipeigjkmldaa
open Go.RowKit

/- Slices of slices of natural numbers. -/
def NatAt (w : World) (B : Nat) (l : List Nat) (cs : List Value) : Prop := ∃ v, cs = [v] ∧ Row w B v l.length (natV l)
theorem NatAt.len {w : World} {B : Nat} (l : List Nat) (cs : List Value) (h : NatAt w B l cs) : cs.length = 1 := by obtain ⟨v, rfl, _⟩ := h; rfl
theorem NatAt.one {w : World} {B : Nat} (l : List Nat) (cs : List Value) (h : NatAt w B l cs) : ∀ u ∈ cs, u.oneCell' = true := by
  obtain ⟨v, rfl, h⟩ := h
  intro u hu
  rw [List.mem_singleton.1 hu]; exact h.one
theorem NatAt.step {w w' : World} {B : Nat} {S : Nat → Prop} (hs : Step S w w') (hS : ∀ k, k < B → ¬ S k) (l : List Nat) (cs : List Value) (h : NatAt w B l cs) : NatAt w' B l cs := by
  obtain ⟨v, h1, h2⟩ := h
  exact ⟨v, h1, h2.step hs hS⟩
theorem NatAt.mono {w : World} {B B' : Nat} (hb : B ≤ B') (l : List Nat) (cs : List Value) (h : NatAt w B l cs) : NatAt w B' l cs := by
  obtain ⟨v, h1, h2⟩ := h
  exact ⟨v, h1, h2.mono hb⟩
def NRows (w : World) (B : Nat) (v : Value) (ll : List (List Nat)) : Prop := ∃ xs, Each (NatAt w B) ll xs ∧ Row w B v ll.length xs
theorem NRows.step {w w' : World} {B : Nat} {S : Nat → Prop} {v : Value} {ll : List (List Nat)} (h : NRows w B v ll) (hs : Step S w w') (hS : ∀ k, k < B → ¬ S k) : NRows w' B v ll := by
  obtain ⟨xs, h1, h2⟩ := h
  exact ⟨xs, Each.mono (NatAt.step hs hS) _ _ h1, h2.step hs hS⟩
theorem NRows.mono {w : World} {B B' : Nat} {v : Value} {ll : List (List Nat)} (h : NRows w B v ll) (hb : B ≤ B') : NRows w B' v ll := by
  obtain ⟨xs, h1, h2⟩ := h
  exact ⟨xs, Each.mono (NatAt.mono hb) _ _ h1, h2.mono hb⟩
structure Prb where
  succ : List (List Nat)
  width : Nat
  gen : List (List Nat)
  kill : List (List Nat)
  entry : List Nat
structure PrbAt (w : World) (B : Nat) (p : Prb) (vs vg vk ve : Value) : Prop where
  s : NRows w B vs p.succ
  g : NRows w B vg p.gen
  k : NRows w B vk p.kill
  e : Row w B ve p.entry.length (natV p.entry)
theorem PrbAt.step {w w' : World} {B : Nat} {S : Nat → Prop} {p : Prb} {vs vg vk ve : Value} (h : PrbAt w B p vs vg vk ve) (hs : Step S w w') (hS : ∀ k, k < B → ¬ S k) : PrbAt w' B p vs vg vk ve :=
  ⟨h.s.step hs hS, h.g.step hs hS, h.k.step hs hS, h.e.step hs hS⟩

set_option maxHeartbeats 400000 in
theorem list_at (B : Nat) (ll : List (List Nat)) (l : List Nat) (i : Nat) (v : Value) (w : World) (h : NRows w B v ll) (hl : ll[i]? = some l) :
    Calls Try.prog 77 #[v, .int .i64 i] w fun e w' => (∃ u, e = .returned u ∧ Row w B u l.length (natV l)) ∧ w = w' := by
  have hi := (List.getElem?_eq_some_iff.1 hl).1
  obtain ⟨xs, h1, a, c, rfl, hcl, hcm, -, hr⟩ := h
  obtain ⟨g, o, rfl, -, -, hcell⟩ := hr (by omega)
  obtain ⟨cs, ⟨u, rfl, hu⟩, f⟩ := Each.cells 1 NatAt.len h1 hl hcell
  have f0 := f 0 _ rfl
  rw [Nat.mul_one, Nat.add_zero] at f0
  have HU := Lib.hid hu
  obtain ⟨a2, c2, rfl, -⟩ := hu
  have e1 : decide (ll.length ≤ i) = false := decide_eq_false (by omega)
  clear f h1 hr hcell hl
  go_enter Try.func77, Try.ntmps77
  go_wp2
  go_ret
  exact ⟨⟨_, rfl, HU.out⟩, rfl⟩

set_option maxRecDepth 100000 in
set_option maxHeartbeats 1000000 in
theorem fits_any (B : Nat) (ll : List (List Nat)) (n most : Nat) (v : Value) (w : World) (h : NRows w B v ll) (hn : ll.length ≤ n) (hm : ∀ l ∈ ll, ∀ y ∈ l, y < most) :
    Calls Try.prog 76 #[v, .int .i64 n, .int .i64 most] w fun e w' => e = .returned (.bool true) ∧ w = w' := by
  obtain ⟨xs, h1, a, c, rfl, hcl, hcm, -, hr⟩ := h
  have H1 := Lib.hid h1
  have HR := Lib.hid hr
  have HM := Lib.hid hm
  have e1 : decide (n < ll.length) = false := decide_eq_false (by omega)
  clear h1 hr hm
  go_enter Try.func76, Try.ntmps76
  go_wp2_with fail
  go_loopg [8, 10, 17, 21, 22, 23] ll.length (fun gg _ _ s17 _ _ _ wr => ∃ i : Nat, s17 = .int .i64 i ∧ i ≤ ll.length ∧ ll.length - i ≤ gg ∧ wr = w)
  case atStart => exact ⟨0, rfl, Nat.zero_le _, by omega, rfl⟩
  case round =>
    obtain ⟨i, rfl, hi, hgg, rfl⟩ := hrel
    by_cases hlt : i < ll.length
    · obtain ⟨l, hl⟩ : ∃ l, ll[i]? = some l := ⟨ll[i], List.getElem?_eq_getElem hlt⟩
      obtain ⟨g, o, rfl, -, -, hcell⟩ := HR.out (by omega)
      obtain ⟨cs, ⟨u, rfl, hu⟩, f⟩ := Each.cells 1 NatAt.len H1.out hl hcell
      have f0 := f 0 _ rfl
      rw [Nat.mul_one, Nat.add_zero] at f0
      obtain ⟨a2, c2, rfl, hc2, hcm2, -, hr2⟩ := hu
      have HR2 := Lib.hid hr2
      have HML := Lib.hid (HM.out l (List.mem_of_getElem? hl))
      clear hcell f hl hr2
      obtain ⟨go1, rfl⟩ : ∃ go1, go1 = gk := ⟨_, rfl⟩
      go_wp2_with fail
      go_loopg [10, 23] l.length (fun gg _ s23 wr2 => ∃ j : Nat, s23 = .int .i64 j ∧ j ≤ l.length ∧ l.length - j ≤ gg ∧ wr2 = wr)
      case atStart => exact ⟨0, rfl, Nat.zero_le _, by omega, rfl⟩
      case round =>
        obtain ⟨j, rfl, hj, hgg2, rfl⟩ := hrel
        by_cases hlt2 : j < l.length
        · obtain ⟨x, hx⟩ : ∃ x, l[j]? = some x := ⟨l[j], List.getElem?_eq_getElem hlt2⟩
          obtain ⟨g2, o2, rfl, -, -, hcell2⟩ := HR2.out (by omega)
          have f2 := hcell2 j _ (natV_get l j x hx)
          have hxm := HML.out x (List.mem_of_getElem? hx)
          have e2 : decide ((x : Int) < 0) = false := decide_eq_false (by omega)
          have e3 : decide (most ≤ x) = false := decide_eq_false (by omega)
          clear hcell2 hx
          go_wp2
          go_roundg (gk - 1)
          case rel => exact ⟨j + 1, by go_num, by omega, by omega, rfl⟩
          case measure => omega
        · go_wp2
          go_roundg (go1 - 1)
          case rel => exact ⟨i + 1, by go_num, by omega, by omega, rfl⟩
          case measure => omega
    · go_wp2
      go_ret
      exact ⟨rfl, rfl⟩

end Go.Proofs.Ytilipeigjkmldaa
