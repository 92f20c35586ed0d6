/- Contracts: what a walk gathers. -/
import Derived.Test.YtfjkkfdpeckccaaTreeA
namespace Go.Proofs.Ytfjkkfdpeckccaa
open Go.RowKit

mutual
def seenE : Ex → List Int
  | .mk k _ _ _ args _ body _ _ => seenEs args ++ (seenS body ++ [k])
def seenEs : List Ex → List Int
  | [] => []
  | e :: r => seenE e ++ seenEs r
def seenT : St → List Int
  | .mk _ _ _ place e body els _ _ _ => seenEs place ++ (seenEs e ++ (seenS body ++ seenS els))
def seenS : List St → List Int
  | [] => []
  | s :: r => seenT s ++ seenS r
end

theorem seenEs_take (l : List Ex) (i : Nat) (e : Ex) (h : l[i]? = some e) : seenEs (l.take (i + 1)) = seenEs (l.take i) ++ seenE e := by
  induction l generalizing i with
  | nil => simp at h
  | cons a r ih =>
    cases i with
    | zero => simp at h; subst h; simp [seenEs]
    | succ i => simp at h; rw [List.take_succ_cons, List.take_succ_cons, seenEs, seenEs, ih i h, List.append_assoc]
theorem seenS_take (l : List St) (i : Nat) (e : St) (h : l[i]? = some e) : seenS (l.take (i + 1)) = seenS (l.take i) ++ seenT e := by
  induction l generalizing i with
  | nil => simp at h
  | cons a r ih =>
    cases i with
    | zero => simp at h; subst h; simp [seenS]
    | succ i => simp at h; rw [List.take_succ_cons, List.take_succ_cons, seenS, seenS, ih i h, List.append_assoc]
theorem seenEs_le (l : List Ex) (i : Nat) : (seenEs (l.take i)).length ≤ (seenEs l).length := by
  induction l generalizing i with
  | nil => simp
  | cons a r ih =>
    cases i with
    | zero => simp [seenEs]
    | succ i => rw [List.take_succ_cons, seenEs, seenEs, List.length_append, List.length_append]; have := ih i; omega
theorem seenS_le (l : List St) (i : Nat) : (seenS (l.take i)).length ≤ (seenS l).length := by
  induction l generalizing i with
  | nil => simp
  | cons a r ih =>
    cases i with
    | zero => simp [seenS]
    | succ i => rw [List.take_succ_cons, seenS, seenS, List.length_append, List.length_append]; have := ih i; omega

def intsV (l : List Int) : List Value := l.map (.int .i64)
theorem intsV_get (l : List Int) (i : Nat) (x : Int) (h : l[i]? = some x) : (intsV l)[i]? = some (.int .i64 x) := by simp [intsV, h]
theorem intsV_one (l : List Int) : ∀ u ∈ intsV l, u.oneCell' = true := by
  intro u hu
  obtain ⟨x, _, rfl⟩ := List.mem_map.1 hu
  rfl
theorem intsV_append (l r : List Int) : intsV (l ++ r) = intsV l ++ intsV r := by simp [intsV]
theorem intsV_length (l : List Int) : (intsV l).length = l.length * 1 := by simp [intsV]

set_option maxRecDepth 100000 in
set_option maxHeartbeats 400000 in
theorem ints_any (l : List Int) (v1 v2 : Value) (b1 b2 : Nat) (w : World) (h1 : Row w b1 v1 l.length (intsV l)) (h2 : Row w b2 v2 l.length (intsV l)) :
    Calls Try.prog 16 #[v1, v2] w fun e w' => e = .returned (.bool true) ∧ Step (fun _ => False) w w' := by
  obtain ⟨a1, c1, rfl, hc1, hm1, -, hr1⟩ := h1
  obtain ⟨a2, c2, rfl, hc2, hm2, -, hr2⟩ := h2
  have H1 := Lib.hid hr1
  have H2 := Lib.hid hr2
  clear hr1 hr2
  go_enter Try.func16, Try.ntmps16
  go_wp2_with fail
  go_loopg [5] l.length (fun g s5 wr => ∃ i : Nat, s5 = .int .i64 i ∧ i ≤ l.length ∧ l.length - i ≤ g ∧ ∃ n, wr = w.drewN n)
  case atStart => exact ⟨0, rfl, Nat.zero_le _, by omega, 0, rfl⟩
  case round =>
    obtain ⟨i, rfl, hi, hg, n, rfl⟩ := hrel
    by_cases hlt : i < l.length
    · obtain ⟨x, hx⟩ : ∃ x, l[i]? = some x := ⟨l[i], List.getElem?_eq_getElem hlt⟩
      obtain ⟨g1, o1, rfl, hg1, hgw1, hcell1⟩ := H1.out (by omega)
      obtain ⟨g2, o2, rfl, hg2, hgw2, hcell2⟩ := H2.out (by omega)
      have f1 := hcell1 i _ (intsV_get l i x hx)
      have f2 := hcell2 i _ (intsV_get l i x hx)
      clear hcell1 hcell2 hx
      go_wp2
      go_quiet (fail)
      go_wp2
      go_roundg (gk - 1)
      case rel => exact ⟨i + 1, by go_num, by omega, by omega, _, rfl⟩
      case measure => omega
    · go_wp2
      go_ret
      exact ⟨rfl, (Step.refl _ _).drewN _⟩

/- What a walk gathers lies in a variable of its own. -/
structure Gath (w : World) (base ab : Nat) (v : Value) (ks : List Int) : Prop where
  cell : w.heap[ab]? = some (.cells #[v] 33 (0, 0))
  own : w.ownsRow base 3 1 v ks.length (intsV ks)
  le : base ≤ w.heap.size

def Turns (ab : Nat) (v : Value) : Nat → Prop := fun k => k = ab ∨ v.ownBlock = some k
/- What is turned on the way from one world to another: the variable, its own row. -/
structure Carry (ab : Nat) (v : Value) (w : World) (v' : Value) (w' : World) : Prop where
  step : Step (Turns ab v) w w'
  own : ∀ k, v'.ownBlock = some k → v.ownBlock = some k ∨ w.heap.size ≤ k
theorem Carry.refl (ab : Nat) (v : Value) (w : World) : Carry ab v w v w := ⟨Step.refl _ _, fun _ h => .inl h⟩
theorem Carry.trans {ab : Nat} {v v1 v2 : Value} {w w1 w2 : World} (h : Carry ab v w v1 w1) (k : Carry ab v1 w1 v2 w2) : Carry ab v w v2 w2 := by
  refine ⟨h.step.then k.step fun i hi ht => ?_, fun i hi => ?_⟩
  · rcases ht with rfl | ht
    · exact .inl rfl
    · rcases h.own i ht with h1 | h1
      · exact .inr h1
      · omega
  · rcases k.own i hi with h1 | h1
    · exact h.own i h1
    · exact .inr (Nat.le_trans h.step.size h1)
theorem Carry.pre {ab : Nat} {v v' : Value} {w w1 w' : World} (hs : Step (Turns ab v) w w1) (k : Carry ab v w1 v' w') : Carry ab v w v' w' :=
  Carry.trans ⟨hs, fun _ h => .inl h⟩ k
theorem Gath.step {w w' : World} {base ab : Nat} {v : Value} {ks : List Int} (h : Gath w base ab v ks) (hs : Step (fun _ => False) w w') : Gath w' base ab v ks :=
  ⟨hs.keep h.cell (fun h => h), hs.owns h.own (fun _ _ h => h), Nat.le_trans h.le hs.size⟩
theorem Gath.lt {w : World} {base ab : Nat} {v : Value} {ks : List Int} (h : Gath w base ab v ks) : ∀ k, v.ownBlock = some k → base ≤ k ∧ k < w.heap.size := h.own.lt
theorem Carry.old {ab base B : Nat} {v : Value} {w : World} {ks : List Int} (hg : Gath w base ab v ks) (hB : B ≤ ab) (hab : ab < base) : ∀ k, k < B → ¬ Turns ab v k := by
  intro k hk ht
  rcases ht with rfl | ht
  · omega
  · have := (hg.lt k ht).1; omega
theorem ExAt.carry {ab base B : Nat} {v v' : Value} {w w' : World} {ks : List Int} {e : Ex} {cs : List Value} (h : ExAt w B e cs) (hc : Carry ab v w v' w') (hg : Gath w base ab v ks) (hB : B ≤ ab) (hab : ab < base) : ExAt w' B e cs :=
  ExAt.step hc.step (Carry.old hg hB hab) e cs h
theorem ExsAt.carry {ab base B : Nat} {v v' : Value} {w w' : World} {ks : List Int} {e : List Ex} {cs : List Value} (h : ExsAt w B e cs) (hc : Carry ab v w v' w') (hg : Gath w base ab v ks) (hB : B ≤ ab) (hab : ab < base) : ExsAt w' B e cs :=
  ExsAt.step hc.step (Carry.old hg hB hab) e cs h
theorem StsAt.carry {ab base B : Nat} {v v' : Value} {w w' : World} {ks : List Int} {e : List St} {cs : List Value} (h : StsAt w B e cs) (hc : Carry ab v w v' w') (hg : Gath w base ab v ks) (hB : B ≤ ab) (hab : ab < base) : StsAt w' B e cs :=
  StsAt.step hc.step (Carry.old hg hB hab) e cs h
theorem Row.carry {ab base B : Nat} {v v' : Value} {w w' : World} {ks : List Int} {n : Nat} {u : Value} {cs : List Value} (h : Row w B u n cs) (hc : Carry ab v w v' w') (hg : Gath w base ab v ks) (hB : B ≤ ab) (hab : ab < base) : Row w' B u n cs :=
  h.step hc.step (Carry.old hg hB hab)

def WalkPost (base ab : Nat) (v : Value) (w : World) (ks : List Int) (e : Ending) (w' : World) : Prop :=
  e = .returned (.tuple #[]) ∧ ∃ v', Gath w' base ab v' ks ∧ Carry ab v w v' w'

theorem Try.infoInt : (Try.prog.info? 3).map (fun i => (i.zero, i.size, i.bytes)) = some (some (.int .i64 0), 1, 8) := by kernel_rfl

/- A closure that gathers. -/
def Sees (k B base ab : Nat) : Prop := ∀ (e : Ex) (cs : List Value) (w : World) (v : Value) (ks : List Int) (kd : Int), ExAt w B e cs → Gath w base ab v ks → ab < base → ks.length ≤ 4000000 → cs[0]? = some (.int .i64 kd) →
  Calls Try.prog k #[.agg cs.toArray, .pointer (some ⟨ab, 0, none⟩)] w (WalkPost base ab v w (ks ++ [kd]))

set_option maxRecDepth 100000 in
set_option maxHeartbeats 400000 in
theorem sees1 (B base ab : Nat) : Sees 13 B base ab := by
  intro e cs w v ks kd h hg hab hks hkd
  obtain ⟨k, name, val, m, args, names, body, l, c⟩ := e
  rw [ExAt] at h
  obtain ⟨va, vn, vb, xa, xb, rfl, -⟩ := h
  simp at hkd
  subst hkd
  obtain ⟨i0, hi0, hz00, hz10, hz20⟩ := info_parts Try.infoInt
  have hI := Lib.hid hi0
  have hz0 := Lib.hid hz00
  have hz1 := Lib.hid hz10
  have hz2 := Lib.hid hz20
  clear hi0 hz00 hz10 hz20
  have HG := Lib.hid hg
  have hlt : ab < w.heap.size := blk_lt hg.cell
  have c0 : w.cell? ⟨ab, 0, none⟩ = some v := blk_cell hg.cell 0 _ rfl
  obtain ⟨oa, oc, rfl⟩ := owns_slice hg.own
  clear hg
  have ST0 : Step (fun _ => False) w ((w.alloc (.cells #[.int .i64 k, .string name, .int .u64 val, .bool m, va, vn, vb, .int .i64 l, .int .i64 c] 29)).alloc (.cells #[.int .i64 k] 3)) := ((Step.refl _ _).alloc _).alloc _
  have hnew := news_cells (cs := [.int .i64 k]) (blk_new2 w (.cells #[.int .i64 k, .string name, .int .u64 val, .bool m, va, vn, vb, .int .i64 l, .int .i64 c] 29) (.cells #[.int .i64 k] 3))
  have ROWN : Hid (Row ((w.alloc (.cells #[.int .i64 k, .string name, .int .u64 val, .bool m, va, vn, vb, .int .i64 l, .int .i64 c] 29)).alloc (.cells #[.int .i64 k] 3)) (w.heap.size + 2) (.slice (some ⟨w.heap.size + 1, 0, none⟩) 1 1) 1 (intsV [k])) := by
    refine ⟨_, 1, rfl, Nat.le_refl _, by decide, (fun h => by cases h), fun _ => ⟨w.heap.size + 1, 0, rfl, by omega, by simp, fun i x hx => ?_⟩⟩
    have := hnew i x hx
    rwa [add_is] at this
  clear hnew
  have HG0 := Lib.hid (HG.out.step ST0)
  go_enter Try.func13, Try.ntmps13
  go_wp2_with (at_builtin; refine wpList_append_row _ rfl (w.heap.size + 2) _ _ 33 rfl base 3 i0 (.int .i64 0) 1 8 Try.underlying33 hI.out hz0.out hz1.out hz2.out rfl (by decide) _ _ _ rfl HG0.out.own _ 1 (intsV [k]) rfl ROWN.out rfl (intsV_one _) (by unfold maxLen; omega) (by omega) HG0.out.le ?_)
  intro v' w' hown hgrow hat
  obtain ⟨oa', oc', rfl⟩ := owns_slice hown
  have hcell' : w'.heap[ab]? = some (.cells #[.slice oa ks.length oc] 33 (0, 0)) := by
    rw [hgrow.block ab (blk_lt HG0.out.cell) (fun e => by have := (HG0.out.own.lt ab e.symm).1; omega)]
    exact HG0.out.cell
  have d0 : w'.cell? ⟨ab, 0, none⟩ = some (.slice oa ks.length oc) := blk_cell hcell' 0 _ rfl
  have d1 : w'.frozen? ⟨ab, 0, none⟩ = false := blk_free hcell' 0
  have hlt' : ab < w'.heap.size := blk_lt hcell'
  have ST1 : Step (Turns ab (.slice oa ks.length oc)) w w' := (ST0.mono (fun _ _ h => h.elim)).grown hgrow (fun k hk hl => .inr hk)
  have HAT := Lib.hid hat
  have HOWN := Lib.hid hown
  have HC := Lib.hid hcell'
  clear hat hown hgrow hcell' c0
  go_wp2
  go_end0
  refine ⟨rfl, .slice oa' (ks.length + 1) oc', ⟨?_, ?_, ?_⟩, ?_, ?_⟩
  · exact blk_set HC.out 0 _
  · have := ownsRow_setCell_below HOWN.out (a := ⟨ab, 0, none⟩) hab (.slice oa' (ks.length + 1) oc')
    rw [intsV_append, List.length_append]
    exact this
  · exact Nat.le_trans HG.out.le (Nat.le_trans ST1.size (by simp [World.setCell]))
  · exact ST1.setCell _ _ (fun _ => .inl rfl)
  · intro k hk
    rcases HAT.out with h | h
    · exact .inl (by rw [← h]; exact hk)
    · rw [h] at hk
      right
      have : w.heap.size + 1 + 1 = k := by simpa using hk
      omega

set_option maxRecDepth 100000 in
set_option maxHeartbeats 400000 in
theorem sees2 (B base ab : Nat) : Sees 15 B base ab := by
  intro e cs w v ks kd h hg hab hks hkd
  obtain ⟨k, name, val, m, args, names, body, l, c⟩ := e
  rw [ExAt] at h
  obtain ⟨va, vn, vb, xa, xb, rfl, -⟩ := h
  simp at hkd
  subst hkd
  obtain ⟨i0, hi0, hz00, hz10, hz20⟩ := info_parts Try.infoInt
  have hI := Lib.hid hi0
  have hz0 := Lib.hid hz00
  have hz1 := Lib.hid hz10
  have hz2 := Lib.hid hz20
  clear hi0 hz00 hz10 hz20
  have HG := Lib.hid hg
  have hlt : ab < w.heap.size := blk_lt hg.cell
  have c0 : w.cell? ⟨ab, 0, none⟩ = some v := blk_cell hg.cell 0 _ rfl
  obtain ⟨oa, oc, rfl⟩ := owns_slice hg.own
  clear hg
  have ST0 : Step (fun _ => False) w ((w.alloc (.cells #[.int .i64 k, .string name, .int .u64 val, .bool m, va, vn, vb, .int .i64 l, .int .i64 c] 29)).alloc (.cells #[.int .i64 k] 3)) := ((Step.refl _ _).alloc _).alloc _
  have hnew := news_cells (cs := [.int .i64 k]) (blk_new2 w (.cells #[.int .i64 k, .string name, .int .u64 val, .bool m, va, vn, vb, .int .i64 l, .int .i64 c] 29) (.cells #[.int .i64 k] 3))
  have ROWN : Hid (Row ((w.alloc (.cells #[.int .i64 k, .string name, .int .u64 val, .bool m, va, vn, vb, .int .i64 l, .int .i64 c] 29)).alloc (.cells #[.int .i64 k] 3)) (w.heap.size + 2) (.slice (some ⟨w.heap.size + 1, 0, none⟩) 1 1) 1 (intsV [k])) := by
    refine ⟨_, 1, rfl, Nat.le_refl _, by decide, (fun h => by cases h), fun _ => ⟨w.heap.size + 1, 0, rfl, by omega, by simp, fun i x hx => ?_⟩⟩
    have := hnew i x hx
    rwa [add_is] at this
  clear hnew
  have HG0 := Lib.hid (HG.out.step ST0)
  go_enter Try.func15, Try.ntmps15
  go_wp2_with (at_builtin; refine wpList_append_row _ rfl (w.heap.size + 2) _ _ 33 rfl base 3 i0 (.int .i64 0) 1 8 Try.underlying33 hI.out hz0.out hz1.out hz2.out rfl (by decide) _ _ _ rfl HG0.out.own _ 1 (intsV [k]) rfl ROWN.out rfl (intsV_one _) (by unfold maxLen; omega) (by omega) HG0.out.le ?_)
  intro v' w' hown hgrow hat
  obtain ⟨oa', oc', rfl⟩ := owns_slice hown
  have hcell' : w'.heap[ab]? = some (.cells #[.slice oa ks.length oc] 33 (0, 0)) := by
    rw [hgrow.block ab (blk_lt HG0.out.cell) (fun e => by have := (HG0.out.own.lt ab e.symm).1; omega)]
    exact HG0.out.cell
  have d0 : w'.cell? ⟨ab, 0, none⟩ = some (.slice oa ks.length oc) := blk_cell hcell' 0 _ rfl
  have d1 : w'.frozen? ⟨ab, 0, none⟩ = false := blk_free hcell' 0
  have hlt' : ab < w'.heap.size := blk_lt hcell'
  have ST1 : Step (Turns ab (.slice oa ks.length oc)) w w' := (ST0.mono (fun _ _ h => h.elim)).grown hgrow (fun k hk hl => .inr hk)
  have HAT := Lib.hid hat
  have HOWN := Lib.hid hown
  have HC := Lib.hid hcell'
  clear hat hown hgrow hcell' c0
  go_wp2
  go_end0
  refine ⟨rfl, .slice oa' (ks.length + 1) oc', ⟨?_, ?_, ?_⟩, ?_, ?_⟩
  · exact blk_set HC.out 0 _
  · have := ownsRow_setCell_below HOWN.out (a := ⟨ab, 0, none⟩) hab (.slice oa' (ks.length + 1) oc')
    rw [intsV_append, List.length_append]
    exact this
  · exact Nat.le_trans HG.out.le (Nat.le_trans ST1.size (by simp [World.setCell]))
  · exact ST1.setCell _ _ (fun _ => .inl rfl)
  · intro k hk
    rcases HAT.out with h | h
    · exact .inl (by rw [← h]; exact hk)
    · rw [h] at hk
      right
      have : w.heap.size + 1 + 1 = k := by simpa using hk
      omega

end Go.Proofs.Ytfjkkfdpeckccaa
