/- The laws of moves: move, moved; two small bodies, plainly. / Contract of chattellaw19.moved: it answers true. / The body that a shape makes: how much is to be told of it. -/
import Derived.Test.YtilipeigjkmldaaFinSV
import Derived.Test.YtilipeigjkmldaaRefJN
import Derived.Test.YtilipeigjkmldaaLivedB
import Derived.Test.YtilipeigjkmldaaRefP
import Derived.Test.YtilipeigjkmldaaLawA
namespace Go.Proofs.Ytilipeigjkmldaa
open Go.RowKit

def moveI (tg fr : Int) : Ins := copyI tg [⟨3, ⟨fr, []⟩, 0, 0⟩] 1
set_option maxRecDepth 100000 in
set_option maxHeartbeats 1000000 in
theorem move_any (tg fr : Int) (w : World) : Calls Try.prog 40 #[.int .i64 tg, .int .i64 fr] w fun e w' => ∃ cs, e = .returned (.agg cs.toArray) ∧ InAt w' w'.heap.size (moveI tg fr) cs ∧ Step (fun _ => False) w w' := by
  have HONE : Hid (∀ (b : Nat), ∀ v ∈ insCells 3 0 tg (.slice none 0 0) 1 (.slice (some ⟨b, 0, none⟩) 1 1) 0 (.slice none 0 0) false 0 0 0 (.slice none 0 0) 0 0 0 0, v.oneCell' = true) :=
    fun b v hv => List.all_eq_true.1 (show (insCells 3 0 tg (.slice none 0 0) 1 (.slice (some ⟨b, 0, none⟩) 1 1) 0 (.slice none 0 0) false 0 0 0 (.slice none 0 0) 0 0 0 0).all (fun v => v.oneCell') = true from rfl) v hv
  go_enter Try.func40, Try.ntmps40
  go_upto_region 2 with fail
  have o0 := blk_cell (blk_new2 w (.cells (insCells 0 0 0 (.slice none 0 0) 0 (.slice none 0 0) 0 (.slice none 0 0) false 0 0 0 (.slice none 0 0) 0 0 0 0).toArray 57) (.cells #[.int .i64 3, .int .i64 fr, .slice none 0 0, .int .i64 0, .int .u64 0] 53)) 0 _ rfl
  have o1 := blk_cell (blk_new2 w (.cells (insCells 0 0 0 (.slice none 0 0) 0 (.slice none 0 0) 0 (.slice none 0 0) false 0 0 0 (.slice none 0 0) 0 0 0 0).toArray 57) (.cells #[.int .i64 3, .int .i64 fr, .slice none 0 0, .int .i64 0, .int .u64 0] 53)) 1 _ rfl
  have o2 := blk_cell (blk_new2 w (.cells (insCells 0 0 0 (.slice none 0 0) 0 (.slice none 0 0) 0 (.slice none 0 0) false 0 0 0 (.slice none 0 0) 0 0 0 0).toArray 57) (.cells #[.int .i64 3, .int .i64 fr, .slice none 0 0, .int .i64 0, .int .u64 0] 53)) 2 _ rfl
  have o3 := blk_cell (blk_new2 w (.cells (insCells 0 0 0 (.slice none 0 0) 0 (.slice none 0 0) 0 (.slice none 0 0) false 0 0 0 (.slice none 0 0) 0 0 0 0).toArray 57) (.cells #[.int .i64 3, .int .i64 fr, .slice none 0 0, .int .i64 0, .int .u64 0] 53)) 3 _ rfl
  have o4 := blk_cell (blk_new2 w (.cells (insCells 0 0 0 (.slice none 0 0) 0 (.slice none 0 0) 0 (.slice none 0 0) false 0 0 0 (.slice none 0 0) 0 0 0 0).toArray 57) (.cells #[.int .i64 3, .int .i64 fr, .slice none 0 0, .int .i64 0, .int .u64 0] 53)) 4 _ rfl
  go_wp2_with (refine wpList_store_part (w := _) rfl 57 (.tmp 4) (.tmp 14) rfl w.heap.size 0 57 _ (insCells 3 0 tg (.slice none 0 0) 1 (.slice (some ⟨w.heap.size + 2, 0, none⟩) 1 1) 0 (.slice none 0 0) false 0 0 0 (.slice none 0 0) 0 0 0 0) rfl rfl (blk_alloc (blk_alloc (blk_new _ _))) Try.sizeIns2 (Nat.le_of_eq rfl) (HONE.out _) ?_; intro w3 hb3 hst3)
  have hn := blk_new ((w.alloc (.cells (insCells 0 0 0 (.slice none 0 0) 0 (.slice none 0 0) 0 (.slice none 0 0) false 0 0 0 (.slice none 0 0) 0 0 0 0).toArray 57)).alloc (.cells #[.int .i64 3, .int .i64 fr, .slice none 0 0, .int .i64 0, .int .u64 0] 53)) (.cells #[.int .i64 3, .int .i64 fr, .slice none 0 0, .int .i64 0, .int .u64 0] 53)
  have e2 : ((w.alloc (.cells (insCells 0 0 0 (.slice none 0 0) 0 (.slice none 0 0) 0 (.slice none 0 0) false 0 0 0 (.slice none 0 0) 0 0 0 0).toArray 57)).alloc (.cells #[.int .i64 3, .int .i64 fr, .slice none 0 0, .int .i64 0, .int .u64 0] 53)).heap.size = w.heap.size + 2 := by simp
  rw [e2] at hn
  have hn3 := hst3.keep hn (show ¬ w.heap.size + 2 = w.heap.size by omega)
  have hb3' : w3.heap[w.heap.size]? = some (.cells (insCells 3 0 tg (.slice none 0 0) 1 (.slice (some ⟨w.heap.size + 2, 0, none⟩) 1 1) 0 (.slice none 0 0) false 0 0 0 (.slice none 0 0) 0 0 0 0).toArray 57 (0, 0)) := hb3
  refine bodyPost_ret (v := .agg (insCells 3 0 tg (.slice none 0 0) 1 (.slice (some ⟨w.heap.size + 2, 0, none⟩) 1 1) 0 (.slice none 0 0) false 0 0 0 (.slice none 0 0) 0 0 0 0).toArray) ?_ rfl ⟨_, rfl, copyI_at tg 1 [⟨3, ⟨fr, []⟩, 0, 0⟩] _ [.int .i64 3, .int .i64 fr, .slice none 0 0, .int .i64 0, .int .u64 0] (Each.single ⟨_, rfl, Row.nil _ _ _⟩) ((Row.new hn3 (by decide)).mono (blk_lt hn3)), ?_⟩
  · exact results_cellB rfl _ w.heap.size 57 _ _ rfl hb3' Try.underlying57 rfl Try.sizeIns2
  · exact ((((Step.refl (fun _ => False) w).alloc _).alloc _).alloc _).then hst3 (fun i hi h => by omega)

def mvB (t1 f1 t2 f2 : Int) : Bod := ⟨⟨#[]⟩, 1, 3, [moveI t1 f1, moveI t2 f2, retIns]⟩
def pl0 : Pl := ⟨0, []⟩
def pl1 : Pl := ⟨1, []⟩
def pl2 : Pl := ⟨2, []⟩
def mvT1 : List (List Pl) := [[pl0, pl2], [pl2, pl1], [pl2, pl1]]
def mvT2 : List (List Pl) := [[pl0, pl2], [pl0, pl1], [pl1, pl2]]
theorem mvB_ok1 : bodOk (mvB 0 1 0 1) := by
  refine ⟨by decide, fun i hi => ?_⟩
  rcases (show i = 0 ∨ i = 1 ∨ i = 2 by simp [mvB] at hi; omega) with rfl | rfl | rfl <;> decide
theorem mvB_ok2 : bodOk (mvB 2 1 0 2) := by
  refine ⟨by decide, fun i hi => ?_⟩
  rcases (show i = 0 ∨ i = 1 ∨ i = 2 by simp [mvB] at hi; omega) with rfl | rfl | rfl <;> decide
theorem three {P : Nat → Prop} (h0 : P 0) (h1 : P 1) (h2 : P 2) : ∀ i, i < 3 → P i := by
  intro i hi
  rcases (show i = 0 ∨ i = 1 ∨ i = 2 by omega) with rfl | rfl | rfl
  · exact h0
  · exact h1
  · exact h2
theorem all_hasF {l r : List Pl} (h : l.all (hasF r) = true) : ∀ q ∈ l, q ∈ r := fun q hq => hasF_iff.1 (List.all_eq_true.1 h q hq)
/- A table of lists that says what may be missing. -/
theorem mv_done {b : Bod} {ls : List (List Pl)} (hok : bodOk b) (h3 : b.code.length = 3) (hl : ls.length = 3) (hs : ∀ i, i < 3 → ∀ q ∈ ls.getD i [], MissP b i q) (hn : ∀ i, i < 3 → (ls.getD i []).Nodup) (he : (firstTo b b.locals).all (hasF (ls.getD 0 [])) = true)
    (hc : ∀ i, i < 3 → (succB b i).all (fun t => (stepL (accB b i) (ls.getD i [])).all (hasF (ls.getD t.toNat []))) = true) {i : Nat} (hi : i < 3) (q : Pl) : q ∈ ls.getD i [] ↔ MissP b i q := by
  have hinv : AllInv b ls := by
    refine ⟨by rw [hl, h3], fun i l h q hq => ?_, fun i l h => ?_, all_hasF he⟩
    · have hi : i < 3 := by rw [← hl]; exact (List.getElem?_eq_some_iff.1 h).1
      exact hs i hi q (by rw [getD_nil h]; exact hq)
    · have hi : i < 3 := by rw [← hl]; exact (List.getElem?_eq_some_iff.1 h).1
      have := hn i hi
      rwa [getD_nil h] at this
  refine hinv.done hok (by omega) (fun j hj _ t ht q hq => ?_) (by omega) q
  exact all_hasF (List.all_eq_true.1 (hc j (by omega)) t ht) q hq
theorem pls_nodup {a b : Pl} (h : sameF a b = false) : [a, b].Nodup := by
  simp only [List.nodup_cons, List.mem_singleton, List.not_mem_nil, not_false_iff, List.nodup_nil, and_true]
  intro e
  rw [sameF_iff.2 e] at h; cases h
theorem mv1_miss {i : Nat} (hi : i < 3) (q : Pl) : q ∈ mvT1.getD i [] ↔ MissP (mvB 0 1 0 1) i q := by
  have r0 : Rch (mvB 0 1 0 1) 0 := .zero
  have r1 : Rch (mvB 0 1 0 1) 1 := .step (t := 1) r0 (by decide)
  have m00 : MissP (mvB 0 1 0 1) 0 pl0 := .entry (k := 0) (by decide) (by decide)
  have m02 : MissP (mvB 0 1 0 1) 0 pl2 := .entry (k := 2) (by decide) (by decide)
  have m12 : MissP (mvB 0 1 0 1) 1 pl2 := .keep (t := 1) m02 (by decide) (by decide)
  have m11 : MissP (mvB 0 1 0 1) 1 pl1 := .gen (t := 1) r0 (by decide) (by decide)
  have m22 : MissP (mvB 0 1 0 1) 2 pl2 := .keep (t := 2) m12 (by decide) (by decide)
  have m21 : MissP (mvB 0 1 0 1) 2 pl1 := .gen (t := 2) r1 (by decide) (by decide)
  refine mv_done (ls := mvT1) mvB_ok1 rfl rfl (three ?_ ?_ ?_) (three (pls_nodup (by decide)) (pls_nodup (by decide)) (pls_nodup (by decide))) (by decide) (three (by decide) (by decide) (by decide)) hi q
  · intro q hq
    rcases List.mem_cons.1 hq with rfl | hq
    · exact m00
    · rw [List.mem_singleton.1 hq]; exact m02
  · intro q hq
    rcases List.mem_cons.1 hq with rfl | hq
    · exact m12
    · rw [List.mem_singleton.1 hq]; exact m11
  · intro q hq
    rcases List.mem_cons.1 hq with rfl | hq
    · exact m22
    · rw [List.mem_singleton.1 hq]; exact m21
theorem mv2_miss {i : Nat} (hi : i < 3) (q : Pl) : q ∈ mvT2.getD i [] ↔ MissP (mvB 2 1 0 2) i q := by
  have r0 : Rch (mvB 2 1 0 2) 0 := .zero
  have r1 : Rch (mvB 2 1 0 2) 1 := .step (t := 1) r0 (by decide)
  have m00 : MissP (mvB 2 1 0 2) 0 pl0 := .entry (k := 0) (by decide) (by decide)
  have m02 : MissP (mvB 2 1 0 2) 0 pl2 := .entry (k := 2) (by decide) (by decide)
  have m10 : MissP (mvB 2 1 0 2) 1 pl0 := .keep (t := 1) m00 (by decide) (by decide)
  have m11 : MissP (mvB 2 1 0 2) 1 pl1 := .gen (t := 1) r0 (by decide) (by decide)
  have m21 : MissP (mvB 2 1 0 2) 2 pl1 := .keep (t := 2) m11 (by decide) (by decide)
  have m22 : MissP (mvB 2 1 0 2) 2 pl2 := .gen (t := 2) r1 (by decide) (by decide)
  refine mv_done (ls := mvT2) mvB_ok2 rfl rfl (three ?_ ?_ ?_) (three (pls_nodup (by decide)) (pls_nodup (by decide)) (pls_nodup (by decide))) (by decide) (three (by decide) (by decide) (by decide)) hi q
  · intro q hq
    rcases List.mem_cons.1 hq with rfl | hq
    · exact m00
    · rw [List.mem_singleton.1 hq]; exact m02
  · intro q hq
    rcases List.mem_cons.1 hq with rfl | hq
    · exact m10
    · rw [List.mem_singleton.1 hq]; exact m11
  · intro q hq
    rcases List.mem_cons.1 hq with rfl | hq
    · exact m21
    · rw [List.mem_singleton.1 hq]; exact m22

end Go.Proofs.Ytilipeigjkmldaa

namespace Go.Proofs.Ytilipeigjkmldaa
open Go.RowKit

theorem mvB_small (t1 f1 t2 f2 : Int) : BodSmall (mvB t1 f1 t2 f2) := by
  refine ⟨by show (3 : Nat) ≤ 100000; decide, fun i x hx => ?_⟩
  have hm : x ∈ (mvB t1 f1 t2 f2).code := List.mem_of_getElem? hx
  simp [mvB] at hm
  rcases hm with rfl | rfl | rfl <;> simp [moveI, copyI, retIns, mkI]
theorem mvB_path (t1 f1 t2 f2 : Int) : ∀ i a, a ∈ accB (mvB t1 f1 t2 f2) i → a.pl.path.length ≤ 1000000 := by
  intro i a ha
  have h0 : a.pl.path = [] := by
    unfold accB at ha
    cases hx : (mvB t1 f1 t2 f2).code[i]? with
    | none => rw [hx] at ha; cases ha
    | some x =>
      rw [hx] at ha
      have hm : x ∈ (mvB t1 f1 t2 f2).code := List.mem_of_getElem? hx
      simp [mvB] at hm
      rcases hm with rfl | rfl | rfl
      · simp [accI, moveI, copyI, opAcc] at ha
        rcases ha with rfl | rfl <;> rfl
      · simp [accI, moveI, copyI, opAcc] at ha
        rcases ha with rfl | rfl <;> rfl
      · exact (show ∀ a ∈ accI 3 retIns, a.pl.path = [] by decide) a ha
  rw [h0]; simp
theorem mvB_want1 : (wantB (mvB 0 1 0 1)).length ≤ 4000 := by decide
theorem mvB_want2 : (wantB (mvB 2 1 0 2)).length ≤ 4000 := by decide
theorem mv1_list (p : Nat → Bool) (h : ∀ i, i < (mvB 0 1 0 1).code.length → (p i = true ↔ (Rch (mvB 0 1 0 1) i ∧ WrongP (mvB 0 1 0 1) i))) : ints ((List.range 3).filter p) = [1] := by
  have hw : ∀ i, i < 3 → (WrongP (mvB 0 1 0 1) i ↔ ((mvT1.getD i []).any (fun q => wrongR (accB (mvB 0 1 0 1) i) [q]) || wrongR (accB (mvB 0 1 0 1) i) []) = true) := fun i hi => (wrongP_iff (fun q => mv1_miss hi q)).symm
  have p0 : p 0 = false := by
    cases e : p 0 with
    | false => rfl
    | true => exact absurd ((hw 0 (by decide)).1 ((h 0 (by decide)).1 e).2) (by decide)
  have p1 : p 1 = true := (h 1 (by decide)).2 ⟨.step (t := 1) .zero (by decide), (hw 1 (by decide)).2 (by decide)⟩
  have p2 : p 2 = false := by
    cases e : p 2 with
    | false => rfl
    | true => exact absurd ((hw 2 (by decide)).1 ((h 2 (by decide)).1 e).2) (by decide)
  rw [show List.range 3 = [0, 1, 2] from rfl]
  simp [List.filter, p0, p1, p2, ints]
theorem mv2_list (p : Nat → Bool) (h : ∀ i, i < (mvB 2 1 0 2).code.length → (p i = true ↔ (Rch (mvB 2 1 0 2) i ∧ WrongP (mvB 2 1 0 2) i))) : ints ((List.range 3).filter p) = [] := by
  have hw : ∀ i, i < 3 → (WrongP (mvB 2 1 0 2) i ↔ ((mvT2.getD i []).any (fun q => wrongR (accB (mvB 2 1 0 2) i) [q]) || wrongR (accB (mvB 2 1 0 2) i) []) = true) := fun i hi => (wrongP_iff (fun q => mv2_miss hi q)).symm
  have p0 : p 0 = false := by
    cases e : p 0 with
    | false => rfl
    | true => exact absurd ((hw 0 (by decide)).1 ((h 0 (by decide)).1 e).2) (by decide)
  have p1 : p 1 = false := by
    cases e : p 1 with
    | false => rfl
    | true => exact absurd ((hw 1 (by decide)).1 ((h 1 (by decide)).1 e).2) (by decide)
  have p2 : p 2 = false := by
    cases e : p 2 with
    | false => rfl
    | true => exact absurd ((hw 2 (by decide)).1 ((h 2 (by decide)).1 e).2) (by decide)
  rw [show List.range 3 = [0, 1, 2] from rfl]
  simp [List.filter, p0, p1, p2, ints]

/- What has come up so far in a statement that makes a body of two moves. -/
def LocM (X : World) (v : Value) : Prop := ∃ gl, v = .slice (some ⟨gl, 0, none⟩) 3 3 ∧ gl < X.heap.size
def InsM (tg fr : Int) (X : World) (v : Value) : Prop := ∃ cs, v = .agg cs.toArray ∧ InAt X X.heap.size (moveI tg fr) cs
def CodeM (b : Bod) (X : World) (v : Value) : Prop := ∃ gc xs, v = .slice (some ⟨gc, 0, none⟩) 3 3 ∧ X.heap[gc]? = some (.cells xs.toArray 57 (0, 0)) ∧ Each (InAt X X.heap.size) b.code xs
def BodM (b : Bod) (X : World) (v : Value) : Prop := ∃ g vl vc, v = .pointer (some ⟨g, 0, none⟩) ∧ X.heap[g]? = some (.cells #[.string ⟨#[]⟩, .int .i64 1, vl, vc] 29 (0, 0)) ∧ LocM X vl ∧ CodeM b X vc
structure MovJ (t1 f1 t2 f2 : Int) (w0 : World) (L : Nat → Bool) (V : Nat → Value) (X : World) : Prop where
  st : Step (fun _ => False) w0 X
  p0 : L 0 = true → LocM X (V 0)
  p1 : L 1 = true → InsM t1 f1 X (V 1)
  p2 : L 2 = true → InsM t2 f2 X (V 2)
  p3 : L 3 = true → V 3 = .agg (insCells 6 0 0 (.slice none 0 0) 0 (.slice none 0 0) 0 (.slice none 0 0) false 0 0 0 (.slice none 0 0) 0 0 0 0).toArray
  p4 : L 4 = true → CodeM (mvB t1 f1 t2 f2) X (V 4)
  p5 : L 5 = true → ∃ vl vc, V 5 = .agg #[.string ⟨#[]⟩, .int .i64 1, vl, vc] ∧ LocM X vl ∧ CodeM (mvB t1 f1 t2 f2) X vc
  p6 : L 6 = true → BodM (mvB t1 f1 t2 f2) X (V 6)
  p7 : L 7 = true → BodM (mvB t1 f1 t2 f2) X (V 7)
section
variable {X X' : World} {v : Value} {b : Bod} {t1 f1 t2 f2 : Int}
theorem LocM.step (h : LocM X v) (hs : Step (fun _ => False) X X') : LocM X' v := by
  obtain ⟨g, h1, h2⟩ := h; exact ⟨g, h1, Nat.lt_of_lt_of_le h2 hs.size⟩
theorem CodeM.step (h : CodeM b X v) (hs : Step (fun _ => False) X X') : CodeM b X' v := by
  obtain ⟨g, xs, h1, h2, h3⟩ := h
  exact ⟨g, xs, h1, hs.keep h2 (fun h => h), Each.mono (fun t cs ht => InAt.mono hs.size _ _ (InAt.step hs (fun _ _ h => h) t cs ht)) _ _ h3⟩
theorem InsM.step (h : InsM t1 f1 X v) (hs : Step (fun _ => False) X X') : InsM t1 f1 X' v := by
  obtain ⟨cs, h1, h2⟩ := h
  exact ⟨cs, h1, InAt.mono hs.size _ _ (InAt.step hs (fun _ _ h => h) _ _ h2)⟩
theorem BodM.step (h : BodM b X v) (hs : Step (fun _ => False) X X') : BodM b X' v := by
  obtain ⟨g, vl, vc, h1, h2, h3, h4⟩ := h
  exact ⟨g, vl, vc, h1, hs.keep h2 (fun h => h), h3.step hs, h4.step hs⟩
theorem MovJ.step {w0 : World} {L : Nat → Bool} {V : Nat → Value} (h : MovJ t1 f1 t2 f2 w0 L V X) (hs : Step (fun _ => False) X X') : MovJ t1 f1 t2 f2 w0 L V X' :=
  { h with
    st := h.st.trans hs
    p0 := fun e => (h.p0 e).step hs
    p1 := fun e => (h.p1 e).step hs
    p2 := fun e => (h.p2 e).step hs
    p4 := fun e => (h.p4 e).step hs
    p5 := fun e => let ⟨vl, vc, h1, h2, h3⟩ := h.p5 e; ⟨vl, vc, h1, h2.step hs, h3.step hs⟩
    p6 := fun e => (h.p6 e).step hs
    p7 := fun e => (h.p7 e).step hs }
theorem BodM.bodp (h : BodM (mvB t1 f1 t2 f2) X v) : ∃ g, v = .pointer (some ⟨g, 0, none⟩) ∧ BodP X X.heap.size g (mvB t1 f1 t2 f2) := by
  obtain ⟨g, vl, vc, h1, h2, ⟨gl, rfl, h3⟩, ⟨gc, xs, rfl, h4, h5⟩⟩ := h
  refine ⟨g, h1, blk_lt h2, blk_lt h2, _, ⟨.slice (some ⟨gl, 0, none⟩) 3 3, .slice (some ⟨gc, 0, none⟩) 3 3, [], xs, rfl, ?_, h5, (Row.new h4 (by decide)).mono (blk_lt h4)⟩, fun i x hx => blk_cell h2 i x (by simpa [mvB] using hx)⟩
  exact ⟨_, 3, rfl, Nat.le_refl _, by decide, (fun h => nomatch h), fun _ => ⟨gl, 0, rfl, h3, h3, fun i x hx => by simp at hx⟩⟩
end

set_option maxRecDepth 100000 in
set_option maxHeartbeats 4000000 in
theorem moved_any (w : World) : Calls Try.prog 20 #[] w fun e w' => e = .returned (.bool true) ∧ Step (fun _ => False) w w' := by
  obtain ⟨lc, HLC⟩ := make_locals 3 3 rfl (by decide)
  have HLCH := Lib.hid HLC
  obtain ⟨i0, hi0, hz0, hz1, hz2⟩ := info_parts Try.infoIns
  have HI := Lib.hid hi0
  have HZ0 := Lib.hid hz0
  have HZ1 := Lib.hid hz1
  clear hi0 hz0 hz1 hz2 HLC
  go_enter Try.func20, Try.ntmps20
  go_upto_region 1 with fail
  go_cut [1] (fun s1 wx => ∃ g, s1 = .pointer (some ⟨g, 0, none⟩) ∧ BodP wx wx.heap.size g (mvB 0 1 0 1) ∧ Step (fun _ => False) w wx)
  case first =>
    refine wp_region_rely (by kernel_rfl) (MovJ 0 1 0 1 w) 8 rfl (by kernel_rfl) (by kernel_rfl) (by kernel_rfl) (by kernel_rfl) ?h0 ?hs ?hdone
    case h0 => exact ⟨(Step.refl _ _).drew, (fun h => nomatch h), (fun h => nomatch h), (fun h => nomatch h), (fun h => nomatch h), (fun h => nomatch h), (fun h => nomatch h), (fun h => nomatch h), (fun h => nomatch h)⟩
    case hs =>
      refine ⟨?_, ?_, ?_, ?_, ?_, ?_, ?_, ?_, trivial⟩
      · intro L V X a ev evo hL hdep hJ
        have HLC := HLCH.out
        go_simp
        exact ⟨_, rfl, { hJ.step ((Step.refl _ _).alloc _) with p0 := fun _ => ⟨X.heap.size, rfl, by simp⟩ }⟩
      · intro L V X a ev evo hL hdep hJ
        go_simp
        refine (move_any 0 1 X).mono ?_
        rintro e w1 ⟨cs, rfl, hin, h1⟩
        exact ⟨_, rfl, { hJ.step h1 with p1 := fun _ => ⟨cs, rfl, hin⟩ }⟩
      · intro L V X a ev evo hL hdep hJ
        go_simp
        refine (move_any 0 1 X).mono ?_
        rintro e w1 ⟨cs, rfl, hin, h1⟩
        exact ⟨_, rfl, { hJ.step h1 with p2 := fun _ => ⟨cs, rfl, hin⟩ }⟩
      · intro L V X a ev evo hL hdep hJ
        go_simp
        exact ⟨_, rfl, { hJ with p3 := fun _ => rfl }⟩
      · intro L V X a ev evo hL hdep hJ
        obtain ⟨cs1, hv1, hin1⟩ := hJ.p1 (hdep 1 rfl)
        have e1 := (ev 1 8 rfl (hdep 1 rfl)).trans hv1
        obtain ⟨cs, hv2, hin⟩ := hJ.p2 (hdep 2 rfl)
        have e2 := (ev 2 9 rfl (hdep 2 rfl)).trans hv2
        have e3 := (ev 3 10 rfl (hdep 3 rfl)).trans (hJ.p3 (hdep 3 rfl))
        have hl1 := InAt.len _ _ hin1
        have hl := InAt.len _ _ hin
        refine wp_slice_many 27 3 _ rfl 57 i0 _ [cs1, cs, insCells 6 0 0 (.slice none 0 0) 0 (.slice none 0 0) 0 (.slice none 0 0) false 0 0 0 (.slice none 0 0) 0 0 0 0] 21 rfl ?_ Try.underlying27 HI.out HZ0.out HZ1.out ?_ (by simp) (by simp) ?_
        · simp [evalTmp, e1, e2, e3]
        · intro vs hvs
          simp at hvs
          rcases hvs with rfl | rfl | rfl
          · exact hl1
          · exact hl
          · rfl
        · have hs : Step (fun _ => False) X (X.alloc (.cells ([cs1, cs, insCells 6 0 0 (.slice none 0 0) 0 (.slice none 0 0) 0 (.slice none 0 0) false 0 0 0 (.slice none 0 0) 0 0 0 0] : List (List Value)).flatten.toArray 57)) := (Step.refl _ _).alloc _
          refine ⟨_, rfl, { hJ.step hs with p4 := fun _ => ⟨X.heap.size, _, rfl, blk_new _ _, ?_⟩ }⟩
          have hin2 := InAt.mono hs.size _ _ (InAt.step hs (fun _ _ h => h) _ _ hin)
          have hin3 := InAt.mono hs.size _ _ (InAt.step hs (fun _ _ h => h) _ _ hin1)
          rw [mvB]
          simp only [List.flatten_cons, List.flatten_nil]
          rw [Each]
          refine ⟨_, _, rfl, hin3, ?_⟩
          rw [Each]
          refine ⟨_, _, rfl, hin2, ?_⟩
          rw [Each]
          exact ⟨_, _, rfl, insAt (Row.nil _ _ _) Each.nil (Row.nil _ _ _) (Row.nil _ _ _) (Row.nil _ _ _), Each.nil⟩
      · intro L V X a ev evo hL hdep hJ
        obtain ⟨gl, hv0, hgl⟩ := hJ.p0 (hdep 0 rfl)
        have h4 := hJ.p4 (hdep 4 rfl)
        obtain ⟨gc, xs, hv4, hb4, hx4⟩ := h4
        have e0 := (ev 0 7 rfl (hdep 0 rfl)).trans hv0
        have e4 := (ev 4 11 rfl (hdep 4 rfl)).trans hv4
        go_simp
        exact ⟨_, rfl, { hJ with p5 := fun _ => ⟨_, _, rfl, ⟨gl, rfl, hgl⟩, ⟨gc, xs, rfl, hb4, hx4⟩⟩ }⟩
      · intro L V X a ev evo hL hdep hJ
        obtain ⟨vl, vc, hv5, hl5, hc5⟩ := hJ.p5 (hdep 5 rfl)
        have e5 := (ev 5 12 rfl (hdep 5 rfl)).trans hv5
        obtain ⟨gl, rfl, hgl⟩ := hl5
        obtain ⟨gc, xs, rfl, hb4, hx4⟩ := hc5
        have hl5 : LocM X (.slice (some ⟨gl, 0, none⟩) 3 3) := ⟨gl, rfl, hgl⟩
        have hc5 : CodeM (mvB 0 1 0 1) X (.slice (some ⟨gc, 0, none⟩) 3 3) := ⟨gc, xs, rfl, hb4, hx4⟩
        go_simp
        have hs : ∀ o, Step (fun _ => False) X (X.alloc o) := fun o => (Step.refl _ _).alloc _
        exact ⟨_, rfl, { hJ.step (hs _) with p6 := fun _ => ⟨X.heap.size, _, _, rfl, blk_new _ _, hl5.step (hs _), hc5.step (hs _)⟩ }⟩
      · intro L V X a ev evo hL hdep hJ
        have h6 := hJ.p6 (hdep 6 rfl)
        obtain ⟨g, vl, vc, hv6, -⟩ := id h6
        have e6 := (ev 6 13 rfl (hdep 6 rfl)).trans hv6
        rw [hv6] at h6
        go_simp
        exact ⟨_, rfl, { hJ with p7 := fun _ => h6 }⟩
    case hdone =>
      intro L V X hall hJ
      obtain ⟨g, hv, hb⟩ := (hJ.p7 (hall 7 (by decide))).bodp
      rw [show List.range 8 = [0, 1, 2, 3, 4, 5, 6, 7] from rfl]
      simp only [putF, dstO, List.getElem?_toArray, List.getElem?_cons_zero, List.getElem?_cons_succ, Option.bind_some, Act.put, List.setIfInBounds_toArray, List.set_cons_zero, List.set_cons_succ]
      go_wp2_with fail
      go_meet
      case rel => exact ⟨g, by first | exact hv | rfl, hb, hJ.st⟩
  case rest =>
    obtain ⟨w1, rfl⟩ : ∃ w1 : World, w1 = wc := ⟨_, rfl⟩
    obtain ⟨g1, rfl, hb1, hst1⟩ := hcut
    go_upto_region 2 with fail
    go_cut [2] (fun s2 wx => ∃ g, s2 = .pointer (some ⟨g, 0, none⟩) ∧ BodP wx wx.heap.size g (mvB 2 1 0 2) ∧ Step (fun _ => False) w1 wx)
    case first =>
      refine wp_region_rely (by kernel_rfl) (MovJ 2 1 0 2 w1) 8 rfl (by kernel_rfl) (by kernel_rfl) (by kernel_rfl) (by kernel_rfl) ?h0 ?hs ?hdone
      case h0 => exact ⟨(Step.refl _ _).drew, (fun h => nomatch h), (fun h => nomatch h), (fun h => nomatch h), (fun h => nomatch h), (fun h => nomatch h), (fun h => nomatch h), (fun h => nomatch h), (fun h => nomatch h)⟩
      case hs =>
        refine ⟨?_, ?_, ?_, ?_, ?_, ?_, ?_, ?_, trivial⟩
        · intro L V X a ev evo hL hdep hJ
          have HLC := HLCH.out
          go_simp
          exact ⟨_, rfl, { hJ.step ((Step.refl _ _).alloc _) with p0 := fun _ => ⟨X.heap.size, rfl, by simp⟩ }⟩
        · intro L V X a ev evo hL hdep hJ
          go_simp
          refine (move_any 2 1 X).mono ?_
          rintro e w1 ⟨cs, rfl, hin, h1⟩
          exact ⟨_, rfl, { hJ.step h1 with p1 := fun _ => ⟨cs, rfl, hin⟩ }⟩
        · intro L V X a ev evo hL hdep hJ
          go_simp
          refine (move_any 0 2 X).mono ?_
          rintro e w1 ⟨cs, rfl, hin, h1⟩
          exact ⟨_, rfl, { hJ.step h1 with p2 := fun _ => ⟨cs, rfl, hin⟩ }⟩
        · intro L V X a ev evo hL hdep hJ
          go_simp
          exact ⟨_, rfl, { hJ with p3 := fun _ => rfl }⟩
        · intro L V X a ev evo hL hdep hJ
          obtain ⟨cs1, hv1, hin1⟩ := hJ.p1 (hdep 1 rfl)
          have e1 := (ev 1 15 rfl (hdep 1 rfl)).trans hv1
          obtain ⟨cs, hv2, hin⟩ := hJ.p2 (hdep 2 rfl)
          have e2 := (ev 2 16 rfl (hdep 2 rfl)).trans hv2
          have e3 := (ev 3 17 rfl (hdep 3 rfl)).trans (hJ.p3 (hdep 3 rfl))
          have hl1 := InAt.len _ _ hin1
          have hl := InAt.len _ _ hin
          refine wp_slice_many 27 3 _ rfl 57 i0 _ [cs1, cs, insCells 6 0 0 (.slice none 0 0) 0 (.slice none 0 0) 0 (.slice none 0 0) false 0 0 0 (.slice none 0 0) 0 0 0 0] 21 rfl ?_ Try.underlying27 HI.out HZ0.out HZ1.out ?_ (by simp) (by simp) ?_
          · simp [evalTmp, e1, e2, e3]
          · intro vs hvs
            simp at hvs
            rcases hvs with rfl | rfl | rfl
            · exact hl1
            · exact hl
            · rfl
          · have hs : Step (fun _ => False) X (X.alloc (.cells ([cs1, cs, insCells 6 0 0 (.slice none 0 0) 0 (.slice none 0 0) 0 (.slice none 0 0) false 0 0 0 (.slice none 0 0) 0 0 0 0] : List (List Value)).flatten.toArray 57)) := (Step.refl _ _).alloc _
            refine ⟨_, rfl, { hJ.step hs with p4 := fun _ => ⟨X.heap.size, _, rfl, blk_new _ _, ?_⟩ }⟩
            have hin2 := InAt.mono hs.size _ _ (InAt.step hs (fun _ _ h => h) _ _ hin)
            have hin3 := InAt.mono hs.size _ _ (InAt.step hs (fun _ _ h => h) _ _ hin1)
            rw [mvB]
            simp only [List.flatten_cons, List.flatten_nil]
            rw [Each]
            refine ⟨_, _, rfl, hin3, ?_⟩
            rw [Each]
            refine ⟨_, _, rfl, hin2, ?_⟩
            rw [Each]
            exact ⟨_, _, rfl, insAt (Row.nil _ _ _) Each.nil (Row.nil _ _ _) (Row.nil _ _ _) (Row.nil _ _ _), Each.nil⟩
        · intro L V X a ev evo hL hdep hJ
          obtain ⟨gl, hv0, hgl⟩ := hJ.p0 (hdep 0 rfl)
          have h4 := hJ.p4 (hdep 4 rfl)
          obtain ⟨gc, xs, hv4, hb4, hx4⟩ := h4
          have e0 := (ev 0 14 rfl (hdep 0 rfl)).trans hv0
          have e4 := (ev 4 18 rfl (hdep 4 rfl)).trans hv4
          go_simp
          exact ⟨_, rfl, { hJ with p5 := fun _ => ⟨_, _, rfl, ⟨gl, rfl, hgl⟩, ⟨gc, xs, rfl, hb4, hx4⟩⟩ }⟩
        · intro L V X a ev evo hL hdep hJ
          obtain ⟨vl, vc, hv5, hl5, hc5⟩ := hJ.p5 (hdep 5 rfl)
          have e5 := (ev 5 19 rfl (hdep 5 rfl)).trans hv5
          obtain ⟨gl, rfl, hgl⟩ := hl5
          obtain ⟨gc, xs, rfl, hb4, hx4⟩ := hc5
          have hl5 : LocM X (.slice (some ⟨gl, 0, none⟩) 3 3) := ⟨gl, rfl, hgl⟩
          have hc5 : CodeM (mvB 2 1 0 2) X (.slice (some ⟨gc, 0, none⟩) 3 3) := ⟨gc, xs, rfl, hb4, hx4⟩
          go_simp
          have hs : ∀ o, Step (fun _ => False) X (X.alloc o) := fun o => (Step.refl _ _).alloc _
          exact ⟨_, rfl, { hJ.step (hs _) with p6 := fun _ => ⟨X.heap.size, _, _, rfl, blk_new _ _, hl5.step (hs _), hc5.step (hs _)⟩ }⟩
        · intro L V X a ev evo hL hdep hJ
          have h6 := hJ.p6 (hdep 6 rfl)
          obtain ⟨g, vl, vc, hv6, -⟩ := id h6
          have e6 := (ev 6 20 rfl (hdep 6 rfl)).trans hv6
          rw [hv6] at h6
          go_simp
          exact ⟨_, rfl, { hJ with p7 := fun _ => h6 }⟩
      case hdone =>
        intro L V X hall hJ
        obtain ⟨g, hv, hb⟩ := (hJ.p7 (hall 7 (by decide))).bodp
        rw [show List.range 8 = [0, 1, 2, 3, 4, 5, 6, 7] from rfl]
        simp only [putF, dstO, List.getElem?_toArray, List.getElem?_cons_zero, List.getElem?_cons_succ, Option.bind_some, Act.put, List.setIfInBounds_toArray, List.set_cons_zero, List.set_cons_succ]
        go_wp2_with fail
        go_meet
        case rel => exact ⟨g, by first | exact hv | rfl, hb, hJ.st⟩
    case rest =>
      obtain ⟨w2, rfl⟩ : ∃ w2 : World, w2 = wc := ⟨_, rfl⟩
      obtain ⟨g2, rfl, hb2, hst2⟩ := hcut
      have HB1 := Lib.hid (hb1.step hst2 (fun _ _ h => h))
      have HB2 := Lib.hid hb2
      have HS2 := Lib.hid (hst1.trans hst2)
      have HSZ := Lib.hid hst2.size
      clear hb1 hb2 hst1 hst2
      go_wp2_with fail
      refine (mcheck_any w1.heap.size g1 (mvB 0 1 0 1) w2 HB1.out (mvB_small _ _ _ _) HSZ.out mvB_ok1 (by decide) mvB_want1 (mvB_path _ _ _ _)).mono ?_
      rintro e w3 ⟨⟨v3, p3, rfl, hr3, hp3⟩, s3⟩
      have e3 := mv1_list p3 hp3
      rw [show (mvB 0 1 0 1).code.length = 3 from rfl, e3] at hr3
      have HR3 := Lib.hid hr3
      have HS3 := Lib.hid s3
      clear hr3 hp3 s3 e3
      go_wp2_with fail
      refine (mcheck_any w2.heap.size g2 (mvB 2 1 0 2) w3 (HB2.out.step HS3.out (fun _ _ h => h)) (mvB_small _ _ _ _) HS3.out.size mvB_ok2 (by decide) mvB_want2 (mvB_path _ _ _ _)).mono ?_
      rintro e w4 ⟨⟨v4, p4, rfl, hr4, hp4⟩, s4⟩
      have e4 := mv2_list p4 hp4
      rw [show (mvB 2 1 0 2).code.length = 3 from rfl, e4] at hr4
      have HS4 := Lib.hid s4
      obtain ⟨a4, c4, rfl, -⟩ := hr4
      have STA : Step (fun _ => False) w3 (w4.alloc (.cells #[.int .i64 1] 3)) := s4.alloc _
      have HINT : Hid (Calls Try.prog 15 #[v3, .slice (some ⟨w4.heap.size, 0, none⟩) 1 1] (w4.alloc (.cells #[.int .i64 1] 3)) fun e w' => e = .returned (.bool true) ∧ Step (fun _ => False) (w4.alloc (.cells #[.int .i64 1] 3)) w') := by
        refine (ints_any [1] _ _ _ _ _ (HR3.out.step STA (fun _ _ h => h)) (Row.new (cs := intsV [1]) (blk_new w4 (.cells #[.int .i64 1] 3)) (by decide))).mono ?_
        rintro e w5 ⟨rfl, h5⟩
        exact ⟨rfl, h5⟩
      have HSA := Lib.hid STA
      clear hp4 s4 e4 STA
      go_wp2_with fail
      refine HINT.out.mono ?_
      rintro e w5 ⟨rfl, s5⟩
      go_wp2_with fail
      go_ret
      exact ⟨rfl, (HS2.out.trans HS3.out).trans (HSA.out.trans s5)⟩

end Go.Proofs.Ytilipeigjkmldaa

namespace Go.Proofs.Ytilipeigjkmldaa
open Go.RowKit

theorem accI_lenN (n : Nat) (x : Ins) : (accI n x).length ≤ x.args.length + n + 2 := by
  unfold accI
  have h1 := accs_len x.args
  have h2 := opAcc_len x.cond
  split
  · simp
  split
  · simp
  split
  · rw [List.length_append, List.length_append]
    split
    · rw [List.length_singleton, List.length_singleton]; omega
    · rw [List.length_nil, List.length_singleton]; omega
  split
  · omega
  split
  · simp; omega
  · simp
theorem flat_lenK {α β : Type} (f : α → List β) (k : Nat) : ∀ (l : List α), (∀ x ∈ l, (f x).length ≤ k) → (l.flatMap f).length ≤ l.length * k
  | [], _ => by simp
  | a :: r, h => by
    have h1 := h a (by simp)
    have h2 := flat_lenK f k r (fun x hx => h x (by simp [hx]))
    rw [List.flatMap_cons, List.length_append, List.length_cons, Nat.add_mul]
    omega
theorem shBod_acc (s : Shp) (i : Nat) : (accB (shBod s) i).length ≤ 7 := by
  unfold accB
  cases hx : (shBod s).code[i]? with
  | none => simp
  | some x =>
    have h0 := accI_lenN (shBod s).locals x
    have hl : (shBod s).locals = 4 := rfl
    have h1 : x.args.length ≤ 1 := by
      rcases shBod_cases s hx with ⟨c, hc, rfl⟩ | ⟨rfl, rfl⟩
      · exact cdIns_args _ c
      · decide
    rw [hl] at h0
    show (accI (shBod s).locals x).length ≤ 7
    rw [hl]
    omega
theorem shBod_want (s : Shp) (hn : s.code.length ≤ 25) : (wantB (shBod s)).length ≤ 4000 := by
  unfold wantB
  rw [List.length_append]
  have h0 : (locsP 4).length ≤ 100 := by decide
  have h2 : (locsP (shBod s).locals).length ≤ 100 := h0
  have h1 := flat_lenK (fun i => takesI (accB (shBod s) i)) 7 (List.range (shBod s).code.length) (fun i _ => Nat.le_trans (takesI_len _) (shBod_acc s i))
  have h3 : (List.range (shBod s).code.length).length = s.code.length + 1 := by rw [List.length_range, shBod_len]
  rw [h3] at h1
  omega
theorem shBod_facts (s : Shp) (hn : s.code.length ≤ 25) : (factsB (shBod s)).length ≤ 4000 := Nat.le_trans (factsOf_len _) (shBod_want s hn)
def insPath (x : Ins) : Prop := (∀ o ∈ x.args, o.pl.path.length ≤ 3) ∧ x.rpl.path.length ≤ 3 ∧ x.dest.path.length ≤ 3 ∧ x.cond.pl.path.length ≤ 3
theorem opAcc_path {o : Opd} {a : Acc} (h : a ∈ opAcc o) : a.pl = o.pl := by
  unfold opAcc at h
  split at h
  · rw [List.mem_singleton.1 h]
  split at h
  · rw [List.mem_singleton.1 h]
  · cases h
theorem accI_path {n : Nat} {x : Ins} (h : insPath x) : ∀ a ∈ accI n x, a.pl.path.length ≤ 3 := by
  obtain ⟨h1, h2, h3, h4⟩ := h
  intro a ha
  unfold accI at ha
  split at ha
  · rw [List.mem_singleton.1 ha]; exact Nat.zero_le _
  split at ha
  · rw [List.mem_singleton.1 ha]; exact Nat.zero_le _
  split at ha
  · rcases List.mem_append.1 ha with ha | ha
    · obtain ⟨o, ho, ha⟩ := List.mem_flatMap.1 ha
      rw [opAcc_path ha]; exact h1 o ho
    · rcases List.mem_append.1 ha with ha | ha
      · split at ha
        · rw [List.mem_singleton.1 ha]; exact h2
        · cases ha
      · rw [List.mem_singleton.1 ha]; exact h3
  split at ha
  · rw [opAcc_path ha]; exact h4
  split at ha
  · rcases List.mem_cons.1 ha with rfl | ha
    · exact Nat.zero_le _
    · obtain ⟨k, _, rfl⟩ := List.mem_map.1 ha
      exact Nat.zero_le _
  · cases ha
theorem cdIns_path (n : Nat) (c : Cd) : insPath (cdIns n c) := by
  have hp := pathF_len c.p
  have hq := pathF_len c.q
  unfold cdIns insPath
  (repeat' split) <;> simp [mkI, noPl, noOp, srcF, dstF, hp, hq]
theorem shBod_path (s : Shp) : ∀ i a, a ∈ accB (shBod s) i → a.pl.path.length ≤ 1000000 := by
  intro i a ha
  unfold accB at ha
  cases hx : (shBod s).code[i]? with
  | none => rw [hx] at ha; cases ha
  | some x =>
    rw [hx] at ha
    have hp : insPath x := by
      rcases shBod_cases s hx with ⟨c, hc, rfl⟩ | ⟨rfl, rfl⟩
      · exact cdIns_path _ c
      · exact ⟨fun o ho => (nomatch ho), Nat.zero_le _, Nat.zero_le _, Nat.zero_le _⟩
    have := accI_path hp a ha
    omega
theorem range_filter_congr {n : Nat} {p q : Nat → Bool} (h : ∀ i, i < n → p i = q i) : (List.range n).filter p = (List.range n).filter q :=
  List.filter_congr (fun i hi => h i (List.mem_range.1 hi))

set_option maxRecDepth 100000 in
set_option maxHeartbeats 4000000 in
theorem movesChecks_any (B : Nat) (s : Shp) (v : Value) (xs : List Value) (w : World) (h1 : Each (CdAt w B) s.code xs) (h2 : Row w B v s.code.length xs) (hB : B ≤ w.heap.size) :
    Calls Try.prog 7 #[.agg #[.int .i64 s.params, v]] w (LawPost w) := by
  have H1 := Lib.hid h1
  have H2 := Lib.hid h2
  obtain ⟨a1, c1, rfl, -⟩ := h2
  have ST0 : Step (fun _ => False) w (w.alloc (.cells #[.int .i64 s.params, .slice a1 s.code.length c1] 24)) := (Step.refl _ _).alloc _
  have HST0 := Lib.hid ST0
  have HNB := Lib.hid (blk_new w (.cells #[.int .i64 s.params, .slice a1 s.code.length c1] 24))
  clear h1 ST0
  go_enter Try.func7, Try.ntmps7
  go_wp2_with fail
  refine (moved_any _).mono ?_
  rintro e w1 ⟨rfl, h1⟩
  have HS1 := Lib.hid (HST0.out.trans h1)
  have hb1 := h1.keep HNB.out (fun h => h)
  have d0 := blk_cell hb1 0 _ rfl
  have d1 := blk_cell hb1 1 _ rfl
  clear h1 hb1
  by_cases hlt : 25 < s.code.length
  · have e1 : decide (25 < s.code.length) = true := decide_eq_true hlt
    go_wp2_with fail
    refine (moved_any _).mono ?_
    rintro e w2 ⟨rfl, h2⟩
    go_wp2_with fail
    go_ret
    exact ⟨rfl, HS1.out.trans h2⟩
  · have e1 : decide (25 < s.code.length) = false := decide_eq_false hlt
    go_wp2_with fail
    refine (shBody_any B s _ xs w1 (Each.mono (CdAt.step HS1.out (fun _ _ h => h)) _ _ H1.out) (H2.out.step HS1.out (fun _ _ h => h)) (by omega) (Nat.le_trans hB HS1.out.size)).mono ?_
    rintro e w2 ⟨cs, rfl, hat, h2⟩
    obtain ⟨a2, c2, a3, c3, rfl⟩ := hat.parts
    have HWT := Lib.hid (shBod_want s (by omega))
    have HFT := Lib.hid (shBod_facts s (by omega))
    have HPT := Lib.hid (shBod_path s)
    have HBL : Hid ((shBod s).code.length = s.code.length + 1) := by show _ = _; rw [shBod_len]
    have HSM : Hid (BodSmall (shBod s)) := shBod_small s
    have HOK : Hid (bodOk (shBod s)) := shBod_ok s
    obtain ⟨b, hb⟩ : ∃ b, b = shBod s := ⟨_, rfl⟩
    rw [← hb] at hat HWT HFT HPT HBL HSM HOK
    rw [← hb]
    have HAT := Lib.hid hat
    have STA : Step (fun _ => False) w2 (w2.alloc (.cells #[.string b.name, .int .i64 b.params, .slice a2 b.locals c2, .slice a3 b.code.length c3] 29)) := (Step.refl _ _).alloc _
    have HSTA := Lib.hid STA
    have HNA := Lib.hid (blk_new w2 (.cells #[.string b.name, .int .i64 b.params, .slice a2 b.locals c2, .slice a3 b.code.length c3] 29))
    have HS2 := Lib.hid (HS1.out.trans h2)
    have HBP : Hid (BodP (w2.alloc (.cells #[.string b.name, .int .i64 b.params, .slice a2 b.locals c2, .slice a3 b.code.length c3] 29)) (w2.alloc (.cells #[.string b.name, .int .i64 b.params, .slice a2 b.locals c2, .slice a3 b.code.length c3] 29)).heap.size w2.heap.size b) := BodP.of_at (BodAt.step STA (fun _ _ h => h) _ _ hat) HNA.out STA.size
    clear hb hat h2 STA d0 d1
    go_wp2_with fail
    refine (mcheck_any _ w2.heap.size b _ HBP.out HSM.out (Nat.le_refl _) HOK.out (by have := HBL.out; omega) HWT.out HPT.out).mono ?_
    rintro e w3 ⟨⟨v1, p, rfl, hr1, hp⟩, h3⟩
    have HR1 := Lib.hid hr1
    have HP := Lib.hid hp
    have HS3 := Lib.hid (HSTA.out.trans h3)
    have hn3 := h3.keep HNA.out (fun h => h)
    have b0 := blk_cell hn3 0 _ rfl
    have b1 := blk_cell hn3 1 _ rfl
    have b2 := blk_cell hn3 2 _ rfl
    have b3 := blk_cell hn3 3 _ rfl
    clear hr1 hp h3 hn3
    go_wp2_with fail
    refine (rcheck_any w2.heap.size b [.string b.name, .int .i64 b.params, .slice a2 b.locals c2, .slice a3 b.code.length c3] w3 (BodAt.step HS3.out (fun _ _ h => h) _ _ HAT.out) HSM.out HS3.out.size HOK.out (by have := HBL.out; omega) (by have := HFT.out; omega) HPT.out).mono ?_
    rintro e w4 ⟨⟨v2, q, rfl, hr2, hq⟩, h4⟩
    have heq : (List.range b.code.length).filter q = (List.range b.code.length).filter p := by
      refine range_filter_congr (fun i hi => ?_)
      have h1 := hq i hi
      have h2 := HP.out i hi
      cases e1 : q i <;> cases e2 : p i <;> simp_all
    rw [heq] at hr2
    have HQ1 := Lib.hid (HR1.out.step h4 (fun _ _ h => h))
    have HQ2 := Lib.hid hr2
    have HS4 := Lib.hid (HS3.out.trans h4)
    clear hr2 hq h4 heq b0 b1 b2 b3
    go_wp2_with fail
    refine (ints_any _ _ _ _ _ _ HQ1.out HQ2.out).mono ?_
    rintro e w5 ⟨rfl, h5⟩
    go_wp2_with fail
    go_ret
    exact ⟨rfl, (HS2.out.trans HS4.out).trans h5⟩

end Go.Proofs.Ytilipeigjkmldaa
