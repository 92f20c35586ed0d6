/- Contracts of chattellaw20: copied. -/
import Derived.Test.YtilipeigjkmldaaBodA
import Derived.Test.YtilipeigjkmldaaCoreA
namespace Go.Proofs.Ytilipeigjkmldaa
open Go.RowKit

theorem Try.sizeIns2 : (Try.prog.info? 57).map (·.size) = some 21 := by kernel_rfl
def insCells (k loc dl : Int) (dv : Value) (rk : Int) (av : Value) (rl : Int) (rv : Value) (mu : Bool) (rn : Int) (ck cl : Int) (cv : Value) (ct cn tg el : Int) : List Value :=
  [.int .i64 k, .int .i64 loc, .int .i64 dl, dv, .int .i64 rk, av, .int .i64 rl, rv, .bool mu, .string ⟨#[]⟩, .int .i64 rn, .slice none 0 0, .int .i64 ck, .int .i64 cl, cv, .int .i64 ct, .int .u64 cn, .int .i64 tg, .int .i64 el, .int .i64 0, .int .i64 0]

set_option maxRecDepth 100000 in
set_option maxHeartbeats 1000000 in
theorem copied_no (tg : Int) (w : World) : Calls Try.prog 28 #[.int .i64 tg, .int .i64 (-1)] w fun e w' => e = .returned (.agg (insCells 3 0 tg (.slice none 0 0) 10 (.slice none 0 0) 0 (.slice none 0 0) false 0 0 0 (.slice none 0 0) 0 0 0 0).toArray) ∧ Step (fun _ => False) w w' := by
  have HONE : Hid (∀ v ∈ insCells 3 0 tg (.slice none 0 0) 10 (.slice none 0 0) 0 (.slice none 0 0) false 0 0 0 (.slice none 0 0) 0 0 0 0, v.oneCell' = true) :=
    fun v hv => List.all_eq_true.1 (show (insCells 3 0 tg (.slice none 0 0) 10 (.slice none 0 0) 0 (.slice none 0 0) false 0 0 0 (.slice none 0 0) 0 0 0 0).all (fun v => v.oneCell') = true from rfl) v hv
  go_enter Try.func28, Try.ntmps28
  go_wp2_with (first
    | (refine wpList_store_part (w := w1) rfl 57 (.tmp 4) (.tmp 18) rfl w.heap.size 0 57 _ (insCells 3 0 tg (.slice none 0 0) 10 (.slice none 0 0) 0 (.slice none 0 0) false 0 0 0 (.slice none 0 0) 0 0 0 0) rfl rfl hz1 Try.sizeIns2 (Nat.le_of_eq rfl) HONE.out ?_; intro w2 hb2 hst2)
    | (refine wpList_load_whole rfl 57 (.tmp 5) rfl (w.heap.size + 1) 0 rfl (insCells 3 0 tg (.slice none 0 0) 10 (.slice none 0 0) 0 (.slice none 0 0) false 0 0 0 (.slice none 0 0) 0 0 0 0) _ HLD.out Try.underlying57 rfl Try.sizeIns2 ?_)
    | (refine wpList_store_part (w := _) rfl 57 (.tmp 5) (.tmp 9) rfl (w.heap.size + 1) 0 57 _ (insCells 3 0 tg (.slice none 0 0) 10 (.slice none 0 0) 0 (.slice none 0 0) false 0 0 0 (.slice none 0 0) 0 0 0 0) rfl rfl (blk_new2 _ _ _) Try.sizeIns2 (Nat.le_of_eq rfl) HONE.out ?_
       intro w1 hb1 hst1
       have hb1' : w1.heap[w.heap.size + 1]? = some (.cells (insCells 3 0 tg (.slice none 0 0) 10 (.slice none 0 0) 0 (.slice none 0 0) false 0 0 0 (.slice none 0 0) 0 0 0 0).toArray 57 (0, 0)) := hb1
       have HLD : Hid (∀ (j : Nat) v, (insCells 3 0 tg (.slice none 0 0) 10 (.slice none 0 0) 0 (.slice none 0 0) false 0 0 0 (.slice none 0 0) 0 0 0 0)[j]? = some v → w1.cell? ⟨w.heap.size + 1, 0 + j, none⟩ = some v) := fun j v hv => by rw [Nat.zero_add]; exact blk_cell hb1' j v (by simpa using hv)
       have hz1 := hst1.keep (blk_alloc (blk_new _ _)) (show ¬ w.heap.size = w.heap.size + 1 by omega)
       clear hb1 hb1'))
  refine bodyPost_ret (v := .agg (insCells 3 0 tg (.slice none 0 0) 10 (.slice none 0 0) 0 (.slice none 0 0) false 0 0 0 (.slice none 0 0) 0 0 0 0).toArray) ?_ rfl ⟨rfl, ?_⟩
  · exact results_cellB rfl _ w.heap.size 57 _ _ rfl hb2 Try.underlying57 rfl Try.sizeIns2
  · exact (((((Step.refl (fun _ => False) w).alloc _).alloc _).then hst1 (fun i hi h => by omega)).then hst2 (fun i hi h => by omega))

theorem Try.sizeRight : (Try.prog.info? 51).map (·.size) = some 8 := by kernel_rfl
def rigCells (rk : Int) (av : Value) (rl : Int) (rv : Value) (mu : Bool) (rn : Int) : List Value :=
  [.int .i64 rk, av, .int .i64 rl, rv, .bool mu, .string ⟨#[]⟩, .int .i64 rn, .slice none 0 0]
def copyI (tg : Int) (args : List Opd) (rk : Int) : Ins := ⟨3, 0, ⟨tg, []⟩, rk, args, ⟨0, []⟩, false, ⟨#[]⟩, 0, ⟨0, ⟨0, []⟩, 0, 0⟩, 0, 0, 0, 0⟩
theorem copyI_at {w : World} {B : Nat} (tg rk : Int) (args : List Opd) (va : Value) (xa : List Value) (h1 : Each (OpAt w B) args xa) (h2 : Row w B va args.length xa) :
    InAt w B (copyI tg args rk) (insCells 3 0 tg (.slice none 0 0) rk va 0 (.slice none 0 0) false 0 0 0 (.slice none 0 0) 0 0 0 0) :=
  ⟨.slice none 0 0, va, .slice none 0 0, .slice none 0 0, .slice none 0 0, xa, rfl, Row.nil _ _ _, h1, h2, Row.nil _ _ _, ⟨_, _, _, rfl⟩, Row.nil _ _ _⟩

set_option maxRecDepth 100000 in
set_option maxHeartbeats 1000000 in
theorem copied_yes (w : World) : Calls Try.prog 28 #[.int .i64 0, .int .i64 1] w fun e w' => ∃ cs, e = .returned (.agg cs.toArray) ∧ InAt w' w'.heap.size (copyI 0 [⟨2, ⟨1, []⟩, 0, 0⟩] 1) cs ∧ Step (fun _ => False) w w' := by
  have HONE : Hid (∀ v ∈ insCells 3 0 0 (.slice none 0 0) 10 (.slice none 0 0) 0 (.slice none 0 0) false 0 0 0 (.slice none 0 0) 0 0 0 0, v.oneCell' = true) :=
    fun v hv => List.all_eq_true.1 (show (insCells 3 0 0 (.slice none 0 0) 10 (.slice none 0 0) 0 (.slice none 0 0) false 0 0 0 (.slice none 0 0) 0 0 0 0).all (fun v => v.oneCell') = true from rfl) v hv
  have HONE1 : Hid (∀ (o : Nat) (b : Nat), ∀ v ∈ insCells 3 0 0 (.slice none 0 0) 1 (.slice (some ⟨b, 0, none⟩) 1 1) 0 (.slice none 0 0) false 0 0 0 (.slice none 0 0) 0 0 0 0, v.oneCell' = true) :=
    fun o b v hv => List.all_eq_true.1 (show (insCells 3 0 0 (.slice none 0 0) 1 (.slice (some ⟨b, 0, none⟩) 1 1) 0 (.slice none 0 0) false 0 0 0 (.slice none 0 0) 0 0 0 0).all (fun v => v.oneCell') = true from rfl) v hv
  have HONE2 : Hid (∀ (b : Nat), ∀ v ∈ rigCells 1 (.slice (some ⟨b, 0, none⟩) 1 1) 0 (.slice none 0 0) false 0, v.oneCell' = true) :=
    fun b v hv => List.all_eq_true.1 (show (rigCells 1 (.slice (some ⟨b, 0, none⟩) 1 1) 0 (.slice none 0 0) false 0 : List Value).all (fun v => v.oneCell') = true from rfl) v hv
  go_enter Try.func28, Try.ntmps28
  go_wp2_with (first
    | (refine wpList_store_part (w := w2) rfl 57 (.tmp 4) (.tmp 18) rfl w.heap.size 0 57 _ (insCells 3 0 0 (.slice none 0 0) 1 (.slice (some ⟨w1.heap.size, 0, none⟩) 1 1) 0 (.slice none 0 0) false 0 0 0 (.slice none 0 0) 0 0 0 0) rfl rfl hz2 Try.sizeIns2 (Nat.le_of_eq rfl) (HONE1.out 0 _) ?_; intro w3 hb3 hst3)
    | (refine wpList_load_whole rfl 57 (.tmp 5) rfl (w.heap.size + 1) 0 rfl (insCells 3 0 0 (.slice none 0 0) 1 (.slice (some ⟨w1.heap.size, 0, none⟩) 1 1) 0 (.slice none 0 0) false 0 0 0 (.slice none 0 0) 0 0 0 0) _ HLD.out Try.underlying57 rfl Try.sizeIns2 ?_)
    | (refine wpList_store_part (w := _) rfl 51 (.tmp 17) (.tmp 16) rfl (w.heap.size + 1) 4 57 (insCells 3 0 0 (.slice none 0 0) 10 (.slice none 0 0) 0 (.slice none 0 0) false 0 0 0 (.slice none 0 0) 0 0 0 0).toArray (rigCells 1 (.slice (some ⟨w1.heap.size, 0, none⟩) 1 1) 0 (.slice none 0 0) false 0) rfl rfl (blk_alloc hb1') Try.sizeRight (show 4 + 8 ≤ 21 by decide) (HONE2.out _) ?_
       intro w2 hb2 hst2
       have hb2' : w2.heap[w.heap.size + 1]? = some (.cells (insCells 3 0 0 (.slice none 0 0) 1 (.slice (some ⟨w1.heap.size, 0, none⟩) 1 1) 0 (.slice none 0 0) false 0 0 0 (.slice none 0 0) 0 0 0 0).toArray 57 (0, 0)) := hb2
       have HLD : Hid (∀ (j : Nat) v, (insCells 3 0 0 (.slice none 0 0) 1 (.slice (some ⟨w1.heap.size, 0, none⟩) 1 1) 0 (.slice none 0 0) false 0 0 0 (.slice none 0 0) 0 0 0 0)[j]? = some v → w2.cell? ⟨w.heap.size + 1, 0 + j, none⟩ = some v) := fun j v hv => by rw [Nat.zero_add]; exact blk_cell hb2' j v (by simpa using hv)
       have hz2 := hst2.keep (blk_alloc hz1) (show ¬ w.heap.size = w.heap.size + 1 by omega)
       have hn2 := hst2.keep (blk_new w1 _) (show ¬ w1.heap.size = w.heap.size + 1 by have := hst1.size; simp at this; omega)
       clear hb2 hb2')
    | (refine wpList_store_part (w := _) rfl 57 (.tmp 5) (.tmp 9) rfl (w.heap.size + 1) 0 57 _ (insCells 3 0 0 (.slice none 0 0) 10 (.slice none 0 0) 0 (.slice none 0 0) false 0 0 0 (.slice none 0 0) 0 0 0 0) rfl rfl (blk_new2 _ _ _) Try.sizeIns2 (Nat.le_of_eq rfl) HONE.out ?_
       intro w1 hb1 hst1
       have hb1' : w1.heap[w.heap.size + 1]? = some (.cells (insCells 3 0 0 (.slice none 0 0) 10 (.slice none 0 0) 0 (.slice none 0 0) false 0 0 0 (.slice none 0 0) 0 0 0 0).toArray 57 (0, 0)) := hb1
       have hz1 := hst1.keep (blk_alloc (blk_new _ _)) (show ¬ w.heap.size = w.heap.size + 1 by omega)
       clear hb1))
  have hs1 := hst1.size
  have hs2 := hst2.size
  simp at hs1 hs2
  have hn3 := hst3.keep hn2 (show ¬ w1.heap.size = w.heap.size by omega)
  refine bodyPost_ret (v := .agg (insCells 3 0 0 (.slice none 0 0) 1 (.slice (some ⟨w1.heap.size, 0, none⟩) 1 1) 0 (.slice none 0 0) false 0 0 0 (.slice none 0 0) 0 0 0 0).toArray) ?_ rfl ⟨_, rfl, copyI_at 0 1 [⟨2, ⟨1, []⟩, 0, 0⟩] _ [.int .i64 2, .int .i64 1, .slice none 0 0, .int .i64 0, .int .u64 0] (Each.single ⟨_, rfl, Row.nil _ _ _⟩) ((Row.new hn3 (by decide)).mono (blk_lt hn3)), ?_⟩
  · exact results_cellB rfl _ w.heap.size 57 _ _ rfl hb3 Try.underlying57 rfl Try.sizeIns2
  · exact (((((((Step.refl (fun _ => False) w).alloc _).alloc _).then hst1 (fun i hi h => by omega)).alloc _).then hst2 (fun i hi h => by omega)).then hst3 (fun i hi h => by omega))

end Go.Proofs.Ytilipeigjkmldaa
