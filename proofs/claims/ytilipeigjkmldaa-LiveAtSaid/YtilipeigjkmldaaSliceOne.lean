/- A slice of one struct that is whole: one step of a walk. -/
import Derived.Test.YtilipeigjkmldaaStoreB
namespace Go.Proofs.Ytilipeigjkmldaa
open Go.RowKit

section
variable {P : Program}
theorem run_slice_one (w : World) (t e : TypeId) (i : TypeInfo) (z : Value) (vs : List Value) (ht : P.underlying t = some (.slice e)) (hi : P.info? e = some i) (hz : i.zero = some z) (hsize : i.size = vs.length) (hzs : z.cells.size = vs.length) (h0 : 0 < vs.length) (hm : vs.length ≤ 16777216) :
    (Instr.buildSlice t 1 #[(0, .agg vs.toArray)]).run P w = .ok (.slice (some ⟨w.heap.size, 0, none⟩) 1 1) (w.alloc (.cells vs.toArray e)) := by
  have hf : vs.zipIdx.foldl (fun (c : Array Value) (x : Value × Nat) => c.setIfInBounds (0 + x.2) x.1) ((Array.range vs.length).map (z.cells[· % z.cells.size]!)) = vs.toArray := by
    rw [fold_splice vs 0 _ (by simp)]
    simp
  simp only [Nat.zero_add] at hf
  have hc : (Value.agg vs.toArray).cells = vs.toArray := rfl
  have n1 : ¬ 16777216 < vs.length := by omega
  have n2 : ¬ vs.length = 0 := by omega
  simp [Instr.buildSlice, run_underlying ht, sizeOf, typeInfo, hi, zeroValue, hz, newRow, Instr.fill, hsize, n1, n2, hc, hf]

theorem wpList_slice_one {ops : Array Oper} {rest : List Oper} {op : Oper} {a : Act} {w : World} {Q : Exit → Act → World → Prop} (hgd : op.guard = none) (t : TypeId) (y : Operand) (ho : op.op = .buildSlice t 1 #[(0, y)])
    (e : TypeId) (i : TypeInfo) (z : Value) (vs : List Value) (hy : a.eval y = .agg vs.toArray) (ht : P.underlying t = some (.slice e)) (hi : P.info? e = some i) (hz : i.zero = some z) (hsize : i.size = vs.length) (hzs : z.cells.size = vs.length) (h0 : 0 < vs.length) (hm : vs.length ≤ 16777216)
    (h : wpList P ops Q rest (a.put op.dst (.slice (some ⟨w.heap.size, 0, none⟩) 1 1)) (w.alloc (.cells vs.toArray e))) : wpList P ops Q (op :: rest) a w := by
  refine wpList_plain hgd fun _ hK => ?_
  unfold Oper.wp execOp
  simp only [ho, List.map_toArray, List.map_cons, List.map_nil, hy, Sem.run_bind, Sem.run_pure, run_slice_one w t e i z vs ht hi hz hsize hzs h0 hm, Result.andThen_ok]
  exact hK _ _ h
end
end Go.Proofs.Ytilipeigjkmldaa
