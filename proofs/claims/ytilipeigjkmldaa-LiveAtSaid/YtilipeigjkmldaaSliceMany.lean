/- A slice of several structs that are whole. -/
import Derived.Test.YtilipeigjkmldaaSliceOne
namespace Go.Proofs.Ytilipeigjkmldaa
open Go.RowKit

section
variable {P : Program}
theorem take_av (A V D : List Value) : (A ++ (V ++ D)).take (A.length + V.length) = A ++ V := by
  rw [← List.append_assoc, ← List.length_append, List.take_left]
theorem drop_av (A V D : List Value) (m : Nat) : (A ++ (V ++ D)).drop (A.length + V.length + m) = D.drop m := by
  rw [← List.append_assoc, ← List.length_append, ← List.drop_drop, List.drop_left]
theorem fill_from (size : Nat) : ∀ (l : List (List Value)) (k : Nat) (c : Array Value), (∀ vs ∈ l, vs.length = size) → (k + l.length) * size ≤ c.size →
    Instr.fill (fun i => some (i * size, size)) c ((l.zipIdx k).map fun p => (p.2, Value.agg p.1.toArray)) = some (c.toList.take (k * size) ++ (l.flatten ++ c.toList.drop ((k + l.length) * size))).toArray
  | [], k, c, _, _ => by simp [Instr.fill]
  | vs :: r, k, c, hl, hc => by
    have hv := hl vs (List.mem_cons_self ..)
    have hlen : (k + (vs :: r).length) * size = k * size + size + r.length * size := by
      rw [List.length_cons, Nat.add_mul, Nat.add_mul, Nat.one_mul]; omega
    have hcs : (Value.agg vs.toArray).cells = vs.toArray := rfl
    have hf := fold_splice vs (k * size) c (by rw [hv]; omega)
    have h1 : ¬ (vs.toArray.size ≠ size ∨ k * size + vs.toArray.size > c.size) := by simp [hv]; omega
    have hzip : (vs :: r).zipIdx k = (vs, k) :: r.zipIdx (k + 1) := rfl
    rw [hzip, List.map_cons]
    unfold Instr.fill
    simp only [hcs]
    rw [if_neg (by simpa using h1)]
    have hz : vs.toArray.zipIdx.foldl (fun (cs : Array Value) (x : Value × Nat) => cs.setIfInBounds (k * size + x.2) x.1) c = (c.toList.take (k * size) ++ (vs ++ c.toList.drop (k * size + vs.length))).toArray := by
      rw [← hf]; simp
    have hz2 : vs.toArray.zipIdx.foldl (fun (cs : Array Value) (x : Value × Nat) => match x with | (c, j) => cs.setIfInBounds (k * size + j) c) c = (c.toList.take (k * size) ++ (vs ++ c.toList.drop (k * size + vs.length))).toArray := hz
    rw [hz2]
    have ht : (c.toList.take (k * size)).length = k * size := by simp; omega
    have hk1 : (k + 1) * size = k * size + size := by rw [Nat.add_mul, Nat.one_mul]
    rw [fill_from size r (k + 1) _ (fun v hv => hl v (List.mem_cons_of_mem _ hv)) (by simp; rw [Nat.add_mul, hk1]; omega)]
    have hk2 : (k + 1 + r.length) * size = k * size + size + r.length * size := by rw [Nat.add_mul, hk1]
    have hk3 : (k + (r.length + 1)) * size = k * size + size + r.length * size := by rw [← hlen, List.length_cons]
    simp only [List.flatten_cons, List.length_cons]
    rw [hk1, hk2, hk3]
    have e1 := take_av (c.toList.take (k * size)) vs (c.toList.drop (k * size + vs.length))
    have e2 := drop_av (c.toList.take (k * size)) vs (c.toList.drop (k * size + vs.length)) (r.length * size)
    rw [ht, hv] at e1 e2
    rw [hv, e1, e2, List.drop_drop, List.append_assoc, List.append_assoc]

theorem run_slice_many (w : World) (t e : TypeId) (i : TypeInfo) (z : Value) (l : List (List Value)) (size : Nat) (ht : P.underlying t = some (.slice e)) (hi : P.info? e = some i) (hz : i.zero = some z) (hsize : i.size = size) (hl : ∀ vs ∈ l, vs.length = size) (h0 : 0 < l.length * size) (hm : l.length * size ≤ 16777216) :
    (Instr.buildSlice t l.length ((l.zipIdx 0).map fun p => (p.2, Value.agg p.1.toArray)).toArray).run P w = .ok (.slice (some ⟨w.heap.size, 0, none⟩) l.length l.length) (w.alloc (.cells l.flatten.toArray e)) := by
  have hf := fill_from size l 0 ((Array.range (l.length * size)).map (z.cells[· % z.cells.size]!)) hl (by simp)
  have hf2 : Instr.fill (fun i => some (i * size, size)) ((Array.range (l.length * size)).map (z.cells[· % z.cells.size]!)) ((l.zipIdx 0).map fun p => (p.2, Value.agg p.1.toArray)) = some l.flatten.toArray := by
    rw [hf]; simp
  have n1 : ¬ 16777216 < l.length * size := by omega
  have n2 : ¬ l.length * size = 0 := by omega
  unfold Instr.buildSlice
  simp only [Sem.run_bind, run_underlying ht, Result.andThen_ok]
  simp [sizeOf, zeroValue, newRow, n1, n2, typeInfo, hi, hsize, hz, hf2]

theorem wp_slice_many {op : Oper} {a : Act} {w : World} {K : Act → World → Prop} {Q : Exit → Act → World → Prop} (t : TypeId) (n : Nat) (ps : Array (Nat × Operand)) (ho : op.op = .buildSlice t n ps)
    (e : TypeId) (i : TypeInfo) (z : Value) (l : List (List Value)) (size : Nat) (hn : n = l.length) (hps : ps.map (fun p => (p.1, a.eval p.2)) = ((l.zipIdx 0).map fun p => (p.2, Value.agg p.1.toArray)).toArray)
    (ht : P.underlying t = some (.slice e)) (hi : P.info? e = some i) (hz : i.zero = some z) (hsize : i.size = size) (hl : ∀ vs ∈ l, vs.length = size) (h0 : 0 < l.length * size) (hm : l.length * size ≤ 16777216)
    (h : K (a.put op.dst (.slice (some ⟨w.heap.size, 0, none⟩) l.length l.length)) (w.alloc (.cells l.flatten.toArray e))) : op.wp P a w K Q := by
  subst hn
  unfold Oper.wp execOp
  have hps2 : (ps.map fun (i, x) => (i, a.eval x)) = ((l.zipIdx 0).map fun p => (p.2, Value.agg p.1.toArray)).toArray := hps
  simp only [ho, hps2, Sem.run_bind, Sem.run_pure, run_slice_many w t e i z l size ht hi hz hsize hl h0 hm, Result.andThen_ok]
  exact h
end
end Go.Proofs.Ytilipeigjkmldaa
