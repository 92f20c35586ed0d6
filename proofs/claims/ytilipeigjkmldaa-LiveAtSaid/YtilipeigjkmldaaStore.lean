/- A struct of many cells goes whole into a variable of its own; and out of memory: as one step of a walk. -/
import Derived.Test.YtilipeigjkmldaaAux
import Derived.Deep.MidRow
namespace Go.Proofs.Ytilipeigjkmldaa
open Go.RowKit

section
variable {P : Program} {w : World}

theorem setCells_new (t : TypeId) : ∀ (vs : List Value) (o : Nat) (c : Array Value), (w.alloc (.cells c t)).setCells w.heap.size o vs = w.alloc (.cells (vs.zipIdx.foldl (fun c x => c.setIfInBounds (o + x.2) x.1) c) t)
  | [], o, c => rfl
  | v :: r, o, c => by
    show ((w.alloc (.cells c t)).setCell ⟨w.heap.size, o, none⟩ v).setCells w.heap.size (o + 1) r = _
    rw [World.setCell_alloc_new, setCells_new t r (o + 1) _]
    congr 2
    rw [List.zipIdx_cons, List.foldl_cons, Nat.add_zero, List.zipIdx_succ, List.foldl_map]
    have hf : (fun (c : Array Value) (x : Value × Nat) => c.setIfInBounds (o + (x.2 + 1)) x.1) = fun c x => c.setIfInBounds ((o + 1) + x.2) x.1 := by
      funext c x; congr 1; omega
    exact (congrFun (congrFun (congrArg (fun f => List.foldl f) hf) _) _).symm
theorem fold_get : ∀ (vs : List Value) (o : Nat) (c : Array Value) (j : Nat), o + vs.length ≤ c.size → (vs.zipIdx.foldl (fun c x => c.setIfInBounds (o + x.2) x.1) c)[j]? = if o ≤ j ∧ j < o + vs.length then vs[j - o]? else c[j]?
  | [], o, c, j, _ => by
    have : ¬ (o ≤ j ∧ j < o + 0) := by omega
    simp only [List.length_nil, if_neg this]; rfl
  | v :: r, o, c, j, h => by
    rw [List.zipIdx_cons, List.foldl_cons, Nat.add_zero, List.zipIdx_succ, List.foldl_map]
    have hf : (fun (c : Array Value) (x : Value × Nat) => c.setIfInBounds (o + (x.2 + 1)) x.1) = fun c x => c.setIfInBounds ((o + 1) + x.2) x.1 := by
      funext c x; congr 1; omega
    simp only [List.length_cons] at h ⊢
    show (r.zipIdx.foldl (fun (c : Array Value) (x : Value × Nat) => c.setIfInBounds (o + (x.2 + 1)) x.1) (c.setIfInBounds o v))[j]? = _
    rw [hf, fold_get r (o + 1) (c.setIfInBounds o v) j (by simp; omega)]
    by_cases h1 : o + 1 ≤ j ∧ j < o + 1 + r.length
    · rw [if_pos h1, if_pos (by omega), show j - o = (j - (o + 1)) + 1 by omega, List.getElem?_cons_succ]
    · rw [if_neg h1]
      by_cases h2 : j = o
      · subst h2
        rw [if_pos (by omega), Nat.sub_self, Array.getElem?_setIfInBounds_self_of_lt (by omega)]; rfl
      · rw [if_neg (by omega), Array.getElem?_setIfInBounds_ne (by omega)]
/- All cells of a new block are stored into: the block holds what was stored. -/
theorem setCells_whole (t : TypeId) (c : Array Value) (vs : List Value) (h : c.size = vs.length) : (w.alloc (.cells c t)).setCells w.heap.size 0 vs = w.alloc (.cells vs.toArray t) := by
  rw [setCells_new]
  congr 2
  apply Array.ext_getElem?
  intro j
  rw [fold_get vs 0 c j (by omega)]
  by_cases hj : j < vs.length
  · rw [if_pos (by omega), Nat.sub_zero, List.getElem?_toArray]
  · rw [if_neg (by omega), Array.getElem?_eq_none (by omega), List.getElem?_toArray, List.getElem?_eq_none (by omega)]

theorem wpList_store_new {ops : Array Oper} {rest : List Oper} {op : Oper} {a : Act} {Q : Exit → Act → World → Prop} (hgd : op.guard = none) (ty : TypeId) (x y : Operand) (ho : op.op = .store ty x y)
    (c : Array Value) (vs : List Value) (hx : a.eval x = .pointer (some ⟨w.heap.size, 0, none⟩)) (hy : a.eval y = .agg vs.toArray)
    (hi : (P.info? ty).map (·.size) = some vs.length) (hc : c.size = vs.length) (h1 : ∀ v ∈ vs, v.oneCell' = true)
    (h : wpList P ops Q rest (a.put op.dst undef) (w.alloc (.cells vs.toArray ty))) : wpList P ops Q (op :: rest) a (w.alloc (.cells c ty)) := by
  refine wpList_store_mid hgd ty x y ho w.heap.size 0 vs.toArray hx hy (fun j hj => ?_) (by simpa using hi) (all_oneCell_toArray h1) ?_
  · have hb := blk_new w (.cells c ty)
    have hj' : j < c.size := by rw [hc]; simpa using hj
    rw [Nat.zero_add, blk_cell hb j _ (Array.getElem?_eq_getElem hj'), blk_free hb]
    exact ⟨rfl, rfl⟩
  · rw [setCells_whole ty c _ (by simpa using hc)]; exact h

theorem wpList_load_whole {ops : Array Oper} {rest : List Oper} {op : Oper} {a : Act} {Q : Exit → Act → World → Prop} (hgd : op.guard = none) (ty : TypeId) (x : Operand) (ho : op.op = .load ty x)
    (b o : Nat) (hx : a.eval x = .pointer (some ⟨b, o, none⟩)) (cs : List Value) (d : TypeDesc) (hc : ∀ (j : Nat) v, cs[j]? = some v → w.cell? ⟨b, o + j, none⟩ = some v)
    (hu : P.underlying ty = some d) (hd : d.isRow = true) (hi : (P.info? ty).map (·.size) = some cs.length)
    (h : wpList P ops Q rest (a.put op.dst (.agg cs.toArray)) w) : wpList P ops Q (op :: rest) a w :=
  wpList_load_mid hgd ty x ho b o hx cs d hc hu hd hi h

end
end Go.Proofs.Ytilipeigjkmldaa
