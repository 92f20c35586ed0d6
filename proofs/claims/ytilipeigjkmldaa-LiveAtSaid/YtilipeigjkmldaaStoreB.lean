/- A struct goes whole into a part of a block that is known: one step of a walk; the world behind it is a letter. -/
import Derived.Test.YtilipeigjkmldaaStore
namespace Go.Proofs.Ytilipeigjkmldaa
open Go.RowKit

section
variable {P : Program} {w : World}

theorem setCells_fold {b t : Nat} : ∀ (vs : List Value) (o : Nat) (c : Array Value) (w : World), w.heap[b]? = some (.cells c t (0, 0)) → (w.setCells b o vs).heap[b]? = some (.cells (vs.zipIdx.foldl (fun c x => c.setIfInBounds (o + x.2) x.1) c) t (0, 0)) ∧ Step (· = b) w (w.setCells b o vs)
  | [], o, c, w, h => ⟨h, Step.refl _ _⟩
  | v :: r, o, c, w, h => by
    have h1 := blk_set h o v
    obtain ⟨h2, h3⟩ := setCells_fold r (o + 1) (c.setIfInBounds o v) _ h1
    have hf : (fun (c : Array Value) (x : Value × Nat) => c.setIfInBounds (o + (x.2 + 1)) x.1) = fun c x => c.setIfInBounds ((o + 1) + x.2) x.1 := by
      funext c x; congr 1; omega
    refine ⟨?_, Step.trans ((Step.refl _ _).setCell _ _ (fun _ => rfl)) h3⟩
    show ((w.setCell ⟨b, o, none⟩ v).setCells b (o + 1) r).heap[b]? = _
    rw [h2, List.zipIdx_cons, List.foldl_cons, Nat.add_zero, List.zipIdx_succ, List.foldl_map]
    exact congrArg some (congrArg (fun a => Obj.cells a t (0, 0)) (congrFun (congrFun (congrArg (fun f => List.foldl f) hf) _) _).symm)
theorem fold_splice (vs : List Value) (o : Nat) (c : Array Value) (h : o + vs.length ≤ c.size) : vs.zipIdx.foldl (fun c x => c.setIfInBounds (o + x.2) x.1) c = (c.toList.take o ++ (vs ++ c.toList.drop (o + vs.length))).toArray := by
  apply Array.ext_getElem?
  intro j
  have e : ∀ (l : List Value) (j : Nat), l.toArray[j]? = l[j]? := fun l j => by simp
  rw [fold_get vs o c j h, e (c.toList.take o ++ (vs ++ c.toList.drop (o + vs.length))) j]
  have hl : (c.toList.take o).length = o := by simp; omega
  by_cases h1 : j < o
  · rw [if_neg (by omega), List.getElem?_append_left (by omega), List.getElem?_take, if_pos h1]; simp
  · rw [List.getElem?_append_right (by omega), hl]
    by_cases h2 : j < o + vs.length
    · rw [if_pos (by omega), List.getElem?_append_left (by omega)]
    · rw [if_neg (by omega), List.getElem?_append_right (by omega), List.getElem?_drop, show o + vs.length + (j - o - vs.length) = j by omega]; simp

theorem wpList_store_part {ops : Array Oper} {rest : List Oper} {op : Oper} {a : Act} {Q : Exit → Act → World → Prop} (hgd : op.guard = none) (ty : TypeId) (x y : Operand) (ho : op.op = .store ty x y)
    (b o t : Nat) (c : Array Value) (vs : List Value) (hx : a.eval x = .pointer (some ⟨b, o, none⟩)) (hy : a.eval y = .agg vs.toArray)
    (hb : w.heap[b]? = some (.cells c t (0, 0))) (hi : (P.info? ty).map (·.size) = some vs.length) (hc : o + vs.length ≤ c.size) (h1 : ∀ v ∈ vs, v.oneCell' = true)
    (h : ∀ w', w'.heap[b]? = some (.cells (c.toList.take o ++ (vs ++ c.toList.drop (o + vs.length))).toArray t (0, 0)) → Step (· = b) w w' → wpList P ops Q rest (a.put op.dst undef) w') : wpList P ops Q (op :: rest) a w := by
  refine wpList_store_mid hgd ty x y ho b o vs.toArray hx hy (fun j hj => ?_) (by simpa using hi) (all_oneCell_toArray h1) ?_
  · have hj' : o + j < c.size := by have : j < vs.length := by simpa using hj
                                    omega
    rw [blk_cell hb (o + j) _ (Array.getElem?_eq_getElem hj'), blk_free hb]
    exact ⟨rfl, rfl⟩
  · obtain ⟨h2, h3⟩ := setCells_fold vs o c w hb
    rw [fold_splice vs o c hc] at h2
    exact h _ (by simpa using h2) (by simpa using h3)

theorem results_cell1 {fn : Func} {x t : Nat} (h : fn.results = #[.cell x t]) (tmps : Array Value) (b o : Nat) (cs : List Value) (d : TypeDesc) (hx : tmps.getD x undef = .pointer (some ⟨b, o, none⟩))
    (hc : ∀ (j : Nat) v, cs[j]? = some v → w.cell? ⟨b, o + j, none⟩ = some v) (hu : P.underlying t = some d) (hd : d.isRow = true) (hi : (P.info? t).map (·.size) = some cs.length) :
    (results fn tmps).run P w = .ok (.agg cs.toArray) w := by
  have hl := run_loadVar_mid w b o t cs d hc hu hd hi
  rw [Array.getD_eq_getD_getElem?] at hx
  simp [results, h, hx, asAddr, hl]
/- As results_cell1, where the block is known whole. -/
theorem results_cellB {fn : Func} {x t : Nat} (h : fn.results = #[.cell x t]) (tmps : Array Value) (b tt : Nat) (cs : List Value) (d : TypeDesc) (hx : tmps.getD x undef = .pointer (some ⟨b, 0, none⟩))
    (hb : w.heap[b]? = some (.cells cs.toArray tt (0, 0))) (hu : P.underlying t = some d) (hd : d.isRow = true) (hi : (P.info? t).map (·.size) = some cs.length) :
    (results fn tmps).run P w = .ok (.agg cs.toArray) w :=
  results_cell1 h tmps b 0 cs d hx (fun j v hv => by rw [Nat.zero_add]; exact blk_cell hb j v (by simpa using hv)) hu hd hi

end
end Go.Proofs.Ytilipeigjkmldaa
