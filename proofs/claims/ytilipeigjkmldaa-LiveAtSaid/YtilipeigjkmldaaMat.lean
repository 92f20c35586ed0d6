/- A matrix of Booleans, plain and in memory: a row of rows, each in a block of its own. -/
import Derived.Test.YtilipeigjkmldaaEach
namespace Go.Proofs.Ytilipeigjkmldaa
open Go.RowKit

def mget (m : List (List Bool)) (i x : Nat) : Bool := (m.getD i []).getD x false
def mset (m : List (List Bool)) (i x : Nat) : List (List Bool) := m.set i ((m.getD i []).set x true)
def falses (m : List (List Bool)) : Nat := (m.map (fun r => r.countP (fun b => !b))).sum
def AllM (n L : Nat) (m : List (List Bool)) : Prop := m.length = n ∧ ∀ r ∈ m, r.length = L
theorem AllM.row {n L : Nat} {m : List (List Bool)} (h : AllM n L m) {i : Nat} (hi : i < n) : m[i]? = some (m.getD i []) ∧ (m.getD i []).length = L := by
  have hlt : i < m.length := by rw [h.1]; exact hi
  have e : m.getD i [] = m[i] := by rw [List.getD_eq_getElem?_getD, List.getElem?_eq_getElem hlt]; rfl
  rw [e]
  exact ⟨List.getElem?_eq_getElem hlt, h.2 _ (List.getElem_mem hlt)⟩
theorem AllM.set {n L : Nat} {m : List (List Bool)} (h : AllM n L m) (i x : Nat) (hi : i < n) : AllM n L (mset m i x) := by
  refine ⟨by simp [mset, h.1], fun r hr => ?_⟩
  rcases List.mem_or_eq_of_mem_set hr with h1 | h1
  · exact h.2 r h1
  · rw [h1, List.length_set]; exact (h.row hi).2
theorem mget_set {n L : Nat} {m : List (List Bool)} (h : AllM n L m) {i x : Nat} (hi : i < n) (hx : x < L) (j y : Nat) : mget (mset m i x) j y = if j = i ∧ y = x then true else mget m j y := by
  unfold mget mset
  have hr := h.row hi
  have hlt : i < m.length := by rw [h.1]; exact hi
  rw [List.getD_eq_getElem?_getD (l := m.set i _), List.getElem?_set]
  by_cases e : i = j
  · subst e
    rw [if_pos rfl, if_pos hlt]
    simp only [Option.getD_some]
    rw [List.getD_eq_getElem?_getD (l := (m.getD i []).set x true), List.getElem?_set]
    by_cases e2 : x = y
    · subst e2
      rw [if_pos rfl, if_pos (by rw [hr.2]; exact hx)]; simp
    · rw [if_neg e2, if_neg (by rintro ⟨-, h⟩; exact e2 h.symm), ← List.getD_eq_getElem?_getD]
  · rw [if_neg e, if_neg (by rintro ⟨h, -⟩; exact e h.symm), ← List.getD_eq_getElem?_getD]
theorem countP_set (l : List Bool) (x : Nat) (h : l[x]? = some false) : (l.set x true).countP (fun b => !b) + 1 = l.countP (fun b => !b) := by
  induction l generalizing x with
  | nil => simp at h
  | cons b r ih =>
    cases x with
    | zero => simp at h; subst h; simp
    | succ x =>
      have := ih x (by simpa using h)
      simp only [List.set_cons_succ, List.countP_cons]
      omega
theorem falses_set {n L : Nat} {m : List (List Bool)} (h : AllM n L m) {i x : Nat} (hi : i < n) (hx : x < L) (hf : mget m i x = false) : falses (mset m i x) + 1 = falses m := by
  have hr := h.row hi
  have hc : (m.getD i [])[x]? = some false := by
    have hlt : x < (m.getD i []).length := by rw [hr.2]; exact hx
    unfold mget at hf
    rw [List.getD_eq_getElem?_getD, List.getElem?_eq_getElem hlt] at hf
    rw [List.getElem?_eq_getElem hlt]
    simpa using hf
  have h1 := countP_set _ x hc
  have key : ∀ (m : List (List Bool)) (i : Nat) (r r' : List Bool), m[i]? = some r → r'.countP (fun b => !b) + 1 = r.countP (fun b => !b) → falses (m.set i r') + 1 = falses m := by
    intro m
    induction m with
    | nil => intro i r r' h; simp at h
    | cons a t ih =>
      intro i r r' h h2
      cases i with
      | zero => simp at h; subst h; simp [falses]; omega
      | succ i =>
        have := ih i r r' (by simpa using h) h2
        simp only [falses, List.set_cons_succ, List.map_cons, List.sum_cons] at this ⊢
        omega
  exact key m i _ _ hr.1 h1
def zeroM (n L : Nat) : List (List Bool) := List.replicate n (List.replicate L false)
theorem zeroM_all (n L : Nat) : AllM n L (zeroM n L) := ⟨by simp [zeroM], fun r hr => by rw [(List.mem_replicate.1 hr).2]; simp⟩
theorem zeroM_get (n L i x : Nat) : mget (zeroM n L) i x = false := by
  unfold mget zeroM
  rw [List.getD_eq_getElem?_getD (l := List.replicate n _), List.getElem?_replicate]
  split
  · simp only [Option.getD_some]
    rw [List.getD_eq_getElem?_getD, List.getElem?_replicate]
    split <;> rfl
  · rfl

def boolV (r : List Bool) : List Value := r.map .bool
def rowsV (L : Nat) (gs : List Nat) : List Value := gs.map (fun (g : Nat) => Value.slice (some ⟨g, 0, none⟩) L L)
structure MatAt (w : World) (gm : Nat) (gs : List Nat) (L : Nat) (m : List (List Bool)) : Prop where
  blk : w.heap[gm]? = some (.cells (rowsV L gs).toArray 62 (0, 0))
  all : AllM gs.length L m
  set : ∀ (i g : Nat), gs[i]? = some g → w.heap[g]? = some (.cells (boolV (m.getD i [])).toArray 4 (0, 0))
  nodup : gs.Nodup
  ne : gm ∉ gs
section
variable {w w' : World} {gm L : Nat} {gs : List Nat} {m : List (List Bool)}
theorem MatAt.step (h : MatAt w gm gs L m) {S : Nat → Prop} (hs : Step S w w') (h1 : ¬ S gm) (h2 : ∀ g ∈ gs, ¬ S g) : MatAt w' gm gs L m :=
  ⟨hs.keep h.blk h1, h.all, fun i g hg => hs.keep (h.set i g hg) (h2 g (List.mem_of_getElem? hg)), h.nodup, h.ne⟩
theorem MatAt.row (h : MatAt w gm gs L m) {i g : Nat} (hg : gs[i]? = some g) : w.cell? ⟨gm, i, none⟩ = some (.slice (some ⟨g, 0, none⟩) L L) := blk_cell h.blk i _ (by simp [rowsV, hg])
theorem MatAt.cell (h : MatAt w gm gs L m) {i g x : Nat} (hg : gs[i]? = some g) (hx : x < L) : w.cell? ⟨g, x, none⟩ = some (.bool (mget m i x)) ∧ w.frozen? ⟨g, x, none⟩ = false := by
  have hi := (List.getElem?_eq_some_iff.1 hg).1
  have hr := h.all.row hi
  refine ⟨blk_cell (h.set i g hg) x _ ?_, blk_free (h.set i g hg) x⟩
  have hlt : x < (m.getD i []).length := by rw [hr.2]; exact hx
  have e : mget m i x = (m.getD i [])[x] := by unfold mget; rw [List.getD_eq_getElem?_getD, List.getElem?_eq_getElem hlt]; rfl
  simp only [boolV, List.getElem?_toArray, List.getElem?_map]
  rw [List.getElem?_eq_getElem hlt, e]; rfl
theorem MatAt.setTrue (h : MatAt w gm gs L m) {i g x : Nat} (hg : gs[i]? = some g) : MatAt (w.setCell ⟨g, x, none⟩ (.bool true)) gm gs L (mset m i x) := by
  have hi := (List.getElem?_eq_some_iff.1 hg).1
  have hmem := List.mem_of_getElem? hg
  have hne : gm ≠ g := fun e => h.ne (e ▸ hmem)
  have hlen : i < m.length := by rw [h.all.1]; exact hi
  refine ⟨by rw [Below.heap_setCell _ _ _ _ hne]; exact h.blk, h.all.set i x hi, fun j g' hg' => ?_, h.nodup, h.ne⟩
  by_cases e : j = i
  · subst e
    rw [hg] at hg'; cases hg'
    have hb := blk_set (h.set j g hg) x (.bool true)
    rw [hb]
    congr 2
    unfold mset
    rw [List.getD_eq_getElem?_getD (l := m.set j _), List.getElem?_set, if_pos rfl, if_pos hlen]
    simp [boolV]
  · have hne2 : g' ≠ g := by
      intro e2
      subst e2
      have hj := (List.getElem?_eq_some_iff.1 hg').1
      exact e ((List.getElem?_inj hj h.nodup).1 (hg'.trans hg.symm))
    rw [Below.heap_setCell _ _ _ _ hne2, h.set j g' hg']
    congr 3
    unfold mset
    rw [List.getD_eq_getElem?_getD (l := m.set i _), List.getElem?_set, if_neg (Ne.symm e), ← List.getD_eq_getElem?_getD]
end

end Go.Proofs.Ytilipeigjkmldaa
