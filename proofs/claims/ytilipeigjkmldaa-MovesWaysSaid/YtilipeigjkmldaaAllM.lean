/- A matrix of Booleans, plain and in memory: a row of rows, each in a block of its own. / chattelref20.All, plain: what a round of it shows; matrices that are right and closed. -/
import Derived.Test.YtilipeigjkmldaaCoreA
import Derived.Test.YtilipeigjkmldaaAt
namespace Go.Proofs.Ytilipeigjkmldaa
open Go.RowKit

def mget (m : List (List Bool)) (i x : Nat) : Bool := (m.getD i []).getD x false
def mset (m : List (List Bool)) (i x : Nat) : List (List Bool) := m.set i ((m.getD i []).set x true)
def falses (m : List (List Bool)) : Nat := (m.map (fun r => r.countP (fun b => !b))).sum
def AllM (n L : Nat) (m : List (List Bool)) : Prop := m.length = n ∧ ∀ r ∈ m, r.length = L
theorem AllM.row {n L : Nat} {m : List (List Bool)} (h : AllM n L m) {i : Nat} (hi : i < n) : m[i]? = some (m.getD i []) ∧ (m.getD i []).length = L := by
  have hlt : i < m.length := by rw [h.1]; exact hi
  have e : m.getD i [] = m[i] := by rw [List.getD_eq_getElem?_getD, List.getElem?_eq_getElem hlt]; rfl
  rw [e]
  exact ⟨List.getElem?_eq_getElem hlt, h.2 _ (List.getElem_mem hlt)⟩
theorem AllM.set {n L : Nat} {m : List (List Bool)} (h : AllM n L m) (i x : Nat) (hi : i < n) : AllM n L (mset m i x) := by
  refine ⟨by simp [mset, h.1], fun r hr => ?_⟩
  rcases List.mem_or_eq_of_mem_set hr with h1 | h1
  · exact h.2 r h1
  · rw [h1, List.length_set]; exact (h.row hi).2
theorem mget_set {n L : Nat} {m : List (List Bool)} (h : AllM n L m) {i x : Nat} (hi : i < n) (hx : x < L) (j y : Nat) : mget (mset m i x) j y = if j = i ∧ y = x then true else mget m j y := by
  unfold mget mset
  have hr := h.row hi
  have hlt : i < m.length := by rw [h.1]; exact hi
  rw [List.getD_eq_getElem?_getD (l := m.set i _), List.getElem?_set]
  by_cases e : i = j
  · subst e
    rw [if_pos rfl, if_pos hlt]
    simp only [Option.getD_some]
    rw [List.getD_eq_getElem?_getD (l := (m.getD i []).set x true), List.getElem?_set]
    by_cases e2 : x = y
    · subst e2
      rw [if_pos rfl, if_pos (by rw [hr.2]; exact hx)]; simp
    · rw [if_neg e2, if_neg (by rintro ⟨-, h⟩; exact e2 h.symm), ← List.getD_eq_getElem?_getD]
  · rw [if_neg e, if_neg (by rintro ⟨h, -⟩; exact e h.symm), ← List.getD_eq_getElem?_getD]
theorem countP_set (l : List Bool) (x : Nat) (h : l[x]? = some false) : (l.set x true).countP (fun b => !b) + 1 = l.countP (fun b => !b) := by
  induction l generalizing x with
  | nil => simp at h
  | cons b r ih =>
    cases x with
    | zero => simp at h; subst h; simp
    | succ x =>
      have := ih x (by simpa using h)
      simp only [List.set_cons_succ, List.countP_cons]
      omega
theorem falses_set {n L : Nat} {m : List (List Bool)} (h : AllM n L m) {i x : Nat} (hi : i < n) (hx : x < L) (hf : mget m i x = false) : falses (mset m i x) + 1 = falses m := by
  have hr := h.row hi
  have hc : (m.getD i [])[x]? = some false := by
    have hlt : x < (m.getD i []).length := by rw [hr.2]; exact hx
    unfold mget at hf
    rw [List.getD_eq_getElem?_getD, List.getElem?_eq_getElem hlt] at hf
    rw [List.getElem?_eq_getElem hlt]
    simpa using hf
  have h1 := countP_set _ x hc
  have key : ∀ (m : List (List Bool)) (i : Nat) (r r' : List Bool), m[i]? = some r → r'.countP (fun b => !b) + 1 = r.countP (fun b => !b) → falses (m.set i r') + 1 = falses m := by
    intro m
    induction m with
    | nil => intro i r r' h; simp at h
    | cons a t ih =>
      intro i r r' h h2
      cases i with
      | zero => simp at h; subst h; simp [falses]; omega
      | succ i =>
        have := ih i r r' (by simpa using h) h2
        simp only [falses, List.set_cons_succ, List.map_cons, List.sum_cons] at this ⊢
        omega
  exact key m i _ _ hr.1 h1
def zeroM (n L : Nat) : List (List Bool) := List.replicate n (List.replicate L false)
theorem zeroM_all (n L : Nat) : AllM n L (zeroM n L) := ⟨by simp [zeroM], fun r hr => by rw [(List.mem_replicate.1 hr).2]; simp⟩
theorem zeroM_get (n L i x : Nat) : mget (zeroM n L) i x = false := by
  unfold mget zeroM
  rw [List.getD_eq_getElem?_getD (l := List.replicate n _), List.getElem?_replicate]
  split
  · simp only [Option.getD_some]
    rw [List.getD_eq_getElem?_getD, List.getElem?_replicate]
    split <;> rfl
  · rfl

def boolV (r : List Bool) : List Value := r.map .bool
def rowsV (L : Nat) (gs : List Nat) : List Value := gs.map (fun (g : Nat) => Value.slice (some ⟨g, 0, none⟩) L L)
structure MatAt (w : World) (gm : Nat) (gs : List Nat) (L : Nat) (m : List (List Bool)) : Prop where
  blk : w.heap[gm]? = some (.cells (rowsV L gs).toArray 62 (0, 0))
  all : AllM gs.length L m
  set : ∀ (i g : Nat), gs[i]? = some g → w.heap[g]? = some (.cells (boolV (m.getD i [])).toArray 4 (0, 0))
  nodup : gs.Nodup
  ne : gm ∉ gs
section
variable {w w' : World} {gm L : Nat} {gs : List Nat} {m : List (List Bool)}
theorem MatAt.step (h : MatAt w gm gs L m) {S : Nat → Prop} (hs : Step S w w') (h1 : ¬ S gm) (h2 : ∀ g ∈ gs, ¬ S g) : MatAt w' gm gs L m :=
  ⟨hs.keep h.blk h1, h.all, fun i g hg => hs.keep (h.set i g hg) (h2 g (List.mem_of_getElem? hg)), h.nodup, h.ne⟩
theorem MatAt.row (h : MatAt w gm gs L m) {i g : Nat} (hg : gs[i]? = some g) : w.cell? ⟨gm, i, none⟩ = some (.slice (some ⟨g, 0, none⟩) L L) := blk_cell h.blk i _ (by simp [rowsV, hg])
theorem MatAt.cell (h : MatAt w gm gs L m) {i g x : Nat} (hg : gs[i]? = some g) (hx : x < L) : w.cell? ⟨g, x, none⟩ = some (.bool (mget m i x)) ∧ w.frozen? ⟨g, x, none⟩ = false := by
  have hi := (List.getElem?_eq_some_iff.1 hg).1
  have hr := h.all.row hi
  refine ⟨blk_cell (h.set i g hg) x _ ?_, blk_free (h.set i g hg) x⟩
  have hlt : x < (m.getD i []).length := by rw [hr.2]; exact hx
  have e : mget m i x = (m.getD i [])[x] := by unfold mget; rw [List.getD_eq_getElem?_getD, List.getElem?_eq_getElem hlt]; rfl
  simp only [boolV, List.getElem?_toArray, List.getElem?_map]
  rw [List.getElem?_eq_getElem hlt, e]; rfl
theorem MatAt.setTrue (h : MatAt w gm gs L m) {i g x : Nat} (hg : gs[i]? = some g) : MatAt (w.setCell ⟨g, x, none⟩ (.bool true)) gm gs L (mset m i x) := by
  have hi := (List.getElem?_eq_some_iff.1 hg).1
  have hmem := List.mem_of_getElem? hg
  have hne : gm ≠ g := fun e => h.ne (e ▸ hmem)
  have hlen : i < m.length := by rw [h.all.1]; exact hi
  refine ⟨by rw [Below.heap_setCell _ _ _ _ hne]; exact h.blk, h.all.set i x hi, fun j g' hg' => ?_, h.nodup, h.ne⟩
  by_cases e : j = i
  · subst e
    rw [hg] at hg'; cases hg'
    have hb := blk_set (h.set j g hg) x (.bool true)
    rw [hb]
    congr 2
    unfold mset
    rw [List.getD_eq_getElem?_getD (l := m.set j _), List.getElem?_set, if_pos rfl, if_pos hlen]
    simp [boolV]
  · have hne2 : g' ≠ g := by
      intro e2
      subst e2
      have hj := (List.getElem?_eq_some_iff.1 hg').1
      exact e ((List.getElem?_inj hj h.nodup).1 (hg'.trans hg.symm))
    rw [Below.heap_setCell _ _ _ _ hne2, h.set j g' hg']
    congr 3
    unfold mset
    rw [List.getD_eq_getElem?_getD (l := m.set i _), List.getElem?_set, if_neg (Ne.symm e), ← List.getD_eq_getElem?_getD]
end

end Go.Proofs.Ytilipeigjkmldaa

namespace Go.Proofs.Ytilipeigjkmldaa
open Go.RowKit

def liveT (b : Bod) (m : List (List Bool)) (i x : Nat) (l : List Int) : Bool := usedB b i x || (!lostB b i x && l.any (fun t => mget m t.toNat x))
def SoundM (b : Bod) (m : List (List Bool)) : Prop := ∀ i x, i < b.code.length → x < b.locals → mget m i x = true → LiveB b i x
def Closed (b : Bod) (m : List (List Bool)) (i x : Nat) : Prop := liveT b m i x (succB b i) = true → mget m i x = true
theorem SoundM.live {b : Bod} {m : List (List Bool)} (h : SoundM b m) (hok : bodOk b) {i x : Nat} (hi : i < b.code.length) (hx : x < b.locals) (hl : liveT b m i x (succB b i) = true) : LiveB b i x := by
  unfold liveT at hl
  simp only [Bool.or_eq_true, Bool.and_eq_true, Bool.not_eq_true'] at hl
  rcases hl with hl | ⟨h1, h2⟩
  · exact Back.gen ((pGen_iff hok i x hi).2 hl)
  · obtain ⟨t, ht, hm⟩ := List.any_eq_true.1 h2
    have hr := hok.succ i t ht
    refine Back.step (t := t.toNat) (fun hk => ?_) ?_ (h t.toNat x (by omega) hx hm)
    · rw [(pKill_iff hok i x hi).1 hk] at h1; cases h1
    · rw [pSucc_is i hi]; exact List.mem_map.2 ⟨t, ht, rfl⟩
theorem SoundM.set {b : Bod} {m : List (List Bool)} {n L : Nat} (h : SoundM b m) (ha : AllM n L m) {i x : Nat} (hi : i < n) (hx : x < L) (hl : LiveB b i x) : SoundM b (mset m i x) := by
  intro j y hj hy hm
  rw [mget_set ha hi hx] at hm
  split at hm
  · rename_i e; rw [e.1, e.2]; exact hl
  · exact h j y hj hy hm
theorem SoundM.zero (b : Bod) (n L : Nat) : SoundM b (zeroM n L) := by
  intro i x _ _ h
  rw [zeroM_get] at h; cases h
theorem mat_iff {b : Bod} {m : List (List Bool)} (hok : bodOk b) (hs : SoundM b m) (hc : ∀ i x, i < b.code.length → x < b.locals → Closed b m i x) (i x : Nat) (hi : i < b.code.length) (hx : x < b.locals) : mget m i x = true ↔ LiveB b i x := by
  refine ⟨hs i x hi hx, fun h => ?_⟩
  have key := Back.least (n := b.code.length) (fun i y => y = x → mget m i x = true) (succ := pSucc (prbB b)) (gen := pGen (prbB b)) (kill := pKill (prbB b)) ?_ ?_ ?_ h hi
  · exact key rfl
  · intro i t hi ht
    rw [pSucc_is i hi] at ht
    obtain ⟨y, hy, rfl⟩ := toN_mem ht
    have := hok.succ i y hy
    omega
  · rintro i e hi hg rfl
    refine hc i e hi hx ?_
    unfold liveT
    rw [(pGen_iff hok i e hi).1 hg]; rfl
  · rintro i e t hi hk ht hS rfl
    refine hc i e hi hx ?_
    unfold liveT
    rw [pSucc_is i hi] at ht
    obtain ⟨y, hy, rfl⟩ := toN_mem ht
    have h1 : lostB b i e = false := by
      cases h : lostB b i e with
      | false => rfl
      | true => exact absurd ((pKill_iff hok i e hi).2 h) hk
    have h2 : (succB b i).any (fun t => mget m t.toNat e) = true := List.any_eq_true.2 ⟨y, hy, hS rfl⟩
    rw [h1, h2]
    simp
theorem liveT_take {b : Bod} {m : List (List Bool)} {i x j : Nat} {l : List Int} {t : Int} (h : l[j]? = some t) : liveT b m i x (l.take (j + 1)) = (liveT b m i x (l.take j) || (!lostB b i x && mget m t.toNat x)) := by
  obtain ⟨hj, rfl⟩ := List.getElem?_eq_some_iff.1 h
  unfold liveT
  rw [List.take_succ_eq_append_getElem hj, List.any_append, List.any_cons, List.any_nil, Bool.or_false]
  cases usedB b i x <;> cases lostB b i x <;> simp
theorem filter_range_succ (p : Nat → Bool) (k : Nat) : (List.range (k + 1)).filter p = (List.range k).filter p ++ (if p k = true then [k] else []) := by
  rw [List.range_succ, List.filter_append]
  congr 1
  by_cases h : p k = true <;> simp [h]

def AllPost (b : Bod) (w : World) (e : Ending) (w' : World) : Prop :=
  (∃ v p, e = .returned v ∧ Rows2 w' w'.heap.size v (liveL b p) ∧ ∀ i x, i < b.code.length → x < b.locals → (p i x = true ↔ LiveB b i x)) ∧ Step (fun _ => False) w w'

theorem Try.infoBool : (Try.prog.info? 4).map (fun i => (i.zero, i.size, i.bytes)) = some (some (.bool false), 1, 1) := by kernel_rfl
theorem Try.infoBools : (Try.prog.info? 62).map (fun i => (i.zero, i.size, i.bytes)) = some (some (.slice none 0 0), 1, 24) := by kernel_rfl
theorem made_rep (v : Value) (n : Nat) (h : v.cells = #[v]) : madeCells v.cells (n * 1) = (List.replicate n v).toArray := by
  apply Array.ext_getElem?
  intro i
  rw [h]
  simp only [madeCells, Nat.mul_one]
  by_cases hi : i < n
  · simp [hi, Nat.mod_one]
  · simp [hi]
theorem run_makeBools (n : Nat) (hn : n ≤ 1000000) (W : World) : (Instr.makeSlice 62 (.int .i64 (n : Int)) (.int .i64 (n : Int))).run Try.prog W = .ok (.slice (some ⟨W.heap.size, 0, none⟩) n n) (W.alloc (.cells (Array.replicate n (Value.bool false)) 4)) := by
  obtain ⟨i0, hi, hz0, hz1, hz2⟩ := info_parts Try.infoBool
  have h := run_make (P := Try.prog) W 62 4 i0 (.bool false) Try.underlying62 hi hz0 .i64 .i64 (n : Int) (n : Int) (by omega) (Int.le_refl _) (by rw [hz2]; omega) (by omega)
  rw [hz1, Int.toNat_natCast, made_rep _ _ rfl] at h
  exact h
theorem run_makeRows (n : Nat) (hn : n ≤ 1000000) (W : World) : (Instr.makeSlice 85 (.int .i64 (n : Int)) (.int .i64 (n : Int))).run Try.prog W = .ok (.slice (some ⟨W.heap.size, 0, none⟩) n n) (W.alloc (.cells (Array.replicate n (Value.slice none 0 0)) 62)) := by
  obtain ⟨i0, hi, hz0, hz1, hz2⟩ := info_parts Try.infoBools
  have h := run_make (P := Try.prog) W 85 62 i0 (.slice none 0 0) Try.underlying85 hi hz0 .i64 .i64 (n : Int) (n : Int) (by omega) (Int.le_refl _) (by rw [hz2]; omega) (by omega)
  rw [hz1, Int.toNat_natCast, made_rep _ _ rfl] at h
  exact h
/- Rows under way: the first ones are made, the others nil. -/
structure MatTo (w : World) (gm n L : Nat) (gs : List Nat) : Prop where
  blk : w.heap[gm]? = some (.cells (rowsV L gs ++ List.replicate (n - gs.length) (Value.slice none 0 0)).toArray 62 (0, 0))
  set : ∀ g ∈ gs, w.heap[g]? = some (.cells (List.replicate L (Value.bool false)).toArray 4 (0, 0)) ∧ gm < g
  nodup : gs.Nodup
theorem MatTo.next {w : World} {gm n L : Nat} {gs : List Nat} (h : MatTo w gm n L gs) (hk : gs.length < n) :
    MatTo ((w.alloc (.cells (List.replicate L (Value.bool false)).toArray 4)).setCell ⟨gm, gs.length, none⟩ (.slice (some ⟨w.heap.size, 0, none⟩) L L)) gm n L (gs ++ [w.heap.size]) := by
  have hgm := blk_lt h.blk
  have hlt : ∀ g ∈ gs, g < w.heap.size := fun g hg => blk_lt (h.set g hg).1
  refine ⟨?_, fun g hg => ?_, ?_⟩
  · rw [blk_set (blk_alloc h.blk) gs.length _]
    congr 2
    apply Array.ext_getElem?
    intro j
    obtain ⟨r, hr⟩ : ∃ r, n - gs.length = r + 1 := ⟨n - gs.length - 1, by omega⟩
    have hr2 : n - (gs.length + 1) = r := by omega
    have e1 : (rowsV L gs).length = gs.length := by simp [rowsV]
    simp only [List.length_append, List.length_cons, List.length_nil, Nat.zero_add, hr2, hr, List.replicate_succ, List.setIfInBounds_toArray, List.getElem?_toArray]
    congr 1
    rw [List.set_append_right _ _ (by omega), e1, Nat.sub_self, List.set_cons_zero]
    simp [rowsV]
  · rcases List.mem_append.1 hg with hg | hg
    · have h1 := h.set g hg
      refine ⟨?_, h1.2⟩
      rw [Below.heap_setCell _ _ _ _ (by show g ≠ gm; omega)]
      exact blk_alloc h1.1
    · rw [List.mem_singleton.1 hg]
      refine ⟨?_, hgm⟩
      rw [Below.heap_setCell _ _ _ _ (by show w.heap.size ≠ gm; omega)]
      exact blk_new _ _
  · rw [List.nodup_append]
    exact ⟨h.nodup, by simp, fun a ha b hb e => by have := hlt a ha; rw [List.mem_singleton.1 hb] at e; omega⟩
theorem MatTo.done {w : World} {gm n L : Nat} {gs : List Nat} (h : MatTo w gm n L gs) (hn : gs.length = n) : MatAt w gm gs L (zeroM n L) := by
  refine ⟨?_, by rw [hn]; exact zeroM_all _ _, fun i g hg => ?_, h.nodup, fun hm => by have := (h.set gm hm).2; omega⟩
  · have := h.blk
    rw [hn, Nat.sub_self, List.replicate_zero, List.append_nil] at this
    exact this
  · rw [(h.set g (List.mem_of_getElem? hg)).1]
    have hi := (List.getElem?_eq_some_iff.1 hg).1
    have e : (zeroM n L).getD i [] = List.replicate L false := by
      unfold zeroM
      rw [List.getD_eq_getElem?_getD, List.getElem?_replicate, if_pos (by omega)]; rfl
    rw [e]; simp [boolV]

end Go.Proofs.Ytilipeigjkmldaa
