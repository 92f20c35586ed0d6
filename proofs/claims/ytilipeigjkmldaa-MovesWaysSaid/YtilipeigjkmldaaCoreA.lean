/- Small helpers of this seat's proofs: blocks, rows that one owns, steps. / append in every case (onto nil or a row of the call's own; of nil, of nothing, of a row), at the operation and at a step of a region that draws. / What is read as data: rows of whatever type, structs' fields; what a law leaves whose arguments stay as they were. / Lists of things of a fixed number of cells, cell behind cell; rows of them in memory; slices of slices. / Facts on the nodes of a graph, plain: what goes back along it, what goes forward; sets of bits in words. / What single operations on numbers and words give, as rules for a walk in its own spelling: the results are letters. / A struct of many cells goes whole into a variable of its own; and out of memory: as one step of a walk. / A struct goes whole into a part of a block that is known: one step of a walk; the world behind it is a letter. / A region that draws its order, by rely: one obligation for each operation, whatever has come up ahead of it. / A slice of one struct that is whole: one step of a walk. / A slice of several structs that are whole. -/
import Derived.Test.YtilipeigjkmldaaBase
import Derived.Deep.QuietTactic
import Derived.BigQuiet
import Derived.BigRegion
import Derived.Deep.LoopGhost
import Derived.Deep.RegionHeld3
import Derived.Lib.Hide
import Derived.Laws.AppendOwnNone
import Derived.Laws.BitsAllLaws
import Derived.IntWalk
import Derived.Deep.AppendLies
import Derived.ChangeArms
import Derived.ReadAgain
import Derived.Below
import Derived.ChangeSame
import Derived.Deep.Slices
import Derived.Deep.MidRow
import Derived.Orders
namespace Go.Proofs.Ytilipeigjkmldaa
open Go.RowKit

theorem blk_new_set (w : World) (a : Addr) (v : Value) (o : Obj) : ((w.setCell a v).alloc o).heap[w.heap.size]? = some o := by
  have := heap_alloc_new (w.setCell a v) o
  simpa [World.setCell] using this
theorem blk_new (w : World) (o : Obj) : (w.alloc o).heap[w.heap.size]? = some o := heap_alloc_new w o
theorem cell_alloc {w : World} {a : Addr} {v : Value} {o : Obj} (h : w.cell? a = some v) : (w.alloc o).cell? a = some v :=
  (World.grownBy_alloc w o none).cell h (by simp)
theorem cell_set {w : World} {a p : Addr} {v u : Value} (h : w.cell? a = some v) (hn : a.block ≠ p.block) : (w.setCell p u).cell? a = some v :=
  (World.cell?_of_block (Below.heap_setCell w p u a.block hn)).trans h
theorem Step.cell {S : Nat → Prop} {w w' : World} {a : Addr} {v : Value} (hs : Step S w w') (h : w.cell? a = some v) (hn : ¬ S a.block) : w'.cell? a = some v :=
  (World.cell?_of_block (hs.block a.block (World.block_lt_of_cell? w a h) hn)).trans h
theorem news_cells {w : World} {b t : Nat} {cs : List Value} (h : w.heap[b]? = some (.cells cs.toArray t (0, 0))) : ∀ (j : Nat) (u : Value), cs[j]? = some u → w.cell? ((⟨b, 0, none⟩ : Addr).add j) = some u := by
  intro j u hu
  have hadd : (⟨b, 0, none⟩ : Addr).add j = ⟨b, j, none⟩ := by unfold Addr.add; split <;> simp_all
  rw [hadd]
  exact blk_cell h j u (by simpa using hu)
theorem blk_new2 (w : World) (o1 o2 : Obj) : ((w.alloc o1).alloc o2).heap[w.heap.size + 1]? = some o2 := by
  have := heap_alloc_new (w.alloc o1) o2
  simpa using this
theorem owned_row {w : World} {base : Nat} {e : TypeId} {size : Nat} {v : Value} {n : Nat} {xs : List Value} (h : w.ownsRow base e size v n xs) : ∀ k, v.ownBlock = some k → base ≤ k := fun k hk => (h.lt k hk).1
theorem grown_keep {w w' : World} {row : Option Nat} (hg : w.grownBy w' row) {b : Nat} {o : Obj} (hb : w.heap[b]? = some o) (hn : ∀ k, row = some k → b ≠ k) : w'.heap[b]? = some o := by
  rw [hg.block b (blk_lt hb) (fun e => hn b e.symm rfl)]; exact hb
theorem owns_base {w : World} {base base' : Nat} {e : TypeId} {size : Nat} {v : Value} {n : Nat} {xs : List Value} (h : w.ownsRow base e size v n xs) (hb : base' ≤ base) : w.ownsRow base' e size v n xs := by
  refine ⟨h.1, ?_⟩
  rcases h.2 with hz | ⟨g, cap, cur, rfl, hg, rest⟩
  · exact .inl hz
  · exact .inr ⟨g, cap, cur, rfl, by omega, rest⟩
theorem blk2 {w : World} {b t : Nat} {a0 a1 : Value} (h : w.heap[b]? = some (.cells #[a0, a1] t (0, 0))) :
    (w.cell? ⟨b, 0, none⟩ = some a0 ∧ w.cell? ⟨b, 1, none⟩ = some a1) ∧ (w.frozen? ⟨b, 0, none⟩ = false ∧ w.frozen? ⟨b, 1, none⟩ = false) :=
  ⟨⟨blk_cell h 0 _ rfl, blk_cell h 1 _ rfl⟩, ⟨blk_free h 0, blk_free h 1⟩⟩
theorem blk3 {w : World} {b t : Nat} {a0 a1 a2 : Value} (h : w.heap[b]? = some (.cells #[a0, a1, a2] t (0, 0))) :
    (w.cell? ⟨b, 0, none⟩ = some a0 ∧ w.cell? ⟨b, 1, none⟩ = some a1 ∧ w.cell? ⟨b, 2, none⟩ = some a2) ∧
    (w.frozen? ⟨b, 0, none⟩ = false ∧ w.frozen? ⟨b, 1, none⟩ = false ∧ w.frozen? ⟨b, 2, none⟩ = false) :=
  ⟨⟨blk_cell h 0 _ rfl, blk_cell h 1 _ rfl, blk_cell h 2 _ rfl⟩, ⟨blk_free h 0, blk_free h 1, blk_free h 2⟩⟩
theorem owns_slice {w : World} {base : Nat} {e : TypeId} {size : Nat} {v : Value} {n : Nat} {xs : List Value} (h : w.ownsRow base e size v n xs) : ∃ a c, v = .slice a n c := by
  rcases h.2 with ⟨hv, h0⟩ | ⟨g, cap, cur, hv, _⟩
  · exact ⟨none, 0, by rw [hv, h0]⟩
  · exact ⟨_, _, hv⟩
theorem Step.owns {S : Nat → Prop} {w w' : World} {base : Nat} {e : TypeId} {size : Nat} {v : Value} {n : Nat} {xs : List Value} (hs : Step S w w') (h : w.ownsRow base e size v n xs) (hn : ∀ k, base ≤ k → ¬ S k) : w'.ownsRow base e size v n xs := by
  refine ⟨h.1, ?_⟩
  rcases h.2 with hz | ⟨g, cap, cur, rfl, hb, hgg, rest⟩
  · exact .inl hz
  · exact .inr ⟨g, cap, cur, rfl, hb, hs.keep hgg (hn g hb), rest⟩
theorem dec_lt {a b : Int} (h : a < b) : decide (a < b) = true := decide_eq_true h
theorem dec_ge {a b : Int} (h : b ≤ a) : decide (a < b) = false := decide_eq_false (by omega)
theorem grown_step {w w' : World} {row : Option Nat} (h : w.grownBy w' row) : Step (fun k => row = some k) w w' := (Step.refl _ _).grown h (fun _ hk _ => hk)
def intsV (l : List Int) : List Value := l.map (.int .i64)
theorem intsV_get (l : List Int) (i : Nat) (x : Int) (h : l[i]? = some x) : (intsV l)[i]? = some (.int .i64 x) := by simp [intsV, h]
theorem intsV_one (l : List Int) : ∀ u ∈ intsV l, u.oneCell' = true := by
  intro u hu
  obtain ⟨x, _, rfl⟩ := List.mem_map.1 hu
  rfl
theorem intsV_append (l r : List Int) : intsV (l ++ r) = intsV l ++ intsV r := by simp [intsV]
theorem intsV_length (l : List Int) : (intsV l).length = l.length * 1 := by simp [intsV]
theorem Step.toBelow {w w' : World} (h : Step (fun _ => False) w w') : Below w.heap.size w w' := ⟨h.os, h.tape, h.output, h.size, fun k hk => h.block k hk (fun e => e)⟩

def SomeBool (w : World) (e : Ending) (w' : World) : Prop := (∃ b, e = .returned (.bool b)) ∧ Step (fun _ => False) w w'
def IsBool (b : Bool) (w : World) (e : Ending) (w' : World) : Prop := e = .returned (.bool b) ∧ Step (fun _ => False) w w'

end Go.Proofs.Ytilipeigjkmldaa

namespace Go.Proofs.Ytilipeigjkmldaa
open Go.RowKit

/- A slice of n elements, in blocks below B, whose cells are xs. -/
def Row (w : World) (B : Nat) (v : Value) (n : Nat) (xs : List Value) : Prop :=
  ∃ a c, v = .slice a n c ∧ n ≤ c ∧ c ≤ 9223372036854775807 ∧ (a = none → n = 0 ∧ c = 0) ∧ (0 < n → ∃ g o, a = some ⟨g, o, none⟩ ∧ g < B ∧ g < w.heap.size ∧ ∀ (i : Nat) x, xs[i]? = some x → w.cell? ⟨g, o + i, none⟩ = some x)

theorem Row.step {w w' : World} {B : Nat} {v : Value} {n : Nat} {xs : List Value} {S : Nat → Prop} (h : Row w B v n xs) (hs : Step S w w') (hS : ∀ k, k < B → ¬ S k) : Row w' B v n xs := by
  obtain ⟨a, c, hv, hc, hm, hz, hr⟩ := h
  refine ⟨a, c, hv, hc, hm, hz, fun hn => ?_⟩
  obtain ⟨g, o, ha, hg, hgw, hcell⟩ := hr hn
  exact ⟨g, o, ha, hg, Nat.lt_of_lt_of_le hgw hs.size, fun i x hx => hs.cell (hcell i x hx) (hS g hg)⟩
theorem Row.mono {w : World} {B B' : Nat} {v : Value} {n : Nat} {xs : List Value} (h : Row w B v n xs) (hb : B ≤ B') : Row w B' v n xs := by
  obtain ⟨a, c, hv, hc, hm, hz, hr⟩ := h
  refine ⟨a, c, hv, hc, hm, hz, fun hn => ?_⟩
  obtain ⟨g, o, ha, hg, hgw, hcell⟩ := hr hn
  exact ⟨g, o, ha, by omega, hgw, hcell⟩
theorem add_is (g o j : Nat) : (⟨g, o, none⟩ : Addr).add j = ⟨g, o + j, none⟩ := by unfold Addr.add; split <;> simp_all
/- A row that one owns is a row. -/
theorem Row.of_owns {w : World} {base B : Nat} {e : TypeId} {size : Nat} {v : Value} {n : Nat} {xs : List Value} (h : w.ownsRow base e size v n xs) (hB : w.heap.size ≤ B) : Row w B v n xs := by
  have hh := h
  rcases h.2 with ⟨rfl, rfl⟩ | ⟨g, cap, cur, rfl, hb, hg, hn, hm, _⟩
  · exact ⟨none, 0, rfl, Nat.le_refl _, by omega, fun _ => ⟨rfl, rfl⟩, fun h => absurd h (Nat.lt_irrefl _)⟩
  · refine ⟨_, cap, rfl, hn, by simpa [maxLen] using hm, fun h => (by cases h), fun _ => ⟨g, 0, rfl, Nat.lt_of_lt_of_le (blk_lt hg) hB, blk_lt hg, fun i x hx => ?_⟩⟩
    have := hh.cells (g := g) rfl i x hx
    rwa [add_is] at this

section
variable {P : Program} (w : World)

theorem run_append_row (B : Nat) (base : Nat) (t ty e : TypeId) (i : TypeInfo) (z : Value) (size bytes : Nat) (ht : P.underlying t = some (.slice e)) (hi : P.info? e = some i) (hz : i.zero = some z)
    (hsize : i.size = size) (hby : i.bytes = bytes) (hzs : z.cells.size = size) (hsz : 0 < size)
    (v : Value) (n : Nat) (xs : List Value) (hown : w.ownsRow base e size v n xs)
    (vs : Value) (m : Nat) (news : List Value) (hrow : Row w B vs m news) (hl : news.length = m * size) (h1 : ∀ u ∈ news, u.oneCell' = true)
    (h63 : n + m ≤ maxLen) (hbytes : (n + m) * bytes ≤ 140737488355328) (hbase : base ≤ w.heap.size) :
    ∃ v' w', (Builtin.append_ #[t, t] ty #[v, vs]).run P w = .ok v' w' ∧ w'.ownsRow base e size v' (n + m) (xs ++ news) ∧ w.grownBy w' v.ownBlock ∧ (v'.ownBlock = v.ownBlock ∨ v'.ownBlock = some w.heap.size) := by
  obtain ⟨a, c, rfl, hc, hm, hnil, hr⟩ := hrow
  cases a with
  | none =>
    obtain ⟨rfl, rfl⟩ := hnil rfl
    have : news = [] := List.eq_nil_of_length_eq_zero (by omega)
    subst this
    refine ⟨v, w, run_append_owned_none (P := P) w base t ty e i size ht hi v n xs hown, ?_, ⟨rfl, rfl, rfl, Nat.le_refl _, fun _ _ _ => rfl⟩, .inl rfl⟩
    rw [List.append_nil]; exact hown
  | some ad =>
    have hnews : ∀ j u, news[j]? = some u → w.cell? (ad.add j) = some u := by
      intro j u hu
      have hlt := (List.getElem?_eq_some_iff.1 hu).1
      have hpos : 0 < m := by
        rcases Nat.eq_zero_or_pos m with h0 | h0
        · subst h0; omega
        · exact h0
      obtain ⟨g, o, ha, _, _, hcell⟩ := hr hpos
      cases ha
      rw [add_is]
      exact hcell j u hu
    obtain ⟨v', w', r1, r2, r3, _, r5⟩ := run_append_own_at (P := P) w base t ty e i z size bytes ht hi hz hsize hby hzs hsz v n xs hown ad m c news hl hnews h1 h63 hbytes hbase
    exact ⟨v', w', r1, r2, r3, r5⟩

theorem wp_append_row {o : Oper} {a : Act} {K : Act → World → Prop} {Q : Exit → Act → World → Prop} (B : Nat) (s x : Operand) (t : TypeId)
    (ho : o.op = .call { callee := .builtin .append, args := #[s, x], argTypes := #[t, t] })
    (base : Nat) (e : TypeId) (i : TypeInfo) (z : Value) (size bytes : Nat) (ht : P.underlying t = some (.slice e)) (hi : P.info? e = some i) (hz : i.zero = some z)
    (hsize : i.size = size) (hby : i.bytes = bytes) (hzs : z.cells.size = size) (hsz : 0 < size)
    (v : Value) (n : Nat) (xs : List Value) (hs : a.eval s = v) (hown : w.ownsRow base e size v n xs)
    (vs : Value) (m : Nat) (news : List Value) (hx : a.eval x = vs) (hrow : Row w B vs m news) (hl : news.length = m * size) (h1 : ∀ u ∈ news, u.oneCell' = true)
    (h63 : n + m ≤ maxLen) (hbytes : (n + m) * bytes ≤ 140737488355328) (hbase : base ≤ w.heap.size)
    (h : ∀ v' w', w'.ownsRow base e size v' (n + m) (xs ++ news) → w.grownBy w' v.ownBlock → (v'.ownBlock = v.ownBlock ∨ v'.ownBlock = some w.heap.size) → K (a.put o.dst v') w') : o.wp P a w K Q := by
  obtain ⟨v', w', hr, h2, h3, h4⟩ := run_append_row (P := P) w B base t o.type e i z size bytes ht hi hz hsize hby hzs hsz v n xs hown vs m news hrow hl h1 h63 hbytes hbase
  unfold Oper.wp execOp
  simp only [ho, resolve, invoke, builtin, Sem.run_bind, Sem.run_pure, Result.andThen_ok, List.map_toArray, List.map_cons, List.map_nil, hs, hx, hr]
  exact h v' w' h2 h3 h4

theorem wpList_append_row {ops : Array Oper} {rest : List Oper} {o : Oper} {a : Act} {Q : Exit → Act → World → Prop} (hgd : o.guard = none) (B : Nat) (s x : Operand) (t : TypeId)
    (ho : o.op = .call { callee := .builtin .append, args := #[s, x], argTypes := #[t, t] })
    (base : Nat) (e : TypeId) (i : TypeInfo) (z : Value) (size bytes : Nat) (ht : P.underlying t = some (.slice e)) (hi : P.info? e = some i) (hz : i.zero = some z)
    (hsize : i.size = size) (hby : i.bytes = bytes) (hzs : z.cells.size = size) (hsz : 0 < size)
    (v : Value) (n : Nat) (xs : List Value) (hs : a.eval s = v) (hown : w.ownsRow base e size v n xs)
    (vs : Value) (m : Nat) (news : List Value) (hx : a.eval x = vs) (hrow : Row w B vs m news) (hl : news.length = m * size) (h1 : ∀ u ∈ news, u.oneCell' = true)
    (h63 : n + m ≤ maxLen) (hbytes : (n + m) * bytes ≤ 140737488355328) (hbase : base ≤ w.heap.size)
    (h : ∀ v' w', w'.ownsRow base e size v' (n + m) (xs ++ news) → w.grownBy w' v.ownBlock → (v'.ownBlock = v.ownBlock ∨ v'.ownBlock = some w.heap.size) → wpList P ops Q rest (a.put o.dst v') w') : wpList P ops Q (o :: rest) a w :=
  wpList_plain hgd fun _ hK => wp_append_row w B s x t ho base e i z size bytes ht hi hz hsize hby hzs hsz v n xs hs hown vs m news hx hrow hl h1 h63 hbytes hbase fun v' w' h2 h3 h4 => hK _ _ (h v' w' h2 h3 h4)

theorem step_append_row {ops : Array Oper} {o : Oper} {a : Act} {K : Act → World → Prop} {Q : Exit → Act → World → Prop} {E : Prop} (hgd : o.guard = none) (B : Nat) (s x : Operand) (t : TypeId)
    (ho : o.op = .call { callee := .builtin .append, args := #[s, x], argTypes := #[t, t] })
    (base : Nat) (e : TypeId) (i : TypeInfo) (z : Value) (size bytes : Nat) (ht : P.underlying t = some (.slice e)) (hi : P.info? e = some i) (hz : i.zero = some z)
    (hsize : i.size = size) (hby : i.bytes = bytes) (hzs : z.cells.size = size) (hsz : 0 < size)
    (v : Value) (n : Nat) (xs : List Value) (hs : a.eval s = v) (hown : w.ownsRow base e size v n xs)
    (vs : Value) (m : Nat) (news : List Value) (hx : a.eval x = vs) (hrow : Row w B vs m news) (hl : news.length = m * size) (h1 : ∀ u ∈ news, u.oneCell' = true)
    (h63 : n + m ≤ maxLen) (hbytes : (n + m) * bytes ≤ 140737488355328) (hbase : base ≤ w.heap.size)
    (h : ∀ v' w', w'.ownsRow base e size v' (n + m) (xs ++ news) → w.grownBy w' v.ownBlock → (v'.ownBlock = v.ownBlock ∨ v'.ownBlock = some w.heap.size) → K (a.put o.dst v') w') :
    if Region.wanted o (yielded ops a.tmps) = true then Oper.wp P o a w K Q else E := by
  have hw : Region.wanted o (yielded ops a.tmps) = true := by simp [Region.wanted, hgd]
  rw [if_pos hw]
  exact wp_append_row w B s x t ho base e i z size bytes ht hi hz hsize hby hzs hsz v n xs hs hown vs m news hx hrow hl h1 h63 hbytes hbase h

end
end Go.Proofs.Ytilipeigjkmldaa

namespace Go.Proofs.Ytilipeigjkmldaa
open Go.RowKit Go.WideShapes Go.ChangeShapes

theorem flat_get {α : Type} (k : Nat) (hk : 0 < k) (g : α → List Value) : ∀ (l : List α) (i : Nat) (x : Value), (∀ y ∈ l, (g y).length = k) → (l.flatMap g)[i]? = some x → ∃ j m y, l[j]? = some y ∧ (g y)[m]? = some x ∧ m < k ∧ i = j * k + m
  | [], i, x, _, h => by simp at h
  | y :: r, i, x, hl, h => by
    rw [List.flatMap_cons] at h
    have hy := hl y (List.mem_cons_self ..)
    by_cases hi : i < k
    · rw [List.getElem?_append_left (by omega)] at h
      exact ⟨0, i, y, rfl, h, hi, by omega⟩
    · rw [List.getElem?_append_right (by omega), hy] at h
      obtain ⟨j, m, z, h1, h2, h3, h4⟩ := flat_get k hk g r (i - k) x (fun y hy => hl y (List.mem_cons_of_mem _ hy)) h
      refine ⟨j + 1, m, z, by simpa using h1, h2, h3, ?_⟩
      rw [Nat.add_mul]; omega

section
variable {H : Type} {enc : TypeId × Value → H} {P : Program} {w : World} {spare : Nat → Bool} {held : Bool}

theorem trod_row {e T : TypeId} (hT : P.underlying T = some (.slice e)) (hk : 0 < P.cellsOf e) {fuel : Nat} {cs : List Value} {x : DataW H × List MemPlace} (h : DataW.trod enc P w 0 spare held fuel T cs = some x) :
    ∃ (v : Value) (l : List (List Value × DataW H)) (n : Nat), fuel = n + 1 ∧ cs = [v] ∧ Row w w.heap.size v l.length (l.flatMap (·.1)) ∧
      (∀ y ∈ l, y.1.length = P.cellsOf e ∧ ∃ p, DataW.trod enc P w 0 spare held n e y.1 = some (y.2, p)) ∧ Rows.uptoBulkAll (l.map (·.2)) + 1 ≤ Rows.uptoBulk x.1 := by
  rcases DataW.trod_slice hT h with ⟨rfl, rfl⟩ | ⟨a, len, cap, elems, rest, n, rfl, rfl, rfl, -, hlc, hcm, hel, hget, -, -⟩
  · cases fuel with
    | zero => simp [DataW.trod] at h
    | succ n => exact ⟨_, [], n, rfl, rfl, ⟨none, 0, rfl, Nat.le_refl _, by decide, fun _ => ⟨rfl, rfl⟩, fun h => absurd h (Nat.lt_irrefl _)⟩, (fun y hy => nomatch hy), by simp [Rows.uptoBulk, Rows.uptoBulkAll]⟩
  · have hone : ∀ i, i < len → ∃ y : List Value × DataW H, w.cells? 0 (a.add (i * P.cellsOf e)) (P.cellsOf e) = some y.1 ∧ (∃ p, DataW.trod enc P w 0 spare held n e y.1 = some (y.2, p)) ∧ (elems.map (·.1))[i]? = some y.2 := by
      intro i hi
      have hg := hget i hi
      rw [List.getElem?_eq_getElem (by omega)] at hg
      obtain ⟨c, h1, h2⟩ := Option.bind_eq_some_iff.1 hg
      exact ⟨(c, elems[i].1), h1, ⟨elems[i].2, h2⟩, by simp [List.getElem?_eq_getElem (show i < elems.length by omega)]⟩
    obtain ⟨f, hf⟩ := Deep.choose_lt (p := fun i (y : List Value × DataW H) => w.cells? 0 (a.add (i * P.cellsOf e)) (P.cellsOf e) = some y.1 ∧ (∃ p, DataW.trod enc P w 0 spare held n e y.1 = some (y.2, p)) ∧ (elems.map (·.1))[i]? = some y.2) hone
    have hlen : ∀ y ∈ (List.range len).map f, y.1.length = P.cellsOf e := by
      intro y hy
      obtain ⟨i, hi, rfl⟩ := List.mem_map.1 hy
      exact (World.cells?_some (hf i (List.mem_range.1 hi)).1).2.1
    have hds : ((List.range len).map f).map (·.2) = elems.map (·.1) := by
      apply List.ext_getElem?
      intro i
      by_cases hi : i < len
      · rw [(hf i hi).2.2]; simp [hi]
      · simp [hi, List.getElem?_eq_none (show elems.length ≤ i by omega)]
    refine ⟨_, (List.range len).map f, n, rfl, rfl, ?_, ?_, ?_⟩
    · refine ⟨some a, cap, by simp, by simpa using hlc, by simpa [maxLen] using hcm, (fun h => nomatch h), fun hn => ?_⟩
      have hn : 0 < len := by simpa using hn
      have h0 := (hf 0 hn).1
      have hc0 := (World.cells?_some h0).2.2 0 hk
      obtain ⟨x0, hx0⟩ : ∃ x0, (f 0).1[0]? = some x0 := ⟨_, List.getElem?_eq_getElem (by rw [(World.cells?_some h0).2.1]; exact hk)⟩
      rw [hx0] at hc0
      obtain ⟨g, o, sp⟩ := a
      have hsp : sp = none := by
        simp [Addr.add, World.cell?] at hc0
        cases sp with
        | none => rfl
        | some s => split at hc0 <;> simp at hc0
      subst hsp
      have hgl := World.cells?_block h0 hk
      rw [Nat.zero_mul, add_is] at hgl
      refine ⟨g, o, rfl, hgl, hgl, fun i x hx => ?_⟩
      obtain ⟨j, m, y, h1, h2, h3, h4⟩ := flat_get (P.cellsOf e) hk (fun y : List Value × DataW H => y.1) _ i x hlen hx
      have hj : j < len := by
        have := (List.getElem?_eq_some_iff.1 h1).1
        simpa using this
      have hy : y = f j := by simpa [hj] using h1.symm
      subst hy
      have := (World.cells?_some (hf j hj).1).2.2 m h3
      rw [h2, add_is, add_is, Nat.add_assoc, ← h4] at this
      exact this
    · intro y hy
      refine ⟨hlen y hy, ?_⟩
      obtain ⟨i, hi, rfl⟩ := List.mem_map.1 hy
      exact (hf i (List.mem_range.1 hi)).2.1
    · rw [hds]
      simp only [Rows.uptoBulk]
      omega

theorem trodAll_carry {w' : World} {base : Nat} : ∀ {ts : List TypeId} {vs : List Value} {ds : List (DataW H)} {ps : List MemPlace}, DataW.TrodAll enc P w base spare held ts vs ds ps → (∀ p ∈ ps, w.sameAt w' p) → DataW.TrodAll enc P w' base spare held ts vs ds ps
  | [], [], [], _, h, _ => h
  | _ :: _, _ :: _, _ :: _, _, ⟨p, q, ⟨n, h1⟩, h2, e⟩, hs => ⟨p, q, ⟨n, DataW.trod_carry _ _ _ _ h1 (fun x hx => hs x (by rw [e]; exact List.mem_append_left _ hx))⟩, trodAll_carry h2 (fun x hx => hs x (by rw [e]; exact List.mem_append_right _ hx)), e⟩

/- A struct's fields, one by one. -/
def FieldsAt (enc : TypeId × Value → H) (P : Program) (w : World) (spare : Nat → Bool) (held : Bool) (n : Nat) (cs : List Value) : List Field → List (DataW H × List MemPlace) → Prop
  | [], [] => True
  | f :: fs, x :: xs => DataW.trod enc P w 0 spare held n f.type ((cs.drop f.offset).take (P.cellsOf f.type)) = some x ∧ FieldsAt enc P w spare held n cs fs xs
  | _, _ => False
theorem fieldsAt_of {n : Nat} {cs : List Value} : ∀ (fs : List Field) (xs : List (DataW H × List MemPlace)), xs.length = fs.length → (∀ (i : Nat) (f : Field), fs[i]? = some f → DataW.trod enc P w 0 spare held n f.type ((cs.drop f.offset).take (P.cellsOf f.type)) = xs[i]?) → FieldsAt enc P w spare held n cs fs xs
  | [], [], _, _ => trivial
  | f :: fs, x :: xs, hl, h => ⟨by simpa using h 0 f rfl, fieldsAt_of fs xs (by simpa using hl) (fun i g hg => by simpa using h (i + 1) g (by simpa using hg))⟩
  | [], _ :: _, hl, _ => by simp at hl
  | _ :: _, [], hl, _ => by simp at hl
theorem trod_fields {t : TypeId} {fs : List Field} {fuel : Nat} {cs : List Value} {x : DataW H × List MemPlace} (ht : P.underlying t = some (.struct ⟨fs⟩)) (h : DataW.trod enc P w 0 spare held fuel t cs = some x) :
    ∃ (xs : List (DataW H × List MemPlace)) (n : Nat), fuel = n + 1 ∧ x = (.agg (xs.map (·.1)), xs.flatMap (·.2)) ∧ cs.length = P.cellsOf t ∧ xs.length = fs.length ∧ FieldsAt enc P w spare held n cs fs xs := by
  obtain ⟨xs, n, h1, h2, h3, h4, h5⟩ := DataW.trod_struct ht h
  exact ⟨xs, n, h1, h2, h3, by simpa using h4, fieldsAt_of fs xs (by simpa using h4) (fun i f hf => h5 i f (by simpa using hf))⟩

/- What a law that answers true leaves, where all that was there reads as it did. -/
theorem law_post (hl : laidOutB P = true) (hm : mapsRowed P = true) (hz : ∀ t e, t < P.types.size → P.underlying t = some (.slice e) → 0 < P.cellsOf e) {f : Func} {s : ChangeSpec} {W W' : World} {args : Array Value} {ds gs : List (DataW H)} {before : List MemPlace} {bt : TypeId}
    (hv : s.vars = []) (hW : DataW.Whole enc P f.params.toList s.vars false W args.toList ds gs before) (hty : ∀ t ∈ f.params.toList, t < P.types.size) (hres : f.resultTypes = #[bt]) (hbt : P.underlying bt = some .bool)
    (hfn : s.fn H (ds ++ gs) = { results := [.lit (.bool true)], args := ds }) (hb : Below W.heap.size W W') : s.post enc P f false true false false W args (.bool true) W' := by
  have hW' := hW
  obtain ⟨p, q, hA, hV, rfl, hfz, hnd⟩ := hW
  rw [hv] at hV
  obtain ⟨rfl, rfl⟩ := trodVars_none hV
  rw [List.append_nil] at hW' hfz hnd hfn
  have hlt : ∀ x ∈ p, x.block < W.heap.size := fun x hx => hW'.lt x hx
  have hcar : ∀ sp : Nat → Bool, (∀ x ∈ p, sp x.block = true) → DataW.TrodAll enc P W' 0 sp true f.params.toList args.toList ds p := by
    intro sp hsp
    have h1 := DataW.TrodAll.respare (spare' := sp) (kids_rows hl hm) hz hty hA hsp
    exact trodAll_carry h1 (fun x hx => hb.same (hlt x hx))
  refine ⟨ds, [], p, [], p, [], hW', ?_, ?_, ?_, hb.frame _, fun h => by cases h⟩
  · rw [hres, List.append_nil, hfn]
    exact trodAll_mk1 (shut_bool hbt _)
  · rw [List.append_nil, hfn]
    exact hcar _ (fun x hx => by simpa using hlt x hx)
  · rw [hv, List.append_nil, hfn]; rfl

end
end Go.Proofs.Ytilipeigjkmldaa

namespace Go.Proofs.Ytilipeigjkmldaa
open Go.RowKit

def Each {α : Type} (R : α → List Value → Prop) : List α → List Value → Prop
  | [], cs => cs = []
  | t :: r, cs => ∃ c1 c2, cs = c1 ++ c2 ∧ R t c1 ∧ Each R r c2

section
variable {α : Type} {R R' : α → List Value → Prop}
theorem Each.nil : Each R [] [] := by rw [Each]
theorem Each.mono (h : ∀ t cs, R t cs → R' t cs) : ∀ (l : List α) (xs : List Value), Each R l xs → Each R' l xs
  | [], xs, hh => by rw [Each] at hh ⊢; exact hh
  | t :: r, xs, hh => by
    rw [Each] at hh ⊢
    obtain ⟨c1, c2, h1, h2, h3⟩ := hh
    exact ⟨c1, c2, h1, h t c1 h2, Each.mono h r c2 h3⟩
theorem Each.mem_mono : ∀ (l : List α) (xs : List Value), (∀ t ∈ l, ∀ cs, R t cs → R' t cs) → Each R l xs → Each R' l xs
  | [], xs, _, hh => by rw [Each] at hh ⊢; exact hh
  | t :: r, xs, h, hh => by
    rw [Each] at hh ⊢
    obtain ⟨c1, c2, h1, h2, h3⟩ := hh
    exact ⟨c1, c2, h1, h t (List.mem_cons_self ..) c1 h2, Each.mem_mono r c2 (fun t ht => h t (List.mem_cons_of_mem _ ht)) h3⟩
theorem Each.len (k : Nat) (hk : ∀ t cs, R t cs → cs.length = k) : ∀ (l : List α) (xs : List Value), Each R l xs → xs.length = l.length * k
  | [], xs, h => by rw [Each] at h; subst h; simp
  | t :: r, xs, h => by
    rw [Each] at h
    obtain ⟨c1, c2, rfl, h1, h2⟩ := h
    rw [List.length_append, hk t c1 h1, Each.len k hk r c2 h2, List.length_cons, Nat.add_mul]; omega
theorem Each.one (h1 : ∀ t cs, R t cs → ∀ u ∈ cs, u.oneCell' = true) : ∀ (l : List α) (xs : List Value), Each R l xs → ∀ u ∈ xs, u.oneCell' = true
  | [], xs, h => by rw [Each] at h; subst h; intro u hu; cases hu
  | t :: r, xs, h => by
    rw [Each] at h
    obtain ⟨c1, c2, rfl, h2, h3⟩ := h
    intro u hu
    rcases List.mem_append.1 hu with h | h
    · exact h1 t c1 h2 u h
    · exact Each.one h1 r c2 h3 u h
theorem Each.append : ∀ (l : List α) (xs : List Value) (l' : List α) (xs' : List Value), Each R l xs → Each R l' xs' → Each R (l ++ l') (xs ++ xs')
  | [], _, _, _, h, h' => by rw [Each] at h; subst h; exact h'
  | t :: r, xs, l', xs', h, h' => by
    rw [Each] at h
    obtain ⟨c1, c2, rfl, h1, h2⟩ := h
    rw [List.cons_append, Each]
    exact ⟨c1, c2 ++ xs', by rw [List.append_assoc], h1, Each.append r c2 l' xs' h2 h'⟩
theorem Each.single {t : α} {cs : List Value} (h : R t cs) : Each R [t] cs := by rw [Each]; exact ⟨cs, [], by simp, h, Each.nil⟩
theorem Each.snoc {l : List α} {xs : List Value} {t : α} {cs : List Value} (h : Each R l xs) (h1 : R t cs) : Each R (l ++ [t]) (xs ++ cs) := Each.append _ _ _ _ h (Each.single h1)
theorem Each.get (k : Nat) (hk : ∀ t cs, R t cs → cs.length = k) : ∀ (l : List α) (xs : List Value) (i : Nat) (t : α), Each R l xs → l[i]? = some t → ∃ cs, R t cs ∧ ∀ (j : Nat) x, cs[j]? = some x → xs[i * k + j]? = some x
  | [], _, i, t, _, ht => by simp at ht
  | a :: r, xs, i, t, h, ht => by
    rw [Each] at h
    obtain ⟨c1, c2, rfl, h1, h2⟩ := h
    cases i with
    | zero =>
      simp at ht; subst ht
      refine ⟨c1, h1, fun j x hx => ?_⟩
      rw [Nat.zero_mul, Nat.zero_add, List.getElem?_append_left (List.getElem?_eq_some_iff.1 hx).1]; exact hx
    | succ i =>
      obtain ⟨cs, h3, h4⟩ := Each.get k hk r c2 i t h2 (by simpa using ht)
      refine ⟨cs, h3, fun j x hx => ?_⟩
      have hl := hk a c1 h1
      rw [List.getElem?_append_right (by rw [hl, Nat.add_mul]; omega), hl, show (i + 1) * k + j - k = i * k + j by rw [Nat.add_mul]; omega]
      exact h4 j x hx
/- The cells of the i-th thing, where the row's cells lie in memory. -/
theorem Each.cells (k : Nat) (hk : ∀ t cs, R t cs → cs.length = k) {w : World} {l : List α} {xs : List Value} {g o i : Nat} {t : α} (h : Each R l xs) (ht : l[i]? = some t) (hc : ∀ (i : Nat) x, xs[i]? = some x → w.cell? ⟨g, o + i, none⟩ = some x) :
    ∃ cs, R t cs ∧ ∀ (j : Nat) x, cs[j]? = some x → w.cell? ⟨g, o + i * k + j, none⟩ = some x := by
  obtain ⟨cs, h1, h2⟩ := Each.get k hk l xs i t h ht
  exact ⟨cs, h1, fun j x hx => by rw [Nat.add_assoc]; exact hc _ _ (h2 j x hx)⟩
end

theorem Row.one {w : World} {B : Nat} {v : Value} {n : Nat} {xs : List Value} (h : Row w B v n xs) : v.oneCell' = true := by
  obtain ⟨a, c, rfl, _⟩ := h; rfl
theorem Row.nil (w : World) (B : Nat) (xs : List Value) : Row w B (.slice none 0 0) 0 xs := ⟨none, 0, rfl, Nat.le_refl _, by decide, fun _ => ⟨rfl, rfl⟩, fun h => absurd h (Nat.lt_irrefl _)⟩
/- A slice of what is in a block of its own, known whole. -/
theorem Row.new {w : World} {b t n : Nat} {cs : List Value} (h : w.heap[b]? = some (.cells cs.toArray t (0, 0))) (hn : n ≤ 9223372036854775807) : Row w (b + 1) (.slice (some ⟨b, 0, none⟩) n n) n cs := by
  refine ⟨_, n, rfl, Nat.le_refl _, hn, (fun h => nomatch h), fun _ => ⟨b, 0, rfl, by omega, blk_lt h, fun i x hx => ?_⟩⟩
  have := news_cells h i x hx
  rwa [add_is] at this

/- Slices of slices: of integers. -/
def IntsAt (w : World) (B : Nat) (l : List Int) (cs : List Value) : Prop := ∃ v, cs = [v] ∧ Row w B v l.length (intsV l)
theorem IntsAt.len {w : World} {B : Nat} (l : List Int) (cs : List Value) (h : IntsAt w B l cs) : cs.length = 1 := by obtain ⟨v, rfl, _⟩ := h; rfl
theorem IntsAt.one {w : World} {B : Nat} (l : List Int) (cs : List Value) (h : IntsAt w B l cs) : ∀ u ∈ cs, u.oneCell' = true := by
  obtain ⟨v, rfl, h⟩ := h
  intro u hu
  rw [List.mem_singleton.1 hu]; exact h.one
theorem IntsAt.step {w w' : World} {B : Nat} {S : Nat → Prop} (hs : Step S w w') (hS : ∀ k, k < B → ¬ S k) (l : List Int) (cs : List Value) (h : IntsAt w B l cs) : IntsAt w' B l cs := by
  obtain ⟨v, h1, h2⟩ := h
  exact ⟨v, h1, h2.step hs hS⟩
theorem IntsAt.mono {w : World} {B B' : Nat} (hb : B ≤ B') (l : List Int) (cs : List Value) (h : IntsAt w B l cs) : IntsAt w B' l cs := by
  obtain ⟨v, h1, h2⟩ := h
  exact ⟨v, h1, h2.mono hb⟩
/- A value that is a slice of slices of integers. -/
def Rows2 (w : World) (B : Nat) (v : Value) (ll : List (List Int)) : Prop := ∃ xs, Each (IntsAt w B) ll xs ∧ Row w B v ll.length xs
theorem Rows2.step {w w' : World} {B : Nat} {S : Nat → Prop} {v : Value} {ll : List (List Int)} (h : Rows2 w B v ll) (hs : Step S w w') (hS : ∀ k, k < B → ¬ S k) : Rows2 w' B v ll := by
  obtain ⟨xs, h1, h2⟩ := h
  exact ⟨xs, Each.mono (IntsAt.step hs hS) _ _ h1, h2.step hs hS⟩
theorem Rows2.mono {w : World} {B B' : Nat} {v : Value} {ll : List (List Int)} (h : Rows2 w B v ll) (hb : B ≤ B') : Rows2 w B' v ll := by
  obtain ⟨xs, h1, h2⟩ := h
  exact ⟨xs, Each.mono (IntsAt.mono hb) _ _ h1, h2.mono hb⟩

end Go.Proofs.Ytilipeigjkmldaa

namespace Go.Proofs.Ytilipeigjkmldaa

/- Facts that come back: made by a node, or behind one that doesn't end them. -/
inductive Back (succ : Nat → List Nat) (gen kill : Nat → Nat → Prop) : Nat → Nat → Prop where
  | gen {i e : Nat} : gen i e → Back succ gen kill i e
  | step {i e t : Nat} : ¬ kill i e → t ∈ succ i → Back succ gen kill t e → Back succ gen kill i e

theorem Back.out {succ : Nat → List Nat} {gen kill : Nat → Nat → Prop} {i e : Nat} (h : Back succ gen kill i e) : gen i e ∨ (¬ kill i e ∧ ∃ t ∈ succ i, Back succ gen kill t e) := by
  cases h with
  | gen h => exact .inl h
  | step h1 h2 h3 => exact .inr ⟨h1, _, h2, h3⟩
/- What is closed has all of them. -/
theorem Back.least {succ : Nat → List Nat} {gen kill : Nat → Nat → Prop} {n : Nat} (S : Nat → Nat → Prop) (hs : ∀ i t, i < n → t ∈ succ i → t < n) (hg : ∀ i e, i < n → gen i e → S i e) (hc : ∀ i e t, i < n → ¬ kill i e → t ∈ succ i → S t e → S i e) {i e : Nat} (h : Back succ gen kill i e) (hi : i < n) : S i e := by
  induction h with
  | gen h => exact hg _ _ hi h
  | step h1 h2 h3 ih => exact hc _ _ _ hi h1 h2 (ih (hs _ _ hi h2))

/- Facts that go forward: there at first, made by a node, or ahead of one that doesn't end them. -/
inductive Forth (succ : Nat → List Nat) (gen kill : Nat → Nat → Prop) (entry : Nat → Prop) : Nat → Nat → Prop where
  | entry {e : Nat} : entry e → Forth succ gen kill entry 0 e
  | gen {i t e : Nat} : gen i e → t ∈ succ i → Forth succ gen kill entry t e
  | step {i t e : Nat} : Forth succ gen kill entry i e → ¬ kill i e → t ∈ succ i → Forth succ gen kill entry t e
theorem Forth.least {succ : Nat → List Nat} {gen kill : Nat → Nat → Prop} {entry : Nat → Prop} {n : Nat} (S : Nat → Nat → Prop) (hz : ∀ i, n ≤ i → succ i = []) (he : ∀ e, entry e → S 0 e) (hg : ∀ i t e, i < n → gen i e → t ∈ succ i → S t e) (hc : ∀ i t e, i < n → S i e → ¬ kill i e → t ∈ succ i → S t e) {i e : Nat} (h : Forth succ gen kill entry i e) : S i e := by
  have hlt : ∀ {i t}, t ∈ succ i → i < n := by
    intro i t ht
    rcases Nat.lt_or_ge i n with h | h
    · exact h
    · rw [hz i h] at ht; cases ht
  induction h with
  | entry h => exact he _ h
  | gen h1 h2 => exact hg _ _ _ (hlt h2) h1 h2
  | step h1 h2 h3 ih => exact hc _ _ _ (hlt h3) ih h2 h3

/- A set of bits in words of 64. -/
def bit (ws : List Nat) (e : Nat) : Bool := (ws.getD (e / 64) 0).testBit (e % 64)
def words (ws : List Nat) : Prop := ∀ x ∈ ws, x < 18446744073709551616
theorem words_get {ws : List Nat} (h : words ws) (i : Nat) : ws.getD i 0 < 18446744073709551616 := by
  rw [List.getD_eq_getElem?_getD]
  by_cases hi : i < ws.length
  · rw [List.getElem?_eq_getElem hi]; exact h _ (List.getElem_mem hi)
  · rw [List.getElem?_eq_none (by omega)]; decide
theorem words_set {ws : List Nat} (h : words ws) (i x : Nat) (hx : x < 18446744073709551616) : words (ws.set i x) := by
  intro y hy
  rcases List.mem_or_eq_of_mem_set hy with h1 | h1
  · exact h y h1
  · rw [h1]; exact hx
theorem words_zero (n : Nat) : words (List.replicate n 0) := by
  intro x hx; rw [(List.mem_replicate.1 hx).2]; decide
theorem bit_zero (n e : Nat) : bit (List.replicate n 0) e = false := by
  unfold bit
  rw [List.getD_eq_getElem?_getD, List.getElem?_replicate]
  split <;> simp
theorem getD_set (ws : List Nat) (i j x : Nat) : (ws.set i x).getD j 0 = if i = j ∧ i < ws.length then x else ws.getD j 0 := by
  rw [List.getD_eq_getElem?_getD, List.getD_eq_getElem?_getD, List.getElem?_set]
  by_cases h : i = j
  · subst h
    by_cases h2 : i < ws.length
    · simp [h2]
    · simp [h2]
  · simp [h]
/- A fact is put in. -/
def setB (ws : List Nat) (e : Nat) : List Nat := ws.set (e / 64) (ws.getD (e / 64) 0 ||| 2 ^ (e % 64))
def clrB (ws : List Nat) (e : Nat) : List Nat := ws.set (e / 64) (ws.getD (e / 64) 0 &&& (18446744073709551615 - 2 ^ (e % 64)))
theorem pow_lt (e : Nat) : 2 ^ (e % 64) < 18446744073709551616 := by
  have : (2 : Nat) ^ (e % 64) < 2 ^ 64 := Nat.pow_lt_pow_right (by decide) (Nat.mod_lt _ (by decide))
  simpa using this
theorem setB_words {ws : List Nat} (h : words ws) (e : Nat) : words (setB ws e) :=
  words_set h _ _ (by have := Nat.or_lt_two_pow (n := 64) (x := ws.getD (e / 64) 0) (y := 2 ^ (e % 64)) (by simpa using words_get h _) (by simpa using pow_lt e); simpa using this)
theorem clrB_words {ws : List Nat} (h : words ws) (e : Nat) : words (clrB ws e) :=
  words_set h _ _ (Nat.lt_of_le_of_lt Nat.and_le_left (words_get h _))
theorem setB_len (ws : List Nat) (e : Nat) : (setB ws e).length = ws.length := by simp [setB]
theorem clrB_len (ws : List Nat) (e : Nat) : (clrB ws e).length = ws.length := by simp [clrB]
theorem bit_set (ws : List Nat) (e f : Nat) (he : e / 64 < ws.length) : bit (setB ws e) f = (bit ws f || decide (e = f)) := by
  unfold bit setB
  rw [getD_set]
  by_cases h : e / 64 = f / 64
  · rw [if_pos ⟨h, he⟩, Nat.testBit_or, h]
    congr 1
    rw [Nat.testBit_two_pow]
    by_cases h2 : e % 64 = f % 64
    · simp [show e = f by omega]
    · simp [h2, show e ≠ f by intro h; subst h; exact h2 rfl]
  · rw [if_neg (fun hh => h hh.1)]
    have : e ≠ f := by intro hh; subst hh; exact h rfl
    simp [this]
theorem mask_bit (k i : Nat) (hk : k < 64) (hi : i < 64) : (18446744073709551615 - 2 ^ k).testBit i = !decide (k = i) := by
  have h := Nat.testBit_two_pow_sub_succ (x := 2 ^ k) (n := 64) (Nat.pow_lt_pow_right (by decide) hk) i
  rw [show (2 : Nat) ^ 64 - (2 ^ k + 1) = 18446744073709551615 - 2 ^ k by omega] at h
  rw [h, Nat.testBit_two_pow]
  simp [hi]
theorem bit_clr (ws : List Nat) (e f : Nat) (he : e / 64 < ws.length) : bit (clrB ws e) f = (bit ws f && !decide (e = f)) := by
  unfold bit clrB
  rw [getD_set]
  by_cases h : e / 64 = f / 64
  · rw [if_pos ⟨h, he⟩, Nat.testBit_and, mask_bit _ _ (Nat.mod_lt _ (by decide)) (Nat.mod_lt _ (by decide)), h]
    congr 2
    rw [decide_eq_decide]
    omega
  · rw [if_neg (fun hh => h hh.1)]
    have : e ≠ f := by intro hh; subst hh; exact h rfl
    simp [this]
def setL (ws : List Nat) (l : List Nat) : List Nat := l.foldl setB ws
def clrL (ws : List Nat) (l : List Nat) : List Nat := l.foldl clrB ws
theorem setL_words : ∀ (l : List Nat) {ws : List Nat}, words ws → words (setL ws l)
  | [], _, h => h
  | e :: r, _, h => setL_words r (setB_words h e)
theorem clrL_words : ∀ (l : List Nat) {ws : List Nat}, words ws → words (clrL ws l)
  | [], _, h => h
  | e :: r, _, h => clrL_words r (clrB_words h e)
theorem setL_len : ∀ (l ws : List Nat), (setL ws l).length = ws.length
  | [], _ => rfl
  | e :: r, ws => (setL_len r (setB ws e)).trans (setB_len ws e)
theorem clrL_len : ∀ (l ws : List Nat), (clrL ws l).length = ws.length
  | [], _ => rfl
  | e :: r, ws => (clrL_len r (clrB ws e)).trans (clrB_len ws e)
theorem bit_setL : ∀ (l ws : List Nat) (f : Nat), (∀ e ∈ l, e / 64 < ws.length) → bit (setL ws l) f = (bit ws f || decide (f ∈ l))
  | [], ws, f, _ => by simp [setL]
  | e :: r, ws, f, h => by
    have := bit_setL r (setB ws e) f (fun x hx => by rw [setB_len]; exact h x (List.mem_cons_of_mem _ hx))
    show bit (setL (setB ws e) r) f = _
    rw [this, bit_set _ _ _ (h e (List.mem_cons_self ..)), Bool.or_assoc]
    congr 1
    by_cases h1 : f = e
    · simp [h1]
    · simp [h1, Ne.symm h1]
theorem bit_clrL : ∀ (l ws : List Nat) (f : Nat), (∀ e ∈ l, e / 64 < ws.length) → bit (clrL ws l) f = (bit ws f && !decide (f ∈ l))
  | [], ws, f, _ => by simp [clrL]
  | e :: r, ws, f, h => by
    have := bit_clrL r (clrB ws e) f (fun x hx => by rw [clrB_len]; exact h x (List.mem_cons_of_mem _ hx))
    show bit (clrL (clrB ws e) r) f = _
    rw [this, bit_clr _ _ _ (h e (List.mem_cons_self ..)), Bool.and_assoc]
    congr 1
    by_cases h1 : f = e
    · simp [h1]
    · simp [h1, Ne.symm h1]
theorem setL_snoc (ws l : List Nat) (e : Nat) : setL ws (l ++ [e]) = setB (setL ws l) e := by simp [setL]
theorem clrL_snoc (ws l : List Nat) (e : Nat) : clrL ws (l ++ [e]) = clrB (clrL ws l) e := by simp [clrL]

/- One set put into another one. -/
def joinW (a b : List Nat) : List Nat := List.zipWith (fun x y => x ||| y) a b
theorem joinW_len {a b : List Nat} (h : a.length = b.length) : (joinW a b).length = a.length := by simp [joinW, h]
theorem joinW_get (a b : List Nat) (h : a.length = b.length) (i : Nat) : (joinW a b).getD i 0 = a.getD i 0 ||| b.getD i 0 := by
  unfold joinW
  simp only [List.getD_eq_getElem?_getD, List.getElem?_zipWith]
  by_cases hi : i < a.length
  · rw [List.getElem?_eq_getElem hi, List.getElem?_eq_getElem (by omega : i < b.length)]; rfl
  · rw [List.getElem?_eq_none (by omega : a.length ≤ i), List.getElem?_eq_none (by omega : b.length ≤ i)]; rfl
theorem joinW_words {a b : List Nat} (ha : words a) (hb : words b) : words (joinW a b) := by
  intro x hx
  unfold joinW at hx
  obtain ⟨i, hi⟩ := List.getElem?_of_mem hx
  rw [List.getElem?_zipWith] at hi
  cases h1 : a[i]? with
  | none => simp [h1] at hi
  | some y =>
    cases h2 : b[i]? with
    | none => simp [h1, h2] at hi
    | some z =>
      simp [h1, h2] at hi
      subst hi
      have := Nat.or_lt_two_pow (n := 64) (x := y) (y := z) (by simpa using ha y (List.mem_of_getElem? h1)) (by simpa using hb z (List.mem_of_getElem? h2))
      simpa using this
theorem bit_join (a b : List Nat) (h : a.length = b.length) (e : Nat) : bit (joinW a b) e = (bit a e || bit b e) := by
  unfold bit
  rw [joinW_get a b h, Nat.testBit_or]
/- What is not yet in a set: what it lacks of all bits. -/
def lack : List Nat → Nat
  | [] => 0
  | x :: r => (18446744073709551615 - x) + lack r
theorem le_or (x y : Nat) : x ≤ x ||| y := Nat.left_le_or
theorem or_ne {x y : Nat} (h : x ||| y ≠ x) : x < x ||| y := by
  have := @Nat.left_le_or x y; omega
theorem andnot_zero {x y : Nat} (hx : x < 18446744073709551616) (hy : y < 18446744073709551616) : y &&& (18446744073709551615 - x) = 0 ↔ x ||| y = x := by
  constructor
  · intro h
    apply Nat.eq_of_testBit_eq
    intro i
    rw [Nat.testBit_or]
    have h1 : (y &&& (18446744073709551615 - x)).testBit i = false := by rw [h]; exact Nat.zero_testBit i
    rw [Nat.testBit_and] at h1
    have h2 := Nat.testBit_two_pow_sub_succ (x := x) (n := 64) (by simpa using hx) i
    rw [show (2 : Nat) ^ 64 - (x + 1) = 18446744073709551615 - x by omega] at h2
    rw [h2] at h1
    by_cases hi : i < 64
    · cases hxb : x.testBit i <;> cases hyb : y.testBit i <;> simp_all
    · have h3 : y.testBit i = false := Nat.testBit_lt_two_pow (Nat.lt_of_lt_of_le (by simpa using hy : y < 2 ^ 64) (Nat.pow_le_pow_right (by decide) (by omega)))
      simp [h3]
  · intro h
    apply Nat.eq_of_testBit_eq
    intro i
    rw [Nat.testBit_and, Nat.zero_testBit]
    have h2 := Nat.testBit_two_pow_sub_succ (x := x) (n := 64) (by simpa using hx) i
    rw [show (2 : Nat) ^ 64 - (x + 1) = 18446744073709551615 - x by omega] at h2
    rw [h2]
    have h1 : (x ||| y).testBit i = x.testBit i := by rw [h]
    rw [Nat.testBit_or] at h1
    cases hxb : x.testBit i <;> cases hyb : y.testBit i <;> simp_all
theorem lack_join : ∀ (a b : List Nat), a.length = b.length → words a → words b → lack (joinW a b) ≤ lack a ∧ (joinW a b ≠ a → lack (joinW a b) < lack a)
  | [], [], _, _, _ => ⟨Nat.le_refl _, fun h => absurd rfl h⟩
  | x :: a, y :: b, hl, ha, hb => by
    obtain ⟨h1, h2⟩ := lack_join a b (by simpa using hl) (fun z hz => ha z (List.mem_cons_of_mem _ hz)) (fun z hz => hb z (List.mem_cons_of_mem _ hz))
    have hx : x < 18446744073709551616 := ha x (List.mem_cons_self ..)
    have hy : y < 18446744073709551616 := hb y (List.mem_cons_self ..)
    have hlt : x ||| y < 18446744073709551616 := by
      have := Nat.or_lt_two_pow (n := 64) (x := x) (y := y) (by simpa using hx) (by simpa using hy); simpa using this
    have hle := le_or x y
    show (18446744073709551615 - (x ||| y)) + lack (joinW a b) ≤ (18446744073709551615 - x) + lack a ∧ ((x ||| y) :: joinW a b ≠ x :: a → (18446744073709551615 - (x ||| y)) + lack (joinW a b) < (18446744073709551615 - x) + lack a)
    refine ⟨by omega, fun hne => ?_⟩
    by_cases he : x ||| y = x
    · have : joinW a b ≠ a := fun h => hne (by rw [he, h])
      have := h2 this
      omega
    · have := or_ne he
      omega
  | [], _ :: _, hl, _, _ => by simp at hl
  | _ :: _, [], hl, _, _ => by simp at hl
/- A part of a join: the first k words are joined. -/
theorem join_take_step (a b : List Nat) (h : a.length = b.length) (k : Nat) (hk : k < b.length) :
    (joinW (a.take k) (b.take k) ++ a.drop k).set k (a.getD k 0 ||| b.getD k 0) = joinW (a.take (k + 1)) (b.take (k + 1)) ++ a.drop (k + 1) := by
  have h1 : (joinW (a.take k) (b.take k)).length = k := by rw [joinW_len (by simp [h])]; simp; omega
  have ha : a.drop k = a.getD k 0 :: a.drop (k + 1) := by
    rw [List.drop_eq_getElem_cons (by omega : k < a.length), List.getD_eq_getElem?_getD, List.getElem?_eq_getElem (by omega : k < a.length)]; rfl
  have h2 : joinW (a.take (k + 1)) (b.take (k + 1)) = joinW (a.take k) (b.take k) ++ [a.getD k 0 ||| b.getD k 0] := by
    unfold joinW
    rw [List.take_add_one, List.take_add_one, List.getElem?_eq_getElem (by omega : k < a.length), List.getElem?_eq_getElem hk, List.zipWith_append (by simp [h])]
    simp [List.getD_eq_getElem?_getD, List.getElem?_eq_getElem (by omega : k < a.length), List.getElem?_eq_getElem hk]
  rw [h2, ha, List.set_append_right _ _ (by omega), h1, Nat.sub_self, List.set_cons_zero, List.append_assoc]; rfl

end Go.Proofs.Ytilipeigjkmldaa

namespace Go.Proofs.Ytilipeigjkmldaa
open Go.RowKit

theorem val_quo64 (x q : Nat) (h : x ≤ 9223372036854775807) (hq : q = x / 64) : IntKind.i64.wrap ((x : Int).tdiv 64) = (q : Int) := by
  rw [Int.tdiv_eq_ediv_of_nonneg (by omega), IntWalk.i64_in _ (by omega)]; omega
theorem val_rem64 (x r : Nat) (hr : r = x % 64) : (x : Int).tmod 64 = (r : Int) := by
  rw [Int.tmod_eq_emod_of_nonneg (by omega)]; omega
theorem val_pow (k m : Nat) (h : k < 64) (hm : m = 2 ^ k) : IntKind.u64.wrap ((2 : Int) ^ k) = (m : Int) := by
  have hlt : (2 : Nat) ^ k < 18446744073709551616 := by
    have : (2 : Nat) ^ k < 2 ^ 64 := Nat.pow_lt_pow_right (by decide) h
    simpa using this
  have h2 : ((2 : Int) ^ k) = ((2 ^ k : Nat) : Int) := by simp
  rw [h2, ← hm]
  rw [← hm] at hlt
  simp [IntKind.wrap, IntKind.bits, IntKind.signed]
  omega
theorem val_shl1 (k m : Nat) (h : k < 64) (hm : m = 2 ^ k) : Op.shift .shl .u64 1 .i64 (k : Int) = pure (.int .u64 (m : Int)) := by
  have hlt : (2 : Nat) ^ k < 18446744073709551616 := by
    have : (2 : Nat) ^ k < 2 ^ 64 := Nat.pow_lt_pow_right (by decide) h
    simpa using this
  have e : IntKind.u64.wrap ((1 : Int) * 2 ^ (min k IntKind.u64.bits)) = (m : Int) := by
    have hb : min k IntKind.u64.bits = k := by simp [IntKind.bits]; omega
    rw [hb, Int.one_mul]
    have h2 : ((2 : Int) ^ k) = ((2 ^ k : Nat) : Int) := by simp
    rw [h2, ← hm]
    rw [← hm] at hlt
    simp [IntKind.wrap, IntKind.bits, IntKind.signed]
    omega
  have hn : ¬ ((k : Int) < 0) := by omega
  simp only [Op.shift, if_neg hn, Int.toNat_natCast, e]
theorem val_or64 (a b c : Nat) (ha : a < 18446744073709551616) (hb : b < 18446744073709551616) (hc : c = a ||| b) : bits .or .u64 (a : Int) (b : Int) = (c : Int) := by rw [hc]; exact u64_or_nat a b ha hb
theorem val_andNot64 (a b c : Nat) (ha : a < 18446744073709551616) (hb : b < 18446744073709551616) (hc : c = a &&& (18446744073709551615 - b)) : bits .andNot .u64 (a : Int) (b : Int) = (c : Int) := by rw [hc]; exact u64_andNot_nat a b ha hb
theorem val_and1 (a c : Nat) (ha : a < 18446744073709551616) (hc : c = a &&& 1) : bits .and .u64 (a : Int) 1 = (c : Int) := by rw [hc]; exact u64_and_nat a 1 ha (by decide)
theorem val_shr64 (a k c : Nat) (h : k < 64) (hc : c = a / 2 ^ k) : Op.shift .shr .u64 (a : Int) .i64 (k : Int) = pure (.int .u64 (c : Int)) := by
  have hn : ¬ ((k : Int) < 0) := by omega
  have e : (a : Int).fdiv (2 ^ (min k IntKind.u64.bits)) = (c : Int) := by
    have hb : min k IntKind.u64.bits = k := by simp [IntKind.bits]; omega
    have h2 : ((2 : Int) ^ k) = ((2 ^ k : Nat) : Int) := by simp
    rw [hb, h2, Int.fdiv_eq_ediv_of_nonneg _ (Int.natCast_nonneg _), hc]; rfl
  simp only [Op.shift, if_neg hn, Int.toNat_natCast, e]
end Go.Proofs.Ytilipeigjkmldaa

namespace Go.Proofs.Ytilipeigjkmldaa
open Go.RowKit

section
variable {P : Program} {w : World}

theorem setCells_new (t : TypeId) : ∀ (vs : List Value) (o : Nat) (c : Array Value), (w.alloc (.cells c t)).setCells w.heap.size o vs = w.alloc (.cells (vs.zipIdx.foldl (fun c x => c.setIfInBounds (o + x.2) x.1) c) t)
  | [], o, c => rfl
  | v :: r, o, c => by
    show ((w.alloc (.cells c t)).setCell ⟨w.heap.size, o, none⟩ v).setCells w.heap.size (o + 1) r = _
    rw [World.setCell_alloc_new, setCells_new t r (o + 1) _]
    congr 2
    rw [List.zipIdx_cons, List.foldl_cons, Nat.add_zero, List.zipIdx_succ, List.foldl_map]
    have hf : (fun (c : Array Value) (x : Value × Nat) => c.setIfInBounds (o + (x.2 + 1)) x.1) = fun c x => c.setIfInBounds ((o + 1) + x.2) x.1 := by
      funext c x; congr 1; omega
    exact (congrFun (congrFun (congrArg (fun f => List.foldl f) hf) _) _).symm
theorem fold_get : ∀ (vs : List Value) (o : Nat) (c : Array Value) (j : Nat), o + vs.length ≤ c.size → (vs.zipIdx.foldl (fun c x => c.setIfInBounds (o + x.2) x.1) c)[j]? = if o ≤ j ∧ j < o + vs.length then vs[j - o]? else c[j]?
  | [], o, c, j, _ => by
    have : ¬ (o ≤ j ∧ j < o + 0) := by omega
    simp only [List.length_nil, if_neg this]; rfl
  | v :: r, o, c, j, h => by
    rw [List.zipIdx_cons, List.foldl_cons, Nat.add_zero, List.zipIdx_succ, List.foldl_map]
    have hf : (fun (c : Array Value) (x : Value × Nat) => c.setIfInBounds (o + (x.2 + 1)) x.1) = fun c x => c.setIfInBounds ((o + 1) + x.2) x.1 := by
      funext c x; congr 1; omega
    simp only [List.length_cons] at h ⊢
    show (r.zipIdx.foldl (fun (c : Array Value) (x : Value × Nat) => c.setIfInBounds (o + (x.2 + 1)) x.1) (c.setIfInBounds o v))[j]? = _
    rw [hf, fold_get r (o + 1) (c.setIfInBounds o v) j (by simp; omega)]
    by_cases h1 : o + 1 ≤ j ∧ j < o + 1 + r.length
    · rw [if_pos h1, if_pos (by omega), show j - o = (j - (o + 1)) + 1 by omega, List.getElem?_cons_succ]
    · rw [if_neg h1]
      by_cases h2 : j = o
      · subst h2
        rw [if_pos (by omega), Nat.sub_self, Array.getElem?_setIfInBounds_self_of_lt (by omega)]; rfl
      · rw [if_neg (by omega), Array.getElem?_setIfInBounds_ne (by omega)]
/- All cells of a new block are stored into: the block holds what was stored. -/
theorem setCells_whole (t : TypeId) (c : Array Value) (vs : List Value) (h : c.size = vs.length) : (w.alloc (.cells c t)).setCells w.heap.size 0 vs = w.alloc (.cells vs.toArray t) := by
  rw [setCells_new]
  congr 2
  apply Array.ext_getElem?
  intro j
  rw [fold_get vs 0 c j (by omega)]
  by_cases hj : j < vs.length
  · rw [if_pos (by omega), Nat.sub_zero, List.getElem?_toArray]
  · rw [if_neg (by omega), Array.getElem?_eq_none (by omega), List.getElem?_toArray, List.getElem?_eq_none (by omega)]

theorem wpList_store_new {ops : Array Oper} {rest : List Oper} {op : Oper} {a : Act} {Q : Exit → Act → World → Prop} (hgd : op.guard = none) (ty : TypeId) (x y : Operand) (ho : op.op = .store ty x y)
    (c : Array Value) (vs : List Value) (hx : a.eval x = .pointer (some ⟨w.heap.size, 0, none⟩)) (hy : a.eval y = .agg vs.toArray)
    (hi : (P.info? ty).map (·.size) = some vs.length) (hc : c.size = vs.length) (h1 : ∀ v ∈ vs, v.oneCell' = true)
    (h : wpList P ops Q rest (a.put op.dst undef) (w.alloc (.cells vs.toArray ty))) : wpList P ops Q (op :: rest) a (w.alloc (.cells c ty)) := by
  refine wpList_store_mid hgd ty x y ho w.heap.size 0 vs.toArray hx hy (fun j hj => ?_) (by simpa using hi) (all_oneCell_toArray h1) ?_
  · have hb := blk_new w (.cells c ty)
    have hj' : j < c.size := by rw [hc]; simpa using hj
    rw [Nat.zero_add, blk_cell hb j _ (Array.getElem?_eq_getElem hj'), blk_free hb]
    exact ⟨rfl, rfl⟩
  · rw [setCells_whole ty c _ (by simpa using hc)]; exact h

theorem wpList_load_whole {ops : Array Oper} {rest : List Oper} {op : Oper} {a : Act} {Q : Exit → Act → World → Prop} (hgd : op.guard = none) (ty : TypeId) (x : Operand) (ho : op.op = .load ty x)
    (b o : Nat) (hx : a.eval x = .pointer (some ⟨b, o, none⟩)) (cs : List Value) (d : TypeDesc) (hc : ∀ (j : Nat) v, cs[j]? = some v → w.cell? ⟨b, o + j, none⟩ = some v)
    (hu : P.underlying ty = some d) (hd : d.isRow = true) (hi : (P.info? ty).map (·.size) = some cs.length)
    (h : wpList P ops Q rest (a.put op.dst (.agg cs.toArray)) w) : wpList P ops Q (op :: rest) a w :=
  wpList_load_mid hgd ty x ho b o hx cs d hc hu hd hi h

end
end Go.Proofs.Ytilipeigjkmldaa

namespace Go.Proofs.Ytilipeigjkmldaa
open Go.RowKit

section
variable {P : Program} {w : World}

theorem setCells_fold {b t : Nat} : ∀ (vs : List Value) (o : Nat) (c : Array Value) (w : World), w.heap[b]? = some (.cells c t (0, 0)) → (w.setCells b o vs).heap[b]? = some (.cells (vs.zipIdx.foldl (fun c x => c.setIfInBounds (o + x.2) x.1) c) t (0, 0)) ∧ Step (· = b) w (w.setCells b o vs)
  | [], o, c, w, h => ⟨h, Step.refl _ _⟩
  | v :: r, o, c, w, h => by
    have h1 := blk_set h o v
    obtain ⟨h2, h3⟩ := setCells_fold r (o + 1) (c.setIfInBounds o v) _ h1
    have hf : (fun (c : Array Value) (x : Value × Nat) => c.setIfInBounds (o + (x.2 + 1)) x.1) = fun c x => c.setIfInBounds ((o + 1) + x.2) x.1 := by
      funext c x; congr 1; omega
    refine ⟨?_, Step.trans ((Step.refl _ _).setCell _ _ (fun _ => rfl)) h3⟩
    show ((w.setCell ⟨b, o, none⟩ v).setCells b (o + 1) r).heap[b]? = _
    rw [h2, List.zipIdx_cons, List.foldl_cons, Nat.add_zero, List.zipIdx_succ, List.foldl_map]
    exact congrArg some (congrArg (fun a => Obj.cells a t (0, 0)) (congrFun (congrFun (congrArg (fun f => List.foldl f) hf) _) _).symm)
theorem fold_splice (vs : List Value) (o : Nat) (c : Array Value) (h : o + vs.length ≤ c.size) : vs.zipIdx.foldl (fun c x => c.setIfInBounds (o + x.2) x.1) c = (c.toList.take o ++ (vs ++ c.toList.drop (o + vs.length))).toArray := by
  apply Array.ext_getElem?
  intro j
  have e : ∀ (l : List Value) (j : Nat), l.toArray[j]? = l[j]? := fun l j => by simp
  rw [fold_get vs o c j h, e (c.toList.take o ++ (vs ++ c.toList.drop (o + vs.length))) j]
  have hl : (c.toList.take o).length = o := by simp; omega
  by_cases h1 : j < o
  · rw [if_neg (by omega), List.getElem?_append_left (by omega), List.getElem?_take, if_pos h1]; simp
  · rw [List.getElem?_append_right (by omega), hl]
    by_cases h2 : j < o + vs.length
    · rw [if_pos (by omega), List.getElem?_append_left (by omega)]
    · rw [if_neg (by omega), List.getElem?_append_right (by omega), List.getElem?_drop, show o + vs.length + (j - o - vs.length) = j by omega]; simp

theorem wpList_store_part {ops : Array Oper} {rest : List Oper} {op : Oper} {a : Act} {Q : Exit → Act → World → Prop} (hgd : op.guard = none) (ty : TypeId) (x y : Operand) (ho : op.op = .store ty x y)
    (b o t : Nat) (c : Array Value) (vs : List Value) (hx : a.eval x = .pointer (some ⟨b, o, none⟩)) (hy : a.eval y = .agg vs.toArray)
    (hb : w.heap[b]? = some (.cells c t (0, 0))) (hi : (P.info? ty).map (·.size) = some vs.length) (hc : o + vs.length ≤ c.size) (h1 : ∀ v ∈ vs, v.oneCell' = true)
    (h : ∀ w', w'.heap[b]? = some (.cells (c.toList.take o ++ (vs ++ c.toList.drop (o + vs.length))).toArray t (0, 0)) → Step (· = b) w w' → wpList P ops Q rest (a.put op.dst undef) w') : wpList P ops Q (op :: rest) a w := by
  refine wpList_store_mid hgd ty x y ho b o vs.toArray hx hy (fun j hj => ?_) (by simpa using hi) (all_oneCell_toArray h1) ?_
  · have hj' : o + j < c.size := by have : j < vs.length := by simpa using hj
                                    omega
    rw [blk_cell hb (o + j) _ (Array.getElem?_eq_getElem hj'), blk_free hb]
    exact ⟨rfl, rfl⟩
  · obtain ⟨h2, h3⟩ := setCells_fold vs o c w hb
    rw [fold_splice vs o c hc] at h2
    exact h _ (by simpa using h2) (by simpa using h3)

theorem results_cell1 {fn : Func} {x t : Nat} (h : fn.results = #[.cell x t]) (tmps : Array Value) (b o : Nat) (cs : List Value) (d : TypeDesc) (hx : tmps.getD x undef = .pointer (some ⟨b, o, none⟩))
    (hc : ∀ (j : Nat) v, cs[j]? = some v → w.cell? ⟨b, o + j, none⟩ = some v) (hu : P.underlying t = some d) (hd : d.isRow = true) (hi : (P.info? t).map (·.size) = some cs.length) :
    (results fn tmps).run P w = .ok (.agg cs.toArray) w := by
  have hl := run_loadVar_mid w b o t cs d hc hu hd hi
  rw [Array.getD_eq_getD_getElem?] at hx
  simp [results, h, hx, asAddr, hl]
/- As results_cell1, where the block is known whole. -/
theorem results_cellB {fn : Func} {x t : Nat} (h : fn.results = #[.cell x t]) (tmps : Array Value) (b tt : Nat) (cs : List Value) (d : TypeDesc) (hx : tmps.getD x undef = .pointer (some ⟨b, 0, none⟩))
    (hb : w.heap[b]? = some (.cells cs.toArray tt (0, 0))) (hu : P.underlying t = some d) (hd : d.isRow = true) (hi : (P.info? t).map (·.size) = some cs.length) :
    (results fn tmps).run P w = .ok (.agg cs.toArray) w :=
  results_cell1 h tmps b 0 cs d hx (fun j v hv => by rw [Nat.zero_add]; exact blk_cell hb j v (by simpa using hv)) hu hd hi

end
end Go.Proofs.Ytilipeigjkmldaa

namespace Go.Proofs.Ytilipeigjkmldaa
open Go.RowKit

def dstO (ops : Array Oper) (i : Nat) : Option Tmp := (ops[i]?).bind (·.dst)
/- The frame when the operations of L have come up and have yielded V. -/
def frF (ops : Array Oper) (L : Nat → Bool) (V : Nat → Value) : List Nat → Act → Act
  | [], a => a
  | i :: r, a => frF ops L V r (if L i then a.put (dstO ops i) (V i) else a)
def putF (ops : Array Oper) (V : Nat → Value) : List Nat → Act → Act
  | [], a => a
  | i :: r, a => putF ops V r (a.put (dstO ops i) (V i))
def updL (L : Nat → Bool) (i : Nat) : Nat → Bool := fun j => if j = i then true else L j
def updV (V : Nat → Value) (i : Nat) (v : Value) : Nat → Value := fun j => if j = i then v else V j
def apartD (ops : Array Oper) (is : List Nat) : Bool := is.all fun i => is.all fun j => i == j || (dstO ops i).isNone || (dstO ops i != dstO ops j)
def backD (md : Region.Mode) (ops : Array Oper) : Bool := (List.range ops.size).all fun i => match ops[i]? with
  | some o => o.after.all fun e => !Region.binds md e || decide (e.on < i)
  | none => true
def roomD (ops : Array Oper) (is : List Nat) (n : Nat) : Bool := is.all fun i => match dstO ops i with
  | some d => decide (d < n)
  | none => true
def depsD (md : Region.Mode) (o : Oper) : List Nat := (o.after.toList.filter fun e => Region.binds md e).map (·.on)
def oldD (ops : Array Oper) (is : List Nat) (k : Nat) : Bool := is.all fun i => dstO ops i != some k

section
variable {ops : Array Oper} {L L' : Nat → Bool} {V V' : Nat → Value}
theorem apartD_out {is : List Nat} (h : apartD ops is = true) {i j : Nat} (hi : i ∈ is) (hj : j ∈ is) (hne : i ≠ j) : ∀ d, dstO ops i = some d → dstO ops j ≠ some d := by
  intro d h1 h2
  have h3 := List.all_eq_true.1 (List.all_eq_true.1 h i hi) j hj
  simp [h1, h2, hne] at h3
theorem frF_put {x : Option Tmp} {v : Value} : ∀ (is : List Nat) (a : Act), (∀ j ∈ is, ∀ d, dstO ops j = some d → x ≠ some d) → (frF ops L V is a).put x v = frF ops L V is (a.put x v)
  | [], _, _ => rfl
  | i :: r, a, h => by
    simp only [frF]
    rw [frF_put r _ (fun j hj => h j (List.mem_cons_of_mem _ hj))]
    congr 1
    split
    · exact Act.put_comm _ _ _ (h i (List.mem_cons_self ..))
    · rfl
theorem frF_congr : ∀ (is : List Nat) (a : Act), (∀ j ∈ is, L j = L' j ∧ V j = V' j) → frF ops L V is a = frF ops L' V' is a
  | [], _, _ => rfl
  | i :: r, a, h => by
    simp only [frF]
    rw [(h i (List.mem_cons_self ..)).1, (h i (List.mem_cons_self ..)).2]
    exact frF_congr r _ (fun j hj => h j (List.mem_cons_of_mem _ hj))
theorem frF_step {i : Nat} {v : Value} (hL : L i = false) : ∀ (is : List Nat) (a : Act), is.Nodup → i ∈ is → (∀ j ∈ is, i ≠ j → ∀ d, dstO ops j = some d → dstO ops i ≠ some d) → (frF ops L V is a).put (dstO ops i) v = frF ops (updL L i) (updV V i v) is a
  | [], _, _, hi, _ => nomatch hi
  | j :: r, a, hn, hi, hd => by
    obtain ⟨hj, hn⟩ := List.nodup_cons.1 hn
    by_cases e : j = i
    · subst e
      have h0 : updL L j j = true := by simp [updL]
      have h1 : updV V j v j = v := by simp [updV]
      have h2 : L j = false := hL
      simp only [frF]
      rw [h0, h1, h2]
      simp only [Bool.false_eq_true, if_false, if_true]
      rw [frF_put r a (fun k hk => hd k (List.mem_cons_of_mem _ hk) (fun e => hj (e ▸ hk)))]
      exact frF_congr r _ (fun k hk => by
        have : k ≠ j := fun e => hj (e ▸ hk)
        simp [updL, updV, this])
    · have h0 : updL L i j = L j := by simp [updL, e]
      have h1 : updV V i v j = V j := by simp [updV, e]
      simp only [frF]
      rw [h0, h1]
      exact frF_step hL r _ hn ((List.mem_cons.1 hi).resolve_left (fun h => e h.symm)) (fun k hk => hd k (List.mem_cons_of_mem _ hk))
theorem frF_old {k : Nat} : ∀ (is : List Nat) (a : Act), (∀ j ∈ is, dstO ops j ≠ some k) → (frF ops L V is a).eval (.tmp k) = a.eval (.tmp k)
  | [], _, _ => rfl
  | i :: r, a, h => by
    simp only [frF]
    rw [frF_old r _ (fun j hj => h j (List.mem_cons_of_mem _ hj))]
    split
    · exact Act.eval_put (fun d hd e => by cases e; exact h i (List.mem_cons_self ..) hd)
    · rfl
theorem evalTmp (a : Act) (k : Nat) : a.eval (.tmp k) = a.tmps[k]?.getD undef := by simp [Act.eval]
theorem put_size (a : Act) (x : Option Tmp) (v : Value) : (a.put x v).tmps.size = a.tmps.size := by cases x <;> simp [Act.put]
theorem frF_eval {i k : Nat} (hk : dstO ops i = some k) (hL : L i = true) : ∀ (is : List Nat) (a : Act), is.Nodup → i ∈ is → (∀ j ∈ is, i ≠ j → dstO ops j ≠ some k) → k < a.tmps.size → (frF ops L V is a).eval (.tmp k) = V i
  | [], _, _, hi, _, _ => nomatch hi
  | j :: r, a, hn, hi, hd, hs => by
    obtain ⟨hj, hn⟩ := List.nodup_cons.1 hn
    by_cases e : j = i
    · subst e
      have h2 : L j = true := hL
      simp only [frF]
      rw [h2]
      simp only [if_true]
      rw [frF_old r _ (fun m hm => hd m (List.mem_cons_of_mem _ hm) (fun e => hj (e ▸ hm))), hk]
      simp [Act.eval, Act.put, hs]
    · simp only [frF]
      refine frF_eval hk hL r _ hn ((List.mem_cons.1 hi).resolve_left (fun h => e h.symm)) (fun m hm => hd m (List.mem_cons_of_mem _ hm)) ?_
      split
      · rw [put_size]; exact hs
      · exact hs
theorem frF_all : ∀ (is : List Nat) (a : Act), (∀ i ∈ is, L i = true) → frF ops L V is a = putF ops V is a
  | [], _, _ => rfl
  | i :: r, a, h => by
    simp only [frF, putF]
    rw [h i (List.mem_cons_self ..)]
    exact frF_all r _ (fun j hj => h j (List.mem_cons_of_mem _ hj))
theorem frF_none : ∀ (is : List Nat) (a : Act), (∀ i, L i = false) → frF ops L V is a = a
  | [], _, _ => rfl
  | i :: r, a, h => by
    simp only [frF]
    rw [h i]
    exact frF_none r _ h
end

def leftF (listed : Array Bool) : Nat := listed.toList.countP (fun b => !b)
theorem leftF_set (listed : Array Bool) (i : Nat) (h : listed.getD i true = false) : leftF (listed.setIfInBounds i true) + 1 = leftF listed := by
  have key : ∀ (l : List Bool) (i : Nat), l[i]? = some false → (l.set i true).countP (fun b => !b) + 1 = l.countP (fun b => !b) := by
    intro l
    induction l with
    | nil => intro i h; simp at h
    | cons b r ih =>
      intro i h
      cases i with
      | zero => simp at h; subst h; simp
      | succ i =>
        have := ih i (by simpa using h)
        simp only [List.set_cons_succ, List.countP_cons]
        omega
  have hi : listed[i]? = some false := by
    rw [Array.getD_eq_getD_getElem?] at h
    cases e : listed[i]? with
    | none => rw [e] at h; simp at h
    | some b => rw [e] at h; simp at h; rw [h]
  unfold leftF
  rw [Array.toList_setIfInBounds]
  exact key _ _ (by simpa using hi)
theorem leftF_zero {listed : Array Bool} (h : leftF listed = 0) (i : Nat) : listed.getD i true = true := by
  rw [Array.getD_eq_getD_getElem?]
  cases e : listed[i]? with
  | none => rfl
  | some b =>
    unfold leftF at h
    have hm : b ∈ listed.toList := by simpa using Array.mem_of_getElem? e
    have := List.countP_eq_zero.1 h b hm
    simpa using this

section
variable {P : Program} {md : Region.Mode} {ops : Array Oper} {Q : Exit → Act → World → Prop} {a0 : Act} {n : Nat} {J : (Nat → Bool) → (Nat → Value) → World → Prop}

/- The obligations: of each operation that no guard holds. -/
def RSteps (P : Program) (md : Region.Mode) (ops : Array Oper) (Q : Exit → Act → World → Prop) (a0 : Act) (n : Nat) (J : (Nat → Bool) → (Nat → Value) → World → Prop) : Nat → List Oper → Prop
  | _, [] => True
  | i, o :: r => (∀ (L : Nat → Bool) (V : Nat → Value) (w : World) (a : Act), (∀ j k, dstO ops j = some k → L j = true → a.tmps[k]?.getD undef = V j) → (∀ k, oldD ops (List.range n) k = true → a.tmps[k]?.getD undef = a0.tmps[k]?.getD undef) →
      L i = false → (∀ j, (depsD md o).contains j = true → L j = true) → J L V w → o.wp P a w (fun a' w' => ∃ v, a' = a.put o.dst v ∧ J (updL L i) (updV V i v) w') Q) ∧ RSteps P md ops Q a0 n J (i + 1) r
theorem RSteps.get : ∀ (l : List Oper) (i k : Nat) (o : Oper), RSteps P md ops Q a0 n J k l → l[i]? = some o →
    ∀ (L : Nat → Bool) (V : Nat → Value) (w : World) (a : Act), (∀ j k, dstO ops j = some k → L j = true → a.tmps[k]?.getD undef = V j) → (∀ k, oldD ops (List.range n) k = true → a.tmps[k]?.getD undef = a0.tmps[k]?.getD undef) →
      L (k + i) = false → (∀ j, (depsD md o).contains j = true → L j = true) → J L V w → o.wp P a w (fun a' w' => ∃ v, a' = a.put o.dst v ∧ J (updL L (k + i)) (updV V (k + i) v) w') Q
  | [], i, k, o, _, h => by simp at h
  | x :: r, 0, k, o, hs, h => by
    simp at h; subst h
    exact hs.1
  | x :: r, i + 1, k, o, hs, h => by
    have := RSteps.get r i (k + 1) o hs.2 (by simpa using h)
    rwa [Nat.add_assoc, Nat.add_comm 1 i] at this

theorem wpAny_rely (hn : ops.size = n) (hd : apartD ops (List.range n) = true) (hb : backD md ops = true) (hr : roomD ops (List.range n) a0.tmps.size = true) (hg : (ops.toList.all fun o => o.guard.isNone) = true)
    (hs : RSteps P md ops Q a0 n J 0 ops.toList) (hdone : ∀ L V w, (∀ i, i < n → L i = true) → J L V w → Q .normal (putF ops V (List.range n) a0) w) :
    ∀ (fuel : Nat) (listed : Array Bool) (L : Nat → Bool) (V : Nat → Value) (w : World), listed.size = n → (∀ i, i < n → L i = listed.getD i true) → leftF listed ≤ fuel → J L V w →
      wpAny P md ops Q fuel listed (frF ops L V (List.range n) a0) w := by
  have hall : ∀ (listed : Array Bool) (L : Nat → Bool) (V : Nat → Value) (w : World), (∀ i, i < n → L i = listed.getD i true) → (∀ i, listed.getD i true = true) → J L V w → Q .normal (frF ops L V (List.range n) a0) w := by
    intro listed L V w hL h hJ
    rw [frF_all _ _ (fun i hi => by rw [hL i (List.mem_range.1 hi), h i])]
    exact hdone L V w (fun i hi => by rw [hL i hi, h i]) hJ
  have hmono : ∀ (i : Nat) (o : Oper), ops[i]? = some o → ∀ e ∈ o.after, Region.binds md e = true → e.on < i := by
    intro i o ho e he hbe
    have hi : i < ops.size := (Array.getElem?_eq_some_iff.1 ho).1
    have h := List.all_eq_true.1 hb i (List.mem_range.2 hi)
    simp only [ho] at h
    have h2 := Array.all_eq_true_iff_forall_mem.1 h e he
    simpa [hbe] using h2
  intro fuel
  induction fuel with
  | zero =>
    intro listed L V w hsz hL hc hJ
    have h0 := leftF_zero (Nat.le_zero.1 hc)
    refine ⟨List.eq_nil_iff_forall_not_mem.2 (fun i hi => ?_), hall listed L V w hL h0 hJ⟩
    have := (mem_ready.1 hi).1
    rw [h0 i] at this; cases this
  | succ fuel ih =>
    intro listed L V w hsz hL hc hJ
    refine ⟨fun hnil => ?_, fun i hi => ?_⟩
    · refine hall listed L V w hL (fun i => ?_) hJ
      induction i using Nat.strongRecOn with
      | ind i ihi =>
        cases hlt : listed.getD i true with
        | true => rfl
        | false =>
          have hi : i < listed.size := by
            rcases Nat.lt_or_ge i listed.size with h | h
            · exact h
            · rw [Array.getD_eq_getD_getElem?, Array.getElem?_eq_none h] at hlt; cases hlt
          have hmem : i ∈ Region.ready md ops listed := by
            refine mem_ready.2 ⟨hlt, ops[i]'(by omega), Array.getElem?_eq_getElem (by omega), fun e he hbe => ?_⟩
            have h1 := hmono i _ (Array.getElem?_eq_getElem (by omega)) e he hbe
            have h2 := ihi e.on h1
            rw [Array.getD_eq_getD_getElem?] at h2 ⊢
            rw [Array.getElem?_eq_getElem (show e.on < listed.size by omega)] at h2 ⊢
            simpa using h2
          rw [hnil] at hmem; cases hmem
    · obtain ⟨h1, o, ho, h2⟩ := mem_ready.1 hi
      have hin : i < n := by rw [← hn]; exact (Array.getElem?_eq_some_iff.1 ho).1
      have hLi : L i = false := by rw [hL i hin]; exact h1
      have hgo : o.guard = none := by
        have := List.all_eq_true.1 hg o (by simpa using Array.mem_of_getElem? ho)
        simpa using this
      have hap : ∀ j, j ∈ List.range n → i ≠ j → ∀ d, dstO ops j = some d → dstO ops i ≠ some d := fun j hj hne d h3 => apartD_out hd hj (List.mem_range.2 hin) (Ne.symm hne) d h3
      have hob := RSteps.get ops.toList i 0 o hs (by simpa using ho) L V w (frF ops L V (List.range n) a0)
        (fun j k hjk hLj => by
          have hjn : j < n := by
            rw [← hn]
            rcases Nat.lt_or_ge j ops.size with h | h
            · exact h
            · simp [dstO, Array.getElem?_eq_none h] at hjk
          rw [← evalTmp]
          refine frF_eval hjk hLj _ _ List.nodup_range (List.mem_range.2 hjn) (fun m hm hne => apartD_out hd (List.mem_range.2 hjn) hm hne k hjk) ?_
          have := List.all_eq_true.1 hr j (List.mem_range.2 hjn)
          simp only [hjk] at this
          simpa using this)
        (fun k hk => by
          rw [← evalTmp, ← evalTmp]
          exact frF_old _ _ (fun j hj e => by
          have := List.all_eq_true.1 hk j hj
          simp [e] at this))
        (by rw [Nat.zero_add]; exact hLi)
        (fun j hj => by
          have hj' : j ∈ depsD md o := by simpa using hj
          obtain ⟨e, he, rfl⟩ := List.mem_map.1 hj'
          obtain ⟨he1, he2⟩ := List.mem_filter.1 he
          have h3 := h2 e (by simpa using he1) he2
          have h4 := hmono i o ho e (by simpa using he1) he2
          rw [hL e.on (by omega)]
          rw [Array.getD_eq_getD_getElem?] at h3 ⊢
          rw [Array.getElem?_eq_getElem (show e.on < listed.size by omega)] at h3 ⊢
          simpa using h3) hJ
      rw [Nat.zero_add] at hob
      unfold wpOp
      simp only [ho]
      have hw : Region.wanted o (yielded ops (frF ops L V (List.range n) a0).tmps) = true := by simp [Region.wanted, hgo]
      rw [if_pos hw]
      refine .inl (Oper.wp_mono ?_ hob)
      rintro a' w' ⟨v, rfl, hJ'⟩
      have hdst : o.dst = dstO ops i := by simp [dstO, ho]
      rw [hdst, frF_step hLi _ _ List.nodup_range (List.mem_range.2 hin) hap]
      refine ih (listed.setIfInBounds i true) _ _ w' (by simp [hsz]) (fun j hj => ?_) (by have := leftF_set listed i h1; omega) hJ'
      unfold updL
      by_cases e : j = i
      · subst e
        rw [if_pos rfl, Array.getD_eq_getD_getElem?, Array.getElem?_setIfInBounds_self_of_lt (by omega)]; rfl
      · rw [if_neg e, hL j hj, Array.getD_eq_getD_getElem?, Array.getD_eq_getD_getElem?, Array.getElem?_setIfInBounds_ne (Ne.symm e)]

/- A region that draws its order. -/
theorem wp_region_rely {id : Nat} {w : World} (hm : P.follows .mixedOrders = true) (J : (Nat → Bool) → (Nat → Value) → World → Prop) (n : Nat) (hn : ops.size = n) (hd : apartD ops (List.range n) = true) (hb : backD .any ops = true)
    (hr : roomD ops (List.range n) a0.tmps.size = true) (hg : (ops.toList.all fun o => o.guard.isNone) = true) (h0 : J (fun _ => false) (fun _ => undef) w.drew)
    (hs : RSteps P .any ops Q a0 n J 0 ops.toList) (hdone : ∀ L V w, (∀ i, i < n → L i = true) → J L V w → Q .normal (putF ops V (List.range n) a0) w) : (Code.region id ops true).wp P Q a0 w := by
  refine wp_region_any hm ?_
  have h := wpAny_rely (P := P) hn hd hb hr hg hs hdone ops.size (Array.replicate ops.size false) (fun _ => false) (fun _ => undef) w.drew (by simp [hn])
    (fun i hi => by rw [Array.getD_eq_getD_getElem?, Array.getElem?_replicate, if_pos (by omega)]; rfl) (by
      unfold leftF
      simp only [Array.toList_replicate]
      exact Nat.le_trans List.countP_le_length (by simp)) h0
  rw [frF_none _ _ (fun _ => rfl)] at h
  exact h
end

/- A struct goes into a part of a block that is known: at one operation. -/
theorem wp_store_part {P : Program} {op : Oper} {a : Act} {w : World} {K : Act → World → Prop} {Q : Exit → Act → World → Prop} (ty : TypeId) (x y : Operand) (ho : op.op = .store ty x y)
    (b o t : Nat) (c : Array Value) (vs : List Value) (hx : a.eval x = .pointer (some ⟨b, o, none⟩)) (hy : a.eval y = .agg vs.toArray)
    (hb : w.heap[b]? = some (.cells c t (0, 0))) (hi : (P.info? ty).map (·.size) = some vs.length) (hc : o + vs.length ≤ c.size) (h1 : ∀ v ∈ vs, v.oneCell' = true)
    (h : ∀ w', w'.heap[b]? = some (.cells (c.toList.take o ++ (vs ++ c.toList.drop (o + vs.length))).toArray t (0, 0)) → Step (· = b) w w' → K (a.put op.dst undef) w') : op.wp P a w K Q := by
  refine wp_store_mid ty x y ho b o vs.toArray hx hy (fun j hj => ?_) (by simpa using hi) (all_oneCell_toArray h1) ?_
  · have hj' : o + j < c.size := by
      have : j < vs.length := by simpa using hj
      omega
    rw [blk_cell hb (o + j) _ (Array.getElem?_eq_getElem hj'), blk_free hb]
    exact ⟨rfl, rfl⟩
  · obtain ⟨h2, h3⟩ := setCells_fold vs o c w hb
    rw [fold_splice vs o c hc] at h2
    exact h _ (by simpa using h2) (by simpa using h3)

end Go.Proofs.Ytilipeigjkmldaa

namespace Go.Proofs.Ytilipeigjkmldaa
open Go.RowKit

section
variable {P : Program}
theorem run_slice_one (w : World) (t e : TypeId) (i : TypeInfo) (z : Value) (vs : List Value) (ht : P.underlying t = some (.slice e)) (hi : P.info? e = some i) (hz : i.zero = some z) (hsize : i.size = vs.length) (hzs : z.cells.size = vs.length) (h0 : 0 < vs.length) (hm : vs.length ≤ 16777216) :
    (Instr.buildSlice t 1 #[(0, .agg vs.toArray)]).run P w = .ok (.slice (some ⟨w.heap.size, 0, none⟩) 1 1) (w.alloc (.cells vs.toArray e)) := by
  have hf : vs.zipIdx.foldl (fun (c : Array Value) (x : Value × Nat) => c.setIfInBounds (0 + x.2) x.1) ((Array.range vs.length).map (z.cells[· % z.cells.size]!)) = vs.toArray := by
    rw [fold_splice vs 0 _ (by simp)]
    simp
  simp only [Nat.zero_add] at hf
  have hc : (Value.agg vs.toArray).cells = vs.toArray := rfl
  have n1 : ¬ 16777216 < vs.length := by omega
  have n2 : ¬ vs.length = 0 := by omega
  simp [Instr.buildSlice, run_underlying ht, sizeOf, typeInfo, hi, zeroValue, hz, newRow, Instr.fill, hsize, n1, n2, hc, hf]

theorem wpList_slice_one {ops : Array Oper} {rest : List Oper} {op : Oper} {a : Act} {w : World} {Q : Exit → Act → World → Prop} (hgd : op.guard = none) (t : TypeId) (y : Operand) (ho : op.op = .buildSlice t 1 #[(0, y)])
    (e : TypeId) (i : TypeInfo) (z : Value) (vs : List Value) (hy : a.eval y = .agg vs.toArray) (ht : P.underlying t = some (.slice e)) (hi : P.info? e = some i) (hz : i.zero = some z) (hsize : i.size = vs.length) (hzs : z.cells.size = vs.length) (h0 : 0 < vs.length) (hm : vs.length ≤ 16777216)
    (h : wpList P ops Q rest (a.put op.dst (.slice (some ⟨w.heap.size, 0, none⟩) 1 1)) (w.alloc (.cells vs.toArray e))) : wpList P ops Q (op :: rest) a w := by
  refine wpList_plain hgd fun _ hK => ?_
  unfold Oper.wp execOp
  simp only [ho, List.map_toArray, List.map_cons, List.map_nil, hy, Sem.run_bind, Sem.run_pure, run_slice_one w t e i z vs ht hi hz hsize hzs h0 hm, Result.andThen_ok]
  exact hK _ _ h
end
end Go.Proofs.Ytilipeigjkmldaa

namespace Go.Proofs.Ytilipeigjkmldaa
open Go.RowKit

section
variable {P : Program}
theorem take_av (A V D : List Value) : (A ++ (V ++ D)).take (A.length + V.length) = A ++ V := by
  rw [← List.append_assoc, ← List.length_append, List.take_left]
theorem drop_av (A V D : List Value) (m : Nat) : (A ++ (V ++ D)).drop (A.length + V.length + m) = D.drop m := by
  rw [← List.append_assoc, ← List.length_append, ← List.drop_drop, List.drop_left]
theorem fill_from (size : Nat) : ∀ (l : List (List Value)) (k : Nat) (c : Array Value), (∀ vs ∈ l, vs.length = size) → (k + l.length) * size ≤ c.size →
    Instr.fill (fun i => some (i * size, size)) c ((l.zipIdx k).map fun p => (p.2, Value.agg p.1.toArray)) = some (c.toList.take (k * size) ++ (l.flatten ++ c.toList.drop ((k + l.length) * size))).toArray
  | [], k, c, _, _ => by simp [Instr.fill]
  | vs :: r, k, c, hl, hc => by
    have hv := hl vs (List.mem_cons_self ..)
    have hlen : (k + (vs :: r).length) * size = k * size + size + r.length * size := by
      rw [List.length_cons, Nat.add_mul, Nat.add_mul, Nat.one_mul]; omega
    have hcs : (Value.agg vs.toArray).cells = vs.toArray := rfl
    have hf := fold_splice vs (k * size) c (by rw [hv]; omega)
    have h1 : ¬ (vs.toArray.size ≠ size ∨ k * size + vs.toArray.size > c.size) := by simp [hv]; omega
    have hzip : (vs :: r).zipIdx k = (vs, k) :: r.zipIdx (k + 1) := rfl
    rw [hzip, List.map_cons]
    unfold Instr.fill
    simp only [hcs]
    rw [if_neg (by simpa using h1)]
    have hz : vs.toArray.zipIdx.foldl (fun (cs : Array Value) (x : Value × Nat) => cs.setIfInBounds (k * size + x.2) x.1) c = (c.toList.take (k * size) ++ (vs ++ c.toList.drop (k * size + vs.length))).toArray := by
      rw [← hf]; simp
    have hz2 : vs.toArray.zipIdx.foldl (fun (cs : Array Value) (x : Value × Nat) => match x with | (c, j) => cs.setIfInBounds (k * size + j) c) c = (c.toList.take (k * size) ++ (vs ++ c.toList.drop (k * size + vs.length))).toArray := hz
    rw [hz2]
    have ht : (c.toList.take (k * size)).length = k * size := by simp; omega
    have hk1 : (k + 1) * size = k * size + size := by rw [Nat.add_mul, Nat.one_mul]
    rw [fill_from size r (k + 1) _ (fun v hv => hl v (List.mem_cons_of_mem _ hv)) (by simp; rw [Nat.add_mul, hk1]; omega)]
    have hk2 : (k + 1 + r.length) * size = k * size + size + r.length * size := by rw [Nat.add_mul, hk1]
    have hk3 : (k + (r.length + 1)) * size = k * size + size + r.length * size := by rw [← hlen, List.length_cons]
    simp only [List.flatten_cons, List.length_cons]
    rw [hk1, hk2, hk3]
    have e1 := take_av (c.toList.take (k * size)) vs (c.toList.drop (k * size + vs.length))
    have e2 := drop_av (c.toList.take (k * size)) vs (c.toList.drop (k * size + vs.length)) (r.length * size)
    rw [ht, hv] at e1 e2
    rw [hv, e1, e2, List.drop_drop, List.append_assoc, List.append_assoc]

theorem run_slice_many (w : World) (t e : TypeId) (i : TypeInfo) (z : Value) (l : List (List Value)) (size : Nat) (ht : P.underlying t = some (.slice e)) (hi : P.info? e = some i) (hz : i.zero = some z) (hsize : i.size = size) (hl : ∀ vs ∈ l, vs.length = size) (h0 : 0 < l.length * size) (hm : l.length * size ≤ 16777216) :
    (Instr.buildSlice t l.length ((l.zipIdx 0).map fun p => (p.2, Value.agg p.1.toArray)).toArray).run P w = .ok (.slice (some ⟨w.heap.size, 0, none⟩) l.length l.length) (w.alloc (.cells l.flatten.toArray e)) := by
  have hf := fill_from size l 0 ((Array.range (l.length * size)).map (z.cells[· % z.cells.size]!)) hl (by simp)
  have hf2 : Instr.fill (fun i => some (i * size, size)) ((Array.range (l.length * size)).map (z.cells[· % z.cells.size]!)) ((l.zipIdx 0).map fun p => (p.2, Value.agg p.1.toArray)) = some l.flatten.toArray := by
    rw [hf]; simp
  have n1 : ¬ 16777216 < l.length * size := by omega
  have n2 : ¬ l.length * size = 0 := by omega
  unfold Instr.buildSlice
  simp only [Sem.run_bind, run_underlying ht, Result.andThen_ok]
  simp [sizeOf, zeroValue, newRow, n1, n2, typeInfo, hi, hsize, hz, hf2]

theorem wp_slice_many {op : Oper} {a : Act} {w : World} {K : Act → World → Prop} {Q : Exit → Act → World → Prop} (t : TypeId) (n : Nat) (ps : Array (Nat × Operand)) (ho : op.op = .buildSlice t n ps)
    (e : TypeId) (i : TypeInfo) (z : Value) (l : List (List Value)) (size : Nat) (hn : n = l.length) (hps : ps.map (fun p => (p.1, a.eval p.2)) = ((l.zipIdx 0).map fun p => (p.2, Value.agg p.1.toArray)).toArray)
    (ht : P.underlying t = some (.slice e)) (hi : P.info? e = some i) (hz : i.zero = some z) (hsize : i.size = size) (hl : ∀ vs ∈ l, vs.length = size) (h0 : 0 < l.length * size) (hm : l.length * size ≤ 16777216)
    (h : K (a.put op.dst (.slice (some ⟨w.heap.size, 0, none⟩) l.length l.length)) (w.alloc (.cells l.flatten.toArray e))) : op.wp P a w K Q := by
  subst hn
  unfold Oper.wp execOp
  have hps2 : (ps.map fun (i, x) => (i, a.eval x)) = ((l.zipIdx 0).map fun p => (p.2, Value.agg p.1.toArray)).toArray := hps
  simp only [ho, hps2, Sem.run_bind, Sem.run_pure, run_slice_many w t e i z l size ht hi hz hsize hl h0 hm, Result.andThen_ok]
  exact h
end
end Go.Proofs.Ytilipeigjkmldaa
