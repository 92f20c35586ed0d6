/- Base, CoreA, LxA -/
import Derived.Test.YtppekkbaoimpgaaRows
import Derived.WalkKit
import Derived.WalkSpells
import Derived.WalkLawsBesides
import Derived.Deep.QuietTactic
import Derived.BigQuiet
import Derived.BigRegion
import Derived.Deep.LoopGhost
import Derived.Deep.RegionHeld3
import Derived.Lib.Hide
import Derived.Laws.AppendOwnNone
import Derived.Laws.BitsAllLaws
import Derived.IntWalk
import Derived.Deep.AppendLies
import Derived.ChangeArms
import Derived.ReadAgain
import Derived.Below
import Derived.ChangeSame
import Derived.Deep.Slices
import Derived.Deep.MidRow
import Derived.Orders
import Derived.Test.YtppekkbaoimpgaaShelf
import Derived.Deep.DeepFit
set_option maxRecDepth 100000
set_option maxHeartbeats 8000000
namespace Go.Proofs.Ytppekkbaoimpgaa
open Go.RowKit
theorem mc {β : Type} {p : β → Prop} {a : β} {l : List β} (h : p a ∧ ∀ x ∈ l, p x) : ∀ x ∈ a :: l, p x := List.forall_mem_cons.2 h
theorem nd {a b : Prop} (h : ¬ a) : a → b := fun e => absurd e h
theorem np {ps : List (Nat × Nat)} {k : Nat} {Q : Nat × Nat → Prop} (h : (ps.all fun p => p.1 != k) = true) : ∀ p ∈ ps, p.1 = k → Q p := by
 intro p hp e
 have h2 := List.all_eq_true.1 h p hp
 rw [e] at h2
 simp at h2
theorem ret_bool {a b : Bool} (h : a = b) : Ending.returned (.bool a) = .returned (.bool b) := by rw [h]
/- A block that is known whole: its cells, that none is frozen, what a store makes of it. -/
theorem blk_cell {w : World} {b t : Nat} {cs : Array Value} (h : w.heap[b]? = some (.cells cs t (0, 0))) (i : Nat) (v : Value) (hv : cs[i]? = some v) : w.cell? ⟨b, i, none⟩ = some v := by
 simp [World.cell?, h, hv]
theorem blk_free {w : World} {b t : Nat} {cs : Array Value} (h : w.heap[b]? = some (.cells cs t (0, 0))) (i : Nat) : w.frozen? ⟨b, i, none⟩ = false := by
 simp [World.frozen?, h]
theorem blk_set {w : World} {b t : Nat} {cs : Array Value} (h : w.heap[b]? = some (.cells cs t (0, 0))) (i : Nat) (v : Value) : (w.setCell ⟨b, i, none⟩ v).heap[b]? = some (.cells (cs.setIfInBounds i v) t (0, 0)) := by
 simp [World.setCell, Array.getElem?_modify, h]
theorem blk_drew {w : World} {b : Nat} {o : Option Obj} (h : w.heap[b]? = o) : w.drew.heap[b]? = o := h
theorem blk_drewN {w : World} {b n : Nat} {o : Option Obj} (h : w.heap[b]? = o) : (w.drewN n).heap[b]? = o := h
theorem blk_alloc {w : World} {b : Nat} {o o' : Obj} (h : w.heap[b]? = some o) : (w.alloc o').heap[b]? = some o := by
 have hb : b < w.heap.size := by
  rcases Nat.lt_or_ge b w.heap.size with h1 | h1
  ·exact h1
  ·simp [Array.getElem?_eq_none h1] at h
 rw [Below.heap_alloc w o' b hb]; exact h
/- What a call may have done: of the blocks that were there only those in S may have turned; the streams are as they were. -/
structure Step (S : Nat → Prop) (w w' : World) : Prop where
 os : w'.os = w.os
 tape : w'.tape = w.tape
 output : w'.output = w.output
 size : w.heap.size ≤ w'.heap.size
 block : ∀ k, k < w.heap.size → ¬ S k → w'.heap[k]? = w.heap[k]?
theorem Step.refl (S : Nat → Prop) (w : World) : Step S w w := ⟨rfl, rfl, rfl, Nat.le_refl _, fun _ _ _ => rfl⟩
theorem Step.trans {S : Nat → Prop} {a b c : World} (h : Step S a b) (k : Step S b c) : Step S a c :=
 ⟨k.os.trans h.os, k.tape.trans h.tape, k.output.trans h.output, Nat.le_trans h.size k.size, fun i hi hs => (k.block i (Nat.lt_of_lt_of_le hi h.size) hs).trans (h.block i hi hs)⟩
theorem Step.mono {S T : Nat → Prop} {w w' : World} (h : Step S w w') (hs : ∀ k, k < w.heap.size → S k → T k) : Step T w w' :=
 ⟨h.os, h.tape, h.output, h.size, fun k hk ht => h.block k hk fun e => ht (hs k hk e)⟩
/- Two steps, the second of which may turn what the first has made besides. -/
theorem Step.then {S T : Nat → Prop} {a b c : World} (h : Step S a b) (k : Step T b c) (hs : ∀ i, i < a.heap.size → T i → S i) : Step S a c :=
 ⟨k.os.trans h.os, k.tape.trans h.tape, k.output.trans h.output, Nat.le_trans h.size k.size, fun i hi hn => (k.block i (Nat.lt_of_lt_of_le hi h.size) fun e => hn (hs i hi e)).trans (h.block i hi hn)⟩
theorem Step.drew {S : Nat → Prop} {a w : World} (h : Step S a w) : Step S a w.drew := ⟨h.os, h.tape, h.output, h.size, h.block⟩
theorem Step.drewN {S : Nat → Prop} {a w : World} (h : Step S a w) (n : Nat) : Step S a (w.drewN n) := ⟨h.os, h.tape, h.output, h.size, h.block⟩
theorem Step.alloc {S : Nat → Prop} {a w : World} (h : Step S a w) (o : Obj) : Step S a (w.alloc o) :=
 h.trans ⟨rfl, rfl, rfl, by simp, fun k hk _ => Below.heap_alloc _ _ _ hk⟩
theorem Step.setCell {S : Nat → Prop} {a w : World} (h : Step S a w) (p : Addr) (u : Value) (hp : p.block < a.heap.size → S p.block) : Step S a (w.setCell p u) := by
 refine ⟨h.os, h.tape, h.output, Nat.le_trans h.size (by simp [World.setCell]), fun k hk hs => ?_⟩
 rw [Below.heap_setCell _ _ _ _ (fun e => hs (by subst e; exact hp hk))]
 exact h.block k hk hs
theorem Step.grown {S : Nat → Prop} {a w w' : World} {row : Option Nat} (h : Step S a w) (hg : w.grownBy w' row) (hr : ∀ k, row = some k → k < a.heap.size → S k) : Step S a w' :=
 ⟨hg.os.trans h.os, hg.tape.trans h.tape, hg.output.trans h.output, Nat.le_trans h.size hg.size, fun k hk hs =>
  (hg.block k (Nat.lt_of_lt_of_le hk h.size) fun e => hs (hr k e.symm hk)).trans (h.block k hk hs)⟩
theorem Step.keep {S : Nat → Prop} {w w' : World} (h : Step S w w') {b : Nat} {o : Obj} (hb : w.heap[b]? = some o) (hs : ¬ S b) : w'.heap[b]? = some o := by
 have hlt : b < w.heap.size := by
  rcases Nat.lt_or_ge b w.heap.size with h1 | h1
  ·exact h1
  ·simp [Array.getElem?_eq_none h1] at hb
 rw [h.block b hlt hs]; exact hb
theorem blk_lt {w : World} {b : Nat} {o : Obj} (hb : w.heap[b]? = some o) : b < w.heap.size := by
 rcases Nat.lt_or_ge b w.heap.size with h1 | h1
 ·exact h1
 ·simp [Array.getElem?_eq_none h1] at hb
theorem blk_new_set (w : World) (a : Addr) (v : Value) (o : Obj) : ((w.setCell a v).alloc o).heap[w.heap.size]? = some o := by
 have := heap_alloc_new (w.setCell a v) o
 simpa [World.setCell] using this
theorem blk_new (w : World) (o : Obj) : (w.alloc o).heap[w.heap.size]? = some o := heap_alloc_new w o
theorem cell_alloc {w : World} {a : Addr} {v : Value} {o : Obj} (h : w.cell? a = some v) : (w.alloc o).cell? a = some v :=
 (World.grownBy_alloc w o none).cell h (by simp)
theorem Step.cell {S : Nat → Prop} {w w' : World} {a : Addr} {v : Value} (hs : Step S w w') (h : w.cell? a = some v) (hn : ¬ S a.block) : w'.cell? a = some v :=
 (World.cell?_of_block (hs.block a.block (World.block_lt_of_cell? w a h) hn)).trans h
theorem news_cells {w : World} {b t : Nat} {cs : List Value} (h : w.heap[b]? = some (.cells cs.toArray t (0, 0))) : ∀ (j : Nat) (u : Value), cs[j]? = some u → w.cell? ((⟨b, 0, none⟩ : Addr).add j) = some u := by
 intro j u hu
 have hadd : (⟨b, 0, none⟩ : Addr).add j = ⟨b, j, none⟩ := by unfold Addr.add; split <;> simp_all
 rw [hadd]
 exact blk_cell h j u (by simpa using hu)
theorem blk_new2 (w : World) (o1 o2 : Obj) : ((w.alloc o1).alloc o2).heap[w.heap.size + 1]? = some o2 := by
 have := heap_alloc_new (w.alloc o1) o2
 simpa using this
theorem owned_row {w : World} {base : Nat} {e : TypeId} {size : Nat} {v : Value} {n : Nat} {xs : List Value} (h : w.ownsRow base e size v n xs) : ∀ k, v.ownBlock = some k → base ≤ k := fun k hk => (h.lt k hk).1
theorem grown_keep {w w' : World} {row : Option Nat} (hg : w.grownBy w' row) {b : Nat} {o : Obj} (hb : w.heap[b]? = some o) (hn : ∀ k, row = some k → b ≠ k) : w'.heap[b]? = some o := by
 rw [hg.block b (blk_lt hb) (fun e => hn b e.symm rfl)]; exact hb
theorem owns_base {w : World} {base base' : Nat} {e : TypeId} {size : Nat} {v : Value} {n : Nat} {xs : List Value} (h : w.ownsRow base e size v n xs) (hb : base' ≤ base) : w.ownsRow base' e size v n xs := by
 refine ⟨h.1, ?_⟩
 rcases h.2 with hz | ⟨g, cap, cur, rfl, hg, rest⟩
 ·exact .inl hz
 ·exact .inr ⟨g, cap, cur, rfl, by omega, rest⟩
theorem blk2 {w : World} {b t : Nat} {a0 a1 : Value} (h : w.heap[b]? = some (.cells #[a0, a1] t (0, 0))) :
  (w.cell? ⟨b, 0, none⟩ = some a0 ∧ w.cell? ⟨b, 1, none⟩ = some a1) ∧ (w.frozen? ⟨b, 0, none⟩ = false ∧ w.frozen? ⟨b, 1, none⟩ = false) :=
 ⟨⟨blk_cell h 0 _ rfl, blk_cell h 1 _ rfl⟩, ⟨blk_free h 0, blk_free h 1⟩⟩
theorem blk3 {w : World} {b t : Nat} {a0 a1 a2 : Value} (h : w.heap[b]? = some (.cells #[a0, a1, a2] t (0, 0))) :
  (w.cell? ⟨b, 0, none⟩ = some a0 ∧ w.cell? ⟨b, 1, none⟩ = some a1 ∧ w.cell? ⟨b, 2, none⟩ = some a2) ∧
  (w.frozen? ⟨b, 0, none⟩ = false ∧ w.frozen? ⟨b, 1, none⟩ = false ∧ w.frozen? ⟨b, 2, none⟩ = false) :=
 ⟨⟨blk_cell h 0 _ rfl, blk_cell h 1 _ rfl, blk_cell h 2 _ rfl⟩, ⟨blk_free h 0, blk_free h 1, blk_free h 2⟩⟩
theorem owns_slice {w : World} {base : Nat} {e : TypeId} {size : Nat} {v : Value} {n : Nat} {xs : List Value} (h : w.ownsRow base e size v n xs) : ∃ a c, v = .slice a n c := by
 rcases h.2 with ⟨hv, h0⟩ | ⟨g, cap, cur, hv, _⟩
 ·exact ⟨none, 0, by rw [hv, h0]⟩
 ·exact ⟨_, _, hv⟩
theorem Step.owns {S : Nat → Prop} {w w' : World} {base : Nat} {e : TypeId} {size : Nat} {v : Value} {n : Nat} {xs : List Value} (hs : Step S w w') (h : w.ownsRow base e size v n xs) (hn : ∀ k, base ≤ k → ¬ S k) : w'.ownsRow base e size v n xs := by
 refine ⟨h.1, ?_⟩
 rcases h.2 with hz | ⟨g, cap, cur, rfl, hb, hgg, rest⟩
 ·exact .inl hz
 ·exact .inr ⟨g, cap, cur, rfl, hb, hs.keep hgg (hn g hb), rest⟩
theorem grown_step {w w' : World} {row : Option Nat} (h : w.grownBy w' row) : Step (fun k => row = some k) w w' := (Step.refl _ _).grown h (fun _ hk _ => hk)
theorem Step.toBelow {w w' : World} (h : Step (fun _ => False) w w') : Below w.heap.size w w' := ⟨h.os, h.tape, h.output, h.size, fun k hk => h.block k hk (fun e => e)⟩
/- A slice of n elements, in blocks below B, whose cells are xs. -/
def Row (w : World) (B : Nat) (v : Value) (n : Nat) (xs : List Value) : Prop :=
 ∃ a c, v = .slice a n c ∧ n ≤ c ∧ c ≤ 9223372036854775807 ∧ (a = none → n = 0 ∧ c = 0) ∧ (0 < n → ∃ g o, a = some ⟨g, o, none⟩ ∧ g < B ∧ g < w.heap.size ∧ ∀ (i : Nat) x, xs[i]? = some x → w.cell? ⟨g, o + i, none⟩ = some x)
theorem Row.step {w w' : World} {B : Nat} {v : Value} {n : Nat} {xs : List Value} {S : Nat → Prop} (h : Row w B v n xs) (hs : Step S w w') (hS : ∀ k, k < B → ¬ S k) : Row w' B v n xs := by
 obtain ⟨a, c, hv, hc, hm, hz, hr⟩ := h
 refine ⟨a, c, hv, hc, hm, hz, fun hn => ?_⟩
 obtain ⟨g, o, ha, hg, hgw, hcell⟩ := hr hn
 exact ⟨g, o, ha, hg, Nat.lt_of_lt_of_le hgw hs.size, fun i x hx => hs.cell (hcell i x hx) (hS g hg)⟩
theorem Row.mono {w : World} {B B' : Nat} {v : Value} {n : Nat} {xs : List Value} (h : Row w B v n xs) (hb : B ≤ B') : Row w B' v n xs := by
 obtain ⟨a, c, hv, hc, hm, hz, hr⟩ := h
 refine ⟨a, c, hv, hc, hm, hz, fun hn => ?_⟩
 obtain ⟨g, o, ha, hg, hgw, hcell⟩ := hr hn
 exact ⟨g, o, ha, by omega, hgw, hcell⟩
theorem add_is (g o j : Nat) : (⟨g, o, none⟩ : Addr).add j = ⟨g, o + j, none⟩ := by unfold Addr.add; split <;> simp_all
/- A row that one owns is a row. -/
theorem Row.of_owns {w : World} {base B : Nat} {e : TypeId} {size : Nat} {v : Value} {n : Nat} {xs : List Value} (h : w.ownsRow base e size v n xs) (hB : w.heap.size ≤ B) : Row w B v n xs := by
 have hh := h
 rcases h.2 with ⟨rfl, rfl⟩ | ⟨g, cap, cur, rfl, hb, hg, hn, hm, _⟩
 ·exact ⟨none, 0, rfl, Nat.le_refl _, by omega, fun _ => ⟨rfl, rfl⟩, fun h => absurd h (Nat.lt_irrefl _)⟩
 ·refine ⟨_, cap, rfl, hn, by simpa [maxLen] using hm, fun h => (by cases h), fun _ => ⟨g, 0, rfl, Nat.lt_of_lt_of_le (blk_lt hg) hB, blk_lt hg, fun i x hx => ?_⟩⟩
  have := hh.cells (g := g) rfl i x hx
  rwa [add_is] at this
section
variable {P : Program} (w : World)
theorem run_append_row (B : Nat) (base : Nat) (t ty e : TypeId) (i : TypeInfo) (z : Value) (size bytes : Nat) (ht : P.underlying t = some (.slice e)) (hi : P.info? e = some i) (hz : i.zero = some z)
  (hsize : i.size = size) (hby : i.bytes = bytes) (hzs : z.cells.size = size) (hsz : 0 < size)
  (v : Value) (n : Nat) (xs : List Value) (hown : w.ownsRow base e size v n xs)
  (vs : Value) (m : Nat) (news : List Value) (hrow : Row w B vs m news) (hl : news.length = m * size) (h1 : ∀ u ∈ news, u.oneCell' = true)
  (h63 : n + m ≤ maxLen) (hbytes : (n + m) * bytes ≤ 140737488355328) (hbase : base ≤ w.heap.size) :
  ∃ v' w', (Builtin.append_ #[t, t] ty #[v, vs]).run P w = .ok v' w' ∧ w'.ownsRow base e size v' (n + m) (xs ++ news) ∧ w.grownBy w' v.ownBlock ∧ (v'.ownBlock = v.ownBlock ∨ v'.ownBlock = some w.heap.size) := by
 obtain ⟨a, c, rfl, hc, hm, hnil, hr⟩ := hrow
 cases a with
 | none =>
  obtain ⟨rfl, rfl⟩ := hnil rfl
  have : news = [] := List.eq_nil_of_length_eq_zero (by omega)
  subst this
  refine ⟨v, w, run_append_owned_none (P := P) w base t ty e i size ht hi v n xs hown, ?_, ⟨rfl, rfl, rfl, Nat.le_refl _, fun _ _ _ => rfl⟩, .inl rfl⟩
  rw [List.append_nil]; exact hown
 | some ad =>
  have hnews : ∀ j u, news[j]? = some u → w.cell? (ad.add j) = some u := by
   intro j u hu
   have hlt := (List.getElem?_eq_some_iff.1 hu).1
   have hpos : 0 < m := by
    rcases Nat.eq_zero_or_pos m with h0 | h0
    ·subst h0; omega
    ·exact h0
   obtain ⟨g, o, ha, _, _, hcell⟩ := hr hpos
   cases ha
   rw [add_is]
   exact hcell j u hu
  obtain ⟨v', w', r1, r2, r3, _, r5⟩ := run_append_own_at (P := P) w base t ty e i z size bytes ht hi hz hsize hby hzs hsz v n xs hown ad m c news hl hnews h1 h63 hbytes hbase
  exact ⟨v', w', r1, r2, r3, r5⟩
theorem wp_append_row {o : Oper} {a : Act} {K : Act → World → Prop} {Q : Exit → Act → World → Prop} (B : Nat) (s x : Operand) (t : TypeId)
  (ho : o.op = .call { callee := .builtin .append, args := #[s, x], argTypes := #[t, t] })
  (base : Nat) (e : TypeId) (i : TypeInfo) (z : Value) (size bytes : Nat) (ht : P.underlying t = some (.slice e)) (hi : P.info? e = some i) (hz : i.zero = some z)
  (hsize : i.size = size) (hby : i.bytes = bytes) (hzs : z.cells.size = size) (hsz : 0 < size)
  (v : Value) (n : Nat) (xs : List Value) (hs : a.eval s = v) (hown : w.ownsRow base e size v n xs)
  (vs : Value) (m : Nat) (news : List Value) (hx : a.eval x = vs) (hrow : Row w B vs m news) (hl : news.length = m * size) (h1 : ∀ u ∈ news, u.oneCell' = true)
  (h63 : n + m ≤ maxLen) (hbytes : (n + m) * bytes ≤ 140737488355328) (hbase : base ≤ w.heap.size)
  (h : ∀ v' w', w'.ownsRow base e size v' (n + m) (xs ++ news) → w.grownBy w' v.ownBlock → (v'.ownBlock = v.ownBlock ∨ v'.ownBlock = some w.heap.size) → K (a.put o.dst v') w') : o.wp P a w K Q := by
 obtain ⟨v', w', hr, h2, h3, h4⟩ := run_append_row (P := P) w B base t o.type e i z size bytes ht hi hz hsize hby hzs hsz v n xs hown vs m news hrow hl h1 h63 hbytes hbase
 unfold Oper.wp execOp
 simp only [ho, resolve, invoke, builtin, Sem.run_bind, Sem.run_pure, Result.andThen_ok, List.map_toArray, List.map_cons, List.map_nil, hs, hx, hr]
 exact h v' w' h2 h3 h4
theorem wpList_append_row {ops : Array Oper} {rest : List Oper} {o : Oper} {a : Act} {Q : Exit → Act → World → Prop} (hgd : o.guard = none) (B : Nat) (s x : Operand) (t : TypeId)
  (ho : o.op = .call { callee := .builtin .append, args := #[s, x], argTypes := #[t, t] })
  (base : Nat) (e : TypeId) (i : TypeInfo) (z : Value) (size bytes : Nat) (ht : P.underlying t = some (.slice e)) (hi : P.info? e = some i) (hz : i.zero = some z)
  (hsize : i.size = size) (hby : i.bytes = bytes) (hzs : z.cells.size = size) (hsz : 0 < size)
  (v : Value) (n : Nat) (xs : List Value) (hs : a.eval s = v) (hown : w.ownsRow base e size v n xs)
  (vs : Value) (m : Nat) (news : List Value) (hx : a.eval x = vs) (hrow : Row w B vs m news) (hl : news.length = m * size) (h1 : ∀ u ∈ news, u.oneCell' = true)
  (h63 : n + m ≤ maxLen) (hbytes : (n + m) * bytes ≤ 140737488355328) (hbase : base ≤ w.heap.size)
  (h : ∀ v' w', w'.ownsRow base e size v' (n + m) (xs ++ news) → w.grownBy w' v.ownBlock → (v'.ownBlock = v.ownBlock ∨ v'.ownBlock = some w.heap.size) → wpList P ops Q rest (a.put o.dst v') w') : wpList P ops Q (o :: rest) a w :=
 wpList_plain hgd fun _ hK => wp_append_row w B s x t ho base e i z size bytes ht hi hz hsize hby hzs hsz v n xs hs hown vs m news hx hrow hl h1 h63 hbytes hbase fun v' w' h2 h3 h4 => hK _ _ (h v' w' h2 h3 h4)
theorem step_append_row {ops : Array Oper} {o : Oper} {a : Act} {K : Act → World → Prop} {Q : Exit → Act → World → Prop} {E : Prop} (hgd : o.guard = none) (B : Nat) (s x : Operand) (t : TypeId)
  (ho : o.op = .call { callee := .builtin .append, args := #[s, x], argTypes := #[t, t] })
  (base : Nat) (e : TypeId) (i : TypeInfo) (z : Value) (size bytes : Nat) (ht : P.underlying t = some (.slice e)) (hi : P.info? e = some i) (hz : i.zero = some z)
  (hsize : i.size = size) (hby : i.bytes = bytes) (hzs : z.cells.size = size) (hsz : 0 < size)
  (v : Value) (n : Nat) (xs : List Value) (hs : a.eval s = v) (hown : w.ownsRow base e size v n xs)
  (vs : Value) (m : Nat) (news : List Value) (hx : a.eval x = vs) (hrow : Row w B vs m news) (hl : news.length = m * size) (h1 : ∀ u ∈ news, u.oneCell' = true)
  (h63 : n + m ≤ maxLen) (hbytes : (n + m) * bytes ≤ 140737488355328) (hbase : base ≤ w.heap.size)
  (h : ∀ v' w', w'.ownsRow base e size v' (n + m) (xs ++ news) → w.grownBy w' v.ownBlock → (v'.ownBlock = v.ownBlock ∨ v'.ownBlock = some w.heap.size) → K (a.put o.dst v') w') :
  if Region.wanted o (yielded ops a.tmps) = true then Oper.wp P o a w K Q else E := by
 have hw : Region.wanted o (yielded ops a.tmps) = true := by simp [Region.wanted, hgd]
 rw [if_pos hw]
 exact wp_append_row w B s x t ho base e i z size bytes ht hi hz hsize hby hzs hsz v n xs hs hown vs m news hx hrow hl h1 h63 hbytes hbase h
end
section
open Go.WideShapes Go.ChangeShapes
section
variable {H : Type} {enc : TypeId × Value → H} {P : Program} {w : World} {spare : Nat → Bool} {held : Bool}
/- A struct's fields, one by one. -/
/- What a law that answers true leaves, where all that was there reads as it did. -/
end
end
def Each {α : Type} (R : α → List Value → Prop) : List α → List Value → Prop
 | [], cs => cs = []
 | t :: r, cs => ∃ c1 c2, cs = c1 ++ c2 ∧ R t c1 ∧ Each R r c2
section
variable {α : Type} {R R' : α → List Value → Prop}
/- The cells of the i-th thing, where the row's cells lie in memory. -/
end
/- A slice of what is in a block of its own, known whole. -/
theorem Row.new {w : World} {b t n : Nat} {cs : List Value} (h : w.heap[b]? = some (.cells cs.toArray t (0, 0))) (hn : n ≤ 9223372036854775807) : Row w (b + 1) (.slice (some ⟨b, 0, none⟩) n n) n cs := by
 refine ⟨_, n, rfl, Nat.le_refl _, hn, (fun h => nomatch h), fun _ => ⟨b, 0, rfl, by omega, blk_lt h, fun i x hx => ?_⟩⟩
 have := news_cells h i x hx
 rwa [add_is] at this
/- Slices of slices: of integers. -/
/- A value that is a slice of slices of integers. -/
/- Facts that come back: made by a node, or behind one that doesn't end them. -/
/- What is closed has all of them. -/
/- Facts that go forward: there at first, made by a node, or ahead of one that doesn't end them. -/
/- A set of bits in words of 64. -/
def words (ws : List Nat) : Prop := ∀ x ∈ ws, x < 18446744073709551616
/- A fact is put in. -/
/- One set put into another one. -/
/- What is not yet in a set: what it lacks of all bits. -/
/- A part of a join: the first k words are joined. -/
section
variable {P : Program} {w : World}
theorem setCells_new (t : TypeId) : ∀ (vs : List Value) (o : Nat) (c : Array Value), (w.alloc (.cells c t)).setCells w.heap.size o vs = w.alloc (.cells (vs.zipIdx.foldl (fun c x => c.setIfInBounds (o + x.2) x.1) c) t)
 | [], o, c => rfl
 | v :: r, o, c => by
  show ((w.alloc (.cells c t)).setCell ⟨w.heap.size, o, none⟩ v).setCells w.heap.size (o + 1) r = _
  rw [World.setCell_alloc_new, setCells_new t r (o + 1) _]
  congr 2
  rw [List.zipIdx_cons, List.foldl_cons, Nat.add_zero, List.zipIdx_succ, List.foldl_map]
  have hf : (fun (c : Array Value) (x : Value × Nat) => c.setIfInBounds (o + (x.2 + 1)) x.1) = fun c x => c.setIfInBounds ((o + 1) + x.2) x.1 := by
   funext c x; congr 1; omega
  exact (congrFun (congrFun (congrArg (fun f => List.foldl f) hf) _) _).symm
theorem fold_get : ∀ (vs : List Value) (o : Nat) (c : Array Value) (j : Nat), o + vs.length ≤ c.size → (vs.zipIdx.foldl (fun c x => c.setIfInBounds (o + x.2) x.1) c)[j]? = if o ≤ j ∧ j < o + vs.length then vs[j - o]? else c[j]?
 | [], o, c, j, _ => by
  have : ¬ (o ≤ j ∧ j < o + 0) := by omega
  simp only [List.length_nil, if_neg this]; rfl
 | v :: r, o, c, j, h => by
  rw [List.zipIdx_cons, List.foldl_cons, Nat.add_zero, List.zipIdx_succ, List.foldl_map]
  have hf : (fun (c : Array Value) (x : Value × Nat) => c.setIfInBounds (o + (x.2 + 1)) x.1) = fun c x => c.setIfInBounds ((o + 1) + x.2) x.1 := by
   funext c x; congr 1; omega
  simp only [List.length_cons] at h ⊢
  show (r.zipIdx.foldl (fun (c : Array Value) (x : Value × Nat) => c.setIfInBounds (o + (x.2 + 1)) x.1) (c.setIfInBounds o v))[j]? = _
  rw [hf, fold_get r (o + 1) (c.setIfInBounds o v) j (by simp; omega)]
  by_cases h1 : o + 1 ≤ j ∧ j < o + 1 + r.length
  ·rw [if_pos h1, if_pos (by omega), show j - o = (j - (o + 1)) + 1 by omega, List.getElem?_cons_succ]
  ·rw [if_neg h1]
   by_cases h2 : j = o
   ·subst h2
    rw [if_pos (by omega), Nat.sub_self, Array.getElem?_setIfInBounds_self_of_lt (by omega)]; rfl
   ·rw [if_neg (by omega), Array.getElem?_setIfInBounds_ne (by omega)]
/- All cells of a new block are stored into: the block holds what was stored. -/
theorem wpList_load_whole {ops : Array Oper} {rest : List Oper} {op : Oper} {a : Act} {Q : Exit → Act → World → Prop} (hgd : op.guard = none) (ty : TypeId) (x : Operand) (ho : op.op = .load ty x)
  (b o : Nat) (hx : a.eval x = .pointer (some ⟨b, o, none⟩)) (cs : List Value) (d : TypeDesc) (hc : ∀ (j : Nat) v, cs[j]? = some v → w.cell? ⟨b, o + j, none⟩ = some v)
  (hu : P.underlying ty = some d) (hd : d.isRow = true) (hi : (P.info? ty).map (·.size) = some cs.length)
  (h : wpList P ops Q rest (a.put op.dst (.agg cs.toArray)) w) : wpList P ops Q (op :: rest) a w :=
 wpList_load_mid hgd ty x ho b o hx cs d hc hu hd hi h
end
section
variable {P : Program} {w : World}
theorem setCells_fold {b t : Nat} : ∀ (vs : List Value) (o : Nat) (c : Array Value) (w : World), w.heap[b]? = some (.cells c t (0, 0)) → (w.setCells b o vs).heap[b]? = some (.cells (vs.zipIdx.foldl (fun c x => c.setIfInBounds (o + x.2) x.1) c) t (0, 0)) ∧ Step (· = b) w (w.setCells b o vs)
 | [], o, c, w, h => ⟨h, Step.refl _ _⟩
 | v :: r, o, c, w, h => by
  have h1 := blk_set h o v
  obtain ⟨h2, h3⟩ := setCells_fold r (o + 1) (c.setIfInBounds o v) _ h1
  have hf : (fun (c : Array Value) (x : Value × Nat) => c.setIfInBounds (o + (x.2 + 1)) x.1) = fun c x => c.setIfInBounds ((o + 1) + x.2) x.1 := by
   funext c x; congr 1; omega
  refine ⟨?_, Step.trans ((Step.refl _ _).setCell _ _ (fun _ => rfl)) h3⟩
  show ((w.setCell ⟨b, o, none⟩ v).setCells b (o + 1) r).heap[b]? = _
  rw [h2, List.zipIdx_cons, List.foldl_cons, Nat.add_zero, List.zipIdx_succ, List.foldl_map]
  exact congrArg some (congrArg (fun a => Obj.cells a t (0, 0)) (congrFun (congrFun (congrArg (fun f => List.foldl f) hf) _) _).symm)
theorem fold_splice (vs : List Value) (o : Nat) (c : Array Value) (h : o + vs.length ≤ c.size) : vs.zipIdx.foldl (fun c x => c.setIfInBounds (o + x.2) x.1) c = (c.toList.take o ++ (vs ++ c.toList.drop (o + vs.length))).toArray := by
 apply Array.ext_getElem?
 intro j
 have e : ∀ (l : List Value) (j : Nat), l.toArray[j]? = l[j]? := fun l j => by simp
 rw [fold_get vs o c j h, e (c.toList.take o ++ (vs ++ c.toList.drop (o + vs.length))) j]
 have hl : (c.toList.take o).length = o := by simp; omega
 by_cases h1 : j < o
 ·rw [if_neg (by omega), List.getElem?_append_left (by omega), List.getElem?_take, if_pos h1]; simp
 ·rw [List.getElem?_append_right (by omega), hl]
  by_cases h2 : j < o + vs.length
  ·rw [if_pos (by omega), List.getElem?_append_left (by omega)]
  ·rw [if_neg (by omega), List.getElem?_append_right (by omega), List.getElem?_drop, show o + vs.length + (j - o - vs.length) = j by omega]; simp
theorem wpList_store_part {ops : Array Oper} {rest : List Oper} {op : Oper} {a : Act} {Q : Exit → Act → World → Prop} (hgd : op.guard = none) (ty : TypeId) (x y : Operand) (ho : op.op = .store ty x y)
  (b o t : Nat) (c : Array Value) (vs : List Value) (hx : a.eval x = .pointer (some ⟨b, o, none⟩)) (hy : a.eval y = .agg vs.toArray)
  (hb : w.heap[b]? = some (.cells c t (0, 0))) (hi : (P.info? ty).map (·.size) = some vs.length) (hc : o + vs.length ≤ c.size) (h1 : ∀ v ∈ vs, v.oneCell' = true)
  (h : ∀ w', w'.heap[b]? = some (.cells (c.toList.take o ++ (vs ++ c.toList.drop (o + vs.length))).toArray t (0, 0)) → Step (· = b) w w' → wpList P ops Q rest (a.put op.dst undef) w') : wpList P ops Q (op :: rest) a w := by
 refine wpList_store_mid hgd ty x y ho b o vs.toArray hx hy (fun j hj => ?_) (by simpa using hi) (all_oneCell_toArray h1) ?_
 ·have hj' : o + j < c.size := by have : j < vs.length := by simpa using hj
                                  omega
  rw [blk_cell hb (o + j) _ (Array.getElem?_eq_getElem hj'), blk_free hb]
  exact ⟨rfl, rfl⟩
 ·obtain ⟨h2, h3⟩ := setCells_fold vs o c w hb
  rw [fold_splice vs o c hc] at h2
  exact h _ (by simpa using h2) (by simpa using h3)
theorem results_cell1 {fn : Func} {x t : Nat} (h : fn.results = #[.cell x t]) (tmps : Array Value) (b o : Nat) (cs : List Value) (d : TypeDesc) (hx : tmps.getD x undef = .pointer (some ⟨b, o, none⟩))
  (hc : ∀ (j : Nat) v, cs[j]? = some v → w.cell? ⟨b, o + j, none⟩ = some v) (hu : P.underlying t = some d) (hd : d.isRow = true) (hi : (P.info? t).map (·.size) = some cs.length) :
  (results fn tmps).run P w = .ok (.agg cs.toArray) w := by
 have hl := run_loadVar_mid w b o t cs d hc hu hd hi
 rw [Array.getD_eq_getD_getElem?] at hx
 simp [results, h, hx, asAddr, hl]
/- As results_cell1, where the block is known whole. -/
theorem results_cellB {fn : Func} {x t : Nat} (h : fn.results = #[.cell x t]) (tmps : Array Value) (b tt : Nat) (cs : List Value) (d : TypeDesc) (hx : tmps.getD x undef = .pointer (some ⟨b, 0, none⟩))
  (hb : w.heap[b]? = some (.cells cs.toArray tt (0, 0))) (hu : P.underlying t = some d) (hd : d.isRow = true) (hi : (P.info? t).map (·.size) = some cs.length) :
  (results fn tmps).run P w = .ok (.agg cs.toArray) w :=
 results_cell1 h tmps b 0 cs d hx (fun j v hv => by rw [Nat.zero_add]; exact blk_cell hb j v (by simpa using hv)) hu hd hi
end
def dstO (ops : Array Oper) (i : Nat) : Option Tmp := (ops[i]?).bind (·.dst)
/- The frame when the operations of L have come up and have yielded V. -/
def frF (ops : Array Oper) (L : Nat → Bool) (V : Nat → Value) : List Nat → Act → Act
 | [], a => a
 | i :: r, a => frF ops L V r (if L i then a.put (dstO ops i) (V i) else a)
def putF (ops : Array Oper) (V : Nat → Value) : List Nat → Act → Act
 | [], a => a
 | i :: r, a => putF ops V r (a.put (dstO ops i) (V i))
def updL (L : Nat → Bool) (i : Nat) : Nat → Bool := fun j => if j = i then true else L j
def updV (V : Nat → Value) (i : Nat) (v : Value) : Nat → Value := fun j => if j = i then v else V j
def apartD (ops : Array Oper) (is : List Nat) : Bool := is.all fun i => is.all fun j => i == j || (dstO ops i).isNone || (dstO ops i != dstO ops j)
def backD (md : Region.Mode) (ops : Array Oper) : Bool := (List.range ops.size).all fun i => match ops[i]? with
 | some o => o.after.all fun e => !Region.binds md e || decide (e.on < i)
 | none => true
def roomD (ops : Array Oper) (is : List Nat) (n : Nat) : Bool := is.all fun i => match dstO ops i with
 | some d => decide (d < n)
 | none => true
def depsD (md : Region.Mode) (o : Oper) : List Nat := (o.after.toList.filter fun e => Region.binds md e).map (·.on)
def oldD (ops : Array Oper) (is : List Nat) (k : Nat) : Bool := is.all fun i => dstO ops i != some k
section
variable {ops : Array Oper} {L L' : Nat → Bool} {V V' : Nat → Value}
theorem apartD_out {is : List Nat} (h : apartD ops is = true) {i j : Nat} (hi : i ∈ is) (hj : j ∈ is) (hne : i ≠ j) : ∀ d, dstO ops i = some d → dstO ops j ≠ some d := by
 intro d h1 h2
 have h3 := List.all_eq_true.1 (List.all_eq_true.1 h i hi) j hj
 simp [h1, h2, hne] at h3
theorem frF_put {x : Option Tmp} {v : Value} : ∀ (is : List Nat) (a : Act), (∀ j ∈ is, ∀ d, dstO ops j = some d → x ≠ some d) → (frF ops L V is a).put x v = frF ops L V is (a.put x v)
 | [], _, _ => rfl
 | i :: r, a, h => by
  simp only [frF]
  rw [frF_put r _ (fun j hj => h j (List.mem_cons_of_mem _ hj))]
  congr 1
  split
  ·exact Act.put_comm _ _ _ (h i (List.mem_cons_self ..))
  ·rfl
theorem frF_congr : ∀ (is : List Nat) (a : Act), (∀ j ∈ is, L j = L' j ∧ V j = V' j) → frF ops L V is a = frF ops L' V' is a
 | [], _, _ => rfl
 | i :: r, a, h => by
  simp only [frF]
  rw [(h i (List.mem_cons_self ..)).1, (h i (List.mem_cons_self ..)).2]
  exact frF_congr r _ (fun j hj => h j (List.mem_cons_of_mem _ hj))
theorem frF_step {i : Nat} {v : Value} (hL : L i = false) : ∀ (is : List Nat) (a : Act), is.Nodup → i ∈ is → (∀ j ∈ is, i ≠ j → ∀ d, dstO ops j = some d → dstO ops i ≠ some d) → (frF ops L V is a).put (dstO ops i) v = frF ops (updL L i) (updV V i v) is a
 | [], _, _, hi, _ => nomatch hi
 | j :: r, a, hn, hi, hd => by
  obtain ⟨hj, hn⟩ := List.nodup_cons.1 hn
  by_cases e : j = i
  ·subst e
   have h0 : updL L j j = true := by simp [updL]
   have h1 : updV V j v j = v := by simp [updV]
   have h2 : L j = false := hL
   simp only [frF]
   rw [h0, h1, h2]
   simp only [Bool.false_eq_true, if_false, if_true]
   rw [frF_put r a (fun k hk => hd k (List.mem_cons_of_mem _ hk) (fun e => hj (e ▸ hk)))]
   exact frF_congr r _ (fun k hk => by
    have : k ≠ j := fun e => hj (e ▸ hk)
    simp [updL, updV, this])
  ·have h0 : updL L i j = L j := by simp [updL, e]
   have h1 : updV V i v j = V j := by simp [updV, e]
   simp only [frF]
   rw [h0, h1]
   exact frF_step hL r _ hn ((List.mem_cons.1 hi).resolve_left (fun h => e h.symm)) (fun k hk => hd k (List.mem_cons_of_mem _ hk))
theorem frF_old {k : Nat} : ∀ (is : List Nat) (a : Act), (∀ j ∈ is, dstO ops j ≠ some k) → (frF ops L V is a).eval (.tmp k) = a.eval (.tmp k)
 | [], _, _ => rfl
 | i :: r, a, h => by
  simp only [frF]
  rw [frF_old r _ (fun j hj => h j (List.mem_cons_of_mem _ hj))]
  split
  ·exact Act.eval_put (fun d hd e => by cases e; exact h i (List.mem_cons_self ..) hd)
  ·rfl
theorem evalTmp (a : Act) (k : Nat) : a.eval (.tmp k) = a.tmps[k]?.getD undef := by simp [Act.eval]
theorem put_size (a : Act) (x : Option Tmp) (v : Value) : (a.put x v).tmps.size = a.tmps.size := by cases x <;> simp [Act.put]
theorem frF_eval {i k : Nat} (hk : dstO ops i = some k) (hL : L i = true) : ∀ (is : List Nat) (a : Act), is.Nodup → i ∈ is → (∀ j ∈ is, i ≠ j → dstO ops j ≠ some k) → k < a.tmps.size → (frF ops L V is a).eval (.tmp k) = V i
 | [], _, _, hi, _, _ => nomatch hi
 | j :: r, a, hn, hi, hd, hs => by
  obtain ⟨hj, hn⟩ := List.nodup_cons.1 hn
  by_cases e : j = i
  ·subst e
   have h2 : L j = true := hL
   simp only [frF]
   rw [h2]
   simp only [if_true]
   rw [frF_old r _ (fun m hm => hd m (List.mem_cons_of_mem _ hm) (fun e => hj (e ▸ hm))), hk]
   simp [Act.eval, Act.put, hs]
  ·simp only [frF]
   refine frF_eval hk hL r _ hn ((List.mem_cons.1 hi).resolve_left (fun h => e h.symm)) (fun m hm => hd m (List.mem_cons_of_mem _ hm)) ?_
   split
   ·rw [put_size]; exact hs
   ·exact hs
theorem frF_all : ∀ (is : List Nat) (a : Act), (∀ i ∈ is, L i = true) → frF ops L V is a = putF ops V is a
 | [], _, _ => rfl
 | i :: r, a, h => by
  simp only [frF, putF]
  rw [h i (List.mem_cons_self ..)]
  exact frF_all r _ (fun j hj => h j (List.mem_cons_of_mem _ hj))
theorem frF_none : ∀ (is : List Nat) (a : Act), (∀ i, L i = false) → frF ops L V is a = a
 | [], _, _ => rfl
 | i :: r, a, h => by
  simp only [frF]
  rw [h i]
  exact frF_none r _ h
end
def leftF (listed : Array Bool) : Nat := listed.toList.countP (fun b => !b)
theorem leftF_set (listed : Array Bool) (i : Nat) (h : listed.getD i true = false) : leftF (listed.setIfInBounds i true) + 1 = leftF listed := by
 have key : ∀ (l : List Bool) (i : Nat), l[i]? = some false → (l.set i true).countP (fun b => !b) + 1 = l.countP (fun b => !b) := by
  intro l
  induction l with
  | nil => intro i h; simp at h
  | cons b r ih =>
   intro i h
   cases i with
   | zero => simp at h; subst h; simp
   | succ i =>
    have := ih i (by simpa using h)
    simp only [List.set_cons_succ, List.countP_cons]
    omega
 have hi : listed[i]? = some false := by
  rw [Array.getD_eq_getD_getElem?] at h
  cases e : listed[i]? with
  | none => rw [e] at h; simp at h
  | some b => rw [e] at h; simp at h; rw [h]
 unfold leftF
 rw [Array.toList_setIfInBounds]
 exact key _ _ (by simpa using hi)
theorem leftF_zero {listed : Array Bool} (h : leftF listed = 0) (i : Nat) : listed.getD i true = true := by
 rw [Array.getD_eq_getD_getElem?]
 cases e : listed[i]? with
 | none => rfl
 | some b =>
  unfold leftF at h
  have hm : b ∈ listed.toList := by simpa using Array.mem_of_getElem? e
  have := List.countP_eq_zero.1 h b hm
  simpa using this
section
variable {P : Program} {md : Region.Mode} {ops : Array Oper} {Q : Exit → Act → World → Prop} {a0 : Act} {n : Nat} {J : (Nat → Bool) → (Nat → Value) → World → Prop}
/- The obligations: of each operation that no guard holds. -/
/- A region that draws its order. -/
end
/- A struct goes into a part of a block that is known: at one operation. -/
theorem wp_store_part {P : Program} {op : Oper} {a : Act} {w : World} {K : Act → World → Prop} {Q : Exit → Act → World → Prop} (ty : TypeId) (x y : Operand) (ho : op.op = .store ty x y)
  (b o t : Nat) (c : Array Value) (vs : List Value) (hx : a.eval x = .pointer (some ⟨b, o, none⟩)) (hy : a.eval y = .agg vs.toArray)
  (hb : w.heap[b]? = some (.cells c t (0, 0))) (hi : (P.info? ty).map (·.size) = some vs.length) (hc : o + vs.length ≤ c.size) (h1 : ∀ v ∈ vs, v.oneCell' = true)
  (h : ∀ w', w'.heap[b]? = some (.cells (c.toList.take o ++ (vs ++ c.toList.drop (o + vs.length))).toArray t (0, 0)) → Step (· = b) w w' → K (a.put op.dst undef) w') : op.wp P a w K Q := by
 refine wp_store_mid ty x y ho b o vs.toArray hx hy (fun j hj => ?_) (by simpa using hi) (all_oneCell_toArray h1) ?_
 ·have hj' : o + j < c.size := by
    have : j < vs.length := by simpa using hj
    omega
  rw [blk_cell hb (o + j) _ (Array.getElem?_eq_getElem hj'), blk_free hb]
  exact ⟨rfl, rfl⟩
 ·obtain ⟨h2, h3⟩ := setCells_fold vs o c w hb
  rw [fold_splice vs o c hc] at h2
  exact h _ (by simpa using h2) (by simpa using h3)
section
variable {P : Program}
theorem run_slice_one (w : World) (t e : TypeId) (i : TypeInfo) (z : Value) (vs : List Value) (ht : P.underlying t = some (.slice e)) (hi : P.info? e = some i) (hz : i.zero = some z) (hsize : i.size = vs.length) (hzs : z.cells.size = vs.length) (h0 : 0 < vs.length) (hm : vs.length ≤ 16777216) :
  (Instr.buildSlice t 1 #[(0, .agg vs.toArray)]).run P w = .ok (.slice (some ⟨w.heap.size, 0, none⟩) 1 1) (w.alloc (.cells vs.toArray e)) := by
 have hf : vs.zipIdx.foldl (fun (c : Array Value) (x : Value × Nat) => c.setIfInBounds (0 + x.2) x.1) ((Array.range vs.length).map (z.cells[· % z.cells.size]!)) = vs.toArray := by
  rw [fold_splice vs 0 _ (by simp)]
  simp
 simp only [Nat.zero_add] at hf
 have hc : (Value.agg vs.toArray).cells = vs.toArray := rfl
 have n1 : ¬ 16777216 < vs.length := by omega
 have n2 : ¬ vs.length = 0 := by omega
 simp [Instr.buildSlice, run_underlying ht, sizeOf, typeInfo, hi, zeroValue, hz, newRow, Instr.fill, hsize, n1, n2, hc, hf]
theorem wpList_slice_one {ops : Array Oper} {rest : List Oper} {op : Oper} {a : Act} {w : World} {Q : Exit → Act → World → Prop} (hgd : op.guard = none) (t : TypeId) (y : Operand) (ho : op.op = .buildSlice t 1 #[(0, y)])
  (e : TypeId) (i : TypeInfo) (z : Value) (vs : List Value) (hy : a.eval y = .agg vs.toArray) (ht : P.underlying t = some (.slice e)) (hi : P.info? e = some i) (hz : i.zero = some z) (hsize : i.size = vs.length) (hzs : z.cells.size = vs.length) (h0 : 0 < vs.length) (hm : vs.length ≤ 16777216)
  (h : wpList P ops Q rest (a.put op.dst (.slice (some ⟨w.heap.size, 0, none⟩) 1 1)) (w.alloc (.cells vs.toArray e))) : wpList P ops Q (op :: rest) a w := by
 refine wpList_plain hgd fun _ hK => ?_
 unfold Oper.wp execOp
 simp only [ho, List.map_toArray, List.map_cons, List.map_nil, hy, Sem.run_bind, Sem.run_pure, run_slice_one w t e i z vs ht hi hz hsize hzs h0 hm, Result.andThen_ok]
 exact hK _ _ h
end
section
variable {P : Program}
end
/- The plain tests, on a byte as an integer. -/
def isSmall (a : Int) : Bool := decide (97 ≤ a) && decide (a ≤ 122)
def isDigit (a : Int) : Bool := decide (48 ≤ a) && decide (a ≤ 57)
def isLetter (a : Int) : Bool := isSmall a || (decide (65 ≤ a) && decide (a ≤ 90)) || decide (a = 95)
def isWordy (a : Int) : Bool := isLetter a || isDigit a
theorem small_any (a : Int) (w : World) (h0 : 0 ≤ a) (h1 : a ≤ 255) :
  Calls Try.prog 66 #[.int .u8 a] w fun e w' => e = .returned (.bool (isSmall a)) ∧ w = w' := by
 go_enter Try.func66, Try.ntmps66
 go_wp2
 all_goals (go_ret; exact ⟨by simp [isSmall]; omega, rfl⟩)
theorem digit_any (a : Int) (w : World) (h0 : 0 ≤ a) (h1 : a ≤ 255) :
  Calls Try.prog 51 #[.int .u8 a] w fun e w' => e = .returned (.bool (isDigit a)) ∧ w = w' := by
 go_enter Try.func51, Try.ntmps51
 go_wp2
 all_goals (go_ret; exact ⟨by simp [isDigit]; omega, rfl⟩)
theorem letter_any (a : Int) (w : World) (h0 : 0 ≤ a) (h1 : a ≤ 255) :
  Calls Try.prog 48 #[.int .u8 a] w fun e w' => e = .returned (.bool (isLetter a)) ∧ w = w' := by
 go_enter Try.func48, Try.ntmps48
 cases hs : isSmall a
 all_goals
  have hq := small_any a
  rw [hs] at hq
  go_wp2_with (go_at_call 66; refine (hq _ h0 h1).mono ?_; rintro e w' ⟨rfl, rfl⟩)
  all_goals (go_ret; exact ⟨ret_bool (by rw [Bool.eq_iff_iff]; simp [isLetter, hs]; try omega), rfl⟩)
theorem name1_any (a : Int) (w : World) (h0 : 0 ≤ a) (h1 : a ≤ 255) :
  Calls Try.prog 68 #[.int .u8 a] w fun e w' => e = .returned (.bool (isWordy a)) ∧ w = w' := by
 go_enter Try.func68, Try.ntmps68
 cases hs : isLetter a
 all_goals
  have hq := letter_any a
  rw [hs] at hq
  go_wp2_with (first | (go_at_call 48; refine (hq _ h0 h1).mono ?_; rintro e w' ⟨rfl, rfl⟩) | (go_at_call 51; refine (digit_any _ _ h0 h1).mono ?_; rintro e w' ⟨rfl, rfl⟩))
  all_goals (go_ret; exact ⟨by simp [isWordy, hs], rfl⟩)
theorem life1_any (a : Int) (w : World) (h0 : 0 ≤ a) (h1 : a ≤ 255) :
  Calls Try.prog 69 #[.int .u8 a] w fun e w' => e = .returned (.bool (isWordy a)) ∧ w = w' := by
 go_enter Try.func69, Try.ntmps69
 cases hs : isLetter a
 all_goals
  have hq := letter_any a
  rw [hs] at hq
  go_wp2_with (first | (go_at_call 48; refine (hq _ h0 h1).mono ?_; rintro e w' ⟨rfl, rfl⟩) | (go_at_call 51; refine (digit_any _ _ h0 h1).mono ?_; rintro e w' ⟨rfl, rfl⟩))
  all_goals (go_ret; exact ⟨by simp [isWordy, hs], rfl⟩)
theorem number1_any (a : Int) (w : World) (h0 : 0 ≤ a) (h1 : a ≤ 255) :
  Calls Try.prog 70 #[.int .u8 a] w fun e w' => e = .returned (.bool (isWordy a)) ∧ w = w' := by
 go_enter Try.func70, Try.ntmps70
 cases hs : isLetter a
 all_goals
  have hq := letter_any a
  rw [hs] at hq
  go_wp2_with (first | (go_at_call 48; refine (hq _ h0 h1).mono ?_; rintro e w' ⟨rfl, rfl⟩) | (go_at_call 51; refine (digit_any _ _ h0 h1).mono ?_; rintro e w' ⟨rfl, rfl⟩))
  all_goals (go_ret; exact ⟨by simp [isWordy, hs], rfl⟩)
/- The cutter in its block. -/
structure Cut (w : World) (b : Nat) (s : ByteArray) (at' line from' : Nat) : Prop where
 out : w.heap[b]? = some (.cells #[.string s, .int .i64 at', .int .i64 line, .int .i64 from'] 85 (0, 0))
theorem Cut.cells {w : World} {b : Nat} {s : ByteArray} {p l f : Nat} (h : Cut w b s p l f) :
  w.cell? ⟨b, 0, none⟩ = some (.string s) ∧ w.cell? ⟨b, 1, none⟩ = some (.int .i64 p) ∧ w.cell? ⟨b, 2, none⟩ = some (.int .i64 l) ∧ w.cell? ⟨b, 3, none⟩ = some (.int .i64 f) ∧
  w.frozen? ⟨b, 0, none⟩ = false ∧ w.frozen? ⟨b, 1, none⟩ = false ∧ w.frozen? ⟨b, 2, none⟩ = false ∧ w.frozen? ⟨b, 3, none⟩ = false :=
 ⟨blk_cell h.out 0 _ rfl, blk_cell h.out 1 _ rfl, blk_cell h.out 2 _ rfl, blk_cell h.out 3 _ rfl, blk_free h.out 0, blk_free h.out 1, blk_free h.out 2, blk_free h.out 3⟩
theorem Cut.drewN {w : World} {b : Nat} {s : ByteArray} {p l f : Nat} (h : Cut w b s p l f) (n : Nat) : Cut (w.drewN n) b s p l f := ⟨h.out⟩
theorem Cut.alloc {w : World} {b : Nat} {s : ByteArray} {p l f : Nat} (h : Cut w b s p l f) (o : Obj) : Cut (w.alloc o) b s p l f := ⟨blk_alloc h.out⟩
theorem Cut.set1 {w : World} {b : Nat} {s : ByteArray} {p l f q : Nat} {z : Int} (e : z = q) (h : Cut w b s p l f) : Cut (w.setCell ⟨b, 1, none⟩ (.int .i64 z)) b s q l f := by subst e; exact ⟨blk_set h.out 1 _⟩
theorem Cut.set2 {w : World} {b : Nat} {s : ByteArray} {p l f q : Nat} {z : Int} (e : z = q) (h : Cut w b s p l f) : Cut (w.setCell ⟨b, 2, none⟩ (.int .i64 z)) b s p q f := by subst e; exact ⟨blk_set h.out 2 _⟩
theorem Cut.set3 {w : World} {b : Nat} {s : ByteArray} {p l f q : Nat} {z : Int} (e : z = q) (h : Cut w b s p l f) : Cut (w.setCell ⟨b, 3, none⟩ (.int .i64 z)) b s p l q := by subst e; exact ⟨blk_set h.out 3 _⟩
theorem Cut.step {w w' : World} {b : Nat} {s : ByteArray} {p l f : Nat} {S : Nat → Prop} (h : Cut w b s p l f) (hs : Step S w w') (hb : ¬ S b) : Cut w' b s p l f := ⟨hs.keep h.out hb⟩
theorem pos_any (b : Nat) (s : ByteArray) (p l f : Nat) (w : World) (h : Cut w b s p l f) (hf : f ≤ p) (hp : p ≤ 100000) :
  Calls Try.prog 31 #[.pointer (some ⟨b, 0, none⟩)] w fun e w' => e = .returned (.agg #[.int .i64 l, .int .i64 ((p : Int) - f + 1)]) ∧ Step (fun _ => False) w w' := by
 obtain ⟨c0, c1, c2, c3, f0, f1, f2, f3⟩ := h.cells
 have hlt : b < w.heap.size := blk_lt h.out
 go_enter Try.func31, Try.ntmps31
 go_wp2
 go_region
 go_wp2
 exact bodyPost_ret (v := .agg #[.int .i64 l, .int .i64 ((p : Int) - f + 1)]) (by simp [results, Try.results31, go_sem]) rfl ⟨rfl, ((Step.refl _ _).alloc _).drew⟩
theorem drop_cons (s : ByteArray) (p : Nat) (h : p < s.size) : s.data.toList.drop p = s[p] :: s.data.toList.drop (p + 1) := by
 rw [List.drop_eq_getElem_cons (by simpa using h)]; rfl
theorem byte_eq {c : UInt8} (k : UInt8) (h : ((c.toNat : Int) == (k.toNat : Int)) = true) : c = k := by
 have : c.toNat = k.toNat := Int.ofNat_inj.1 (beq_iff_eq.1 h)
 exact UInt8.toNat_inj.1 this
theorem byte_is {c : UInt8} (k : UInt8) (h : (c.toNat : Int) = (k.toNat : Int)) : c = k := UInt8.toNat_inj.1 (Int.ofNat_inj.1 h)
theorem byte_ne {c : UInt8} (k : UInt8) (h : ((c.toNat : Int) == (k.toNat : Int)) = false) : c ≠ k := by
 intro e; subst e; simp at h
/- What stands between tokens, passed over: whether in a remark; the text from here on; the place, the line, where the line begins. -/
def blankF : Bool → List UInt8 → Nat → Nat → Nat → Nat × Nat × Nat
 | _, [], p, l, f => (p, l, f)
 | true, c :: r, p, l, f => if c = 10 then blankF false r (p + 1) (l + 1) (p + 1) else blankF true r (p + 1) l f
 | false, c :: r, p, l, f =>
  if c = 10 then blankF false r (p + 1) (l + 1) (p + 1)
  else if c = 32 ∨ c = 9 ∨ c = 13 then blankF false r (p + 1) l f
  else if c = 47 ∧ r.head? = some 47 then blankF true r (p + 1) l f
  else (p, l, f)
theorem blankF_skip {c : UInt8} {r : List UInt8} {p l f : Nat} (h : c = 32 ∨ c = 9 ∨ c = 13) : blankF false (c :: r) p l f = blankF false r (p + 1) l f := by
 rcases h with rfl | rfl | rfl <;> simp [blankF]
theorem blankF_stop {c : UInt8} {r : List UInt8} {p l f : Nat} (h1 : c ≠ 10) (h2 : ¬ (c = 32 ∨ c = 9 ∨ c = 13)) (h3 : ¬ (c = 47 ∧ r.head? = some 47)) : blankF false (c :: r) p l f = (p, l, f) := by
 rw [blankF, if_neg h1, if_neg h2, if_neg h3]
theorem blankF_into {c : UInt8} {r : List UInt8} {p l f : Nat} (h : c = 47 ∧ r.head? = some 47) : blankF false (c :: r) p l f = blankF true (c :: r) p l f := by
 obtain ⟨rfl, h⟩ := h
 simp [blankF, h]
theorem blankF_out {c : UInt8} {r : List UInt8} {p l f : Nat} (h : c = 10) : blankF true (c :: r) p l f = blankF false (c :: r) p l f := by
 subst h; simp [blankF]
theorem hasPrefix_two (c : UInt8) (r : List UInt8) : Lib.hasPrefix (c :: r) [47, 47] = decide (c = 47 ∧ r.head? = some 47) := by
 cases r with
 | nil => simp [Lib.hasPrefix, List.isPrefixOf]
 | cons d r =>
  show ((47 : UInt8) == c && ((47 : UInt8) == d && true)) = decide (c = 47 ∧ some d = some 47)
  rw [Bool.eq_iff_iff]
  simp
  exact ⟨fun h => ⟨h.1.symm, h.2.symm⟩, fun h => ⟨h.1.symm, h.2.symm⟩⟩
theorem extract_end (s : ByteArray) (p : Nat) : (s.extract p s.size).data.toList = s.data.toList.drop p := by
 rw [Lib.extract_data]; simp [List.take_of_length_le]
theorem remark_any (t : ByteArray) (v : Bool) (h : Lib.hasPrefix t.data.toList [47, 47] = v) (w : World) :
  Calls Try.prog 47 #[.string t, .string ⟨#[47, 47]⟩] w fun e w' => e = .returned (.bool v) ∧ w = w' :=
 (Try.strings_HasPrefix _ _ _).mono fun _ _ hq => ⟨by rw [hq.1]; exact ret_bool h, hq.2.symm⟩
theorem blank_any (b : Nat) (s : ByteArray) (p l f : Nat) (w : World) (h : Cut w b s p l f) (hf : f ≤ p) (hp : p ≤ s.size) (hs : s.size ≤ 100000) (hl : l ≤ p + 1) :
  Calls Try.prog 30 #[.pointer (some ⟨b, 0, none⟩)] w fun e w' => e = .returned (.tuple #[]) ∧
   ∃ p' l' f', (p', l', f') = blankF false (s.data.toList.drop p) p l f ∧ Cut w' b s p' l' f' ∧ Step (· = b) w w' := by
 go_enter Try.func30, Try.ntmps30
 go_wp2
 go_loopg [] s.size (fun g wr => ∃ p' l' f' : Nat, s.size - p' ≤ g ∧ p' ≤ s.size ∧ f' ≤ p' ∧ l' ≤ p' + 1 ∧ blankF false (s.data.toList.drop p') p' l' f' = blankF false (s.data.toList.drop p) p l f ∧ Cut wr b s p' l' f' ∧ Step (· = b) w wr)
 case atStart => exact ⟨p, l, f, by omega, hp, hf, hl, rfl, h, Step.refl _ _⟩
 case round =>
  obtain ⟨p', l', f', hg, hp', hf', hl', heq, hc, hst⟩ := hrel
  have HE := Lib.hid heq
  clear heq
  obtain ⟨c0, c1, c2, c3, f0, f1, f2, f3⟩ := hc.cells
  have hlt : b < wr.heap.size := blk_lt hc.out
  by_cases hlt' : p' < s.size
  ·have hdr := Lib.hid (drop_cons s p' hlt')
   go_wp2
   go_quiet (fail)
   go_wp2
   go_quiet (fail)
   go_wp2
   ·go_roundg (gk - 1)
    case rel =>
     refine ⟨p' + 1, l' + 1, p' + 1, by omega, by omega, by omega, by omega, ?_, ?_, ?_⟩
     ·rw [← HE.out, hdr.out, blankF, if_pos (byte_eq 10 (by assumption))]
     ·exact (((hc.drewN _).set1 (q := p' + 1) (by omega)).set2 (q := l' + 1) (by omega)).set3 (q := p' + 1) (by omega)
     ·(repeat (with_reducible (first | exact hst | exact Step.refl _ _ | refine Step.drew ?_ | refine Step.drewN ?_ _ | refine Step.alloc ?_ _ | refine Step.setCell ?_ _ _ (fun _ => rfl))))
    case measure => omega
   ·rename_i h1 h2
    have h3 := byte_is 32 h2
    go_roundg (gk - 1)
    case rel =>
     refine ⟨p' + 1, l', f', by omega, by omega, by omega, by omega, ?_, ?_, ?_⟩
     ·rw [← HE.out, hdr.out, blankF_skip (.inl h3)]
     ·exact (hc.drewN _).set1 (q := p' + 1) (by omega)
     ·(repeat (with_reducible (first | exact hst | exact Step.refl _ _ | refine Step.drew ?_ | refine Step.drewN ?_ _ | refine Step.alloc ?_ _ | refine Step.setCell ?_ _ _ (fun _ => rfl))))
    case measure => omega
   ·rename_i h1 h1b h2
    have h3 := byte_is 9 h2
    go_roundg (gk - 1)
    case rel =>
     refine ⟨p' + 1, l', f', by omega, by omega, by omega, by omega, ?_, ?_, ?_⟩
     ·rw [← HE.out, hdr.out, blankF_skip (.inr (.inl h3))]
     ·exact (hc.drewN _).set1 (q := p' + 1) (by omega)
     ·(repeat (with_reducible (first | exact hst | exact Step.refl _ _ | refine Step.drew ?_ | refine Step.drewN ?_ _ | refine Step.alloc ?_ _ | refine Step.setCell ?_ _ _ (fun _ => rfl))))
    case measure => omega
   ·rename_i h1 h1b h1c h2
    have h3 := byte_eq 13 (h2.resolve_left (by simp [h1b, h1c]))
    go_roundg (gk - 1)
    case rel =>
     refine ⟨p' + 1, l', f', by omega, by omega, by omega, by omega, ?_, ?_, ?_⟩
     ·rw [← HE.out, hdr.out, blankF_skip (.inr (.inr h3))]
     ·exact (hc.drewN _).set1 (q := p' + 1) (by omega)
     ·(repeat (with_reducible (first | exact hst | exact Step.refl _ _ | refine Step.drew ?_ | refine Step.drewN ?_ _ | refine Step.alloc ?_ _ | refine Step.setCell ?_ _ _ (fun _ => rfl))))
    case measure => omega
   ·have hn10 := byte_ne (c := s[p']) 10 (by assumption)
    have h2 : ((((s[p'].toNat : Int) == 32) = false ∧ ((s[p'].toNat : Int) == 9) = false) ∧ ((s[p'].toNat : Int) == 13) = false) := by assumption
    have hns : ¬ (s[p'] = 32 ∨ s[p'] = 9 ∨ s[p'] = 13) := fun e => e.elim (byte_ne 32 h2.1.1) fun e => e.elim (byte_ne 9 h2.1.2) (byte_ne 13 h2.2)
    by_cases hsl : s[p'] = 47 ∧ (s.data.toList.drop (p' + 1)).head? = some 47
    ·have hpre := Lib.hid (show Lib.hasPrefix (s.extract p' s.size).data.toList [47, 47] = true by rw [extract_end, hdr.out, hasPrefix_two]; exact decide_eq_true hsl)
     have HI : Hid (blankF true (s.data.toList.drop p') p' l' f' = blankF false (s.data.toList.drop p) p l f) := by
      rw [← HE.out, hdr.out, blankF_into hsl]; exact rfl
     clear hsl HE
     go_wp2
     go_quiet ((go_at_call 47; exact (remark_any _ true hpre.out _).mono fun _ _ h => ⟨h.1, _, h.2.symm⟩))
     go_wp2
     obtain ⟨wo, rfl⟩ : ∃ wo : World, wo = wr := ⟨_, rfl⟩
     obtain ⟨g0, rfl⟩ : ∃ g : Nat, g = gk := ⟨_, rfl⟩
     go_loopg [] s.size (fun g wi => ∃ p2 : Nat, s.size - p2 ≤ g ∧ p2 ≤ s.size ∧ p' ≤ p2 ∧ blankF true (s.data.toList.drop p2) p2 l' f' = blankF false (s.data.toList.drop p) p l f ∧ Cut wi b s p2 l' f' ∧ Step (· = b) w wi)
     case atStart => exact ⟨p', by omega, by omega, Nat.le_refl _, HI.out, (hc.drewN _).drewN _, (hst.drewN _).drewN _⟩
     case round =>
      clear c0 c1 c2 c3 f0 f1 f2 f3 hlt hc hst
      obtain ⟨p2, hg2, hp2, hpp, heq2, hc, hst⟩ := hrel
      have HE2 := Lib.hid heq2
      clear heq2
      obtain ⟨c0, c1, c2, c3, f0, f1, f2, f3⟩ := hc.cells
      have hlt : b < wr.heap.size := blk_lt hc.out
      by_cases hlt2 : p2 < s.size
      ·have hdr2 := Lib.hid (drop_cons s p2 hlt2)
       by_cases h10 : s[p2] = 10
       ·have hb10 : ((s[p2].toNat : Int) == 10) = true := by rw [h10]; rfl
        have hpp2 : p' < p2 := by
         rcases Nat.lt_or_ge p' p2 with h | h
         ·exact h
         ·have : p' = p2 := by omega
          subst this
          exact absurd h10 hn10
        have H10 := Lib.hid h10
        clear h10
        go_wp2
        go_quiet (fail)
        go_wp2
        go_roundg (g0 - 1)
        case rel =>
         refine ⟨p2, l', f', by omega, by omega, by omega, by omega, ?_, hc.drewN _, hst.drewN _⟩
         rw [← HE2.out, hdr2.out, blankF_out H10.out]
        case measure => omega
       ·have hb10 : ((s[p2].toNat : Int) == 10) = false := by rw [beq_eq_false_iff_ne]; exact fun e => h10 (byte_is 10 e)
        have H10 := Lib.hid h10
        clear h10
        go_wp2
        go_quiet (fail)
        go_wp2
        go_roundg (gk - 1)
        case rel =>
         refine ⟨p2 + 1, by omega, by omega, by omega, ?_, (hc.drewN _).set1 (q := p2 + 1) (by omega), ?_⟩
         ·rw [← HE2.out, hdr2.out, blankF, if_neg H10.out]
         ·(repeat (with_reducible (first | exact hst | exact Step.refl _ _ | refine Step.drew ?_ | refine Step.drewN ?_ _ | refine Step.alloc ?_ _ | refine Step.setCell ?_ _ _ (fun _ => rfl))))
        case measure => omega
      ·go_wp2
       go_quiet (fail)
       go_wp2
       go_roundg (g0 - 1)
       case rel =>
        refine ⟨p2, l', f', by omega, by omega, by omega, by omega, ?_, hc.drewN _, hst.drewN _⟩
        rw [← HE2.out, List.drop_of_length_le (by simp; omega)]; rfl
       case measure => omega
    ·have hpre := Lib.hid (show Lib.hasPrefix (s.extract p' s.size).data.toList [47, 47] = false by rw [extract_end, hdr.out, hasPrefix_two]; exact decide_eq_false hsl)
     have HS := Lib.hid hsl
     clear hsl
     go_wp2
     go_quiet ((go_at_call 47; exact (remark_any _ false hpre.out _).mono fun _ _ h => ⟨h.1, _, h.2.symm⟩))
     go_wp2
     refine bodyPost_ret (results_none rfl _ _ _) rfl ?_
     refine ⟨rfl, p', l', f', ?_, (hc.drewN _).drewN _, (hst.drewN _).drewN _⟩
     rw [← HE.out, hdr.out, blankF_stop hn10 hns HS.out]
  ·go_wp2
   go_quiet (fail)
   go_wp2
   go_end0
   refine ⟨rfl, p', l', f', ?_, hc.drewN _, hst.drewN _⟩
   rw [← HE.out, List.drop_of_length_le (by simp; omega)]; rfl
/- A byte that may stand in a name. -/
def wordy (c : UInt8) : Bool := isWordy c.toNat
/- How many such bytes a text begins with. -/
def runF (l : List UInt8) : Nat := (l.takeWhile wordy).length
theorem runF_nil : runF [] = 0 := rfl
theorem runF_yes {c : UInt8} {r : List UInt8} (h : wordy c = true) : runF (c :: r) = runF r + 1 := by simp [runF, h]
theorem runF_no {c : UInt8} {r : List UInt8} (h : wordy c = false) : runF (c :: r) = 0 := by simp [runF, h]
theorem runF_le (l : List UInt8) : runF l ≤ l.length := by
 induction l with
 | nil => simp [runF]
 | cons c r ih =>
  cases h : wordy c
  ·rw [runF_no h]; omega
  ·rw [runF_yes h]; simp; omega
/- What a test of bytes answers, handed over as a function. -/
structure Tests (k : Nat) : Prop where
 enter : ∀ (xs : Array Value) (w : World), Sem.run Try.prog (callFunc k xs) w = .ok (.enter k xs) w
 test : ∀ (a : Int) (w : World), 0 ≤ a → a ≤ 255 → Calls Try.prog k #[.int .u8 a] w fun e w' => e = .returned (.bool (isWordy a)) ∧ w = w'
theorem tests_name : Tests 68 := ⟨fun xs w => by go_simp, fun a w => name1_any a w⟩
theorem tests_life : Tests 69 := ⟨fun xs w => by go_simp, fun a w => life1_any a w⟩
theorem tests_number : Tests 70 := ⟨fun xs w => by go_simp, fun a w => number1_any a w⟩
theorem run_any (k b : Nat) (s : ByteArray) (p l f : Nat) (w : World) (hk : Tests k) (h : Cut w b s p l f) (hp : p ≤ s.size) (hs : s.size ≤ 100000) :
  Calls Try.prog 67 #[.pointer (some ⟨b, 0, none⟩), .func (.func k) #[] #[]] w fun e w' =>
   e = .returned (.string (s.extract p (p + runF (s.data.toList.drop p)))) ∧ Cut w' b s (p + runF (s.data.toList.drop p)) l f ∧ Step (· = b) w w' := by
 obtain ⟨c0, c1, c2, c3, f0, f1, f2, f3⟩ := h.cells
 have hlt : b < w.heap.size := blk_lt h.out
 have hen := hk.enter
 have HK := Lib.hid hk.test
 clear hk
 go_enter Try.func67, Try.ntmps67
 go_wp2
 clear c0 c1 c2 c3 f0 f1 f2 f3 hlt
 go_loopg [] s.size (fun g wr => ∃ p' : Nat, s.size - p' ≤ g ∧ p' ≤ s.size ∧ p ≤ p' ∧ p' + runF (s.data.toList.drop p') = p + runF (s.data.toList.drop p) ∧ Cut wr b s p' l f ∧ Step (· = b) w wr)
 case atStart => exact ⟨p, by omega, hp, Nat.le_refl _, rfl, h, Step.refl _ _⟩
 case round =>
  obtain ⟨p', hg, hp', hpp, heq, hc, hst⟩ := hrel
  have HE := Lib.hid heq
  clear heq
  obtain ⟨c0, c1, c2, c3, f0, f1, f2, f3⟩ := hc.cells
  have hlt : b < wr.heap.size := blk_lt hc.out
  by_cases hlt' : p' < s.size
  ·have hdr := Lib.hid (drop_cons s p' hlt')
   have hb255 : ((s[p'].toNat : Int)) ≤ 255 := by have := s[p'].toNat_lt; omega
   cases hw : isWordy (s[p'].toNat : Int)
   ·have hq := HK.out (s[p'].toNat : Int)
    rw [hw] at hq
    have HQ := Lib.hid hq
    have HW := Lib.hid hw
    clear hq hw
    go_wp2
    go_quiet ((exact (HQ.out _ (by omega) hb255).mono fun _ _ h => ⟨h.1, _, h.2.symm⟩))
    go_wp2
    go_quiet (fail)
    go_wp2
    go_ret
    rw [← HE.out, hdr.out, runF_no HW.out]
    exact ⟨rfl, (hc.drewN _).drewN _, (hst.drewN _).drewN _⟩
   ·have hq := HK.out (s[p'].toNat : Int)
    rw [hw] at hq
    have HQ := Lib.hid hq
    have HW := Lib.hid hw
    clear hq hw
    go_wp2
    go_quiet ((exact (HQ.out _ (by omega) hb255).mono fun _ _ h => ⟨h.1, _, h.2.symm⟩))
    go_wp2
    go_roundg (gk - 1)
    case rel =>
     refine ⟨p' + 1, by omega, by omega, by omega, ?_, (hc.drewN _).set1 (q := p' + 1) (by omega), ?_⟩
     ·rw [← HE.out, hdr.out, runF_yes HW.out]; omega
     ·(repeat (with_reducible (first | exact hst | exact Step.refl _ _ | refine Step.drew ?_ | refine Step.drewN ?_ _ | refine Step.alloc ?_ _ | refine Step.setCell ?_ _ _ (fun _ => rfl))))
    case measure => omega
  ·go_wp2
   go_quiet (fail)
   go_wp2
   go_quiet (fail)
   go_wp2
   go_ret
   have : s.data.toList.drop p' = [] := List.drop_of_length_le (by simp; omega)
   rw [← HE.out, this, runF_nil]
   exact ⟨rfl, (hc.drewN _).drewN _, (hst.drewN _).drewN _⟩
/- A block of five cells, known whole. -/
theorem blk5 {w : World} {b t : Nat} {a0 a1 a2 a3 a4 : Value} (h : w.heap[b]? = some (.cells #[a0, a1, a2, a3, a4] t (0, 0))) :
  (w.cell? ⟨b, 0, none⟩ = some a0 ∧ w.cell? ⟨b, 1, none⟩ = some a1 ∧ w.cell? ⟨b, 2, none⟩ = some a2 ∧ w.cell? ⟨b, 3, none⟩ = some a3 ∧ w.cell? ⟨b, 4, none⟩ = some a4) ∧
  (w.frozen? ⟨b, 0, none⟩ = false ∧ w.frozen? ⟨b, 1, none⟩ = false ∧ w.frozen? ⟨b, 2, none⟩ = false ∧ w.frozen? ⟨b, 3, none⟩ = false ∧ w.frozen? ⟨b, 4, none⟩ = false) :=
 ⟨⟨blk_cell h 0 _ rfl, blk_cell h 1 _ rfl, blk_cell h 2 _ rfl, blk_cell h 3 _ rfl, blk_cell h 4 _ rfl⟩, ⟨blk_free h 0, blk_free h 1, blk_free h 2, blk_free h 3, blk_free h 4⟩⟩
theorem heap_five (w : World) (r b : Nat) (v0 v1 v2 v3 v4 : Value) (hr : b ≠ r) :
  (((((w.setCell ⟨r, 0, none⟩ v0).setCell ⟨r, 1, none⟩ v1).setCell ⟨r, 2, none⟩ v2).setCell ⟨r, 3, none⟩ v3).setCell ⟨r, 4, none⟩ v4).heap[b]? = w.heap[b]? := by
 rw [Below.heap_setCell _ _ _ _ hr, Below.heap_setCell _ _ _ _ hr, Below.heap_setCell _ _ _ _ hr, Below.heap_setCell _ _ _ _ hr, Below.heap_setCell _ _ _ _ hr]
theorem Cut.five {w : World} {b r : Nat} {s : ByteArray} {p l f : Nat} {v0 v1 v2 v3 v4 : Value} (h : Cut w b s p l f) (hr : b ≠ r) :
  Cut (((((w.setCell ⟨r, 0, none⟩ v0).setCell ⟨r, 1, none⟩ v1).setCell ⟨r, 2, none⟩ v2).setCell ⟨r, 3, none⟩ v3).setCell ⟨r, 4, none⟩ v4) b s p l f := ⟨by rw [heap_five _ _ _ _ _ _ _ _ hr]; exact h.out⟩
theorem Step.five {S : Nat → Prop} {a w : World} {r : Nat} {v0 v1 v2 v3 v4 : Value} (h : Step S a w) (hr : a.heap.size ≤ r) :
  Step S a (((((w.setCell ⟨r, 0, none⟩ v0).setCell ⟨r, 1, none⟩ v1).setCell ⟨r, 2, none⟩ v2).setCell ⟨r, 3, none⟩ v3).setCell ⟨r, 4, none⟩ v4) := by
 have hq : ∀ i, (⟨r, i, none⟩ : Addr).block < a.heap.size → S r := fun i h => absurd h (Nat.not_lt.2 hr)
 exact ((((h.setCell _ _ (hq 0)).setCell _ _ (hq 1)).setCell _ _ (hq 2)).setCell _ _ (hq 3)).setCell _ _ (hq 4)
theorem Step.of_alloc {S : Nat → Prop} {w w' : World} {o : Obj} (h : Step S (w.alloc o) w') : Step S w w' := ((Step.refl S w).alloc o).trans h
theorem Step.of_set {w w' : World} {b i : Nat} {v : Value} (h : Step (· = b) (w.setCell ⟨b, i, none⟩ v) w') : Step (· = b) w w' :=
 ((Step.refl (· = b) w).setCell ⟨b, i, none⟩ v (fun _ => rfl)).trans h
/- What one of the cutter's methods gives for a text: a token's kind, length and value, or what is wrong with it. -/
structure Gives (k : Nat) (F : List UInt8 → Except Nat (Nat × Nat × Nat)) (G : List UInt8 → Prop) : Prop where
 ok : ∀ (b : Nat) (s : ByteArray) (p l f : Nat) (w : World) (kind n val : Nat) (m : Int), Cut w b s p l f → p < s.size → s.size ≤ 100000 → w.cell? ⟨0, 0, none⟩ = some (.int .i64 m) → b ≠ 0 → G (s.data.toList.drop p) →
  F (s.data.toList.drop p) = .ok (kind, n, val) →
  Calls Try.prog k #[.pointer (some ⟨b, 0, none⟩)] w fun e w' =>
   e = .returned (.tuple #[.agg #[.int .i64 kind, .string (s.extract p (p + n)), .int .i64 0, .int .i64 0, .int .u64 val], .int .i64 0]) ∧ Cut w' b s (p + n) l f ∧ Step (· = b) w w'
 bad : ∀ (b : Nat) (s : ByteArray) (p l f : Nat) (w : World) (c : Nat) (m : Int), Cut w b s p l f → p < s.size → s.size ≤ 100000 → w.cell? ⟨0, 0, none⟩ = some (.int .i64 m) → b ≠ 0 → G (s.data.toList.drop p) →
  F (s.data.toList.drop p) = .error c →
  Calls Try.prog k #[.pointer (some ⟨b, 0, none⟩)] w fun e w' =>
   e = .returned (.tuple #[.agg #[.int .i64 0, .string ⟨#[]⟩, .int .i64 0, .int .i64 0, .int .u64 0], .int .i64 c]) ∧ Step (· = b) w w'
def nameF (l : List UInt8) : Except Nat (Nat × Nat × Nat) := if 24 < runF l then .error 2 else .ok (1, runF l, 0)
theorem extract_size (s : ByteArray) (p n : Nat) (h : p + n ≤ s.size) : (s.extract p (p + n)).size = n := by
 rw [ByteArray.size_extract]; omega
theorem name_ok (b : Nat) (s : ByteArray) (p l f : Nat) (w : World) (h : Cut w b s p l f) (hp : p < s.size) (hs : s.size ≤ 100000) (hn : runF (s.data.toList.drop p) ≤ 24) :
  Calls Try.prog 49 #[.pointer (some ⟨b, 0, none⟩)] w fun e w' =>
   e = .returned (.tuple #[.agg #[.int .i64 1, .string (s.extract p (p + runF (s.data.toList.drop p))), .int .i64 0, .int .i64 0, .int .u64 0], .int .i64 0]) ∧ Cut w' b s (p + runF (s.data.toList.drop p)) l f ∧ Step (· = b) w w' := by
 have hlt : b < w.heap.size := blk_lt h.out
 have hrl : p + runF (s.data.toList.drop p) ≤ s.size := by have := runF_le (s.data.toList.drop p); simp at this; omega
 go_enter Try.func49, Try.ntmps49
 go_wp2_with fail
 refine (run_any _ _ _ _ _ _ _ tests_name (h.alloc _) (Nat.le_of_lt hp) hs).mono ?_
 rintro e w1 ⟨rfl, hc, hst⟩
 have hsz := extract_size s p _ hrl
 generalize hN : runF (s.data.toList.drop p) = N at *
 have hr := blk5 (hst.keep (blk_new w _) (by omega))
 obtain ⟨⟨d0, d1, d2, d3, d4⟩, e0, e1, e2, e3, e4⟩ := hr
 have hNN := Lib.hid hN
 clear hN
 go_wp2
 refine bodyPost_ret (v := .tuple #[.agg #[.int .i64 1, .string (s.extract p (p + N)), .int .i64 0, .int .i64 0, .int .u64 0], .int .i64 0]) (by simp [results, Try.results49, go_sem, d0, d1, d2, d3, d4]) rfl ⟨by rw [hNN.out], ?_, ?_⟩
 ·rw [hNN.out]; exact hc.five (by omega)
 ·exact hst.of_alloc.five (Nat.le_refl _)
theorem name_bad (b : Nat) (s : ByteArray) (p l f : Nat) (w : World) (h : Cut w b s p l f) (hp : p < s.size) (hs : s.size ≤ 100000) (hn : 24 < runF (s.data.toList.drop p)) :
  Calls Try.prog 49 #[.pointer (some ⟨b, 0, none⟩)] w fun e w' =>
   e = .returned (.tuple #[.agg #[.int .i64 0, .string ⟨#[]⟩, .int .i64 0, .int .i64 0, .int .u64 0], .int .i64 2]) ∧ Step (· = b) w w' := by
 have hlt : b < w.heap.size := blk_lt h.out
 have hrl : p + runF (s.data.toList.drop p) ≤ s.size := by have := runF_le (s.data.toList.drop p); simp at this; omega
 go_enter Try.func49, Try.ntmps49
 go_wp2_with fail
 refine (run_any _ _ _ _ _ _ _ tests_name (h.alloc _) (Nat.le_of_lt hp) hs).mono ?_
 rintro e w1 ⟨rfl, hc, hst⟩
 have hsz := extract_size s p _ hrl
 generalize hN : runF (s.data.toList.drop p) = N at *
 obtain ⟨⟨d0, d1, d2, d3, d4⟩, e0, e1, e2, e3, e4⟩ := blk5 (hst.keep (blk_new w _) (by omega))
 clear hN
 go_wp2
 refine bodyPost_ret (v := .tuple #[.agg #[.int .i64 0, .string ⟨#[]⟩, .int .i64 0, .int .i64 0, .int .u64 0], .int .i64 2]) (by simp [results, Try.results49, go_sem, d0, d1, d2, d3, d4]) rfl ⟨rfl, ?_⟩
 exact hst.of_alloc.five (Nat.le_refl _)
theorem name_gives : Gives 49 nameF (fun _ => True) where
 ok b s p l f w kind n val m h hp hs _ _ _ he := by
  unfold nameF at he
  split at he
  ·simp at he
  ·simp at he
   obtain ⟨rfl, rfl, rfl⟩ := he
   exact name_ok b s p l f w h hp hs (by omega)
 bad b s p l f w c m h hp hs _ _ _ he := by
  unfold nameF at he
  split at he
  ·simp at he
   subst he
   exact name_bad b s p l f w h hp hs (by omega)
  ·simp at he
/- A lifetime, at its sign. -/
def lifeF : List UInt8 → Except Nat (Nat × Nat × Nat)
 | [] => .error 1
 | _ :: r => if runF r = 0 ∨ isSmall ((r.headD 0).toNat : Int) = false then .error 1 else if 24 < runF r then .error 2 else .ok (2, runF r + 1, 0)
/- The bytes of a cut of a text. -/
theorem extract_list (s : ByteArray) (p n : Nat) : (s.extract p (p + n)).data.toList = (s.data.toList.drop p).take n := by
 rw [Lib.extract_data, Nat.add_sub_cancel_left]
theorem toList_ne (t : ByteArray) (h : 0 < t.size) : ¬ t.toList = [] := by
 intro e
 rw [Lib.toList_data] at e
 rw [Lib.size_eq, e] at h
 exact absurd h (by simp)
theorem isEmpty_no (t : ByteArray) (h : 0 < t.size) : t.toList.isEmpty = false := by
 cases e : t.toList.isEmpty
 ·rfl
 ·exact absurd (List.isEmpty_iff.1 e) (toList_ne t h)
theorem str_ext {a b : ByteArray} (h : a.data.toList = b.data.toList) : a = b := by
 have : a.data = b.data := Array.toList_inj.1 h
 cases a; cases b; simp at this; rw [this]
theorem get_list (t : ByteArray) (i : Nat) (h : i < t.size) : t[i] = t.data.toList.getD i 0 := by
 have h' : i < t.data.toList.length := by simpa using h
 rw [List.getD_eq_getElem?_getD, List.getElem?_eq_getElem h']; rfl
theorem cut_head (s : ByteArray) (p n : Nat) (hn : 0 < n) (h : 0 < (s.extract p (p + n)).size) : (s.extract p (p + n))[0] = (s.data.toList.drop p).headD 0 := by
 rw [get_list _ 0 h, extract_list]
 cases hd : s.data.toList.drop p with
 | nil => simp
 | cons c r => cases n with
  | zero => omega
  | succ n => rfl
theorem quote_cut (s : ByteArray) (p N : Nat) (hp : p < s.size) (h39 : (s.data.toList.drop p).headD 0 = 39) : (⟨#[39]⟩ : ByteArray) ++ s.extract (p + 1) (p + 1 + N) = s.extract p (p + (N + 1)) := by
 apply str_ext
 rw [extract_list, drop_cons s p hp, List.take_succ_cons, ByteArray.data_append, Array.toList_append, extract_list]
 rw [drop_cons s p hp] at h39
 simp at h39
 rw [h39]; rfl
theorem life_ok (b : Nat) (s : ByteArray) (p l f N : Nat) (w : World) (h : Cut w b s p l f) (hp : p < s.size) (hs : s.size ≤ 100000) (hN : runF (s.data.toList.drop (p + 1)) = N) (h39 : (s.data.toList.drop p).headD 0 = 39) (hpos : 0 < N) (hn : N ≤ 24)
  (hsm : isSmall (((s.data.toList.drop (p + 1)).headD 0).toNat : Int) = true) :
  Calls Try.prog 50 #[.pointer (some ⟨b, 0, none⟩)] w fun e w' =>
   e = .returned (.tuple #[.agg #[.int .i64 2, .string (s.extract p (p + (N + 1))), .int .i64 0, .int .i64 0, .int .u64 0], .int .i64 0]) ∧ Cut w' b s (p + (N + 1)) l f ∧ Step (· = b) w w' := by
 have hlt : b < w.heap.size := blk_lt h.out
 obtain ⟨c0, c1, c2, c3, f0, f1, f2, f3⟩ := h.cells
 have hrl : p + 1 + N ≤ s.size := by have := runF_le (s.data.toList.drop (p + 1)); simp at this; omega
 have HN := Lib.hid hN
 clear hN
 go_enter Try.func50, Try.ntmps50
 go_wp2_with fail
 refine (run_any _ b s (p + 1) l f _ tests_life ((h.set1 (q := p + 1) (by omega)).alloc _) (by omega) hs).mono ?_
 rintro e w1 ⟨rfl, hc, hst⟩
 rw [HN.out] at hc ⊢
 have hsz := extract_size s (p + 1) N hrl
 generalize ht : s.extract (p + 1) (p + 1 + N) = t at *
 obtain ⟨⟨d0, d1, d2, d3, d4⟩, e0, e1, e2, e3, e4⟩ := blk5 (hst.keep (blk_new_set _ _ _ _) (by omega))
 have h0 : 0 < t.size := by omega
 have HQC : Hid ((⟨#[39]⟩ : ByteArray) ++ t = s.extract p (p + (N + 1))) := by subst ht; exact quote_cut s p N hp h39
 clear h39
 have hh : t[0] = (s.data.toList.drop (p + 1)).headD 0 := by subst ht; exact cut_head s (p + 1) N hpos h0
 have hte := toList_ne t h0
 have hte' := isEmpty_no t h0
 have hb255 : ((t[0].toNat : Int)) ≤ 255 := by have := t[0].toNat_lt; omega
 have hq := small_any (t[0].toNat : Int)
 rw [hh] at hq
 rw [hsm, ← hh] at hq
 have HQ := Lib.hid hq
 have HT := Lib.hid ht
 clear ht hh hq hsm
 go_wp2_with (go_at_call 66; refine (HQ.out _ (by omega) hb255).mono ?_; rintro e w' ⟨rfl, rfl⟩)
 rw [HQC.out]
 refine bodyPost_ret (v := .tuple #[.agg #[.int .i64 2, .string (s.extract p (p + (N + 1))), .int .i64 0, .int .i64 0, .int .u64 0], .int .i64 0]) (by simp [results, Try.results50, go_sem, d0, d1, d2, d3, d4]) rfl ⟨rfl, ?_, ?_⟩
 ·have := hc.five (r := w.heap.size) (v0 := .int .i64 2) (v1 := .string (s.extract p (p + (N + 1)))) (v2 := .int .i64 0) (v3 := .int .i64 0) (v4 := .int .u64 0) (by omega)
  rw [show p + (N + 1) = p + 1 + N by omega] at this ⊢; exact this
 ·exact hst.of_alloc.of_set.five (Nat.le_refl _)
theorem life_long (b : Nat) (s : ByteArray) (p l f N : Nat) (w : World) (h : Cut w b s p l f) (hp : p < s.size) (hs : s.size ≤ 100000) (hN : runF (s.data.toList.drop (p + 1)) = N) (hn : 24 < N)
  (hsm : isSmall (((s.data.toList.drop (p + 1)).headD 0).toNat : Int) = true) :
  Calls Try.prog 50 #[.pointer (some ⟨b, 0, none⟩)] w fun e w' =>
   e = .returned (.tuple #[.agg #[.int .i64 0, .string ⟨#[]⟩, .int .i64 0, .int .i64 0, .int .u64 0], .int .i64 2]) ∧ Step (· = b) w w' := by
 have hlt : b < w.heap.size := blk_lt h.out
 obtain ⟨c0, c1, c2, c3, f0, f1, f2, f3⟩ := h.cells
 have hrl : p + 1 + N ≤ s.size := by have := runF_le (s.data.toList.drop (p + 1)); simp at this; omega
 have HN := Lib.hid hN
 clear hN
 go_enter Try.func50, Try.ntmps50
 go_wp2_with fail
 refine (run_any _ b s (p + 1) l f _ tests_life ((h.set1 (q := p + 1) (by omega)).alloc _) (by omega) hs).mono ?_
 rintro e w1 ⟨rfl, hc, hst⟩
 rw [HN.out] at hc ⊢
 have hsz := extract_size s (p + 1) N hrl
 generalize ht : s.extract (p + 1) (p + 1 + N) = t at *
 obtain ⟨⟨d0, d1, d2, d3, d4⟩, e0, e1, e2, e3, e4⟩ := blk5 (hst.keep (blk_new_set _ _ _ _) (by omega))
 have h0 : 0 < t.size := by omega
 have hh : t[0] = (s.data.toList.drop (p + 1)).headD 0 := by subst ht; exact cut_head s (p + 1) N (by omega) h0
 have hte := toList_ne t h0
 have hte' := isEmpty_no t h0
 have hb255 : ((t[0].toNat : Int)) ≤ 255 := by have := t[0].toNat_lt; omega
 have hq := small_any (t[0].toNat : Int)
 rw [hh] at hq
 rw [hsm, ← hh] at hq
 have HQ := Lib.hid hq
 clear ht hh hq hsm
 go_wp2_with (go_at_call 66; refine (HQ.out _ (by omega) hb255).mono ?_; rintro e w' ⟨rfl, rfl⟩)
 refine bodyPost_ret (v := .tuple #[.agg #[.int .i64 0, .string ⟨#[]⟩, .int .i64 0, .int .i64 0, .int .u64 0], .int .i64 2]) (by simp [results, Try.results50, go_sem, d0, d1, d2, d3, d4]) rfl ⟨rfl, ?_⟩
 exact hst.of_alloc.of_set.five (Nat.le_refl _)
theorem life_bad (b : Nat) (s : ByteArray) (p l f N : Nat) (w : World) (h : Cut w b s p l f) (hp : p < s.size) (hs : s.size ≤ 100000) (hN : runF (s.data.toList.drop (p + 1)) = N) (hn : 0 < N)
  (hsm : isSmall (((s.data.toList.drop (p + 1)).headD 0).toNat : Int) = false) :
  Calls Try.prog 50 #[.pointer (some ⟨b, 0, none⟩)] w fun e w' =>
   e = .returned (.tuple #[.agg #[.int .i64 0, .string ⟨#[]⟩, .int .i64 0, .int .i64 0, .int .u64 0], .int .i64 1]) ∧ Step (· = b) w w' := by
 have hlt : b < w.heap.size := blk_lt h.out
 obtain ⟨c0, c1, c2, c3, f0, f1, f2, f3⟩ := h.cells
 have hrl : p + 1 + N ≤ s.size := by have := runF_le (s.data.toList.drop (p + 1)); simp at this; omega
 have HN := Lib.hid hN
 clear hN
 go_enter Try.func50, Try.ntmps50
 go_wp2_with fail
 refine (run_any _ b s (p + 1) l f _ tests_life ((h.set1 (q := p + 1) (by omega)).alloc _) (by omega) hs).mono ?_
 rintro e w1 ⟨rfl, hc, hst⟩
 rw [HN.out] at hc ⊢
 have hsz := extract_size s (p + 1) N hrl
 generalize ht : s.extract (p + 1) (p + 1 + N) = t at *
 obtain ⟨⟨d0, d1, d2, d3, d4⟩, e0, e1, e2, e3, e4⟩ := blk5 (hst.keep (blk_new_set _ _ _ _) (by omega))
 have h0 : 0 < t.size := by omega
 have hh : t[0] = (s.data.toList.drop (p + 1)).headD 0 := by subst ht; exact cut_head s (p + 1) N (by omega) h0
 have hte := toList_ne t h0
 have hte' := isEmpty_no t h0
 have hb255 : ((t[0].toNat : Int)) ≤ 255 := by have := t[0].toNat_lt; omega
 have hq := small_any (t[0].toNat : Int)
 rw [hh] at hq
 rw [hsm, ← hh] at hq
 have HQ := Lib.hid hq
 clear ht hh hq hsm
 go_wp2_with (go_at_call 66; refine (HQ.out _ (by omega) hb255).mono ?_; rintro e w' ⟨rfl, rfl⟩)
 refine bodyPost_ret (v := .tuple #[.agg #[.int .i64 0, .string ⟨#[]⟩, .int .i64 0, .int .i64 0, .int .u64 0], .int .i64 1]) (by simp [results, Try.results50, go_sem, d0, d1, d2, d3, d4]) rfl ⟨rfl, ?_⟩
 exact hst.of_alloc.of_set.five (Nat.le_refl _)
theorem life_none (b : Nat) (s : ByteArray) (p l f : Nat) (w : World) (h : Cut w b s p l f) (hp : p < s.size) (hs : s.size ≤ 100000) (hN : runF (s.data.toList.drop (p + 1)) = 0) :
  Calls Try.prog 50 #[.pointer (some ⟨b, 0, none⟩)] w fun e w' =>
   e = .returned (.tuple #[.agg #[.int .i64 0, .string ⟨#[]⟩, .int .i64 0, .int .i64 0, .int .u64 0], .int .i64 1]) ∧ Step (· = b) w w' := by
 have hlt : b < w.heap.size := blk_lt h.out
 obtain ⟨c0, c1, c2, c3, f0, f1, f2, f3⟩ := h.cells
 have HN := Lib.hid hN
 clear hN
 go_enter Try.func50, Try.ntmps50
 go_wp2_with fail
 refine (run_any _ b s (p + 1) l f _ tests_life ((h.set1 (q := p + 1) (by omega)).alloc _) (by omega) hs).mono ?_
 rintro e w1 ⟨rfl, hc, hst⟩
 rw [HN.out] at hc ⊢
 have ht : s.extract (p + 1) (p + 1 + 0) = ⟨#[]⟩ := str_ext (by rw [extract_list]; rfl)
 rw [ht]
 obtain ⟨⟨d0, d1, d2, d3, d4⟩, e0, e1, e2, e3, e4⟩ := blk5 (hst.keep (blk_new_set _ _ _ _) (by omega))
 clear ht
 go_wp2
 refine bodyPost_ret (v := .tuple #[.agg #[.int .i64 0, .string ⟨#[]⟩, .int .i64 0, .int .i64 0, .int .u64 0], .int .i64 1]) (by simp [results, Try.results50, go_sem, d0, d1, d2, d3, d4]) rfl ⟨rfl, ?_⟩
 exact hst.of_alloc.of_set.five (Nat.le_refl _)
theorem life_gives : Gives 50 lifeF (fun l => l.headD 0 = 39) where
 ok b s p l f w kind n val m h hp hs _ _ h39 he := by
  have hd := drop_cons s p hp
  rw [hd, lifeF] at he
  split at he
  ·simp at he
  ·rename_i h1
   split at he
   ·simp at he
   ·simp at he
    obtain ⟨rfl, rfl, rfl⟩ := he
    refine life_ok b s p l f _ w h hp hs rfl h39 ?_ (by omega) ?_
    ·rcases Nat.eq_zero_or_pos (runF (s.data.toList.drop (p + 1))) with e | e
     ·exact absurd (.inl e) h1
     ·exact e
    ·cases e : isSmall (((s.data.toList.drop (p + 1)).headD 0).toNat : Int)
     ·exact absurd (.inr e) h1
     ·rfl
 bad b s p l f w c m h hp hs _ _ h39 he := by
  have hd := drop_cons s p hp
  rw [hd, lifeF] at he
  by_cases h0 : runF (s.data.toList.drop (p + 1)) = 0
  ·rw [if_pos (.inl h0)] at he
   simp at he; subst he
   exact life_none b s p l f w h hp hs h0
  ·cases e : isSmall (((s.data.toList.drop (p + 1)).headD 0).toNat : Int)
   ·rw [if_pos (.inr e)] at he
    simp at he; subst he
    exact life_bad b s p l f _ w h hp hs rfl (by omega) e
   ·rw [if_neg (fun x => x.elim h0 (by rw [e]; simp))] at he
    split at he
    ·simp at he; subst he
     exact life_long b s p l f _ w h hp hs rfl (by omega) e
    ·simp at he
/- A hexadecimal digit; none: it is none. -/
def hexF (c : UInt8) : Option Nat := if isDigit c.toNat then some (c.toNat - 48) else if 97 ≤ c.toNat ∧ c.toNat ≤ 102 then some (c.toNat - 87) else none
theorem hex_ok (c : UInt8) (v : Nat) (w : World) (h : hexF c = some v) :
  Calls Try.prog 71 #[.int .u8 (c.toNat : Int)] w fun e w' => e = .returned (.tuple #[.int .u64 v, .bool true]) ∧ w = w' := by
 have hb : (c.toNat : Int) ≤ 255 := by have := c.toNat_lt; omega
 unfold hexF at h
 cases hd : isDigit (c.toNat : Int)
 ·rw [if_neg (by simp [hd])] at h
  split at h
  ·rename_i hr
   simp at h
   have hr1 : (97 : Int) ≤ c.toNat := by omega
   have hr2 : (c.toNat : Int) ≤ 102 := by omega
   have HV : Hid ((c.toNat : Int) - 97 + 10 = v) := show _ = _ by omega
   clear h hr
   have hq := digit_any (c.toNat : Int)
   rw [hd] at hq
   have HQ := Lib.hid hq
   clear hq hd
   go_enter Try.func71, Try.ntmps71
   go_wp2_with (go_at_call 51; refine (HQ.out _ (by omega) hb).mono ?_; rintro e w' ⟨rfl, rfl⟩)
   go_ret2
   exact ⟨by rw [← HV.out]; rfl, rfl⟩
  ·simp at h
 ·rw [if_pos (by simp [hd])] at h
  simp at h
  have h48 : (48 : Int) ≤ c.toNat ∧ (c.toNat : Int) ≤ 57 := by simpa [isDigit] using hd
  obtain ⟨h48, h57⟩ := h48
  have HV : Hid ((c.toNat : Int) - 48 = v) := show _ = _ by omega
  clear h
  have hq := digit_any (c.toNat : Int)
  rw [hd] at hq
  have HQ := Lib.hid hq
  clear hq hd
  go_enter Try.func71, Try.ntmps71
  go_wp2_with (go_at_call 51; refine (HQ.out _ (by omega) hb).mono ?_; rintro e w' ⟨rfl, rfl⟩)
  go_ret2
  exact ⟨by rw [← HV.out]; rfl, rfl⟩
theorem hex_bad (c : UInt8) (w : World) (h : hexF c = none) :
  Calls Try.prog 71 #[.int .u8 (c.toNat : Int)] w fun e w' => e = .returned (.tuple #[.int .u64 0, .bool false]) ∧ w = w' := by
 have hb : (c.toNat : Int) ≤ 255 := by have := c.toNat_lt; omega
 unfold hexF at h
 cases hd : isDigit (c.toNat : Int)
 ·rw [if_neg (by simp [hd])] at h
  have hr : ¬ (97 ≤ c.toNat ∧ c.toNat ≤ 102) := by intro e; rw [if_pos e] at h; simp at h
  have hq := digit_any (c.toNat : Int)
  rw [hd] at hq
  have HQ := Lib.hid hq
  clear hq hd h
  by_cases h97 : (97 : Int) ≤ c.toNat
  ·have h102 : (102 : Int) < c.toNat := by omega
   clear hr
   go_enter Try.func71, Try.ntmps71
   go_wp2_with (go_at_call 51; refine (HQ.out _ (by omega) hb).mono ?_; rintro e w' ⟨rfl, rfl⟩)
   go_ret2
   exact ⟨rfl, rfl⟩
  ·clear hr
   go_enter Try.func71, Try.ntmps71
   go_wp2_with (go_at_call 51; refine (HQ.out _ (by omega) hb).mono ?_; rintro e w' ⟨rfl, rfl⟩)
   go_ret2
   exact ⟨rfl, rfl⟩
 ·rw [if_pos (by simp [hd])] at h
  simp at h
/- The bits that sixteen digits say; none: one is no digit. -/
def floatF : Nat → List UInt8 → Option Nat
 | v, [] => some v
 | v, c :: r => match hexF c with
  | some x => floatF (v * 16 + x) r
  | none => none
/- A whole number, digit by digit: how many have been read, what they say. -/
def intF (c0 : UInt8) : List UInt8 → Nat → Nat → Except Nat Nat
 | [], _, v => .ok v
 | c :: r, i, v =>
  if isDigit c.toNat = false ∨ (i = 1 ∧ c0 = 48) then .error 1
  else if 9223372036854775807 < v * 10 + (c.toNat - 48) then .error 2
  else intF c0 r (i + 1) (v * 10 + (c.toNat - 48))
/- A number's kind and value. -/
def numF (l : List UInt8) : Except Nat (Nat × Nat × Nat) :=
 if l.length = 18 ∧ l.take 2 = [48, 102] then
  match floatF 0 (l.drop 2) with
  | some v => .ok (4, l.length, v)
  | none => .error 1
 else match intF (l.headD 0) l 0 0 with
  | .ok v => .ok (3, l.length, v)
  | .error c => .error c
def numberF (l : List UInt8) : Except Nat (Nat × Nat × Nat) := numF (l.take (runF l))
theorem hexF_lt {c : UInt8} {x : Nat} (h : hexF c = some x) : x < 16 := by
 unfold hexF at h
 split at h
 ·rename_i hd
  have : (48 : Int) ≤ c.toNat ∧ (c.toNat : Int) ≤ 57 := by simpa [isDigit] using hd
  simp at h; omega
 ·split at h
  ·simp at h; omega
  ·simp at h
theorem or_hex (v x : Nat) (hv : v < 1152921504606846976) (hx : x < 16) : bits BinOp.or IntKind.u64 ((v : Int) * 16) x = ((v * 16 + x : Nat) : Int) := by
 rw [show ((v : Int) * 16) = ((v * 16 : Nat) : Int) by omega, bits_or_u64_nat _ _ (by omega) (by omega)]
 have : v * 16 ||| x = v * 16 + x := by
  have := Nat.shiftLeft_add_eq_or_of_lt (show x < 2 ^ 4 by omega) v
  rw [Nat.shiftLeft_eq] at this
  exact this.symm
 rw [this]
theorem drop_get (l : List UInt8) (i : Nat) (h : i < l.length) : l.drop i = l.getD i 0 :: l.drop (i + 1) := by
 rw [List.drop_eq_getElem_cons h, List.getD_eq_getElem?_getD, List.getElem?_eq_getElem h]; rfl
/- What 'number' leaves: a token of this kind and value, or an error. -/
def NumPost (n b : Nat) (s : ByteArray) (p l f : Nat) (w : World) (r : Except Nat (Nat × Nat)) (e : Ending) (w' : World) : Prop :=
 (match r with
  | .ok (k, v) => e = .returned (.tuple #[.agg #[.int .i64 k, .string (s.extract p (p + n)), .int .i64 0, .int .i64 0, .int .u64 v], .int .i64 0]) ∧ Cut w' b s (p + n) l f
  | .error c => e = .returned (.tuple #[.agg #[.int .i64 0, .string ⟨#[]⟩, .int .i64 0, .int .i64 0, .int .u64 0], .int .i64 c])) ∧ Step (· = b) w w'
def floatR : Option Nat → Except Nat (Nat × Nat)
 | some v => .ok (4, v)
 | none => .error 1
theorem number_float (b : Nat) (s : ByteArray) (p l f : Nat) (w : World) (h : Cut w b s p l f) (hp : p < s.size) (hs : s.size ≤ 100000) (hN : runF (s.data.toList.drop p) = 18)
  (h2 : ((s.data.toList.drop p).take 18).take 2 = [48, 102]) (r : Option Nat) (hr : floatF 0 (((s.data.toList.drop p).take 18).drop 2) = r) :
  Calls Try.prog 52 #[.pointer (some ⟨b, 0, none⟩)] w (NumPost 18 b s p l f w (floatR r)) := by
 have hlt : b < w.heap.size := blk_lt h.out
 have hrl : p + 18 ≤ s.size := by have := runF_le (s.data.toList.drop p); simp at this; omega
 have HN := Lib.hid hN
 clear hN
 go_enter Try.func52, Try.ntmps52
 go_wp2_with fail
 refine (run_any _ b s p l f _ tests_number (h.alloc _) (by omega) hs).mono ?_
 rintro e w1 ⟨rfl, hc, hst⟩
 rw [HN.out] at hc ⊢
 have hsz := extract_size s p 18 hrl
 have hL := extract_list s p 18
 rw [← hL] at h2 hr
 generalize ht : s.extract p (p + 18) = t at *
 have hnb := hst.keep (blk_new _ _) (by omega)
 obtain ⟨⟨d0, d1, d2, d3, d4⟩, e0, e1, e2, e3, e4⟩ := blk5 hnb
 have hlt1 : w.heap.size < w1.heap.size := blk_lt hnb
 have HT := Lib.hid ht
 have HR := Lib.hid hr
 clear ht hL hr
 have hs18 : ((t.size : Int) == 18) = true := by rw [hsz]; rfl
 have hfm : ((t.extract 0 2).toList == [48, 102]) = true := by
  rw [beq_iff_eq, Lib.toList_data, Lib.extract_data]; exact h2
 clear h2
 go_wp2_with fail
 go_loopg [24] 16 (fun g s24 wr => ∃ (i v : Nat), i ≤ 16 ∧ 16 - i ≤ g ∧ s24 = .int .i64 i ∧ v < 16 ^ i ∧ floatF v (t.data.toList.drop (2 + i)) = r ∧
  wr = w1.alloc (.cells #[.int .i64 4, .string t, .int .i64 0, .int .i64 0, .int .u64 v] 73))
 case atStart => exact ⟨0, 0, by omega, by omega, rfl, by omega, HR.out, rfl⟩
 case round =>
  obtain ⟨i, v, hi, hg, rfl, hv, heq, rfl⟩ := hrel
  have HE := Lib.hid heq
  clear heq
  have hv64 : v ≤ 18446744073709551615 := by
   have := Nat.pow_le_pow_right (show 0 < 16 by omega) hi
   omega
  by_cases hlt16 : i < 16
  ·have hv60 : v < 1152921504606846976 := by
     have := Nat.pow_le_pow_right (show 0 < 16 by omega) (show i ≤ 15 by omega)
     omega
   have hgd := get_list t (2 + i) (by omega)
   have hdr := drop_get t.data.toList (2 + i) (by rw [← Lib.size_eq]; omega)
   rw [← hgd] at hdr
   have HD := Lib.hid hdr
   clear hdr hgd
   cases hx : hexF t[2 + i] with
   | none =>
    have HX := Lib.hid hx
    clear hx
    go_wp2_with (go_at_call 71; refine (hex_bad _ _ HX.out).mono ?_; rintro e w' ⟨rfl, rfl⟩)
    have hr0 : r = none := by rw [← HE.out, HD.out, floatF, HX.out]
    subst hr0
    refine bodyPost_ret (v := .tuple #[.agg #[.int .i64 0, .string ⟨#[]⟩, .int .i64 0, .int .i64 0, .int .u64 0], .int .i64 1]) (by simp [results, Try.results52, go_sem, d0, d1, d2, d3, d4, hlt1]) rfl ⟨rfl, ?_⟩
    exact (hst.of_alloc.five (Nat.le_refl _)).alloc _
   | some x =>
    have hx16 := hexF_lt hx
    have HX := Lib.hid hx
    clear hx
    go_wp2_with (go_at_call 71; refine (hex_ok _ _ _ HX.out).mono ?_; rintro e w' ⟨rfl, rfl⟩)
    rw [or_hex v x hv60 hx16]
    go_roundg (gk - 1)
    case rel =>
     refine ⟨i + 1, v * 16 + x, by omega, by omega, by go_num, ?_, ?_, rfl⟩
     ·rw [Nat.pow_succ]; omega
     ·rw [← HE.out, HD.out, floatF, HX.out]; rfl
    case measure => omega
  ·have hi16 : i = 16 := by omega
   have hr0 : r = some v := by
    rw [← HE.out, hi16, List.drop_of_length_le (by rw [← Lib.size_eq]; omega)]; rfl
   have HR0 := Lib.hid hr0
   clear hr0 hi16
   go_wp2
   rw [HR0.out]
   refine bodyPost_ret (v := .tuple #[.agg #[.int .i64 4, .string t, .int .i64 0, .int .i64 0, .int .u64 v], .int .i64 0]) (by simp [results, Try.results52, go_sem, d0, d1, d2, d3, d4, hlt1]) rfl ⟨⟨by rw [HT.out]; rfl, ?_⟩, ?_⟩
   ·exact (hc.five (by omega)).alloc _
   ·exact (hst.of_alloc.five (Nat.le_refl _)).alloc _
def intR : Except Nat Nat → Except Nat (Nat × Nat)
 | .ok v => .ok (3, v)
 | .error c => .error c
/- Where the loop over the digits stands. -/
def IntAt (c0 : UInt8) (i v : Nat) : Prop := i = 0 ∧ v = 0 ∨ (c0 = 48 ∧ i = 1 ∧ v = 0) ∨ (c0 ≠ 48 ∧ 1 ≤ i ∧ 10 ^ (i - 1) ≤ v)
theorem IntAt.big {c0 : UInt8} {i v : Nat} (h : IntAt c0 i v) (h1 : ¬ (i = 1 ∧ c0 = 48)) (_hv : v ≤ 9223372036854775807) (h19 : 19 ≤ i) : 1000000000000000000 ≤ v := by
 rcases h with ⟨h, _⟩ | ⟨ha, hb, _⟩ | ⟨_, _, hc⟩
 ·omega
 ·exact absurd ⟨hb, ha⟩ h1
 ·have := Nat.pow_le_pow_right (show 0 < 10 by omega) (show 18 ≤ i - 1 by omega)
  have e : (10 : Nat) ^ 18 = 1000000000000000000 := by decide
  omega
theorem IntAt.next {c0 c : UInt8} {i v : Nat} (h : IntAt c0 i v) (h1 : ¬ (i = 1 ∧ c0 = 48)) (hd : 48 ≤ c.toNat) (h0 : i = 0 → c = c0) : IntAt c0 (i + 1) (v * 10 + (c.toNat - 48)) := by
 rcases h with ⟨hi, hv⟩ | ⟨ha, hb, _⟩ | ⟨ha, hb, hc⟩
 ·subst hi; subst hv
  have := h0 rfl
  subst this
  by_cases e : c = 48
  ·subst e; exact .inr (.inl ⟨rfl, rfl, rfl⟩)
  ·refine .inr (.inr ⟨e, by omega, ?_⟩)
   have : c.toNat ≠ 48 := fun x => e (UInt8.toNat_inj.1 x)
   simp; omega
 ·exact absurd ⟨hb, ha⟩ h1
 ·refine .inr (.inr ⟨ha, by omega, ?_⟩)
  have : 10 ^ (i + 1 - 1) = 10 ^ (i - 1) * 10 := by rw [← Nat.pow_succ]; congr 1; omega
  omega
theorem number_int (b : Nat) (s : ByteArray) (p l f N : Nat) (w : World) (h : Cut w b s p l f) (hp : p < s.size) (hs : s.size ≤ 100000) (hN : runF (s.data.toList.drop p) = N) (hN18 : N ≠ 18)
  (r : Except Nat Nat) (hr : intF (((s.data.toList.drop p).take N).headD 0) ((s.data.toList.drop p).take N) 0 0 = r) :
  Calls Try.prog 52 #[.pointer (some ⟨b, 0, none⟩)] w (NumPost N b s p l f w (intR r)) := by
 have hlt : b < w.heap.size := blk_lt h.out
 have hrl : p + N ≤ s.size := by have := runF_le (s.data.toList.drop p); simp at this; omega
 have HN := Lib.hid hN
 clear hN
 go_enter Try.func52, Try.ntmps52
 go_wp2_with fail
 refine (run_any _ b s p l f _ tests_number (h.alloc _) (by omega) hs).mono ?_
 rintro e w1 ⟨rfl, hc, hst⟩
 rw [HN.out] at hc ⊢
 have hsz := extract_size s p N hrl
 have hL := extract_list s p N
 rw [← hL] at hr
 generalize ht : s.extract p (p + N) = t at *
 have hnb := hst.keep (blk_new _ _) (by omega)
 obtain ⟨⟨d0, d1, d2, d3, d4⟩, e0, e1, e2, e3, e4⟩ := blk5 hnb
 have hlt1 : w.heap.size < w1.heap.size := blk_lt hnb
 have HT := Lib.hid ht
 have HR := Lib.hid hr
 clear ht hL hr
 have hs18 : ((N : Int) == 18) = false := by rw [beq_eq_false_iff_ne]; omega
 go_wp2_with fail
 go_loopg [48] N (fun g s48 wr => ∃ (i v : Nat), i ≤ N ∧ i ≤ 19 ∧ N - i ≤ g ∧ s48 = .int .i64 i ∧ v ≤ 9223372036854775807 ∧ IntAt (t.data.toList.headD 0) i v ∧ intF (t.data.toList.headD 0) (t.data.toList.drop i) i v = r ∧
  wr = w1.alloc (.cells #[.int .i64 3, .string t, .int .i64 0, .int .i64 0, .int .u64 v] 73))
 case atStart => exact ⟨0, 0, by omega, by omega, by omega, rfl, by omega, .inl ⟨rfl, rfl⟩, HR.out, rfl⟩
 case round =>
  obtain ⟨i, v, hi, hi19, hg, rfl, hv, hat, heq, rfl⟩ := hrel
  have HE := Lib.hid heq
  have HA := Lib.hid hat
  clear heq hat
  by_cases hlti : i < N
  ·have hgd := get_list t i (by omega)
   have hdr := drop_get t.data.toList i (by rw [← Lib.size_eq]; omega)
   rw [← hgd] at hdr
   have hb255 : ((t[i].toNat : Int)) ≤ 255 := by have := t[i].toNat_lt; omega
   have hlt0 : 0 < t.size := by omega
   have h00 : t[0] = t.data.toList.headD 0 := by rw [get_list t 0 hlt0]; cases t.data.toList <;> rfl
   rw [← h00] at HA HE
   have H00 := Lib.hid h00
   clear h00
   have HD := Lib.hid hdr
   clear hdr hgd
   have hq := digit_any (t[i].toNat : Int)
   cases hd : isDigit (t[i].toNat : Int)
   ·rw [hd] at hq
    have HQ := Lib.hid hq
    have HX := Lib.hid hd
    clear hq hd
    go_wp2_with (go_at_call 51; refine (HQ.out _ (by omega) hb255).mono ?_; rintro e w' ⟨rfl, rfl⟩)
    have hr0 : r = .error 1 := by rw [← HE.out, HD.out, intF, if_pos (.inl HX.out)]
    subst hr0
    refine bodyPost_ret (v := .tuple #[.agg #[.int .i64 0, .string ⟨#[]⟩, .int .i64 0, .int .i64 0, .int .u64 0], .int .i64 1]) (by simp [results, Try.results52, go_sem, d0, d1, d2, d3, d4, hlt1]) rfl ⟨rfl, ?_⟩
    exact (hst.of_alloc.five (Nat.le_refl _)).alloc _
   ·rw [hd] at hq
    have HQ := Lib.hid hq
    have h48 : (48 : Int) ≤ t[i].toNat ∧ (t[i].toNat : Int) ≤ 57 := by simpa [isDigit] using hd
    obtain ⟨h48, h57⟩ := h48
    have HX := Lib.hid hd
    clear hq hd
    by_cases hi1 : i = 1 ∧ t[0] = 48
    ·have hb1 : ((i : Int) == 1) = true := by rw [hi1.1]; rfl
     have hb2 : ((t[0].toNat : Int) == 48) = true := by rw [hi1.2]; rfl
     have H1 := Lib.hid hi1
     clear hi1
     go_wp2_with (go_at_call 51; refine (HQ.out _ (by omega) hb255).mono ?_; rintro e w' ⟨rfl, rfl⟩)
     have hr0 : r = .error 1 := by rw [← HE.out, HD.out, intF, if_pos (.inr H1.out)]
     subst hr0
     refine bodyPost_ret (v := .tuple #[.agg #[.int .i64 0, .string ⟨#[]⟩, .int .i64 0, .int .i64 0, .int .u64 0], .int .i64 1]) (by simp [results, Try.results52, go_sem, d0, d1, d2, d3, d4, hlt1]) rfl ⟨rfl, ?_⟩
     exact (hst.of_alloc.five (Nat.le_refl _)).alloc _
    ·have hor : (((i : Int) == 1) = true ∧ ((t[0].toNat : Int) == 48) = false) ∨ (((i : Int) == 1) = false) := by
       by_cases e1 : i = 1
       ·exact .inl ⟨by rw [e1]; rfl, by rw [beq_eq_false_iff_ne]; exact fun e => hi1 ⟨e1, byte_is 48 e⟩⟩
       ·exact .inr (by rw [beq_eq_false_iff_ne]; omega)
     have H1 := Lib.hid hi1
     clear hi1
     by_cases h19 : 19 ≤ i
     ·have HR2 : Hid (r = .error 2) := by
        show r = .error 2
        rw [← HE.out, HD.out, intF, if_neg (fun e => e.elim (by rw [HX.out]; simp) H1.out), if_pos]
        have := HA.out.big H1.out (by omega) h19
        omega
      have hb1 : ((i : Int) == 1) = false := by rw [beq_eq_false_iff_ne]; omega
      have hge : decide (19 ≤ (i : Int)) = true := by rw [decide_eq_true_eq]; omega
      clear hor
      ·go_wp2_with (go_at_call 51; refine (HQ.out _ (by omega) hb255).mono ?_; rintro e w' ⟨rfl, rfl⟩)
       rw [HR2.out]
       refine bodyPost_ret (v := .tuple #[.agg #[.int .i64 0, .string ⟨#[]⟩, .int .i64 0, .int .i64 0, .int .u64 0], .int .i64 2]) (by simp [results, Try.results52, go_sem, d0, d1, d2, d3, d4, hlt1]) rfl ⟨rfl, ?_⟩
       exact (hst.of_alloc.five (Nat.le_refl _)).alloc _
     ·have hge : decide (19 ≤ (i : Int)) = false := by rw [decide_eq_false_iff_not]; omega
      by_cases hbig : (v : Int) ≤ (9223372036854775807 - ((t[i].toNat : Int) - 48)) / 10
      ·have HN2 : Hid (intF t[0] (t.data.toList.drop (i + 1)) (i + 1) (v * 10 + (t[i].toNat - 48)) = r ∧ IntAt t[0] (i + 1) (v * 10 + (t[i].toNat - 48)) ∧ v * 10 + (t[i].toNat - 48) ≤ 9223372036854775807 ∧ ((v : Int) * 10 + ((t[i].toNat : Int) - 48) = ((v * 10 + (t[i].toNat - 48) : Nat) : Int))) := by
         refine ⟨?_, ?_, by omega, by omega⟩
         ·rw [← HE.out, HD.out, intF, if_neg (fun e => e.elim (by rw [HX.out]; simp) H1.out), if_neg (by omega)]
         ·refine HA.out.next (c := t[i]) H1.out (by omega) ?_
          intro e0
          subst e0
          rfl
       have hgt : decide ((9223372036854775807 - ((t[i].toNat : Int) - 48)) / 10 < (v : Int)) = false := by rw [decide_eq_false_iff_not]; omega
       rcases hor with ⟨hb1, hb2⟩ | hb1
       all_goals
        go_wp2_with (go_at_call 51; refine (HQ.out _ (by omega) hb255).mono ?_; rintro e w' ⟨rfl, rfl⟩)
        obtain ⟨hn1, hn2, hn3, hn4⟩ := HN2.out
        rw [hn4]
        go_roundg (gk - 1)
        case rel =>
         exact ⟨i + 1, v * 10 + (t[i].toNat - 48), by omega, by omega, by omega, by go_num, hn3, by rw [← H00.out]; exact hn2, by rw [← H00.out]; exact hn1, rfl⟩
        case measure => omega
      ·have HR2 : Hid (r = .error 2) := by
         show r = .error 2
         rw [← HE.out, HD.out, intF, if_neg (fun e => e.elim (by rw [HX.out]; simp) H1.out), if_pos (by omega)]
       have hgt : decide ((9223372036854775807 - ((t[i].toNat : Int) - 48)) / 10 < (v : Int)) = true := by rw [decide_eq_true_eq]; omega
       rcases hor with ⟨hb1, hb2⟩ | hb1
       all_goals
        go_wp2_with (go_at_call 51; refine (HQ.out _ (by omega) hb255).mono ?_; rintro e w' ⟨rfl, rfl⟩)
        rw [HR2.out]
        refine bodyPost_ret (v := .tuple #[.agg #[.int .i64 0, .string ⟨#[]⟩, .int .i64 0, .int .i64 0, .int .u64 0], .int .i64 2]) (by simp [results, Try.results52, go_sem, d0, d1, d2, d3, d4, hlt1]) rfl ⟨rfl, ?_⟩
        exact (hst.of_alloc.five (Nat.le_refl _)).alloc _
  ·have hr0 : Hid (r = .ok v) := by
     show r = .ok v
     rw [← HE.out, List.drop_of_length_le (by rw [← Lib.size_eq]; omega)]; rfl
   go_wp2
   rw [hr0.out]
   refine bodyPost_ret (v := .tuple #[.agg #[.int .i64 3, .string t, .int .i64 0, .int .i64 0, .int .u64 v], .int .i64 0]) (by simp [results, Try.results52, go_sem, d0, d1, d2, d3, d4, hlt1]) rfl ⟨⟨by rw [HT.out]; rfl, ?_⟩, ?_⟩
   ·exact (hc.five (by omega)).alloc _
   ·exact (hst.of_alloc.five (Nat.le_refl _)).alloc _
theorem number_int18 (b : Nat) (s : ByteArray) (p l f N : Nat) (w : World) (h : Cut w b s p l f) (hp : p < s.size) (hs : s.size ≤ 100000) (hN : runF (s.data.toList.drop p) = N) (hN18 : N = 18) (hno : ((s.data.toList.drop p).take N).take 2 ≠ [48, 102])
  (r : Except Nat Nat) (hr : intF (((s.data.toList.drop p).take N).headD 0) ((s.data.toList.drop p).take N) 0 0 = r) :
  Calls Try.prog 52 #[.pointer (some ⟨b, 0, none⟩)] w (NumPost N b s p l f w (intR r)) := by
 have hlt : b < w.heap.size := blk_lt h.out
 have hrl : p + N ≤ s.size := by have := runF_le (s.data.toList.drop p); simp at this; omega
 have HN := Lib.hid hN
 clear hN
 go_enter Try.func52, Try.ntmps52
 go_wp2_with fail
 refine (run_any _ b s p l f _ tests_number (h.alloc _) (by omega) hs).mono ?_
 rintro e w1 ⟨rfl, hc, hst⟩
 rw [HN.out] at hc ⊢
 have hsz := extract_size s p N hrl
 have hL := extract_list s p N
 rw [← hL] at hr hno
 generalize ht : s.extract p (p + N) = t at *
 have hnb := hst.keep (blk_new _ _) (by omega)
 obtain ⟨⟨d0, d1, d2, d3, d4⟩, e0, e1, e2, e3, e4⟩ := blk5 hnb
 have hlt1 : w.heap.size < w1.heap.size := blk_lt hnb
 have HT := Lib.hid ht
 have HR := Lib.hid hr
 clear ht hL hr
 have hs18 : ((N : Int) == 18) = true := by rw [beq_iff_eq]; omega
 have h2N : 2 ≤ N := by omega
 have hfm : ((t.extract 0 2).toList == [48, 102]) = false := by
  rw [beq_eq_false_iff_ne, Lib.toList_data, Lib.extract_data]; exact hno
 clear hno hN18
 go_wp2_with fail
 go_loopg [48] N (fun g s48 wr => ∃ (i v : Nat), i ≤ N ∧ i ≤ 19 ∧ N - i ≤ g ∧ s48 = .int .i64 i ∧ v ≤ 9223372036854775807 ∧ IntAt (t.data.toList.headD 0) i v ∧ intF (t.data.toList.headD 0) (t.data.toList.drop i) i v = r ∧
  wr = w1.alloc (.cells #[.int .i64 3, .string t, .int .i64 0, .int .i64 0, .int .u64 v] 73))
 case atStart => exact ⟨0, 0, by omega, by omega, by omega, rfl, by omega, .inl ⟨rfl, rfl⟩, HR.out, rfl⟩
 case round =>
  obtain ⟨i, v, hi, hi19, hg, rfl, hv, hat, heq, rfl⟩ := hrel
  have HE := Lib.hid heq
  have HA := Lib.hid hat
  clear heq hat
  by_cases hlti : i < N
  ·have hgd := get_list t i (by omega)
   have hdr := drop_get t.data.toList i (by rw [← Lib.size_eq]; omega)
   rw [← hgd] at hdr
   have hb255 : ((t[i].toNat : Int)) ≤ 255 := by have := t[i].toNat_lt; omega
   have hlt0 : 0 < t.size := by omega
   have h00 : t[0] = t.data.toList.headD 0 := by rw [get_list t 0 hlt0]; cases t.data.toList <;> rfl
   rw [← h00] at HA HE
   have H00 := Lib.hid h00
   clear h00
   have HD := Lib.hid hdr
   clear hdr hgd
   have hq := digit_any (t[i].toNat : Int)
   cases hd : isDigit (t[i].toNat : Int)
   ·rw [hd] at hq
    have HQ := Lib.hid hq
    have HX := Lib.hid hd
    clear hq hd
    go_wp2_with (go_at_call 51; refine (HQ.out _ (by omega) hb255).mono ?_; rintro e w' ⟨rfl, rfl⟩)
    have hr0 : r = .error 1 := by rw [← HE.out, HD.out, intF, if_pos (.inl HX.out)]
    subst hr0
    refine bodyPost_ret (v := .tuple #[.agg #[.int .i64 0, .string ⟨#[]⟩, .int .i64 0, .int .i64 0, .int .u64 0], .int .i64 1]) (by simp [results, Try.results52, go_sem, d0, d1, d2, d3, d4, hlt1]) rfl ⟨rfl, ?_⟩
    exact (hst.of_alloc.five (Nat.le_refl _)).alloc _
   ·rw [hd] at hq
    have HQ := Lib.hid hq
    have h48 : (48 : Int) ≤ t[i].toNat ∧ (t[i].toNat : Int) ≤ 57 := by simpa [isDigit] using hd
    obtain ⟨h48, h57⟩ := h48
    have HX := Lib.hid hd
    clear hq hd
    by_cases hi1 : i = 1 ∧ t[0] = 48
    ·have hb1 : ((i : Int) == 1) = true := by rw [hi1.1]; rfl
     have hb2 : ((t[0].toNat : Int) == 48) = true := by rw [hi1.2]; rfl
     have H1 := Lib.hid hi1
     clear hi1
     go_wp2_with (go_at_call 51; refine (HQ.out _ (by omega) hb255).mono ?_; rintro e w' ⟨rfl, rfl⟩)
     have hr0 : r = .error 1 := by rw [← HE.out, HD.out, intF, if_pos (.inr H1.out)]
     subst hr0
     refine bodyPost_ret (v := .tuple #[.agg #[.int .i64 0, .string ⟨#[]⟩, .int .i64 0, .int .i64 0, .int .u64 0], .int .i64 1]) (by simp [results, Try.results52, go_sem, d0, d1, d2, d3, d4, hlt1]) rfl ⟨rfl, ?_⟩
     exact (hst.of_alloc.five (Nat.le_refl _)).alloc _
    ·have hor : (((i : Int) == 1) = true ∧ ((t[0].toNat : Int) == 48) = false) ∨ (((i : Int) == 1) = false) := by
       by_cases e1 : i = 1
       ·exact .inl ⟨by rw [e1]; rfl, by rw [beq_eq_false_iff_ne]; exact fun e => hi1 ⟨e1, byte_is 48 e⟩⟩
       ·exact .inr (by rw [beq_eq_false_iff_ne]; omega)
     have H1 := Lib.hid hi1
     clear hi1
     by_cases h19 : 19 ≤ i
     ·have HR2 : Hid (r = .error 2) := by
        show r = .error 2
        rw [← HE.out, HD.out, intF, if_neg (fun e => e.elim (by rw [HX.out]; simp) H1.out), if_pos]
        have := HA.out.big H1.out (by omega) h19
        omega
      have hb1 : ((i : Int) == 1) = false := by rw [beq_eq_false_iff_ne]; omega
      have hge : decide (19 ≤ (i : Int)) = true := by rw [decide_eq_true_eq]; omega
      clear hor
      ·go_wp2_with (go_at_call 51; refine (HQ.out _ (by omega) hb255).mono ?_; rintro e w' ⟨rfl, rfl⟩)
       rw [HR2.out]
       refine bodyPost_ret (v := .tuple #[.agg #[.int .i64 0, .string ⟨#[]⟩, .int .i64 0, .int .i64 0, .int .u64 0], .int .i64 2]) (by simp [results, Try.results52, go_sem, d0, d1, d2, d3, d4, hlt1]) rfl ⟨rfl, ?_⟩
       exact (hst.of_alloc.five (Nat.le_refl _)).alloc _
     ·have hge : decide (19 ≤ (i : Int)) = false := by rw [decide_eq_false_iff_not]; omega
      by_cases hbig : (v : Int) ≤ (9223372036854775807 - ((t[i].toNat : Int) - 48)) / 10
      ·have HN2 : Hid (intF t[0] (t.data.toList.drop (i + 1)) (i + 1) (v * 10 + (t[i].toNat - 48)) = r ∧ IntAt t[0] (i + 1) (v * 10 + (t[i].toNat - 48)) ∧ v * 10 + (t[i].toNat - 48) ≤ 9223372036854775807 ∧ ((v : Int) * 10 + ((t[i].toNat : Int) - 48) = ((v * 10 + (t[i].toNat - 48) : Nat) : Int))) := by
         refine ⟨?_, ?_, by omega, by omega⟩
         ·rw [← HE.out, HD.out, intF, if_neg (fun e => e.elim (by rw [HX.out]; simp) H1.out), if_neg (by omega)]
         ·refine HA.out.next (c := t[i]) H1.out (by omega) ?_
          intro e0
          subst e0
          rfl
       have hgt : decide ((9223372036854775807 - ((t[i].toNat : Int) - 48)) / 10 < (v : Int)) = false := by rw [decide_eq_false_iff_not]; omega
       rcases hor with ⟨hb1, hb2⟩ | hb1
       all_goals
        go_wp2_with (go_at_call 51; refine (HQ.out _ (by omega) hb255).mono ?_; rintro e w' ⟨rfl, rfl⟩)
        obtain ⟨hn1, hn2, hn3, hn4⟩ := HN2.out
        rw [hn4]
        go_roundg (gk - 1)
        case rel =>
         exact ⟨i + 1, v * 10 + (t[i].toNat - 48), by omega, by omega, by omega, by go_num, hn3, by rw [← H00.out]; exact hn2, by rw [← H00.out]; exact hn1, rfl⟩
        case measure => omega
      ·have HR2 : Hid (r = .error 2) := by
         show r = .error 2
         rw [← HE.out, HD.out, intF, if_neg (fun e => e.elim (by rw [HX.out]; simp) H1.out), if_pos (by omega)]
       have hgt : decide ((9223372036854775807 - ((t[i].toNat : Int) - 48)) / 10 < (v : Int)) = true := by rw [decide_eq_true_eq]; omega
       rcases hor with ⟨hb1, hb2⟩ | hb1
       all_goals
        go_wp2_with (go_at_call 51; refine (HQ.out _ (by omega) hb255).mono ?_; rintro e w' ⟨rfl, rfl⟩)
        rw [HR2.out]
        refine bodyPost_ret (v := .tuple #[.agg #[.int .i64 0, .string ⟨#[]⟩, .int .i64 0, .int .i64 0, .int .u64 0], .int .i64 2]) (by simp [results, Try.results52, go_sem, d0, d1, d2, d3, d4, hlt1]) rfl ⟨rfl, ?_⟩
        exact (hst.of_alloc.five (Nat.le_refl _)).alloc _
  ·have hr0 : Hid (r = .ok v) := by
     show r = .ok v
     rw [← HE.out, List.drop_of_length_le (by rw [← Lib.size_eq]; omega)]; rfl
   go_wp2
   rw [hr0.out]
   refine bodyPost_ret (v := .tuple #[.agg #[.int .i64 3, .string t, .int .i64 0, .int .i64 0, .int .u64 v], .int .i64 0]) (by simp [results, Try.results52, go_sem, d0, d1, d2, d3, d4, hlt1]) rfl ⟨⟨by rw [HT.out]; rfl, ?_⟩, ?_⟩
   ·exact (hc.five (by omega)).alloc _
   ·exact (hst.of_alloc.five (Nat.le_refl _)).alloc _
theorem number_gives : Gives 52 numberF (fun _ => True) where
 ok b s p l f w kind n val m h hp hs _ _ _ he := by
  have hlen : ((s.data.toList.drop p).take (runF (s.data.toList.drop p))).length = runF (s.data.toList.drop p) := by
   rw [List.length_take]; have := runF_le (s.data.toList.drop p); omega
  unfold numberF numF at he
  rw [hlen] at he
  generalize hN : runF (s.data.toList.drop p) = N at *
  split at he
  ·rename_i hc
   obtain ⟨rfl, h2⟩ := hc
   split at he
   ·rename_i v hv
    simp at he
    obtain ⟨rfl, rfl, rfl⟩ := he
    refine (number_float b s p l f w h hp hs hN h2 (some v) hv).mono fun e w' q => ?_
    exact ⟨q.1.1, q.1.2, q.2⟩
   ·simp at he
  ·rename_i hc
   split at he
   ·rename_i v hv
    simp at he
    obtain ⟨rfl, rfl, rfl⟩ := he
    by_cases h18 : N = 18
    ·refine (number_int18 b s p l f N w h hp hs hN h18 (fun e => hc ⟨h18, e⟩) (.ok v) hv).mono fun e w' q => ?_
     exact ⟨q.1.1, q.1.2, q.2⟩
    ·refine (number_int b s p l f N w h hp hs hN h18 (.ok v) hv).mono fun e w' q => ?_
     exact ⟨q.1.1, q.1.2, q.2⟩
   ·simp at he
 bad b s p l f w c m h hp hs _ _ _ he := by
  have hlen : ((s.data.toList.drop p).take (runF (s.data.toList.drop p))).length = runF (s.data.toList.drop p) := by
   rw [List.length_take]; have := runF_le (s.data.toList.drop p); omega
  unfold numberF numF at he
  rw [hlen] at he
  generalize hN : runF (s.data.toList.drop p) = N at *
  split at he
  ·rename_i hc
   obtain ⟨rfl, h2⟩ := hc
   split at he
   ·simp at he
   ·rename_i hv
    simp at he
    subst he
    exact (number_float b s p l f w h hp hs hN h2 none hv).mono fun e w' q => q
  ·rename_i hc
   split at he
   ·simp at he
   ·rename_i v hv
    simp at he
    subst he
    by_cases h18 : N = 18
    ·exact (number_int18 b s p l f N w h hp hs hN h18 (fun e => hc ⟨h18, e⟩) (.error _) hv).mono fun e w' q => q
    ·exact (number_int b s p l f N w h hp hs hN h18 (.error _) hv).mono fun e w' q => q
end Go.Proofs.Ytppekkbaoimpgaa
