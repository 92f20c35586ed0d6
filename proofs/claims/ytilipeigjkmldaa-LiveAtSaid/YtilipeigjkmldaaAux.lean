/- Small helpers of this seat's proofs: blocks, rows that one owns, steps. -/
import Derived.Test.YtilipeigjkmldaaBase
import Derived.Deep.QuietTactic
import Derived.BigQuiet
import Derived.BigRegion
import Derived.Deep.LoopGhost
import Derived.Deep.RegionHeld3
import Derived.Lib.Hide
import Derived.Laws.AppendOwnNone
import Derived.Laws.BitsAllLaws
import Derived.IntWalk
namespace Go.Proofs.Ytilipeigjkmldaa
open Go.RowKit

theorem blk_new_set (w : World) (a : Addr) (v : Value) (o : Obj) : ((w.setCell a v).alloc o).heap[w.heap.size]? = some o := by
  have := heap_alloc_new (w.setCell a v) o
  simpa [World.setCell] using this
theorem blk_new (w : World) (o : Obj) : (w.alloc o).heap[w.heap.size]? = some o := heap_alloc_new w o
theorem cell_alloc {w : World} {a : Addr} {v : Value} {o : Obj} (h : w.cell? a = some v) : (w.alloc o).cell? a = some v :=
  (World.grownBy_alloc w o none).cell h (by simp)
theorem cell_set {w : World} {a p : Addr} {v u : Value} (h : w.cell? a = some v) (hn : a.block ≠ p.block) : (w.setCell p u).cell? a = some v :=
  (World.cell?_of_block (Below.heap_setCell w p u a.block hn)).trans h
theorem Step.cell {S : Nat → Prop} {w w' : World} {a : Addr} {v : Value} (hs : Step S w w') (h : w.cell? a = some v) (hn : ¬ S a.block) : w'.cell? a = some v :=
  (World.cell?_of_block (hs.block a.block (World.block_lt_of_cell? w a h) hn)).trans h
theorem news_cells {w : World} {b t : Nat} {cs : List Value} (h : w.heap[b]? = some (.cells cs.toArray t (0, 0))) : ∀ (j : Nat) (u : Value), cs[j]? = some u → w.cell? ((⟨b, 0, none⟩ : Addr).add j) = some u := by
  intro j u hu
  have hadd : (⟨b, 0, none⟩ : Addr).add j = ⟨b, j, none⟩ := by unfold Addr.add; split <;> simp_all
  rw [hadd]
  exact blk_cell h j u (by simpa using hu)
theorem blk_new2 (w : World) (o1 o2 : Obj) : ((w.alloc o1).alloc o2).heap[w.heap.size + 1]? = some o2 := by
  have := heap_alloc_new (w.alloc o1) o2
  simpa using this
theorem owned_row {w : World} {base : Nat} {e : TypeId} {size : Nat} {v : Value} {n : Nat} {xs : List Value} (h : w.ownsRow base e size v n xs) : ∀ k, v.ownBlock = some k → base ≤ k := fun k hk => (h.lt k hk).1
theorem grown_keep {w w' : World} {row : Option Nat} (hg : w.grownBy w' row) {b : Nat} {o : Obj} (hb : w.heap[b]? = some o) (hn : ∀ k, row = some k → b ≠ k) : w'.heap[b]? = some o := by
  rw [hg.block b (blk_lt hb) (fun e => hn b e.symm rfl)]; exact hb
theorem owns_base {w : World} {base base' : Nat} {e : TypeId} {size : Nat} {v : Value} {n : Nat} {xs : List Value} (h : w.ownsRow base e size v n xs) (hb : base' ≤ base) : w.ownsRow base' e size v n xs := by
  refine ⟨h.1, ?_⟩
  rcases h.2 with hz | ⟨g, cap, cur, rfl, hg, rest⟩
  · exact .inl hz
  · exact .inr ⟨g, cap, cur, rfl, by omega, rest⟩
theorem blk2 {w : World} {b t : Nat} {a0 a1 : Value} (h : w.heap[b]? = some (.cells #[a0, a1] t (0, 0))) :
    (w.cell? ⟨b, 0, none⟩ = some a0 ∧ w.cell? ⟨b, 1, none⟩ = some a1) ∧ (w.frozen? ⟨b, 0, none⟩ = false ∧ w.frozen? ⟨b, 1, none⟩ = false) :=
  ⟨⟨blk_cell h 0 _ rfl, blk_cell h 1 _ rfl⟩, ⟨blk_free h 0, blk_free h 1⟩⟩
theorem blk3 {w : World} {b t : Nat} {a0 a1 a2 : Value} (h : w.heap[b]? = some (.cells #[a0, a1, a2] t (0, 0))) :
    (w.cell? ⟨b, 0, none⟩ = some a0 ∧ w.cell? ⟨b, 1, none⟩ = some a1 ∧ w.cell? ⟨b, 2, none⟩ = some a2) ∧
    (w.frozen? ⟨b, 0, none⟩ = false ∧ w.frozen? ⟨b, 1, none⟩ = false ∧ w.frozen? ⟨b, 2, none⟩ = false) :=
  ⟨⟨blk_cell h 0 _ rfl, blk_cell h 1 _ rfl, blk_cell h 2 _ rfl⟩, ⟨blk_free h 0, blk_free h 1, blk_free h 2⟩⟩
theorem owns_slice {w : World} {base : Nat} {e : TypeId} {size : Nat} {v : Value} {n : Nat} {xs : List Value} (h : w.ownsRow base e size v n xs) : ∃ a c, v = .slice a n c := by
  rcases h.2 with ⟨hv, h0⟩ | ⟨g, cap, cur, hv, _⟩
  · exact ⟨none, 0, by rw [hv, h0]⟩
  · exact ⟨_, _, hv⟩
theorem Step.owns {S : Nat → Prop} {w w' : World} {base : Nat} {e : TypeId} {size : Nat} {v : Value} {n : Nat} {xs : List Value} (hs : Step S w w') (h : w.ownsRow base e size v n xs) (hn : ∀ k, base ≤ k → ¬ S k) : w'.ownsRow base e size v n xs := by
  refine ⟨h.1, ?_⟩
  rcases h.2 with hz | ⟨g, cap, cur, rfl, hb, hgg, rest⟩
  · exact .inl hz
  · exact .inr ⟨g, cap, cur, rfl, hb, hs.keep hgg (hn g hb), rest⟩
theorem dec_lt {a b : Int} (h : a < b) : decide (a < b) = true := decide_eq_true h
theorem dec_ge {a b : Int} (h : b ≤ a) : decide (a < b) = false := decide_eq_false (by omega)
theorem grown_step {w w' : World} {row : Option Nat} (h : w.grownBy w' row) : Step (fun k => row = some k) w w' := (Step.refl _ _).grown h (fun _ hk _ => hk)
def intsV (l : List Int) : List Value := l.map (.int .i64)
theorem intsV_get (l : List Int) (i : Nat) (x : Int) (h : l[i]? = some x) : (intsV l)[i]? = some (.int .i64 x) := by simp [intsV, h]
theorem intsV_one (l : List Int) : ∀ u ∈ intsV l, u.oneCell' = true := by
  intro u hu
  obtain ⟨x, _, rfl⟩ := List.mem_map.1 hu
  rfl
theorem intsV_append (l r : List Int) : intsV (l ++ r) = intsV l ++ intsV r := by simp [intsV]
theorem intsV_length (l : List Int) : (intsV l).length = l.length * 1 := by simp [intsV]
theorem Step.toBelow {w w' : World} (h : Step (fun _ => False) w w') : Below w.heap.size w w' := ⟨h.os, h.tape, h.output, h.size, fun k hk => h.block k hk (fun e => e)⟩

def SomeBool (w : World) (e : Ending) (w' : World) : Prop := (∃ b, e = .returned (.bool b)) ∧ Step (fun _ => False) w w'
def IsBool (b : Bool) (w : World) (e : Ending) (w' : World) : Prop := e = .returned (.bool b) ∧ Step (fun _ => False) w w'

end Go.Proofs.Ytilipeigjkmldaa
