/- Contracts of the cutter: a name; a lifetime. -/
import Derived.Test.YtfjkkfdpeckccaaLexC
namespace Go.Proofs.Ytfjkkfdpeckccaa
open Go.RowKit

/- A block of five cells, known whole. -/
theorem blk5 {w : World} {b t : Nat} {a0 a1 a2 a3 a4 : Value} (h : w.heap[b]? = some (.cells #[a0, a1, a2, a3, a4] t (0, 0))) :
    (w.cell? ⟨b, 0, none⟩ = some a0 ∧ w.cell? ⟨b, 1, none⟩ = some a1 ∧ w.cell? ⟨b, 2, none⟩ = some a2 ∧ w.cell? ⟨b, 3, none⟩ = some a3 ∧ w.cell? ⟨b, 4, none⟩ = some a4) ∧
    (w.frozen? ⟨b, 0, none⟩ = false ∧ w.frozen? ⟨b, 1, none⟩ = false ∧ w.frozen? ⟨b, 2, none⟩ = false ∧ w.frozen? ⟨b, 3, none⟩ = false ∧ w.frozen? ⟨b, 4, none⟩ = false) :=
  ⟨⟨blk_cell h 0 _ rfl, blk_cell h 1 _ rfl, blk_cell h 2 _ rfl, blk_cell h 3 _ rfl, blk_cell h 4 _ rfl⟩, ⟨blk_free h 0, blk_free h 1, blk_free h 2, blk_free h 3, blk_free h 4⟩⟩
theorem blk_new_set (w : World) (a : Addr) (v : Value) (o : Obj) : ((w.setCell a v).alloc o).heap[w.heap.size]? = some o := by
  have := heap_alloc_new (w.setCell a v) o
  simpa [World.setCell] using this
theorem blk_new (w : World) (o : Obj) : (w.alloc o).heap[w.heap.size]? = some o := heap_alloc_new w o

theorem heap_five (w : World) (r b : Nat) (v0 v1 v2 v3 v4 : Value) (hr : b ≠ r) :
    (((((w.setCell ⟨r, 0, none⟩ v0).setCell ⟨r, 1, none⟩ v1).setCell ⟨r, 2, none⟩ v2).setCell ⟨r, 3, none⟩ v3).setCell ⟨r, 4, none⟩ v4).heap[b]? = w.heap[b]? := by
  rw [Below.heap_setCell _ _ _ _ hr, Below.heap_setCell _ _ _ _ hr, Below.heap_setCell _ _ _ _ hr, Below.heap_setCell _ _ _ _ hr, Below.heap_setCell _ _ _ _ hr]
theorem Cut.five {w : World} {b r : Nat} {s : ByteArray} {p l f : Nat} {v0 v1 v2 v3 v4 : Value} (h : Cut w b s p l f) (hr : b ≠ r) :
    Cut (((((w.setCell ⟨r, 0, none⟩ v0).setCell ⟨r, 1, none⟩ v1).setCell ⟨r, 2, none⟩ v2).setCell ⟨r, 3, none⟩ v3).setCell ⟨r, 4, none⟩ v4) b s p l f := ⟨by rw [heap_five _ _ _ _ _ _ _ _ hr]; exact h.out⟩
theorem Step.five {S : Nat → Prop} {a w : World} {r : Nat} {v0 v1 v2 v3 v4 : Value} (h : Step S a w) (hr : a.heap.size ≤ r) :
    Step S a (((((w.setCell ⟨r, 0, none⟩ v0).setCell ⟨r, 1, none⟩ v1).setCell ⟨r, 2, none⟩ v2).setCell ⟨r, 3, none⟩ v3).setCell ⟨r, 4, none⟩ v4) := by
  have hq : ∀ i, (⟨r, i, none⟩ : Addr).block < a.heap.size → S r := fun i h => absurd h (Nat.not_lt.2 hr)
  exact ((((h.setCell _ _ (hq 0)).setCell _ _ (hq 1)).setCell _ _ (hq 2)).setCell _ _ (hq 3)).setCell _ _ (hq 4)
theorem Step.of_alloc {S : Nat → Prop} {w w' : World} {o : Obj} (h : Step S (w.alloc o) w') : Step S w w' := ((Step.refl S w).alloc o).trans h

theorem Step.of_set {w w' : World} {b i : Nat} {v : Value} (h : Step (· = b) (w.setCell ⟨b, i, none⟩ v) w') : Step (· = b) w w' :=
  ((Step.refl (· = b) w).setCell ⟨b, i, none⟩ v (fun _ => rfl)).trans h

/- What one of the cutter's methods gives for a text: a token's kind, length and value, or what is wrong with it. -/
structure Gives (k : Nat) (F : List UInt8 → Except Nat (Nat × Nat × Nat)) (G : List UInt8 → Prop) : Prop where
  ok : ∀ (b : Nat) (s : ByteArray) (p l f : Nat) (w : World) (kind n val : Nat) (m : Int), Cut w b s p l f → p < s.size → s.size ≤ 100000 → w.cell? ⟨0, 0, none⟩ = some (.int .i64 m) → b ≠ 0 → G (s.data.toList.drop p) →
    F (s.data.toList.drop p) = .ok (kind, n, val) →
    Calls Try.prog k #[.pointer (some ⟨b, 0, none⟩)] w fun e w' =>
      e = .returned (.tuple #[.agg #[.int .i64 kind, .string (s.extract p (p + n)), .int .i64 0, .int .i64 0, .int .u64 val], .int .i64 0]) ∧ Cut w' b s (p + n) l f ∧ Step (· = b) w w'
  bad : ∀ (b : Nat) (s : ByteArray) (p l f : Nat) (w : World) (c : Nat) (m : Int), Cut w b s p l f → p < s.size → s.size ≤ 100000 → w.cell? ⟨0, 0, none⟩ = some (.int .i64 m) → b ≠ 0 → G (s.data.toList.drop p) →
    F (s.data.toList.drop p) = .error c →
    Calls Try.prog k #[.pointer (some ⟨b, 0, none⟩)] w fun e w' =>
      e = .returned (.tuple #[.agg #[.int .i64 0, .string ⟨#[]⟩, .int .i64 0, .int .i64 0, .int .u64 0], .int .i64 c]) ∧ Step (· = b) w w'

def nameF (l : List UInt8) : Except Nat (Nat × Nat × Nat) := if 24 < runF l then .error 2 else .ok (1, runF l, 0)

theorem extract_size (s : ByteArray) (p n : Nat) (h : p + n ≤ s.size) : (s.extract p (p + n)).size = n := by
  rw [ByteArray.size_extract]; omega

set_option maxHeartbeats 400000 in
theorem name_ok (b : Nat) (s : ByteArray) (p l f : Nat) (w : World) (h : Cut w b s p l f) (hp : p < s.size) (hs : s.size ≤ 100000) (hn : runF (s.data.toList.drop p) ≤ 24) :
    Calls Try.prog 52 #[.pointer (some ⟨b, 0, none⟩)] w fun e w' =>
      e = .returned (.tuple #[.agg #[.int .i64 1, .string (s.extract p (p + runF (s.data.toList.drop p))), .int .i64 0, .int .i64 0, .int .u64 0], .int .i64 0]) ∧ Cut w' b s (p + runF (s.data.toList.drop p)) l f ∧ Step (· = b) w w' := by
  have hlt : b < w.heap.size := blk_lt h.out
  have hrl : p + runF (s.data.toList.drop p) ≤ s.size := by have := runF_le (s.data.toList.drop p); simp at this; omega
  go_enter Try.func52, Try.ntmps52
  go_wp2_with fail
  refine (run_any _ _ _ _ _ _ _ tests_name (h.alloc _) (Nat.le_of_lt hp) hs).mono ?_
  rintro e w1 ⟨rfl, hc, hst⟩
  have hsz := extract_size s p _ hrl
  generalize hN : runF (s.data.toList.drop p) = N at *
  have hr := blk5 (hst.keep (blk_new w _) (by omega))
  obtain ⟨⟨d0, d1, d2, d3, d4⟩, e0, e1, e2, e3, e4⟩ := hr
  have hNN := Lib.hid hN
  clear hN
  go_wp2
  refine bodyPost_ret (v := .tuple #[.agg #[.int .i64 1, .string (s.extract p (p + N)), .int .i64 0, .int .i64 0, .int .u64 0], .int .i64 0]) (by simp [results, Try.results52, go_sem, d0, d1, d2, d3, d4]) rfl ⟨by rw [hNN.out], ?_, ?_⟩
  · rw [hNN.out]; exact hc.five (by omega)
  · exact hst.of_alloc.five (Nat.le_refl _)

set_option maxHeartbeats 400000 in
theorem name_bad (b : Nat) (s : ByteArray) (p l f : Nat) (w : World) (h : Cut w b s p l f) (hp : p < s.size) (hs : s.size ≤ 100000) (hn : 24 < runF (s.data.toList.drop p)) :
    Calls Try.prog 52 #[.pointer (some ⟨b, 0, none⟩)] w fun e w' =>
      e = .returned (.tuple #[.agg #[.int .i64 0, .string ⟨#[]⟩, .int .i64 0, .int .i64 0, .int .u64 0], .int .i64 2]) ∧ Step (· = b) w w' := by
  have hlt : b < w.heap.size := blk_lt h.out
  have hrl : p + runF (s.data.toList.drop p) ≤ s.size := by have := runF_le (s.data.toList.drop p); simp at this; omega
  go_enter Try.func52, Try.ntmps52
  go_wp2_with fail
  refine (run_any _ _ _ _ _ _ _ tests_name (h.alloc _) (Nat.le_of_lt hp) hs).mono ?_
  rintro e w1 ⟨rfl, hc, hst⟩
  have hsz := extract_size s p _ hrl
  generalize hN : runF (s.data.toList.drop p) = N at *
  obtain ⟨⟨d0, d1, d2, d3, d4⟩, e0, e1, e2, e3, e4⟩ := blk5 (hst.keep (blk_new w _) (by omega))
  clear hN
  go_wp2
  refine bodyPost_ret (v := .tuple #[.agg #[.int .i64 0, .string ⟨#[]⟩, .int .i64 0, .int .i64 0, .int .u64 0], .int .i64 2]) (by simp [results, Try.results52, go_sem, d0, d1, d2, d3, d4]) rfl ⟨rfl, ?_⟩
  exact hst.of_alloc.five (Nat.le_refl _)

theorem name_gives : Gives 52 nameF (fun _ => True) where
  ok b s p l f w kind n val m h hp hs _ _ _ he := by
    unfold nameF at he
    split at he
    · simp at he
    · simp at he
      obtain ⟨rfl, rfl, rfl⟩ := he
      exact name_ok b s p l f w h hp hs (by omega)
  bad b s p l f w c m h hp hs _ _ _ he := by
    unfold nameF at he
    split at he
    · simp at he
      subst he
      exact name_bad b s p l f w h hp hs (by omega)
    · simp at he

/- A lifetime, at its sign. -/
def lifeF : List UInt8 → Except Nat (Nat × Nat × Nat)
  | [] => .error 1
  | _ :: r => if runF r = 0 ∨ isSmall ((r.headD 0).toNat : Int) = false then .error 1 else if 24 < runF r then .error 2 else .ok (2, runF r + 1, 0)

end Go.Proofs.Ytfjkkfdpeckccaa
