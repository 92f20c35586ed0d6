/- Contracts: PrintType; printed. -/
import Derived.Test.YtfjkkfdpeckccaaTreeL
namespace Go.Proofs.Ytfjkkfdpeckccaa
open Go.RowKit

set_option maxRecDepth 100000 in
set_option maxHeartbeats 400000 in
theorem printType_any (B : Nat) (t : Ty) (toks : List ByteArray) (cs : List Value) (w : World) (h : TyAt w B t cs) (hB : B ≤ w.heap.size) (hok : ∀ base pb, B ≤ pb → pb < base → TypOK 0 B base pb t toks) (ht : 0 < toks.length) (ht2 : toks.length ≤ 1000) (hp : (putB toks).size ≤ 100000) :
    Calls Try.prog 39 #[.agg cs.toArray] w fun e w' => e = .returned (.string (putB toks)) ∧ Step (fun _ => False) w w' := by
  have HX := Lib.hid h
  have HP := Lib.hid hp
  obtain ⟨k1, name1, life1, m1, lifes1, args1, l1, c1⟩ := t
  rw [TyAt] at h
  obtain ⟨vl1, va1, xs1, rfl, -⟩ := h
  obtain ⟨W, hW⟩ : ∃ W : World, W = (w.alloc (.cells #[.int .i64 k1, .string name1, .string life1, .bool m1, vl1, va1, .int .i64 l1, .int .i64 c1] 71)).alloc (.cells #[.slice none 0 0] 94) := ⟨_, rfl⟩
  have ST0 : Step (fun _ => False) w W := by rw [hW]; exact ((Step.refl _ _).alloc _).alloc _
  have hb0 : W.heap[w.heap.size]? = some (.cells #[.int .i64 k1, .string name1, .string life1, .bool m1, vl1, va1, .int .i64 l1, .int .i64 c1] 71 (0, 0)) := by rw [hW]; exact blk_alloc (blk_new _ _)
  have hb1 : W.heap[w.heap.size + 1]? = some (.cells #[.slice none 0 0] 94 (0, 0)) := by rw [hW]; exact blk_new2 _ _ _
  have hsz : W.heap.size = w.heap.size + 2 := by rw [hW]; simp
  have HG : Hid (Prt W (w.heap.size + 2) (w.heap.size + 1) (.slice none 0 0) []) := ⟨hb1, World.ownsRow_nil _ _ _ _, by omega⟩
  have HOK := Lib.hid (hok (w.heap.size + 2) (w.heap.size + 1) (by omega) (by omega) _ W (.slice none 0 0) [] (TyAt.step ST0 (fun _ _ h => h) _ _ HX.out) HG.out (Nat.le_refl _))
  have k0 : W.cell? ⟨w.heap.size, 0, none⟩ = some (.int .i64 k1) := blk_cell hb0 0 _ rfl
  have k1' : W.cell? ⟨w.heap.size, 1, none⟩ = some (.string name1) := blk_cell hb0 1 _ rfl
  have k2 : W.cell? ⟨w.heap.size, 2, none⟩ = some (.string life1) := blk_cell hb0 2 _ rfl
  have k3 : W.cell? ⟨w.heap.size, 3, none⟩ = some (.bool m1) := blk_cell hb0 3 _ rfl
  have k4 : W.cell? ⟨w.heap.size, 4, none⟩ = some vl1 := blk_cell hb0 4 _ rfl
  have k5 : W.cell? ⟨w.heap.size, 5, none⟩ = some va1 := blk_cell hb0 5 _ rfl
  have k6 : W.cell? ⟨w.heap.size, 6, none⟩ = some (.int .i64 l1) := blk_cell hb0 6 _ rfl
  have k7 : W.cell? ⟨w.heap.size, 7, none⟩ = some (.int .i64 c1) := blk_cell hb0 7 _ rfl
  have HW := Lib.hid hW
  have HS := Lib.hid hsz
  clear hW hb0 hb1 hsz hok hp
  go_enter Try.func39, Try.ntmps39
  go_wp2_with fail
  rw [← HW.out]
  refine HOK.out.mono ?_
  rintro e w3 ⟨rfl, v3, hg3, hc3⟩
  have hown := hg3.own
  rw [List.nil_append] at hown
  obtain ⟨g, c, rfl, hgb, hgw, hgc⟩ := owns_some hown ht
  have d0 : w3.cell? ⟨w.heap.size + 1, 0, none⟩ = some (.slice (some ⟨g, 0, none⟩) toks.length c) := blk_cell hg3.cell 0 _ rfl
  have HSTR : Hid (Strs w3 (.slice (some ⟨g, 0, none⟩) toks.length c) toks) := ⟨g, 0, c, rfl, hgw, hgc, fun i x hx => by
    have := hown.cells (g := g) rfl i (.string x) (by simp [hx])
    rwa [add_is] at this⟩
  have ST3 : Step (fun _ => False) w w3 := ST0.then hc3.step (fun i hi ht => by
    rcases ht with h | h
    · omega
    · simp [Value.ownBlock] at h)
  clear hg3 hc3 hown k0 k1' k2 k3 k4 k5 k6 k7
  go_wp2_with fail
  refine (put_any toks _ w3 HSTR.out (by have := HP.out; omega) (by omega)).mono ?_
  rintro e w4 ⟨rfl, h4⟩
  go_wp2
  go_ret
  exact ⟨rfl, ST3.trans h4⟩

end Go.Proofs.Ytfjkkfdpeckccaa
