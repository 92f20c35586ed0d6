/- Contracts: the printer of types: Box, reference; PrintType of one type; printed. -/
import Derived.Test.YtfjkkfdpeckccaaTreeK
import Derived.Test.YtfjkkfdpeckccaaLexU
namespace Go.Proofs.Ytfjkkfdpeckccaa
open Go.RowKit

theorem enter_each : Enters1 89 := fun xs w => by go_simp

set_option maxRecDepth 100000 in
set_option maxHeartbeats 1000000 in
theorem typ_box (M B base pb : Nat) (hM : M ≤ 1000) (hB : B ≤ pb) (hab : pb < base) (n life : ByteArray) (m : Bool) (lifes : List ByteArray) (t : Ty) (ln c : Int) (toks : List ByteArray) (ht : TypOK (M + 2) B base pb t toks) (htk : toks.length ≤ 100) :
    TypOK M B base pb (.mk 6 n life m lifes [t] ln c) ([⟨#[66, 111, 120]⟩, ⟨#[60]⟩] ++ toks ++ [⟨#[62]⟩]) := by
  intro cs w v l h hg hl
  rw [TyAt] at h
  obtain ⟨vl, va, xs, rfl, -, -, -, -, hxs, hra⟩ := h
  have HG := Lib.hid hg
  have HT := Lib.hid ht
  have HX := Lib.hid hxs
  have HRA := Lib.hid hra
  obtain ⟨aa, ca, rfl, -⟩ := hra
  have HLB : Hid (¬ Turns pb v w.heap.size) := hg.new _ (Nat.le_refl _)
  clear hg ht hxs
  obtain ⟨W0, hW0⟩ : ∃ W0 : World, W0 = w.alloc (.cells #[.int .i64 6, .string n, .string life, .bool m, vl, .slice aa 1 ca, .int .i64 ln, .int .i64 c] 71) := ⟨_, rfl⟩
  have ST0 : Step (fun _ => False) w W0 := by rw [hW0]; exact (Step.refl _ _).alloc _
  have HBK : Hid (W0.heap[w.heap.size]? = some (.cells #[.int .i64 6, .string n, .string life, .bool m, vl, .slice aa 1 ca, .int .i64 ln, .int .i64 c] 71 (0, 0))) := by show _ = _; rw [hW0]; exact blk_new _ _
  have HG0 := Lib.hid (HG.out.step ST0)
  have k0 : W0.cell? ⟨w.heap.size, 0, none⟩ = some (.int .i64 6) := blk_cell HBK.out 0 _ rfl
  have HW0 := Lib.hid hW0
  clear hW0
  go_enter Try.func49, Try.ntmps49
  go_wp2_with fail
  rw [← HW0.out]
  have st1 : Step (fun _ => False) W0 (W0.alloc (.cells #[.string ⟨#[66, 111, 120]⟩, .string ⟨#[60]⟩] 9)) := (Step.refl _ _).alloc _
  have hsz : W0.heap.size = w.heap.size + 1 := by rw [HW0.out]; simp
  have hr0 := row_new [⟨#[66, 111, 120]⟩, ⟨#[60]⟩] 2 rfl (by decide) (blk_new W0 (.cells #[.string ⟨#[66, 111, 120]⟩, .string ⟨#[60]⟩] 9))
  rw [hsz] at hr0
  refine (put_val base pb v _ l [⟨#[66, 111, 120]⟩, ⟨#[60]⟩] _ _ (HG0.out.step st1) hab (by simp; omega) hr0).mono ?_
  rintro e w2 ⟨rfl, v2, hg2, hc2⟩
  have C2 := Lib.hid (Carry.pre (st1.mono (fun _ _ h => h.elim)) hc2)
  have hbk2 := C2.out.step.keep HBK.out HLB.out
  have k3 : w2.cell? ⟨w.heap.size, 5, none⟩ = some (.slice aa 1 ca) := blk_cell hbk2 5 _ rfl
  have HG2 := Lib.hid hg2
  have OLD := Lib.hid (Prt.old HG0.out hB hab)
  have HX2 := Lib.hid (TysAt.step C2.out.step OLD.out _ _ (TysAt.step ST0 (fun _ _ h => h) _ _ HX.out))
  have HR2 := Lib.hid ((HRA.out.step ST0 (fun _ _ h => h)).step C2.out.step OLD.out)
  clear hg2 hc2 hbk2 hr0 k0 hsz
  go_wp2_with fail
  refine (types_one (M + 2) B base pb t toks _ xs w2 v2 _ HT.out HX2.out HR2.out HG2.out (by simp; omega) hB hab enter_each).mono ?_
  rintro e w3 ⟨rfl, v3, hg3, hc3⟩
  have HG3 := Lib.hid hg3
  have C3 := Lib.hid (C2.out.trans hc3)
  clear hg3 hc3 k3
  have st4 : Step (fun _ => False) w3 (w3.alloc (.cells #[.string ⟨#[62]⟩] 9)) := (Step.refl _ _).alloc _
  have hlen : Hid (toks.length ≤ 100) := htk
  go_wp2_with fail
  refine (put_val base pb v3 _ _ [⟨#[62]⟩] _ _ (HG3.out.step st4) hab (by have := hlen.out; simp; omega) (row_new [⟨#[62]⟩] 1 rfl (by decide) (blk_new _ _))).mono ?_
  rintro e w4 ⟨rfl, v4, hg4, hc4⟩
  have HG4 := Lib.hid hg4
  have C4 := Lib.hid (C3.out.trans (Carry.pre (st4.mono (fun _ _ h => h.elim)) hc4))
  clear hg4 hc4
  go_wp2
  go_end0
  refine ⟨rfl, v4, ?_, Carry.pre (ST0.mono (fun _ _ h => h.elim)) C4.out⟩
  have := HG4.out
  rwa [List.append_assoc, List.append_assoc, ← List.append_assoc _ toks] at this

set_option maxRecDepth 100000 in
set_option maxHeartbeats 400000 in
theorem opt_val (base pb : Nat) (v : Value) (w : World) (l : List ByteArray) (hg : Prt w base pb v l) (hab : pb < base) (hl : l.length ≤ 2000) :
    Calls Try.prog 68 #[.pointer (some ⟨pb, 0, none⟩), .string ⟨#[39, 97]⟩] w (PutPost base pb v w (l ++ [⟨#[39, 97]⟩])) := by
  have HG := Lib.hid hg
  clear hg
  go_enter Try.func68, Try.ntmps68
  go_wp2_with fail
  have st4 : Step (fun _ => False) w (w.alloc (.cells #[.string ⟨#[39, 97]⟩] 9)) := (Step.refl _ _).alloc _
  refine (put_val base pb v _ _ [⟨#[39, 97]⟩] _ _ (HG.out.step st4) hab (by simp; omega) (row_new [⟨#[39, 97]⟩] 1 rfl (by decide) (blk_new _ _))).mono ?_
  rintro e w4 ⟨rfl, v4, hg4, hc4⟩
  have HG4 := Lib.hid hg4
  have C4 := Lib.hid (Carry.pre (st4.mono (fun _ _ h => h.elim)) hc4)
  clear hg4 hc4
  go_wp2
  go_end0
  exact ⟨rfl, v4, HG4.out, C4.out⟩

set_option maxRecDepth 100000 in
set_option maxHeartbeats 1000000 in
theorem typ_ref (M B base pb : Nat) (hM : M ≤ 1000) (hB : B ≤ pb) (hab : pb < base) (n : ByteArray) (lifes : List ByteArray) (t : Ty) (ln c : Int) (toks : List ByteArray) (ht : TypOK (M + 3) B base pb t toks) :
    TypOK M B base pb (.mk 7 n ⟨#[39, 97]⟩ true lifes [t] ln c) ([⟨#[38]⟩, ⟨#[39, 97]⟩, ⟨#[109, 117, 116]⟩] ++ toks) := by
  intro cs w v l h hg hl
  rw [TyAt] at h
  obtain ⟨vl, va, xs, rfl, -, -, -, -, hxs, hra⟩ := h
  have HG := Lib.hid hg
  have HT := Lib.hid ht
  have HX := Lib.hid hxs
  have HRA := Lib.hid hra
  obtain ⟨aa, ca, rfl, -⟩ := hra
  have HLB : Hid (¬ Turns pb v w.heap.size) := hg.new _ (Nat.le_refl _)
  clear hg ht hxs
  obtain ⟨W0, hW0⟩ : ∃ W0 : World, W0 = w.alloc (.cells #[.int .i64 7, .string n, .string ⟨#[39, 97]⟩, .bool true, vl, .slice aa 1 ca, .int .i64 ln, .int .i64 c] 71) := ⟨_, rfl⟩
  have ST0 : Step (fun _ => False) w W0 := by rw [hW0]; exact (Step.refl _ _).alloc _
  have HBK : Hid (W0.heap[w.heap.size]? = some (.cells #[.int .i64 7, .string n, .string ⟨#[39, 97]⟩, .bool true, vl, .slice aa 1 ca, .int .i64 ln, .int .i64 c] 71 (0, 0))) := by show _ = _; rw [hW0]; exact blk_new _ _
  have HG0 := Lib.hid (HG.out.step ST0)
  have k0 : W0.cell? ⟨w.heap.size, 0, none⟩ = some (.int .i64 7) := blk_cell HBK.out 0 _ rfl
  have HW0 := Lib.hid hW0
  clear hW0
  go_enter Try.func49, Try.ntmps49
  go_wp2_with fail
  rw [← HW0.out]
  have st1 : Step (fun _ => False) W0 (W0.alloc (.cells #[.string ⟨#[38]⟩] 9)) := (Step.refl _ _).alloc _
  have hsz : W0.heap.size = w.heap.size + 1 := by rw [HW0.out]; simp
  have hr0 := row_new [⟨#[38]⟩] 1 rfl (by decide) (blk_new W0 (.cells #[.string ⟨#[38]⟩] 9))
  rw [hsz] at hr0
  refine (put_val base pb v _ l [⟨#[38]⟩] _ _ (HG0.out.step st1) hab (by simp; omega) hr0).mono ?_
  rintro e w2 ⟨rfl, v2, hg2, hc2⟩
  have C2 := Lib.hid (Carry.pre (st1.mono (fun _ _ h => h.elim)) hc2)
  have hbk2 := C2.out.step.keep HBK.out HLB.out
  have k2 : w2.cell? ⟨w.heap.size, 2, none⟩ = some (.string ⟨#[39, 97]⟩) := blk_cell hbk2 2 _ rfl
  have HG2 := Lib.hid hg2
  have OLD := Lib.hid (Prt.old HG0.out hB hab)
  clear hg2 hc2 hbk2 hr0 k0 hsz
  go_wp2_with fail
  refine (opt_val base pb v2 w2 _ HG2.out hab (by simp; omega)).mono ?_
  rintro e w3 ⟨rfl, v3, hg3, hc3⟩
  have HG3 := Lib.hid hg3
  have C3 := Lib.hid (C2.out.trans hc3)
  have hbk3 := C3.out.step.keep HBK.out HLB.out
  have k3 : w3.cell? ⟨w.heap.size, 3, none⟩ = some (.bool true) := blk_cell hbk3 3 _ rfl
  clear hg3 hc3 k2 hbk3
  have st4 : Step (fun _ => False) w3 (w3.alloc (.cells #[.string ⟨#[109, 117, 116]⟩] 9)) := (Step.refl _ _).alloc _
  go_wp2_with fail
  refine (put_val base pb v3 _ _ [⟨#[109, 117, 116]⟩] _ _ (HG3.out.step st4) hab (by simp; omega) (row_new [⟨#[109, 117, 116]⟩] 1 rfl (by decide) (blk_new _ _))).mono ?_
  rintro e w4 ⟨rfl, v4, hg4, hc4⟩
  have HG4 := Lib.hid hg4
  have C4 := Lib.hid (C3.out.trans (Carry.pre (st4.mono (fun _ _ h => h.elim)) hc4))
  have hbk4 := C4.out.step.keep HBK.out HLB.out
  have k5 : w4.cell? ⟨w.heap.size, 5, none⟩ = some (.slice aa 1 ca) := blk_cell hbk4 5 _ rfl
  have HX4 := Lib.hid (TysAt.step C4.out.step OLD.out _ _ (TysAt.step ST0 (fun _ _ h => h) _ _ HX.out))
  have HR4 := Lib.hid ((HRA.out.step ST0 (fun _ _ h => h)).step C4.out.step OLD.out)
  clear hg4 hc4 hbk4 k3
  go_wp2_with fail
  refine (types_one (M + 3) B base pb t toks _ xs w4 v4 _ HT.out HX4.out HR4.out HG4.out (by simp; omega) hB hab enter_each).mono ?_
  rintro e w5 ⟨rfl, v5, hg5, hc5⟩
  have HG5 := Lib.hid hg5
  have C5 := Lib.hid (C4.out.trans hc5)
  clear hg5 hc5 k5
  go_wp2
  go_end0
  refine ⟨rfl, v5, ?_, Carry.pre (ST0.mono (fun _ _ h => h.elim)) C5.out⟩
  have := HG5.out
  rwa [List.append_assoc, List.append_assoc, List.append_assoc] at this

end Go.Proofs.Ytfjkkfdpeckccaa
