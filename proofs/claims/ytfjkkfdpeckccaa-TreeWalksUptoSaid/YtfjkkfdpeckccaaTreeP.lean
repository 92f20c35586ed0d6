/- The statement TreeWalks walked. -/
import Derived.Test.YtfjkkfdpeckccaaTreeD
import Derived.Test.YtfjkkfdpeckccaaTreeG
import Derived.Test.YtfjkkfdpeckccaaTreeI
import Derived.Test.YtfjkkfdpeckccaaTreeN
import Derived.Test.YtfjkkfdpeckccaaTreeO
namespace Go.Proofs.Ytfjkkfdpeckccaa
open Go.RowKit

set_option maxRecDepth 100000 in
set_option maxHeartbeats 4000000 in
theorem treeWalks_any (B : Nat) (e : Ex) (l : List St) (cs : List Value) (u : Value) (xs : List Value) (w : World) (h : ExAt w B e cs) (hl : StsAt w B l xs) (hr : Row w B u l.length xs) (hB : B ≤ w.heap.size)
    (he : (seenE e).length ≤ 2000000) (hs : (seenS l).length ≤ 2000000) :
    Calls Try.prog 3 #[.agg cs.toArray, u] w fun e w' => e = .returned (.bool true) ∧ Step (fun _ => False) w w' := by
  have HX := Lib.hid h
  have HLS := Lib.hid hl
  have HR := Lib.hid hr
  obtain ⟨a, c, rfl, -⟩ := hr
  obtain ⟨k, name, val, m, args, names, body, ln, col⟩ := e
  rw [ExAt] at h
  obtain ⟨va, vn, vb, xa, xb, rfl, -, -, -, ⟨aa, ca', rfl, -⟩, ⟨an, cn, rfl, -⟩, -, ⟨ab, cb', rfl, -⟩⟩ := h
  obtain ⟨W0, hW0⟩ : ∃ W0 : World, W0 = w.alloc (.cells #[.int .i64 k, .string name, .int .u64 val, .bool m, .slice aa args.length ca', .slice an names.length cn, .slice ab body.length cb', .int .i64 ln, .int .i64 col] 29) := ⟨_, rfl⟩
  have ST0 : Step (fun _ => False) w W0 := by rw [hW0]; exact (Step.refl _ _).alloc _
  have HBK : Hid (W0.heap[w.heap.size]? = some (.cells #[.int .i64 k, .string name, .int .u64 val, .bool m, .slice aa args.length ca', .slice an names.length cn, .slice ab body.length cb', .int .i64 ln, .int .i64 col] 29 (0, 0))) := by show _ = _; rw [hW0]; exact blk_new _ _
  have HSZ : Hid (W0.heap.size = w.heap.size + 1) := by show _ = _; rw [hW0]; simp
  have HW0 := Lib.hid hW0
  have box : Hid (∀ (X : World), X.heap[w.heap.size]? = some (.cells #[.int .i64 k, .string name, .int .u64 val, .bool m, .slice aa args.length ca', .slice an names.length cn, .slice ab body.length cb', .int .i64 ln, .int .i64 col] 29 (0, 0)) →
      X.cell? ⟨w.heap.size, 0, none⟩ = some (.int .i64 k) ∧ X.cell? ⟨w.heap.size, 1, none⟩ = some (.string name) ∧ X.cell? ⟨w.heap.size, 2, none⟩ = some (.int .u64 val) ∧ X.cell? ⟨w.heap.size, 3, none⟩ = some (.bool m) ∧
      X.cell? ⟨w.heap.size, 4, none⟩ = some (.slice aa args.length ca') ∧ X.cell? ⟨w.heap.size, 5, none⟩ = some (.slice an names.length cn) ∧ X.cell? ⟨w.heap.size, 6, none⟩ = some (.slice ab body.length cb') ∧ X.cell? ⟨w.heap.size, 7, none⟩ = some (.int .i64 ln) ∧ X.cell? ⟨w.heap.size, 8, none⟩ = some (.int .i64 col)) :=
    fun X hX => ⟨blk_cell hX 0 _ rfl, blk_cell hX 1 _ rfl, blk_cell hX 2 _ rfl, blk_cell hX 3 _ rfl, blk_cell hX 4 _ rfl, blk_cell hX 5 _ rfl, blk_cell hX 6 _ rfl, blk_cell hX 7 _ rfl, blk_cell hX 8 _ rfl⟩
  clear hW0 hl
  go_enter Try.func3, Try.ntmps3
  go_wp2_with fail
  rw [← HW0.out]
  refine (printed_any W0).mono ?_
  rintro e1 w1 ⟨rfl, h1⟩
  obtain ⟨b0, b1, b2, b3, b4, b5, b6, b7, b8⟩ := box.out w1 (h1.keep HBK.out (fun h => h))
  have ST1 := ST0.trans h1
  go_wp2_with fail
  refine ((small_both B 8 (by omega)).1 _ _ w1 (ExAt.step ST1 (fun _ _ h => h) _ _ HX.out)).mono ?_
  rintro e2 w2 ⟨⟨b, rfl⟩, h2⟩
  clear b0 b1 b2 b3 b4 b5 b6 b7 b8
  have ST2 := ST1.trans h2
  cases b
  · go_wp2_with fail
    refine (printed_any w2).mono ?_
    rintro e3 w3 ⟨rfl, h3⟩
    go_wp2
    go_ret
    exact ⟨rfl, ST2.trans h3⟩
  go_wp2_with fail
  refine ((small_both B 6 (by omega)).2 l _ xs w2 (StsAt.step ST2 (fun _ _ h => h) _ _ HLS.out) (HR.out.step ST2 (fun _ _ h => h))).mono ?_
  rintro e3 w3 ⟨⟨b, rfl⟩, h3⟩
  have ST3 := ST2.trans h3
  cases b
  · go_wp2_with fail
    refine (printed_any w3).mono ?_
    rintro e3 w4 ⟨rfl, h4⟩
    go_wp2
    go_ret
    exact ⟨rfl, ST3.trans h4⟩
  have hmf : ∀ (fn : Fn) (first cap : Array Value) (w : World), (Instr.makeFunc fn first cap).run Try.prog w = .ok (.func fn first cap) w := fun _ _ _ _ => rfl
  have hbk3 := (h1.trans (h2.trans h3)).keep HBK.out (fun h => h)
  obtain ⟨b0, b1, b2, b3, b4, b5, b6, b7, b8⟩ := box.out w3 hbk3
  have hlt3 := blk_lt hbk3
  go_wp2_with fail
  have hnil : ∀ (q k : Nat), ¬ k = q → ¬ Turns q (.slice none 0 0) k := by
    rintro q k hk (h | h)
    · exact hk h
    · simp [Value.ownBlock] at h
  have hw3 : w.heap.size < w3.heap.size := hlt3
  have ST3v : Step (fun _ => False) w3 ((w3.alloc (.cells #[.slice none 0 0] 33)).alloc (.cells #[.slice none 0 0] 33)) := ((Step.refl _ _).alloc _).alloc _
  have HGa : Hid (Gath ((w3.alloc (.cells #[.slice none 0 0] 33)).alloc (.cells #[.slice none 0 0] 33)) (w3.heap.size + 2) w3.heap.size (.slice none 0 0) []) := ⟨blk_alloc (blk_new _ _), World.ownsRow_nil _ _ _ _, by simp⟩
  refine ((walk_both 13 B (w3.heap.size + 2) w3.heap.size (fun xs w => by go_simp) (sees1 _ _ _) (by omega) (by omega) (SizeOf.sizeOf (Ex.mk k name val m args names body ln col) + 1)).1 _ _ _ (.slice none 0 0) [] (Nat.lt_succ_self _) (ExAt.step (ST3.trans ST3v) (fun _ _ h => h) _ _ HX.out) HGa.out (by simpa using Nat.le_trans he (by decide))).mono ?_
  rintro e4 w4 ⟨rfl, v4, hg4, hc4⟩
  rw [List.nil_append] at hg4
  clear b0 b1 b2 b3 b4 b5 b6 b7 b8
  have ST4 : Step (· = w3.heap.size) ((w3.alloc (.cells #[.slice none 0 0] 33)).alloc (.cells #[.slice none 0 0] 33)) w4 := hc4.step.mono (fun k _ hk => by
    rcases hk with h | h
    · exact h
    · simp [Value.ownBlock] at h)
  have hbk4 := (ST3v.keep hbk3 (fun h => h))
  have hbk4 := ST4.keep hbk4 (by omega)
  have hbb4 : w4.heap[w3.heap.size + 1]? = some (.cells #[.slice none 0 0] 33 (0, 0)) := ST4.keep (blk_new2 _ _ _) (by omega)
  have hsz4 : w3.heap.size + 2 ≤ w4.heap.size := by simpa using ST4.size
  have ST4w : Step (fun _ => False) w w4 := ST3.then ((ST3v.mono (fun _ _ h => h.elim) : Step (· = w3.heap.size) _ _).trans ST4) (fun i hi h => by omega)
  have HG4 := Lib.hid hg4
  have HGb : Hid (Gath w4 w4.heap.size (w3.heap.size + 1) (.slice none 0 0) []) := ⟨hbb4, World.ownsRow_nil _ _ _ _, Nat.le_refl _⟩
  clear hg4 hc4 hbb4
  go_wp2_with fail
  refine ((walk_both 15 B w4.heap.size (w3.heap.size + 1) (fun xs w => by go_simp) (sees2 _ _ _) (by omega) (by omega) (SizeOf.sizeOf l + 1)).2 l _ xs w4 (.slice none 0 0) [] (Nat.lt_succ_self _) (StsAt.step ST4w (fun _ _ h => h) _ _ HLS.out) (HR.out.step ST4w (fun _ _ h => h)) HGb.out (by simpa using Nat.le_trans hs (by decide))).mono ?_
  rintro e5 w5 ⟨rfl, v5, hg5, hc5⟩
  rw [List.nil_append] at hg5
  have ST5 : Step (· = w3.heap.size + 1) w4 w5 := hc5.step.mono (fun k _ hk => by
    rcases hk with h | h
    · exact h
    · simp [Value.ownBlock] at h)
  have hbk5 := ST5.keep hbk4 (by omega)
  have ha5 := ST5.keep HG4.out.cell (by omega)
  have hoa5 := ST5.owns HG4.out.own (fun k hk => by omega)
  have ST5w : Step (fun _ => False) w w5 := ST4w.then ST5 (fun i hi h => by omega)
  obtain ⟨b0, b1, b2, b3, b4, b5, b6, b7, b8⟩ := box.out w5 hbk5
  have HG5 := Lib.hid hg5
  have HA5 := Lib.hid ha5
  have HOA5 := Lib.hid hoa5
  clear hg5 hc5 ha5 hoa5
  go_wp2_with fail
  refine (walkE_nil B _ _ w5 (ExAt.step ST5w (fun _ _ h => h) _ _ HX.out)).mono ?_
  rintro e6 w6 ⟨rfl, h6⟩
  clear b0 b1 b2 b3 b4 b5 b6 b7 b8
  go_wp2_with fail
  have ST6w := ST5w.trans h6
  refine (walkN_all B (SizeOf.sizeOf l + 1) l _ xs w6 (Nat.lt_succ_self _) (StsAt.step ST6w (fun _ _ h => h) _ _ HLS.out) (HR.out.step ST6w (fun _ _ h => h))).mono ?_
  rintro e7 w7 ⟨rfl, h7⟩
  have ST7w := ST6w.trans h7
  have h57 := h6.trans h7
  have hbk7 := h57.keep hbk5 (fun h => h)
  obtain ⟨b0, b1, b2, b3, b4, b5, b6, b7, b8⟩ := box.out w7 hbk7
  have ca := blk_cell (h57.keep HA5.out (fun h => h)) 0 _ rfl
  have cb := blk_cell (h57.keep HG5.out.cell (fun h => h)) 0 _ rfl
  have OA7 := Lib.hid (h57.owns HOA5.out (fun _ _ h => h))
  have OB7 := Lib.hid (h57.owns HG5.out.own (fun _ _ h => h))
  obtain ⟨oa, oc, rfl⟩ := owns_slice OA7.out
  obtain ⟨pa, pc, rfl⟩ := owns_slice OB7.out
  have KEEP : Hid (∀ X : World, Step (fun _ => False) w7 X → (X.cell? ⟨w.heap.size, 0, none⟩ = some (.int .i64 k) ∧ X.cell? ⟨w.heap.size, 1, none⟩ = some (.string name) ∧ X.cell? ⟨w.heap.size, 2, none⟩ = some (.int .u64 val) ∧ X.cell? ⟨w.heap.size, 3, none⟩ = some (.bool m) ∧
      X.cell? ⟨w.heap.size, 4, none⟩ = some (.slice aa args.length ca') ∧ X.cell? ⟨w.heap.size, 5, none⟩ = some (.slice an names.length cn) ∧ X.cell? ⟨w.heap.size, 6, none⟩ = some (.slice ab body.length cb') ∧ X.cell? ⟨w.heap.size, 7, none⟩ = some (.int .i64 ln) ∧ X.cell? ⟨w.heap.size, 8, none⟩ = some (.int .i64 col)) ∧
      X.cell? ⟨w3.heap.size, 0, none⟩ = some (.slice oa (seenE (.mk k name val m args names body ln col)).length oc) ∧ X.cell? ⟨w3.heap.size + 1, 0, none⟩ = some (.slice pa (seenS l).length pc) ∧ Step (fun _ => False) w7 X) :=
    fun X hX => ⟨box.out X (hX.keep hbk7 (fun h => h)), hX.cell ca (fun h => h), hX.cell cb (fun h => h), hX⟩
  have RA : Hid (∀ X : World, Step (fun _ => False) w7 X → Row X X.heap.size (.slice oa (seenE (.mk k name val m args names body ln col)).length oc) (seenE (.mk k name val m args names body ln col)).length (intsV (seenE (.mk k name val m args names body ln col)))) :=
    fun X hX => Row.of_owns (hX.owns OA7.out (fun _ _ h => h)) (Nat.le_refl _)
  have RB : Hid (∀ X : World, Step (fun _ => False) w7 X → Row X X.heap.size (.slice pa (seenS l).length pc) (seenS l).length (intsV (seenS l))) :=
    fun X hX => Row.of_owns (hX.owns OB7.out (fun _ _ h => h)) (Nat.le_refl _)
  go_wp2
  clear ca cb b0 b1 b2 b3 b4 b5 b6 b7 b8
  go_region_held3 (fun X => (X.cell? ⟨w.heap.size, 0, none⟩ = some (.int .i64 k) ∧ X.cell? ⟨w.heap.size, 1, none⟩ = some (.string name) ∧ X.cell? ⟨w.heap.size, 2, none⟩ = some (.int .u64 val) ∧ X.cell? ⟨w.heap.size, 3, none⟩ = some (.bool m) ∧
      X.cell? ⟨w.heap.size, 4, none⟩ = some (.slice aa args.length ca') ∧ X.cell? ⟨w.heap.size, 5, none⟩ = some (.slice an names.length cn) ∧ X.cell? ⟨w.heap.size, 6, none⟩ = some (.slice ab body.length cb') ∧ X.cell? ⟨w.heap.size, 7, none⟩ = some (.int .i64 ln) ∧ X.cell? ⟨w.heap.size, 8, none⟩ = some (.int .i64 col)) ∧
      X.cell? ⟨w3.heap.size, 0, none⟩ = some (.slice oa (seenE (.mk k name val m args names body ln col)).length oc) ∧ X.cell? ⟨w3.heap.size + 1, 0, none⟩ = some (.slice pa (seenS l).length pc) ∧ Step (fun _ => False) w7 X)
    (first | exact KEEP.out _ ((Step.refl _ _).drew) | exact KEEP.out _ ST8 | exact KEEP.out _ ST9 | exact KEEP.out _ ST10 | exact KEEP.out _ ST11)
    (first
      | (go_at_call 16
         refine (ints_any _ _ _ _ _ w10 (RB.out _ ST10) (Row.of_owns HN10.out (Nat.le_refl _))).mono ?_
         rintro e11 w11 ⟨rfl, h11⟩
         have ST11 : Step (fun _ => False) w7 w11 := ST10.trans h11)
      | (go_at_call 18
         refine ((seen_both B (SizeOf.sizeOf l + 1)).2 l _ xs w9 (Nat.lt_succ_self _) (StsAt.step (ST7w.trans ST9) (fun _ _ h => h) _ _ HLS.out) (HR.out.step (ST7w.trans ST9) (fun _ _ h => h)) (Nat.le_trans hs (by decide))).mono ?_
         rintro e10 w10 ⟨v10, rfl, hown10, h10⟩
         obtain ⟨oa10, oc10, rfl⟩ := owns_slice hown10
         have ST10 : Step (fun _ => False) w7 w10 := ST9.trans h10
         have HN10 := Lib.hid hown10
         clear hown10)
      | (go_at_call 16
         refine (ints_any _ _ _ _ _ w8 (RA.out _ ST8) (Row.of_owns HN8.out (Nat.le_refl _))).mono ?_
         rintro e9 w9 ⟨rfl, h9⟩
         have ST9 : Step (fun _ => False) w7 w9 := ST8.trans h9)
      | (go_at_call 17
         refine ((seen_both B (SizeOf.sizeOf (Ex.mk k name val m args names body ln col) + 1)).1 _ _ w7.drew (Nat.lt_succ_self _) (ExAt.step (ST7w.trans (Step.refl _ _).drew) (fun _ _ h => h) _ _ HX.out) (Nat.le_trans he (by decide))).mono ?_
         rintro e8 w8 ⟨v8, rfl, hown8, h8⟩
         obtain ⟨oa8, oc8, rfl⟩ := owns_slice hown8
         have ST8 : Step (fun _ => False) w7 w8 := ((Step.refl _ _).drew).trans h8
         have HN8 := Lib.hid hown8
         clear hown8))
  go_wp2
  go_ret
  exact ⟨rfl, ST7w.trans ST11⟩

end Go.Proofs.Ytfjkkfdpeckccaa
