/- Contracts of package mir: instructions; Check. -/
import Derived.Test.YtilipeigjkmldaaBodE
namespace Go.Proofs.Ytilipeigjkmldaa
open Go.RowKit

set_option maxRecDepth 100000 in
set_option maxHeartbeats 2000000 in
theorem instr_any (B g : Nat) (b : Bod) (x : Ins) (cs : List Value) (w : World) (h : BodP w B g b) (hat : InAt w B x cs) :
    Calls Try.prog 52 #[.pointer (some ⟨g, 0, none⟩), .agg cs.toArray] w (IsBool (insOk b.locals x) w) := by
  have HB := Lib.hid h
  obtain ⟨vd, va, vp, vt, vc, xa, rfl, hr1, hoa, hra, hr2, ⟨at1, nt1, ct1, rfl⟩, hr3⟩ := hat; have HR1 := Lib.hid hr1; have HOA := Lib.hid hoa; have HRA := Lib.hid hra; have HR2 := Lib.hid hr2; have HR3 := Lib.hid hr3; obtain ⟨ad1, cd1, rfl, -⟩ := hr1; obtain ⟨aa1, ca1, rfl, -⟩ := hra; obtain ⟨ap1, cp1, rfl, -⟩ := hr2; obtain ⟨ac1, cc1, rfl, -⟩ := hr3; clear hoa
  obtain ⟨W0, hW0⟩ : ∃ W0 : World, W0 = w.alloc (.cells #[.int .i64 x.kind, .int .i64 x.loc, .int .i64 x.dest.loc, .slice ad1 x.dest.path.length cd1, .int .i64 x.rkind, .slice aa1 x.args.length ca1, .int .i64 x.rpl.loc, .slice ap1 x.rpl.path.length cp1, .bool x.mu, .string x.rname, .int .i64 x.rn, .slice at1 nt1 ct1,
    .int .i64 x.cond.kind, .int .i64 x.cond.pl.loc, .slice ac1 x.cond.pl.path.length cc1, .int .i64 x.cond.ty, .int .u64 x.cond.n, .int .i64 x.tgt, .int .i64 x.els, .int .i64 x.line, .int .i64 x.col] 57) := ⟨_, rfl⟩
  have ST0 : Step (fun _ => False) w W0 := by rw [hW0]; exact (Step.refl _ _).alloc _
  have HIB : Hid (W0.heap[w.heap.size]? = some (.cells #[.int .i64 x.kind, .int .i64 x.loc, .int .i64 x.dest.loc, .slice ad1 x.dest.path.length cd1, .int .i64 x.rkind, .slice aa1 x.args.length ca1, .int .i64 x.rpl.loc, .slice ap1 x.rpl.path.length cp1, .bool x.mu, .string x.rname, .int .i64 x.rn, .slice at1 nt1 ct1,
    .int .i64 x.cond.kind, .int .i64 x.cond.pl.loc, .slice ac1 x.cond.pl.path.length cc1, .int .i64 x.cond.ty, .int .u64 x.cond.n, .int .i64 x.tgt, .int .i64 x.els, .int .i64 x.line, .int .i64 x.col] 57 (0, 0))) := by show _ = _; rw [hW0]; exact blk_new _ _
  have i0 := blk_cell HIB.out 0 _ rfl
  have HW0 := Lib.hid hW0
  clear h hW0
  go_enter Try.func52, Try.ntmps52
  by_cases h1 : x.kind = 1
  · have HV : Hid (insOk b.locals x = locOk b.locals x.loc) := by show _ = _; unfold insOk; rw [if_pos (.inl h1)]; rfl
    have i1 := blk_cell HIB.out 1 _ rfl
    have HB0 := Lib.hid (HB.out.step ST0 (fun _ _ h => h))
    have e1 : (x.kind == 1) = true := by simpa using h1
    clear h1
    as_aux_lemma =>
      go_wp2_with fail
      rw [← HW0.out]
      go_wp2_with fail
      refine (local_any B g b x.loc W0 HB0.out).mono ?_
      rintro e w1 ⟨rfl, rfl⟩
      go_wp2
      go_ret
      exact ⟨ret_bool (by rw [HV.out]), ST0⟩
  have e1 : (x.kind == 1) = false := by simpa using h1
  by_cases h2 : x.kind = 2
  · have HV : Hid (insOk b.locals x = locOk b.locals x.loc) := by show _ = _; unfold insOk; rw [if_pos (.inr h2)]; rfl
    have i1 := blk_cell HIB.out 1 _ rfl
    have HB0 := Lib.hid (HB.out.step ST0 (fun _ _ h => h))
    have e2 : (x.kind == 2) = true := by simpa using h2
    clear h1 h2
    as_aux_lemma =>
      go_wp2_with fail
      rw [← HW0.out]
      go_wp2_with fail
      refine (local_any B g b x.loc W0 HB0.out).mono ?_
      rintro e w1 ⟨rfl, rfl⟩
      go_wp2
      go_ret
      exact ⟨ret_bool (by rw [HV.out]), ST0⟩
  have e2 : (x.kind == 2) = false := by simpa using h2
  by_cases h3 : x.kind = 3
  · have HV : Hid (insOk b.locals x = (plOk b.locals x.dest && rightOk b.locals x)) := by show _ = _; unfold insOk; rw [if_neg (by rintro (h | h) <;> contradiction), if_pos h3]
    have e3 : (x.kind == 3) = true := by simpa using h3
    have i2 := blk_cell HIB.out 2 _ rfl
    have i3 := blk_cell HIB.out 3 _ rfl
    have HB0 := Lib.hid (HB.out.step ST0 (fun _ _ h => h))
    clear h1 h2 h3
    cases hpl : plOk b.locals x.dest with
    | false =>
      have HPL := Lib.hid hpl
      clear hpl
      as_aux_lemma =>
        go_wp2_with fail
        rw [← HW0.out]
        go_wp2_with fail
        refine (place_any B g b x.dest _ W0 HB0.out ⟨_, rfl, HR1.out.step ST0 (fun _ _ h => h)⟩).mono ?_
        rintro e w1 ⟨rfl, hw1⟩
        rw [HPL.out]
        go_wp2
        go_ret
        exact ⟨ret_bool (by rw [HV.out, HPL.out]; rfl), ST0.trans hw1⟩
    | true =>
      have HPL := Lib.hid hpl
      clear hpl
      as_aux_lemma =>
        go_wp2_with fail
        rw [← HW0.out]
        go_wp2_with fail
        refine (place_any B g b x.dest _ W0 HB0.out ⟨_, rfl, HR1.out.step ST0 (fun _ _ h => h)⟩).mono ?_
        rintro e w1 ⟨rfl, hw1⟩
        rw [HPL.out]
        have ST1 := ST0.trans hw1
        have HIB1 := hw1.keep HIB.out (fun h => h)
        clear i0 i2 i3
        have i4 := blk_cell HIB1 4 _ rfl
        have i5 := blk_cell HIB1 5 _ rfl
        have i6 := blk_cell HIB1 6 _ rfl
        have i7 := blk_cell HIB1 7 _ rfl
        have i8 := blk_cell HIB1 8 _ rfl
        have i9 := blk_cell HIB1 9 _ rfl
        have i10 := blk_cell HIB1 10 _ rfl
        have i11 := blk_cell HIB1 11 _ rfl
        clear HIB1
        go_wp2_with fail
        refine (right_any B g b x _ _ at1 nt1 ct1 xa w1 (HB.out.step ST1 (fun _ _ h => h)) (Each.mono (OpAt.step ST1 (fun _ _ h => h)) _ _ HOA.out) (HRA.out.step ST1 (fun _ _ h => h)) (HR2.out.step ST1 (fun _ _ h => h))).mono ?_
        rintro e w2 ⟨rfl, hw2⟩
        go_wp2
        go_ret
        exact ⟨ret_bool (by rw [HV.out, HPL.out]; rfl), ST1.trans hw2⟩
  have e3 : (x.kind == 3) = false := by simpa using h3
  by_cases h5 : x.kind = 5
  · have HV : Hid (insOk b.locals x = opOk b.locals x.cond) := by show _ = _; unfold insOk; rw [if_neg (by rintro (h | h) <;> contradiction), if_neg h3, if_pos h5]
    have e5 : (x.kind == 5) = true := by simpa using h5
    have i12 := blk_cell HIB.out 12 _ rfl
    have i13 := blk_cell HIB.out 13 _ rfl
    have i14 := blk_cell HIB.out 14 _ rfl
    have i15 := blk_cell HIB.out 15 _ rfl
    have i16 := blk_cell HIB.out 16 _ rfl
    have HB0 := Lib.hid (HB.out.step ST0 (fun _ _ h => h))
    clear h1 h2 h3 h5
    as_aux_lemma =>
      go_wp2_with fail
      rw [← HW0.out]
      go_wp2_with fail
      refine (operand_any B g b x.cond _ W0 HB0.out ⟨_, rfl, HR3.out.step ST0 (fun _ _ h => h)⟩).mono ?_
      rintro e w1 ⟨rfl, hw1⟩
      go_wp2
      go_ret
      exact ⟨ret_bool (by rw [HV.out]), ST0.trans hw1⟩
  have e5 : (x.kind == 5) = false := by simpa using h5
  have HV : Hid (insOk b.locals x = (decide (1 ≤ x.kind) && decide (x.kind ≤ 7))) := by show _ = _; unfold insOk; rw [if_neg (by rintro (h | h) <;> contradiction), if_neg h3, if_neg h5]
  clear h1 h2 h3 h5
  by_cases ha : 1 ≤ x.kind
  · by_cases hb : x.kind ≤ 7
    · have HH : Hid (insOk b.locals x = true) := by show _ = _; rw [HV.out, decide_eq_true ha, decide_eq_true hb]; rfl
      as_aux_lemma =>
        go_wp2
        go_ret
        exact ⟨ret_bool (by rw [HH.out]), by rw [← HW0.out]; exact ST0⟩
    · have HH : Hid (insOk b.locals x = false) := by show _ = _; rw [HV.out, decide_eq_false hb, Bool.and_false]
      as_aux_lemma =>
        go_wp2
        go_ret
        exact ⟨ret_bool (by rw [HH.out]), by rw [← HW0.out]; exact ST0⟩
  · have HH : Hid (insOk b.locals x = false) := by show _ = _; rw [HV.out, decide_eq_false ha, Bool.false_and]
    as_aux_lemma =>
      go_wp2
      go_ret
      exact ⟨ret_bool (by rw [HH.out]), by rw [← HW0.out]; exact ST0⟩

end Go.Proofs.Ytilipeigjkmldaa
