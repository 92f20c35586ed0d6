/- Contracts of package mir: right sides, instructions. -/
import Derived.Test.YtilipeigjkmldaaBodD
namespace Go.Proofs.Ytilipeigjkmldaa
open Go.RowKit

/- The tail: are all operands right? -/
def RightTail (B g : Nat) (b : Bod) (args : List Opd) : Prop := ∀ (bx : Nat) (v : Value) (xa : List Value) (w : World), BodP w B g b → Each (OpAt w B) args xa → Row w B v args.length xa → w.cell? ⟨bx, 0, none⟩ = some (.pointer (some ⟨g, 0, none⟩)) →
  Calls Try.prog 90 #[v, .func (.func 91) #[] #[.pointer (some ⟨bx, 0, none⟩)]] w (IsBool (args.any fun o => !opOk b.locals o) w)
theorem rightTail (B g : Nat) (b : Bod) (args : List Opd) : RightTail B g b args := fun bx v xa w h ho hr hbx =>
  containsOps_any 91 #[.pointer (some ⟨bx, 0, none⟩)] B (fun o => !opOk b.locals o) args xa v w (fun xs w => by go_simp) ho hr
    fun o _ cs w' hat hst => rightOne_any B g bx b o cs w' (h.step hst (fun _ _ h => h)) (hst.cell hbx (fun h => h)) hat

set_option maxRecDepth 100000 in
set_option maxHeartbeats 2000000 in
theorem right_any (B g : Nat) (b : Bod) (x : Ins) (va vp : Value) (at1 : Option Addr) (nt1 ct1 : Nat) (xa : List Value) (w : World) (h : BodP w B g b) (hoa : Each (OpAt w B) x.args xa) (hra : Row w B va x.args.length xa) (hrp : Row w B vp x.rpl.path.length (intsV x.rpl.path)) :
    Calls Try.prog 73 #[.pointer (some ⟨g, 0, none⟩), .agg #[.int .i64 x.rkind, va, .int .i64 x.rpl.loc, vp, .bool x.mu, .string x.rname, .int .i64 x.rn, .slice at1 nt1 ct1]] w (IsBool (rightOk b.locals x) w) := by
  have HB := Lib.hid h
  have HOA := Lib.hid hoa
  have HRA := Lib.hid hra
  have HRP := Lib.hid hrp
  obtain ⟨aa1, ca1, rfl, -⟩ := hra
  obtain ⟨ap1, cp1, rfl, -⟩ := hrp
  obtain ⟨c, hc⟩ : ∃ c : Int, c = cntF x.rkind := ⟨_, rfl⟩
  have HK : Hid (rightOk b.locals x = (((!decide (c = -2) && (decide (c < 0) || decide ((x.args.length : Int) = c))) && ((!decide (x.rkind = 2) || plOk b.locals x.rpl) && (!decide (x.rkind = 9) || (decide (0 < x.args.length) && decide (0 ≤ x.rn))))) && !(x.args.any fun o => !opOk b.locals o))) := by
    show _ = _; rw [any_not, hc]; rfl
  have hc2 : x.rkind = 2 → c = 0 := fun h => by rw [hc, h]; rfl
  have hc9 : x.rkind = 9 → c = -1 := fun h => by rw [hc, h]; rfl
  have HT := Lib.hid (rightTail B g b x.args)
  obtain ⟨W0, hW0⟩ : ∃ W0 : World, W0 = (w.alloc (.cells #[.pointer (some ⟨g, 0, none⟩)] 35)).alloc (.cells #[.int .i64 x.rkind, .slice aa1 x.args.length ca1, .int .i64 x.rpl.loc, .slice ap1 x.rpl.path.length cp1, .bool x.mu, .string x.rname, .int .i64 x.rn, .slice at1 nt1 ct1] 51) := ⟨_, rfl⟩
  have ST0 : Step (fun _ => False) w W0 := by rw [hW0]; exact ((Step.refl _ _).alloc _).alloc _
  have HBX : Hid (W0.heap[w.heap.size]? = some (.cells #[.pointer (some ⟨g, 0, none⟩)] 35 (0, 0))) := by show _ = _; rw [hW0]; exact blk_alloc (blk_new _ _)
  have HRT : Hid (W0.heap[w.heap.size + 1]? = some (.cells #[.int .i64 x.rkind, .slice aa1 x.args.length ca1, .int .i64 x.rpl.loc, .slice ap1 x.rpl.path.length cp1, .bool x.mu, .string x.rname, .int .i64 x.rn, .slice at1 nt1 ct1] 51 (0, 0))) := by show _ = _; rw [hW0]; exact blk_new2 _ _ _
  have HBX' : Hid (∀ X : World, Step (fun _ => False) W0 X → X.cell? ⟨w.heap.size, 0, none⟩ = some (.pointer (some ⟨g, 0, none⟩)) ∧ X.cell? ⟨w.heap.size + 1, 0, none⟩ = some (.int .i64 x.rkind) ∧ X.cell? ⟨w.heap.size + 1, 1, none⟩ = some (.slice aa1 x.args.length ca1) ∧ X.cell? ⟨w.heap.size + 1, 6, none⟩ = some (.int .i64 x.rn)) :=
    fun X hX => ⟨blk_cell (hX.keep HBX.out (fun h => h)) 0 _ rfl, blk_cell (hX.keep HRT.out (fun h => h)) 0 _ rfl, blk_cell (hX.keep HRT.out (fun h => h)) 1 _ rfl, blk_cell (hX.keep HRT.out (fun h => h)) 6 _ rfl⟩
  have p2 := blk_cell HRT.out 2 _ rfl
  have p3 := blk_cell HRT.out 3 _ rfl
  obtain ⟨hbx0, p0, p1, p6⟩ := HBX'.out W0 (Step.refl _ _)
  have HW0 := Lib.hid hW0
  have HC := Lib.hid hc
  clear h hoa hW0 hc
  go_enter Try.func73, Try.ntmps73
  go_wp2_with fail
  rw [← HW0.out]
  refine (count_any x.rkind W0).mono ?_
  rintro e w1 ⟨rfl, rfl⟩
  rw [← HC.out]
  by_cases hm : c = -2
  · have e1 : (c == -2) = true := by simpa using hm
    have k2 : x.rkind ≠ 2 := fun h => by have := hc2 h; omega
    have k9 : x.rkind ≠ 9 := fun h => by have := hc9 h; omega
    have HV : Hid (rightOk b.locals x = false) := by show _ = _; rw [HK.out, decide_eq_true hm]; rfl
    clear hc2 hc9 hm
    as_aux_lemma =>
      go_wp2
      go_ret
      exact ⟨ret_bool (by rw [HV.out]), ST0⟩
  have HM := Lib.hid hm
  have e1 : (c == -2) = false := by simpa using hm
  by_cases hpos : 0 ≤ c
  · have k9 : x.rkind ≠ 9 := fun h => by have := hc9 h; omega
    have e9 : (x.rkind == 9) = false := by simpa using k9
    have e0 : decide (0 ≤ c) = true := decide_eq_true hpos
    by_cases hn : (x.args.length : Int) = c
    · have en : ((x.args.length : Int) != c) = false := by simp [hn]
      have HN := Lib.hid hn
      clear hn hc9 k9 hm
      by_cases hk2 : x.rkind = 2
      · have ek2 : (x.rkind == 2) = true := by simpa using hk2
        cases hpl : plOk b.locals x.rpl with
        | false =>
          have HPL := Lib.hid hpl
          have HV : Hid (rightOk b.locals x = false) := by show _ = _; rw [HK.out, hpl, decide_eq_true hk2]; simp
          clear hpl hc2 hk2
          as_aux_lemma =>
            go_wp2_with fail
            refine (place_any B g b x.rpl _ _ (HB.out.step ST0 (fun _ _ h => h)) ⟨_, rfl, HRP.out.step ST0 (fun _ _ h => h)⟩).mono ?_
            rintro e w1 ⟨rfl, h1⟩
            rw [HPL.out]
            clear p0 p1 p2 p3 p6 hbx0
            obtain ⟨hbx0, p0, p1, p6⟩ := HBX'.out w1 h1
            go_wp2
            go_ret
            exact ⟨ret_bool (by rw [HV.out]), ST0.trans h1⟩
        | true =>
          have HPL := Lib.hid hpl
          have HV : Hid (rightOk b.locals x = !(x.args.any fun o => !opOk b.locals o)) := by
            show _ = _
            rw [HK.out, hpl, decide_eq_false HM.out, decide_eq_true HN.out, decide_eq_false (show ¬ x.rkind = 9 by omega)]; simp
          clear hpl hc2 hk2
          as_aux_lemma =>
            go_wp2_with fail
            refine (place_any B g b x.rpl _ _ (HB.out.step ST0 (fun _ _ h => h)) ⟨_, rfl, HRP.out.step ST0 (fun _ _ h => h)⟩).mono ?_
            rintro e w1 ⟨rfl, h1⟩
            rw [HPL.out]
            clear p0 p1 p2 p3 p6 hbx0
            obtain ⟨hbx0, p0, p1, p6⟩ := HBX'.out w1 h1
            go_wp2_with fail
            refine (HT.out w.heap.size _ xa w1 (HB.out.step (ST0.trans h1) (fun _ _ h => h)) (Each.mono (OpAt.step (ST0.trans h1) (fun _ _ h => h)) _ _ HOA.out) (HRA.out.step (ST0.trans h1) (fun _ _ h => h)) hbx0).mono ?_
            rintro e w2 ⟨rfl, h2⟩
            go_wp2
            go_ret
            exact ⟨ret_bool (by rw [HV.out]), ST0.trans (h1.trans h2)⟩
      · have ek2 : (x.rkind == 2) = false := by simpa using hk2
        have HV : Hid (rightOk b.locals x = !(x.args.any fun o => !opOk b.locals o)) := by
          show _ = _
          rw [HK.out, decide_eq_false HM.out, decide_eq_true HN.out, decide_eq_false hk2, decide_eq_false (show ¬ x.rkind = 9 by simpa using e9)]; simp
        clear hc2 hk2
        as_aux_lemma =>
          go_wp2_with fail
          refine (HT.out w.heap.size _ xa W0 (HB.out.step ST0 (fun _ _ h => h)) (Each.mono (OpAt.step ST0 (fun _ _ h => h)) _ _ HOA.out) (HRA.out.step ST0 (fun _ _ h => h)) hbx0).mono ?_
          rintro e w2 ⟨rfl, h2⟩
          go_wp2
          go_ret
          exact ⟨ret_bool (by rw [HV.out]), ST0.trans h2⟩
    · have en : ((x.args.length : Int) != c) = true := by simp [hn]
      have HV : Hid (rightOk b.locals x = false) := by show _ = _; rw [HK.out, decide_eq_false hn, decide_eq_false (show ¬ c < 0 by omega)]; simp
      clear hn hc2 hc9 k9 hm
      as_aux_lemma =>
        go_wp2
        go_ret
        exact ⟨ret_bool (by rw [HV.out]), ST0⟩
  · have k2 : x.rkind ≠ 2 := fun h => by have := hc2 h; omega
    have e2 : (x.rkind == 2) = false := by simpa using k2
    have e0 : decide (0 ≤ c) = false := decide_eq_false hpos
    have HC0 : Hid (decide (c < 0) = true) := decide_eq_true (by omega)
    have HK2 : Hid (decide (x.rkind = 2) = false) := decide_eq_false k2
    clear hc2 hm k2
    by_cases hk9 : x.rkind = 9
    · have ek9 : (x.rkind == 9) = true := by simpa using hk9
      by_cases hn : x.args.length = 0
      · have en : ((x.args.length : Int) == 0) = true := by simp [hn]
        have HV : Hid (rightOk b.locals x = false) := by show _ = _; rw [HK.out, decide_eq_true hk9, decide_eq_false (show ¬ 0 < x.args.length by omega)]; simp
        clear hn hc9 hk9
        as_aux_lemma =>
          go_wp2
          go_ret
          exact ⟨ret_bool (by rw [HV.out]), ST0⟩
      · have en : ((x.args.length : Int) == 0) = false := by simp [hn]
        by_cases hrn : x.rn < 0
        · have HV : Hid (rightOk b.locals x = false) := by show _ = _; rw [HK.out, decide_eq_true hk9, decide_eq_false (show ¬ 0 ≤ x.rn by omega)]; simp
          have er : decide (x.rn < 0) = true := decide_eq_true hrn
          clear hn hc9 hk9
          as_aux_lemma =>
            go_wp2
            go_ret
            exact ⟨ret_bool (by rw [HV.out]), ST0⟩
        · have HV : Hid (rightOk b.locals x = !(x.args.any fun o => !opOk b.locals o)) := by
            show _ = _
            rw [HK.out, decide_eq_false HM.out, HC0.out, HK2.out, decide_eq_true (show 0 < x.args.length by omega), decide_eq_true (show 0 ≤ x.rn by omega)]; simp
          have er : decide (x.rn < 0) = false := decide_eq_false hrn
          clear hn hc9 hk9
          as_aux_lemma =>
            go_wp2_with fail
            refine (HT.out w.heap.size _ xa W0 (HB.out.step ST0 (fun _ _ h => h)) (Each.mono (OpAt.step ST0 (fun _ _ h => h)) _ _ HOA.out) (HRA.out.step ST0 (fun _ _ h => h)) hbx0).mono ?_
            rintro e w2 ⟨rfl, h2⟩
            go_wp2
            go_ret
            exact ⟨ret_bool (by rw [HV.out]), ST0.trans h2⟩
    · have ek9 : (x.rkind == 9) = false := by simpa using hk9
      have HV : Hid (rightOk b.locals x = !(x.args.any fun o => !opOk b.locals o)) := by
        show _ = _
        rw [HK.out, decide_eq_false HM.out, HC0.out, HK2.out, decide_eq_false hk9]; simp
      clear hc9 hk9
      as_aux_lemma =>
        go_wp2_with fail
        refine (HT.out w.heap.size _ xa W0 (HB.out.step ST0 (fun _ _ h => h)) (Each.mono (OpAt.step ST0 (fun _ _ h => h)) _ _ HOA.out) (HRA.out.step ST0 (fun _ _ h => h)) hbx0).mono ?_
        rintro e w2 ⟨rfl, h2⟩
        go_wp2
        go_ret
        exact ⟨ret_bool (by rw [HV.out]), ST0.trans h2⟩

end Go.Proofs.Ytilipeigjkmldaa
