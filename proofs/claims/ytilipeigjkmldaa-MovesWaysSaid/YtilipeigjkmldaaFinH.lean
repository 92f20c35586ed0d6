/- finder.bad: may an access not be, with what is missing? -/
import Derived.Test.YtilipeigjkmldaaFinG
namespace Go.Proofs.Ytilipeigjkmldaa
open Go.RowKit

set_option maxRecDepth 100000 in
set_option maxHeartbeats 4000000 in
theorem bad_any (B g gb gi : Nat) (a : Acc) (cs : List Value) (l : List Pl) (s : Pl → Bool) (v : Value) (xs : List Value) (w : World) (hf : FR w B g gb l v xs) (ha : AcAt w B a cs) (hi : w.heap[gi]? = some (boolsO (l.map s))) (hB : B ≤ w.heap.size) (hpl : a.pl.path.length ≤ 1000000) :
    Calls Try.prog 66 #[.pointer (some ⟨g, 0, none⟩), .agg cs.toArray, .slice (some ⟨gi, 0, none⟩) l.length l.length] w (IsBool (badF a l s) w) := by
  have HFR := Lib.hid hf
  have HI := Lib.hid hi
  obtain ⟨va, rfl, hrow⟩ := ha
  have HROW := Lib.hid hrow
  obtain ⟨ap, cp, rfl, -⟩ := hrow
  obtain ⟨w1, hw1⟩ : ∃ w1 : World, w1 = w.alloc (.cells #[.int .i64 a.pl.loc, .slice ap a.pl.path.length cp, .int .i64 a.kind] 90) := ⟨_, rfl⟩
  have HST : Hid (Step (fun _ => False) w w1) := by show Step _ _ _; rw [hw1]; exact (Step.refl _ _).alloc _
  have HB1 : Hid (w1.heap[w.heap.size]? = some (.cells #[.int .i64 a.pl.loc, .slice ap a.pl.path.length cp, .int .i64 a.kind] 90 (0, 0))) := by show _ = _; rw [hw1]; exact blk_new w _
  have HW1 := Lib.hid hw1
  have HKB : Hid (∀ X, Step (fun _ => False) w1 X → X.cell? ⟨w.heap.size, 0, none⟩ = some (.int .i64 a.pl.loc) ∧ X.cell? ⟨w.heap.size, 1, none⟩ = some (.slice ap a.pl.path.length cp) ∧ X.cell? ⟨w.heap.size, 2, none⟩ = some (.int .i64 a.kind)) := by
    show ∀ X, _
    intro X hX
    have hb := hX.keep HB1.out (fun h => h)
    exact ⟨blk_cell hb 0 _ rfl, blk_cell hb 1 _ rfl, blk_cell hb 2 _ rfl⟩
  have HFX : Hid (∀ X, Step (fun _ => False) w1 X → FR X B g gb l v xs ∧ PlAt X B a.pl [.int .i64 a.pl.loc, .slice ap a.pl.path.length cp]) := by
    show ∀ X, _
    intro X hX
    have hs := HST.out.trans hX
    exact ⟨HFR.out.step hs (fun _ _ h => h), _, rfl, HROW.out.step hs (fun _ _ h => h)⟩
  have HD : Hid (∀ X, Step (fun _ => False) w1 X → Calls Try.prog 80 #[.agg #[.int .i64 a.pl.loc, .slice ap a.pl.path.length cp]] X (IsBool (dirF a.pl) X)) := by
    show ∀ X, _
    intro X hX
    exact direct_any a.pl _ B X (HFX.out X hX).2
  have HOWN : Hid (Calls Try.prog 82 #[.agg #[.int .i64 a.pl.loc, .slice ap a.pl.path.length cp]] w1 (OwnPost a.pl w1)) := own_any a.pl _ B w1 (HFX.out w1 (Step.refl _ _)).2 hpl
  have HG : Hid (g < B) := hf.lt
  have HBS : Hid (B ≤ w1.heap.size) := Nat.le_trans hB HST.out.size
  obtain ⟨vo, vc, rfl, hvc, hvm, -, hvr⟩ := hf.row
  have HVR := Lib.hid hvr
  obtain ⟨d0, d1, d2⟩ := HKB.out w1 (Step.refl _ _)
  clear hw1 hi hf hvr hB
  obtain ⟨dr, hdr⟩ : ∃ dr, dr = dirF a.pl := ⟨_, rfl⟩
  have HDR := Lib.hid hdr
  rw [← hdr] at HD
  clear hdr
  obtain ⟨r, hr⟩ : ∃ r, r = badF a l s := ⟨_, rfl⟩
  have HR : Hid (r = l.any fun q => s q && badOne a q) := hr
  rw [← hr]
  clear hr
  obtain ⟨x4, e4⟩ : ∃ x, (a.kind == 4) = x := ⟨_, rfl⟩
  obtain ⟨x5, e5⟩ : ∃ x, (a.kind == 5) = x := ⟨_, rfl⟩
  obtain ⟨x6, e6⟩ : ∃ x, (a.kind == 6) = x := ⟨_, rfl⟩
  have HBO : Hid (∀ q, badOne a q = if x5 || x6 then false else if x4 && dr then begF q (ownF a.pl) && decide (q.path.length < (ownF a.pl).path.length) else meetF q (ownF a.pl)) := by
    show ∀ q, _
    intro q
    unfold badOne
    rw [← e4, ← e5, ← e6, HDR.out]
    by_cases h5 : a.kind = 5 ∨ a.kind = 6
    · have e : (a.kind == 5 || a.kind == 6) = true := by simpa using h5
      rw [if_pos h5, e, if_pos rfl]
    · have e : (a.kind == 5 || a.kind == 6) = false := by simpa using h5
      rw [if_neg h5, e, if_neg Bool.false_ne_true]
      by_cases h4 : a.kind = 4 ∧ dirF a.pl = true
      · have e : (a.kind == 4 && dirF a.pl) = true := by simpa using h4
        rw [if_pos h4, e, if_pos rfl]
      · have e : (a.kind == 4 && dirF a.pl) = false := by simpa using h4
        rw [if_neg h4, e, if_neg Bool.false_ne_true]
  go_enter Try.func66, Try.ntmps66
  go_upto_region 1 with fail
  rw [← HW1.out]
  go_wp2_with fail
  refine HOWN.out.mono ?_
  rintro e w2 ⟨⟨u, rfl, ho⟩, s2⟩
  have HST2 := Lib.hid s2
  have hou := Row.of_owns (B := w2.heap.size) ho (Nat.le_refl _)
  have HOU := Lib.hid hou
  obtain ⟨au, cu, rfl⟩ := owns_slice ho
  have HST3 : Hid (Step (fun _ => False) w1 (w2.alloc (.cells #[.int .i64 (ownF a.pl).loc, .slice au (ownF a.pl).path.length cu] 47))) := s2.alloc _
  have HOB := Lib.hid (blk_new w2 (.cells #[.int .i64 (ownF a.pl).loc, .slice au (ownF a.pl).path.length cu] 47))
  have c1 := (HFX.out _ HST3.out).1.c1
  clear d0 d1 d2 s2 hou ho
  go_wp2_with fail
  obtain ⟨w3, hw3⟩ : ∃ w3 : World, w3 = w2.alloc (.cells #[.int .i64 (ownF a.pl).loc, .slice au (ownF a.pl).path.length cu] 47) := ⟨_, rfl⟩
  rw [← hw3] at HST3 HOB c1
  have HSZ3 : Hid (w3.heap.size = w2.heap.size + 1) := by show _ = _; rw [hw3]; simp
  have HST23 : Hid (Step (fun _ => False) w2 w3) := by show Step _ _ _; rw [hw3]; exact (Step.refl _ _).alloc _
  have HSTW : Hid (Step (fun _ => False) w w3) := HST.out.trans HST3.out
  rw [← hw3]
  clear hw3 c1
  have HKO : Hid (∀ X, Step (fun _ => False) w3 X → X.cell? ⟨w2.heap.size, 0, none⟩ = some (.int .i64 (ownF a.pl).loc) ∧ X.cell? ⟨w2.heap.size, 1, none⟩ = some (.slice au (ownF a.pl).path.length cu)) := by
    show ∀ X, _
    intro X hX
    have hb := hX.keep HOB.out (fun h => h)
    exact ⟨blk_cell hb 0 _ rfl, blk_cell hb 1 _ rfl⟩
  have HPO : Hid (∀ X, Step (fun _ => False) w3 X → PlAt X w3.heap.size (ownF a.pl) [.int .i64 (ownF a.pl).loc, .slice au (ownF a.pl).path.length cu]) := by
    show ∀ X, _
    intro X hX
    exact ⟨_, rfl, (HOU.out.step (HST23.out.trans hX) (fun _ _ h => h)).mono HST23.out.size⟩
  have HIX : Hid (∀ X, Step (fun _ => False) w3 X → X.heap[gi]? = some (boolsO (l.map s))) := by
    show ∀ X, _
    intro X hX
    exact (HSTW.out.trans hX).keep HI.out (fun h => h)
  go_loopg [8, 9, 18] l.length (fun gg _ _ s18 wr => ∃ k : Nat, s18 = .int .i64 k ∧ k ≤ l.length ∧ l.length - k ≤ gg ∧ (∀ j, j < k → ∀ y, l[j]? = some y → (s y && badOne a y) = false) ∧ Step (fun _ => False) w3 wr)
  case atStart => exact ⟨0, rfl, Nat.zero_le _, by omega, (fun j hj => absurd hj (Nat.not_lt_zero _)), Step.refl _ _⟩
  case round =>
    obtain ⟨k, rfl, hk, hgg, hno, hst⟩ := hrel
    have HNO := Lib.hid hno
    have HSTR := Lib.hid hst
    clear hno hst
    by_cases hlt : k < l.length
    · obtain ⟨q, hq⟩ : ∃ q, l[k]? = some q := ⟨l[k], List.getElem?_eq_getElem hlt⟩
      have HQ := Lib.hid hq
      have hfr := (HFX.out wr (HST3.out.trans HSTR.out)).1
      obtain ⟨a', c', hva, -, -, -, hra⟩ := hfr.row
      obtain ⟨rfl, -, rfl⟩ : vo = a' ∧ True ∧ vc = c' := by cases hva; exact ⟨rfl, trivial, rfl⟩
      obtain ⟨gS, oS, rfl, hgS, -, hcS⟩ := hra (by omega)
      obtain ⟨cq, hat, f⟩ := Each.cells 2 PlAt.len hfr.el hq hcS
      have HAT := Lib.hid (PlAt.mono (Nat.le_trans HBS.out HST3.out.size) _ _ hat)
      obtain ⟨vv, rfl, hqr⟩ := hat
      obtain ⟨aq, cqq, rfl, -⟩ := hqr
      have F := Lib.hid f
      have STA : Step (fun _ => False) wr (wr.alloc (.cells #[.int .i64 q.loc, .slice aq q.path.length cqq] 47)) := (Step.refl _ _).alloc _
      have HNB := Lib.hid (blk_new wr (.cells #[.int .i64 q.loc, .slice aq q.path.length cqq] 47))
      have ST4 : Step (fun _ => False) w3 (wr.alloc (.cells #[.int .i64 q.loc, .slice aq q.path.length cqq] 47)) := HSTR.out.trans STA
      have HST4 := Lib.hid ST4
      have HPQ : Hid (∀ X, Step (fun _ => False) wr X → PlAt X w3.heap.size q [.int .i64 q.loc, .slice aq q.path.length cqq]) := by
        show ∀ X, _
        intro X hX
        exact PlAt.step hX (fun _ _ h => h) _ _ HAT.out
      have hic := HIX.out _ ST4
      have hb0 := bools_cell hic (i := k) (b := s q) (by rw [List.getElem?_map, hq]; rfl)
      have hi0 : (0 : Int) ≤ (k : Int) := by omega
      have hi1 : (k : Int) < (l.length : Int) := by omega
      have HGO : Hid ((s q && badOne a q) = false → ∀ j, j < k + 1 → ∀ y, l[j]? = some y → (s y && badOne a y) = false) := by
        show _ → ∀ j, _
        intro h j hj y hy
        rcases Nat.lt_succ_iff_lt_or_eq.1 hj with h1 | rfl
        · exact HNO.out j h1 y hy
        · rw [HQ.out] at hy; cases hy; exact h
      have HYES : Hid ((s q && badOne a q) = true → r = true) := by
        show _ → _
        intro h
        rw [HR.out]
        exact List.any_eq_true.2 ⟨q, List.mem_of_getElem? HQ.out, h⟩
      have HBQ := Lib.hid (HBO.out q)
      clear hcS hra hva hfr f hq ST4 STA hic
      obtain ⟨sq, hsq⟩ : ∃ sq, sq = s q := ⟨_, rfl⟩
      rw [← hsq] at hb0 HGO HYES
      clear hsq
      obtain ⟨d0, d1, d2⟩ := HKB.out _ (HST3.out.trans HST4.out)
      obtain ⟨o0, o1⟩ := HKO.out _ HST4.out
      have q0 := blk_cell HNB.out 0 _ rfl
      have q1 := blk_cell HNB.out 1 _ rfl
      cases sq with
      | false =>
        have HG2 := Lib.hid (HGO.out rfl)
        clear d0 d1 d2 o0 o1 q0 q1
        go_wp2_with (refine wpList_load_whole rfl 47 (.tmp 21) rfl gS (oS + k * 2) rfl _ _ F.out Try.underlying47 rfl Try.sizePlace ?_)
        go_roundg (gk - 1)
        case rel => exact ⟨k + 1, by go_num, hlt, by omega, HG2.out, HST4.out⟩
        case measure => omega
      | true =>
        have HGO2 : Hid (badOne a q = false → ∀ j, j < k + 1 → ∀ y, l[j]? = some y → (s y && badOne a y) = false) := fun h => HGO.out (by rw [h]; rfl)
        have HYE2 : Hid (badOne a q = true → r = true) := fun h => HYES.out (by rw [h]; rfl)
        clear HGO HYES
        have HMEET : Hid (∀ X, Step (fun _ => False) w3 X → Step (fun _ => False) wr X → Calls Try.prog 84 #[.agg #[.int .i64 q.loc, .slice aq q.path.length cqq], .agg #[.int .i64 (ownF a.pl).loc, .slice au (ownF a.pl).path.length cu]] X (IsBool (meetF q (ownF a.pl)) X)) := by
          show ∀ X, _
          intro X h1 h2
          exact meet_any q (ownF a.pl) [.int .i64 q.loc, .slice aq q.path.length cqq] [.int .i64 (ownF a.pl).loc, .slice au (ownF a.pl).path.length cu] w3.heap.size X (HPQ.out X h2) (HPO.out X h1)
        cases x5 with
        | true =>
          have HG2 := Lib.hid (HGO2.out (by rw [HBQ.out]; rfl))
          go_wp2_with (refine wpList_load_whole rfl 47 (.tmp 21) rfl gS (oS + k * 2) rfl _ _ F.out Try.underlying47 rfl Try.sizePlace ?_)
          go_roundg (gk - 1)
          case rel => exact ⟨k + 1, by go_num, hlt, by omega, HG2.out, HST4.out⟩
          case measure => omega
        | false =>
        cases x6 with
        | true =>
          have HG2 := Lib.hid (HGO2.out (by rw [HBQ.out]; rfl))
          go_wp2_with (refine wpList_load_whole rfl 47 (.tmp 21) rfl gS (oS + k * 2) rfl _ _ F.out Try.underlying47 rfl Try.sizePlace ?_)
          go_roundg (gk - 1)
          case rel => exact ⟨k + 1, by go_num, hlt, by omega, HG2.out, HST4.out⟩
          case measure => omega
        | false =>
        cases x4 with
        | false =>
          have HBM : Hid (badOne a q = meetF q (ownF a.pl)) := HBQ.out
          go_wp2_with (refine wpList_load_whole rfl 47 (.tmp 21) rfl gS (oS + k * 2) rfl _ _ F.out Try.underlying47 rfl Try.sizePlace ?_)
          refine (HMEET.out _ HST4.out ((Step.refl _ _).alloc _)).mono ?_
          rintro e w5 ⟨rfl, s5⟩
          rw [← HBM.out]
          have HST5 := Lib.hid (HST4.out.trans s5)
          clear d0 d1 d2 o0 o1 q0 q1
          cases hb : badOne a q with
          | true =>
            have HF := Lib.hid (HYE2.out hb)
            clear hb
            go_wp2
            go_ret
            exact ⟨ret_bool HF.out.symm, HSTW.out.trans HST5.out⟩
          | false =>
            have HG2 := Lib.hid (HGO2.out hb)
            clear hb
            go_wp2
            go_roundg (gk - 1)
            case rel => exact ⟨k + 1, by go_num, hlt, by omega, HG2.out, HST5.out⟩
            case measure => omega
        | true =>
          go_wp2_with (refine wpList_load_whole rfl 47 (.tmp 21) rfl gS (oS + k * 2) rfl _ _ F.out Try.underlying47 rfl Try.sizePlace ?_)
          refine (HD.out _ (HST3.out.trans HST4.out)).mono ?_
          rintro e w5 ⟨rfl, s5⟩
          have HST5 := Lib.hid (HST4.out.trans s5)
          have HSTQ : Hid (Step (fun _ => False) wr w5) := ((Step.refl _ _).alloc _).trans s5
          have HNB5 := Lib.hid (s5.keep HNB.out (fun h => h))
          clear d0 d1 d2 o0 o1 q0 q1
          obtain ⟨o0, o1⟩ := HKO.out _ HST5.out
          have q0 := blk_cell HNB5.out 0 _ rfl
          have q1 := blk_cell HNB5.out 1 _ rfl
          cases dr with
          | false =>
            have HBM : Hid (badOne a q = meetF q (ownF a.pl)) := HBQ.out
            go_wp2_with fail
            refine (HMEET.out _ HST5.out HSTQ.out).mono ?_
            rintro e w6 ⟨rfl, s6⟩
            rw [← HBM.out]
            have HST6 := Lib.hid (HST5.out.trans s6)
            clear o0 o1 q0 q1
            cases hb : badOne a q with
            | true =>
              have HF := Lib.hid (HYE2.out hb)
              clear hb
              go_wp2
              go_ret
              exact ⟨ret_bool HF.out.symm, HSTW.out.trans HST6.out⟩
            | false =>
              have HG2 := Lib.hid (HGO2.out hb)
              clear hb
              go_wp2
              go_roundg (gk - 1)
              case rel => exact ⟨k + 1, by go_num, hlt, by omega, HG2.out, HST6.out⟩
              case measure => omega
          | true =>
            have HBM : Hid (badOne a q = (begF q (ownF a.pl) && decide (q.path.length < (ownF a.pl).path.length))) := HBQ.out
            go_wp2_with fail
            refine (begins_any q (ownF a.pl) [.int .i64 q.loc, .slice aq q.path.length cqq] [.int .i64 (ownF a.pl).loc, .slice au (ownF a.pl).path.length cu] w3.heap.size _ (HPQ.out _ HSTQ.out) (HPO.out _ HST5.out)).mono ?_
            rintro e w6 ⟨rfl, s6⟩
            have HST6 := Lib.hid (HST5.out.trans s6)
            have HNB6 := Lib.hid (s6.keep HNB5.out (fun h => h))
            clear o0 o1 q0 q1
            obtain ⟨o0, o1⟩ := HKO.out _ HST6.out
            have q0 := blk_cell HNB6.out 0 _ rfl
            have q1 := blk_cell HNB6.out 1 _ rfl
            obtain ⟨bq, hbq⟩ : ∃ b, b = begF q (ownF a.pl) := ⟨_, rfl⟩
            obtain ⟨lq, hlq⟩ : ∃ b, b = decide (q.path.length < (ownF a.pl).path.length) := ⟨_, rfl⟩
            rw [← hbq, ← hlq] at HBM
            rw [← hbq]
            have hlq2 : decide ((q.path.length : Int) < ((ownF a.pl).path.length : Int)) = lq := by
              rw [hlq]; exact decide_eq_decide.2 (by omega)
            have hlq3 := hlq.symm
            clear hbq hlq
            cases bq with
            | false =>
              have HG2 := Lib.hid (HGO2.out HBM.out)
              clear hlq2 hlq3
              go_wp2
              go_roundg (gk - 1)
              case rel => exact ⟨k + 1, by go_num, hlt, by omega, HG2.out, HST6.out⟩
              case measure => omega
            | true =>
              cases lq with
              | false =>
                have HG2 := Lib.hid (HGO2.out HBM.out)
                go_wp2
                go_roundg (gk - 1)
                case rel => exact ⟨k + 1, by go_num, hlt, by omega, HG2.out, HST6.out⟩
                case measure => omega
              | true =>
                have HF := Lib.hid (HYE2.out HBM.out)
                go_wp2
                go_ret
                exact ⟨ret_bool HF.out.symm, HSTW.out.trans HST6.out⟩
    · obtain rfl : k = l.length := by omega
      have HF : Hid (r = false) := by
        show _ = _
        rw [HR.out]
        cases e : l.any fun q => s q && badOne a q with
        | false => rfl
        | true =>
          obtain ⟨y, hy, he⟩ := List.any_eq_true.1 e
          obtain ⟨j, hj⟩ := List.getElem?_of_mem hy
          rw [HNO.out j (List.getElem?_eq_some_iff.1 hj).1 y hj] at he
          cases he
      go_wp2
      go_ret
      exact ⟨ret_bool HF.out.symm, HSTW.out.trans HSTR.out⟩

end Go.Proofs.Ytilipeigjkmldaa
