/- The document's Check of a body whose instruction k goes outside: it answers k. -/
import Derived.Test.YtilipeigjkmldaaRCkAB
import Derived.StillTailTactics
namespace Go.Proofs.Ytilipeigjkmldaa
open Go.RowKit

structure ShIns (n : Nat) (x : Ins) : Prop where
  lo : 1 ≤ x.kind
  hi : x.kind ≤ 7
  loc : x.kind = 1 ∨ x.kind = 2 → 0 ≤ x.loc ∧ x.loc < (n : Int)
  set : x.kind = 3 → plOk n x.dest = true ∧ ShRight n x
  cond : x.kind = 5 → opOk n x.cond = true

set_option maxRecDepth 100000 in
set_option maxHeartbeats 8000000 in
theorem rcheck14_at (B k : Nat) (b : Bod) (bs : List Value) (w : World) (h : BodAt w B b bs) (hs : ∀ (i : Nat) x, b.code[i]? = some x → ShIns b.locals x) (hh : headOk b = true) (hn : b.code.length ≤ 100000) (hk : k < b.code.length)
    (hok : ∀ (i : Nat) x, i < k → b.code[i]? = some x → (succI x i).all (tgtOk b.code.length) = true) (hbad : ∀ x, b.code[k]? = some x → (succI x k).all (tgtOk b.code.length) = false) :
    Calls Try.prog 27 #[.agg bs.toArray] w fun e w' => e = .returned (.int .i64 k) ∧ Step (fun _ => False) w w' := by
  have H := Lib.hid h
  have HSI := Lib.hid hs
  have HOKH := Lib.hid hok
  have HBAD := Lib.hid hbad
  obtain ⟨vl, vc, xl, xs, rfl, ⟨a1, c1, rfl, -⟩, hxs, hrc⟩ := h
  have HXS := Lib.hid hxs
  have HRC := Lib.hid hrc
  obtain ⟨a2, c2, rfl, -⟩ := hrc
  simp only [headOk, Bool.and_eq_true, decide_eq_true_eq] at hh
  obtain ⟨hh1, hh2, hh3⟩ := hh
  obtain ⟨w1, hw1⟩ : ∃ w1 : World, w1 = w.alloc (.cells #[.string b.name, .int .i64 b.params, .slice a1 b.locals c1, .slice a2 b.code.length c2] 29) := ⟨_, rfl⟩
  have HST0 : Hid (Step (fun _ => False) w w1) := by show Step _ _ _; rw [hw1]; exact (Step.refl _ _).alloc _
  have HB1 : Hid (w1.heap[w.heap.size]? = some (.cells #[.string b.name, .int .i64 b.params, .slice a1 b.locals c1, .slice a2 b.code.length c2] 29 (0, 0))) := by show _ = _; rw [hw1]; exact blk_new w _
  have HW1 := Lib.hid hw1
  have HKB : Hid (∀ X : World, Step (fun _ => False) w1 X → X.cell? ⟨w.heap.size, 0, none⟩ = some (.string b.name) ∧ X.cell? ⟨w.heap.size, 1, none⟩ = some (.int .i64 b.params) ∧ X.cell? ⟨w.heap.size, 2, none⟩ = some (.slice a1 b.locals c1) ∧ X.cell? ⟨w.heap.size, 3, none⟩ = some (.slice a2 b.code.length c2)) := by
    show ∀ X, _
    intro X hX
    have hb := hX.keep HB1.out (fun h => h)
    exact ⟨blk_cell hb 0 _ rfl, blk_cell hb 1 _ rfl, blk_cell hb 2 _ rfl, blk_cell hb 3 _ rfl⟩
  obtain ⟨d0, d1, d2, d3⟩ := HKB.out w1 (Step.refl _ _)
  have e1 : decide (b.params < 0) = false := decide_eq_false (by omega)
  have e2 : decide ((b.locals : Int) ≤ b.params) = false := decide_eq_false (by omega)
  have e3 : ((b.code.length : Int) == 0) = false := beq_eq_false_iff_ne.2 (by omega)
  clear hs hok hbad hxs hw1 hh1 hh2
  go_enter Try.func27, Try.ntmps27
  go_upto_region 1 with fail
  rw [← HW1.out]
  go_wp2_with fail
  go_loopg [4] b.code.length (fun gg s4 wr => ∃ i : Nat, s4 = .int .i64 i ∧ i ≤ k ∧ b.code.length - i ≤ gg ∧ Step (fun _ => False) w1 wr)
  case atStart => exact ⟨0, rfl, Nat.zero_le _, by omega, Step.refl _ _⟩
  case round =>
    obtain ⟨i, rfl, hi, hgg, hst⟩ := hrel
    obtain ⟨go1, rfl⟩ : ∃ go1, go1 = gk := ⟨_, rfl⟩
    obtain ⟨wo, rfl⟩ : ∃ wo : World, wo = wr := ⟨_, rfl⟩
    have HST := Lib.hid hst
    clear hst d0 d1 d2 d3 e1 e2 e3
    obtain ⟨d0, d1, d2, d3⟩ := HKB.out wo HST.out
    have hil : i < b.code.length := by omega
    obtain ⟨x, hx⟩ : ∃ x, b.code[i]? = some x := ⟨_, List.getElem?_eq_getElem hil⟩
    have HOKI : Hid (i < k → (succI x i).all (tgtOk b.code.length) = true) := fun h => HOKH.out i x h hx
    have HNOK : Hid (i = k → (succI x i).all (tgtOk b.code.length) = false) := fun h => by subst h; exact HBAD.out x hx
    have HSH := Lib.hid (HSI.out i x hx)
    have HX := Lib.hid hx
    have HSW := Lib.hid (HST0.out.trans HST.out)
    obtain ⟨a', c', hva, -, -, -, hr⟩ := HRC.out.step HSW.out (fun _ _ h => h)
    obtain ⟨rfl, rfl⟩ : a2 = a' ∧ c2 = c' := by cases hva; exact ⟨rfl, rfl⟩
    obtain ⟨g', o', rfl, -, -, hcell⟩ := hr (by omega)
    have HSUC : Hid (∀ X, Step (fun _ => False) wo X → Calls Try.prog 36 #[.slice (some ⟨g', o', none⟩) b.code.length c2, .int .i64 i] X fun e w' => (∃ v, e = .returned v ∧ Row w' w'.heap.size v (succI x i).length (intsV (succI x i))) ∧ Step (fun _ => False) X w') := by
      show ∀ X, _
      intro X hX
      exact rsucc_any B b.code _ i x X ⟨xs, Each.mono (InAt.step (HSW.out.trans hX) (fun _ _ h => h)) _ _ HXS.out, HRC.out.step (HSW.out.trans hX) (fun _ _ h => h)⟩ HX.out
    obtain ⟨cs, hat, f⟩ := Each.cells 21 InAt.len (Each.mono (InAt.step HSW.out (fun _ _ h => h)) _ _ HXS.out) hx hcell
    have HONE := Lib.hid (InAt.one _ _ hat)
    obtain ⟨vd, va, vp, vt, vc, xa, rfl, hr1, hoa, hra, hr2, ⟨at1, nt1, ct1, rfl⟩, hr3⟩ := hat; have HR1 := Lib.hid hr1; have HOA := Lib.hid hoa; have HRA := Lib.hid hra; have HR2 := Lib.hid hr2; have HR3 := Lib.hid hr3; obtain ⟨ad1, cd1, rfl, -⟩ := hr1; obtain ⟨aa1, ca1, rfl, -⟩ := hra; obtain ⟨ap1, cp1, rfl, -⟩ := hr2; obtain ⟨ac1, cc1, rfl, -⟩ := hr3; clear hoa
    have F := Lib.hid f
    obtain ⟨W0, hW0⟩ : ∃ W0 : World, W0 = wo.alloc (.cells #[.int .i64 x.kind, .int .i64 x.loc, .int .i64 x.dest.loc, .slice ad1 x.dest.path.length cd1, .int .i64 x.rkind, .slice aa1 x.args.length ca1, .int .i64 x.rpl.loc, .slice ap1 x.rpl.path.length cp1, .bool x.mu, .string x.rname, .int .i64 x.rn, .slice at1 nt1 ct1, .int .i64 x.cond.kind, .int .i64 x.cond.pl.loc, .slice ac1 x.cond.pl.path.length cc1, .int .i64 x.cond.ty, .int .u64 x.cond.n, .int .i64 x.tgt, .int .i64 x.els, .int .i64 x.line, .int .i64 x.col] 57) := ⟨_, rfl⟩
    have HSI0 : Hid (Step (fun _ => False) wo W0) := by show Step _ _ _; rw [hW0]; exact (Step.refl _ _).alloc _
    have HBX : Hid (W0.heap[wo.heap.size]? = some (.cells #[.int .i64 x.kind, .int .i64 x.loc, .int .i64 x.dest.loc, .slice ad1 x.dest.path.length cd1, .int .i64 x.rkind, .slice aa1 x.args.length ca1, .int .i64 x.rpl.loc, .slice ap1 x.rpl.path.length cp1, .bool x.mu, .string x.rname, .int .i64 x.rn, .slice at1 nt1 ct1, .int .i64 x.cond.kind, .int .i64 x.cond.pl.loc, .slice ac1 x.cond.pl.path.length cc1, .int .i64 x.cond.ty, .int .u64 x.cond.n, .int .i64 x.tgt, .int .i64 x.els, .int .i64 x.line, .int .i64 x.col] 57 (0, 0))) := by show _ = _; rw [hW0]; exact blk_new _ _
    have HW0 := Lib.hid hW0
    have hi0 : (0 : Int) ≤ (i : Int) := by omega
    have hi1 : (i : Int) < (b.code.length : Int) := by omega
    clear hx hva hr hcell f hW0
    go_upto_region 8 with (first
      | (refine wpList_load_whole rfl 57 (.tmp 37) rfl g' (o' + i * 21) rfl _ _ F.out Try.underlying57 rfl Try.sizeIns ?_)
      | (refine wpList_store_new rfl 57 (.tmp 5) (.tmp 38) rfl _ _ rfl rfl Try.sizeIns rfl HONE.out ?_))
    rw [← HW0.out]
    clear F HONE d0 d1 d2 d3
    obtain ⟨d0, d1, d2, d3⟩ := HKB.out W0 (HST.out.trans HSI0.out)
    have i0 := blk_cell HBX.out 0 _ rfl
    have e1 : decide (1 ≤ x.kind) = true := decide_eq_true HSH.out.lo
    have e2 : decide (x.kind ≤ 7) = true := decide_eq_true HSH.out.hi
    go_upto_region 9 with fail
    obtain ⟨b12, hb12⟩ : ∃ b12, (x.kind == 1 || x.kind == 2) = b12 := ⟨_, rfl⟩
    have HB12 := Lib.hid hb12
    clear hb12
    go_cut [54] (fun s54 wx => s54 = .bool b12 ∧ wx = W0)
    case first =>
      by_cases hk1 : x.kind = 1
      · have q1 : (x.kind == 1) = true := by simp [hk1]
        obtain rfl : b12 = true := by rw [← HB12.out]; simp [hk1]
        clear hk1
        go_wp2_with fail
        go_meet
        case rel => exact ⟨rfl, rfl⟩
      · have q1 : (x.kind == 1) = false := by simp [hk1]
        have q2 : (x.kind == 2) = b12 := by rw [← HB12.out, q1]; rfl
        clear hk1
        go_wp2_with fail
        go_meet
        case rel => exact ⟨rfl, rfl⟩
    case rest =>
      obtain ⟨rfl, rfl⟩ := hcut
      obtain ⟨W0, rfl⟩ : ∃ W0 : World, W0 = wc := ⟨_, rfl⟩
      go_upto_if 54 with fail
      go_cut [6] (fun s6 wx => s6 = .bool true ∧ wx = W0)
      case first =>
        cases b12 with
        | false =>
          go_wp2_with fail
          go_meet
          case rel => exact ⟨rfl, rfl⟩
        | true =>
          obtain ⟨hl0, hl1⟩ := HSH.out.loc (by have h := HB12.out; simpa using h)
          have i1 := blk_cell HBX.out 1 _ rfl
          have e4 : decide (0 ≤ x.loc) = true := decide_eq_true hl0
          have e5 : decide (x.loc < (b.locals : Int)) = true := decide_eq_true hl1
          clear hl0 hl1
          go_wp2_with fail
          go_meet
          case rel => exact ⟨rfl, rfl⟩
      case rest =>
        obtain ⟨rfl, rfl⟩ := hcut
        obtain ⟨W0, rfl⟩ : ∃ W0 : World, W0 = wc := ⟨_, rfl⟩
        obtain ⟨b3, q3⟩ : ∃ b3, (x.kind == 3) = b3 := ⟨_, rfl⟩
        go_upto_if 66 with fail
        go_cut [6] (fun s6 wx => s6 = .bool true ∧ Step (fun _ => False) wo wx ∧ wx.heap[wo.heap.size]? = some (.cells #[.int .i64 x.kind, .int .i64 x.loc, .int .i64 x.dest.loc, .slice ad1 x.dest.path.length cd1, .int .i64 x.rkind, .slice aa1 x.args.length ca1, .int .i64 x.rpl.loc, .slice ap1 x.rpl.path.length cp1, .bool x.mu, .string x.rname, .int .i64 x.rn, .slice at1 nt1 ct1, .int .i64 x.cond.kind, .int .i64 x.cond.pl.loc, .slice ac1 x.cond.pl.path.length cc1, .int .i64 x.cond.ty, .int .u64 x.cond.n, .int .i64 x.tgt, .int .i64 x.els, .int .i64 x.line, .int .i64 x.col] 57 (0, 0)))
        case first =>
          cases b3 with
          | false =>
            go_wp2_with fail
            go_meet
            case rel => exact ⟨rfl, HSI0.out, HBX.out⟩
          | true =>
            obtain ⟨hp, hrt⟩ := HSH.out.set (by simpa using q3)
            have HP := Lib.hid hp
            have HRT := Lib.hid hrt
            have i2 := blk_cell HBX.out 2 _ rfl
            have i3 := blk_cell HBX.out 3 _ rfl
            have i4 := blk_cell HBX.out 4 _ rfl
            have i5 := blk_cell HBX.out 5 _ rfl
            have i6 := blk_cell HBX.out 6 _ rfl
            have i7 := blk_cell HBX.out 7 _ rfl
            have i8 := blk_cell HBX.out 8 _ rfl
            have i9 := blk_cell HBX.out 9 _ rfl
            have i10 := blk_cell HBX.out 10 _ rfl
            have i11 := blk_cell HBX.out 11 _ rfl
            clear q3 hp hrt
            go_wp2_with fail
            refine (rplace_any B b.locals x.dest [.int .i64 x.dest.loc, .slice ad1 x.dest.path.length cd1] W0 ⟨_, rfl, HR1.out.step HSI0.out (fun _ _ h => h)⟩).mono ?_
            rintro e wp ⟨rfl, sp⟩
            rw [HP.out]
            have hbx := sp.keep HBX.out (fun h => h)
            have HSP := Lib.hid (HSI0.out.trans sp)
            clear i0 i2 i3 i4 i5 i6 i7 i8 i9 i10 i11 d0 d1 d2 d3
            obtain ⟨d0, d1, d2, d3⟩ := HKB.out wp (HST.out.trans HSP.out)
            have i0 := blk_cell hbx 0 _ rfl
            have i4 := blk_cell hbx 4 _ rfl
            have i5 := blk_cell hbx 5 _ rfl
            have i6 := blk_cell hbx 6 _ rfl
            have i7 := blk_cell hbx 7 _ rfl
            have i8 := blk_cell hbx 8 _ rfl
            have i9 := blk_cell hbx 9 _ rfl
            have i10 := blk_cell hbx 10 _ rfl
            have i11 := blk_cell hbx 11 _ rfl
            clear sp
            go_wp2_with fail
            refine (rright_ok B b.locals x _ _ at1 nt1 ct1 xa wp (Each.mono (OpAt.step HSP.out (fun _ _ h => h)) _ _ HOA.out) (HRA.out.step HSP.out (fun _ _ h => h)) (HR2.out.step HSP.out (fun _ _ h => h)) HRT.out).mono ?_
            rintro e wq ⟨rfl, sq⟩
            have hbq := sq.keep hbx (fun h => h)
            have HSA := Lib.hid (HSP.out.trans sq)
            have HBQ := Lib.hid hbq
            clear i0 i4 i5 i6 i7 i8 i9 i10 i11 d0 d1 d2 d3 sq hbx hbq
            go_wp2_with fail
            go_meet
            case rel => exact ⟨rfl, HSA.out, HBQ.out⟩
        case rest =>
          obtain ⟨rfl, hsr, hbr⟩ := hcut
          have HSR := Lib.hid hsr
          have HBR := Lib.hid hbr
          clear hsr q3
          try clear i0 d0 d1 d2 d3
          have i0 := blk_cell hbr 0 _ rfl
          clear hbr
          obtain ⟨b5, q5⟩ : ∃ b5, (x.kind == 5) = b5 := ⟨_, rfl⟩
          obtain ⟨wr0, rfl⟩ : ∃ wr0 : World, wr0 = wc := ⟨_, rfl⟩
          go_upto_if 79 with fail
          go_cut [6] (fun s6 wx => s6 = .bool true ∧ Step (fun _ => False) wo wx)
          case first =>
            cases b5 with
            | false =>
              go_wp2_with fail
              go_meet
              case rel => exact ⟨rfl, HSR.out⟩
            | true =>
              have HCO := Lib.hid (HSH.out.cond (by simpa using q5))
              have i12 := blk_cell HBR.out 12 _ rfl
              have i13 := blk_cell HBR.out 13 _ rfl
              have i14 := blk_cell HBR.out 14 _ rfl
              have i15 := blk_cell HBR.out 15 _ rfl
              have i16 := blk_cell HBR.out 16 _ rfl
              clear q5
              go_wp2_with fail
              refine (roperand_any B b.locals x.cond [.int .i64 x.cond.kind, .int .i64 x.cond.pl.loc, .slice ac1 x.cond.pl.path.length cc1, .int .i64 x.cond.ty, .int .u64 x.cond.n] wr0 ⟨_, rfl, HR3.out.step HSR.out (fun _ _ h => h)⟩).mono ?_
              rintro e wp ⟨rfl, sp⟩
              rw [HCO.out]
              go_wp2_with fail
              go_meet
              case rel => exact ⟨rfl, HSR.out.trans sp⟩
          case rest =>
            obtain ⟨rfl, hsa⟩ := hcut
            have HSA := Lib.hid hsa
            obtain ⟨wa0, rfl⟩ : ∃ wa0 : World, wa0 = wc := ⟨_, rfl⟩
            clear hsa q5 i0
            obtain ⟨d0, d1, d2, d3⟩ := HKB.out wa0 (HST.out.trans HSA.out)
            go_wp2_with fail
            refine (HSUC.out _ HSA.out).mono ?_
            rintro e w2 ⟨⟨vL, rfl, hrL⟩, s2⟩
            obtain ⟨l, hl⟩ : ∃ l, l = succI x i := ⟨_, rfl⟩
            rw [← hl] at hrL
            have HL := Lib.hid hl
            have HRL := Lib.hid hrL
            obtain ⟨aL, cL, rfl, -⟩ := hrL
            have HS2 := Lib.hid (HSA.out.trans s2)
            have hll : l.length ≤ 2 := by rw [hl]; unfold succI; (repeat' split) <;> simp
            clear hl s2
            obtain ⟨d0, d1, d2, d3⟩ := HKB.out w2 (HST.out.trans HS2.out)
            go_wp2_with fail
            go_loopg [6, 8] l.length (fun gg s6 s8 wr => ∃ j : Nat, s8 = .int .i64 j ∧ j ≤ l.length ∧ l.length - j ≤ gg ∧ s6 = .bool ((l.take j).all (tgtOk b.code.length)) ∧ Step (fun _ => False) w2 wr)
            case atStart => exact ⟨0, rfl, Nat.zero_le _, by omega, rfl, Step.refl _ _⟩
            case round =>
              obtain ⟨j, rfl, hj, hgg2, rfl, hst2⟩ := hrel
              obtain ⟨bd, hbd⟩ : ∃ bd, bd = (l.take j).all (tgtOk b.code.length) := ⟨_, rfl⟩
              have HBD := Lib.hid hbd
              rw [← hbd]
              have HSTJ : Hid (Step (fun _ => False) w1 wr) := (HST.out.trans HS2.out).trans hst2
              have HSTK := Lib.hid hst2
              clear hbd d0 d1 d2 d3 hst2
              obtain ⟨d0, d1, d2, d3⟩ := HKB.out wr HSTJ.out
              by_cases hlt : j < l.length
              · obtain ⟨t, ht⟩ : ∃ t, l[j]? = some t := ⟨_, List.getElem?_eq_getElem hlt⟩
                obtain ⟨a', c', hva, -, -, -, hr⟩ := HRL.out.step HSTK.out (fun _ _ h => h)
                obtain ⟨rfl, rfl⟩ : aL = a' ∧ cL = c' := by cases hva; exact ⟨rfl, rfl⟩
                obtain ⟨gL, oL, rfl, -, -, hcell⟩ := hr (by omega)
                have f0 := hcell j _ (intsV_get l j t ht)
                have HQ0 : Hid (∀ X, Step (fun _ => False) wr X → X.cell? ⟨gL, oL + j, none⟩ = some (.int .i64 t)) := by
                  show ∀ X, _
                  intro X hX
                  exact hX.cell f0 (fun h => h)
                have HTK : Hid ((l.take (j + 1)).all (tgtOk b.code.length) = (bd && tgtOk b.code.length t)) := by
                  show _ = _
                  obtain ⟨hj', hja⟩ := List.getElem?_eq_some_iff.1 ht
                  rw [List.take_succ_eq_append_getElem hj', List.all_append, hja, HBD.out]; simp
                have hi0 : (0 : Int) ≤ (j : Int) := by omega
                have hi1 : (j : Int) < (l.length : Int) := by omega
                clear ht hva hr hcell f0 d0 d1 d2 d3
                obtain ⟨bn, hbn⟩ : ∃ bn, bn = (bd && tgtOk b.code.length t) := ⟨_, rfl⟩
                rw [← hbn] at HTK
                go_upto_region 19 with fail
                cases bd with
                | false =>
                  obtain rfl : bn = false := by rw [hbn]; rfl
                  clear hbn
                  refine wp_region_relyH (by kernel_rfl) (DetC (fun i => if i = 18 then 17 else if i = 17 then 8 else if i = 8 then 7 else if i = 7 then 1 else if i = 1 then 0 else i) [.bool false, .bool false, undef, undef, undef, undef, undef, .bool false, .bool false, undef, undef, undef, undef, undef, undef, undef, undef, .bool false, .bool false] wr) 19 rfl (by kernel_rfl) (by kernel_rfl) (by kernel_rfl) (by kernel_rfl) ?h0 ?hs ?hdone
                  case h0 => exact DetC.zero ((Step.refl _ _).drew)
                  case hs =>
                    refine ⟨?_, ?_, ?_, ?_, ?_, ?_, ?_, ?_, ?_, ?_, ?_, ?_, ?_, ?_, ?_, ?_, ?_, ?_, ?_, trivial⟩
                    · intro L V X a ev evo evh hL hdep hJ
                      unfold GAct; dsimp only
                      have h18 : L 18 = false := by
                        cases e : L 18 with
                        | false => rfl
                        | true =>
                          have h0 : L 0 = true := hJ.2 1 (hJ.2 7 (hJ.2 8 (hJ.2 17 (hJ.2 18 e))))
                          rw [hL] at h0; cases h0
                      have o6 := evh 6 18 rfl h18
                      change a.tmps[6]?.getD undef = .bool false at o6
                      go_simp
                      exact ⟨_, rfl, hJ.up 0 (.inl rfl) rfl⟩
                    · intro L V X a ev evo evh hL hdep hJ
                      unfold GAct; dsimp only
                      have e94 := (ev 0 94 rfl (hdep 0 rfl)).trans (hJ.1.1 0 _ rfl (hdep 0 rfl))
                      go_simp
                      exact ⟨_, rfl, hJ.up 1 (.inr (hdep 0 rfl)) rfl⟩
                    · intro L V X a ev evo evh hL hdep hJ
                      unfold GAct; dsimp only
                      exact .inr ⟨(by rw [hJ.1.1 1 _ rfl (hdep 1 rfl)]; intro h; cases h), hJ.up 2 (.inl rfl) rfl⟩
                    · intro L V X a ev evo evh hL hdep hJ
                      unfold GAct; dsimp only
                      exact .inr ⟨(by rw [hJ.1.1 1 _ rfl (hdep 1 rfl)]; intro h; cases h), hJ.up 3 (.inl rfl) rfl⟩
                    · intro L V X a ev evo evh hL hdep hJ
                      unfold GAct; dsimp only
                      exact .inr ⟨(by rw [hJ.1.1 1 _ rfl (hdep 1 rfl)]; intro h; cases h), hJ.up 4 (.inl rfl) rfl⟩
                    · intro L V X a ev evo evh hL hdep hJ
                      unfold GAct; dsimp only
                      exact .inr ⟨(by rw [hJ.1.1 1 _ rfl (hdep 1 rfl)]; intro h; cases h), hJ.up 5 (.inl rfl) rfl⟩
                    · intro L V X a ev evo evh hL hdep hJ
                      unfold GAct; dsimp only
                      exact .inr ⟨(by rw [hJ.1.1 1 _ rfl (hdep 1 rfl)]; intro h; cases h), hJ.up 6 (.inl rfl) rfl⟩
                    · intro L V X a ev evo evh hL hdep hJ
                      unfold GAct; dsimp only
                      have e95 := (ev 1 95 rfl (hdep 1 rfl)).trans (hJ.1.1 1 _ rfl (hdep 1 rfl))
                      go_simp
                      exact ⟨_, rfl, hJ.up 7 (.inr (hdep 1 rfl)) rfl⟩
                    · intro L V X a ev evo evh hL hdep hJ
                      unfold GAct; dsimp only
                      have e101 := (ev 7 101 rfl (hdep 7 rfl)).trans (hJ.1.1 7 _ rfl (hdep 7 rfl))
                      go_simp
                      exact ⟨_, rfl, hJ.up 8 (.inr (hdep 7 rfl)) rfl⟩
                    · intro L V X a ev evo evh hL hdep hJ
                      unfold GAct; dsimp only
                      exact .inr ⟨(by rw [hJ.1.1 8 _ rfl (hdep 8 rfl)]; intro h; cases h), hJ.up 9 (.inl rfl) rfl⟩
                    · intro L V X a ev evo evh hL hdep hJ
                      unfold GAct; dsimp only
                      exact .inr ⟨(by rw [hJ.1.1 8 _ rfl (hdep 8 rfl)]; intro h; cases h), hJ.up 10 (.inl rfl) rfl⟩
                    · intro L V X a ev evo evh hL hdep hJ
                      unfold GAct; dsimp only
                      exact .inr ⟨(by rw [hJ.1.1 8 _ rfl (hdep 8 rfl)]; intro h; cases h), hJ.up 11 (.inl rfl) rfl⟩
                    · intro L V X a ev evo evh hL hdep hJ
                      unfold GAct; dsimp only
                      exact .inr ⟨(by rw [hJ.1.1 8 _ rfl (hdep 8 rfl)]; intro h; cases h), hJ.up 12 (.inl rfl) rfl⟩
                    · intro L V X a ev evo evh hL hdep hJ
                      unfold GAct; dsimp only
                      exact .inr ⟨(by rw [hJ.1.1 8 _ rfl (hdep 8 rfl)]; intro h; cases h), hJ.up 13 (.inl rfl) rfl⟩
                    · intro L V X a ev evo evh hL hdep hJ
                      unfold GAct; dsimp only
                      exact .inr ⟨(by rw [hJ.1.1 8 _ rfl (hdep 8 rfl)]; intro h; cases h), hJ.up 14 (.inl rfl) rfl⟩
                    · intro L V X a ev evo evh hL hdep hJ
                      unfold GAct; dsimp only
                      exact .inr ⟨(by rw [hJ.1.1 8 _ rfl (hdep 8 rfl)]; intro h; cases h), hJ.up 15 (.inl rfl) rfl⟩
                    · intro L V X a ev evo evh hL hdep hJ
                      unfold GAct; dsimp only
                      exact .inr ⟨(by rw [hJ.1.1 8 _ rfl (hdep 8 rfl)]; intro h; cases h), hJ.up 16 (.inl rfl) rfl⟩
                    · intro L V X a ev evo evh hL hdep hJ
                      unfold GAct; dsimp only
                      have e102 := (ev 8 102 rfl (hdep 8 rfl)).trans (hJ.1.1 8 _ rfl (hdep 8 rfl))
                      go_simp
                      exact ⟨_, rfl, hJ.up 17 (.inr (hdep 8 rfl)) rfl⟩
                    · intro L V X a ev evo evh hL hdep hJ
                      unfold GAct; dsimp only
                      have e111 := (ev 17 111 rfl (hdep 17 rfl)).trans (hJ.1.1 17 _ rfl (hdep 17 rfl))
                      go_simp
                      exact ⟨_, rfl, hJ.up 18 (.inr (hdep 17 rfl)) rfl⟩
                  case hdone =>
                    intro L V X hall hJ
                    have h18 := hJ.1.1 18 _ rfl (hall 18 (by decide))
                    have HSTX := Lib.hid hJ.1.2
                    rw [show List.range 19 = [0, 1, 2, 3, 4, 5, 6, 7, 8, 9, 10, 11, 12, 13, 14, 15, 16, 17, 18] from rfl]
                    simp only [putF, dstO, List.getElem?_toArray, List.getElem?_cons_zero, List.getElem?_cons_succ, Option.bind_some, Act.put, List.setIfInBounds_toArray, List.set_cons_zero, List.set_cons_succ, h18]
                    clear hJ h18
                    go_wp2_with fail
                    go_roundg (gk - 1)
                    case rel => exact ⟨j + 1, by go_num, by omega, by omega, by rw [HTK.out], HSTK.out.trans HSTX.out⟩
                    case measure => omega
                | true =>
                  by_cases hc0 : 0 ≤ t
                  · have HC0 : Hid (decide (0 ≤ t) = true) := decide_eq_true hc0
                    have HC1 : Hid (decide (t < (b.code.length : Int)) = bn) := by show _ = _; rw [hbn]; simp [tgtOk, hc0]
                    clear hbn hc0
                    refine wp_region_relyH (by kernel_rfl) (DetC (fun i => if i = 18 then 17 else if i = 17 then 8 else if i = 8 then 7 else if i = 7 then 1 else if i = 1 then 0 else i) [.bool true, .bool true, .slice (some ⟨gL, oL, none⟩) l.length cL, .int .i64 (j : Int), .pointer (some ⟨gL, oL + j, none⟩), .int .i64 t, .bool true, .bool true, .bool true, .slice (some ⟨gL, oL, none⟩) l.length cL, .int .i64 (j : Int), .pointer (some ⟨gL, oL + j, none⟩), .int .i64 t, .pointer (some ⟨w.heap.size, 3, none⟩), .slice (some ⟨g', o', none⟩) b.code.length c2, .int .i64 (b.code.length : Int), .bool bn, .bool bn, .bool bn] wr) 19 rfl (by kernel_rfl) (by kernel_rfl) (by kernel_rfl) (by kernel_rfl) ?h0 ?hs ?hdone
                    case h0 => exact DetC.zero ((Step.refl _ _).drew)
                    case hs =>
                      refine ⟨?_, ?_, ?_, ?_, ?_, ?_, ?_, ?_, ?_, ?_, ?_, ?_, ?_, ?_, ?_, ?_, ?_, ?_, ?_, trivial⟩
                      · intro L V X a ev evo evh hL hdep hJ
                        unfold GAct; dsimp only
                        have h18 : L 18 = false := by
                          cases e : L 18 with
                          | false => rfl
                          | true =>
                            have h0 : L 0 = true := hJ.2 1 (hJ.2 7 (hJ.2 8 (hJ.2 17 (hJ.2 18 e))))
                            rw [hL] at h0; cases h0
                        have o6 := evh 6 18 rfl h18
                        change a.tmps[6]?.getD undef = .bool true at o6
                        go_simp
                        exact ⟨_, rfl, hJ.up 0 (.inl rfl) rfl⟩
                      · intro L V X a ev evo evh hL hdep hJ
                        unfold GAct; dsimp only
                        have e94 := (ev 0 94 rfl (hdep 0 rfl)).trans (hJ.1.1 0 _ rfl (hdep 0 rfl))
                        go_simp
                        exact ⟨_, rfl, hJ.up 1 (.inr (hdep 0 rfl)) rfl⟩
                      · intro L V X a ev evo evh hL hdep hJ
                        unfold GAct; dsimp only
                        refine .inl ⟨hJ.1.1 1 _ rfl (hdep 1 rfl), ?_⟩
                        have o7 := evo 7 rfl
                        change a.tmps[7]?.getD undef = .slice (some ⟨gL, oL, none⟩) l.length cL at o7
                        go_simp
                        exact ⟨_, rfl, hJ.up 2 (.inl rfl) rfl⟩
                      · intro L V X a ev evo evh hL hdep hJ
                        unfold GAct; dsimp only
                        refine .inl ⟨hJ.1.1 1 _ rfl (hdep 1 rfl), ?_⟩
                        have o8 := evo 8 rfl
                        change a.tmps[8]?.getD undef = .int .i64 (j : Int) at o8
                        go_simp
                        exact ⟨_, rfl, hJ.up 3 (.inl rfl) rfl⟩
                      · intro L V X a ev evo evh hL hdep hJ
                        unfold GAct; dsimp only
                        refine .inl ⟨hJ.1.1 1 _ rfl (hdep 1 rfl), ?_⟩
                        have e96 := (ev 2 96 rfl (hdep 2 rfl)).trans (hJ.1.1 2 _ rfl (hdep 2 rfl))
                        have e97 := (ev 3 97 rfl (hdep 3 rfl)).trans (hJ.1.1 3 _ rfl (hdep 3 rfl))
                        go_simp
                        exact ⟨_, rfl, hJ.up 4 (.inl rfl) rfl⟩
                      · intro L V X a ev evo evh hL hdep hJ
                        unfold GAct; dsimp only
                        refine .inl ⟨hJ.1.1 1 _ rfl (hdep 1 rfl), ?_⟩
                        have e98 := (ev 4 98 rfl (hdep 4 rfl)).trans (hJ.1.1 4 _ rfl (hdep 4 rfl))
                        have q0 := HQ0.out X hJ.1.2
                        go_simp
                        exact ⟨_, rfl, hJ.up 5 (.inl rfl) rfl⟩
                      · intro L V X a ev evo evh hL hdep hJ
                        unfold GAct; dsimp only
                        refine .inl ⟨hJ.1.1 1 _ rfl (hdep 1 rfl), ?_⟩
                        have e99 := (ev 5 99 rfl (hdep 5 rfl)).trans (hJ.1.1 5 _ rfl (hdep 5 rfl))
                        have eC := HC0.out
                        go_simp
                        exact ⟨_, rfl, hJ.up 6 (.inl rfl) rfl⟩
                      · intro L V X a ev evo evh hL hdep hJ
                        unfold GAct; dsimp only
                        have e95 := (ev 1 95 rfl (hdep 1 rfl)).trans (hJ.1.1 1 _ rfl (hdep 1 rfl))
                        have e100 := (ev 6 100 rfl (hdep 6 rfl)).trans (hJ.1.1 6 _ rfl (hdep 6 rfl))
                        go_simp
                        exact ⟨_, rfl, hJ.up 7 (.inr (hdep 1 rfl)) rfl⟩
                      · intro L V X a ev evo evh hL hdep hJ
                        unfold GAct; dsimp only
                        have e101 := (ev 7 101 rfl (hdep 7 rfl)).trans (hJ.1.1 7 _ rfl (hdep 7 rfl))
                        go_simp
                        exact ⟨_, rfl, hJ.up 8 (.inr (hdep 7 rfl)) rfl⟩
                      · intro L V X a ev evo evh hL hdep hJ
                        unfold GAct; dsimp only
                        refine .inl ⟨hJ.1.1 8 _ rfl (hdep 8 rfl), ?_⟩
                        have o7 := evo 7 rfl
                        change a.tmps[7]?.getD undef = .slice (some ⟨gL, oL, none⟩) l.length cL at o7
                        go_simp
                        exact ⟨_, rfl, hJ.up 9 (.inl rfl) rfl⟩
                      · intro L V X a ev evo evh hL hdep hJ
                        unfold GAct; dsimp only
                        refine .inl ⟨hJ.1.1 8 _ rfl (hdep 8 rfl), ?_⟩
                        have o8 := evo 8 rfl
                        change a.tmps[8]?.getD undef = .int .i64 (j : Int) at o8
                        go_simp
                        exact ⟨_, rfl, hJ.up 10 (.inl rfl) rfl⟩
                      · intro L V X a ev evo evh hL hdep hJ
                        unfold GAct; dsimp only
                        refine .inl ⟨hJ.1.1 8 _ rfl (hdep 8 rfl), ?_⟩
                        have e103 := (ev 9 103 rfl (hdep 9 rfl)).trans (hJ.1.1 9 _ rfl (hdep 9 rfl))
                        have e104 := (ev 10 104 rfl (hdep 10 rfl)).trans (hJ.1.1 10 _ rfl (hdep 10 rfl))
                        go_simp
                        exact ⟨_, rfl, hJ.up 11 (.inl rfl) rfl⟩
                      · intro L V X a ev evo evh hL hdep hJ
                        unfold GAct; dsimp only
                        refine .inl ⟨hJ.1.1 8 _ rfl (hdep 8 rfl), ?_⟩
                        have e105 := (ev 11 105 rfl (hdep 11 rfl)).trans (hJ.1.1 11 _ rfl (hdep 11 rfl))
                        have q0 := HQ0.out X hJ.1.2
                        go_simp
                        exact ⟨_, rfl, hJ.up 12 (.inl rfl) rfl⟩
                      · intro L V X a ev evo evh hL hdep hJ
                        unfold GAct; dsimp only
                        refine .inl ⟨hJ.1.1 8 _ rfl (hdep 8 rfl), ?_⟩
                        have o1 := evo 1 rfl
                        change a.tmps[1]?.getD undef = .pointer (some ⟨w.heap.size, 0, none⟩) at o1
                        go_simp
                        exact ⟨_, rfl, hJ.up 13 (.inl rfl) rfl⟩
                      · intro L V X a ev evo evh hL hdep hJ
                        unfold GAct; dsimp only
                        refine .inl ⟨hJ.1.1 8 _ rfl (hdep 8 rfl), ?_⟩
                        have e107 := (ev 13 107 rfl (hdep 13 rfl)).trans (hJ.1.1 13 _ rfl (hdep 13 rfl))
                        obtain ⟨-, -, -, q3⟩ := HKB.out X (HSTJ.out.trans hJ.1.2)
                        go_simp
                        exact ⟨_, rfl, hJ.up 14 (.inl rfl) rfl⟩
                      · intro L V X a ev evo evh hL hdep hJ
                        unfold GAct; dsimp only
                        refine .inl ⟨hJ.1.1 8 _ rfl (hdep 8 rfl), ?_⟩
                        have e108 := (ev 14 108 rfl (hdep 14 rfl)).trans (hJ.1.1 14 _ rfl (hdep 14 rfl))
                        go_simp
                        exact ⟨_, rfl, hJ.up 15 (.inl rfl) rfl⟩
                      · intro L V X a ev evo evh hL hdep hJ
                        unfold GAct; dsimp only
                        refine .inl ⟨hJ.1.1 8 _ rfl (hdep 8 rfl), ?_⟩
                        have e106 := (ev 12 106 rfl (hdep 12 rfl)).trans (hJ.1.1 12 _ rfl (hdep 12 rfl))
                        have e109 := (ev 15 109 rfl (hdep 15 rfl)).trans (hJ.1.1 15 _ rfl (hdep 15 rfl))
                        have eD := HC1.out
                        go_simp
                        exact ⟨_, rfl, hJ.up 16 (.inl rfl) rfl⟩
                      · intro L V X a ev evo evh hL hdep hJ
                        unfold GAct; dsimp only
                        have e102 := (ev 8 102 rfl (hdep 8 rfl)).trans (hJ.1.1 8 _ rfl (hdep 8 rfl))
                        have e110 := (ev 16 110 rfl (hdep 16 rfl)).trans (hJ.1.1 16 _ rfl (hdep 16 rfl))
                        go_simp
                        exact ⟨_, rfl, hJ.up 17 (.inr (hdep 8 rfl)) rfl⟩
                      · intro L V X a ev evo evh hL hdep hJ
                        unfold GAct; dsimp only
                        have e111 := (ev 17 111 rfl (hdep 17 rfl)).trans (hJ.1.1 17 _ rfl (hdep 17 rfl))
                        go_simp
                        exact ⟨_, rfl, hJ.up 18 (.inr (hdep 17 rfl)) rfl⟩
                    case hdone =>
                      intro L V X hall hJ
                      have h18 := hJ.1.1 18 _ rfl (hall 18 (by decide))
                      have HSTX := Lib.hid hJ.1.2
                      rw [show List.range 19 = [0, 1, 2, 3, 4, 5, 6, 7, 8, 9, 10, 11, 12, 13, 14, 15, 16, 17, 18] from rfl]
                      simp only [putF, dstO, List.getElem?_toArray, List.getElem?_cons_zero, List.getElem?_cons_succ, Option.bind_some, Act.put, List.setIfInBounds_toArray, List.set_cons_zero, List.set_cons_succ, h18]
                      clear hJ h18
                      go_wp2_with fail
                      go_roundg (gk - 1)
                      case rel => exact ⟨j + 1, by go_num, by omega, by omega, by rw [HTK.out], HSTK.out.trans HSTX.out⟩
                      case measure => omega
                  · have HC0 : Hid (decide (0 ≤ t) = false) := decide_eq_false hc0
                    obtain rfl : bn = false := by rw [hbn]; simp [tgtOk, hc0]
                    clear hbn hc0
                    refine wp_region_relyH (by kernel_rfl) (DetC (fun i => if i = 18 then 17 else if i = 17 then 8 else if i = 8 then 7 else if i = 7 then 1 else if i = 1 then 0 else i) [.bool true, .bool true, .slice (some ⟨gL, oL, none⟩) l.length cL, .int .i64 (j : Int), .pointer (some ⟨gL, oL + j, none⟩), .int .i64 t, .bool false, .bool false, .bool false, undef, undef, undef, undef, undef, undef, undef, undef, .bool false, .bool false] wr) 19 rfl (by kernel_rfl) (by kernel_rfl) (by kernel_rfl) (by kernel_rfl) ?h0 ?hs ?hdone
                    case h0 => exact DetC.zero ((Step.refl _ _).drew)
                    case hs =>
                      refine ⟨?_, ?_, ?_, ?_, ?_, ?_, ?_, ?_, ?_, ?_, ?_, ?_, ?_, ?_, ?_, ?_, ?_, ?_, ?_, trivial⟩
                      · intro L V X a ev evo evh hL hdep hJ
                        unfold GAct; dsimp only
                        have h18 : L 18 = false := by
                          cases e : L 18 with
                          | false => rfl
                          | true =>
                            have h0 : L 0 = true := hJ.2 1 (hJ.2 7 (hJ.2 8 (hJ.2 17 (hJ.2 18 e))))
                            rw [hL] at h0; cases h0
                        have o6 := evh 6 18 rfl h18
                        change a.tmps[6]?.getD undef = .bool true at o6
                        go_simp
                        exact ⟨_, rfl, hJ.up 0 (.inl rfl) rfl⟩
                      · intro L V X a ev evo evh hL hdep hJ
                        unfold GAct; dsimp only
                        have e94 := (ev 0 94 rfl (hdep 0 rfl)).trans (hJ.1.1 0 _ rfl (hdep 0 rfl))
                        go_simp
                        exact ⟨_, rfl, hJ.up 1 (.inr (hdep 0 rfl)) rfl⟩
                      · intro L V X a ev evo evh hL hdep hJ
                        unfold GAct; dsimp only
                        refine .inl ⟨hJ.1.1 1 _ rfl (hdep 1 rfl), ?_⟩
                        have o7 := evo 7 rfl
                        change a.tmps[7]?.getD undef = .slice (some ⟨gL, oL, none⟩) l.length cL at o7
                        go_simp
                        exact ⟨_, rfl, hJ.up 2 (.inl rfl) rfl⟩
                      · intro L V X a ev evo evh hL hdep hJ
                        unfold GAct; dsimp only
                        refine .inl ⟨hJ.1.1 1 _ rfl (hdep 1 rfl), ?_⟩
                        have o8 := evo 8 rfl
                        change a.tmps[8]?.getD undef = .int .i64 (j : Int) at o8
                        go_simp
                        exact ⟨_, rfl, hJ.up 3 (.inl rfl) rfl⟩
                      · intro L V X a ev evo evh hL hdep hJ
                        unfold GAct; dsimp only
                        refine .inl ⟨hJ.1.1 1 _ rfl (hdep 1 rfl), ?_⟩
                        have e96 := (ev 2 96 rfl (hdep 2 rfl)).trans (hJ.1.1 2 _ rfl (hdep 2 rfl))
                        have e97 := (ev 3 97 rfl (hdep 3 rfl)).trans (hJ.1.1 3 _ rfl (hdep 3 rfl))
                        go_simp
                        exact ⟨_, rfl, hJ.up 4 (.inl rfl) rfl⟩
                      · intro L V X a ev evo evh hL hdep hJ
                        unfold GAct; dsimp only
                        refine .inl ⟨hJ.1.1 1 _ rfl (hdep 1 rfl), ?_⟩
                        have e98 := (ev 4 98 rfl (hdep 4 rfl)).trans (hJ.1.1 4 _ rfl (hdep 4 rfl))
                        have q0 := HQ0.out X hJ.1.2
                        go_simp
                        exact ⟨_, rfl, hJ.up 5 (.inl rfl) rfl⟩
                      · intro L V X a ev evo evh hL hdep hJ
                        unfold GAct; dsimp only
                        refine .inl ⟨hJ.1.1 1 _ rfl (hdep 1 rfl), ?_⟩
                        have e99 := (ev 5 99 rfl (hdep 5 rfl)).trans (hJ.1.1 5 _ rfl (hdep 5 rfl))
                        have eC := HC0.out
                        go_simp
                        exact ⟨_, rfl, hJ.up 6 (.inl rfl) rfl⟩
                      · intro L V X a ev evo evh hL hdep hJ
                        unfold GAct; dsimp only
                        have e95 := (ev 1 95 rfl (hdep 1 rfl)).trans (hJ.1.1 1 _ rfl (hdep 1 rfl))
                        have e100 := (ev 6 100 rfl (hdep 6 rfl)).trans (hJ.1.1 6 _ rfl (hdep 6 rfl))
                        go_simp
                        exact ⟨_, rfl, hJ.up 7 (.inr (hdep 1 rfl)) rfl⟩
                      · intro L V X a ev evo evh hL hdep hJ
                        unfold GAct; dsimp only
                        have e101 := (ev 7 101 rfl (hdep 7 rfl)).trans (hJ.1.1 7 _ rfl (hdep 7 rfl))
                        go_simp
                        exact ⟨_, rfl, hJ.up 8 (.inr (hdep 7 rfl)) rfl⟩
                      · intro L V X a ev evo evh hL hdep hJ
                        unfold GAct; dsimp only
                        exact .inr ⟨(by rw [hJ.1.1 8 _ rfl (hdep 8 rfl)]; intro h; cases h), hJ.up 9 (.inl rfl) rfl⟩
                      · intro L V X a ev evo evh hL hdep hJ
                        unfold GAct; dsimp only
                        exact .inr ⟨(by rw [hJ.1.1 8 _ rfl (hdep 8 rfl)]; intro h; cases h), hJ.up 10 (.inl rfl) rfl⟩
                      · intro L V X a ev evo evh hL hdep hJ
                        unfold GAct; dsimp only
                        exact .inr ⟨(by rw [hJ.1.1 8 _ rfl (hdep 8 rfl)]; intro h; cases h), hJ.up 11 (.inl rfl) rfl⟩
                      · intro L V X a ev evo evh hL hdep hJ
                        unfold GAct; dsimp only
                        exact .inr ⟨(by rw [hJ.1.1 8 _ rfl (hdep 8 rfl)]; intro h; cases h), hJ.up 12 (.inl rfl) rfl⟩
                      · intro L V X a ev evo evh hL hdep hJ
                        unfold GAct; dsimp only
                        exact .inr ⟨(by rw [hJ.1.1 8 _ rfl (hdep 8 rfl)]; intro h; cases h), hJ.up 13 (.inl rfl) rfl⟩
                      · intro L V X a ev evo evh hL hdep hJ
                        unfold GAct; dsimp only
                        exact .inr ⟨(by rw [hJ.1.1 8 _ rfl (hdep 8 rfl)]; intro h; cases h), hJ.up 14 (.inl rfl) rfl⟩
                      · intro L V X a ev evo evh hL hdep hJ
                        unfold GAct; dsimp only
                        exact .inr ⟨(by rw [hJ.1.1 8 _ rfl (hdep 8 rfl)]; intro h; cases h), hJ.up 15 (.inl rfl) rfl⟩
                      · intro L V X a ev evo evh hL hdep hJ
                        unfold GAct; dsimp only
                        exact .inr ⟨(by rw [hJ.1.1 8 _ rfl (hdep 8 rfl)]; intro h; cases h), hJ.up 16 (.inl rfl) rfl⟩
                      · intro L V X a ev evo evh hL hdep hJ
                        unfold GAct; dsimp only
                        have e102 := (ev 8 102 rfl (hdep 8 rfl)).trans (hJ.1.1 8 _ rfl (hdep 8 rfl))
                        go_simp
                        exact ⟨_, rfl, hJ.up 17 (.inr (hdep 8 rfl)) rfl⟩
                      · intro L V X a ev evo evh hL hdep hJ
                        unfold GAct; dsimp only
                        have e111 := (ev 17 111 rfl (hdep 17 rfl)).trans (hJ.1.1 17 _ rfl (hdep 17 rfl))
                        go_simp
                        exact ⟨_, rfl, hJ.up 18 (.inr (hdep 17 rfl)) rfl⟩
                    case hdone =>
                      intro L V X hall hJ
                      have h18 := hJ.1.1 18 _ rfl (hall 18 (by decide))
                      have HSTX := Lib.hid hJ.1.2
                      rw [show List.range 19 = [0, 1, 2, 3, 4, 5, 6, 7, 8, 9, 10, 11, 12, 13, 14, 15, 16, 17, 18] from rfl]
                      simp only [putF, dstO, List.getElem?_toArray, List.getElem?_cons_zero, List.getElem?_cons_succ, Option.bind_some, Act.put, List.setIfInBounds_toArray, List.set_cons_zero, List.set_cons_succ, h18]
                      clear hJ h18
                      go_wp2_with fail
                      go_roundg (gk - 1)
                      case rel => exact ⟨j + 1, by go_num, by omega, by omega, by rw [HTK.out], HSTK.out.trans HSTX.out⟩
                      case measure => omega
              · have HALL : Hid (bd = (succI x i).all (tgtOk b.code.length)) := by
                  show _ = _
                  rw [HBD.out, List.take_of_length_le (by omega), HL.out]
                by_cases hik : i < k
                · obtain rfl : bd = true := by rw [HALL.out]; exact HOKI.out hik
                  go_wp2_with fail
                  go_roundg (go1 - 1)
                  case rel => exact ⟨i + 1, by go_num, by omega, by omega, (HST.out.trans HS2.out).trans HSTK.out⟩
                  case measure => omega
                · obtain rfl : i = k := by omega
                  obtain rfl : bd = false := by rw [HALL.out]; exact HNOK.out rfl
                  go_wp2_with fail
                  go_ret
                  exact ⟨rfl, HST0.out.trans ((HST.out.trans HS2.out).trans HSTK.out)⟩

end Go.Proofs.Ytilipeigjkmldaa
