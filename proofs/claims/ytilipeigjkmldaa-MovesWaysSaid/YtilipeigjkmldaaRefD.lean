/- Contracts of the document's answer, layer 14: Accesses of an assignment. -/
import Derived.Test.YtilipeigjkmldaaRefC
namespace Go.Proofs.Ytilipeigjkmldaa
open Go.RowKit

set_option maxRecDepth 100000 in
set_option maxHeartbeats 8000000 in
theorem racc_set (B : Nat) (b : Bod) (bs : List Value) (i : Nat) (x : Ins) (w : World) (h : BodAt w B b bs) (hx : b.code[i]? = some x) (h6 : x.kind = 3) (hl : x.args.length ≤ 100000) (hB : B ≤ w.heap.size) :
    Calls Try.prog 37 #[.agg bs.toArray, .int .i64 i] w (AccPost B (accI b.locals x) w) := by
  have hi := (List.getElem?_eq_some_iff.1 hx).1
  obtain ⟨vl, vc, xl, xs, rfl, ⟨al, cl, rfl, -⟩, hxs, ⟨a, c, rfl, hc1, hc2, -, hrr⟩⟩ := h
  obtain ⟨g', o', rfl, -, hgl, hcell⟩ := hrr (by omega)
  obtain ⟨cs, hat, f⟩ := Each.cells 21 InAt.len hxs hx hcell
  clear hxs hrr hcell hx
  have HONE := Lib.hid (InAt.one _ _ hat)
  obtain ⟨vd, va, vp, vt, vc, xa, rfl, hr1, hoa, hra, hr2, ⟨at1, nt1, ct1, rfl⟩, hr3⟩ := hat; have HR1 := Lib.hid hr1; have HOA := Lib.hid hoa; have HRA := Lib.hid hra; have HR2 := Lib.hid hr2; have HR3 := Lib.hid hr3; obtain ⟨ad1, cd1, rfl, -⟩ := hr1; obtain ⟨aa1, ca1, rfl, -⟩ := hra; obtain ⟨ap1, cp1, rfl, -⟩ := hr2; obtain ⟨ac1, cc1, rfl, -⟩ := hr3; clear hoa
  have STB : Step (fun _ => False) w (w.alloc (.cells #[.string b.name, .int .i64 b.params, .slice al b.locals cl, .slice (some ⟨g', o', none⟩) b.code.length c] 29)) := (Step.refl _ _).alloc _
  have F : Hid (∀ (j : Nat) y, [Value.int .i64 x.kind, .int .i64 x.loc, .int .i64 x.dest.loc, .slice ad1 x.dest.path.length cd1, .int .i64 x.rkind, .slice aa1 x.args.length ca1, .int .i64 x.rpl.loc, .slice ap1 x.rpl.path.length cp1, .bool x.mu, .string x.rname, .int .i64 x.rn, .slice at1 nt1 ct1,
    .int .i64 x.cond.kind, .int .i64 x.cond.pl.loc, .slice ac1 x.cond.pl.path.length cc1, .int .i64 x.cond.ty, .int .u64 x.cond.n, .int .i64 x.tgt, .int .i64 x.els, .int .i64 x.line, .int .i64 x.col][j]? = some y → (w.alloc (.cells #[.string b.name, .int .i64 b.params, .slice al b.locals cl, .slice (some ⟨g', o', none⟩) b.code.length c] 29)).cell? ⟨g', o' + i * 21 + j, none⟩ = some y) := fun j y hy => STB.cell (f j y hy) (fun h => h)
  clear f
  have HS : Hid (accI b.locals x = setAcc x) := by show _ = _; unfold accI; rw [if_neg (by omega), if_neg (by omega), if_pos h6]; rfl
  have hi0 : (0 : Int) ≤ (i : Int) := by omega
  have hi1 : (i : Int) < (b.code.length : Int) := by omega
  obtain ⟨i0, hi0', hz0, hz1, hz2⟩ := info_parts Try.infoAcc
  have HI := Lib.hid hi0'
  have HZ0 := Lib.hid hz0
  have HZ1 := Lib.hid hz1
  have HZ2 := Lib.hid hz2
  obtain ⟨W0, hW0⟩ : ∃ W0 : World, W0 = (w.alloc (.cells #[.string b.name, .int .i64 b.params, .slice al b.locals cl, .slice (some ⟨g', o', none⟩) b.code.length c] 29)).alloc (.cells #[.int .i64 x.kind, .int .i64 x.loc, .int .i64 x.dest.loc, .slice ad1 x.dest.path.length cd1, .int .i64 x.rkind, .slice aa1 x.args.length ca1, .int .i64 x.rpl.loc, .slice ap1 x.rpl.path.length cp1, .bool x.mu, .string x.rname, .int .i64 x.rn, .slice at1 nt1 ct1,
    .int .i64 x.cond.kind, .int .i64 x.cond.pl.loc, .slice ac1 x.cond.pl.path.length cc1, .int .i64 x.cond.ty, .int .u64 x.cond.n, .int .i64 x.tgt, .int .i64 x.els, .int .i64 x.line, .int .i64 x.col] 57) := ⟨_, rfl⟩
  have ST0 : Step (fun _ => False) w W0 := by rw [hW0]; exact ((Step.refl _ _).alloc _).alloc _
  have HBX : Hid (W0.heap[w.heap.size + 1]? = some (.cells #[.int .i64 x.kind, .int .i64 x.loc, .int .i64 x.dest.loc, .slice ad1 x.dest.path.length cd1, .int .i64 x.rkind, .slice aa1 x.args.length ca1, .int .i64 x.rpl.loc, .slice ap1 x.rpl.path.length cp1, .bool x.mu, .string x.rname, .int .i64 x.rn, .slice at1 nt1 ct1,
    .int .i64 x.cond.kind, .int .i64 x.cond.pl.loc, .slice ac1 x.cond.pl.path.length cc1, .int .i64 x.cond.ty, .int .u64 x.cond.n, .int .i64 x.tgt, .int .i64 x.els, .int .i64 x.line, .int .i64 x.col] 57 (0, 0))) := by show _ = _; rw [hW0]; exact blk_new2 _ _ _
  have HW0 := Lib.hid hW0
  have HROW : Hid (∀ (X : World) (k t : Int), Row (X.alloc (.cells #[.int .i64 k, .slice none 0 0, .int .i64 t] 90)) (X.heap.size + 1) (.slice (some ⟨X.heap.size, 0, none⟩) 1 1) 1 (acV ⟨⟨k, []⟩, t⟩)) := fun X k t => Row.new (cs := [.int .i64 k, .slice none 0 0, .int .i64 t]) (blk_new _ _) (by decide)
  have HOWN : Hid (∀ k t : Int, (W0.alloc (.cells #[.int .i64 k, .slice none 0 0, .int .i64 t] 90)).ownsRow W0.heap.size 90 3 (.slice none 0 0) 0 []) := fun _ _ => World.ownsRow_nil _ _ _ _
  have HBD : Hid (W0.heap[w.heap.size]? = some (.cells #[.string b.name, .int .i64 b.params, .slice al b.locals cl, .slice (some ⟨g', o', none⟩) b.code.length c] 29 (0, 0))) := by show _ = _; rw [hW0]; exact blk_alloc (blk_new _ _)
  have HSZ0 : Hid (W0.heap.size = w.heap.size + 2) := by show _ = _; rw [hW0]; simp
  have HOLD : Hid (∀ k, k < B → ¬ W0.heap.size ≤ k) := by
    show ∀ k, k < B → ¬ _
    have := ST0.size
    intro k hk hh; omega
  clear hi0' hz0 hz1 hz2 hW0
  have e3 : (x.kind == 3) = true := by simpa using h6
  have e1 : (x.kind == 1) = false := by simp [h6]
  have e2 : (x.kind == 2) = false := by simp [h6]
  have e5 : (x.kind == 5) = false := by simp [h6]
  have e6 : (x.kind == 6) = false := by simp [h6]
  clear h6
  go_enter Try.func37, Try.ntmps37
  go_upto_region 3 with (first
      | (refine wpList_load_whole rfl 57 (.tmp 12) rfl g' (o' + i * 21) rfl _ _ F.out Try.underlying57 rfl Try.sizeIns ?_)
      | (refine wpList_store_at rfl 57 (.tmp 5) (.tmp 13) rfl (w.heap.size + 1) (by simp) _ _ rfl rfl Try.sizeIns rfl HONE.out ?_))
  rw [← HW0.out]
  clear F HONE HROW HOWN
  obtain ⟨aa, ca, hva, hca1, hca2, -, hargs⟩ := HRA.out.step ST0 (fun _ _ h => h)
  obtain ⟨rfl, -, rfl⟩ : aa1 = aa ∧ True ∧ ca1 = ca := by cases hva; exact ⟨rfl, trivial, rfl⟩
  have HARGS := Lib.hid hargs
  have HOA0 := Lib.hid (Each.mono (OpAt.step ST0 (fun _ _ h => h)) _ _ HOA.out)
  have HR1' := Lib.hid (HR1.out.step ST0 (fun _ _ h => h))
  have HR2' := Lib.hid (HR2.out.step ST0 (fun _ _ h => h))
  have i0' := blk_cell HBX.out 0 _ rfl
  clear hva hargs HOA HR1 HR2 HRA HR3
  go_wp2_with fail
  clear i0'
  go_loopg [6, 7] x.args.length (fun gg s6 s7 wr => ∃ k : Nat, s7 = .int .i64 k ∧ k ≤ x.args.length ∧ x.args.length - k ≤ gg ∧ (∃ xs, Each (AcAt wr B) ((x.args.take k).flatMap opAcc) xs ∧ wr.ownsRow W0.heap.size 90 3 s6 ((x.args.take k).flatMap opAcc).length xs) ∧ Step (fun _ => False) W0 wr)
  case atStart => exact ⟨0, rfl, Nat.zero_le _, by omega, ⟨[], Each.nil, World.ownsRow_nil _ _ _ _⟩, Step.refl _ _⟩
  case round =>
    obtain ⟨k, rfl, hk, hgg, ⟨xs, hxs, hown⟩, hst⟩ := hrel
    obtain ⟨ao, co, rfl⟩ := owns_slice hown
    have HOW := Lib.hid hown
    have HXS := Lib.hid hxs
    have HLL : Hid (((x.args.take k).flatMap opAcc).length ≤ 100000) := Nat.le_trans (accs_len _) (Nat.le_trans (List.length_take_le _ _) (by omega))
    obtain ⟨nn, hnn⟩ : ∃ nn, nn = ((x.args.take k).flatMap opAcc).length := ⟨_, rfl⟩
    have HNN := Lib.hid hnn
    have bx := hst.keep HBX.out (fun h => h)
    have i5 := blk_cell bx 5 _ rfl
    rw [← hnn] at HOW HLL
    rw [← hnn]
    clear hown hxs hnn
    by_cases hlt : k < x.args.length
    · obtain ⟨o, ho⟩ : ∃ o, x.args[k]? = some o := ⟨x.args[k], List.getElem?_eq_getElem hlt⟩
      obtain ⟨g2, o2, rfl, -, -, hcell⟩ := HARGS.out (by omega)
      obtain ⟨cs, hoat, f⟩ := Each.cells 5 OpAt.len (Each.mono (OpAt.step hst (fun _ _ h => h)) _ _ HOA0.out) ho (fun i x hx => hst.cell (hcell i x hx) (fun h => h))
      have HT := Lib.hid (accs_take x.args k o ho)
      have HOAT := Lib.hid hoat
      have HLEN := Lib.hid (OpAt.len _ _ hoat)
      have F := Lib.hid f
      have hinf : (Try.prog.info? 53).map (·.size) = some cs.length := by rw [HLEN.out]; exact Try.sizeOp
      have HOL := Lib.hid (opAcc_len o)
      have hk0 : (0 : Int) ≤ (k : Int) := by omega
      have hk1 : (k : Int) < (x.args.length : Int) := by omega
      clear hcell f hoat ho bx
      as_aux_lemma =>
        go_wp2_with (refine wpList_load_whole rfl 53 (.tmp 49) rfl g2 (o2 + k * 5) rfl cs _ F.out Try.underlying53 rfl hinf ?_)
        refine (rone_any B o cs _ HOAT.out).mono ?_
        rintro e w1 ⟨⟨v1, ys, rfl, hy1, hy2⟩, hw1⟩
        have HY1 := Lib.hid hy1
        have HY2 := Lib.hid hy2
        have HYL := Lib.hid (Each.len 3 AcAt.len _ _ hy1)
        have HYO := Lib.hid (Each.one AcAt.one _ _ hy1)
        obtain ⟨m, hm⟩ : ∃ m, m = (opAcc o).length := ⟨_, rfl⟩
        have HM := Lib.hid hm
        rw [← hm] at HY2 HYL HOL hy2
        obtain ⟨av, cv, rfl, -⟩ := hy2
        have ST1 := hst.trans hw1
        have HOW1 := Lib.hid (hw1.owns HOW.out (fun _ _ h => h))
        have HXS1 := Lib.hid (Each.mono (AcAt.step hw1 (fun _ _ h => h)) _ _ HXS.out)
        have hll := HLL.out
        have hol := HOL.out
        clear hy1 hm i5
        go_wp2_with (at_builtin; refine wpList_append_row _ rfl w1.heap.size _ _ 87 rfl W0.heap.size 90 i0 (.agg #[.int .i64 0, .slice none 0 0, .int .i64 0]) 3 40 Try.underlying87 HI.out HZ0.out HZ1.out HZ2.out rfl (by decide) _ _ _ rfl HOW1.out _ m _ rfl HY2.out HYL.out HYO.out (by unfold maxLen; omega) (by omega) ST1.size ?_)
        intro v4 w4 hown4 hgrow4 _
        have STG : Step (fun q => W0.heap.size ≤ q) w1 w4 := ((Step.refl _ _) : Step (fun q => W0.heap.size ≤ q) w1 w1).grown hgrow4 (fun q hq _ => owned_row HOW1.out q hq)
        have ST4 : Step (fun _ => False) W0 w4 := ST1.grown hgrow4 (fun q hq hlt => by have := owned_row HOW1.out q hq; omega)
        have HX4 : Hid (Each (AcAt w4 B) ((x.args.take (k + 1)).flatMap opAcc) (xs ++ ys)) := by
          rw [HT.out]
          exact Each.append _ _ _ _ (Each.mono (AcAt.step STG HOLD.out) _ _ HXS1.out) (Each.mono (AcAt.step STG HOLD.out) _ _ HY1.out)
        have HO4 : Hid (w4.ownsRow W0.heap.size 90 3 v4 ((x.args.take (k + 1)).flatMap opAcc).length (xs ++ ys)) := by
          rw [HT.out, List.length_append, ← HNN.out, ← HM.out]; exact hown4
        clear hown4 hll hol
        go_wp2
        go_roundg (gk - 1)
        case rel => exact ⟨k + 1, by go_num, by omega, by omega, ⟨_, HX4.out, HO4.out⟩, ST4⟩
        case measure => omega
    · obtain rfl : k = x.args.length := by omega
      have HXA : Hid (Each (AcAt wr B) (x.args.flatMap opAcc) xs) := by have := HXS.out; rw [List.take_length] at this; exact this
      have HNA : Hid (nn = (x.args.flatMap opAcc).length) := by show _ = _; rw [HNN.out, List.take_length]
      have hll := HLL.out
      have i2 := blk_cell bx 2 _ rfl
      have i3 := blk_cell bx 3 _ rfl
      have i4 := blk_cell bx 4 _ rfl
      clear HXS HNN HARGS HOA0
      have HRN : Hid (∀ (X : World) (l k : Int) (v : Value), Row (X.alloc (.cells #[.int .i64 l, v, .int .i64 k] 90)) (X.heap.size + 1) (.slice (some ⟨X.heap.size, 0, none⟩) 1 1) 1 [.int .i64 l, v, .int .i64 k]) := fun X l k v => Row.new (cs := [.int .i64 l, v, .int .i64 k]) (blk_new _ _) (by decide)
      by_cases hb2 : x.rkind = 2
      · have eb2 : (x.rkind == 2) = true := by simpa using hb2
        have i6 := blk_cell bx 6 _ rfl
        have i7 := blk_cell bx 7 _ rfl
        have i8 := blk_cell bx 8 _ rfl
        have HSA : Hid (setAcc x = (x.args.flatMap opAcc ++ [⟨x.rpl, if x.mu then 3 else 1⟩]) ++ [⟨x.dest, 4⟩]) := by show _ = _; unfold setAcc; rw [if_pos hb2, List.append_assoc]
        clear bx hb2
        obtain ⟨K, hK⟩ : ∃ K : Int, K = if x.mu then 3 else 1 := ⟨_, rfl⟩
        have HK := Lib.hid hK
        have ST2 : Step (fun _ => False) W0 (wr.alloc (.cells #[.int .i64 x.rpl.loc, .slice ap1 x.rpl.path.length cp1, .int .i64 K] 90)) := hst.alloc _
        cases hmu : x.mu with
        | true =>
          have hK3 : K = 3 := by rw [hK, hmu]; rfl
          have HM := Lib.hid hmu
          rw [hmu] at i8
          clear hK hmu
          subst hK3
          as_aux_lemma =>
            go_wp2_with (at_builtin; refine wpList_append_row _ rfl (wr.heap.size + 1) _ _ 87 rfl W0.heap.size 90 i0 (.agg #[.int .i64 0, .slice none 0 0, .int .i64 0]) 3 40 Try.underlying87 HI.out HZ0.out HZ1.out HZ2.out rfl (by decide) _ _ _ rfl (HOW.out.alloc _) _ 1 _ rfl (HRN.out wr _ _ _) rfl (acCells W0 B ⟨x.rpl, 3⟩ _ HR2'.out) (by unfold maxLen; omega) (by omega) ST2.size ?_)
            intro v4 w4 hown4 hgrow4 _
            have STG : Step (fun q => W0.heap.size ≤ q) wr w4 := ((Step.refl _ _).alloc _).grown hgrow4 (fun q hq _ => owned_row HOW.out q hq)
            have ST4 : Step (fun _ => False) W0 w4 := ST2.grown hgrow4 (fun q hq hlt => by have := owned_row HOW.out q hq; omega)
            obtain ⟨a4, c4, rfl⟩ := owns_slice hown4
            have HOW4 := Lib.hid hown4
            have HX4 := Lib.hid (Each.snoc (Each.mono (AcAt.step STG HOLD.out) _ _ HXA.out) (show AcAt w4 B ⟨x.rpl, 3⟩ _ from ⟨_, rfl, HR2'.out.step ST4 (fun _ _ h => h)⟩))
            clear hown4 i2 i3 i4 i6 i7 i8
            have bx := ST4.keep HBX.out (fun h => h)
            have i2 := blk_cell bx 2 _ rfl
            have i3 := blk_cell bx 3 _ rfl
            have i4 := blk_cell bx 4 _ rfl
            have i8 := blk_cell bx 8 _ rfl
            rw [HM.out] at i8
            have ST5 : Step (fun _ => False) W0 (w4.alloc (.cells #[.int .i64 x.dest.loc, .slice ad1 x.dest.path.length cd1, .int .i64 4] 90)) := ST4.alloc _
            clear bx
            go_wp2_with (at_builtin; refine wpList_append_row _ rfl (w4.heap.size + 1) _ _ 87 rfl W0.heap.size 90 i0 (.agg #[.int .i64 0, .slice none 0 0, .int .i64 0]) 3 40 Try.underlying87 HI.out HZ0.out HZ1.out HZ2.out rfl (by decide) _ _ _ rfl (HOW4.out.alloc _) _ 1 _ rfl (HRN.out w4 _ _ _) rfl (acCells W0 B ⟨x.dest, 4⟩ _ HR1'.out) (by unfold maxLen; omega) (by omega) ST5.size ?_)
            intro v6 w6 hown6 hgrow6 _
            have STG6 : Step (fun q => W0.heap.size ≤ q) w4 w6 := ((Step.refl _ _).alloc _).grown hgrow6 (fun q hq _ => owned_row HOW4.out q hq)
            have ST6 : Step (fun _ => False) W0 w6 := ST5.grown hgrow6 (fun q hq hlt => by have := owned_row HOW4.out q hq; omega)
            have HX6 := Lib.hid (Each.snoc (Each.mono (AcAt.step STG6 HOLD.out) _ _ HX4.out) (show AcAt w6 B ⟨x.dest, 4⟩ _ from ⟨_, rfl, HR1'.out.step ST6 (fun _ _ h => h)⟩))
            have HLN : Hid (((x.args.flatMap opAcc ++ [(⟨x.rpl, 3⟩ : Acc)]) ++ [(⟨x.dest, 4⟩ : Acc)]).length = nn + 1 + 1) := by show _ = _; rw [List.length_append, List.length_append, HNA.out]; rfl
            obtain ⟨a6, c6, rfl⟩ := owns_slice hown6
            have HOW6 := Lib.hid hown6
            clear hown6 i2 i3 i4 i8
            have HX7 := HX6.out
            rw [List.append_assoc xs] at HX7
            go_wp2
            go_ret
            exact accPost_mk HX7 (Row.of_owns HOW6.out (Nat.le_refl _)) (by rw [HS.out, HSA.out, HM.out]; rfl) HLN.out (ST0.trans ST6)
        | false =>
          have hK3 : K = 1 := by rw [hK, hmu]; rfl
          have HM := Lib.hid hmu
          rw [hmu] at i8
          clear hK hmu
          subst hK3
          as_aux_lemma =>
            go_wp2_with (at_builtin; refine wpList_append_row _ rfl (wr.heap.size + 1) _ _ 87 rfl W0.heap.size 90 i0 (.agg #[.int .i64 0, .slice none 0 0, .int .i64 0]) 3 40 Try.underlying87 HI.out HZ0.out HZ1.out HZ2.out rfl (by decide) _ _ _ rfl (HOW.out.alloc _) _ 1 _ rfl (HRN.out wr _ _ _) rfl (acCells W0 B ⟨x.rpl, 1⟩ _ HR2'.out) (by unfold maxLen; omega) (by omega) ST2.size ?_)
            intro v4 w4 hown4 hgrow4 _
            have STG : Step (fun q => W0.heap.size ≤ q) wr w4 := ((Step.refl _ _).alloc _).grown hgrow4 (fun q hq _ => owned_row HOW.out q hq)
            have ST4 : Step (fun _ => False) W0 w4 := ST2.grown hgrow4 (fun q hq hlt => by have := owned_row HOW.out q hq; omega)
            obtain ⟨a4, c4, rfl⟩ := owns_slice hown4
            have HOW4 := Lib.hid hown4
            have HX4 := Lib.hid (Each.snoc (Each.mono (AcAt.step STG HOLD.out) _ _ HXA.out) (show AcAt w4 B ⟨x.rpl, 1⟩ _ from ⟨_, rfl, HR2'.out.step ST4 (fun _ _ h => h)⟩))
            clear hown4 i2 i3 i4 i6 i7 i8
            have bx := ST4.keep HBX.out (fun h => h)
            have i2 := blk_cell bx 2 _ rfl
            have i3 := blk_cell bx 3 _ rfl
            have i4 := blk_cell bx 4 _ rfl
            have i8 := blk_cell bx 8 _ rfl
            rw [HM.out] at i8
            have ST5 : Step (fun _ => False) W0 (w4.alloc (.cells #[.int .i64 x.dest.loc, .slice ad1 x.dest.path.length cd1, .int .i64 4] 90)) := ST4.alloc _
            clear bx
            go_wp2_with (at_builtin; refine wpList_append_row _ rfl (w4.heap.size + 1) _ _ 87 rfl W0.heap.size 90 i0 (.agg #[.int .i64 0, .slice none 0 0, .int .i64 0]) 3 40 Try.underlying87 HI.out HZ0.out HZ1.out HZ2.out rfl (by decide) _ _ _ rfl (HOW4.out.alloc _) _ 1 _ rfl (HRN.out w4 _ _ _) rfl (acCells W0 B ⟨x.dest, 4⟩ _ HR1'.out) (by unfold maxLen; omega) (by omega) ST5.size ?_)
            intro v6 w6 hown6 hgrow6 _
            have STG6 : Step (fun q => W0.heap.size ≤ q) w4 w6 := ((Step.refl _ _).alloc _).grown hgrow6 (fun q hq _ => owned_row HOW4.out q hq)
            have ST6 : Step (fun _ => False) W0 w6 := ST5.grown hgrow6 (fun q hq hlt => by have := owned_row HOW4.out q hq; omega)
            have HX6 := Lib.hid (Each.snoc (Each.mono (AcAt.step STG6 HOLD.out) _ _ HX4.out) (show AcAt w6 B ⟨x.dest, 4⟩ _ from ⟨_, rfl, HR1'.out.step ST6 (fun _ _ h => h)⟩))
            have HLN : Hid (((x.args.flatMap opAcc ++ [(⟨x.rpl, 1⟩ : Acc)]) ++ [(⟨x.dest, 4⟩ : Acc)]).length = nn + 1 + 1) := by show _ = _; rw [List.length_append, List.length_append, HNA.out]; rfl
            obtain ⟨a6, c6, rfl⟩ := owns_slice hown6
            have HOW6 := Lib.hid hown6
            clear hown6 i2 i3 i4 i8
            have HX7 := HX6.out
            rw [List.append_assoc xs] at HX7
            go_wp2
            go_ret
            exact accPost_mk HX7 (Row.of_owns HOW6.out (Nat.le_refl _)) (by rw [HS.out, HSA.out, HM.out]; rfl) HLN.out (ST0.trans ST6)
      · have eb2 : (x.rkind == 2) = false := by simpa using hb2
        have HSA : Hid (setAcc x = x.args.flatMap opAcc ++ [⟨x.dest, 4⟩]) := by show _ = _; unfold setAcc; rw [if_neg hb2, List.nil_append]
        clear bx hb2
        have ST5 : Step (fun _ => False) W0 (wr.alloc (.cells #[.int .i64 x.dest.loc, .slice ad1 x.dest.path.length cd1, .int .i64 4] 90)) := hst.alloc _
        as_aux_lemma =>
          go_wp2_with (at_builtin; refine wpList_append_row _ rfl (wr.heap.size + 1) _ _ 87 rfl W0.heap.size 90 i0 (.agg #[.int .i64 0, .slice none 0 0, .int .i64 0]) 3 40 Try.underlying87 HI.out HZ0.out HZ1.out HZ2.out rfl (by decide) _ _ _ rfl (HOW.out.alloc _) _ 1 _ rfl (HRN.out wr _ _ _) rfl (acCells W0 B ⟨x.dest, 4⟩ _ HR1'.out) (by unfold maxLen; omega) (by omega) ST5.size ?_)
          intro v6 w6 hown6 hgrow6 _
          have STG6 : Step (fun q => W0.heap.size ≤ q) wr w6 := ((Step.refl _ _).alloc _).grown hgrow6 (fun q hq _ => owned_row HOW.out q hq)
          have ST6 : Step (fun _ => False) W0 w6 := ST5.grown hgrow6 (fun q hq hlt => by have := owned_row HOW.out q hq; omega)
          have HX6 := Lib.hid (Each.snoc (Each.mono (AcAt.step STG6 HOLD.out) _ _ HXA.out) (show AcAt w6 B ⟨x.dest, 4⟩ _ from ⟨_, rfl, HR1'.out.step ST6 (fun _ _ h => h)⟩))
          have HLN : Hid ((x.args.flatMap opAcc ++ [(⟨x.dest, 4⟩ : Acc)]).length = nn + 1) := by show _ = _; rw [List.length_append, HNA.out]; rfl
          obtain ⟨a6, c6, rfl⟩ := owns_slice hown6
          have HOW6 := Lib.hid hown6
          clear hown6 i2 i3 i4
          go_wp2
          go_ret
          exact accPost_mk HX6.out (Row.of_owns HOW6.out (Nat.le_refl _)) (by rw [HS.out, HSA.out]) HLN.out (ST0.trans ST6)


/- What an instruction does to places: the document's answer. -/
theorem racc_any (B : Nat) (b : Bod) (bs : List Value) (i : Nat) (w : World) (h : BodAt w B b bs) (hi : i < b.code.length) (hs : BodSmall b) (hB : B ≤ w.heap.size) :
    Calls Try.prog 37 #[.agg bs.toArray, .int .i64 i] w (AccPost B (accB b i) w) := by
  obtain ⟨x, hx⟩ : ∃ x, b.code[i]? = some x := ⟨_, List.getElem?_eq_getElem hi⟩
  have e : accB b i = accI b.locals x := by unfold accB; rw [hx]
  rw [e]
  by_cases h3 : x.kind = 3
  · exact racc_set B b bs i x w h hx h3 (hs.2 i x hx) hB
  · by_cases h6 : x.kind = 6
    · exact racc_ret B b bs i x w h hx h6 hs.1
    · exact racc_few B b bs i x w h hx h3 h6

end Go.Proofs.Ytilipeigjkmldaa
