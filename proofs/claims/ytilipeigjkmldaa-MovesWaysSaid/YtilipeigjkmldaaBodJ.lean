/- Contracts of package mir: Accesses of an assignment; Accesses. -/
import Derived.Test.YtilipeigjkmldaaBodI
namespace Go.Proofs.Ytilipeigjkmldaa
open Go.RowKit

theorem accs_take (l : List Opd) (i : Nat) (o : Opd) (h : l[i]? = some o) : (l.take (i + 1)).flatMap opAcc = (l.take i).flatMap opAcc ++ opAcc o := by
  obtain ⟨hi, rfl⟩ := List.getElem?_eq_some_iff.1 h
  rw [List.take_succ_eq_append_getElem hi, List.flatMap_append]; simp
theorem opAcc_len (o : Opd) : (opAcc o).length ≤ 1 := by
  by_cases h : o.kind = 2 ∨ o.kind = 3
  · rw [opAcc_yes h]; exact Nat.le_refl _
  · rw [opAcc_no h]; exact Nat.zero_le _
theorem accs_len : ∀ (l : List Opd), (l.flatMap opAcc).length ≤ l.length
  | [] => Nat.le_refl _
  | o :: r => by
    rw [List.flatMap_cons, List.length_append, List.length_cons]
    have := accs_len r
    have := opAcc_len o
    omega
theorem acCells (w : World) (B : Nat) (a : Acc) (v : Value) (h : Row w B v a.pl.path.length (intsV a.pl.path)) : ∀ u ∈ [Value.int .i64 a.pl.loc, v, .int .i64 a.kind], u.oneCell' = true := AcAt.one a _ ⟨v, rfl, h⟩

theorem accPost_mk {B n : Nat} {l l' : List Acc} {w w' : World} {v : Value} {xs : List Value} (hx : Each (AcAt w' B) l' xs) (hr : Row w' w'.heap.size v n xs) (hl : l = l') (hn : l'.length = n) (hs : Step (fun _ => False) w w') : AccPost B l w (.returned v) w' := by
  subst hl hn
  exact ⟨⟨v, xs, rfl, hx, hr⟩, hs⟩

def setAcc (x : Ins) : List Acc := x.args.flatMap opAcc ++ ((if x.rkind = 2 then [⟨x.rpl, if x.mu then 3 else 1⟩] else []) ++ [⟨x.dest, 4⟩])

set_option maxRecDepth 100000 in
set_option maxHeartbeats 8000000 in
theorem acc_set (B g : Nat) (b : Bod) (i : Nat) (x : Ins) (w : World) (h : BodP w B g b) (hx : b.code[i]? = some x) (h3 : x.kind = 3) (hl : x.args.length ≤ 100000) (hB : B ≤ w.heap.size) :
    Calls Try.prog 38 #[.pointer (some ⟨g, 0, none⟩), .int .i64 i] w (AccPost B (accI b.locals x) w) := by
  have hi := (List.getElem?_eq_some_iff.1 hx).1
  obtain ⟨-, -, a, c, b3, hc1, hc2, hcode⟩ := h.parts
  obtain ⟨g', o', rfl, hcode2⟩ := hcode (by omega)
  obtain ⟨cs, hat, f⟩ := hcode2 i x hx
  clear hcode hcode2 h hx
  have HONE := Lib.hid (InAt.one _ _ hat)
  obtain ⟨vd, va, vp, vt, vc, xa, rfl, hr1, hoa, hra, hr2, ⟨at1, nt1, ct1, rfl⟩, hr3⟩ := hat; have HR1 := Lib.hid hr1; have HOA := Lib.hid hoa; have HRA := Lib.hid hra; have HR2 := Lib.hid hr2; have HR3 := Lib.hid hr3; obtain ⟨ad1, cd1, rfl, -⟩ := hr1; obtain ⟨aa1, ca1, rfl, -⟩ := hra; obtain ⟨ap1, cp1, rfl, -⟩ := hr2; obtain ⟨ac1, cc1, rfl, -⟩ := hr3; clear hoa
  have F := Lib.hid f
  clear f HR3
  have HS : Hid (accI b.locals x = setAcc x) := by show _ = _; unfold accI; rw [if_neg (by omega), if_neg (by omega), if_pos h3]; rfl
  have e0 : decide ((i : Int) < 0) = false := decide_eq_false (by omega)
  have e1 : decide (b.code.length ≤ i) = false := decide_eq_false (by omega)
  obtain ⟨i0, hi0, hz0, hz1, hz2⟩ := info_parts Try.infoAcc
  have HI := Lib.hid hi0
  have HZ0 := Lib.hid hz0
  have HZ1 := Lib.hid hz1
  have HZ2 := Lib.hid hz2
  obtain ⟨kd, hkd⟩ : ∃ kd, kd = x.kind := ⟨_, rfl⟩
  rw [← hkd] at F HONE h3
  subst h3
  clear hi0 hz0 hz1 hz2 hkd
  go_enter Try.func38, Try.ntmps38
  go_upto_region 6 with (first
      | (refine wpList_load_whole rfl 57 (.tmp 35) rfl g' (o' + i * 21) rfl _ _ F.out Try.underlying57 rfl Try.sizeIns ?_)
      | (refine wpList_store_new rfl 57 (.tmp 6) (.tmp 36) rfl _ _ rfl rfl Try.sizeIns rfl HONE.out ?_))
  clear F HONE
  obtain ⟨W0, hW0⟩ : ∃ W0 : World, W0 = w.alloc (.cells #[.int .i64 3, .int .i64 x.loc, .int .i64 x.dest.loc, .slice ad1 x.dest.path.length cd1, .int .i64 x.rkind, .slice aa1 x.args.length ca1, .int .i64 x.rpl.loc, .slice ap1 x.rpl.path.length cp1, .bool x.mu, .string x.rname, .int .i64 x.rn, .slice at1 nt1 ct1,
    .int .i64 x.cond.kind, .int .i64 x.cond.pl.loc, .slice ac1 x.cond.pl.path.length cc1, .int .i64 x.cond.ty, .int .u64 x.cond.n, .int .i64 x.tgt, .int .i64 x.els, .int .i64 x.line, .int .i64 x.col] 57) := ⟨_, rfl⟩
  have ST0 : Step (fun _ => False) w W0 := by rw [hW0]; exact (Step.refl _ _).alloc _
  have HBX : Hid (∀ X, Step (fun _ => False) W0 X → X.heap[w.heap.size]? = some (.cells #[.int .i64 3, .int .i64 x.loc, .int .i64 x.dest.loc, .slice ad1 x.dest.path.length cd1, .int .i64 x.rkind, .slice aa1 x.args.length ca1, .int .i64 x.rpl.loc, .slice ap1 x.rpl.path.length cp1, .bool x.mu, .string x.rname, .int .i64 x.rn, .slice at1 nt1 ct1,
    .int .i64 x.cond.kind, .int .i64 x.cond.pl.loc, .slice ac1 x.cond.pl.path.length cc1, .int .i64 x.cond.ty, .int .u64 x.cond.n, .int .i64 x.tgt, .int .i64 x.els, .int .i64 x.line, .int .i64 x.col] 57 (0, 0))) := fun X hX => hX.keep (by rw [hW0]; exact blk_new _ _) (fun h => h)
  have i5 := blk_cell (HBX.out W0 (Step.refl _ _)) 5 _ rfl
  rw [← hW0]
  clear b3 hW0
  obtain ⟨aa, ca, hva, hca1, hca2, -, hargs⟩ := HRA.out.step ST0 (fun _ _ h => h)
  obtain ⟨rfl, -, rfl⟩ : aa1 = aa ∧ True ∧ ca1 = ca := by cases hva; exact ⟨rfl, trivial, rfl⟩
  have HARGS := Lib.hid hargs
  have HOLD : Hid (∀ k, k < B → ¬ W0.heap.size ≤ k) := by
    show ∀ k, k < B → ¬ _
    have := ST0.size
    intro k hk hh; omega
  have HOA0 := Lib.hid (Each.mono (OpAt.step ST0 (fun _ _ h => h)) _ _ HOA.out)
  have HR1' := Lib.hid (HR1.out.step ST0 (fun _ _ h => h))
  have HR2' := Lib.hid (HR2.out.step ST0 (fun _ _ h => h))
  clear hva hargs HOA HR1 HR2 HRA
  go_wp2_with fail
  go_loopg [5, 11, 12, 13, 93] x.args.length (fun gg s5 _ _ _ s93 wr => ∃ k : Nat, s93 = .int .i64 k ∧ k ≤ x.args.length ∧ x.args.length - k ≤ gg ∧ (∃ xs, Each (AcAt wr B) ((x.args.take k).flatMap opAcc) xs ∧ wr.ownsRow W0.heap.size 90 3 s5 ((x.args.take k).flatMap opAcc).length xs) ∧ Step (fun _ => False) W0 wr)
  case atStart => exact ⟨0, rfl, Nat.zero_le _, by omega, ⟨[], Each.nil, World.ownsRow_nil _ _ _ _⟩, Step.refl _ _⟩
  case round =>
    obtain ⟨k, rfl, hk, hgg, ⟨xs, hxs, hown⟩, hst⟩ := hrel
    obtain ⟨ao, co, rfl⟩ := owns_slice hown
    have HOW := Lib.hid hown
    have HXS := Lib.hid hxs
    have HLL : Hid (((x.args.take k).flatMap opAcc).length ≤ 100000) := Nat.le_trans (accs_len _) (Nat.le_trans (List.length_take_le _ _) (by omega))
    obtain ⟨nn, hnn⟩ : ∃ nn, nn = ((x.args.take k).flatMap opAcc).length := ⟨_, rfl⟩
    have HNN := Lib.hid hnn
    rw [← hnn] at HOW HLL
    rw [← hnn]
    clear hown hxs hnn i5
    by_cases hlt : k < x.args.length
    · obtain ⟨o, ho⟩ : ∃ o, x.args[k]? = some o := ⟨x.args[k], List.getElem?_eq_getElem hlt⟩
      obtain ⟨g2, o2, rfl, -, -, hcell⟩ := HARGS.out (by omega)
      obtain ⟨cs, hoat, f⟩ := Each.cells 5 OpAt.len (Each.mono (OpAt.step hst (fun _ _ h => h)) _ _ HOA0.out) ho (fun i x hx => hst.cell (hcell i x hx) (fun h => h))
      have HT := Lib.hid (accs_take x.args k o ho)
      have HOAT := Lib.hid hoat
      have HLEN := Lib.hid (OpAt.len _ _ hoat)
      have HONE : Hid (∀ u ∈ cs, u.oneCell' = true) := by
        obtain ⟨v, rfl, hv⟩ := hoat
        have := hv.one
        intro u hu
        simp at hu
        rcases hu with rfl | rfl | rfl | rfl | rfl <;> first | rfl | assumption
      have F := Lib.hid f
      have STA : Step (fun _ => False) wr (wr.alloc (.cells cs.toArray 53)) := (Step.refl _ _).alloc _
      have hinf : (Try.prog.info? 53).map (·.size) = some cs.length := by rw [HLEN.out]; exact Try.sizeOp
      clear hcell f hoat ho
      by_cases hko : o.kind = 2 ∨ o.kind = 3
      · have HO := Lib.hid (opAcc_yes hko)
        have HKO := Lib.hid hko
        clear hko
        as_aux_lemma =>
          go_wp2_with (first
            | (refine wpList_load_whole rfl 53 (.tmp 95) rfl g2 (o2 + k * 5) rfl cs _ F.out Try.underlying53 rfl hinf ?_)
            | (refine wpList_store_new rfl 53 (.tmp 11) (.tmp 96) rfl _ cs rfl rfl hinf (by rw [HLEN.out]; rfl) HONE.out ?_)
            | (refine wpList_load_whole rfl 53 (.tmp 11) rfl wr.heap.size 0 rfl cs _ (fun j v h => new_cells j v h) Try.underlying53 rfl hinf ?_))
          refine (of_yes B o cs _ (OpAt.step STA (fun _ _ h => h) _ _ HOAT.out) HKO.out).mono ?_
          rintro e w1 ⟨⟨v1, rfl, hr1⟩, hw1⟩
          have HRV := Lib.hid (hr1.step hw1 (fun _ _ h => h))
          have ST1 := hst.trans (STA.trans hw1)
          obtain ⟨av, cv, rfl, -⟩ := hr1
          have HOW1 := Lib.hid ((STA.trans hw1).owns HOW.out (fun _ _ h => h))
          have HXS1 := Lib.hid (Each.mono (AcAt.step (STA.trans hw1) (fun _ _ h => h)) _ _ HXS.out)
          have STW : Step (fun _ => False) w1 ((w1.alloc (.cells #[.int .i64 o.pl.loc, .slice av o.pl.path.length cv, .int .i64 (o.kind - 1)] 90)).alloc (.cells #[.int .i64 o.pl.loc, .slice av o.pl.path.length cv, .int .i64 (o.kind - 1)] 90)) := ((Step.refl _ _).alloc _).alloc _
          have HROW : Hid (Row ((w1.alloc (.cells #[.int .i64 o.pl.loc, .slice av o.pl.path.length cv, .int .i64 (o.kind - 1)] 90)).alloc (.cells #[.int .i64 o.pl.loc, .slice av o.pl.path.length cv, .int .i64 (o.kind - 1)] 90)) (w1.heap.size + 2) (.slice (some ⟨w1.heap.size + 1, 0, none⟩) 1 1) 1 [.int .i64 o.pl.loc, .slice av o.pl.path.length cv, .int .i64 (o.kind - 1)]) :=
            Row.new (cs := [.int .i64 o.pl.loc, .slice av o.pl.path.length cv, .int .i64 (o.kind - 1)]) (blk_new2 _ _ _) (by decide)
          have hll := HLL.out
          go_wp2_with (at_builtin; refine wpList_append_row _ rfl (w1.heap.size + 2) _ _ 87 rfl W0.heap.size 90 i0 (.agg #[.int .i64 0, .slice none 0 0, .int .i64 0]) 3 40 Try.underlying87 HI.out HZ0.out HZ1.out HZ2.out rfl (by decide) _ _ _ rfl (STW.owns HOW1.out (fun _ _ h => h)) _ 1 _ rfl HROW.out rfl (acCells w1 B ⟨o.pl, o.kind - 1⟩ _ HRV.out) (by unfold maxLen; omega) (by omega) (ST1.trans STW).size ?_)
          intro v4 w4 hown4 hgrow4 _
          have STG : Step (fun q => W0.heap.size ≤ q) w1 w4 := ((STW.mono (fun _ _ h => h.elim) : Step (fun q => W0.heap.size ≤ q) _ _)).grown hgrow4 (fun q hq _ => owned_row HOW1.out q hq)
          have ST4 : Step (fun _ => False) W0 w4 := (ST1.trans STW).grown hgrow4 (fun q hq hlt => by have := owned_row HOW1.out q hq; omega)
          have HX4 : Hid (Each (AcAt w4 B) ((x.args.take (k + 1)).flatMap opAcc) (xs ++ [.int .i64 o.pl.loc, .slice av o.pl.path.length cv, .int .i64 (o.kind - 1)])) := by
            rw [HT.out, HO.out]
            exact Each.append _ _ _ _ (Each.mono (AcAt.step STG HOLD.out) _ _ HXS1.out) (acOne (a := ⟨o.pl, o.kind - 1⟩) (HRV.out.step STG HOLD.out) rfl)
          have HO4 : Hid (w4.ownsRow W0.heap.size 90 3 v4 ((x.args.take (k + 1)).flatMap opAcc).length (xs ++ [.int .i64 o.pl.loc, .slice av o.pl.path.length cv, .int .i64 (o.kind - 1)])) := by
            rw [HT.out, HO.out, List.length_append, ← HNN.out]; exact hown4
          clear hown4 hll
          go_wp2
          go_roundg (gk - 1)
          case rel => exact ⟨k + 1, by go_num, by omega, by omega, ⟨_, HX4.out, HO4.out⟩, ST4⟩
          case measure => omega
      · have HO := Lib.hid (opAcc_no hko)
        have HKO := Lib.hid hko
        clear hko
        as_aux_lemma =>
          go_wp2_with (first
            | (refine wpList_load_whole rfl 53 (.tmp 95) rfl g2 (o2 + k * 5) rfl cs _ F.out Try.underlying53 rfl hinf ?_)
            | (refine wpList_store_new rfl 53 (.tmp 11) (.tmp 96) rfl _ cs rfl rfl hinf (by rw [HLEN.out]; rfl) HONE.out ?_)
            | (refine wpList_load_whole rfl 53 (.tmp 11) rfl wr.heap.size 0 rfl cs _ (fun j v h => new_cells j v h) Try.underlying53 rfl hinf ?_))
          refine (of_no B o cs _ (OpAt.step STA (fun _ _ h => h) _ _ HOAT.out) HKO.out).mono ?_
          rintro e w1 ⟨rfl, hw1⟩
          have STZ : Step (fun _ => False) wr (w1.alloc (.cells #[.int .i64 0, .slice none 0 0, .int .i64 0] 90)) := (STA.trans hw1).alloc _
          have HX4 : Hid (Each (AcAt (w1.alloc (.cells #[.int .i64 0, .slice none 0 0, .int .i64 0] 90)) B) ((x.args.take (k + 1)).flatMap opAcc) xs) := by
            rw [HT.out, HO.out, List.append_nil]; exact Each.mono (AcAt.step STZ (fun _ _ h => h)) _ _ HXS.out
          have HO4 : Hid ((w1.alloc (.cells #[.int .i64 0, .slice none 0 0, .int .i64 0] 90)).ownsRow W0.heap.size 90 3 (.slice ao nn co) ((x.args.take (k + 1)).flatMap opAcc).length xs) := by
            rw [HT.out, HO.out, List.append_nil, ← HNN.out]; exact STZ.owns HOW.out (fun _ _ h => h)
          go_wp2
          go_roundg (gk - 1)
          case rel => exact ⟨k + 1, by go_num, by omega, by omega, ⟨xs, HX4.out, HO4.out⟩, hst.trans STZ⟩
          case measure => omega
    · obtain rfl : k = x.args.length := by omega
      have HXA : Hid (Each (AcAt wr B) (x.args.flatMap opAcc) xs) := by have := HXS.out; rw [List.take_length] at this; exact this
      have HNA : Hid (nn = (x.args.flatMap opAcc).length) := by show _ = _; rw [HNN.out, List.take_length]
      have hll := HLL.out
      have bx := HBX.out wr hst
      have i2 := blk_cell bx 2 _ rfl
      have i3 := blk_cell bx 3 _ rfl
      have i4 := blk_cell bx 4 _ rfl
      clear HXS HNN HARGS HOA0
      have HRN : Hid (∀ (X : World) (l k : Int) (v : Value), Row (X.alloc (.cells #[.int .i64 l, v, .int .i64 k] 90)) (X.heap.size + 1) (.slice (some ⟨X.heap.size, 0, none⟩) 1 1) 1 [.int .i64 l, v, .int .i64 k]) := fun X l k v => Row.new (cs := [.int .i64 l, v, .int .i64 k]) (blk_new _ _) (by decide)
      by_cases hb2 : x.rkind = 2
      · have eb2 : (x.rkind == 2) = true := by simpa using hb2
        have i6 := blk_cell bx 6 _ rfl
        have i7 := blk_cell bx 7 _ rfl
        have i8 := blk_cell bx 8 _ rfl
        have HSA : Hid (setAcc x = (x.args.flatMap opAcc ++ [⟨x.rpl, if x.mu then 3 else 1⟩]) ++ [⟨x.dest, 4⟩]) := by show _ = _; unfold setAcc; rw [if_pos hb2, List.append_assoc]
        clear bx hb2
        obtain ⟨K, hK⟩ : ∃ K : Int, K = if x.mu then 3 else 1 := ⟨_, rfl⟩
        have HK := Lib.hid hK
        have ST2 : Step (fun _ => False) W0 (wr.alloc (.cells #[.int .i64 x.rpl.loc, .slice ap1 x.rpl.path.length cp1, .int .i64 K] 90)) := hst.alloc _
        cases hmu : x.mu with
        | true =>
          have hK3 : K = 3 := by rw [hK, hmu]; rfl
          have HM := Lib.hid hmu
          rw [hmu] at i8
          clear hK hmu
          subst hK3
          as_aux_lemma =>
            go_wp2_with (at_builtin; refine wpList_append_row _ rfl (wr.heap.size + 1) _ _ 87 rfl W0.heap.size 90 i0 (.agg #[.int .i64 0, .slice none 0 0, .int .i64 0]) 3 40 Try.underlying87 HI.out HZ0.out HZ1.out HZ2.out rfl (by decide) _ _ _ rfl (HOW.out.alloc _) _ 1 _ rfl (HRN.out wr _ _ _) rfl (acCells W0 B ⟨x.rpl, 3⟩ _ HR2'.out) (by unfold maxLen; omega) (by omega) ST2.size ?_)
            intro v4 w4 hown4 hgrow4 _
            have STG : Step (fun q => W0.heap.size ≤ q) wr w4 := ((Step.refl _ _).alloc _).grown hgrow4 (fun q hq _ => owned_row HOW.out q hq)
            have ST4 : Step (fun _ => False) W0 w4 := ST2.grown hgrow4 (fun q hq hlt => by have := owned_row HOW.out q hq; omega)
            obtain ⟨a4, c4, rfl⟩ := owns_slice hown4
            have HOW4 := Lib.hid hown4
            have HX4 := Lib.hid (Each.snoc (Each.mono (AcAt.step STG HOLD.out) _ _ HXA.out) (show AcAt w4 B ⟨x.rpl, 3⟩ _ from ⟨_, rfl, HR2'.out.step ST4 (fun _ _ h => h)⟩))
            clear hown4 i2 i3 i4 i6 i7 i8
            have bx := HBX.out w4 ST4
            have i2 := blk_cell bx 2 _ rfl
            have i3 := blk_cell bx 3 _ rfl
            have ST5 : Step (fun _ => False) W0 (w4.alloc (.cells #[.int .i64 x.dest.loc, .slice ad1 x.dest.path.length cd1, .int .i64 4] 90)) := ST4.alloc _
            clear bx
            go_wp2_with (at_builtin; refine wpList_append_row _ rfl (w4.heap.size + 1) _ _ 87 rfl W0.heap.size 90 i0 (.agg #[.int .i64 0, .slice none 0 0, .int .i64 0]) 3 40 Try.underlying87 HI.out HZ0.out HZ1.out HZ2.out rfl (by decide) _ _ _ rfl (HOW4.out.alloc _) _ 1 _ rfl (HRN.out w4 _ _ _) rfl (acCells W0 B ⟨x.dest, 4⟩ _ HR1'.out) (by unfold maxLen; omega) (by omega) ST5.size ?_)
            intro v6 w6 hown6 hgrow6 _
            have STG6 : Step (fun q => W0.heap.size ≤ q) w4 w6 := ((Step.refl _ _).alloc _).grown hgrow6 (fun q hq _ => owned_row HOW4.out q hq)
            have ST6 : Step (fun _ => False) W0 w6 := ST5.grown hgrow6 (fun q hq hlt => by have := owned_row HOW4.out q hq; omega)
            have HX6 := Lib.hid (Each.snoc (Each.mono (AcAt.step STG6 HOLD.out) _ _ HX4.out) (show AcAt w6 B ⟨x.dest, 4⟩ _ from ⟨_, rfl, HR1'.out.step ST6 (fun _ _ h => h)⟩))
            have HLN : Hid (((x.args.flatMap opAcc ++ [(⟨x.rpl, 3⟩ : Acc)]) ++ [(⟨x.dest, 4⟩ : Acc)]).length = nn + 1 + 1) := by show _ = _; rw [List.length_append, List.length_append, HNA.out]; rfl
            obtain ⟨a6, c6, rfl⟩ := owns_slice hown6
            have HOW6 := Lib.hid hown6
            clear hown6 i2 i3
            have HX7 := HX6.out
            rw [List.append_assoc xs] at HX7
            go_wp2
            go_ret
            exact accPost_mk HX7 (Row.of_owns HOW6.out (Nat.le_refl _)) (by rw [HS.out, HSA.out, HM.out]; rfl) HLN.out (ST0.trans ST6)
        | false =>
          have hK3 : K = 1 := by rw [hK, hmu]; rfl
          have HM := Lib.hid hmu
          rw [hmu] at i8
          clear hK hmu
          subst hK3
          as_aux_lemma =>
            go_wp2_with (at_builtin; refine wpList_append_row _ rfl (wr.heap.size + 1) _ _ 87 rfl W0.heap.size 90 i0 (.agg #[.int .i64 0, .slice none 0 0, .int .i64 0]) 3 40 Try.underlying87 HI.out HZ0.out HZ1.out HZ2.out rfl (by decide) _ _ _ rfl (HOW.out.alloc _) _ 1 _ rfl (HRN.out wr _ _ _) rfl (acCells W0 B ⟨x.rpl, 1⟩ _ HR2'.out) (by unfold maxLen; omega) (by omega) ST2.size ?_)
            intro v4 w4 hown4 hgrow4 _
            have STG : Step (fun q => W0.heap.size ≤ q) wr w4 := ((Step.refl _ _).alloc _).grown hgrow4 (fun q hq _ => owned_row HOW.out q hq)
            have ST4 : Step (fun _ => False) W0 w4 := ST2.grown hgrow4 (fun q hq hlt => by have := owned_row HOW.out q hq; omega)
            obtain ⟨a4, c4, rfl⟩ := owns_slice hown4
            have HOW4 := Lib.hid hown4
            have HX4 := Lib.hid (Each.snoc (Each.mono (AcAt.step STG HOLD.out) _ _ HXA.out) (show AcAt w4 B ⟨x.rpl, 1⟩ _ from ⟨_, rfl, HR2'.out.step ST4 (fun _ _ h => h)⟩))
            clear hown4 i2 i3 i4 i6 i7 i8
            have bx := HBX.out w4 ST4
            have i2 := blk_cell bx 2 _ rfl
            have i3 := blk_cell bx 3 _ rfl
            have ST5 : Step (fun _ => False) W0 (w4.alloc (.cells #[.int .i64 x.dest.loc, .slice ad1 x.dest.path.length cd1, .int .i64 4] 90)) := ST4.alloc _
            clear bx
            go_wp2_with (at_builtin; refine wpList_append_row _ rfl (w4.heap.size + 1) _ _ 87 rfl W0.heap.size 90 i0 (.agg #[.int .i64 0, .slice none 0 0, .int .i64 0]) 3 40 Try.underlying87 HI.out HZ0.out HZ1.out HZ2.out rfl (by decide) _ _ _ rfl (HOW4.out.alloc _) _ 1 _ rfl (HRN.out w4 _ _ _) rfl (acCells W0 B ⟨x.dest, 4⟩ _ HR1'.out) (by unfold maxLen; omega) (by omega) ST5.size ?_)
            intro v6 w6 hown6 hgrow6 _
            have STG6 : Step (fun q => W0.heap.size ≤ q) w4 w6 := ((Step.refl _ _).alloc _).grown hgrow6 (fun q hq _ => owned_row HOW4.out q hq)
            have ST6 : Step (fun _ => False) W0 w6 := ST5.grown hgrow6 (fun q hq hlt => by have := owned_row HOW4.out q hq; omega)
            have HX6 := Lib.hid (Each.snoc (Each.mono (AcAt.step STG6 HOLD.out) _ _ HX4.out) (show AcAt w6 B ⟨x.dest, 4⟩ _ from ⟨_, rfl, HR1'.out.step ST6 (fun _ _ h => h)⟩))
            have HLN : Hid (((x.args.flatMap opAcc ++ [(⟨x.rpl, 1⟩ : Acc)]) ++ [(⟨x.dest, 4⟩ : Acc)]).length = nn + 1 + 1) := by show _ = _; rw [List.length_append, List.length_append, HNA.out]; rfl
            obtain ⟨a6, c6, rfl⟩ := owns_slice hown6
            have HOW6 := Lib.hid hown6
            clear hown6 i2 i3
            have HX7 := HX6.out
            rw [List.append_assoc xs] at HX7
            go_wp2
            go_ret
            exact accPost_mk HX7 (Row.of_owns HOW6.out (Nat.le_refl _)) (by rw [HS.out, HSA.out, HM.out]; rfl) HLN.out (ST0.trans ST6)
      · have eb2 : (x.rkind == 2) = false := by simpa using hb2
        have HSA : Hid (setAcc x = x.args.flatMap opAcc ++ [⟨x.dest, 4⟩]) := by show _ = _; unfold setAcc; rw [if_neg hb2, List.nil_append]
        clear bx hb2
        have ST5 : Step (fun _ => False) W0 (wr.alloc (.cells #[.int .i64 x.dest.loc, .slice ad1 x.dest.path.length cd1, .int .i64 4] 90)) := hst.alloc _
        as_aux_lemma =>
          go_wp2_with (at_builtin; refine wpList_append_row _ rfl (wr.heap.size + 1) _ _ 87 rfl W0.heap.size 90 i0 (.agg #[.int .i64 0, .slice none 0 0, .int .i64 0]) 3 40 Try.underlying87 HI.out HZ0.out HZ1.out HZ2.out rfl (by decide) _ _ _ rfl (HOW.out.alloc _) _ 1 _ rfl (HRN.out wr _ _ _) rfl (acCells W0 B ⟨x.dest, 4⟩ _ HR1'.out) (by unfold maxLen; omega) (by omega) ST5.size ?_)
          intro v6 w6 hown6 hgrow6 _
          have STG6 : Step (fun q => W0.heap.size ≤ q) wr w6 := ((Step.refl _ _).alloc _).grown hgrow6 (fun q hq _ => owned_row HOW.out q hq)
          have ST6 : Step (fun _ => False) W0 w6 := ST5.grown hgrow6 (fun q hq hlt => by have := owned_row HOW.out q hq; omega)
          have HX6 := Lib.hid (Each.snoc (Each.mono (AcAt.step STG6 HOLD.out) _ _ HXA.out) (show AcAt w6 B ⟨x.dest, 4⟩ _ from ⟨_, rfl, HR1'.out.step ST6 (fun _ _ h => h)⟩))
          have HLN : Hid ((x.args.flatMap opAcc ++ [(⟨x.dest, 4⟩ : Acc)]).length = nn + 1) := by show _ = _; rw [List.length_append, HNA.out]; rfl
          obtain ⟨a6, c6, rfl⟩ := owns_slice hown6
          have HOW6 := Lib.hid hown6
          clear hown6 i2 i3 i4
          go_wp2
          go_ret
          exact accPost_mk HX6.out (Row.of_owns HOW6.out (Nat.le_refl _)) (by rw [HS.out, HSA.out]) HLN.out (ST0.trans ST6)

/- What an instruction does to places. -/
theorem acc_any (B g : Nat) (b : Bod) (i : Nat) (w : World) (h : BodP w B g b) (hi : i < b.code.length) (hs : BodSmall b) (hB : B ≤ w.heap.size) :
    Calls Try.prog 38 #[.pointer (some ⟨g, 0, none⟩), .int .i64 i] w (AccPost B (accB b i) w) := by
  obtain ⟨x, hx⟩ : ∃ x, b.code[i]? = some x := ⟨_, List.getElem?_eq_getElem hi⟩
  have e : accB b i = accI b.locals x := by unfold accB; rw [hx]
  rw [e]
  by_cases h3 : x.kind = 3
  · exact acc_set B g b i x w h hx h3 (hs.2 i x hx) hB
  · by_cases h6 : x.kind = 6
    · exact acc_ret B g b i x w h hx h6 hs.1
    · exact acc_few B g b i x w h hx h3 h6

end Go.Proofs.Ytilipeigjkmldaa
