/- What an instruction does to places: the slice that is answered is a new one. -/
import Derived.Test.YtilipeigjkmldaaBodJ
namespace Go.Proofs.Ytilipeigjkmldaa
open Go.RowKit

def Fresh (w : World) (e : Ending) : Prop := ∀ v, e = .returned v → ∀ q, v.ownBlock = some q → w.heap.size ≤ q
theorem Fresh.nil {w : World} : Fresh w (.returned (.slice none 0 0)) := fun v hv q hq => by cases hv; cases hq
theorem Fresh.at {w : World} {b n c : Nat} (h : w.heap.size ≤ b) : Fresh w (.returned (.slice (some ⟨b, 0, none⟩) n c)) := fun v hv q hq => by cases hv; cases hq; exact h
theorem Fresh.own {w w' : World} {base : Nat} {e : TypeId} {size : Nat} {v : Value} {n : Nat} {xs : List Value} (h : w'.ownsRow base e size v n xs) (hb : w.heap.size ≤ base) : Fresh w (.returned v) := fun u hv q hq => by cases hv; exact Nat.le_trans hb (h.lt q hq).1
def AccFresh (B : Nat) (l : List Acc) (w : World) (e : Ending) (w' : World) : Prop := AccPost B l w e w' ∧ Fresh w e

set_option maxRecDepth 100000 in
set_option maxHeartbeats 2000000 in
theorem acc_few_f (B g : Nat) (b : Bod) (i : Nat) (x : Ins) (w : World) (h : BodP w B g b) (hx : b.code[i]? = some x) (h3 : x.kind ≠ 3) (h6 : x.kind ≠ 6) :
    Calls Try.prog 38 #[.pointer (some ⟨g, 0, none⟩), .int .i64 i] w (AccFresh B (accI b.locals x) w) := by
  have hi := (List.getElem?_eq_some_iff.1 hx).1
  obtain ⟨-, -, a, c, b3, hc1, hc2, hcode⟩ := h.parts
  obtain ⟨g', o', rfl, hcode2⟩ := hcode (by omega)
  obtain ⟨cs, hat, f⟩ := hcode2 i x hx
  clear hcode hcode2 h hx
  have HONE := Lib.hid (InAt.one _ _ hat)
  obtain ⟨vd, va, vp, vt, vc, xa, rfl, hr1, hoa, hra, hr2, ⟨at1, nt1, ct1, rfl⟩, hr3⟩ := hat; have HR1 := Lib.hid hr1; have HOA := Lib.hid hoa; have HRA := Lib.hid hra; have HR2 := Lib.hid hr2; have HR3 := Lib.hid hr3; obtain ⟨ad1, cd1, rfl, -⟩ := hr1; obtain ⟨aa1, ca1, rfl, -⟩ := hra; obtain ⟨ap1, cp1, rfl, -⟩ := hr2; obtain ⟨ac1, cc1, rfl, -⟩ := hr3; clear hoa
  have F := Lib.hid f
  clear f HR1 HOA HRA HR2
  have HS : Hid (accI b.locals x = if x.kind = 1 then [⟨⟨x.loc, []⟩, 5⟩] else if x.kind = 2 then [⟨⟨x.loc, []⟩, 6⟩] else if x.kind = 3 then x.args.flatMap opAcc ++ ((if x.rkind = 2 then [⟨x.rpl, if x.mu then 3 else 1⟩] else []) ++ [⟨x.dest, 4⟩])
    else if x.kind = 5 then opAcc x.cond else if x.kind = 6 then ⟨⟨0, []⟩, 2⟩ :: (List.range (b.locals - 1)).map (fun (k : Nat) => ⟨⟨(k : Int) + 1, []⟩, 6⟩) else []) := rfl
  have e0 : decide ((i : Int) < 0) = false := decide_eq_false (by omega)
  have e1 : decide (b.code.length ≤ i) = false := decide_eq_false (by omega)
  obtain ⟨i0, hi0, hz0, hz1, hz2⟩ := info_parts Try.infoAcc
  have HI := Lib.hid hi0
  have HZ0 := Lib.hid hz0
  have HZ1 := Lib.hid hz1
  have HZ2 := Lib.hid hz2
  clear hi0 hz0 hz1 hz2
  go_enter Try.func38, Try.ntmps38
  go_upto_region 6 with (first
      | (refine wpList_load_whole rfl 57 (.tmp 35) rfl g' (o' + i * 21) rfl _ _ F.out Try.underlying57 rfl Try.sizeIns ?_)
      | (refine wpList_store_new rfl 57 (.tmp 6) (.tmp 36) rfl _ _ rfl rfl Try.sizeIns rfl HONE.out ?_))
  clear F HONE
  by_cases h1 : x.kind = 1
  · rw [if_pos h1] at HS
    have e1 : (x.kind == 1) = true := by simpa using h1
    clear h1 h3 h6
    as_aux_lemma =>
      go_wp2
      go_ret
      obtain ⟨xs, hx1, hx2⟩ := acRow (a := ⟨⟨x.loc, []⟩, 5⟩) (Row.nil _ B _) rfl (blk_new2 w _ _)
      exact ⟨⟨⟨_, xs, rfl, by rw [HS.out]; exact hx1, by rw [HS.out]; exact hx2⟩, ((Step.refl _ _).alloc _).alloc _⟩, Fresh.at (Nat.le_succ _)⟩
  have e1 : (x.kind == 1) = false := by simpa using h1
  by_cases h2 : x.kind = 2
  · rw [if_neg h1, if_pos h2] at HS
    have e2 : (x.kind == 2) = true := by simpa using h2
    clear h1 h2 h3 h6
    as_aux_lemma =>
      go_wp2
      go_ret
      obtain ⟨xs, hx1, hx2⟩ := acRow (a := ⟨⟨x.loc, []⟩, 6⟩) (Row.nil _ B _) rfl (blk_new2 w _ _)
      exact ⟨⟨⟨_, xs, rfl, by rw [HS.out]; exact hx1, by rw [HS.out]; exact hx2⟩, ((Step.refl _ _).alloc _).alloc _⟩, Fresh.at (Nat.le_succ _)⟩
  have e2 : (x.kind == 2) = false := by simpa using h2
  have e3 : (x.kind == 3) = false := by simpa using h3
  have e6 : (x.kind == 6) = false := by simpa using h6
  by_cases h5 : x.kind = 5
  · rw [if_neg h1, if_neg h2, if_neg h3, if_pos h5] at HS
    have e5 : (x.kind == 5) = true := by simpa using h5
    have STA : Step (fun _ => False) w (w.alloc (.cells #[.int .i64 x.kind, .int .i64 x.loc, .int .i64 x.dest.loc, .slice ad1 x.dest.path.length cd1, .int .i64 x.rkind, .slice aa1 x.args.length ca1, .int .i64 x.rpl.loc, .slice ap1 x.rpl.path.length cp1, .bool x.mu, .string x.rname, .int .i64 x.rn, .slice at1 nt1 ct1,
      .int .i64 x.cond.kind, .int .i64 x.cond.pl.loc, .slice ac1 x.cond.pl.path.length cc1, .int .i64 x.cond.ty, .int .u64 x.cond.n, .int .i64 x.tgt, .int .i64 x.els, .int .i64 x.line, .int .i64 x.col] 57)) := (Step.refl _ _).alloc _
    clear h1 h2 h3 h6 h5
    by_cases hk : x.cond.kind = 2 ∨ x.cond.kind = 3
    · have HO := Lib.hid (opAcc_yes hk)
      have HK := Lib.hid hk
      clear hk
      as_aux_lemma =>
        go_wp2_with fail
        refine (of_yes B x.cond _ _ ⟨_, rfl, HR3.out.step STA (fun _ _ h => h)⟩ HK.out).mono ?_
        rintro e w1 ⟨⟨v1, rfl, hr1⟩, hw1⟩
        have HRV := Lib.hid (hr1.step hw1 (fun _ _ h => h))
        have ST1 := STA.trans hw1
        obtain ⟨av, cv, rfl, -⟩ := hr1
        have HOWN : Hid (((w1.alloc (.cells #[.int .i64 x.cond.pl.loc, .slice av x.cond.pl.path.length cv, .int .i64 (x.cond.kind - 1)] 90)).alloc (.cells #[.int .i64 x.cond.pl.loc, .slice av x.cond.pl.path.length cv, .int .i64 (x.cond.kind - 1)] 90)).ownsRow w1.heap.size 90 3 (.slice none 0 0) 0 []) := World.ownsRow_nil _ _ _ _
        have STW : Step (fun _ => False) w1 ((w1.alloc (.cells #[.int .i64 x.cond.pl.loc, .slice av x.cond.pl.path.length cv, .int .i64 (x.cond.kind - 1)] 90)).alloc (.cells #[.int .i64 x.cond.pl.loc, .slice av x.cond.pl.path.length cv, .int .i64 (x.cond.kind - 1)] 90)) := ((Step.refl _ _).alloc _).alloc _
        have HROW : Hid (Row ((w1.alloc (.cells #[.int .i64 x.cond.pl.loc, .slice av x.cond.pl.path.length cv, .int .i64 (x.cond.kind - 1)] 90)).alloc (.cells #[.int .i64 x.cond.pl.loc, .slice av x.cond.pl.path.length cv, .int .i64 (x.cond.kind - 1)] 90)) (w1.heap.size + 2) (.slice (some ⟨w1.heap.size + 1, 0, none⟩) 1 1) 1 [.int .i64 x.cond.pl.loc, .slice av x.cond.pl.path.length cv, .int .i64 (x.cond.kind - 1)]) :=
          Row.new (cs := [.int .i64 x.cond.pl.loc, .slice av x.cond.pl.path.length cv, .int .i64 (x.cond.kind - 1)]) (blk_new2 _ _ _) (by decide)
        go_wp2_with (at_builtin; refine wpList_append_row _ rfl (w1.heap.size + 2) _ _ 87 rfl w1.heap.size 90 i0 (.agg #[.int .i64 0, .slice none 0 0, .int .i64 0]) 3 40 Try.underlying87 HI.out HZ0.out HZ1.out HZ2.out rfl (by decide) _ _ _ rfl HOWN.out _ 1 _ rfl HROW.out rfl (AcAt.one (w := w1) (B := B) ⟨x.cond.pl, x.cond.kind - 1⟩ _ ⟨_, rfl, HRV.out⟩) (by unfold maxLen; omega) (by omega) STW.size ?_)
        intro v4 w4 hown4 hgrow4 _
        have ST4 : Step (fun _ => False) w1 w4 := STW.grown hgrow4 (fun k hk hlt => by have := owned_row HOWN.out k hk; omega)
        obtain ⟨ao, co, rfl⟩ := owns_slice hown4
        have HOW4 := Lib.hid hown4
        clear hown4
        go_wp2
        go_ret
        refine ⟨⟨⟨_, [.int .i64 x.cond.pl.loc, .slice av x.cond.pl.path.length cv, .int .i64 (x.cond.kind - 1)], rfl, ?_, ?_⟩, ST1.trans ST4⟩, Fresh.own HOW4.out ST1.size⟩
        · rw [HS.out, HO.out]; exact acOne (a := ⟨x.cond.pl, x.cond.kind - 1⟩) (HRV.out.step ST4 (fun _ _ h => h)) rfl
        · rw [HS.out, HO.out]; exact Row.of_owns HOW4.out (Nat.le_refl _)
    · have HO := Lib.hid (opAcc_no hk)
      have HK := Lib.hid hk
      clear hk
      as_aux_lemma =>
        go_wp2_with fail
        refine (of_no B x.cond _ _ ⟨_, rfl, HR3.out.step STA (fun _ _ h => h)⟩ HK.out).mono ?_
        rintro e w1 ⟨rfl, hw1⟩
        go_wp2
        go_ret
        exact ⟨⟨⟨_, [], rfl, by rw [HS.out, HO.out]; exact Each.nil, by rw [HS.out, HO.out]; exact Row.nil _ _ _⟩, (STA.trans hw1).alloc _⟩, Fresh.nil⟩
  have e5 : (x.kind == 5) = false := by simpa using h5
  rw [if_neg h1, if_neg h2, if_neg h3, if_neg h5, if_neg h6] at HS
  clear h1 h2 h3 h6 h5
  as_aux_lemma =>
    go_wp2
    go_ret
    exact ⟨⟨⟨_, [], rfl, by rw [HS.out]; exact Each.nil, by rw [HS.out]; exact Row.nil _ _ _⟩, (Step.refl _ _).alloc _⟩, Fresh.nil⟩

set_option maxRecDepth 100000 in
set_option maxHeartbeats 4000000 in
theorem acc_ret_f (B g : Nat) (b : Bod) (i : Nat) (x : Ins) (w : World) (h : BodP w B g b) (hx : b.code[i]? = some x) (h6 : x.kind = 6) (hl : b.locals ≤ 100000) :
    Calls Try.prog 38 #[.pointer (some ⟨g, 0, none⟩), .int .i64 i] w (AccFresh B (accI b.locals x) w) := by
  have hi := (List.getElem?_eq_some_iff.1 hx).1
  obtain ⟨-, ⟨al, cl, b2⟩, a, c, b3, hc1, hc2, hcode⟩ := h.parts
  obtain ⟨g', o', rfl, hcode2⟩ := hcode (by omega)
  obtain ⟨cs, hat, f⟩ := hcode2 i x hx
  clear hcode hcode2 h hx
  have HONE := Lib.hid (InAt.one _ _ hat)
  obtain ⟨vd, va, vp, vt, vc, xa, rfl, -, -, -, -, -, -⟩ := hat
  have F := Lib.hid f
  clear f
  have HS : Hid (accI b.locals x = retAcc b.locals) := by show _ = _; unfold accI; rw [if_neg (by omega), if_neg (by omega), if_neg (by omega), if_neg (by omega), if_pos h6]; rfl
  have e0 : decide ((i : Int) < 0) = false := decide_eq_false (by omega)
  have e1 : decide (b.code.length ≤ i) = false := decide_eq_false (by omega)
  have ek : x.kind = 6 := h6
  obtain ⟨i0, hi0, hz0, hz1, hz2⟩ := info_parts Try.infoAcc
  have HI := Lib.hid hi0
  have HZ0 := Lib.hid hz0
  have HZ1 := Lib.hid hz1
  have HZ2 := Lib.hid hz2
  obtain ⟨kd, hkd⟩ : ∃ kd, kd = x.kind := ⟨_, rfl⟩
  rw [← hkd] at F HONE h6
  subst h6
  clear hi0 hz0 hz1 hz2 ek hkd
  have hb0 : Hid (1 ≤ b.locals ∨ b.locals = 0) := by show _ ∨ _; omega
  go_enter Try.func38, Try.ntmps38
  go_upto_region 6 with (first
      | (refine wpList_load_whole rfl 57 (.tmp 35) rfl g' (o' + i * 21) rfl _ _ F.out Try.underlying57 rfl Try.sizeIns ?_)
      | (refine wpList_store_new rfl 57 (.tmp 6) (.tmp 36) rfl _ _ rfl rfl Try.sizeIns rfl HONE.out ?_))
  clear F HONE
  obtain ⟨W0, hW0⟩ : ∃ W0 : World, W0 = w.alloc (.cells #[.int .i64 6, .int .i64 x.loc, .int .i64 x.dest.loc, vd, .int .i64 x.rkind, va, .int .i64 x.rpl.loc, vp, .bool x.mu, .string x.rname, .int .i64 x.rn, vt,
    .int .i64 x.cond.kind, .int .i64 x.cond.pl.loc, vc, .int .i64 x.cond.ty, .int .u64 x.cond.n, .int .i64 x.tgt, .int .i64 x.els, .int .i64 x.line, .int .i64 x.col] 57) := ⟨_, rfl⟩
  have ST0 : Step (fun _ => False) w W0 := by rw [hW0]; exact (Step.refl _ _).alloc _
  have HSZ0 : Hid (W0.heap.size = w.heap.size + 1) := by show _ = _; rw [hW0]; simp
  have HC2 : Hid (∀ X, Step (fun _ => False) W0 X → X.cell? ⟨g, 2, none⟩ = some (.slice al b.locals cl)) := fun X hX => hX.cell (ST0.cell b2 (fun h => h)) (fun h => h)
  rw [← hW0]
  clear b2 b3 hW0
  have HROW : Hid (∀ (X : World) (k t : Int), Row (X.alloc (.cells #[.int .i64 k, .slice none 0 0, .int .i64 t] 90)) (X.heap.size + 1) (.slice (some ⟨X.heap.size, 0, none⟩) 1 1) 1 (acV ⟨⟨k, []⟩, t⟩)) := fun X k t => Row.new (cs := [.int .i64 k, .slice none 0 0, .int .i64 t]) (blk_new _ _) (by decide)
  have HOWN : Hid ((W0.alloc (.cells #[.int .i64 0, .slice none 0 0, .int .i64 2] 90)).ownsRow W0.heap.size 90 3 (.slice none 0 0) 0 []) := World.ownsRow_nil _ _ _ _
  go_wp2_with (at_builtin; refine wpList_append_row _ rfl (W0.heap.size + 1) _ _ 87 rfl W0.heap.size 90 i0 (.agg #[.int .i64 0, .slice none 0 0, .int .i64 0]) 3 40 Try.underlying87 HI.out HZ0.out HZ1.out HZ2.out rfl (by decide) _ _ _ rfl HOWN.out _ 1 _ rfl (HROW.out W0 0 2) rfl acV_one (by unfold maxLen; omega) (by omega) (by simp) ?_)
  intro v1 w1 hown1 hgrow1 _
  have ST1 : Step (fun _ => False) W0 w1 := ((Step.refl _ _).alloc _).grown hgrow1 (fun k hk hlt => by have := owned_row HOWN.out k hk; omega)
  have HOW1 := Lib.hid hown1
  clear hown1 HOWN
  go_wp2_with fail
  go_loopg [5, 9] b.locals (fun gg s5 s9 wr => ∃ n : Nat, s9 = .int .i64 n ∧ 1 ≤ n ∧ n ≤ max 1 b.locals ∧ b.locals - n ≤ gg ∧ wr.ownsRow W0.heap.size 90 3 s5 n ((retAcc n).flatMap acV) ∧ Step (fun _ => False) W0 wr)
  case atStart => exact ⟨1, rfl, Nat.le_refl _, by omega, by omega, HOW1.out, ST1⟩
  case round =>
    obtain ⟨n, rfl, hn1, hn2, hgg, hown, hst⟩ := hrel
    have c2 := HC2.out wr hst
    obtain ⟨ao, co, rfl⟩ := owns_slice hown
    have HOW := Lib.hid hown
    clear hown
    by_cases hlt : n < b.locals
    · have HT : Hid ((retAcc (n + 1)).flatMap acV = (retAcc n).flatMap acV ++ acV ⟨⟨(n : Int), []⟩, 6⟩) := by show _ = _; rw [retAcc_succ n hn1, List.flatMap_append]; simp
      have ST2 : Step (fun _ => False) W0 (wr.alloc (.cells #[.int .i64 n, .slice none 0 0, .int .i64 6] 90)) := hst.alloc _
      go_wp2_with (at_builtin; refine wpList_append_row _ rfl (wr.heap.size + 1) _ _ 87 rfl W0.heap.size 90 i0 (.agg #[.int .i64 0, .slice none 0 0, .int .i64 0]) 3 40 Try.underlying87 HI.out HZ0.out HZ1.out HZ2.out rfl (by decide) _ _ _ rfl (HOW.out.alloc _) _ 1 _ rfl (HROW.out wr n 6) rfl acV_one (by unfold maxLen; omega) (by omega) ST2.size ?_)
      intro v4 w4 hown4 hgrow4 _
      have ST4 : Step (fun _ => False) W0 w4 := ST2.grown hgrow4 (fun k hk hlt => by have := owned_row HOW.out k hk; omega)
      rw [← HT.out] at hown4
      clear c2
      go_wp2
      go_roundg (gk - 1)
      case rel => exact ⟨n + 1, by go_num, by omega, by omega, by omega, hown4, ST4⟩
      case measure => omega
    · have HF : Hid (n = b.locals ∨ (b.locals = 0 ∧ n = 1)) := by show _ ∨ _; omega
      go_wp2
      go_ret
      rcases HF.out with rfl | ⟨h0, rfl⟩
      · refine ⟨⟨⟨_, (retAcc b.locals).flatMap acV, rfl, ?_, ?_⟩, ST0.trans hst⟩, Fresh.own HOW.out ST0.size⟩
        · rw [HS.out]; exact acV_each _ _ _ (retAcc_path _)
        · rw [HS.out, retAcc_len _ hn1]; exact Row.of_owns HOW.out (Nat.le_refl _)
      · refine ⟨⟨⟨_, (retAcc 1).flatMap acV, rfl, ?_, ?_⟩, ST0.trans hst⟩, Fresh.own HOW.out ST0.size⟩
        · rw [HS.out, h0]; exact acV_each _ _ _ (retAcc_path _)
        · rw [HS.out, h0]; exact Row.of_owns HOW.out (Nat.le_refl _)

set_option maxRecDepth 100000 in
set_option maxHeartbeats 8000000 in
theorem acc_set_f (B g : Nat) (b : Bod) (i : Nat) (x : Ins) (w : World) (h : BodP w B g b) (hx : b.code[i]? = some x) (h3 : x.kind = 3) (hl : x.args.length ≤ 100000) (hB : B ≤ w.heap.size) :
    Calls Try.prog 38 #[.pointer (some ⟨g, 0, none⟩), .int .i64 i] w (AccFresh B (accI b.locals x) w) := by
  have hi := (List.getElem?_eq_some_iff.1 hx).1
  obtain ⟨-, -, a, c, b3, hc1, hc2, hcode⟩ := h.parts
  obtain ⟨g', o', rfl, hcode2⟩ := hcode (by omega)
  obtain ⟨cs, hat, f⟩ := hcode2 i x hx
  clear hcode hcode2 h hx
  have HONE := Lib.hid (InAt.one _ _ hat)
  obtain ⟨vd, va, vp, vt, vc, xa, rfl, hr1, hoa, hra, hr2, ⟨at1, nt1, ct1, rfl⟩, hr3⟩ := hat; have HR1 := Lib.hid hr1; have HOA := Lib.hid hoa; have HRA := Lib.hid hra; have HR2 := Lib.hid hr2; have HR3 := Lib.hid hr3; obtain ⟨ad1, cd1, rfl, -⟩ := hr1; obtain ⟨aa1, ca1, rfl, -⟩ := hra; obtain ⟨ap1, cp1, rfl, -⟩ := hr2; obtain ⟨ac1, cc1, rfl, -⟩ := hr3; clear hoa
  have F := Lib.hid f
  clear f HR3
  have HS : Hid (accI b.locals x = setAcc x) := by show _ = _; unfold accI; rw [if_neg (by omega), if_neg (by omega), if_pos h3]; rfl
  have e0 : decide ((i : Int) < 0) = false := decide_eq_false (by omega)
  have e1 : decide (b.code.length ≤ i) = false := decide_eq_false (by omega)
  obtain ⟨i0, hi0, hz0, hz1, hz2⟩ := info_parts Try.infoAcc
  have HI := Lib.hid hi0
  have HZ0 := Lib.hid hz0
  have HZ1 := Lib.hid hz1
  have HZ2 := Lib.hid hz2
  obtain ⟨kd, hkd⟩ : ∃ kd, kd = x.kind := ⟨_, rfl⟩
  rw [← hkd] at F HONE h3
  subst h3
  clear hi0 hz0 hz1 hz2 hkd
  go_enter Try.func38, Try.ntmps38
  go_upto_region 6 with (first
      | (refine wpList_load_whole rfl 57 (.tmp 35) rfl g' (o' + i * 21) rfl _ _ F.out Try.underlying57 rfl Try.sizeIns ?_)
      | (refine wpList_store_new rfl 57 (.tmp 6) (.tmp 36) rfl _ _ rfl rfl Try.sizeIns rfl HONE.out ?_))
  clear F HONE
  obtain ⟨W0, hW0⟩ : ∃ W0 : World, W0 = w.alloc (.cells #[.int .i64 3, .int .i64 x.loc, .int .i64 x.dest.loc, .slice ad1 x.dest.path.length cd1, .int .i64 x.rkind, .slice aa1 x.args.length ca1, .int .i64 x.rpl.loc, .slice ap1 x.rpl.path.length cp1, .bool x.mu, .string x.rname, .int .i64 x.rn, .slice at1 nt1 ct1,
    .int .i64 x.cond.kind, .int .i64 x.cond.pl.loc, .slice ac1 x.cond.pl.path.length cc1, .int .i64 x.cond.ty, .int .u64 x.cond.n, .int .i64 x.tgt, .int .i64 x.els, .int .i64 x.line, .int .i64 x.col] 57) := ⟨_, rfl⟩
  have ST0 : Step (fun _ => False) w W0 := by rw [hW0]; exact (Step.refl _ _).alloc _
  have HBX : Hid (∀ X, Step (fun _ => False) W0 X → X.heap[w.heap.size]? = some (.cells #[.int .i64 3, .int .i64 x.loc, .int .i64 x.dest.loc, .slice ad1 x.dest.path.length cd1, .int .i64 x.rkind, .slice aa1 x.args.length ca1, .int .i64 x.rpl.loc, .slice ap1 x.rpl.path.length cp1, .bool x.mu, .string x.rname, .int .i64 x.rn, .slice at1 nt1 ct1,
    .int .i64 x.cond.kind, .int .i64 x.cond.pl.loc, .slice ac1 x.cond.pl.path.length cc1, .int .i64 x.cond.ty, .int .u64 x.cond.n, .int .i64 x.tgt, .int .i64 x.els, .int .i64 x.line, .int .i64 x.col] 57 (0, 0))) := fun X hX => hX.keep (by rw [hW0]; exact blk_new _ _) (fun h => h)
  have i5 := blk_cell (HBX.out W0 (Step.refl _ _)) 5 _ rfl
  rw [← hW0]
  clear b3 hW0
  obtain ⟨aa, ca, hva, hca1, hca2, -, hargs⟩ := HRA.out.step ST0 (fun _ _ h => h)
  obtain ⟨rfl, -, rfl⟩ : aa1 = aa ∧ True ∧ ca1 = ca := by cases hva; exact ⟨rfl, trivial, rfl⟩
  have HARGS := Lib.hid hargs
  have HOLD : Hid (∀ k, k < B → ¬ W0.heap.size ≤ k) := by
    show ∀ k, k < B → ¬ _
    have := ST0.size
    intro k hk hh; omega
  have HOA0 := Lib.hid (Each.mono (OpAt.step ST0 (fun _ _ h => h)) _ _ HOA.out)
  have HR1' := Lib.hid (HR1.out.step ST0 (fun _ _ h => h))
  have HR2' := Lib.hid (HR2.out.step ST0 (fun _ _ h => h))
  clear hva hargs HOA HR1 HR2 HRA
  go_wp2_with fail
  go_loopg [5, 11, 12, 13, 93] x.args.length (fun gg s5 _ _ _ s93 wr => ∃ k : Nat, s93 = .int .i64 k ∧ k ≤ x.args.length ∧ x.args.length - k ≤ gg ∧ (∃ xs, Each (AcAt wr B) ((x.args.take k).flatMap opAcc) xs ∧ wr.ownsRow W0.heap.size 90 3 s5 ((x.args.take k).flatMap opAcc).length xs) ∧ Step (fun _ => False) W0 wr)
  case atStart => exact ⟨0, rfl, Nat.zero_le _, by omega, ⟨[], Each.nil, World.ownsRow_nil _ _ _ _⟩, Step.refl _ _⟩
  case round =>
    obtain ⟨k, rfl, hk, hgg, ⟨xs, hxs, hown⟩, hst⟩ := hrel
    obtain ⟨ao, co, rfl⟩ := owns_slice hown
    have HOW := Lib.hid hown
    have HXS := Lib.hid hxs
    have HLL : Hid (((x.args.take k).flatMap opAcc).length ≤ 100000) := Nat.le_trans (accs_len _) (Nat.le_trans (List.length_take_le _ _) (by omega))
    obtain ⟨nn, hnn⟩ : ∃ nn, nn = ((x.args.take k).flatMap opAcc).length := ⟨_, rfl⟩
    have HNN := Lib.hid hnn
    rw [← hnn] at HOW HLL
    rw [← hnn]
    clear hown hxs hnn i5
    by_cases hlt : k < x.args.length
    · obtain ⟨o, ho⟩ : ∃ o, x.args[k]? = some o := ⟨x.args[k], List.getElem?_eq_getElem hlt⟩
      obtain ⟨g2, o2, rfl, -, -, hcell⟩ := HARGS.out (by omega)
      obtain ⟨cs, hoat, f⟩ := Each.cells 5 OpAt.len (Each.mono (OpAt.step hst (fun _ _ h => h)) _ _ HOA0.out) ho (fun i x hx => hst.cell (hcell i x hx) (fun h => h))
      have HT := Lib.hid (accs_take x.args k o ho)
      have HOAT := Lib.hid hoat
      have HLEN := Lib.hid (OpAt.len _ _ hoat)
      have HONE : Hid (∀ u ∈ cs, u.oneCell' = true) := by
        obtain ⟨v, rfl, hv⟩ := hoat
        have := hv.one
        intro u hu
        simp at hu
        rcases hu with rfl | rfl | rfl | rfl | rfl <;> first | rfl | assumption
      have F := Lib.hid f
      have STA : Step (fun _ => False) wr (wr.alloc (.cells cs.toArray 53)) := (Step.refl _ _).alloc _
      have hinf : (Try.prog.info? 53).map (·.size) = some cs.length := by rw [HLEN.out]; exact Try.sizeOp
      clear hcell f hoat ho
      by_cases hko : o.kind = 2 ∨ o.kind = 3
      · have HO := Lib.hid (opAcc_yes hko)
        have HKO := Lib.hid hko
        clear hko
        as_aux_lemma =>
          go_wp2_with (first
            | (refine wpList_load_whole rfl 53 (.tmp 95) rfl g2 (o2 + k * 5) rfl cs _ F.out Try.underlying53 rfl hinf ?_)
            | (refine wpList_store_new rfl 53 (.tmp 11) (.tmp 96) rfl _ cs rfl rfl hinf (by rw [HLEN.out]; rfl) HONE.out ?_)
            | (refine wpList_load_whole rfl 53 (.tmp 11) rfl wr.heap.size 0 rfl cs _ (fun j v h => new_cells j v h) Try.underlying53 rfl hinf ?_))
          refine (of_yes B o cs _ (OpAt.step STA (fun _ _ h => h) _ _ HOAT.out) HKO.out).mono ?_
          rintro e w1 ⟨⟨v1, rfl, hr1⟩, hw1⟩
          have HRV := Lib.hid (hr1.step hw1 (fun _ _ h => h))
          have ST1 := hst.trans (STA.trans hw1)
          obtain ⟨av, cv, rfl, -⟩ := hr1
          have HOW1 := Lib.hid ((STA.trans hw1).owns HOW.out (fun _ _ h => h))
          have HXS1 := Lib.hid (Each.mono (AcAt.step (STA.trans hw1) (fun _ _ h => h)) _ _ HXS.out)
          have STW : Step (fun _ => False) w1 ((w1.alloc (.cells #[.int .i64 o.pl.loc, .slice av o.pl.path.length cv, .int .i64 (o.kind - 1)] 90)).alloc (.cells #[.int .i64 o.pl.loc, .slice av o.pl.path.length cv, .int .i64 (o.kind - 1)] 90)) := ((Step.refl _ _).alloc _).alloc _
          have HROW : Hid (Row ((w1.alloc (.cells #[.int .i64 o.pl.loc, .slice av o.pl.path.length cv, .int .i64 (o.kind - 1)] 90)).alloc (.cells #[.int .i64 o.pl.loc, .slice av o.pl.path.length cv, .int .i64 (o.kind - 1)] 90)) (w1.heap.size + 2) (.slice (some ⟨w1.heap.size + 1, 0, none⟩) 1 1) 1 [.int .i64 o.pl.loc, .slice av o.pl.path.length cv, .int .i64 (o.kind - 1)]) :=
            Row.new (cs := [.int .i64 o.pl.loc, .slice av o.pl.path.length cv, .int .i64 (o.kind - 1)]) (blk_new2 _ _ _) (by decide)
          have hll := HLL.out
          go_wp2_with (at_builtin; refine wpList_append_row _ rfl (w1.heap.size + 2) _ _ 87 rfl W0.heap.size 90 i0 (.agg #[.int .i64 0, .slice none 0 0, .int .i64 0]) 3 40 Try.underlying87 HI.out HZ0.out HZ1.out HZ2.out rfl (by decide) _ _ _ rfl (STW.owns HOW1.out (fun _ _ h => h)) _ 1 _ rfl HROW.out rfl (acCells w1 B ⟨o.pl, o.kind - 1⟩ _ HRV.out) (by unfold maxLen; omega) (by omega) (ST1.trans STW).size ?_)
          intro v4 w4 hown4 hgrow4 _
          have STG : Step (fun q => W0.heap.size ≤ q) w1 w4 := ((STW.mono (fun _ _ h => h.elim) : Step (fun q => W0.heap.size ≤ q) _ _)).grown hgrow4 (fun q hq _ => owned_row HOW1.out q hq)
          have ST4 : Step (fun _ => False) W0 w4 := (ST1.trans STW).grown hgrow4 (fun q hq hlt => by have := owned_row HOW1.out q hq; omega)
          have HX4 : Hid (Each (AcAt w4 B) ((x.args.take (k + 1)).flatMap opAcc) (xs ++ [.int .i64 o.pl.loc, .slice av o.pl.path.length cv, .int .i64 (o.kind - 1)])) := by
            rw [HT.out, HO.out]
            exact Each.append _ _ _ _ (Each.mono (AcAt.step STG HOLD.out) _ _ HXS1.out) (acOne (a := ⟨o.pl, o.kind - 1⟩) (HRV.out.step STG HOLD.out) rfl)
          have HO4 : Hid (w4.ownsRow W0.heap.size 90 3 v4 ((x.args.take (k + 1)).flatMap opAcc).length (xs ++ [.int .i64 o.pl.loc, .slice av o.pl.path.length cv, .int .i64 (o.kind - 1)])) := by
            rw [HT.out, HO.out, List.length_append, ← HNN.out]; exact hown4
          clear hown4 hll
          go_wp2
          go_roundg (gk - 1)
          case rel => exact ⟨k + 1, by go_num, by omega, by omega, ⟨_, HX4.out, HO4.out⟩, ST4⟩
          case measure => omega
      · have HO := Lib.hid (opAcc_no hko)
        have HKO := Lib.hid hko
        clear hko
        as_aux_lemma =>
          go_wp2_with (first
            | (refine wpList_load_whole rfl 53 (.tmp 95) rfl g2 (o2 + k * 5) rfl cs _ F.out Try.underlying53 rfl hinf ?_)
            | (refine wpList_store_new rfl 53 (.tmp 11) (.tmp 96) rfl _ cs rfl rfl hinf (by rw [HLEN.out]; rfl) HONE.out ?_)
            | (refine wpList_load_whole rfl 53 (.tmp 11) rfl wr.heap.size 0 rfl cs _ (fun j v h => new_cells j v h) Try.underlying53 rfl hinf ?_))
          refine (of_no B o cs _ (OpAt.step STA (fun _ _ h => h) _ _ HOAT.out) HKO.out).mono ?_
          rintro e w1 ⟨rfl, hw1⟩
          have STZ : Step (fun _ => False) wr (w1.alloc (.cells #[.int .i64 0, .slice none 0 0, .int .i64 0] 90)) := (STA.trans hw1).alloc _
          have HX4 : Hid (Each (AcAt (w1.alloc (.cells #[.int .i64 0, .slice none 0 0, .int .i64 0] 90)) B) ((x.args.take (k + 1)).flatMap opAcc) xs) := by
            rw [HT.out, HO.out, List.append_nil]; exact Each.mono (AcAt.step STZ (fun _ _ h => h)) _ _ HXS.out
          have HO4 : Hid ((w1.alloc (.cells #[.int .i64 0, .slice none 0 0, .int .i64 0] 90)).ownsRow W0.heap.size 90 3 (.slice ao nn co) ((x.args.take (k + 1)).flatMap opAcc).length xs) := by
            rw [HT.out, HO.out, List.append_nil, ← HNN.out]; exact STZ.owns HOW.out (fun _ _ h => h)
          go_wp2
          go_roundg (gk - 1)
          case rel => exact ⟨k + 1, by go_num, by omega, by omega, ⟨xs, HX4.out, HO4.out⟩, hst.trans STZ⟩
          case measure => omega
    · obtain rfl : k = x.args.length := by omega
      have HXA : Hid (Each (AcAt wr B) (x.args.flatMap opAcc) xs) := by have := HXS.out; rw [List.take_length] at this; exact this
      have HNA : Hid (nn = (x.args.flatMap opAcc).length) := by show _ = _; rw [HNN.out, List.take_length]
      have hll := HLL.out
      have bx := HBX.out wr hst
      have i2 := blk_cell bx 2 _ rfl
      have i3 := blk_cell bx 3 _ rfl
      have i4 := blk_cell bx 4 _ rfl
      clear HXS HNN HARGS HOA0
      have HRN : Hid (∀ (X : World) (l k : Int) (v : Value), Row (X.alloc (.cells #[.int .i64 l, v, .int .i64 k] 90)) (X.heap.size + 1) (.slice (some ⟨X.heap.size, 0, none⟩) 1 1) 1 [.int .i64 l, v, .int .i64 k]) := fun X l k v => Row.new (cs := [.int .i64 l, v, .int .i64 k]) (blk_new _ _) (by decide)
      by_cases hb2 : x.rkind = 2
      · have eb2 : (x.rkind == 2) = true := by simpa using hb2
        have i6 := blk_cell bx 6 _ rfl
        have i7 := blk_cell bx 7 _ rfl
        have i8 := blk_cell bx 8 _ rfl
        have HSA : Hid (setAcc x = (x.args.flatMap opAcc ++ [⟨x.rpl, if x.mu then 3 else 1⟩]) ++ [⟨x.dest, 4⟩]) := by show _ = _; unfold setAcc; rw [if_pos hb2, List.append_assoc]
        clear bx hb2
        obtain ⟨K, hK⟩ : ∃ K : Int, K = if x.mu then 3 else 1 := ⟨_, rfl⟩
        have HK := Lib.hid hK
        have ST2 : Step (fun _ => False) W0 (wr.alloc (.cells #[.int .i64 x.rpl.loc, .slice ap1 x.rpl.path.length cp1, .int .i64 K] 90)) := hst.alloc _
        cases hmu : x.mu with
        | true =>
          have hK3 : K = 3 := by rw [hK, hmu]; rfl
          have HM := Lib.hid hmu
          rw [hmu] at i8
          clear hK hmu
          subst hK3
          as_aux_lemma =>
            go_wp2_with (at_builtin; refine wpList_append_row _ rfl (wr.heap.size + 1) _ _ 87 rfl W0.heap.size 90 i0 (.agg #[.int .i64 0, .slice none 0 0, .int .i64 0]) 3 40 Try.underlying87 HI.out HZ0.out HZ1.out HZ2.out rfl (by decide) _ _ _ rfl (HOW.out.alloc _) _ 1 _ rfl (HRN.out wr _ _ _) rfl (acCells W0 B ⟨x.rpl, 3⟩ _ HR2'.out) (by unfold maxLen; omega) (by omega) ST2.size ?_)
            intro v4 w4 hown4 hgrow4 _
            have STG : Step (fun q => W0.heap.size ≤ q) wr w4 := ((Step.refl _ _).alloc _).grown hgrow4 (fun q hq _ => owned_row HOW.out q hq)
            have ST4 : Step (fun _ => False) W0 w4 := ST2.grown hgrow4 (fun q hq hlt => by have := owned_row HOW.out q hq; omega)
            obtain ⟨a4, c4, rfl⟩ := owns_slice hown4
            have HOW4 := Lib.hid hown4
            have HX4 := Lib.hid (Each.snoc (Each.mono (AcAt.step STG HOLD.out) _ _ HXA.out) (show AcAt w4 B ⟨x.rpl, 3⟩ _ from ⟨_, rfl, HR2'.out.step ST4 (fun _ _ h => h)⟩))
            clear hown4 i2 i3 i4 i6 i7 i8
            have bx := HBX.out w4 ST4
            have i2 := blk_cell bx 2 _ rfl
            have i3 := blk_cell bx 3 _ rfl
            have ST5 : Step (fun _ => False) W0 (w4.alloc (.cells #[.int .i64 x.dest.loc, .slice ad1 x.dest.path.length cd1, .int .i64 4] 90)) := ST4.alloc _
            clear bx
            go_wp2_with (at_builtin; refine wpList_append_row _ rfl (w4.heap.size + 1) _ _ 87 rfl W0.heap.size 90 i0 (.agg #[.int .i64 0, .slice none 0 0, .int .i64 0]) 3 40 Try.underlying87 HI.out HZ0.out HZ1.out HZ2.out rfl (by decide) _ _ _ rfl (HOW4.out.alloc _) _ 1 _ rfl (HRN.out w4 _ _ _) rfl (acCells W0 B ⟨x.dest, 4⟩ _ HR1'.out) (by unfold maxLen; omega) (by omega) ST5.size ?_)
            intro v6 w6 hown6 hgrow6 _
            have STG6 : Step (fun q => W0.heap.size ≤ q) w4 w6 := ((Step.refl _ _).alloc _).grown hgrow6 (fun q hq _ => owned_row HOW4.out q hq)
            have ST6 : Step (fun _ => False) W0 w6 := ST5.grown hgrow6 (fun q hq hlt => by have := owned_row HOW4.out q hq; omega)
            have HX6 := Lib.hid (Each.snoc (Each.mono (AcAt.step STG6 HOLD.out) _ _ HX4.out) (show AcAt w6 B ⟨x.dest, 4⟩ _ from ⟨_, rfl, HR1'.out.step ST6 (fun _ _ h => h)⟩))
            have HLN : Hid (((x.args.flatMap opAcc ++ [(⟨x.rpl, 3⟩ : Acc)]) ++ [(⟨x.dest, 4⟩ : Acc)]).length = nn + 1 + 1) := by show _ = _; rw [List.length_append, List.length_append, HNA.out]; rfl
            obtain ⟨a6, c6, rfl⟩ := owns_slice hown6
            have HOW6 := Lib.hid hown6
            clear hown6 i2 i3
            have HX7 := HX6.out
            rw [List.append_assoc xs] at HX7
            go_wp2
            go_ret
            exact ⟨accPost_mk HX7 (Row.of_owns HOW6.out (Nat.le_refl _)) (by rw [HS.out, HSA.out, HM.out]; rfl) HLN.out (ST0.trans ST6), Fresh.own HOW6.out ST0.size⟩
        | false =>
          have hK3 : K = 1 := by rw [hK, hmu]; rfl
          have HM := Lib.hid hmu
          rw [hmu] at i8
          clear hK hmu
          subst hK3
          as_aux_lemma =>
            go_wp2_with (at_builtin; refine wpList_append_row _ rfl (wr.heap.size + 1) _ _ 87 rfl W0.heap.size 90 i0 (.agg #[.int .i64 0, .slice none 0 0, .int .i64 0]) 3 40 Try.underlying87 HI.out HZ0.out HZ1.out HZ2.out rfl (by decide) _ _ _ rfl (HOW.out.alloc _) _ 1 _ rfl (HRN.out wr _ _ _) rfl (acCells W0 B ⟨x.rpl, 1⟩ _ HR2'.out) (by unfold maxLen; omega) (by omega) ST2.size ?_)
            intro v4 w4 hown4 hgrow4 _
            have STG : Step (fun q => W0.heap.size ≤ q) wr w4 := ((Step.refl _ _).alloc _).grown hgrow4 (fun q hq _ => owned_row HOW.out q hq)
            have ST4 : Step (fun _ => False) W0 w4 := ST2.grown hgrow4 (fun q hq hlt => by have := owned_row HOW.out q hq; omega)
            obtain ⟨a4, c4, rfl⟩ := owns_slice hown4
            have HOW4 := Lib.hid hown4
            have HX4 := Lib.hid (Each.snoc (Each.mono (AcAt.step STG HOLD.out) _ _ HXA.out) (show AcAt w4 B ⟨x.rpl, 1⟩ _ from ⟨_, rfl, HR2'.out.step ST4 (fun _ _ h => h)⟩))
            clear hown4 i2 i3 i4 i6 i7 i8
            have bx := HBX.out w4 ST4
            have i2 := blk_cell bx 2 _ rfl
            have i3 := blk_cell bx 3 _ rfl
            have ST5 : Step (fun _ => False) W0 (w4.alloc (.cells #[.int .i64 x.dest.loc, .slice ad1 x.dest.path.length cd1, .int .i64 4] 90)) := ST4.alloc _
            clear bx
            go_wp2_with (at_builtin; refine wpList_append_row _ rfl (w4.heap.size + 1) _ _ 87 rfl W0.heap.size 90 i0 (.agg #[.int .i64 0, .slice none 0 0, .int .i64 0]) 3 40 Try.underlying87 HI.out HZ0.out HZ1.out HZ2.out rfl (by decide) _ _ _ rfl (HOW4.out.alloc _) _ 1 _ rfl (HRN.out w4 _ _ _) rfl (acCells W0 B ⟨x.dest, 4⟩ _ HR1'.out) (by unfold maxLen; omega) (by omega) ST5.size ?_)
            intro v6 w6 hown6 hgrow6 _
            have STG6 : Step (fun q => W0.heap.size ≤ q) w4 w6 := ((Step.refl _ _).alloc _).grown hgrow6 (fun q hq _ => owned_row HOW4.out q hq)
            have ST6 : Step (fun _ => False) W0 w6 := ST5.grown hgrow6 (fun q hq hlt => by have := owned_row HOW4.out q hq; omega)
            have HX6 := Lib.hid (Each.snoc (Each.mono (AcAt.step STG6 HOLD.out) _ _ HX4.out) (show AcAt w6 B ⟨x.dest, 4⟩ _ from ⟨_, rfl, HR1'.out.step ST6 (fun _ _ h => h)⟩))
            have HLN : Hid (((x.args.flatMap opAcc ++ [(⟨x.rpl, 1⟩ : Acc)]) ++ [(⟨x.dest, 4⟩ : Acc)]).length = nn + 1 + 1) := by show _ = _; rw [List.length_append, List.length_append, HNA.out]; rfl
            obtain ⟨a6, c6, rfl⟩ := owns_slice hown6
            have HOW6 := Lib.hid hown6
            clear hown6 i2 i3
            have HX7 := HX6.out
            rw [List.append_assoc xs] at HX7
            go_wp2
            go_ret
            exact ⟨accPost_mk HX7 (Row.of_owns HOW6.out (Nat.le_refl _)) (by rw [HS.out, HSA.out, HM.out]; rfl) HLN.out (ST0.trans ST6), Fresh.own HOW6.out ST0.size⟩
      · have eb2 : (x.rkind == 2) = false := by simpa using hb2
        have HSA : Hid (setAcc x = x.args.flatMap opAcc ++ [⟨x.dest, 4⟩]) := by show _ = _; unfold setAcc; rw [if_neg hb2, List.nil_append]
        clear bx hb2
        have ST5 : Step (fun _ => False) W0 (wr.alloc (.cells #[.int .i64 x.dest.loc, .slice ad1 x.dest.path.length cd1, .int .i64 4] 90)) := hst.alloc _
        as_aux_lemma =>
          go_wp2_with (at_builtin; refine wpList_append_row _ rfl (wr.heap.size + 1) _ _ 87 rfl W0.heap.size 90 i0 (.agg #[.int .i64 0, .slice none 0 0, .int .i64 0]) 3 40 Try.underlying87 HI.out HZ0.out HZ1.out HZ2.out rfl (by decide) _ _ _ rfl (HOW.out.alloc _) _ 1 _ rfl (HRN.out wr _ _ _) rfl (acCells W0 B ⟨x.dest, 4⟩ _ HR1'.out) (by unfold maxLen; omega) (by omega) ST5.size ?_)
          intro v6 w6 hown6 hgrow6 _
          have STG6 : Step (fun q => W0.heap.size ≤ q) wr w6 := ((Step.refl _ _).alloc _).grown hgrow6 (fun q hq _ => owned_row HOW.out q hq)
          have ST6 : Step (fun _ => False) W0 w6 := ST5.grown hgrow6 (fun q hq hlt => by have := owned_row HOW.out q hq; omega)
          have HX6 := Lib.hid (Each.snoc (Each.mono (AcAt.step STG6 HOLD.out) _ _ HXA.out) (show AcAt w6 B ⟨x.dest, 4⟩ _ from ⟨_, rfl, HR1'.out.step ST6 (fun _ _ h => h)⟩))
          have HLN : Hid ((x.args.flatMap opAcc ++ [(⟨x.dest, 4⟩ : Acc)]).length = nn + 1) := by show _ = _; rw [List.length_append, HNA.out]; rfl
          obtain ⟨a6, c6, rfl⟩ := owns_slice hown6
          have HOW6 := Lib.hid hown6
          clear hown6 i2 i3 i4
          go_wp2
          go_ret
          exact ⟨accPost_mk HX6.out (Row.of_owns HOW6.out (Nat.le_refl _)) (by rw [HS.out, HSA.out]) HLN.out (ST0.trans ST6), Fresh.own HOW6.out ST0.size⟩

theorem acc_fresh (B g : Nat) (b : Bod) (i : Nat) (w : World) (h : BodP w B g b) (hi : i < b.code.length) (hs : BodSmall b) (hB : B ≤ w.heap.size) :
    Calls Try.prog 38 #[.pointer (some ⟨g, 0, none⟩), .int .i64 i] w (AccFresh B (accB b i) w) := by
  obtain ⟨x, hx⟩ : ∃ x, b.code[i]? = some x := ⟨_, List.getElem?_eq_getElem hi⟩
  have e : accB b i = accI b.locals x := by unfold accB; rw [hx]
  rw [e]
  by_cases h3 : x.kind = 3
  · exact acc_set_f B g b i x w h hx h3 (hs.2 i x hx) hB
  · by_cases h6 : x.kind = 6
    · exact acc_ret_f B g b i x w h hx h6 hs.1
    · exact acc_few_f B g b i x w h hx h3 h6

end Go.Proofs.Ytilipeigjkmldaa
