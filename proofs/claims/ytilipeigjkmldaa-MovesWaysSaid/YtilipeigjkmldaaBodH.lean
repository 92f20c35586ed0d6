/- Contracts of package mir: what an operand does; Accesses of instructions with few. -/
import Derived.Test.YtilipeigjkmldaaBodCk
namespace Go.Proofs.Ytilipeigjkmldaa
open Go.RowKit

theorem opAcc_yes {o : Opd} (h : o.kind = 2 ∨ o.kind = 3) : opAcc o = [⟨o.pl, o.kind - 1⟩] := by
  unfold opAcc
  rcases h with h | h
  · rw [if_pos h, h]; rfl
  · rw [if_neg (by omega), if_pos h, h]; rfl
theorem opAcc_no {o : Opd} (h : ¬ (o.kind = 2 ∨ o.kind = 3)) : opAcc o = [] := by
  unfold opAcc
  rw [if_neg (fun e => h (.inl e)), if_neg (fun e => h (.inr e))]

set_option maxHeartbeats 400000 in
theorem of_yes (B : Nat) (o : Opd) (cs : List Value) (w : World) (ho : OpAt w B o cs) (hk : o.kind = 2 ∨ o.kind = 3) :
    Calls Try.prog 62 #[.agg cs.toArray] w fun e w' => (∃ v, e = .returned (.tuple #[.agg #[.int .i64 o.pl.loc, v, .int .i64 (o.kind - 1)], .bool true]) ∧ Row w B v o.pl.path.length (intsV o.pl.path)) ∧ Step (fun _ => False) w w' := by
  obtain ⟨v, rfl, hr⟩ := ho
  have HR := Lib.hid hr
  obtain ⟨a, c, rfl, -⟩ := hr
  rcases hk with hk | hk
  · have e1 : (o.kind == 2) = true := by simpa using hk
    have HK := Lib.hid hk
    clear hk
    go_enter Try.func62, Try.ntmps62
    go_wp2
    refine bodyPost_ret (v := .tuple #[.agg #[.int .i64 o.pl.loc, .slice a o.pl.path.length c, .int .i64 1], .bool true]) (by simp [results, Try.results62, go_sem]) rfl ⟨⟨_, by rw [HK.out]; rfl, HR.out⟩, ?_⟩
    exact ((Step.refl _ _).alloc _).alloc _
  · have e1 : (o.kind == 2) = false := by simp [hk]
    have e2 : (o.kind == 3) = true := by simpa using hk
    have HK := Lib.hid hk
    clear hk
    go_enter Try.func62, Try.ntmps62
    go_wp2
    refine bodyPost_ret (v := .tuple #[.agg #[.int .i64 o.pl.loc, .slice a o.pl.path.length c, .int .i64 2], .bool true]) (by simp [results, Try.results62, go_sem]) rfl ⟨⟨_, by rw [HK.out]; rfl, HR.out⟩, ?_⟩
    exact ((Step.refl _ _).alloc _).alloc _

set_option maxHeartbeats 400000 in
theorem of_no (B : Nat) (o : Opd) (cs : List Value) (w : World) (ho : OpAt w B o cs) (hk : ¬ (o.kind = 2 ∨ o.kind = 3)) :
    Calls Try.prog 62 #[.agg cs.toArray] w fun e w' => e = .returned (.tuple #[.agg #[.int .i64 0, .slice none 0 0, .int .i64 0], .bool false]) ∧ Step (fun _ => False) w w' := by
  obtain ⟨v, rfl, ⟨a, c, rfl, -⟩⟩ := ho
  have e1 : (o.kind == 2) = false := by simpa using fun h => hk (.inl h)
  have e2 : (o.kind == 3) = false := by simpa using fun h => hk (.inr h)
  clear hk
  go_enter Try.func62, Try.ntmps62
  go_wp2
  refine bodyPost_ret (v := .tuple #[.agg #[.int .i64 0, .slice none 0 0, .int .i64 0], .bool false]) (by simp [results, Try.results62, go_sem]) rfl ⟨rfl, ?_⟩
  exact ((Step.refl _ _).alloc _).alloc _

/- What a function answers that answers accesses. -/
def AccPost (B : Nat) (l : List Acc) (w : World) (e : Ending) (w' : World) : Prop :=
  (∃ v xs, e = .returned v ∧ Each (AcAt w' B) l xs ∧ Row w' w'.heap.size v l.length xs) ∧ Step (fun _ => False) w w'

set_option maxRecDepth 100000 in
theorem acc_nil (w : World) (i : Int) : Calls Try.prog 38 #[.pointer none, .int .i64 i] w (AccPost 0 [] w) := by
  go_enter Try.func38, Try.ntmps38
  go_wp2
  go_ret
  exact ⟨⟨_, [], rfl, Each.nil, Row.nil _ _ _⟩, Step.refl _ _⟩

def BodSmall (b : Bod) : Prop := b.locals ≤ 100000 ∧ ∀ (i : Nat) (x : Ins), b.code[i]? = some x → x.args.length ≤ 100000

theorem acOne {w : World} {B : Nat} {a : Acc} {v : Value} {k : Int} (h : Row w B v a.pl.path.length (intsV a.pl.path)) (hk : a.kind = k) : Each (AcAt w B) [a] [.int .i64 a.pl.loc, v, .int .i64 k] := Each.single ⟨v, by rw [hk], h⟩
theorem acRow {w : World} {B b : Nat} {a : Acc} {v : Value} {k : Int} (h : Row w B v a.pl.path.length (intsV a.pl.path)) (hk : a.kind = k) (hb : w.heap[b]? = some (.cells #[.int .i64 a.pl.loc, v, .int .i64 k] 90 (0, 0))) :
    ∃ xs, Each (AcAt w B) [a] xs ∧ Row w w.heap.size (.slice (some ⟨b, 0, none⟩) 1 1) 1 xs :=
  ⟨_, acOne h hk, (Row.new (n := 1) (cs := [.int .i64 a.pl.loc, v, .int .i64 k]) hb (by decide)).mono (blk_lt hb)⟩

theorem Try.infoAcc : (Try.prog.info? 90).map (fun i => (i.zero, i.size, i.bytes)) = some (some (.agg #[.int .i64 0, .slice none 0 0, .int .i64 0]), 3, 40) := by kernel_rfl

set_option maxRecDepth 100000 in
set_option maxHeartbeats 2000000 in
theorem acc_few (B g : Nat) (b : Bod) (i : Nat) (x : Ins) (w : World) (h : BodP w B g b) (hx : b.code[i]? = some x) (h3 : x.kind ≠ 3) (h6 : x.kind ≠ 6) :
    Calls Try.prog 38 #[.pointer (some ⟨g, 0, none⟩), .int .i64 i] w (AccPost B (accI b.locals x) w) := by
  have hi := (List.getElem?_eq_some_iff.1 hx).1
  obtain ⟨-, -, a, c, b3, hc1, hc2, hcode⟩ := h.parts
  obtain ⟨g', o', rfl, hcode2⟩ := hcode (by omega)
  obtain ⟨cs, hat, f⟩ := hcode2 i x hx
  clear hcode hcode2 h hx
  have HONE := Lib.hid (InAt.one _ _ hat)
  obtain ⟨vd, va, vp, vt, vc, xa, rfl, hr1, hoa, hra, hr2, ⟨at1, nt1, ct1, rfl⟩, hr3⟩ := hat; have HR1 := Lib.hid hr1; have HOA := Lib.hid hoa; have HRA := Lib.hid hra; have HR2 := Lib.hid hr2; have HR3 := Lib.hid hr3; obtain ⟨ad1, cd1, rfl, -⟩ := hr1; obtain ⟨aa1, ca1, rfl, -⟩ := hra; obtain ⟨ap1, cp1, rfl, -⟩ := hr2; obtain ⟨ac1, cc1, rfl, -⟩ := hr3; clear hoa
  have F := Lib.hid f
  clear f HR1 HOA HRA HR2
  have HS : Hid (accI b.locals x = if x.kind = 1 then [⟨⟨x.loc, []⟩, 5⟩] else if x.kind = 2 then [⟨⟨x.loc, []⟩, 6⟩] else if x.kind = 3 then x.args.flatMap opAcc ++ ((if x.rkind = 2 then [⟨x.rpl, if x.mu then 3 else 1⟩] else []) ++ [⟨x.dest, 4⟩])
    else if x.kind = 5 then opAcc x.cond else if x.kind = 6 then ⟨⟨0, []⟩, 2⟩ :: (List.range (b.locals - 1)).map (fun (k : Nat) => ⟨⟨(k : Int) + 1, []⟩, 6⟩) else []) := rfl
  have e0 : decide ((i : Int) < 0) = false := decide_eq_false (by omega)
  have e1 : decide (b.code.length ≤ i) = false := decide_eq_false (by omega)
  obtain ⟨i0, hi0, hz0, hz1, hz2⟩ := info_parts Try.infoAcc
  have HI := Lib.hid hi0
  have HZ0 := Lib.hid hz0
  have HZ1 := Lib.hid hz1
  have HZ2 := Lib.hid hz2
  clear hi0 hz0 hz1 hz2
  go_enter Try.func38, Try.ntmps38
  go_upto_region 6 with (first
      | (refine wpList_load_whole rfl 57 (.tmp 35) rfl g' (o' + i * 21) rfl _ _ F.out Try.underlying57 rfl Try.sizeIns ?_)
      | (refine wpList_store_new rfl 57 (.tmp 6) (.tmp 36) rfl _ _ rfl rfl Try.sizeIns rfl HONE.out ?_))
  clear F HONE
  by_cases h1 : x.kind = 1
  · rw [if_pos h1] at HS
    have e1 : (x.kind == 1) = true := by simpa using h1
    clear h1 h3 h6
    as_aux_lemma =>
      go_wp2
      go_ret
      obtain ⟨xs, hx1, hx2⟩ := acRow (a := ⟨⟨x.loc, []⟩, 5⟩) (Row.nil _ B _) rfl (blk_new2 w _ _)
      exact ⟨⟨_, xs, rfl, by rw [HS.out]; exact hx1, by rw [HS.out]; exact hx2⟩, ((Step.refl _ _).alloc _).alloc _⟩
  have e1 : (x.kind == 1) = false := by simpa using h1
  by_cases h2 : x.kind = 2
  · rw [if_neg h1, if_pos h2] at HS
    have e2 : (x.kind == 2) = true := by simpa using h2
    clear h1 h2 h3 h6
    as_aux_lemma =>
      go_wp2
      go_ret
      obtain ⟨xs, hx1, hx2⟩ := acRow (a := ⟨⟨x.loc, []⟩, 6⟩) (Row.nil _ B _) rfl (blk_new2 w _ _)
      exact ⟨⟨_, xs, rfl, by rw [HS.out]; exact hx1, by rw [HS.out]; exact hx2⟩, ((Step.refl _ _).alloc _).alloc _⟩
  have e2 : (x.kind == 2) = false := by simpa using h2
  have e3 : (x.kind == 3) = false := by simpa using h3
  have e6 : (x.kind == 6) = false := by simpa using h6
  by_cases h5 : x.kind = 5
  · rw [if_neg h1, if_neg h2, if_neg h3, if_pos h5] at HS
    have e5 : (x.kind == 5) = true := by simpa using h5
    have STA : Step (fun _ => False) w (w.alloc (.cells #[.int .i64 x.kind, .int .i64 x.loc, .int .i64 x.dest.loc, .slice ad1 x.dest.path.length cd1, .int .i64 x.rkind, .slice aa1 x.args.length ca1, .int .i64 x.rpl.loc, .slice ap1 x.rpl.path.length cp1, .bool x.mu, .string x.rname, .int .i64 x.rn, .slice at1 nt1 ct1,
      .int .i64 x.cond.kind, .int .i64 x.cond.pl.loc, .slice ac1 x.cond.pl.path.length cc1, .int .i64 x.cond.ty, .int .u64 x.cond.n, .int .i64 x.tgt, .int .i64 x.els, .int .i64 x.line, .int .i64 x.col] 57)) := (Step.refl _ _).alloc _
    clear h1 h2 h3 h6 h5
    by_cases hk : x.cond.kind = 2 ∨ x.cond.kind = 3
    · have HO := Lib.hid (opAcc_yes hk)
      have HK := Lib.hid hk
      clear hk
      as_aux_lemma =>
        go_wp2_with fail
        refine (of_yes B x.cond _ _ ⟨_, rfl, HR3.out.step STA (fun _ _ h => h)⟩ HK.out).mono ?_
        rintro e w1 ⟨⟨v1, rfl, hr1⟩, hw1⟩
        have HRV := Lib.hid (hr1.step hw1 (fun _ _ h => h))
        have ST1 := STA.trans hw1
        obtain ⟨av, cv, rfl, -⟩ := hr1
        have HOWN : Hid (((w1.alloc (.cells #[.int .i64 x.cond.pl.loc, .slice av x.cond.pl.path.length cv, .int .i64 (x.cond.kind - 1)] 90)).alloc (.cells #[.int .i64 x.cond.pl.loc, .slice av x.cond.pl.path.length cv, .int .i64 (x.cond.kind - 1)] 90)).ownsRow w1.heap.size 90 3 (.slice none 0 0) 0 []) := World.ownsRow_nil _ _ _ _
        have STW : Step (fun _ => False) w1 ((w1.alloc (.cells #[.int .i64 x.cond.pl.loc, .slice av x.cond.pl.path.length cv, .int .i64 (x.cond.kind - 1)] 90)).alloc (.cells #[.int .i64 x.cond.pl.loc, .slice av x.cond.pl.path.length cv, .int .i64 (x.cond.kind - 1)] 90)) := ((Step.refl _ _).alloc _).alloc _
        have HROW : Hid (Row ((w1.alloc (.cells #[.int .i64 x.cond.pl.loc, .slice av x.cond.pl.path.length cv, .int .i64 (x.cond.kind - 1)] 90)).alloc (.cells #[.int .i64 x.cond.pl.loc, .slice av x.cond.pl.path.length cv, .int .i64 (x.cond.kind - 1)] 90)) (w1.heap.size + 2) (.slice (some ⟨w1.heap.size + 1, 0, none⟩) 1 1) 1 [.int .i64 x.cond.pl.loc, .slice av x.cond.pl.path.length cv, .int .i64 (x.cond.kind - 1)]) :=
          Row.new (cs := [.int .i64 x.cond.pl.loc, .slice av x.cond.pl.path.length cv, .int .i64 (x.cond.kind - 1)]) (blk_new2 _ _ _) (by decide)
        go_wp2_with (at_builtin; refine wpList_append_row _ rfl (w1.heap.size + 2) _ _ 87 rfl w1.heap.size 90 i0 (.agg #[.int .i64 0, .slice none 0 0, .int .i64 0]) 3 40 Try.underlying87 HI.out HZ0.out HZ1.out HZ2.out rfl (by decide) _ _ _ rfl HOWN.out _ 1 _ rfl HROW.out rfl (AcAt.one (w := w1) (B := B) ⟨x.cond.pl, x.cond.kind - 1⟩ _ ⟨_, rfl, HRV.out⟩) (by unfold maxLen; omega) (by omega) STW.size ?_)
        intro v4 w4 hown4 hgrow4 _
        have ST4 : Step (fun _ => False) w1 w4 := STW.grown hgrow4 (fun k hk hlt => by have := owned_row HOWN.out k hk; omega)
        obtain ⟨ao, co, rfl⟩ := owns_slice hown4
        have HOW4 := Lib.hid hown4
        clear hown4
        go_wp2
        go_ret
        refine ⟨⟨_, [.int .i64 x.cond.pl.loc, .slice av x.cond.pl.path.length cv, .int .i64 (x.cond.kind - 1)], rfl, ?_, ?_⟩, ST1.trans ST4⟩
        · rw [HS.out, HO.out]; exact acOne (a := ⟨x.cond.pl, x.cond.kind - 1⟩) (HRV.out.step ST4 (fun _ _ h => h)) rfl
        · rw [HS.out, HO.out]; exact Row.of_owns HOW4.out (Nat.le_refl _)
    · have HO := Lib.hid (opAcc_no hk)
      have HK := Lib.hid hk
      clear hk
      as_aux_lemma =>
        go_wp2_with fail
        refine (of_no B x.cond _ _ ⟨_, rfl, HR3.out.step STA (fun _ _ h => h)⟩ HK.out).mono ?_
        rintro e w1 ⟨rfl, hw1⟩
        go_wp2
        go_ret
        exact ⟨⟨_, [], rfl, by rw [HS.out, HO.out]; exact Each.nil, by rw [HS.out, HO.out]; exact Row.nil _ _ _⟩, (STA.trans hw1).alloc _⟩
  have e5 : (x.kind == 5) = false := by simpa using h5
  rw [if_neg h1, if_neg h2, if_neg h3, if_neg h5, if_neg h6] at HS
  clear h1 h2 h3 h6 h5
  as_aux_lemma =>
    go_wp2
    go_ret
    exact ⟨⟨_, [], rfl, by rw [HS.out]; exact Each.nil, by rw [HS.out]; exact Row.nil _ _ _⟩, (Step.refl _ _).alloc _⟩

end Go.Proofs.Ytilipeigjkmldaa
