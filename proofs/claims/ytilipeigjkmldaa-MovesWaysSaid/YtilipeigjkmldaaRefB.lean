/- Contracts of the document's answer, layer 14: Accesses of instructions with few, of a return. -/
import Derived.Test.YtilipeigjkmldaaRefA
namespace Go.Proofs.Ytilipeigjkmldaa
open Go.RowKit

theorem wpList_store_at {P : Program} {w : World} {ops : Array Oper} {rest : List Oper} {op : Oper} {a : Act} {Q : Exit → Act → World → Prop} (hgd : op.guard = none) (ty : TypeId) (x y : Operand) (ho : op.op = .store ty x y)
    (n : Nat) (hn : n = w.heap.size) (c : Array Value) (vs : List Value) (hx : a.eval x = .pointer (some ⟨n, 0, none⟩)) (hy : a.eval y = .agg vs.toArray)
    (hi : (P.info? ty).map (·.size) = some vs.length) (hc : c.size = vs.length) (h1 : ∀ v ∈ vs, v.oneCell' = true)
    (h : wpList P ops Q rest (a.put op.dst undef) (w.alloc (.cells vs.toArray ty))) : wpList P ops Q (op :: rest) a (w.alloc (.cells c ty)) := by
  subst hn
  exact wpList_store_new hgd ty x y ho c vs hx hy hi hc h1 h

set_option maxRecDepth 100000 in
set_option maxHeartbeats 4000000 in
theorem racc_few (B : Nat) (b : Bod) (bs : List Value) (i : Nat) (x : Ins) (w : World) (h : BodAt w B b bs) (hx : b.code[i]? = some x) (h3 : x.kind ≠ 3) (h6 : x.kind ≠ 6) :
    Calls Try.prog 37 #[.agg bs.toArray, .int .i64 i] w (AccPost B (accI b.locals x) w) := by
  have hi := (List.getElem?_eq_some_iff.1 hx).1
  obtain ⟨vl, vc, xl, xs, rfl, ⟨al, cl, rfl, -⟩, hxs, ⟨a, c, rfl, hc1, hc2, -, hrr⟩⟩ := h
  obtain ⟨g', o', rfl, -, hgl, hcell⟩ := hrr (by omega)
  obtain ⟨cs, hat, f⟩ := Each.cells 21 InAt.len hxs hx hcell
  clear hxs hrr hcell hx
  have HONE := Lib.hid (InAt.one _ _ hat)
  obtain ⟨vd, va, vp, vt, vc, xa, rfl, hr1, hoa, hra, hr2, ⟨at1, nt1, ct1, rfl⟩, hr3⟩ := hat; have HR1 := Lib.hid hr1; have HOA := Lib.hid hoa; have HRA := Lib.hid hra; have HR2 := Lib.hid hr2; have HR3 := Lib.hid hr3; obtain ⟨ad1, cd1, rfl, -⟩ := hr1; obtain ⟨aa1, ca1, rfl, -⟩ := hra; obtain ⟨ap1, cp1, rfl, -⟩ := hr2; obtain ⟨ac1, cc1, rfl, -⟩ := hr3; clear hoa
  have STB : Step (fun _ => False) w (w.alloc (.cells #[.string b.name, .int .i64 b.params, .slice al b.locals cl, .slice (some ⟨g', o', none⟩) b.code.length c] 29)) := (Step.refl _ _).alloc _
  have F : Hid (∀ (j : Nat) y, [Value.int .i64 x.kind, .int .i64 x.loc, .int .i64 x.dest.loc, .slice ad1 x.dest.path.length cd1, .int .i64 x.rkind, .slice aa1 x.args.length ca1, .int .i64 x.rpl.loc, .slice ap1 x.rpl.path.length cp1, .bool x.mu, .string x.rname, .int .i64 x.rn, .slice at1 nt1 ct1,
    .int .i64 x.cond.kind, .int .i64 x.cond.pl.loc, .slice ac1 x.cond.pl.path.length cc1, .int .i64 x.cond.ty, .int .u64 x.cond.n, .int .i64 x.tgt, .int .i64 x.els, .int .i64 x.line, .int .i64 x.col][j]? = some y → (w.alloc (.cells #[.string b.name, .int .i64 b.params, .slice al b.locals cl, .slice (some ⟨g', o', none⟩) b.code.length c] 29)).cell? ⟨g', o' + i * 21 + j, none⟩ = some y) := fun j y hy => STB.cell (f j y hy) (fun h => h)
  clear f HR1 HOA HRA HR2
  have HS : Hid (accI b.locals x = if x.kind = 1 then [⟨⟨x.loc, []⟩, 5⟩] else if x.kind = 2 then [⟨⟨x.loc, []⟩, 6⟩] else if x.kind = 3 then x.args.flatMap opAcc ++ ((if x.rkind = 2 then [⟨x.rpl, if x.mu then 3 else 1⟩] else []) ++ [⟨x.dest, 4⟩])
    else if x.kind = 5 then opAcc x.cond else if x.kind = 6 then ⟨⟨0, []⟩, 2⟩ :: (List.range (b.locals - 1)).map (fun (k : Nat) => ⟨⟨(k : Int) + 1, []⟩, 6⟩) else []) := rfl
  have hi0 : (0 : Int) ≤ (i : Int) := by omega
  have hi1 : (i : Int) < (b.code.length : Int) := by omega
  obtain ⟨i0, hi0', hz0, hz1, hz2⟩ := info_parts Try.infoAcc
  have HI := Lib.hid hi0'
  have HZ0 := Lib.hid hz0
  have HZ1 := Lib.hid hz1
  have HZ2 := Lib.hid hz2
  obtain ⟨W0, hW0⟩ : ∃ W0 : World, W0 = (w.alloc (.cells #[.string b.name, .int .i64 b.params, .slice al b.locals cl, .slice (some ⟨g', o', none⟩) b.code.length c] 29)).alloc (.cells #[.int .i64 x.kind, .int .i64 x.loc, .int .i64 x.dest.loc, .slice ad1 x.dest.path.length cd1, .int .i64 x.rkind, .slice aa1 x.args.length ca1, .int .i64 x.rpl.loc, .slice ap1 x.rpl.path.length cp1, .bool x.mu, .string x.rname, .int .i64 x.rn, .slice at1 nt1 ct1,
    .int .i64 x.cond.kind, .int .i64 x.cond.pl.loc, .slice ac1 x.cond.pl.path.length cc1, .int .i64 x.cond.ty, .int .u64 x.cond.n, .int .i64 x.tgt, .int .i64 x.els, .int .i64 x.line, .int .i64 x.col] 57) := ⟨_, rfl⟩
  have ST0 : Step (fun _ => False) w W0 := by rw [hW0]; exact ((Step.refl _ _).alloc _).alloc _
  have HBX : Hid (W0.heap[w.heap.size + 1]? = some (.cells #[.int .i64 x.kind, .int .i64 x.loc, .int .i64 x.dest.loc, .slice ad1 x.dest.path.length cd1, .int .i64 x.rkind, .slice aa1 x.args.length ca1, .int .i64 x.rpl.loc, .slice ap1 x.rpl.path.length cp1, .bool x.mu, .string x.rname, .int .i64 x.rn, .slice at1 nt1 ct1,
    .int .i64 x.cond.kind, .int .i64 x.cond.pl.loc, .slice ac1 x.cond.pl.path.length cc1, .int .i64 x.cond.ty, .int .u64 x.cond.n, .int .i64 x.tgt, .int .i64 x.els, .int .i64 x.line, .int .i64 x.col] 57 (0, 0))) := by show _ = _; rw [hW0]; exact blk_new2 _ _ _
  have HW0 := Lib.hid hW0
  have HROW : Hid (∀ (X : World) (k t : Int), Row (X.alloc (.cells #[.int .i64 k, .slice none 0 0, .int .i64 t] 90)) (X.heap.size + 1) (.slice (some ⟨X.heap.size, 0, none⟩) 1 1) 1 (acV ⟨⟨k, []⟩, t⟩)) := fun X k t => Row.new (cs := [.int .i64 k, .slice none 0 0, .int .i64 t]) (blk_new _ _) (by decide)
  have HOWN : Hid (∀ k t : Int, (W0.alloc (.cells #[.int .i64 k, .slice none 0 0, .int .i64 t] 90)).ownsRow W0.heap.size 90 3 (.slice none 0 0) 0 []) := fun _ _ => World.ownsRow_nil _ _ _ _
  clear hi0' hz0 hz1 hz2 hW0
  go_enter Try.func37, Try.ntmps37
  go_upto_region 3 with (first
      | (refine wpList_load_whole rfl 57 (.tmp 12) rfl g' (o' + i * 21) rfl _ _ F.out Try.underlying57 rfl Try.sizeIns ?_)
      | (refine wpList_store_at rfl 57 (.tmp 5) (.tmp 13) rfl (w.heap.size + 1) (by simp) _ _ rfl rfl Try.sizeIns rfl HONE.out ?_))
  rw [← HW0.out]
  clear F HONE
  have i0' := blk_cell HBX.out 0 _ rfl
  by_cases h1 : x.kind = 1
  · rw [if_pos h1] at HS
    have e1 : (x.kind == 1) = true := by simpa using h1
    have i1 := blk_cell HBX.out 1 _ rfl
    clear h1 h3 h6
    as_aux_lemma =>
      go_wp2_with (at_builtin; refine wpList_append_row _ rfl (W0.heap.size + 1) _ _ 87 rfl W0.heap.size 90 i0 (.agg #[.int .i64 0, .slice none 0 0, .int .i64 0]) 3 40 Try.underlying87 HI.out HZ0.out HZ1.out HZ2.out rfl (by decide) _ _ _ rfl (HOWN.out _ _) _ 1 _ rfl (HROW.out W0 x.loc 5) rfl acV_one (by unfold maxLen; omega) (by omega) (by simp) ?_)
      intro v4 w4 hown4 hgrow4 _
      have ST4 : Step (fun _ => False) W0 w4 := ((Step.refl _ _).alloc _).grown hgrow4 (fun q hq hlt => by have := owned_row (HOWN.out 0 0) q hq; omega)
      obtain ⟨a4, c4, rfl⟩ := owns_slice hown4
      have HO4 := Lib.hid hown4
      clear hown4 i0' i1
      go_wp2
      go_ret
      exact accPost_mk (acV_each _ _ [⟨⟨x.loc, []⟩, 5⟩] (by simp)) (Row.of_owns HO4.out (Nat.le_refl _)) (by rw [HS.out]) rfl (ST0.trans ST4)
  have e1 : (x.kind == 1) = false := by simpa using h1
  by_cases h2 : x.kind = 2
  · rw [if_neg h1, if_pos h2] at HS
    have e2 : (x.kind == 2) = true := by simpa using h2
    have i1 := blk_cell HBX.out 1 _ rfl
    clear h1 h2 h3 h6
    as_aux_lemma =>
      go_wp2_with (at_builtin; refine wpList_append_row _ rfl (W0.heap.size + 1) _ _ 87 rfl W0.heap.size 90 i0 (.agg #[.int .i64 0, .slice none 0 0, .int .i64 0]) 3 40 Try.underlying87 HI.out HZ0.out HZ1.out HZ2.out rfl (by decide) _ _ _ rfl (HOWN.out _ _) _ 1 _ rfl (HROW.out W0 x.loc 6) rfl acV_one (by unfold maxLen; omega) (by omega) (by simp) ?_)
      intro v4 w4 hown4 hgrow4 _
      have ST4 : Step (fun _ => False) W0 w4 := ((Step.refl _ _).alloc _).grown hgrow4 (fun q hq hlt => by have := owned_row (HOWN.out 0 0) q hq; omega)
      obtain ⟨a4, c4, rfl⟩ := owns_slice hown4
      have HO4 := Lib.hid hown4
      clear hown4 i0' i1
      go_wp2
      go_ret
      exact accPost_mk (acV_each _ _ [⟨⟨x.loc, []⟩, 6⟩] (by simp)) (Row.of_owns HO4.out (Nat.le_refl _)) (by rw [HS.out]) rfl (ST0.trans ST4)
  have e2 : (x.kind == 2) = false := by simpa using h2
  have e3 : (x.kind == 3) = false := by simpa using h3
  have e6 : (x.kind == 6) = false := by simpa using h6
  by_cases h5 : x.kind = 5
  · rw [if_neg h1, if_neg h2, if_neg h3, if_pos h5] at HS
    have e5 : (x.kind == 5) = true := by simpa using h5
    have i12 := blk_cell HBX.out 12 _ rfl
    have i13 := blk_cell HBX.out 13 _ rfl
    have i14 := blk_cell HBX.out 14 _ rfl
    have i15 := blk_cell HBX.out 15 _ rfl
    have i16 := blk_cell HBX.out 16 _ rfl
    clear h1 h2 h3 h6 h5
    as_aux_lemma =>
      go_wp2_with fail
      refine (rone_any B x.cond _ W0 ⟨_, rfl, HR3.out.step ST0 (fun _ _ h => h)⟩).mono ?_
      rintro e w1 ⟨⟨v1, ys, rfl, hy1, hy2⟩, hw1⟩
      have HY1 := Lib.hid hy1
      have HY2 := Lib.hid hy2
      obtain ⟨ay, cy, rfl, -⟩ := hy2
      clear hy1
      go_wp2
      go_ret
      exact accPost_mk HY1.out HY2.out (by rw [HS.out]) rfl (ST0.trans hw1)
  have e5 : (x.kind == 5) = false := by simpa using h5
  rw [if_neg h1, if_neg h2, if_neg h3, if_neg h5, if_neg h6] at HS
  clear h1 h2 h3 h6 h5
  as_aux_lemma =>
    go_wp2
    go_ret
    exact ⟨⟨_, [], rfl, by rw [HS.out]; exact Each.nil, by rw [HS.out]; exact Row.nil _ _ _⟩, ST0⟩

end Go.Proofs.Ytilipeigjkmldaa
