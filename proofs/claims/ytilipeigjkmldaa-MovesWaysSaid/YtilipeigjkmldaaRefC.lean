/- Contracts of the document's answer, layer 14: Accesses of a return. -/
import Derived.Test.YtilipeigjkmldaaRefB
namespace Go.Proofs.Ytilipeigjkmldaa
open Go.RowKit

set_option maxRecDepth 100000 in
set_option maxHeartbeats 4000000 in
theorem racc_ret (B : Nat) (b : Bod) (bs : List Value) (i : Nat) (x : Ins) (w : World) (h : BodAt w B b bs) (hx : b.code[i]? = some x) (h6 : x.kind = 6) (hl : b.locals ≤ 100000) :
    Calls Try.prog 37 #[.agg bs.toArray, .int .i64 i] w (AccPost B (accI b.locals x) w) := by
  have hi := (List.getElem?_eq_some_iff.1 hx).1
  obtain ⟨vl, vc, xl, xs, rfl, ⟨al, cl, rfl, -⟩, hxs, ⟨a, c, rfl, hc1, hc2, -, hrr⟩⟩ := h
  obtain ⟨g', o', rfl, -, hgl, hcell⟩ := hrr (by omega)
  obtain ⟨cs, hat, f⟩ := Each.cells 21 InAt.len hxs hx hcell
  clear hxs hrr hcell hx
  have HONE := Lib.hid (InAt.one _ _ hat)
  obtain ⟨vd, va, vp, vt, vc, xa, rfl, hr1, hoa, hra, hr2, ⟨at1, nt1, ct1, rfl⟩, hr3⟩ := hat; have HR1 := Lib.hid hr1; have HOA := Lib.hid hoa; have HRA := Lib.hid hra; have HR2 := Lib.hid hr2; have HR3 := Lib.hid hr3; obtain ⟨ad1, cd1, rfl, -⟩ := hr1; obtain ⟨aa1, ca1, rfl, -⟩ := hra; obtain ⟨ap1, cp1, rfl, -⟩ := hr2; obtain ⟨ac1, cc1, rfl, -⟩ := hr3; clear hoa
  have STB : Step (fun _ => False) w (w.alloc (.cells #[.string b.name, .int .i64 b.params, .slice al b.locals cl, .slice (some ⟨g', o', none⟩) b.code.length c] 29)) := (Step.refl _ _).alloc _
  have F : Hid (∀ (j : Nat) y, [Value.int .i64 x.kind, .int .i64 x.loc, .int .i64 x.dest.loc, .slice ad1 x.dest.path.length cd1, .int .i64 x.rkind, .slice aa1 x.args.length ca1, .int .i64 x.rpl.loc, .slice ap1 x.rpl.path.length cp1, .bool x.mu, .string x.rname, .int .i64 x.rn, .slice at1 nt1 ct1,
    .int .i64 x.cond.kind, .int .i64 x.cond.pl.loc, .slice ac1 x.cond.pl.path.length cc1, .int .i64 x.cond.ty, .int .u64 x.cond.n, .int .i64 x.tgt, .int .i64 x.els, .int .i64 x.line, .int .i64 x.col][j]? = some y → (w.alloc (.cells #[.string b.name, .int .i64 b.params, .slice al b.locals cl, .slice (some ⟨g', o', none⟩) b.code.length c] 29)).cell? ⟨g', o' + i * 21 + j, none⟩ = some y) := fun j y hy => STB.cell (f j y hy) (fun h => h)
  clear f HR1 HOA HRA HR2
  have HS : Hid (accI b.locals x = retAcc b.locals) := by show _ = _; unfold accI; rw [if_neg (by omega), if_neg (by omega), if_neg (by omega), if_neg (by omega), if_pos h6]; rfl
  have hi0 : (0 : Int) ≤ (i : Int) := by omega
  have hi1 : (i : Int) < (b.code.length : Int) := by omega
  obtain ⟨i0, hi0', hz0, hz1, hz2⟩ := info_parts Try.infoAcc
  have HI := Lib.hid hi0'
  have HZ0 := Lib.hid hz0
  have HZ1 := Lib.hid hz1
  have HZ2 := Lib.hid hz2
  obtain ⟨W0, hW0⟩ : ∃ W0 : World, W0 = (w.alloc (.cells #[.string b.name, .int .i64 b.params, .slice al b.locals cl, .slice (some ⟨g', o', none⟩) b.code.length c] 29)).alloc (.cells #[.int .i64 x.kind, .int .i64 x.loc, .int .i64 x.dest.loc, .slice ad1 x.dest.path.length cd1, .int .i64 x.rkind, .slice aa1 x.args.length ca1, .int .i64 x.rpl.loc, .slice ap1 x.rpl.path.length cp1, .bool x.mu, .string x.rname, .int .i64 x.rn, .slice at1 nt1 ct1,
    .int .i64 x.cond.kind, .int .i64 x.cond.pl.loc, .slice ac1 x.cond.pl.path.length cc1, .int .i64 x.cond.ty, .int .u64 x.cond.n, .int .i64 x.tgt, .int .i64 x.els, .int .i64 x.line, .int .i64 x.col] 57) := ⟨_, rfl⟩
  have ST0 : Step (fun _ => False) w W0 := by rw [hW0]; exact ((Step.refl _ _).alloc _).alloc _
  have HBX : Hid (W0.heap[w.heap.size + 1]? = some (.cells #[.int .i64 x.kind, .int .i64 x.loc, .int .i64 x.dest.loc, .slice ad1 x.dest.path.length cd1, .int .i64 x.rkind, .slice aa1 x.args.length ca1, .int .i64 x.rpl.loc, .slice ap1 x.rpl.path.length cp1, .bool x.mu, .string x.rname, .int .i64 x.rn, .slice at1 nt1 ct1,
    .int .i64 x.cond.kind, .int .i64 x.cond.pl.loc, .slice ac1 x.cond.pl.path.length cc1, .int .i64 x.cond.ty, .int .u64 x.cond.n, .int .i64 x.tgt, .int .i64 x.els, .int .i64 x.line, .int .i64 x.col] 57 (0, 0))) := by show _ = _; rw [hW0]; exact blk_new2 _ _ _
  have HW0 := Lib.hid hW0
  have HROW : Hid (∀ (X : World) (k t : Int), Row (X.alloc (.cells #[.int .i64 k, .slice none 0 0, .int .i64 t] 90)) (X.heap.size + 1) (.slice (some ⟨X.heap.size, 0, none⟩) 1 1) 1 (acV ⟨⟨k, []⟩, t⟩)) := fun X k t => Row.new (cs := [.int .i64 k, .slice none 0 0, .int .i64 t]) (blk_new _ _) (by decide)
  have HOWN : Hid (∀ k t : Int, (W0.alloc (.cells #[.int .i64 k, .slice none 0 0, .int .i64 t] 90)).ownsRow W0.heap.size 90 3 (.slice none 0 0) 0 []) := fun _ _ => World.ownsRow_nil _ _ _ _
  have HBD : Hid (W0.heap[w.heap.size]? = some (.cells #[.string b.name, .int .i64 b.params, .slice al b.locals cl, .slice (some ⟨g', o', none⟩) b.code.length c] 29 (0, 0))) := by show _ = _; rw [hW0]; exact blk_alloc (blk_new _ _)
  have HSZ0 : Hid (W0.heap.size = w.heap.size + 2) := by show _ = _; rw [hW0]; simp
  clear hi0' hz0 hz1 hz2 hW0
  have e6 : (x.kind == 6) = true := by simpa using h6
  have e1 : (x.kind == 1) = false := by simp [h6]
  have e2 : (x.kind == 2) = false := by simp [h6]
  have e3 : (x.kind == 3) = false := by simp [h6]
  have e5 : (x.kind == 5) = false := by simp [h6]
  clear h6
  go_enter Try.func37, Try.ntmps37
  go_upto_region 3 with (first
      | (refine wpList_load_whole rfl 57 (.tmp 12) rfl g' (o' + i * 21) rfl _ _ F.out Try.underlying57 rfl Try.sizeIns ?_)
      | (refine wpList_store_at rfl 57 (.tmp 5) (.tmp 13) rfl (w.heap.size + 1) (by simp) _ _ rfl rfl Try.sizeIns rfl HONE.out ?_))
  rw [← HW0.out]
  clear F HONE
  have i0' := blk_cell HBX.out 0 _ rfl
  go_wp2_with (at_builtin; refine wpList_append_row _ rfl (W0.heap.size + 1) _ _ 87 rfl W0.heap.size 90 i0 (.agg #[.int .i64 0, .slice none 0 0, .int .i64 0]) 3 40 Try.underlying87 HI.out HZ0.out HZ1.out HZ2.out rfl (by decide) _ _ _ rfl (HOWN.out _ _) _ 1 _ rfl (HROW.out W0 0 2) rfl acV_one (by unfold maxLen; omega) (by omega) (by simp) ?_)
  intro v1 w1 hown1 hgrow1 _
  have ST1 : Step (fun _ => False) W0 w1 := ((Step.refl _ _).alloc _).grown hgrow1 (fun k hk hlt => by have := owned_row (HOWN.out 0 0) k hk; omega)
  have HOW1 := Lib.hid hown1
  clear hown1 i0'
  go_wp2_with fail
  go_loopg [6, 8] b.locals (fun gg s6 s8 wr => ∃ n : Nat, s8 = .int .i64 n ∧ 1 ≤ n ∧ n ≤ max 1 b.locals ∧ b.locals - n ≤ gg ∧ wr.ownsRow W0.heap.size 90 3 s6 n ((retAcc n).flatMap acV) ∧ Step (fun _ => False) W0 wr)
  case atStart => exact ⟨1, rfl, Nat.le_refl _, by omega, by omega, HOW1.out, ST1⟩
  case round =>
    obtain ⟨n, rfl, hn1, hn2, hgg, hown, hst⟩ := hrel
    have c2 := blk_cell (hst.keep HBD.out (fun h => h)) 2 _ rfl
    obtain ⟨ao, co, rfl⟩ := owns_slice hown
    have HOW := Lib.hid hown
    clear hown
    by_cases hlt : n < b.locals
    · have HT : Hid ((retAcc (n + 1)).flatMap acV = (retAcc n).flatMap acV ++ acV ⟨⟨(n : Int), []⟩, 6⟩) := by show _ = _; rw [retAcc_succ n hn1, List.flatMap_append]; simp
      have ST2 : Step (fun _ => False) W0 (wr.alloc (.cells #[.int .i64 n, .slice none 0 0, .int .i64 6] 90)) := hst.alloc _
      go_wp2_with (at_builtin; refine wpList_append_row _ rfl (wr.heap.size + 1) _ _ 87 rfl W0.heap.size 90 i0 (.agg #[.int .i64 0, .slice none 0 0, .int .i64 0]) 3 40 Try.underlying87 HI.out HZ0.out HZ1.out HZ2.out rfl (by decide) _ _ _ rfl (HOW.out.alloc _) _ 1 _ rfl (HROW.out wr n 6) rfl acV_one (by unfold maxLen; omega) (by omega) ST2.size ?_)
      intro v4 w4 hown4 hgrow4 _
      have ST4 : Step (fun _ => False) W0 w4 := ST2.grown hgrow4 (fun k hk hlt => by have := owned_row HOW.out k hk; omega)
      rw [← HT.out] at hown4
      clear c2
      go_wp2
      go_roundg (gk - 1)
      case rel => exact ⟨n + 1, by go_num, by omega, by omega, by omega, hown4, ST4⟩
      case measure => omega
    · have HF : Hid (n = b.locals ∨ (b.locals = 0 ∧ n = 1)) := by show _ ∨ _; omega
      go_wp2
      go_ret
      rcases HF.out with rfl | ⟨h0, rfl⟩
      · refine ⟨⟨_, (retAcc b.locals).flatMap acV, rfl, ?_, ?_⟩, ST0.trans hst⟩
        · rw [HS.out]; exact acV_each _ _ _ (retAcc_path _)
        · rw [HS.out, retAcc_len _ hn1]; exact Row.of_owns HOW.out (Nat.le_refl _)
      · refine ⟨⟨_, (retAcc 1).flatMap acV, rfl, ?_, ?_⟩, ST0.trans hst⟩
        · rw [HS.out, h0]; exact acV_each _ _ _ (retAcc_path _)
        · rw [HS.out, h0]; exact Row.of_owns HOW.out (Nat.le_refl _)

end Go.Proofs.Ytilipeigjkmldaa
