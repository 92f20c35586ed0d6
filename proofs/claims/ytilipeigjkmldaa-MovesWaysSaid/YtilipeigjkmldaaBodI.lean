/- Contracts of package mir: Accesses of a return. -/
import Derived.Test.YtilipeigjkmldaaBodH
namespace Go.Proofs.Ytilipeigjkmldaa
open Go.RowKit

def acV (a : Acc) : List Value := [.int .i64 a.pl.loc, .slice none 0 0, .int .i64 a.kind]
def retAcc (n : Nat) : List Acc := ⟨⟨0, []⟩, 2⟩ :: (List.range (n - 1)).map (fun (k : Nat) => ⟨⟨(k : Int) + 1, []⟩, 6⟩)
theorem retAcc_len (n : Nat) (h : 1 ≤ n) : (retAcc n).length = n := by simp [retAcc]; omega
theorem retAcc_succ (n : Nat) (h : 1 ≤ n) : retAcc (n + 1) = retAcc n ++ [⟨⟨(n : Int), []⟩, 6⟩] := by
  unfold retAcc
  obtain ⟨m, rfl⟩ : ∃ m, n = m + 1 := ⟨n - 1, by omega⟩
  rw [Nat.add_sub_cancel, Nat.add_sub_cancel, List.range_succ, List.map_append, List.cons_append]
  simp
theorem retAcc_path : ∀ (n : Nat), ∀ a ∈ retAcc n, a.pl.path = [] := by
  intro n a ha
  unfold retAcc at ha
  rcases List.mem_cons.1 ha with rfl | ha
  · rfl
  · obtain ⟨k, _, rfl⟩ := List.mem_map.1 ha; rfl
theorem acV_each (w : World) (B : Nat) : ∀ (l : List Acc), (∀ a ∈ l, a.pl.path = []) → Each (AcAt w B) l (l.flatMap acV)
  | [], _ => Each.nil
  | a :: r, h => by
    rw [Each, List.flatMap_cons]
    refine ⟨_, _, rfl, ⟨.slice none 0 0, rfl, ?_⟩, acV_each w B r (fun x hx => h x (List.mem_cons_of_mem _ hx))⟩
    rw [h a (List.mem_cons_self ..)]
    exact Row.nil _ _ _
theorem acV_one {a : Acc} : ∀ u ∈ acV a, u.oneCell' = true := by
  intro u hu
  simp [acV] at hu
  rcases hu with rfl | rfl | rfl <;> rfl

set_option maxRecDepth 100000 in
set_option maxHeartbeats 4000000 in
theorem acc_ret (B g : Nat) (b : Bod) (i : Nat) (x : Ins) (w : World) (h : BodP w B g b) (hx : b.code[i]? = some x) (h6 : x.kind = 6) (hl : b.locals ≤ 100000) :
    Calls Try.prog 38 #[.pointer (some ⟨g, 0, none⟩), .int .i64 i] w (AccPost B (accI b.locals x) w) := by
  have hi := (List.getElem?_eq_some_iff.1 hx).1
  obtain ⟨-, ⟨al, cl, b2⟩, a, c, b3, hc1, hc2, hcode⟩ := h.parts
  obtain ⟨g', o', rfl, hcode2⟩ := hcode (by omega)
  obtain ⟨cs, hat, f⟩ := hcode2 i x hx
  clear hcode hcode2 h hx
  have HONE := Lib.hid (InAt.one _ _ hat)
  obtain ⟨vd, va, vp, vt, vc, xa, rfl, -, -, -, -, -, -⟩ := hat
  have F := Lib.hid f
  clear f
  have HS : Hid (accI b.locals x = retAcc b.locals) := by show _ = _; unfold accI; rw [if_neg (by omega), if_neg (by omega), if_neg (by omega), if_neg (by omega), if_pos h6]; rfl
  have e0 : decide ((i : Int) < 0) = false := decide_eq_false (by omega)
  have e1 : decide (b.code.length ≤ i) = false := decide_eq_false (by omega)
  have ek : x.kind = 6 := h6
  obtain ⟨i0, hi0, hz0, hz1, hz2⟩ := info_parts Try.infoAcc
  have HI := Lib.hid hi0
  have HZ0 := Lib.hid hz0
  have HZ1 := Lib.hid hz1
  have HZ2 := Lib.hid hz2
  obtain ⟨kd, hkd⟩ : ∃ kd, kd = x.kind := ⟨_, rfl⟩
  rw [← hkd] at F HONE h6
  subst h6
  clear hi0 hz0 hz1 hz2 ek hkd
  have hb0 : Hid (1 ≤ b.locals ∨ b.locals = 0) := by show _ ∨ _; omega
  go_enter Try.func38, Try.ntmps38
  go_upto_region 6 with (first
      | (refine wpList_load_whole rfl 57 (.tmp 35) rfl g' (o' + i * 21) rfl _ _ F.out Try.underlying57 rfl Try.sizeIns ?_)
      | (refine wpList_store_new rfl 57 (.tmp 6) (.tmp 36) rfl _ _ rfl rfl Try.sizeIns rfl HONE.out ?_))
  clear F HONE
  obtain ⟨W0, hW0⟩ : ∃ W0 : World, W0 = w.alloc (.cells #[.int .i64 6, .int .i64 x.loc, .int .i64 x.dest.loc, vd, .int .i64 x.rkind, va, .int .i64 x.rpl.loc, vp, .bool x.mu, .string x.rname, .int .i64 x.rn, vt,
    .int .i64 x.cond.kind, .int .i64 x.cond.pl.loc, vc, .int .i64 x.cond.ty, .int .u64 x.cond.n, .int .i64 x.tgt, .int .i64 x.els, .int .i64 x.line, .int .i64 x.col] 57) := ⟨_, rfl⟩
  have ST0 : Step (fun _ => False) w W0 := by rw [hW0]; exact (Step.refl _ _).alloc _
  have HSZ0 : Hid (W0.heap.size = w.heap.size + 1) := by show _ = _; rw [hW0]; simp
  have HC2 : Hid (∀ X, Step (fun _ => False) W0 X → X.cell? ⟨g, 2, none⟩ = some (.slice al b.locals cl)) := fun X hX => hX.cell (ST0.cell b2 (fun h => h)) (fun h => h)
  rw [← hW0]
  clear b2 b3 hW0
  have HROW : Hid (∀ (X : World) (k t : Int), Row (X.alloc (.cells #[.int .i64 k, .slice none 0 0, .int .i64 t] 90)) (X.heap.size + 1) (.slice (some ⟨X.heap.size, 0, none⟩) 1 1) 1 (acV ⟨⟨k, []⟩, t⟩)) := fun X k t => Row.new (cs := [.int .i64 k, .slice none 0 0, .int .i64 t]) (blk_new _ _) (by decide)
  have HOWN : Hid ((W0.alloc (.cells #[.int .i64 0, .slice none 0 0, .int .i64 2] 90)).ownsRow W0.heap.size 90 3 (.slice none 0 0) 0 []) := World.ownsRow_nil _ _ _ _
  go_wp2_with (at_builtin; refine wpList_append_row _ rfl (W0.heap.size + 1) _ _ 87 rfl W0.heap.size 90 i0 (.agg #[.int .i64 0, .slice none 0 0, .int .i64 0]) 3 40 Try.underlying87 HI.out HZ0.out HZ1.out HZ2.out rfl (by decide) _ _ _ rfl HOWN.out _ 1 _ rfl (HROW.out W0 0 2) rfl acV_one (by unfold maxLen; omega) (by omega) (by simp) ?_)
  intro v1 w1 hown1 hgrow1 _
  have ST1 : Step (fun _ => False) W0 w1 := ((Step.refl _ _).alloc _).grown hgrow1 (fun k hk hlt => by have := owned_row HOWN.out k hk; omega)
  have HOW1 := Lib.hid hown1
  clear hown1 HOWN
  go_wp2_with fail
  go_loopg [5, 9] b.locals (fun gg s5 s9 wr => ∃ n : Nat, s9 = .int .i64 n ∧ 1 ≤ n ∧ n ≤ max 1 b.locals ∧ b.locals - n ≤ gg ∧ wr.ownsRow W0.heap.size 90 3 s5 n ((retAcc n).flatMap acV) ∧ Step (fun _ => False) W0 wr)
  case atStart => exact ⟨1, rfl, Nat.le_refl _, by omega, by omega, HOW1.out, ST1⟩
  case round =>
    obtain ⟨n, rfl, hn1, hn2, hgg, hown, hst⟩ := hrel
    have c2 := HC2.out wr hst
    obtain ⟨ao, co, rfl⟩ := owns_slice hown
    have HOW := Lib.hid hown
    clear hown
    by_cases hlt : n < b.locals
    · have HT : Hid ((retAcc (n + 1)).flatMap acV = (retAcc n).flatMap acV ++ acV ⟨⟨(n : Int), []⟩, 6⟩) := by show _ = _; rw [retAcc_succ n hn1, List.flatMap_append]; simp
      have ST2 : Step (fun _ => False) W0 (wr.alloc (.cells #[.int .i64 n, .slice none 0 0, .int .i64 6] 90)) := hst.alloc _
      go_wp2_with (at_builtin; refine wpList_append_row _ rfl (wr.heap.size + 1) _ _ 87 rfl W0.heap.size 90 i0 (.agg #[.int .i64 0, .slice none 0 0, .int .i64 0]) 3 40 Try.underlying87 HI.out HZ0.out HZ1.out HZ2.out rfl (by decide) _ _ _ rfl (HOW.out.alloc _) _ 1 _ rfl (HROW.out wr n 6) rfl acV_one (by unfold maxLen; omega) (by omega) ST2.size ?_)
      intro v4 w4 hown4 hgrow4 _
      have ST4 : Step (fun _ => False) W0 w4 := ST2.grown hgrow4 (fun k hk hlt => by have := owned_row HOW.out k hk; omega)
      rw [← HT.out] at hown4
      clear c2
      go_wp2
      go_roundg (gk - 1)
      case rel => exact ⟨n + 1, by go_num, by omega, by omega, by omega, hown4, ST4⟩
      case measure => omega
    · have HF : Hid (n = b.locals ∨ (b.locals = 0 ∧ n = 1)) := by show _ ∨ _; omega
      go_wp2
      go_ret
      rcases HF.out with rfl | ⟨h0, rfl⟩
      · refine ⟨⟨_, (retAcc b.locals).flatMap acV, rfl, ?_, ?_⟩, ST0.trans hst⟩
        · rw [HS.out]; exact acV_each _ _ _ (retAcc_path _)
        · rw [HS.out, retAcc_len _ hn1]; exact Row.of_owns HOW.out (Nat.le_refl _)
      · refine ⟨⟨_, (retAcc 1).flatMap acV, rfl, ?_, ?_⟩, ST0.trans hst⟩
        · rw [HS.out, h0]; exact acV_each _ _ _ (retAcc_path _)
        · rw [HS.out, h0]; exact Row.of_owns HOW.out (Nat.le_refl _)

end Go.Proofs.Ytilipeigjkmldaa
