/- Contracts of package mir: operands, right sides, instructions; where an instruction goes on. -/
import Derived.Test.YtilipeigjkmldaaBodB
import Derived.Test.YtilipeigjkmldaaStore
import Derived.Deep.DeepCutAuto
namespace Go.Proofs.Ytilipeigjkmldaa
open Go.RowKit

/- What a pointer to a body gives. -/
theorem BodP.parts {w : World} {B g : Nat} {b : Bod} (h : BodP w B g b) : w.cell? ⟨g, 1, none⟩ = some (.int .i64 b.params) ∧ (∃ a c, w.cell? ⟨g, 2, none⟩ = some (.slice a b.locals c)) ∧
    ∃ a c, w.cell? ⟨g, 3, none⟩ = some (.slice a b.code.length c) ∧ b.code.length ≤ c ∧ c ≤ 9223372036854775807 ∧ (0 < b.code.length → ∃ g' o', a = some ⟨g', o', none⟩ ∧
      ∀ i x, b.code[i]? = some x → ∃ cs, InAt w B x cs ∧ ∀ (j : Nat) y, cs[j]? = some y → w.cell? ⟨g', o' + i * 21 + j, none⟩ = some y) := by
  obtain ⟨-, -, cs, ⟨vl, vc, xl, xs, rfl, ⟨a, c, rfl, -⟩, hx, ⟨a2, c2, rfl, h1, h2, -, h3⟩⟩, f⟩ := h
  refine ⟨f 1 _ rfl, ⟨a, c, f 2 _ rfl⟩, a2, c2, f 3 _ rfl, h1, h2, fun hn => ?_⟩
  obtain ⟨g', o', rfl, -, -, hc⟩ := h3 hn
  exact ⟨g', o', rfl, fun i x hx' => Each.cells 21 InAt.len hx hx' hc⟩

set_option maxHeartbeats 400000 in
theorem operand_any (B g : Nat) (b : Bod) (o : Opd) (cs : List Value) (w : World) (h : BodP w B g b) (ho : OpAt w B o cs) :
    Calls Try.prog 74 #[.pointer (some ⟨g, 0, none⟩), .agg cs.toArray] w (IsBool (opOk b.locals o) w) := by
  obtain ⟨v, rfl, hr⟩ := ho
  have HB := Lib.hid h
  have HR := Lib.hid hr
  obtain ⟨a, c, rfl, -⟩ := hr
  obtain ⟨kind, ⟨loc, path⟩, ty, n⟩ := o
  simp only at HR ⊢
  have ST0 : Step (fun _ => False) w (w.alloc (.cells #[.int .i64 kind, .int .i64 loc, .slice a path.length c, .int .i64 ty, .int .u64 n] 53)) := (Step.refl _ _).alloc _
  clear h
  by_cases h1 : kind = 1
  · have HP : Hid (opOk b.locals ⟨kind, ⟨loc, path⟩, ty, n⟩ = (decide (1 ≤ ty) && decide (ty ≤ 4))) := by show _ = _; unfold opOk; rw [if_pos h1]
    subst h1
    by_cases h2 : 1 ≤ ty
    · by_cases h3 : ty ≤ 4
      · go_enter Try.func74, Try.ntmps74
        go_wp2
        go_ret
        exact ⟨ret_bool (by rw [HP.out]; simp [h2, h3]), ST0⟩
      · go_enter Try.func74, Try.ntmps74
        go_wp2
        go_ret
        exact ⟨ret_bool (by rw [HP.out, decide_eq_false (show ¬ ty ≤ 4 by omega), Bool.and_false]), ST0⟩
    · go_enter Try.func74, Try.ntmps74
      go_wp2
      go_ret
      exact ⟨ret_bool (by rw [HP.out, decide_eq_false (show ¬ 1 ≤ ty by omega), Bool.false_and]), ST0⟩
  · by_cases h2 : kind = 2
    · have HP : Hid (opOk b.locals ⟨kind, ⟨loc, path⟩, ty, n⟩ = plOk b.locals ⟨loc, path⟩) := by show _ = _; unfold opOk; rw [if_neg h1, if_pos (.inl h2)]
      subst h2
      clear h1
      go_enter Try.func74, Try.ntmps74
      go_wp2_with fail
      refine (place_any B g b ⟨loc, path⟩ _ _ (HB.out.step ST0 (fun _ _ h => h)) ⟨_, rfl, HR.out.step ST0 (fun _ _ h => h)⟩).mono ?_
      rintro e w1 ⟨rfl, hw1⟩
      go_wp2
      go_ret
      exact ⟨ret_bool (by rw [HP.out]), ST0.trans hw1⟩
    · by_cases h3 : kind = 3
      · have HP : Hid (opOk b.locals ⟨kind, ⟨loc, path⟩, ty, n⟩ = plOk b.locals ⟨loc, path⟩) := by show _ = _; unfold opOk; rw [if_neg h1, if_pos (.inr h3)]
        subst h3
        clear h1 h2
        go_enter Try.func74, Try.ntmps74
        go_wp2_with fail
        refine (place_any B g b ⟨loc, path⟩ _ _ (HB.out.step ST0 (fun _ _ h => h)) ⟨_, rfl, HR.out.step ST0 (fun _ _ h => h)⟩).mono ?_
        rintro e w1 ⟨rfl, hw1⟩
        go_wp2
        go_ret
        exact ⟨ret_bool (by rw [HP.out]), ST0.trans hw1⟩
      · have HP : Hid (opOk b.locals ⟨kind, ⟨loc, path⟩, ty, n⟩ = false) := by show _ = _; unfold opOk; rw [if_neg h1, if_neg (by rintro (h | h) <;> contradiction)]
        go_enter Try.func74, Try.ntmps74
        go_wp2
        go_ret
        exact ⟨ret_bool (by rw [HP.out]), ST0⟩

set_option maxHeartbeats 1000000 in
theorem count_any (k : Int) (w : World) : Calls Try.prog 89 #[.int .i64 k] w fun e w' => e = .returned (.int .i64 (cntF k)) ∧ w = w' := by
  have HC : Hid (cntF k = if k = 2 ∨ k = 10 then 0 else if k = 1 ∨ k = 4 ∨ k = 5 ∨ k = 6 ∨ k = 11 then 1 else if k = 3 then 2 else if k = 7 ∨ k = 8 ∨ k = 9 then -1 else -2) := rfl
  go_enter Try.func89, Try.ntmps89
  go_wp2
  all_goals go_ret
  all_goals refine ⟨ret_int ?_, rfl⟩
  all_goals rw [HC.out]
  all_goals simp_all

theorem Try.sizeIns : (Try.prog.info? 57).map (·.size) = some 21 := by kernel_rfl

set_option maxRecDepth 100000 in
set_option maxHeartbeats 1000000 in
theorem succ_any (B g : Nat) (b : Bod) (i : Nat) (x : Ins) (w : World) (h : BodP w B g b) (hx : b.code[i]? = some x) :
    Calls Try.prog 54 #[.pointer (some ⟨g, 0, none⟩), .int .i64 i] w fun e w' => (∃ v, e = .returned v ∧ Row w' w'.heap.size v (succI x i).length (intsV (succI x i))) ∧ Step (fun _ => False) w w' := by
  have hi := (List.getElem?_eq_some_iff.1 hx).1
  obtain ⟨-, -, a, c, b3, hc1, hc2, hcode⟩ := h.parts
  obtain ⟨g', o', rfl, hcode2⟩ := hcode (by omega)
  obtain ⟨cs, hat, f⟩ := hcode2 i x hx
  clear hcode hcode2 h hx
  have HONE := Lib.hid (InAt.one _ _ hat)
  obtain ⟨vd, va, vp, vt, vc, xa, rfl, -, -, -, -, -, -⟩ := hat
  have F := Lib.hid f
  clear f
  obtain ⟨kind, loc, dest, rkind, args, rpl, mu, rname, rn, cond, tgt, els, line, col⟩ := x
  simp only at F HONE
  have HS : Hid (succI ⟨kind, loc, dest, rkind, args, rpl, mu, rname, rn, cond, tgt, els, line, col⟩ i = if kind = 4 then [tgt] else if kind = 5 then (if tgt = els then [tgt] else [tgt, els]) else if kind = 6 ∨ kind = 7 then [] else [(i : Int) + 1]) := rfl
  have FIN : Hid (∀ (l : List Int) (W : World) (n : Nat), W.heap[n]? = some (.cells (intsV l).toArray 3 (0, 0)) → l.length ≤ 2 → Row W W.heap.size (.slice (some ⟨n, 0, none⟩) l.length l.length) l.length (intsV l)) :=
    fun l W n hn hl => (Row.new hn (by omega)).mono (blk_lt hn)
  have e0 : decide ((i : Int) < 0) = false := decide_eq_false (by omega)
  have e1 : decide (b.code.length ≤ i) = false := decide_eq_false (by omega)
  go_enter Try.func54, Try.ntmps54
  go_upto_region 5 with (first
      | (refine wpList_load_whole rfl 57 (.tmp 26) rfl g' (o' + i * 21) rfl _ _ F.out Try.underlying57 rfl Try.sizeIns ?_)
      | (refine wpList_store_new rfl 57 (.tmp 5) (.tmp 27) rfl _ _ rfl rfl Try.sizeIns rfl HONE.out ?_))
  clear F HONE
  by_cases h4 : kind = 4
  · rw [if_pos h4] at HS
    subst h4
    as_aux_lemma =>
      go_wp2
      go_ret
      refine ⟨⟨_, rfl, ?_⟩, ((Step.refl _ _).alloc _).alloc _⟩
      rw [HS.out]
      exact FIN.out [tgt] _ _ (blk_new2 _ _ _) (by simp)
  · by_cases h5 : kind = 5
    · rw [if_neg h4, if_pos h5] at HS
      subst h5
      clear h4
      by_cases he : tgt = els
      · rw [if_pos he] at HS
        subst he
        as_aux_lemma =>
          go_wp2
          go_ret
          refine ⟨⟨_, rfl, ?_⟩, ((Step.refl _ _).alloc _).alloc _⟩
          rw [HS.out]
          exact FIN.out [tgt] _ _ (blk_new2 _ _ _) (by simp)
      · rw [if_neg he] at HS
        have he2 : (tgt == els) = false := by simpa using he
        as_aux_lemma =>
          go_wp2
          go_ret
          refine ⟨⟨_, rfl, ?_⟩, ((Step.refl _ _).alloc _).alloc _⟩
          rw [HS.out]
          exact FIN.out [tgt, els] _ _ (blk_new2 _ _ _) (by simp)
    · by_cases h6 : kind = 6
      · rw [if_neg h4, if_neg h5, if_pos (.inl h6)] at HS
        subst h6
        clear h4 h5
        as_aux_lemma =>
          go_wp2
          go_ret
          refine ⟨⟨_, rfl, ?_⟩, (Step.refl _ _).alloc _⟩
          rw [HS.out]
          exact Row.nil _ _ _
      · by_cases h7 : kind = 7
        · rw [if_neg h4, if_neg h5, if_pos (.inr h7)] at HS
          subst h7
          clear h4 h5 h6
          as_aux_lemma =>
            go_wp2
            go_ret
            refine ⟨⟨_, rfl, ?_⟩, (Step.refl _ _).alloc _⟩
            rw [HS.out]
            exact Row.nil _ _ _
        · rw [if_neg h4, if_neg h5, if_neg (by rintro (h | h) <;> contradiction)] at HS
          as_aux_lemma =>
            go_wp2
            go_ret
            refine ⟨⟨_, rfl, ?_⟩, ((Step.refl _ _).alloc _).alloc _⟩
            rw [HS.out]
            exact FIN.out [(i : Int) + 1] _ _ (blk_new2 _ _ _) (by simp)

end Go.Proofs.Ytilipeigjkmldaa
