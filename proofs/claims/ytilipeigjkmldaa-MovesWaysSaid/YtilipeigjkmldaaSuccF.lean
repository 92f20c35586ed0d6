/- Where an instruction goes on: the slice that is answered is a new one. -/
import Derived.Test.YtilipeigjkmldaaBodCk
namespace Go.Proofs.Ytilipeigjkmldaa
open Go.RowKit

set_option maxRecDepth 100000 in
set_option maxHeartbeats 1000000 in
theorem succ_fresh (B g : Nat) (b : Bod) (i : Nat) (x : Ins) (w : World) (h : BodP w B g b) (hx : b.code[i]? = some x) :
    Calls Try.prog 54 #[.pointer (some ⟨g, 0, none⟩), .int .i64 i] w fun e w' => (∃ v, e = .returned v ∧ Row w' w'.heap.size v (succI x i).length (intsV (succI x i)) ∧ ∀ q, v.ownBlock = some q → w.heap.size ≤ q) ∧ Step (fun _ => False) w w' := by
  have hi := (List.getElem?_eq_some_iff.1 hx).1
  obtain ⟨-, -, a, c, b3, hc1, hc2, hcode⟩ := h.parts
  obtain ⟨g', o', rfl, hcode2⟩ := hcode (by omega)
  obtain ⟨cs, hat, f⟩ := hcode2 i x hx
  clear hcode hcode2 h hx
  have HONE := Lib.hid (InAt.one _ _ hat)
  obtain ⟨vd, va, vp, vt, vc, xa, rfl, -, -, -, -, -, -⟩ := hat
  have F := Lib.hid f
  clear f
  obtain ⟨kind, loc, dest, rkind, args, rpl, mu, rname, rn, cond, tgt, els, line, col⟩ := x
  simp only at F HONE
  have HS : Hid (succI ⟨kind, loc, dest, rkind, args, rpl, mu, rname, rn, cond, tgt, els, line, col⟩ i = if kind = 4 then [tgt] else if kind = 5 then (if tgt = els then [tgt] else [tgt, els]) else if kind = 6 ∨ kind = 7 then [] else [(i : Int) + 1]) := rfl
  have FIN : Hid (∀ (l : List Int) (W : World) (n : Nat), W.heap[n]? = some (.cells (intsV l).toArray 3 (0, 0)) → l.length ≤ 2 → Row W W.heap.size (.slice (some ⟨n, 0, none⟩) l.length l.length) l.length (intsV l)) :=
    fun l W n hn hl => (Row.new hn (by omega)).mono (blk_lt hn)
  have e0 : decide ((i : Int) < 0) = false := decide_eq_false (by omega)
  have e1 : decide (b.code.length ≤ i) = false := decide_eq_false (by omega)
  go_enter Try.func54, Try.ntmps54
  go_upto_region 5 with (first
      | (refine wpList_load_whole rfl 57 (.tmp 26) rfl g' (o' + i * 21) rfl _ _ F.out Try.underlying57 rfl Try.sizeIns ?_)
      | (refine wpList_store_new rfl 57 (.tmp 5) (.tmp 27) rfl _ _ rfl rfl Try.sizeIns rfl HONE.out ?_))
  clear F HONE
  by_cases h4 : kind = 4
  · rw [if_pos h4] at HS
    subst h4
    as_aux_lemma =>
      go_wp2
      go_ret
      refine ⟨⟨_, rfl, ?_, fun q hq => by cases hq; exact Nat.le_succ _⟩, ((Step.refl _ _).alloc _).alloc _⟩
      rw [HS.out]
      exact FIN.out [tgt] _ _ (blk_new2 _ _ _) (by simp)
  · by_cases h5 : kind = 5
    · rw [if_neg h4, if_pos h5] at HS
      subst h5
      clear h4
      by_cases he : tgt = els
      · rw [if_pos he] at HS
        subst he
        as_aux_lemma =>
          go_wp2
          go_ret
          refine ⟨⟨_, rfl, ?_, fun q hq => by cases hq; exact Nat.le_succ _⟩, ((Step.refl _ _).alloc _).alloc _⟩
          rw [HS.out]
          exact FIN.out [tgt] _ _ (blk_new2 _ _ _) (by simp)
      · rw [if_neg he] at HS
        have he2 : (tgt == els) = false := by simpa using he
        as_aux_lemma =>
          go_wp2
          go_ret
          refine ⟨⟨_, rfl, ?_, fun q hq => by cases hq; exact Nat.le_succ _⟩, ((Step.refl _ _).alloc _).alloc _⟩
          rw [HS.out]
          exact FIN.out [tgt, els] _ _ (blk_new2 _ _ _) (by simp)
    · by_cases h6 : kind = 6
      · rw [if_neg h4, if_neg h5, if_pos (.inl h6)] at HS
        subst h6
        clear h4 h5
        as_aux_lemma =>
          go_wp2
          go_ret
          refine ⟨⟨_, rfl, ?_, fun q hq => nomatch hq⟩, (Step.refl _ _).alloc _⟩
          rw [HS.out]
          exact Row.nil _ _ _
      · by_cases h7 : kind = 7
        · rw [if_neg h4, if_neg h5, if_pos (.inr h7)] at HS
          subst h7
          clear h4 h5 h6
          as_aux_lemma =>
            go_wp2
            go_ret
            refine ⟨⟨_, rfl, ?_, fun q hq => nomatch hq⟩, (Step.refl _ _).alloc _⟩
            rw [HS.out]
            exact Row.nil _ _ _
        · rw [if_neg h4, if_neg h5, if_neg (by rintro (h | h) <;> contradiction)] at HS
          as_aux_lemma =>
            go_wp2
            go_ret
            refine ⟨⟨_, rfl, ?_, fun q hq => by cases hq; exact Nat.le_succ _⟩, ((Step.refl _ _).alloc _).alloc _⟩
            rw [HS.out]
            exact FIN.out [(i : Int) + 1] _ _ (blk_new2 _ _ _) (by simp)

end Go.Proofs.Ytilipeigjkmldaa
