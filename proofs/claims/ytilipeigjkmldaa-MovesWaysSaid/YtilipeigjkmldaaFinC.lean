/- Places: contracts of the document's Same and direct; slices.Clone; the part of a place ahead of the first pointer. -/
import Derived.Test.YtilipeigjkmldaaFinB
import Derived.Test.YtilipeigjkmldaaShapeA
namespace Go.Proofs.Ytilipeigjkmldaa
open Go.RowKit

set_option maxRecDepth 100000 in
theorem rsame_any (p q : Pl) (cp cq : List Value) (B : Nat) (w : World) (hp : PlAt w B p cp) (hq : PlAt w B q cq) : Calls Try.prog 70 #[.agg cp.toArray, .agg cq.toArray] w (IsBool (sameF p q) w) := by
  have HP := Lib.hid hp
  have HQ := Lib.hid hq
  obtain ⟨v1, rfl, ⟨a1, c1, rfl, -⟩⟩ := hp
  obtain ⟨v2, rfl, ⟨a2, c2, rfl, -⟩⟩ := hq
  obtain ⟨r1, hr1⟩ : ∃ r, r = begF p q := ⟨_, rfl⟩
  obtain ⟨r2, hr2⟩ : ∃ r, r = begF q p := ⟨_, rfl⟩
  have HM : Hid (sameF p q = (r1 && r2)) := by show _ = _; unfold sameF; rw [hr1, hr2]
  have HST : Hid (Step (fun _ => False) w ((w.alloc (.cells #[.int .i64 p.loc, .slice a1 p.path.length c1] 47)).alloc (.cells #[.int .i64 q.loc, .slice a2 q.path.length c2] 47))) := ((Step.refl _ _).alloc _).alloc _
  have HB1 := Lib.hid (blk_alloc (o' := .cells #[.int .i64 q.loc, .slice a2 q.path.length c2] 47) (blk_new w (.cells #[.int .i64 p.loc, .slice a1 p.path.length c1] 47)))
  have HB2 := Lib.hid (blk_new2 w (.cells #[.int .i64 p.loc, .slice a1 p.path.length c1] 47) (.cells #[.int .i64 q.loc, .slice a2 q.path.length c2] 47))
  have HC1 : Hid (∀ X, Step (fun _ => False) w X → Calls Try.prog 86 #[.agg #[.int .i64 p.loc, .slice a1 p.path.length c1], .agg #[.int .i64 q.loc, .slice a2 q.path.length c2]] X (IsBool r1 X)) := by
    show ∀ X, _
    intro X hX
    rw [hr1]
    exact rbegins_any p q [.int .i64 p.loc, .slice a1 p.path.length c1] [.int .i64 q.loc, .slice a2 q.path.length c2] B X (PlAt.step hX (fun _ _ h => h) _ _ HP.out) (PlAt.step hX (fun _ _ h => h) _ _ HQ.out)
  have HC2 : Hid (∀ X, Step (fun _ => False) w X → Calls Try.prog 86 #[.agg #[.int .i64 q.loc, .slice a2 q.path.length c2], .agg #[.int .i64 p.loc, .slice a1 p.path.length c1]] X (IsBool r2 X)) := by
    show ∀ X, _
    intro X hX
    rw [hr2]
    exact rbegins_any q p [.int .i64 q.loc, .slice a2 q.path.length c2] [.int .i64 p.loc, .slice a1 p.path.length c1] B X (PlAt.step hX (fun _ _ h => h) _ _ HQ.out) (PlAt.step hX (fun _ _ h => h) _ _ HP.out)
  clear hr1 hr2
  go_enter Try.func70, Try.ntmps70
  go_wp2_with fail
  refine (HC1.out _ HST.out).mono ?_
  rintro e w1 ⟨rfl, h1⟩
  have k1 := h1.keep HB1.out (fun h => h)
  have k2 := h1.keep HB2.out (fun h => h)
  have d0 := blk_cell k1 0 _ rfl
  have d1 := blk_cell k1 1 _ rfl
  have e0 := blk_cell k2 0 _ rfl
  have e1 := blk_cell k2 1 _ rfl
  clear k1 k2
  cases r1 with
  | false =>
    go_wp2_with fail
    go_ret
    exact ⟨ret_bool HM.out.symm, HST.out.trans h1⟩
  | true =>
    go_wp2_with fail
    refine (HC2.out _ (HST.out.trans h1)).mono ?_
    rintro e w2 ⟨rfl, h2⟩
    go_wp2_with fail
    go_ret
    exact ⟨ret_bool HM.out.symm, (HST.out.trans h1).trans h2⟩

set_option maxRecDepth 100000 in
theorem rdirect_any (p : Pl) (cs : List Value) (B : Nat) (w : World) (h : PlAt w B p cs) : Calls Try.prog 87 #[.agg cs.toArray] w (IsBool (dirF p) w) := by
  obtain ⟨v, rfl, ⟨a, c, rfl, hc1, hc2, -, hrr⟩⟩ := h
  have HR := Lib.hid hrr
  obtain ⟨r, hr⟩ : ∃ r, r = dirF p := ⟨_, rfl⟩
  have HD : Hid (r = !(p.path.any (fun y => (-1 : Int) == y))) := hr
  rw [← hr]
  obtain ⟨w1, hw1⟩ : ∃ w1 : World, w1 = w.alloc (.cells #[.int .i64 p.loc, .slice a p.path.length c] 47) := ⟨_, rfl⟩
  have HST : Hid (Step (fun _ => False) w w1) := by show Step _ _ _; rw [hw1]; exact (Step.refl _ _).alloc _
  have HB1 : Hid (w1.heap[w.heap.size]? = some (.cells #[.int .i64 p.loc, .slice a p.path.length c] 47 (0, 0))) := by show _ = _; rw [hw1]; exact blk_new w _
  have HW1 := Lib.hid hw1
  clear hrr hr hw1
  go_enter Try.func87, Try.ntmps87
  go_upto_region 1 with fail
  rw [← HW1.out]
  go_wp2_with fail
  go_loopg [3] p.path.length (fun gg s3 wr => ∃ k : Nat, s3 = .int .i64 k ∧ k ≤ p.path.length ∧ p.path.length - k ≤ gg ∧ (∀ j, j < k → ∀ y, p.path[j]? = some y → ((-1 : Int) == y) = false) ∧ wr = w1)
  case atStart => exact ⟨0, rfl, Nat.zero_le _, by omega, (fun j hj => absurd hj (Nat.not_lt_zero _)), rfl⟩
  case round =>
    obtain ⟨k, rfl, hk, hgg, hno, rfl⟩ := hrel
    have HNO := Lib.hid hno
    have d1 := blk_cell HB1.out 1 _ rfl
    clear hno
    by_cases hlt : k < p.path.length
    · obtain ⟨y, hy⟩ : ∃ y, p.path[k]? = some y := ⟨_, List.getElem?_eq_getElem hlt⟩
      obtain ⟨g, o, rfl, -, -, hcell⟩ := HR.out (by omega)
      have f1 := HST.out.cell (hcell k _ (intsV_get p.path k y hy)) (fun h => h)
      have HY := Lib.hid hy
      have hi0 : (0 : Int) ≤ (k : Int) := by omega
      have hi1 : (k : Int) < (p.path.length : Int) := by omega
      clear hcell hy
      by_cases e : y = -1
      · have e1 : (y == -1) = true := by simp [e]
        have HF : Hid (r = false) := by
          show _ = _
          rw [HD.out]
          have : p.path.any (fun y => (-1 : Int) == y) = true := List.any_eq_true.2 ⟨y, List.mem_of_getElem? HY.out, by simp [e]⟩
          rw [this]; rfl
        clear e
        go_wp2
        go_ret
        exact ⟨ret_bool HF.out.symm, HST.out⟩
      · have e1 : (y == -1) = false := by simpa using e
        have HNX : Hid (∀ j, j < k + 1 → ∀ z, p.path[j]? = some z → ((-1 : Int) == z) = false) := by
          show ∀ j, _
          intro j hj z hz
          by_cases ej : j = k
          · rw [ej, HY.out] at hz
            cases hz
            simpa using fun h => e h.symm
          · exact HNO.out j (by omega) z hz
        clear e
        go_wp2
        go_roundg (gk - 1)
        case rel => exact ⟨k + 1, by go_num, hlt, by rw [← Nat.sub_sub]; exact Nat.sub_le_sub_right hgg 1, HNX.out, rfl⟩
        case measure => omega
    · obtain rfl : k = p.path.length := by omega
      have HF : Hid (r = true) := by
        show _ = _
        rw [HD.out]
        have : p.path.any (fun y => (-1 : Int) == y) = false := by
          cases e : p.path.any (fun y => (-1 : Int) == y) with
          | false => rfl
          | true =>
            obtain ⟨y, hy, he⟩ := List.any_eq_true.1 e
            obtain ⟨j, hj⟩ := List.getElem?_of_mem hy
            rw [HNO.out j (List.getElem?_eq_some_iff.1 hj).1 y hj] at he
            cases he
        rw [this]; rfl
      go_wp2
      go_ret
      exact ⟨ret_bool HF.out.symm, HST.out⟩

theorem ownsEmpty (w : World) (base : Nat) (hb : base ≤ w.heap.size) : (w.alloc (.cells #[] 3)).ownsRow base 3 1 (.slice (some ⟨w.heap.size, 0, none⟩) 0 0) 0 [] :=
  ⟨rfl, .inr ⟨w.heap.size, 0, #[], rfl, hb, blk_new _ _, Nat.le_refl _, by decide, rfl, rfl⟩⟩

set_option maxRecDepth 100000 in
theorem clone_any (l : List Int) (v : Value) (B : Nat) (w : World) (h : Row w B v l.length (intsV l)) (hl : l.length ≤ 1000000) :
    Calls Try.prog 96 #[v] w fun e w' => (∃ u, e = .returned u ∧ w'.ownsRow w.heap.size 3 1 u l.length (intsV l)) ∧ Step (fun _ => False) w w' := by
  have HR := Lib.hid h
  obtain ⟨a, c, rfl, hc1, hc2, hz, -⟩ := h
  obtain ⟨j0, hj0, hy0, hy1, hy2⟩ := info_parts Try.infoInt2
  have HJ := Lib.hid hj0
  have HY0 := Lib.hid hy0
  have HY1 := Lib.hid hy1
  have HY2 := Lib.hid hy2
  have HST : Hid (Step (fun _ => False) w (w.alloc (.cells #[] 3))) := (Step.refl _ _).alloc _
  have HOW := Lib.hid (ownsEmpty w w.heap.size (Nat.le_refl _))
  have HR1 := Lib.hid (HR.out.step HST.out (fun _ _ h => h))
  clear hj0 hy0 hy1 hy2
  cases a with
  | none =>
    obtain ⟨z1, z2⟩ := hz rfl
    have HE : Hid (l = []) := List.eq_nil_of_length_eq_zero z1
    subst z2
    rw [z1]
    clear hz
    have e5 : (binOp .eql 38 (.slice none 0 0) (.slice none 0 0)).run Try.prog w = .ok (.bool true) w := by kernel_rfl
    go_enter Try.func96, Try.ntmps96
    go_wp2
    go_ret
    refine ⟨⟨_, rfl, ?_⟩, Step.refl _ _⟩
    rw [HE.out]
    exact World.ownsRow_nil _ _ _ _
  | some ad =>
    clear hz
    have e5 : (binOp .eql 38 (.slice (some ad) l.length c) (.slice none 0 0)).run Try.prog w = .ok (.bool false) w := by kernel_rfl
    go_enter Try.func96, Try.ntmps96
    go_wp2_with (at_builtin; refine wpList_append_row _ rfl B (.tmp 5) (.tmp 6) 38 rfl w.heap.size 3 j0 (.int .i64 0) 1 8 Try.underlying38 HJ.out HY0.out HY1.out HY2.out rfl (by decide) _ _ _ rfl HOW.out _ l.length _ rfl HR1.out (intsV_length l) (intsV_one _) (by unfold maxLen; omega) (by omega) HST.out.size ?_)
    intro v8 w8 hown8 hgrow8 hat8
    have HO8 := Lib.hid hown8
    have HS8 : Hid (Step (fun _ => False) w w8) := HST.out.then (grown_step hgrow8) (fun q hq e => by have := (HOW.out.lt q e).1; omega)
    clear hown8 hgrow8 hat8
    go_wp2
    go_ret
    exact ⟨⟨_, rfl, HO8.out⟩, HS8.out⟩

end Go.Proofs.Ytilipeigjkmldaa
