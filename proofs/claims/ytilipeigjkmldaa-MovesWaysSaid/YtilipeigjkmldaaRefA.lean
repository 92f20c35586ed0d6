/- Contracts of the document's answers, layers 1 and 14: Ints; where an instruction goes on; an operand's access. -/
import Derived.Test.YtilipeigjkmldaaLiveB
namespace Go.Proofs.Ytilipeigjkmldaa
open Go.RowKit

set_option maxRecDepth 100000 in
set_option maxHeartbeats 400000 in
theorem ints_any (l : List Int) (v1 v2 : Value) (b1 b2 : Nat) (w : World) (h1 : Row w b1 v1 l.length (intsV l)) (h2 : Row w b2 v2 l.length (intsV l)) :
    Calls Try.prog 15 #[v1, v2] w fun e w' => e = .returned (.bool true) ∧ Step (fun _ => False) w w' := by
  obtain ⟨a1, c1, rfl, hc1, hm1, -, hr1⟩ := h1
  obtain ⟨a2, c2, rfl, hc2, hm2, -, hr2⟩ := h2
  have H1 := Lib.hid hr1
  have H2 := Lib.hid hr2
  clear hr1 hr2
  go_enter Try.func15, Try.ntmps15
  go_wp2_with fail
  go_loopg [5] l.length (fun g s5 wr => ∃ i : Nat, s5 = .int .i64 i ∧ i ≤ l.length ∧ l.length - i ≤ g ∧ ∃ n, wr = w.drewN n)
  case atStart => exact ⟨0, rfl, Nat.zero_le _, by omega, 0, rfl⟩
  case round =>
    obtain ⟨i, rfl, hi, hg, n, rfl⟩ := hrel
    by_cases hlt : i < l.length
    · obtain ⟨x, hx⟩ : ∃ x, l[i]? = some x := ⟨l[i], List.getElem?_eq_getElem hlt⟩
      obtain ⟨g1, o1, rfl, hg1, hgw1, hcell1⟩ := H1.out (by omega)
      obtain ⟨g2, o2, rfl, hg2, hgw2, hcell2⟩ := H2.out (by omega)
      have f1 := hcell1 i _ (intsV_get l i x hx)
      have f2 := hcell2 i _ (intsV_get l i x hx)
      clear hcell1 hcell2 hx
      go_wp2
      go_quiet (fail)
      go_wp2
      go_roundg (gk - 1)
      case rel => exact ⟨i + 1, by go_num, by omega, by omega, _, rfl⟩
      case measure => omega
    · go_wp2
      go_ret
      exact ⟨rfl, (Step.refl _ _).drewN _⟩

theorem ints_no (l1 l2 : List Int) (v1 v2 : Value) (b1 b2 : Nat) (w : World) (h1 : Row w b1 v1 l1.length (intsV l1)) (h2 : Row w b2 v2 l2.length (intsV l2)) (hne : l1.length ≠ l2.length) :
    Calls Try.prog 15 #[v1, v2] w fun e w' => e = .returned (.bool false) ∧ Step (fun _ => False) w w' := by
  obtain ⟨a1, c1, rfl, -⟩ := h1
  obtain ⟨a2, c2, rfl, -⟩ := h2
  have e1 : ((l1.length : Int) != (l2.length : Int)) = true := by simpa using (by omega : ¬ (l1.length : Int) = l2.length)
  go_enter Try.func15, Try.ntmps15
  go_wp2
  go_ret
  exact ⟨rfl, Step.refl _ _⟩

/- A slice of instructions. -/
def InsP (w : World) (B : Nat) (v : Value) (l : List Ins) : Prop := ∃ xs, Each (InAt w B) l xs ∧ Row w B v l.length xs
theorem InsP.step {w w' : World} {B : Nat} {S : Nat → Prop} {v : Value} {l : List Ins} (h : InsP w B v l) (hs : Step S w w') (hS : ∀ k, k < B → ¬ S k) : InsP w' B v l := by
  obtain ⟨xs, h1, h2⟩ := h
  exact ⟨xs, Each.mono (InAt.step hs hS) _ _ h1, h2.step hs hS⟩

set_option maxRecDepth 100000 in
set_option maxHeartbeats 1000000 in
theorem rsucc_any (B : Nat) (code : List Ins) (v : Value) (i : Nat) (x : Ins) (w : World) (h : InsP w B v code) (hx : code[i]? = some x) :
    Calls Try.prog 36 #[v, .int .i64 i] w fun e w' => (∃ v, e = .returned v ∧ Row w' w'.heap.size v (succI x i).length (intsV (succI x i))) ∧ Step (fun _ => False) w w' := by
  have hi := (List.getElem?_eq_some_iff.1 hx).1
  obtain ⟨xs, hxs, a, c, rfl, hc1, hc2, -, hrr⟩ := h
  obtain ⟨g', o', rfl, -, -, hcell⟩ := hrr (by omega)
  obtain ⟨cs, hat, f⟩ := Each.cells 21 InAt.len hxs hx hcell
  clear hxs hrr hcell hx
  have HONE := Lib.hid (InAt.one _ _ hat)
  obtain ⟨vd, va, vp, vt, vc, xa, rfl, -, -, -, -, -, -⟩ := hat
  have F := Lib.hid f
  clear f
  obtain ⟨kind, loc, dest, rkind, args, rpl, mu, rname, rn, cond, tgt, els, line, col⟩ := x
  simp only at F HONE
  have HS : Hid (succI ⟨kind, loc, dest, rkind, args, rpl, mu, rname, rn, cond, tgt, els, line, col⟩ i = if kind = 4 then [tgt] else if kind = 5 then (if tgt = els then [tgt] else [tgt, els]) else if kind = 6 ∨ kind = 7 then [] else [(i : Int) + 1]) := rfl
  have FIN : Hid (∀ (l : List Int) (W : World) (n : Nat), W.heap[n]? = some (.cells (intsV l).toArray 3 (0, 0)) → l.length ≤ 2 → Row W W.heap.size (.slice (some ⟨n, 0, none⟩) l.length l.length) l.length (intsV l)) :=
    fun l W n hn hl => (Row.new hn (by omega)).mono (blk_lt hn)
  have hi0 : (0 : Int) ≤ (i : Int) := by omega
  have hi1 : (i : Int) < (code.length : Int) := by omega
  go_enter Try.func36, Try.ntmps36
  go_upto_region 2 with (first
      | (refine wpList_load_whole rfl 57 (.tmp 8) rfl g' (o' + i * 21) rfl _ _ F.out Try.underlying57 rfl Try.sizeIns ?_)
      | (refine wpList_store_new rfl 57 (.tmp 5) (.tmp 9) rfl _ _ rfl rfl Try.sizeIns rfl HONE.out ?_))
  clear F HONE
  by_cases h4 : kind = 4
  · rw [if_pos h4] at HS
    subst h4
    as_aux_lemma =>
      go_wp2
      go_ret
      refine ⟨⟨_, rfl, ?_⟩, ((Step.refl _ _).alloc _).alloc _⟩
      rw [HS.out]
      exact FIN.out [tgt] _ _ (blk_new2 _ _ _) (by simp)
  have e4 : (kind == 4) = false := by simpa using h4
  by_cases h5 : kind = 5
  · rw [if_neg h4, if_pos h5] at HS
    subst h5
    clear h4
    by_cases he : tgt = els
    · rw [if_pos he] at HS
      subst he
      as_aux_lemma =>
        go_wp2
        go_ret
        refine ⟨⟨_, rfl, ?_⟩, ((Step.refl _ _).alloc _).alloc _⟩
        rw [HS.out]
        exact FIN.out [tgt] _ _ (blk_new2 _ _ _) (by simp)
    · rw [if_neg he] at HS
      have he2 : (tgt == els) = false := by simpa using he
      clear he
      as_aux_lemma =>
        go_wp2
        go_ret
        refine ⟨⟨_, rfl, ?_⟩, ((Step.refl _ _).alloc _).alloc _⟩
        rw [HS.out]
        exact FIN.out [tgt, els] _ _ (blk_new2 _ _ _) (by simp)
  have e5 : (kind == 5) = false := by simpa using h5
  by_cases h6 : kind = 6
  · rw [if_neg h4, if_neg h5, if_pos (.inl h6)] at HS
    subst h6
    clear h4 h5
    as_aux_lemma =>
      go_wp2
      go_ret
      refine ⟨⟨_, rfl, ?_⟩, (Step.refl _ _).alloc _⟩
      rw [HS.out]
      exact Row.nil _ _ _
  have e6 : (kind == 6) = false := by simpa using h6
  by_cases h7 : kind = 7
  · rw [if_neg h4, if_neg h5, if_pos (.inr h7)] at HS
    subst h7
    clear h4 h5 h6
    as_aux_lemma =>
      go_wp2
      go_ret
      refine ⟨⟨_, rfl, ?_⟩, (Step.refl _ _).alloc _⟩
      rw [HS.out]
      exact Row.nil _ _ _
  have e7 : (kind == 7) = false := by simpa using h7
  rw [if_neg h4, if_neg h5, if_neg (by rintro (h | h) <;> contradiction)] at HS
  clear h4 h5 h6 h7
  as_aux_lemma =>
    go_wp2
    go_ret
    refine ⟨⟨_, rfl, ?_⟩, ((Step.refl _ _).alloc _).alloc _⟩
    rw [HS.out]
    exact FIN.out [(i : Int) + 1] _ _ (blk_new2 _ _ _) (by simp)

set_option maxHeartbeats 1000000 in
theorem rone_any (B : Nat) (o : Opd) (cs : List Value) (w : World) (ho : OpAt w B o cs) :
    Calls Try.prog 61 #[.agg cs.toArray] w (AccPost B (opAcc o) w) := by
  obtain ⟨v, rfl, hr⟩ := ho
  have HR := Lib.hid hr
  obtain ⟨a, c, rfl, -⟩ := hr
  by_cases hk : o.kind = 2 ∨ o.kind = 3
  · have HO := Lib.hid (opAcc_yes hk)
    have HKB : Hid (IntKind.i64.wrap (o.kind - 1) = o.kind - 1) := IntWalk.i64_in _ (by omega)
    have FIN : Hid (∀ (X : World), Step (fun _ => False) w X → Row X B (.slice a o.pl.path.length c) o.pl.path.length (intsV o.pl.path)) := fun X hX => HR.out.step hX (fun _ _ h => h)
    rcases hk with hk | hk
    · have e1 : (o.kind == 2) = true := by simpa using hk
      have HK := Lib.hid hk
      obtain ⟨kd, hkd⟩ : ∃ kd, kd = o.kind := ⟨_, rfl⟩
      have HKD := Lib.hid hkd
      rw [← hkd] at hk
      rw [← hkd]
      subst hk
      clear e1 hkd
      go_enter Try.func61, Try.ntmps61
      go_wp2
      go_ret
      obtain ⟨xs, hx1, hx2⟩ := acRow (w := (w.alloc (.cells #[.int .i64 2, .int .i64 o.pl.loc, .slice a o.pl.path.length c, .int .i64 o.ty, .int .u64 o.n] 53)).alloc (.cells #[.int .i64 o.pl.loc, .slice a o.pl.path.length c, .int .i64 1] 90)) (a := ⟨o.pl, 1⟩) (FIN.out _ (((Step.refl _ _).alloc _).alloc _)) rfl (blk_new2 w _ _)
      exact ⟨⟨_, xs, rfl, by rw [HO.out, HK.out]; exact hx1, by rw [HO.out]; exact hx2⟩, ((Step.refl _ _).alloc _).alloc _⟩
    · have HK := Lib.hid hk
      obtain ⟨kd, hkd⟩ : ∃ kd, kd = o.kind := ⟨_, rfl⟩
      rw [← hkd] at hk
      rw [← hkd]
      subst hk
      clear hkd
      go_enter Try.func61, Try.ntmps61
      go_wp2
      go_ret
      obtain ⟨xs, hx1, hx2⟩ := acRow (w := (w.alloc (.cells #[.int .i64 3, .int .i64 o.pl.loc, .slice a o.pl.path.length c, .int .i64 o.ty, .int .u64 o.n] 53)).alloc (.cells #[.int .i64 o.pl.loc, .slice a o.pl.path.length c, .int .i64 2] 90)) (a := ⟨o.pl, 2⟩) (FIN.out _ (((Step.refl _ _).alloc _).alloc _)) rfl (blk_new2 w _ _)
      exact ⟨⟨_, xs, rfl, by rw [HO.out, HK.out]; exact hx1, by rw [HO.out]; exact hx2⟩, ((Step.refl _ _).alloc _).alloc _⟩
  · have HO := Lib.hid (opAcc_no hk)
    have e1 : (o.kind == 2) = false := by simpa using fun h => hk (.inl h)
    have e2 : (o.kind == 3) = false := by simpa using fun h => hk (.inr h)
    clear hk
    go_enter Try.func61, Try.ntmps61
    go_wp2
    go_ret
    exact ⟨⟨_, [], rfl, by rw [HO.out]; exact Each.nil, by rw [HO.out]; exact Row.nil _ _ _⟩, (Step.refl _ _).alloc _⟩

end Go.Proofs.Ytilipeigjkmldaa
