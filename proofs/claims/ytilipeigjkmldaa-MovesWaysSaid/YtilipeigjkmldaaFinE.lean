/- finder.fact: the number of a place among the facts. -/
import Derived.Test.YtilipeigjkmldaaFinD
import Derived.Test.YtilipeigjkmldaaBodCk
namespace Go.Proofs.Ytilipeigjkmldaa
open Go.RowKit

theorem PlAt.len {w : World} {B : Nat} (p : Pl) (cs : List Value) (h : PlAt w B p cs) : cs.length = 2 := by
  obtain ⟨v, rfl, -⟩ := h; rfl

set_option maxRecDepth 100000 in
set_option maxHeartbeats 1000000 in
theorem indexPls_any (kf : Nat) (caps : Array Value) (B : Nat) (p : Pl → Bool) (l : List Pl) (xs : List Value) (v : Value) (w : World) (hen : Enters' kf) (ho : Each (PlAt w B) l xs) (h : Row w B v l.length xs)
    (hc : ∀ o ∈ l, ∀ cs w', PlAt w' B o cs → Step (fun _ => False) w w' → Calls Try.prog kf (#[.agg cs.toArray] ++ caps) w' (IsBool (p o) w')) :
    Calls Try.prog 93 #[v, .func (.func kf) #[] caps] w fun e w' => e = .returned (.int .i64 (idxI p l)) ∧ Step (fun _ => False) w w' := by
  obtain ⟨a, c, rfl, hcl, hcm, -, hr⟩ := h
  have HR := Lib.hid hr
  have HC := Lib.hid hc
  have HO := Lib.hid ho
  unfold Enters' at hen
  clear hr hc ho
  go_enter Try.func93, Try.ntmps93
  go_wp2_with fail
  go_loopg [5, 8] l.length (fun gg _ s8 wr => ∃ i : Nat, s8 = .int .i64 i ∧ i ≤ l.length ∧ l.length - i ≤ gg ∧ (∀ j, j < i → ∀ y, l[j]? = some y → p y = false) ∧ Step (fun _ => False) w wr)
  case atStart => exact ⟨0, rfl, Nat.zero_le _, by omega, fun j hj => absurd hj (Nat.not_lt_zero _), Step.refl _ _⟩
  case round =>
    obtain ⟨i, rfl, hi, hgg, hno, hst⟩ := hrel
    have HNO := Lib.hid hno
    clear hno
    by_cases hlt : i < l.length
    · obtain ⟨x, hx⟩ : ∃ x, l[i]? = some x := ⟨l[i], List.getElem?_eq_getElem hlt⟩
      obtain ⟨g, o, rfl, -, -, hcell⟩ := HR.out (by omega)
      obtain ⟨cs, hat, f⟩ := Each.cells 2 PlAt.len (Each.mono (PlAt.step hst (fun _ _ h => h)) _ _ HO.out) hx (fun i x hx => hst.cell (hcell i x hx) (fun h => h))
      have HAT := Lib.hid hat
      have HX := Lib.hid hx
      obtain ⟨vv, rfl, -⟩ := hat
      have F := Lib.hid f
      clear hcell hx f
      go_wp2_with (refine wpList_load_whole rfl 47 (.tmp 14) rfl g (o + i * 2) rfl _ _ F.out Try.underlying47 rfl Try.sizePlace ?_)
      refine (HC.out x (List.mem_of_getElem? HX.out) _ _ HAT.out hst).mono ?_
      rintro e w1 ⟨rfl, h1⟩
      have hst1 := hst.trans h1
      clear F HAT
      cases hp : p x with
      | true =>
        have HI := Lib.hid (idxI_some HX.out hp HNO.out)
        clear hp
        go_wp2
        go_ret
        exact ⟨ret_int HI.out.symm, hst1⟩
      | false =>
        have HP := Lib.hid hp
        clear hp
        go_wp2
        go_roundg (gk - 1)
        case rel =>
          refine ⟨i + 1, by go_num, by omega, by omega, fun j hj y hy => ?_, hst1⟩
          rcases Nat.lt_succ_iff_lt_or_eq.1 hj with h | rfl
          · exact HNO.out j h y hy
          · rw [HX.out] at hy; cases hy; exact HP.out
        case measure => omega
    · have HI : Hid (idxI p l = -1) := idxI_none fun x hx => by
        obtain ⟨j, hj⟩ := List.getElem?_of_mem hx
        exact HNO.out j (by have := (List.getElem?_eq_some_iff.1 hj).1; omega) x hj
      go_wp2
      go_ret
      exact ⟨ret_int HI.out.symm, hst⟩

set_option maxRecDepth 100000 in
theorem factOne_any (p q : Pl) (cq cp : List Value) (B bx : Nat) (w : World) (hp : PlAt w B p cp) (hq : PlAt w B q cq) (hbx : ∀ (i : Nat) x, cp[i]? = some x → w.cell? ⟨bx, i, none⟩ = some x) :
    Calls Try.prog 94 #[.agg cq.toArray, .pointer (some ⟨bx, 0, none⟩)] w (IsBool (sameF p q) w) := by
  have HP := Lib.hid hp
  have HQ := Lib.hid hq
  obtain ⟨v1, rfl, ⟨a1, c1, rfl, -⟩⟩ := hp
  obtain ⟨v2, rfl, ⟨a2, c2, rfl, -⟩⟩ := hq
  obtain ⟨r1, hr1⟩ : ∃ r, r = begF p q := ⟨_, rfl⟩
  obtain ⟨r2, hr2⟩ : ∃ r, r = begF q p := ⟨_, rfl⟩
  have HM : Hid (sameF p q = (r1 && r2)) := by show _ = _; unfold sameF; rw [hr1, hr2]
  have x0 := hbx 0 _ rfl
  have x1 := hbx 1 _ rfl
  have hne := World.block_lt_of_cell? w _ x0
  have HST : Hid (Step (fun _ => False) w (w.alloc (.cells #[.int .i64 q.loc, .slice a2 q.path.length c2] 47))) := (Step.refl _ _).alloc _
  have HB1 := Lib.hid (blk_new w (.cells #[.int .i64 q.loc, .slice a2 q.path.length c2] 47))
  have HX0 := Lib.hid x0
  have HX1 := Lib.hid x1
  have HC1 : Hid (∀ X, Step (fun _ => False) w X → Calls Try.prog 83 #[.agg #[.int .i64 p.loc, .slice a1 p.path.length c1], .agg #[.int .i64 q.loc, .slice a2 q.path.length c2]] X (IsBool r1 X)) := by
    show ∀ X, _
    intro X hX
    rw [hr1]
    exact begins_any p q [.int .i64 p.loc, .slice a1 p.path.length c1] [.int .i64 q.loc, .slice a2 q.path.length c2] B X (PlAt.step hX (fun _ _ h => h) _ _ HP.out) (PlAt.step hX (fun _ _ h => h) _ _ HQ.out)
  have HC2 : Hid (∀ X, Step (fun _ => False) w X → Calls Try.prog 83 #[.agg #[.int .i64 q.loc, .slice a2 q.path.length c2], .agg #[.int .i64 p.loc, .slice a1 p.path.length c1]] X (IsBool r2 X)) := by
    show ∀ X, _
    intro X hX
    rw [hr2]
    exact begins_any q p [.int .i64 q.loc, .slice a2 q.path.length c2] [.int .i64 p.loc, .slice a1 p.path.length c1] B X (PlAt.step hX (fun _ _ h => h) _ _ HQ.out) (PlAt.step hX (fun _ _ h => h) _ _ HP.out)
  clear hr1 hr2 hbx
  go_enter Try.func94, Try.ntmps94
  go_wp2_with fail
  refine (HC1.out _ HST.out).mono ?_
  rintro e w1 ⟨rfl, h1⟩
  have k1 := h1.keep HB1.out (fun h => h)
  have d0 := blk_cell k1 0 _ rfl
  have d1 := blk_cell k1 1 _ rfl
  have e0 := (HST.out.trans h1).cell HX0.out (fun h => h)
  have e1 := (HST.out.trans h1).cell HX1.out (fun h => h)
  clear k1
  cases r1 with
  | false =>
    go_wp2_with fail
    go_ret
    exact ⟨ret_bool HM.out.symm, HST.out.trans h1⟩
  | true =>
    go_wp2_with fail
    refine (HC2.out _ (HST.out.trans h1)).mono ?_
    rintro e w2 ⟨rfl, h2⟩
    go_wp2_with fail
    go_ret
    exact ⟨ret_bool HM.out.symm, (HST.out.trans h1).trans h2⟩

set_option maxRecDepth 100000 in
theorem fact_any (p : Pl) (cp : List Value) (l : List Pl) (xs : List Value) (v : Value) (g B : Nat) (w : World) (hp : PlAt w B p cp) (hc : w.cell? ⟨g, 1, none⟩ = some v) (ho : Each (PlAt w B) l xs) (hr : Row w B v l.length xs) :
    Calls Try.prog 81 #[.pointer (some ⟨g, 0, none⟩), .agg cp.toArray] w fun e w' => e = .returned (.int .i64 (idxI (sameF p) l)) ∧ Step (fun _ => False) w w' := by
  have HP := Lib.hid hp
  have HO := Lib.hid ho
  have HR := Lib.hid hr
  obtain ⟨v1, rfl, ⟨a1, c1, rfl, -⟩⟩ := hp
  obtain ⟨a, c, rfl, -⟩ := hr
  have hne := World.block_lt_of_cell? w _ hc
  have HST : Hid (Step (fun _ => False) w (w.alloc (.cells #[.int .i64 p.loc, .slice a1 p.path.length c1] 47))) := (Step.refl _ _).alloc _
  have HB1 := Lib.hid (blk_new w (.cells #[.int .i64 p.loc, .slice a1 p.path.length c1] 47))
  have hmf : ∀ (fn : Fn) (first cap : Array Value) (w : World), (Instr.makeFunc fn first cap).run Try.prog w = .ok (.func fn first cap) w := fun _ _ _ _ => rfl
  have HCC : Hid (Calls Try.prog 93 #[.slice a l.length c, .func (.func 94) #[] #[.pointer (some ⟨w.heap.size, 0, none⟩)]] (w.alloc (.cells #[.int .i64 p.loc, .slice a1 p.path.length c1] 47)) fun e w' => e = .returned (.int .i64 (idxI (sameF p) l)) ∧ Step (fun _ => False) (w.alloc (.cells #[.int .i64 p.loc, .slice a1 p.path.length c1] 47)) w') := by
    refine indexPls_any 94 #[.pointer (some ⟨w.heap.size, 0, none⟩)] B (sameF p) l xs _ _ (fun xs w => by go_simp) (Each.mono (PlAt.step HST.out (fun _ _ h => h)) _ _ HO.out) (HR.out.step HST.out (fun _ _ h => h)) ?_
    intro q _ cs X hq hX
    refine factOne_any p q cs [.int .i64 p.loc, .slice a1 p.path.length c1] B w.heap.size X (PlAt.step (HST.out.trans hX) (fun _ _ h => h) _ _ HP.out) hq ?_
    intro i x hx
    exact blk_cell (hX.keep HB1.out (fun h => h)) i x (by simpa using hx)
  go_enter Try.func81, Try.ntmps81
  go_wp2_with fail
  refine HCC.out.mono ?_
  rintro e w1 ⟨rfl, h1⟩
  go_wp2_with fail
  go_ret
  exact ⟨rfl, HST.out.trans h1⟩

end Go.Proofs.Ytilipeigjkmldaa
