/- Contracts of package mir: right sides. -/
import Derived.Test.YtilipeigjkmldaaBodC
namespace Go.Proofs.Ytilipeigjkmldaa
open Go.RowKit

theorem Try.sizeOp : (Try.prog.info? 53).map (·.size) = some 5 := by kernel_rfl

set_option maxRecDepth 100000 in
set_option maxHeartbeats 1000000 in
theorem indexOps_any (kf : Nat) (caps : Array Value) (B : Nat) (p : Opd → Bool) (l : List Opd) (xs : List Value) (v : Value) (w : World) (hen : Enters' kf) (ho : Each (OpAt w B) l xs) (h : Row w B v l.length xs)
    (hc : ∀ o ∈ l, ∀ cs w', OpAt w' B o cs → Step (fun _ => False) w w' → Calls Try.prog kf (#[.agg cs.toArray] ++ caps) w' (IsBool (p o) w')) :
    Calls Try.prog 98 #[v, .func (.func kf) #[] caps] w fun e w' => e = .returned (.int .i64 (idxI p l)) ∧ Step (fun _ => False) w w' := by
  obtain ⟨a, c, rfl, hcl, hcm, -, hr⟩ := h
  have HR := Lib.hid hr
  have HC := Lib.hid hc
  have HO := Lib.hid ho
  unfold Enters' at hen
  clear hr hc ho
  go_enter Try.func98, Try.ntmps98
  go_wp2_with fail
  go_loopg [5, 8] l.length (fun gg _ s8 wr => ∃ i : Nat, s8 = .int .i64 i ∧ i ≤ l.length ∧ l.length - i ≤ gg ∧ (∀ j, j < i → ∀ y, l[j]? = some y → p y = false) ∧ Step (fun _ => False) w wr)
  case atStart => exact ⟨0, rfl, Nat.zero_le _, by omega, fun j hj => absurd hj (Nat.not_lt_zero _), Step.refl _ _⟩
  case round =>
    obtain ⟨i, rfl, hi, hgg, hno, hst⟩ := hrel
    have HNO := Lib.hid hno
    clear hno
    by_cases hlt : i < l.length
    · obtain ⟨x, hx⟩ : ∃ x, l[i]? = some x := ⟨l[i], List.getElem?_eq_getElem hlt⟩
      obtain ⟨g, o, rfl, -, -, hcell⟩ := HR.out (by omega)
      obtain ⟨cs, hat, f⟩ := Each.cells 5 OpAt.len (Each.mono (OpAt.step hst (fun _ _ h => h)) _ _ HO.out) hx (fun i x hx => hst.cell (hcell i x hx) (fun h => h))
      have HAT := Lib.hid hat
      have HX := Lib.hid hx
      obtain ⟨vv, rfl, -⟩ := hat
      have F := Lib.hid f
      clear hcell hx f
      go_wp2_with (refine wpList_load_whole rfl 53 (.tmp 14) rfl g (o + i * 5) rfl _ _ F.out Try.underlying53 rfl Try.sizeOp ?_)
      refine (HC.out x (List.mem_of_getElem? HX.out) _ _ HAT.out hst).mono ?_
      rintro e w1 ⟨rfl, h1⟩
      have hst1 := hst.trans h1
      clear F HAT
      cases hp : p x with
      | true =>
        have HI := Lib.hid (idxI_some HX.out hp HNO.out)
        clear hp
        go_wp2
        go_ret
        exact ⟨ret_int HI.out.symm, hst1⟩
      | false =>
        have HP := Lib.hid hp
        clear hp
        go_wp2
        go_roundg (gk - 1)
        case rel =>
          refine ⟨i + 1, by go_num, by omega, by omega, fun j hj y hy => ?_, hst1⟩
          rcases Nat.lt_succ_iff_lt_or_eq.1 hj with h | rfl
          · exact HNO.out j h y hy
          · rw [HX.out] at hy; cases hy; exact HP.out
        case measure => omega
    · have HI : Hid (idxI p l = -1) := idxI_none fun x hx => by
        obtain ⟨j, hj⟩ := List.getElem?_of_mem hx
        exact HNO.out j (by have := (List.getElem?_eq_some_iff.1 hj).1; omega) x hj
      go_wp2
      go_ret
      exact ⟨ret_int HI.out.symm, hst⟩

set_option maxHeartbeats 400000 in
theorem containsOps_any (kf : Nat) (caps : Array Value) (B : Nat) (p : Opd → Bool) (l : List Opd) (xs : List Value) (v : Value) (w : World) (hen : Enters' kf) (ho : Each (OpAt w B) l xs) (h : Row w B v l.length xs)
    (hc : ∀ o ∈ l, ∀ cs w', OpAt w' B o cs → Step (fun _ => False) w w' → Calls Try.prog kf (#[.agg cs.toArray] ++ caps) w' (IsBool (p o) w')) :
    Calls Try.prog 90 #[v, .func (.func kf) #[] caps] w (IsBool (l.any p) w) := by
  have HC := Lib.hid hc
  have HR := Lib.hid h
  have HO := Lib.hid ho
  have HE := Lib.hid (idxI_ge p l)
  clear hc ho h
  go_enter Try.func90, Try.ntmps90
  go_wp2_with fail
  refine (indexOps_any kf caps B p l xs v w hen HO.out HR.out HC.out).mono ?_
  rintro e w1 ⟨rfl, h1⟩
  go_wp2
  go_ret
  exact ⟨ret_bool HE.out, h1⟩

set_option maxHeartbeats 400000 in
theorem rightOne_any (B g bx : Nat) (b : Bod) (o : Opd) (cs : List Value) (w : World) (h : BodP w B g b) (hbx : w.cell? ⟨bx, 0, none⟩ = some (.pointer (some ⟨g, 0, none⟩))) (ho : OpAt w B o cs) :
    Calls Try.prog 91 #[.agg cs.toArray, .pointer (some ⟨bx, 0, none⟩)] w (IsBool (!opOk b.locals o) w) := by
  have HB := Lib.hid h
  have HO := Lib.hid ho
  obtain ⟨v, rfl, ⟨a, c, rfl, -⟩⟩ := ho
  have ST0 : Step (fun _ => False) w (w.alloc (.cells #[.int .i64 o.kind, .int .i64 o.pl.loc, .slice a o.pl.path.length c, .int .i64 o.ty, .int .u64 o.n] 53)) := (Step.refl _ _).alloc _
  have hne := World.block_lt_of_cell? w _ hbx
  clear h
  go_enter Try.func91, Try.ntmps91
  go_wp2_with fail
  refine (operand_any B g b o _ _ (HB.out.step ST0 (fun _ _ h => h)) (OpAt.step ST0 (fun _ _ h => h) _ _ HO.out)).mono ?_
  rintro e w1 ⟨rfl, h1⟩
  go_wp2
  go_ret
  exact ⟨rfl, ST0.trans h1⟩

theorem any_not {α : Type} (p : α → Bool) (l : List α) : (!(l.any fun x => !p x)) = l.all p := by
  induction l with
  | nil => rfl
  | cons x r ih => rw [List.any_cons, List.all_cons, ← ih, Bool.not_or, Bool.not_not]

end Go.Proofs.Ytilipeigjkmldaa
