/- Contracts of package mir: what may be a place. -/
import Derived.Test.YtilipeigjkmldaaBodA
namespace Go.Proofs.Ytilipeigjkmldaa
open Go.RowKit

def Enters' (k : Nat) : Prop := ∀ (xs : Array Value) (w : World), Sem.run Try.prog (callFunc k xs) w = .ok (.enter k xs) w
def locOk (n : Nat) (i : Int) : Bool := decide (0 ≤ i) && decide (i < n)

set_option maxHeartbeats 400000 in
theorem local_any (B g : Nat) (b : Bod) (n : Int) (w : World) (h : BodP w B g b) :
    Calls Try.prog 71 #[.pointer (some ⟨g, 0, none⟩), .int .i64 n] w fun e w' => e = .returned (.bool (locOk b.locals n)) ∧ w = w' := by
  obtain ⟨-, hg, cs, ⟨vl, vc, xl, xs, rfl, ⟨a, c, rfl, -⟩, -, -⟩, f⟩ := h
  have f2 := f 2 _ rfl
  clear f
  unfold locOk
  by_cases h0 : 0 ≤ n
  · by_cases h1 : n < b.locals
    · have e0 := dec_lt h1
      have e1 : decide (0 ≤ n) = true := decide_eq_true h0
      rw [e0, e1]
      go_enter Try.func71, Try.ntmps71
      go_wp2
      go_ret
      exact ⟨rfl, rfl⟩
    · have e0 : decide (n < (b.locals : Int)) = false := decide_eq_false h1
      have e1 : decide (0 ≤ n) = true := decide_eq_true h0
      rw [e0, e1]
      go_enter Try.func71, Try.ntmps71
      go_wp2
      go_ret
      exact ⟨rfl, rfl⟩
  · have e1 : decide (0 ≤ n) = false := decide_eq_false h0
    rw [e1]
    go_enter Try.func71, Try.ntmps71
    go_wp2
    go_ret
    exact ⟨rfl, rfl⟩

theorem deep_any (n : Int) (w : World) : Calls Try.prog 88 #[.int .i64 n] w fun e w' => e = .returned (.bool (decide (n < -1))) ∧ w = w' := by
  go_enter Try.func88, Try.ntmps88
  go_wp2
  go_ret
  exact ⟨rfl, rfl⟩

def idxI {α : Type} (p : α → Bool) (l : List α) : Int := match l.findIdx? p with | some i => i | none => -1
theorem idxI_none {α : Type} {p : α → Bool} {l : List α} (h : ∀ x ∈ l, p x = false) : idxI p l = -1 := by
  unfold idxI; rw [List.findIdx?_eq_none_iff.2 h]
theorem idxI_some {α : Type} {p : α → Bool} {l : List α} {i : Nat} {x : α} (hx : l[i]? = some x) (hp : p x = true) (h : ∀ j, j < i → ∀ y, l[j]? = some y → p y = false) : idxI p l = i := by
  obtain ⟨hi, rfl⟩ := List.getElem?_eq_some_iff.1 hx
  unfold idxI
  rw [(List.findIdx?_eq_some_iff_getElem (p := p) (i := i)).2 ⟨hi, hp, fun j hj => by have := h j hj _ (List.getElem?_eq_getElem (by omega)); simp [this]⟩]

set_option maxHeartbeats 1000000 in
theorem index_any (kf : Nat) (caps : Array Value) (B : Nat) (p : Int → Bool) (l : List Int) (v : Value) (w : World) (hen : Enters' kf) (h : Row w B v l.length (intsV l))
    (hc : ∀ x ∈ l, ∀ w', Step (fun _ => False) w w' → Calls Try.prog kf (#[.int .i64 x] ++ caps) w' (IsBool (p x) w')) :
    Calls Try.prog 75 #[v, .func (.func kf) #[] caps] w fun e w' => e = .returned (.int .i64 (idxI p l)) ∧ Step (fun _ => False) w w' := by
  obtain ⟨a, c, rfl, hcl, hcm, -, hr⟩ := h
  have HR := Lib.hid hr
  have HC := Lib.hid hc
  unfold Enters' at hen
  clear hr hc
  go_enter Try.func75, Try.ntmps75
  go_wp2_with fail
  go_loopg [5, 8] l.length (fun gg _ s8 wr => ∃ i : Nat, s8 = .int .i64 i ∧ i ≤ l.length ∧ l.length - i ≤ gg ∧ (∀ j, j < i → ∀ y, l[j]? = some y → p y = false) ∧ Step (fun _ => False) w wr)
  case atStart => exact ⟨0, rfl, Nat.zero_le _, by omega, fun j hj => absurd hj (Nat.not_lt_zero _), Step.refl _ _⟩
  case round =>
    obtain ⟨i, rfl, hi, hgg, hno, hst⟩ := hrel
    have HNO := Lib.hid hno
    clear hno
    by_cases hlt : i < l.length
    · obtain ⟨x, hx⟩ : ∃ x, l[i]? = some x := ⟨l[i], List.getElem?_eq_getElem hlt⟩
      obtain ⟨g, o, rfl, -, -, hcell⟩ := HR.out (by omega)
      have f0 := hst.cell (hcell i _ (intsV_get l i x hx)) (fun h => h)
      have HX := Lib.hid hx
      clear hcell hx
      go_wp2_with fail
      refine (HC.out x (List.mem_of_getElem? HX.out) _ hst).mono ?_
      rintro e w1 ⟨rfl, h1⟩
      have hst1 := hst.trans h1
      clear f0
      cases hp : p x with
      | true =>
        have HI := Lib.hid (idxI_some HX.out hp HNO.out)
        clear hp
        go_wp2
        go_ret
        exact ⟨ret_int HI.out.symm, hst1⟩
      | false =>
        have HP := Lib.hid hp
        clear hp
        go_wp2
        go_roundg (gk - 1)
        case rel =>
          refine ⟨i + 1, by go_num, by omega, by omega, fun j hj y hy => ?_, hst1⟩
          rcases Nat.lt_succ_iff_lt_or_eq.1 hj with h | rfl
          · exact HNO.out j h y hy
          · rw [HX.out] at hy; cases hy; exact HP.out
        case measure => omega
    · have HI : Hid (idxI p l = -1) := idxI_none fun x hx => by
        obtain ⟨j, hj⟩ := List.getElem?_of_mem hx
        exact HNO.out j (by have := (List.getElem?_eq_some_iff.1 hj).1; omega) x hj
      go_wp2
      go_ret
      exact ⟨ret_int HI.out.symm, hst⟩

theorem idxI_ge {α : Type} (p : α → Bool) (l : List α) : decide (0 ≤ idxI p l) = l.any p := by
  unfold idxI
  cases h : l.findIdx? p with
  | none =>
    have := List.findIdx?_eq_none_iff.1 h
    have h2 : l.any p = false := by rw [List.any_eq_false]; intro x hx; simp [this x hx]
    rw [h2]; rfl
  | some i =>
    obtain ⟨hi, hp, _⟩ := List.findIdx?_eq_some_iff_getElem.1 h
    have h2 : l.any p = true := List.any_eq_true.2 ⟨l[i], List.getElem_mem hi, hp⟩
    rw [h2]; simp

set_option maxHeartbeats 400000 in
theorem contains_any (kf : Nat) (caps : Array Value) (B : Nat) (p : Int → Bool) (l : List Int) (v : Value) (w : World) (hen : Enters' kf) (h : Row w B v l.length (intsV l))
    (hc : ∀ x ∈ l, ∀ w', Step (fun _ => False) w w' → Calls Try.prog kf (#[.int .i64 x] ++ caps) w' (IsBool (p x) w')) :
    Calls Try.prog 53 #[v, .func (.func kf) #[] caps] w (IsBool (l.any p) w) := by
  have HC := Lib.hid hc
  have HR := Lib.hid h
  have HE := Lib.hid (idxI_ge p l)
  clear hc
  go_enter Try.func53, Try.ntmps53
  go_wp2_with fail
  refine (index_any kf caps B p l v w hen HR.out HC.out).mono ?_
  rintro e w1 ⟨rfl, h1⟩
  go_wp2
  go_ret
  exact ⟨ret_bool HE.out, h1⟩

theorem any_deep (l : List Int) : (!(l.any fun x => decide (x < -1))) = l.all fun x => decide (-1 ≤ x) := by
  induction l with
  | nil => rfl
  | cons x r ih => 
    rw [List.any_cons, List.all_cons, ← ih, Bool.not_or]
    congr 1
    rw [← decide_not]
    exact decide_eq_decide.2 (by omega)

set_option maxHeartbeats 400000 in
theorem place_any (B g : Nat) (b : Bod) (q : Pl) (cs : List Value) (w : World) (h : BodP w B g b) (hq : PlAt w B q cs) :
    Calls Try.prog 72 #[.pointer (some ⟨g, 0, none⟩), .agg cs.toArray] w (IsBool (plOk b.locals q) w) := by
  obtain ⟨v, rfl, hr⟩ := hq
  have HB := Lib.hid h
  have HR := Lib.hid hr
  have HP : Hid (plOk b.locals q = (locOk b.locals q.loc && !(q.path.any fun x => decide (x < -1)))) := by show _ = _; rw [any_deep]; rfl
  obtain ⟨a, c, rfl, -⟩ := hr
  have hen : Enters' 88 := fun xs w => by go_simp
  have ST0 : Step (fun _ => False) w (w.alloc (.cells #[.int .i64 q.loc, .slice a q.path.length c] 47)) := (Step.refl _ _).alloc _
  have HEN := Lib.hid hen
  clear h hen
  go_enter Try.func72, Try.ntmps72
  go_wp2_with fail
  refine (local_any B g b q.loc _ (HB.out.step ST0 (fun _ _ h => h))).mono ?_
  rintro e w1 ⟨rfl, rfl⟩
  cases hb : locOk b.locals q.loc with
  | false =>
    have HLB := Lib.hid hb
    clear hb
    go_wp2
    go_ret
    exact ⟨ret_bool (by rw [HP.out, HLB.out]; rfl), ST0⟩
  | true =>
    have HLB := Lib.hid hb
    clear hb
    go_wp2_with fail
    refine (contains_any 88 #[] B (fun x => decide (x < -1)) q.path _ _ HEN.out (HR.out.step ST0 (fun _ _ h => h)) (fun x _ w' _ => (deep_any x w').mono fun e w2 h => ⟨h.1, h.2 ▸ Step.refl _ _⟩)).mono ?_
    rintro e w2 ⟨rfl, h2⟩
    go_wp2
    go_ret
    exact ⟨ret_bool (by rw [HP.out, HLB.out]; rfl), ST0.trans h2⟩

end Go.Proofs.Ytilipeigjkmldaa
