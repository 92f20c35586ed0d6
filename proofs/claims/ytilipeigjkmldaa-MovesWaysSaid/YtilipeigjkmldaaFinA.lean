/- Places: which is another one, or has it in it; the small functions on slices of integers that they stand on. -/
import Derived.Test.YtilipeigjkmldaaBodJ
namespace Go.Proofs.Ytilipeigjkmldaa
open Go.RowKit

def IsB (b : Bool) (w : World) (e : Ending) (w' : World) : Prop := e = .returned (.bool b) ∧ w = w'
theorem drewN_add (w : World) (n m : Nat) : (w.drewN n).drewN m = w.drewN (n + m) := by simp [World.drewN, Nat.add_assoc]
/- It only reads, and draws at most. -/
def IsQ (b : Bool) (w : World) (e : Ending) (w' : World) : Prop := e = .returned (.bool b) ∧ ∃ n, w' = w.drewN n

set_option maxRecDepth 100000 in
theorem slEqual_any (l1 l2 : List Int) (v1 v2 : Value) (b1 b2 : Nat) (w : World) (h1 : Row w b1 v1 l1.length (intsV l1)) (h2 : Row w b2 v2 l2.length (intsV l2)) :
    Calls Try.prog 97 #[v1, v2] w (IsQ (decide (l1 = l2)) w) := by
  obtain ⟨a1, c1, rfl, hc1, hm1, -, hr1⟩ := h1
  obtain ⟨a2, c2, rfl, hc2, hm2, -, hr2⟩ := h2
  have H1 := Lib.hid hr1
  have H2 := Lib.hid hr2
  obtain ⟨r, hr⟩ : ∃ r, r = decide (l1 = l2) := ⟨_, rfl⟩
  have HR := Lib.hid hr
  rw [← hr]
  clear hr1 hr2 hr
  by_cases hlen : l1.length = l2.length
  · have HL := Lib.hid hlen
    rw [← hlen]
    have e1 : ((l1.length : Int) != (l1.length : Int)) = false := by simp
    go_enter Try.func97, Try.ntmps97
    go_wp2_with fail
    go_loopg [5, 13] l1.length (fun gg _ s13 wr => ∃ k : Nat, s13 = .int .i64 k ∧ k ≤ l1.length ∧ l1.length - k ≤ gg ∧ l1.take k = l2.take k ∧ ∃ n, wr = w.drewN n)
    case atStart => exact ⟨0, rfl, Nat.zero_le _, by omega, rfl, 0, rfl⟩
    case round =>
      obtain ⟨k, rfl, hk, hgg, heq, n, rfl⟩ := hrel
      have HEQ := Lib.hid heq
      clear heq
      by_cases hlt : k < l1.length
      · obtain ⟨x, hx⟩ : ∃ x, l1[k]? = some x := ⟨_, List.getElem?_eq_getElem hlt⟩
        obtain ⟨y, hy⟩ : ∃ y, l2[k]? = some y := ⟨_, List.getElem?_eq_getElem (by omega)⟩
        obtain ⟨g1, o1, rfl, -, -, hcell1⟩ := H1.out (by omega)
        obtain ⟨g2, o2, rfl, -, -, hcell2⟩ := H2.out (by omega)
        have f1 := hcell1 k _ (intsV_get l1 k x hx)
        have f2 := hcell2 k _ (intsV_get l2 k y hy)
        have HX := Lib.hid hx
        have HY := Lib.hid hy
        have hi0 : (0 : Int) ≤ (k : Int) := by omega
        have hi1 : (k : Int) < (l1.length : Int) := by omega
        clear hcell1 hcell2 hx hy
        by_cases e : x = y
        · have e2 : (x != y) = false := by simp [e]
          have HE := Lib.hid e
          clear e
          go_wp2
          go_quiet (fail)
          go_wp2
          go_roundg (gk - 1)
          case rel =>
            obtain ⟨h1, h2⟩ := List.getElem?_eq_some_iff.1 HX.out
            obtain ⟨h3, h4⟩ := List.getElem?_eq_some_iff.1 HY.out
            exact ⟨k + 1, by go_num, hlt, by rw [← Nat.sub_sub]; exact Nat.sub_le_sub_right hgg 1, by rw [List.take_succ_eq_append_getElem h1, List.take_succ_eq_append_getElem h3, HEQ.out, h2, h4, HE.out], _, rfl⟩
          case measure => omega
        · have e2 : (x != y) = true := by simpa using e
          have HF : Hid (r = false) := by
            show _ = _
            rw [HR.out]
            refine decide_eq_false (fun h => e ?_)
            have h1 := HX.out
            rw [h, HY.out] at h1
            cases h1; rfl
          clear e
          go_wp2
          go_quiet (fail)
          go_wp2
          go_ret
          exact ⟨ret_bool HF.out.symm, _, drewN_add _ _ _⟩
      · obtain rfl : k = l1.length := by omega
        have HF : Hid (r = true) := by
          show _ = _
          rw [HR.out]
          have h1 := HEQ.out
          rw [List.take_length, HL.out, List.take_length] at h1
          exact decide_eq_true h1
        go_wp2
        go_ret
        exact ⟨ret_bool HF.out.symm, _, rfl⟩
  · have e1 : ((l1.length : Int) != (l2.length : Int)) = true := by simpa using (by omega : ¬ (l1.length : Int) = l2.length)
    have HF : Hid (r = false) := by
      show _ = _
      rw [HR.out]
      exact decide_eq_false (fun h => hlen (by rw [h]))
    clear hlen
    go_enter Try.func97, Try.ntmps97
    go_wp2
    go_ret
    exact ⟨ret_bool HF.out.symm, 0, rfl⟩

set_option maxRecDepth 100000 in
theorem slIndex_any (l : List Int) (v : Value) (x : Int) (B : Nat) (w : World) (h : Row w B v l.length (intsV l)) :
    Calls Try.prog 95 #[v, .int .i64 x] w fun e w' => e = .returned (.int .i64 (idxI (fun y => x == y) l)) ∧ w = w' := by
  obtain ⟨a, c, rfl, hcl, hcm, -, hr⟩ := h
  have HR := Lib.hid hr
  clear hr
  go_enter Try.func95, Try.ntmps95
  go_wp2_with fail
  go_loopg [5, 8] l.length (fun gg _ s8 wr => ∃ i : Nat, s8 = .int .i64 i ∧ i ≤ l.length ∧ l.length - i ≤ gg ∧ (∀ j, j < i → ∀ y, l[j]? = some y → (x == y) = false) ∧ wr = w)
  case atStart => exact ⟨0, rfl, Nat.zero_le _, by omega, fun j hj => absurd hj (Nat.not_lt_zero _), rfl⟩
  case round =>
    obtain ⟨i, rfl, hi, hgg, hno, rfl⟩ := hrel
    have HNO := Lib.hid hno
    clear hno
    by_cases hlt : i < l.length
    · obtain ⟨y, hy⟩ : ∃ y, l[i]? = some y := ⟨_, List.getElem?_eq_getElem hlt⟩
      obtain ⟨g, o, rfl, -, -, hcell⟩ := HR.out (by omega)
      have f0 := hcell i _ (intsV_get l i y hy)
      have HY := Lib.hid hy
      have hi0 : (0 : Int) ≤ (i : Int) := by omega
      have hi1 : (i : Int) < (l.length : Int) := by omega
      clear hcell hy
      cases hp : (x == y) with
      | true =>
        have HI : Hid (idxI (fun y => x == y) l = i) := idxI_some HY.out hp HNO.out
        go_wp2
        go_ret
        exact ⟨ret_int HI.out.symm, rfl⟩
      | false =>
        have HP := Lib.hid hp
        go_wp2
        go_roundg (gk - 1)
        case rel =>
          refine ⟨i + 1, by go_num, by omega, by omega, fun j hj z hz => ?_, rfl⟩
          rcases Nat.lt_succ_iff_lt_or_eq.1 hj with h | rfl
          · exact HNO.out j h z hz
          · rw [HY.out] at hz; cases hz; exact HP.out
        case measure => omega
    · have HI : Hid (idxI (fun y => x == y) l = -1) := idxI_none fun z hz => by
        obtain ⟨j, hj⟩ := List.getElem?_of_mem hz
        exact HNO.out j (by have := (List.getElem?_eq_some_iff.1 hj).1; omega) z hj
      go_wp2
      go_ret
      exact ⟨ret_int HI.out.symm, rfl⟩

theorem slContains_any (l : List Int) (v : Value) (x : Int) (B : Nat) (w : World) (h : Row w B v l.length (intsV l)) :
    Calls Try.prog 92 #[v, .int .i64 x] w (IsB (l.any (fun y => x == y)) w) := by
  have HC := Lib.hid (slIndex_any l v x B w h)
  have HG := Lib.hid (idxI_ge (fun y => x == y) l)
  obtain ⟨a, c, rfl, -⟩ := h
  go_enter Try.func92, Try.ntmps92
  go_wp2_with fail
  refine HC.out.mono ?_
  rintro e w1 ⟨rfl, rfl⟩
  go_wp2
  go_ret
  exact ⟨ret_bool HG.out, rfl⟩

/- Is a place another one, or has it in it? -/
def begF (a b : Pl) : Bool := decide (a.loc = b.loc) && (decide (a.path.length ≤ b.path.length) && decide (a.path = b.path.take a.path.length))
def sameF (a b : Pl) : Bool := begF a b && begF b a
def dirF (a : Pl) : Bool := !(a.path.any (fun y => (-1 : Int) == y))
theorem sameF_iff {a b : Pl} : sameF a b = true ↔ a = b := by
  unfold sameF begF
  simp only [Bool.and_eq_true, decide_eq_true_eq]
  constructor
  · rintro ⟨⟨h1, h2, h3⟩, ⟨-, h4, -⟩⟩
    have : a.path = b.path := by rw [h3]; exact List.take_of_length_le h4
    obtain ⟨la, pa⟩ := a
    obtain ⟨lb, pb⟩ := b
    simp only at h1 this
    rw [h1, this]
  · rintro rfl
    exact ⟨⟨rfl, Nat.le_refl _, (List.take_length).symm⟩, ⟨rfl, Nat.le_refl _, (List.take_length).symm⟩⟩
theorem Row.take {w : World} {B : Nat} {l : List Int} {g o c n : Nat} {m : Nat} (h : Row w B (.slice (some ⟨g, o, none⟩) n c) n (intsV l)) (hn : n = l.length) (hm : m ≤ n) : Row w B (.slice (some ⟨g, o, none⟩) m c) m (intsV (l.take m)) := by
  obtain ⟨a, c', e, h1, h2, h3, h4⟩ := h
  cases e
  refine ⟨_, c, rfl, by omega, h2, (fun h => nomatch h), fun hm0 => ?_⟩
  obtain ⟨g', o', e2, h5, h6, h7⟩ := h4 (by omega)
  cases e2
  refine ⟨g, o, rfl, h5, h6, fun i x hx => h7 i x ?_⟩
  have hi : i < m := by
    have := (List.getElem?_eq_some_iff.1 hx).1
    simp [intsV] at this
    omega
  simp only [intsV, List.getElem?_map, List.getElem?_take, if_pos hi] at hx ⊢
  exact hx

theorem direct_any (p : Pl) (cs : List Value) (B : Nat) (w : World) (h : PlAt w B p cs) : Calls Try.prog 80 #[.agg cs.toArray] w (IsBool (dirF p) w) := by
  obtain ⟨v, rfl, hr⟩ := h
  have HR := Lib.hid hr
  obtain ⟨a, c, rfl, -⟩ := hr
  have HD : Hid (dirF p = !(p.path.any (fun y => (-1 : Int) == y))) := rfl
  have ST : Step (fun _ => False) w (w.alloc (.cells #[.int .i64 p.loc, .slice a p.path.length c] 47)) := (Step.refl _ _).alloc _
  have HC := Lib.hid (slContains_any p.path _ (-1) B _ (HR.out.step ST (fun _ _ h => h)))
  go_enter Try.func80, Try.ntmps80
  go_wp2_with fail
  refine HC.out.mono ?_
  rintro e w1 ⟨rfl, rfl⟩
  go_wp2
  go_ret
  exact ⟨ret_bool HD.out.symm, ST⟩

end Go.Proofs.Ytilipeigjkmldaa
