/- Contracts of package mir: what may be a place. / Contracts of package mir: operands, right sides, instructions; where an instruction goes on. / Contracts of package mir: right sides. / Contracts of package mir: right sides, instructions. / Contracts of package mir: instructions; Check. / Contracts of package mir: Check. -/
import Derived.Test.YtilipeigjkmldaaBodA
import Derived.Test.YtilipeigjkmldaaCoreA
import Derived.Deep.DeepCutAuto
namespace Go.Proofs.Ytilipeigjkmldaa
open Go.RowKit

def Enters' (k : Nat) : Prop := ∀ (xs : Array Value) (w : World), Sem.run Try.prog (callFunc k xs) w = .ok (.enter k xs) w
def locOk (n : Nat) (i : Int) : Bool := decide (0 ≤ i) && decide (i < n)

set_option maxHeartbeats 400000 in
theorem local_any (B g : Nat) (b : Bod) (n : Int) (w : World) (h : BodP w B g b) :
    Calls Try.prog 71 #[.pointer (some ⟨g, 0, none⟩), .int .i64 n] w fun e w' => e = .returned (.bool (locOk b.locals n)) ∧ w = w' := by
  obtain ⟨-, hg, cs, ⟨vl, vc, xl, xs, rfl, ⟨a, c, rfl, -⟩, -, -⟩, f⟩ := h
  have f2 := f 2 _ rfl
  clear f
  unfold locOk
  by_cases h0 : 0 ≤ n
  · by_cases h1 : n < b.locals
    · have e0 := dec_lt h1
      have e1 : decide (0 ≤ n) = true := decide_eq_true h0
      rw [e0, e1]
      go_enter Try.func71, Try.ntmps71
      go_wp2
      go_ret
      exact ⟨rfl, rfl⟩
    · have e0 : decide (n < (b.locals : Int)) = false := decide_eq_false h1
      have e1 : decide (0 ≤ n) = true := decide_eq_true h0
      rw [e0, e1]
      go_enter Try.func71, Try.ntmps71
      go_wp2
      go_ret
      exact ⟨rfl, rfl⟩
  · have e1 : decide (0 ≤ n) = false := decide_eq_false h0
    rw [e1]
    go_enter Try.func71, Try.ntmps71
    go_wp2
    go_ret
    exact ⟨rfl, rfl⟩

theorem deep_any (n : Int) (w : World) : Calls Try.prog 88 #[.int .i64 n] w fun e w' => e = .returned (.bool (decide (n < -1))) ∧ w = w' := by
  go_enter Try.func88, Try.ntmps88
  go_wp2
  go_ret
  exact ⟨rfl, rfl⟩

def idxI {α : Type} (p : α → Bool) (l : List α) : Int := match l.findIdx? p with | some i => i | none => -1
theorem idxI_none {α : Type} {p : α → Bool} {l : List α} (h : ∀ x ∈ l, p x = false) : idxI p l = -1 := by
  unfold idxI; rw [List.findIdx?_eq_none_iff.2 h]
theorem idxI_some {α : Type} {p : α → Bool} {l : List α} {i : Nat} {x : α} (hx : l[i]? = some x) (hp : p x = true) (h : ∀ j, j < i → ∀ y, l[j]? = some y → p y = false) : idxI p l = i := by
  obtain ⟨hi, rfl⟩ := List.getElem?_eq_some_iff.1 hx
  unfold idxI
  rw [(List.findIdx?_eq_some_iff_getElem (p := p) (i := i)).2 ⟨hi, hp, fun j hj => by have := h j hj _ (List.getElem?_eq_getElem (by omega)); simp [this]⟩]

set_option maxHeartbeats 1000000 in
theorem index_any (kf : Nat) (caps : Array Value) (B : Nat) (p : Int → Bool) (l : List Int) (v : Value) (w : World) (hen : Enters' kf) (h : Row w B v l.length (intsV l))
    (hc : ∀ x ∈ l, ∀ w', Step (fun _ => False) w w' → Calls Try.prog kf (#[.int .i64 x] ++ caps) w' (IsBool (p x) w')) :
    Calls Try.prog 75 #[v, .func (.func kf) #[] caps] w fun e w' => e = .returned (.int .i64 (idxI p l)) ∧ Step (fun _ => False) w w' := by
  obtain ⟨a, c, rfl, hcl, hcm, -, hr⟩ := h
  have HR := Lib.hid hr
  have HC := Lib.hid hc
  unfold Enters' at hen
  clear hr hc
  go_enter Try.func75, Try.ntmps75
  go_wp2_with fail
  go_loopg [5, 8] l.length (fun gg _ s8 wr => ∃ i : Nat, s8 = .int .i64 i ∧ i ≤ l.length ∧ l.length - i ≤ gg ∧ (∀ j, j < i → ∀ y, l[j]? = some y → p y = false) ∧ Step (fun _ => False) w wr)
  case atStart => exact ⟨0, rfl, Nat.zero_le _, by omega, fun j hj => absurd hj (Nat.not_lt_zero _), Step.refl _ _⟩
  case round =>
    obtain ⟨i, rfl, hi, hgg, hno, hst⟩ := hrel
    have HNO := Lib.hid hno
    clear hno
    by_cases hlt : i < l.length
    · obtain ⟨x, hx⟩ : ∃ x, l[i]? = some x := ⟨l[i], List.getElem?_eq_getElem hlt⟩
      obtain ⟨g, o, rfl, -, -, hcell⟩ := HR.out (by omega)
      have f0 := hst.cell (hcell i _ (intsV_get l i x hx)) (fun h => h)
      have HX := Lib.hid hx
      clear hcell hx
      go_wp2_with fail
      refine (HC.out x (List.mem_of_getElem? HX.out) _ hst).mono ?_
      rintro e w1 ⟨rfl, h1⟩
      have hst1 := hst.trans h1
      clear f0
      cases hp : p x with
      | true =>
        have HI := Lib.hid (idxI_some HX.out hp HNO.out)
        clear hp
        go_wp2
        go_ret
        exact ⟨ret_int HI.out.symm, hst1⟩
      | false =>
        have HP := Lib.hid hp
        clear hp
        go_wp2
        go_roundg (gk - 1)
        case rel =>
          refine ⟨i + 1, by go_num, by omega, by omega, fun j hj y hy => ?_, hst1⟩
          rcases Nat.lt_succ_iff_lt_or_eq.1 hj with h | rfl
          · exact HNO.out j h y hy
          · rw [HX.out] at hy; cases hy; exact HP.out
        case measure => omega
    · have HI : Hid (idxI p l = -1) := idxI_none fun x hx => by
        obtain ⟨j, hj⟩ := List.getElem?_of_mem hx
        exact HNO.out j (by have := (List.getElem?_eq_some_iff.1 hj).1; omega) x hj
      go_wp2
      go_ret
      exact ⟨ret_int HI.out.symm, hst⟩

theorem idxI_ge {α : Type} (p : α → Bool) (l : List α) : decide (0 ≤ idxI p l) = l.any p := by
  unfold idxI
  cases h : l.findIdx? p with
  | none =>
    have := List.findIdx?_eq_none_iff.1 h
    have h2 : l.any p = false := by rw [List.any_eq_false]; intro x hx; simp [this x hx]
    rw [h2]; rfl
  | some i =>
    obtain ⟨hi, hp, _⟩ := List.findIdx?_eq_some_iff_getElem.1 h
    have h2 : l.any p = true := List.any_eq_true.2 ⟨l[i], List.getElem_mem hi, hp⟩
    rw [h2]; simp

set_option maxHeartbeats 400000 in
theorem contains_any (kf : Nat) (caps : Array Value) (B : Nat) (p : Int → Bool) (l : List Int) (v : Value) (w : World) (hen : Enters' kf) (h : Row w B v l.length (intsV l))
    (hc : ∀ x ∈ l, ∀ w', Step (fun _ => False) w w' → Calls Try.prog kf (#[.int .i64 x] ++ caps) w' (IsBool (p x) w')) :
    Calls Try.prog 53 #[v, .func (.func kf) #[] caps] w (IsBool (l.any p) w) := by
  have HC := Lib.hid hc
  have HR := Lib.hid h
  have HE := Lib.hid (idxI_ge p l)
  clear hc
  go_enter Try.func53, Try.ntmps53
  go_wp2_with fail
  refine (index_any kf caps B p l v w hen HR.out HC.out).mono ?_
  rintro e w1 ⟨rfl, h1⟩
  go_wp2
  go_ret
  exact ⟨ret_bool HE.out, h1⟩

theorem any_deep (l : List Int) : (!(l.any fun x => decide (x < -1))) = l.all fun x => decide (-1 ≤ x) := by
  induction l with
  | nil => rfl
  | cons x r ih => 
    rw [List.any_cons, List.all_cons, ← ih, Bool.not_or]
    congr 1
    rw [← decide_not]
    exact decide_eq_decide.2 (by omega)

set_option maxHeartbeats 400000 in
theorem place_any (B g : Nat) (b : Bod) (q : Pl) (cs : List Value) (w : World) (h : BodP w B g b) (hq : PlAt w B q cs) :
    Calls Try.prog 72 #[.pointer (some ⟨g, 0, none⟩), .agg cs.toArray] w (IsBool (plOk b.locals q) w) := by
  obtain ⟨v, rfl, hr⟩ := hq
  have HB := Lib.hid h
  have HR := Lib.hid hr
  have HP : Hid (plOk b.locals q = (locOk b.locals q.loc && !(q.path.any fun x => decide (x < -1)))) := by show _ = _; rw [any_deep]; rfl
  obtain ⟨a, c, rfl, -⟩ := hr
  have hen : Enters' 88 := fun xs w => by go_simp
  have ST0 : Step (fun _ => False) w (w.alloc (.cells #[.int .i64 q.loc, .slice a q.path.length c] 47)) := (Step.refl _ _).alloc _
  have HEN := Lib.hid hen
  clear h hen
  go_enter Try.func72, Try.ntmps72
  go_wp2_with fail
  refine (local_any B g b q.loc _ (HB.out.step ST0 (fun _ _ h => h))).mono ?_
  rintro e w1 ⟨rfl, rfl⟩
  cases hb : locOk b.locals q.loc with
  | false =>
    have HLB := Lib.hid hb
    clear hb
    go_wp2
    go_ret
    exact ⟨ret_bool (by rw [HP.out, HLB.out]; rfl), ST0⟩
  | true =>
    have HLB := Lib.hid hb
    clear hb
    go_wp2_with fail
    refine (contains_any 88 #[] B (fun x => decide (x < -1)) q.path _ _ HEN.out (HR.out.step ST0 (fun _ _ h => h)) (fun x _ w' _ => (deep_any x w').mono fun e w2 h => ⟨h.1, h.2 ▸ Step.refl _ _⟩)).mono ?_
    rintro e w2 ⟨rfl, h2⟩
    go_wp2
    go_ret
    exact ⟨ret_bool (by rw [HP.out, HLB.out]; rfl), ST0.trans h2⟩

end Go.Proofs.Ytilipeigjkmldaa

namespace Go.Proofs.Ytilipeigjkmldaa
open Go.RowKit

/- What a pointer to a body gives. -/
theorem BodP.parts {w : World} {B g : Nat} {b : Bod} (h : BodP w B g b) : w.cell? ⟨g, 1, none⟩ = some (.int .i64 b.params) ∧ (∃ a c, w.cell? ⟨g, 2, none⟩ = some (.slice a b.locals c)) ∧
    ∃ a c, w.cell? ⟨g, 3, none⟩ = some (.slice a b.code.length c) ∧ b.code.length ≤ c ∧ c ≤ 9223372036854775807 ∧ (0 < b.code.length → ∃ g' o', a = some ⟨g', o', none⟩ ∧
      ∀ i x, b.code[i]? = some x → ∃ cs, InAt w B x cs ∧ ∀ (j : Nat) y, cs[j]? = some y → w.cell? ⟨g', o' + i * 21 + j, none⟩ = some y) := by
  obtain ⟨-, -, cs, ⟨vl, vc, xl, xs, rfl, ⟨a, c, rfl, -⟩, hx, ⟨a2, c2, rfl, h1, h2, -, h3⟩⟩, f⟩ := h
  refine ⟨f 1 _ rfl, ⟨a, c, f 2 _ rfl⟩, a2, c2, f 3 _ rfl, h1, h2, fun hn => ?_⟩
  obtain ⟨g', o', rfl, -, -, hc⟩ := h3 hn
  exact ⟨g', o', rfl, fun i x hx' => Each.cells 21 InAt.len hx hx' hc⟩

set_option maxHeartbeats 400000 in
theorem operand_any (B g : Nat) (b : Bod) (o : Opd) (cs : List Value) (w : World) (h : BodP w B g b) (ho : OpAt w B o cs) :
    Calls Try.prog 74 #[.pointer (some ⟨g, 0, none⟩), .agg cs.toArray] w (IsBool (opOk b.locals o) w) := by
  obtain ⟨v, rfl, hr⟩ := ho
  have HB := Lib.hid h
  have HR := Lib.hid hr
  obtain ⟨a, c, rfl, -⟩ := hr
  obtain ⟨kind, ⟨loc, path⟩, ty, n⟩ := o
  simp only at HR ⊢
  have ST0 : Step (fun _ => False) w (w.alloc (.cells #[.int .i64 kind, .int .i64 loc, .slice a path.length c, .int .i64 ty, .int .u64 n] 53)) := (Step.refl _ _).alloc _
  clear h
  by_cases h1 : kind = 1
  · have HP : Hid (opOk b.locals ⟨kind, ⟨loc, path⟩, ty, n⟩ = (decide (1 ≤ ty) && decide (ty ≤ 4))) := by show _ = _; unfold opOk; rw [if_pos h1]
    subst h1
    by_cases h2 : 1 ≤ ty
    · by_cases h3 : ty ≤ 4
      · go_enter Try.func74, Try.ntmps74
        go_wp2
        go_ret
        exact ⟨ret_bool (by rw [HP.out]; simp [h2, h3]), ST0⟩
      · go_enter Try.func74, Try.ntmps74
        go_wp2
        go_ret
        exact ⟨ret_bool (by rw [HP.out, decide_eq_false (show ¬ ty ≤ 4 by omega), Bool.and_false]), ST0⟩
    · go_enter Try.func74, Try.ntmps74
      go_wp2
      go_ret
      exact ⟨ret_bool (by rw [HP.out, decide_eq_false (show ¬ 1 ≤ ty by omega), Bool.false_and]), ST0⟩
  · by_cases h2 : kind = 2
    · have HP : Hid (opOk b.locals ⟨kind, ⟨loc, path⟩, ty, n⟩ = plOk b.locals ⟨loc, path⟩) := by show _ = _; unfold opOk; rw [if_neg h1, if_pos (.inl h2)]
      subst h2
      clear h1
      go_enter Try.func74, Try.ntmps74
      go_wp2_with fail
      refine (place_any B g b ⟨loc, path⟩ _ _ (HB.out.step ST0 (fun _ _ h => h)) ⟨_, rfl, HR.out.step ST0 (fun _ _ h => h)⟩).mono ?_
      rintro e w1 ⟨rfl, hw1⟩
      go_wp2
      go_ret
      exact ⟨ret_bool (by rw [HP.out]), ST0.trans hw1⟩
    · by_cases h3 : kind = 3
      · have HP : Hid (opOk b.locals ⟨kind, ⟨loc, path⟩, ty, n⟩ = plOk b.locals ⟨loc, path⟩) := by show _ = _; unfold opOk; rw [if_neg h1, if_pos (.inr h3)]
        subst h3
        clear h1 h2
        go_enter Try.func74, Try.ntmps74
        go_wp2_with fail
        refine (place_any B g b ⟨loc, path⟩ _ _ (HB.out.step ST0 (fun _ _ h => h)) ⟨_, rfl, HR.out.step ST0 (fun _ _ h => h)⟩).mono ?_
        rintro e w1 ⟨rfl, hw1⟩
        go_wp2
        go_ret
        exact ⟨ret_bool (by rw [HP.out]), ST0.trans hw1⟩
      · have HP : Hid (opOk b.locals ⟨kind, ⟨loc, path⟩, ty, n⟩ = false) := by show _ = _; unfold opOk; rw [if_neg h1, if_neg (by rintro (h | h) <;> contradiction)]
        go_enter Try.func74, Try.ntmps74
        go_wp2
        go_ret
        exact ⟨ret_bool (by rw [HP.out]), ST0⟩

set_option maxHeartbeats 1000000 in
theorem count_any (k : Int) (w : World) : Calls Try.prog 89 #[.int .i64 k] w fun e w' => e = .returned (.int .i64 (cntF k)) ∧ w = w' := by
  have HC : Hid (cntF k = if k = 2 ∨ k = 10 then 0 else if k = 1 ∨ k = 4 ∨ k = 5 ∨ k = 6 ∨ k = 11 then 1 else if k = 3 then 2 else if k = 7 ∨ k = 8 ∨ k = 9 then -1 else -2) := rfl
  go_enter Try.func89, Try.ntmps89
  go_wp2
  all_goals go_ret
  all_goals refine ⟨ret_int ?_, rfl⟩
  all_goals rw [HC.out]
  all_goals simp_all

theorem Try.sizeIns : (Try.prog.info? 57).map (·.size) = some 21 := by kernel_rfl

set_option maxRecDepth 100000 in
set_option maxHeartbeats 1000000 in
theorem succ_any (B g : Nat) (b : Bod) (i : Nat) (x : Ins) (w : World) (h : BodP w B g b) (hx : b.code[i]? = some x) :
    Calls Try.prog 54 #[.pointer (some ⟨g, 0, none⟩), .int .i64 i] w fun e w' => (∃ v, e = .returned v ∧ Row w' w'.heap.size v (succI x i).length (intsV (succI x i))) ∧ Step (fun _ => False) w w' := by
  have hi := (List.getElem?_eq_some_iff.1 hx).1
  obtain ⟨-, -, a, c, b3, hc1, hc2, hcode⟩ := h.parts
  obtain ⟨g', o', rfl, hcode2⟩ := hcode (by omega)
  obtain ⟨cs, hat, f⟩ := hcode2 i x hx
  clear hcode hcode2 h hx
  have HONE := Lib.hid (InAt.one _ _ hat)
  obtain ⟨vd, va, vp, vt, vc, xa, rfl, -, -, -, -, -, -⟩ := hat
  have F := Lib.hid f
  clear f
  obtain ⟨kind, loc, dest, rkind, args, rpl, mu, rname, rn, cond, tgt, els, line, col⟩ := x
  simp only at F HONE
  have HS : Hid (succI ⟨kind, loc, dest, rkind, args, rpl, mu, rname, rn, cond, tgt, els, line, col⟩ i = if kind = 4 then [tgt] else if kind = 5 then (if tgt = els then [tgt] else [tgt, els]) else if kind = 6 ∨ kind = 7 then [] else [(i : Int) + 1]) := rfl
  have FIN : Hid (∀ (l : List Int) (W : World) (n : Nat), W.heap[n]? = some (.cells (intsV l).toArray 3 (0, 0)) → l.length ≤ 2 → Row W W.heap.size (.slice (some ⟨n, 0, none⟩) l.length l.length) l.length (intsV l)) :=
    fun l W n hn hl => (Row.new hn (by omega)).mono (blk_lt hn)
  have e0 : decide ((i : Int) < 0) = false := decide_eq_false (by omega)
  have e1 : decide (b.code.length ≤ i) = false := decide_eq_false (by omega)
  go_enter Try.func54, Try.ntmps54
  go_upto_region 5 with (first
      | (refine wpList_load_whole rfl 57 (.tmp 26) rfl g' (o' + i * 21) rfl _ _ F.out Try.underlying57 rfl Try.sizeIns ?_)
      | (refine wpList_store_new rfl 57 (.tmp 5) (.tmp 27) rfl _ _ rfl rfl Try.sizeIns rfl HONE.out ?_))
  clear F HONE
  by_cases h4 : kind = 4
  · rw [if_pos h4] at HS
    subst h4
    as_aux_lemma =>
      go_wp2
      go_ret
      refine ⟨⟨_, rfl, ?_⟩, ((Step.refl _ _).alloc _).alloc _⟩
      rw [HS.out]
      exact FIN.out [tgt] _ _ (blk_new2 _ _ _) (by simp)
  · by_cases h5 : kind = 5
    · rw [if_neg h4, if_pos h5] at HS
      subst h5
      clear h4
      by_cases he : tgt = els
      · rw [if_pos he] at HS
        subst he
        as_aux_lemma =>
          go_wp2
          go_ret
          refine ⟨⟨_, rfl, ?_⟩, ((Step.refl _ _).alloc _).alloc _⟩
          rw [HS.out]
          exact FIN.out [tgt] _ _ (blk_new2 _ _ _) (by simp)
      · rw [if_neg he] at HS
        have he2 : (tgt == els) = false := by simpa using he
        as_aux_lemma =>
          go_wp2
          go_ret
          refine ⟨⟨_, rfl, ?_⟩, ((Step.refl _ _).alloc _).alloc _⟩
          rw [HS.out]
          exact FIN.out [tgt, els] _ _ (blk_new2 _ _ _) (by simp)
    · by_cases h6 : kind = 6
      · rw [if_neg h4, if_neg h5, if_pos (.inl h6)] at HS
        subst h6
        clear h4 h5
        as_aux_lemma =>
          go_wp2
          go_ret
          refine ⟨⟨_, rfl, ?_⟩, (Step.refl _ _).alloc _⟩
          rw [HS.out]
          exact Row.nil _ _ _
      · by_cases h7 : kind = 7
        · rw [if_neg h4, if_neg h5, if_pos (.inr h7)] at HS
          subst h7
          clear h4 h5 h6
          as_aux_lemma =>
            go_wp2
            go_ret
            refine ⟨⟨_, rfl, ?_⟩, (Step.refl _ _).alloc _⟩
            rw [HS.out]
            exact Row.nil _ _ _
        · rw [if_neg h4, if_neg h5, if_neg (by rintro (h | h) <;> contradiction)] at HS
          as_aux_lemma =>
            go_wp2
            go_ret
            refine ⟨⟨_, rfl, ?_⟩, ((Step.refl _ _).alloc _).alloc _⟩
            rw [HS.out]
            exact FIN.out [(i : Int) + 1] _ _ (blk_new2 _ _ _) (by simp)

end Go.Proofs.Ytilipeigjkmldaa

namespace Go.Proofs.Ytilipeigjkmldaa
open Go.RowKit

theorem Try.sizeOp : (Try.prog.info? 53).map (·.size) = some 5 := by kernel_rfl

set_option maxRecDepth 100000 in
set_option maxHeartbeats 1000000 in
theorem indexOps_any (kf : Nat) (caps : Array Value) (B : Nat) (p : Opd → Bool) (l : List Opd) (xs : List Value) (v : Value) (w : World) (hen : Enters' kf) (ho : Each (OpAt w B) l xs) (h : Row w B v l.length xs)
    (hc : ∀ o ∈ l, ∀ cs w', OpAt w' B o cs → Step (fun _ => False) w w' → Calls Try.prog kf (#[.agg cs.toArray] ++ caps) w' (IsBool (p o) w')) :
    Calls Try.prog 98 #[v, .func (.func kf) #[] caps] w fun e w' => e = .returned (.int .i64 (idxI p l)) ∧ Step (fun _ => False) w w' := by
  obtain ⟨a, c, rfl, hcl, hcm, -, hr⟩ := h
  have HR := Lib.hid hr
  have HC := Lib.hid hc
  have HO := Lib.hid ho
  unfold Enters' at hen
  clear hr hc ho
  go_enter Try.func98, Try.ntmps98
  go_wp2_with fail
  go_loopg [5, 8] l.length (fun gg _ s8 wr => ∃ i : Nat, s8 = .int .i64 i ∧ i ≤ l.length ∧ l.length - i ≤ gg ∧ (∀ j, j < i → ∀ y, l[j]? = some y → p y = false) ∧ Step (fun _ => False) w wr)
  case atStart => exact ⟨0, rfl, Nat.zero_le _, by omega, fun j hj => absurd hj (Nat.not_lt_zero _), Step.refl _ _⟩
  case round =>
    obtain ⟨i, rfl, hi, hgg, hno, hst⟩ := hrel
    have HNO := Lib.hid hno
    clear hno
    by_cases hlt : i < l.length
    · obtain ⟨x, hx⟩ : ∃ x, l[i]? = some x := ⟨l[i], List.getElem?_eq_getElem hlt⟩
      obtain ⟨g, o, rfl, -, -, hcell⟩ := HR.out (by omega)
      obtain ⟨cs, hat, f⟩ := Each.cells 5 OpAt.len (Each.mono (OpAt.step hst (fun _ _ h => h)) _ _ HO.out) hx (fun i x hx => hst.cell (hcell i x hx) (fun h => h))
      have HAT := Lib.hid hat
      have HX := Lib.hid hx
      obtain ⟨vv, rfl, -⟩ := hat
      have F := Lib.hid f
      clear hcell hx f
      go_wp2_with (refine wpList_load_whole rfl 53 (.tmp 14) rfl g (o + i * 5) rfl _ _ F.out Try.underlying53 rfl Try.sizeOp ?_)
      refine (HC.out x (List.mem_of_getElem? HX.out) _ _ HAT.out hst).mono ?_
      rintro e w1 ⟨rfl, h1⟩
      have hst1 := hst.trans h1
      clear F HAT
      cases hp : p x with
      | true =>
        have HI := Lib.hid (idxI_some HX.out hp HNO.out)
        clear hp
        go_wp2
        go_ret
        exact ⟨ret_int HI.out.symm, hst1⟩
      | false =>
        have HP := Lib.hid hp
        clear hp
        go_wp2
        go_roundg (gk - 1)
        case rel =>
          refine ⟨i + 1, by go_num, by omega, by omega, fun j hj y hy => ?_, hst1⟩
          rcases Nat.lt_succ_iff_lt_or_eq.1 hj with h | rfl
          · exact HNO.out j h y hy
          · rw [HX.out] at hy; cases hy; exact HP.out
        case measure => omega
    · have HI : Hid (idxI p l = -1) := idxI_none fun x hx => by
        obtain ⟨j, hj⟩ := List.getElem?_of_mem hx
        exact HNO.out j (by have := (List.getElem?_eq_some_iff.1 hj).1; omega) x hj
      go_wp2
      go_ret
      exact ⟨ret_int HI.out.symm, hst⟩

set_option maxHeartbeats 400000 in
theorem containsOps_any (kf : Nat) (caps : Array Value) (B : Nat) (p : Opd → Bool) (l : List Opd) (xs : List Value) (v : Value) (w : World) (hen : Enters' kf) (ho : Each (OpAt w B) l xs) (h : Row w B v l.length xs)
    (hc : ∀ o ∈ l, ∀ cs w', OpAt w' B o cs → Step (fun _ => False) w w' → Calls Try.prog kf (#[.agg cs.toArray] ++ caps) w' (IsBool (p o) w')) :
    Calls Try.prog 90 #[v, .func (.func kf) #[] caps] w (IsBool (l.any p) w) := by
  have HC := Lib.hid hc
  have HR := Lib.hid h
  have HO := Lib.hid ho
  have HE := Lib.hid (idxI_ge p l)
  clear hc ho h
  go_enter Try.func90, Try.ntmps90
  go_wp2_with fail
  refine (indexOps_any kf caps B p l xs v w hen HO.out HR.out HC.out).mono ?_
  rintro e w1 ⟨rfl, h1⟩
  go_wp2
  go_ret
  exact ⟨ret_bool HE.out, h1⟩

set_option maxHeartbeats 400000 in
theorem rightOne_any (B g bx : Nat) (b : Bod) (o : Opd) (cs : List Value) (w : World) (h : BodP w B g b) (hbx : w.cell? ⟨bx, 0, none⟩ = some (.pointer (some ⟨g, 0, none⟩))) (ho : OpAt w B o cs) :
    Calls Try.prog 91 #[.agg cs.toArray, .pointer (some ⟨bx, 0, none⟩)] w (IsBool (!opOk b.locals o) w) := by
  have HB := Lib.hid h
  have HO := Lib.hid ho
  obtain ⟨v, rfl, ⟨a, c, rfl, -⟩⟩ := ho
  have ST0 : Step (fun _ => False) w (w.alloc (.cells #[.int .i64 o.kind, .int .i64 o.pl.loc, .slice a o.pl.path.length c, .int .i64 o.ty, .int .u64 o.n] 53)) := (Step.refl _ _).alloc _
  have hne := World.block_lt_of_cell? w _ hbx
  clear h
  go_enter Try.func91, Try.ntmps91
  go_wp2_with fail
  refine (operand_any B g b o _ _ (HB.out.step ST0 (fun _ _ h => h)) (OpAt.step ST0 (fun _ _ h => h) _ _ HO.out)).mono ?_
  rintro e w1 ⟨rfl, h1⟩
  go_wp2
  go_ret
  exact ⟨rfl, ST0.trans h1⟩

theorem any_not {α : Type} (p : α → Bool) (l : List α) : (!(l.any fun x => !p x)) = l.all p := by
  induction l with
  | nil => rfl
  | cons x r ih => rw [List.any_cons, List.all_cons, ← ih, Bool.not_or, Bool.not_not]

end Go.Proofs.Ytilipeigjkmldaa

namespace Go.Proofs.Ytilipeigjkmldaa
open Go.RowKit

/- The tail: are all operands right? -/
def RightTail (B g : Nat) (b : Bod) (args : List Opd) : Prop := ∀ (bx : Nat) (v : Value) (xa : List Value) (w : World), BodP w B g b → Each (OpAt w B) args xa → Row w B v args.length xa → w.cell? ⟨bx, 0, none⟩ = some (.pointer (some ⟨g, 0, none⟩)) →
  Calls Try.prog 90 #[v, .func (.func 91) #[] #[.pointer (some ⟨bx, 0, none⟩)]] w (IsBool (args.any fun o => !opOk b.locals o) w)
theorem rightTail (B g : Nat) (b : Bod) (args : List Opd) : RightTail B g b args := fun bx v xa w h ho hr hbx =>
  containsOps_any 91 #[.pointer (some ⟨bx, 0, none⟩)] B (fun o => !opOk b.locals o) args xa v w (fun xs w => by go_simp) ho hr
    fun o _ cs w' hat hst => rightOne_any B g bx b o cs w' (h.step hst (fun _ _ h => h)) (hst.cell hbx (fun h => h)) hat

set_option maxRecDepth 100000 in
set_option maxHeartbeats 2000000 in
theorem right_any (B g : Nat) (b : Bod) (x : Ins) (va vp : Value) (at1 : Option Addr) (nt1 ct1 : Nat) (xa : List Value) (w : World) (h : BodP w B g b) (hoa : Each (OpAt w B) x.args xa) (hra : Row w B va x.args.length xa) (hrp : Row w B vp x.rpl.path.length (intsV x.rpl.path)) :
    Calls Try.prog 73 #[.pointer (some ⟨g, 0, none⟩), .agg #[.int .i64 x.rkind, va, .int .i64 x.rpl.loc, vp, .bool x.mu, .string x.rname, .int .i64 x.rn, .slice at1 nt1 ct1]] w (IsBool (rightOk b.locals x) w) := by
  have HB := Lib.hid h
  have HOA := Lib.hid hoa
  have HRA := Lib.hid hra
  have HRP := Lib.hid hrp
  obtain ⟨aa1, ca1, rfl, -⟩ := hra
  obtain ⟨ap1, cp1, rfl, -⟩ := hrp
  obtain ⟨c, hc⟩ : ∃ c : Int, c = cntF x.rkind := ⟨_, rfl⟩
  have HK : Hid (rightOk b.locals x = (((!decide (c = -2) && (decide (c < 0) || decide ((x.args.length : Int) = c))) && ((!decide (x.rkind = 2) || plOk b.locals x.rpl) && (!decide (x.rkind = 9) || (decide (0 < x.args.length) && decide (0 ≤ x.rn))))) && !(x.args.any fun o => !opOk b.locals o))) := by
    show _ = _; rw [any_not, hc]; rfl
  have hc2 : x.rkind = 2 → c = 0 := fun h => by rw [hc, h]; rfl
  have hc9 : x.rkind = 9 → c = -1 := fun h => by rw [hc, h]; rfl
  have HT := Lib.hid (rightTail B g b x.args)
  obtain ⟨W0, hW0⟩ : ∃ W0 : World, W0 = (w.alloc (.cells #[.pointer (some ⟨g, 0, none⟩)] 35)).alloc (.cells #[.int .i64 x.rkind, .slice aa1 x.args.length ca1, .int .i64 x.rpl.loc, .slice ap1 x.rpl.path.length cp1, .bool x.mu, .string x.rname, .int .i64 x.rn, .slice at1 nt1 ct1] 51) := ⟨_, rfl⟩
  have ST0 : Step (fun _ => False) w W0 := by rw [hW0]; exact ((Step.refl _ _).alloc _).alloc _
  have HBX : Hid (W0.heap[w.heap.size]? = some (.cells #[.pointer (some ⟨g, 0, none⟩)] 35 (0, 0))) := by show _ = _; rw [hW0]; exact blk_alloc (blk_new _ _)
  have HRT : Hid (W0.heap[w.heap.size + 1]? = some (.cells #[.int .i64 x.rkind, .slice aa1 x.args.length ca1, .int .i64 x.rpl.loc, .slice ap1 x.rpl.path.length cp1, .bool x.mu, .string x.rname, .int .i64 x.rn, .slice at1 nt1 ct1] 51 (0, 0))) := by show _ = _; rw [hW0]; exact blk_new2 _ _ _
  have HBX' : Hid (∀ X : World, Step (fun _ => False) W0 X → X.cell? ⟨w.heap.size, 0, none⟩ = some (.pointer (some ⟨g, 0, none⟩)) ∧ X.cell? ⟨w.heap.size + 1, 0, none⟩ = some (.int .i64 x.rkind) ∧ X.cell? ⟨w.heap.size + 1, 1, none⟩ = some (.slice aa1 x.args.length ca1) ∧ X.cell? ⟨w.heap.size + 1, 6, none⟩ = some (.int .i64 x.rn)) :=
    fun X hX => ⟨blk_cell (hX.keep HBX.out (fun h => h)) 0 _ rfl, blk_cell (hX.keep HRT.out (fun h => h)) 0 _ rfl, blk_cell (hX.keep HRT.out (fun h => h)) 1 _ rfl, blk_cell (hX.keep HRT.out (fun h => h)) 6 _ rfl⟩
  have p2 := blk_cell HRT.out 2 _ rfl
  have p3 := blk_cell HRT.out 3 _ rfl
  obtain ⟨hbx0, p0, p1, p6⟩ := HBX'.out W0 (Step.refl _ _)
  have HW0 := Lib.hid hW0
  have HC := Lib.hid hc
  clear h hoa hW0 hc
  go_enter Try.func73, Try.ntmps73
  go_wp2_with fail
  rw [← HW0.out]
  refine (count_any x.rkind W0).mono ?_
  rintro e w1 ⟨rfl, rfl⟩
  rw [← HC.out]
  by_cases hm : c = -2
  · have e1 : (c == -2) = true := by simpa using hm
    have k2 : x.rkind ≠ 2 := fun h => by have := hc2 h; omega
    have k9 : x.rkind ≠ 9 := fun h => by have := hc9 h; omega
    have HV : Hid (rightOk b.locals x = false) := by show _ = _; rw [HK.out, decide_eq_true hm]; rfl
    clear hc2 hc9 hm
    as_aux_lemma =>
      go_wp2
      go_ret
      exact ⟨ret_bool (by rw [HV.out]), ST0⟩
  have HM := Lib.hid hm
  have e1 : (c == -2) = false := by simpa using hm
  by_cases hpos : 0 ≤ c
  · have k9 : x.rkind ≠ 9 := fun h => by have := hc9 h; omega
    have e9 : (x.rkind == 9) = false := by simpa using k9
    have e0 : decide (0 ≤ c) = true := decide_eq_true hpos
    by_cases hn : (x.args.length : Int) = c
    · have en : ((x.args.length : Int) != c) = false := by simp [hn]
      have HN := Lib.hid hn
      clear hn hc9 k9 hm
      by_cases hk2 : x.rkind = 2
      · have ek2 : (x.rkind == 2) = true := by simpa using hk2
        cases hpl : plOk b.locals x.rpl with
        | false =>
          have HPL := Lib.hid hpl
          have HV : Hid (rightOk b.locals x = false) := by show _ = _; rw [HK.out, hpl, decide_eq_true hk2]; simp
          clear hpl hc2 hk2
          as_aux_lemma =>
            go_wp2_with fail
            refine (place_any B g b x.rpl _ _ (HB.out.step ST0 (fun _ _ h => h)) ⟨_, rfl, HRP.out.step ST0 (fun _ _ h => h)⟩).mono ?_
            rintro e w1 ⟨rfl, h1⟩
            rw [HPL.out]
            clear p0 p1 p2 p3 p6 hbx0
            obtain ⟨hbx0, p0, p1, p6⟩ := HBX'.out w1 h1
            go_wp2
            go_ret
            exact ⟨ret_bool (by rw [HV.out]), ST0.trans h1⟩
        | true =>
          have HPL := Lib.hid hpl
          have HV : Hid (rightOk b.locals x = !(x.args.any fun o => !opOk b.locals o)) := by
            show _ = _
            rw [HK.out, hpl, decide_eq_false HM.out, decide_eq_true HN.out, decide_eq_false (show ¬ x.rkind = 9 by omega)]; simp
          clear hpl hc2 hk2
          as_aux_lemma =>
            go_wp2_with fail
            refine (place_any B g b x.rpl _ _ (HB.out.step ST0 (fun _ _ h => h)) ⟨_, rfl, HRP.out.step ST0 (fun _ _ h => h)⟩).mono ?_
            rintro e w1 ⟨rfl, h1⟩
            rw [HPL.out]
            clear p0 p1 p2 p3 p6 hbx0
            obtain ⟨hbx0, p0, p1, p6⟩ := HBX'.out w1 h1
            go_wp2_with fail
            refine (HT.out w.heap.size _ xa w1 (HB.out.step (ST0.trans h1) (fun _ _ h => h)) (Each.mono (OpAt.step (ST0.trans h1) (fun _ _ h => h)) _ _ HOA.out) (HRA.out.step (ST0.trans h1) (fun _ _ h => h)) hbx0).mono ?_
            rintro e w2 ⟨rfl, h2⟩
            go_wp2
            go_ret
            exact ⟨ret_bool (by rw [HV.out]), ST0.trans (h1.trans h2)⟩
      · have ek2 : (x.rkind == 2) = false := by simpa using hk2
        have HV : Hid (rightOk b.locals x = !(x.args.any fun o => !opOk b.locals o)) := by
          show _ = _
          rw [HK.out, decide_eq_false HM.out, decide_eq_true HN.out, decide_eq_false hk2, decide_eq_false (show ¬ x.rkind = 9 by simpa using e9)]; simp
        clear hc2 hk2
        as_aux_lemma =>
          go_wp2_with fail
          refine (HT.out w.heap.size _ xa W0 (HB.out.step ST0 (fun _ _ h => h)) (Each.mono (OpAt.step ST0 (fun _ _ h => h)) _ _ HOA.out) (HRA.out.step ST0 (fun _ _ h => h)) hbx0).mono ?_
          rintro e w2 ⟨rfl, h2⟩
          go_wp2
          go_ret
          exact ⟨ret_bool (by rw [HV.out]), ST0.trans h2⟩
    · have en : ((x.args.length : Int) != c) = true := by simp [hn]
      have HV : Hid (rightOk b.locals x = false) := by show _ = _; rw [HK.out, decide_eq_false hn, decide_eq_false (show ¬ c < 0 by omega)]; simp
      clear hn hc2 hc9 k9 hm
      as_aux_lemma =>
        go_wp2
        go_ret
        exact ⟨ret_bool (by rw [HV.out]), ST0⟩
  · have k2 : x.rkind ≠ 2 := fun h => by have := hc2 h; omega
    have e2 : (x.rkind == 2) = false := by simpa using k2
    have e0 : decide (0 ≤ c) = false := decide_eq_false hpos
    have HC0 : Hid (decide (c < 0) = true) := decide_eq_true (by omega)
    have HK2 : Hid (decide (x.rkind = 2) = false) := decide_eq_false k2
    clear hc2 hm k2
    by_cases hk9 : x.rkind = 9
    · have ek9 : (x.rkind == 9) = true := by simpa using hk9
      by_cases hn : x.args.length = 0
      · have en : ((x.args.length : Int) == 0) = true := by simp [hn]
        have HV : Hid (rightOk b.locals x = false) := by show _ = _; rw [HK.out, decide_eq_true hk9, decide_eq_false (show ¬ 0 < x.args.length by omega)]; simp
        clear hn hc9 hk9
        as_aux_lemma =>
          go_wp2
          go_ret
          exact ⟨ret_bool (by rw [HV.out]), ST0⟩
      · have en : ((x.args.length : Int) == 0) = false := by simp [hn]
        by_cases hrn : x.rn < 0
        · have HV : Hid (rightOk b.locals x = false) := by show _ = _; rw [HK.out, decide_eq_true hk9, decide_eq_false (show ¬ 0 ≤ x.rn by omega)]; simp
          have er : decide (x.rn < 0) = true := decide_eq_true hrn
          clear hn hc9 hk9
          as_aux_lemma =>
            go_wp2
            go_ret
            exact ⟨ret_bool (by rw [HV.out]), ST0⟩
        · have HV : Hid (rightOk b.locals x = !(x.args.any fun o => !opOk b.locals o)) := by
            show _ = _
            rw [HK.out, decide_eq_false HM.out, HC0.out, HK2.out, decide_eq_true (show 0 < x.args.length by omega), decide_eq_true (show 0 ≤ x.rn by omega)]; simp
          have er : decide (x.rn < 0) = false := decide_eq_false hrn
          clear hn hc9 hk9
          as_aux_lemma =>
            go_wp2_with fail
            refine (HT.out w.heap.size _ xa W0 (HB.out.step ST0 (fun _ _ h => h)) (Each.mono (OpAt.step ST0 (fun _ _ h => h)) _ _ HOA.out) (HRA.out.step ST0 (fun _ _ h => h)) hbx0).mono ?_
            rintro e w2 ⟨rfl, h2⟩
            go_wp2
            go_ret
            exact ⟨ret_bool (by rw [HV.out]), ST0.trans h2⟩
    · have ek9 : (x.rkind == 9) = false := by simpa using hk9
      have HV : Hid (rightOk b.locals x = !(x.args.any fun o => !opOk b.locals o)) := by
        show _ = _
        rw [HK.out, decide_eq_false HM.out, HC0.out, HK2.out, decide_eq_false hk9]; simp
      clear hc9 hk9
      as_aux_lemma =>
        go_wp2_with fail
        refine (HT.out w.heap.size _ xa W0 (HB.out.step ST0 (fun _ _ h => h)) (Each.mono (OpAt.step ST0 (fun _ _ h => h)) _ _ HOA.out) (HRA.out.step ST0 (fun _ _ h => h)) hbx0).mono ?_
        rintro e w2 ⟨rfl, h2⟩
        go_wp2
        go_ret
        exact ⟨ret_bool (by rw [HV.out]), ST0.trans h2⟩

end Go.Proofs.Ytilipeigjkmldaa

namespace Go.Proofs.Ytilipeigjkmldaa
open Go.RowKit

set_option maxRecDepth 100000 in
set_option maxHeartbeats 2000000 in
theorem instr_any (B g : Nat) (b : Bod) (x : Ins) (cs : List Value) (w : World) (h : BodP w B g b) (hat : InAt w B x cs) :
    Calls Try.prog 52 #[.pointer (some ⟨g, 0, none⟩), .agg cs.toArray] w (IsBool (insOk b.locals x) w) := by
  have HB := Lib.hid h
  obtain ⟨vd, va, vp, vt, vc, xa, rfl, hr1, hoa, hra, hr2, ⟨at1, nt1, ct1, rfl⟩, hr3⟩ := hat; have HR1 := Lib.hid hr1; have HOA := Lib.hid hoa; have HRA := Lib.hid hra; have HR2 := Lib.hid hr2; have HR3 := Lib.hid hr3; obtain ⟨ad1, cd1, rfl, -⟩ := hr1; obtain ⟨aa1, ca1, rfl, -⟩ := hra; obtain ⟨ap1, cp1, rfl, -⟩ := hr2; obtain ⟨ac1, cc1, rfl, -⟩ := hr3; clear hoa
  obtain ⟨W0, hW0⟩ : ∃ W0 : World, W0 = w.alloc (.cells #[.int .i64 x.kind, .int .i64 x.loc, .int .i64 x.dest.loc, .slice ad1 x.dest.path.length cd1, .int .i64 x.rkind, .slice aa1 x.args.length ca1, .int .i64 x.rpl.loc, .slice ap1 x.rpl.path.length cp1, .bool x.mu, .string x.rname, .int .i64 x.rn, .slice at1 nt1 ct1,
    .int .i64 x.cond.kind, .int .i64 x.cond.pl.loc, .slice ac1 x.cond.pl.path.length cc1, .int .i64 x.cond.ty, .int .u64 x.cond.n, .int .i64 x.tgt, .int .i64 x.els, .int .i64 x.line, .int .i64 x.col] 57) := ⟨_, rfl⟩
  have ST0 : Step (fun _ => False) w W0 := by rw [hW0]; exact (Step.refl _ _).alloc _
  have HIB : Hid (W0.heap[w.heap.size]? = some (.cells #[.int .i64 x.kind, .int .i64 x.loc, .int .i64 x.dest.loc, .slice ad1 x.dest.path.length cd1, .int .i64 x.rkind, .slice aa1 x.args.length ca1, .int .i64 x.rpl.loc, .slice ap1 x.rpl.path.length cp1, .bool x.mu, .string x.rname, .int .i64 x.rn, .slice at1 nt1 ct1,
    .int .i64 x.cond.kind, .int .i64 x.cond.pl.loc, .slice ac1 x.cond.pl.path.length cc1, .int .i64 x.cond.ty, .int .u64 x.cond.n, .int .i64 x.tgt, .int .i64 x.els, .int .i64 x.line, .int .i64 x.col] 57 (0, 0))) := by show _ = _; rw [hW0]; exact blk_new _ _
  have i0 := blk_cell HIB.out 0 _ rfl
  have HW0 := Lib.hid hW0
  clear h hW0
  go_enter Try.func52, Try.ntmps52
  by_cases h1 : x.kind = 1
  · have HV : Hid (insOk b.locals x = locOk b.locals x.loc) := by show _ = _; unfold insOk; rw [if_pos (.inl h1)]; rfl
    have i1 := blk_cell HIB.out 1 _ rfl
    have HB0 := Lib.hid (HB.out.step ST0 (fun _ _ h => h))
    have e1 : (x.kind == 1) = true := by simpa using h1
    clear h1
    as_aux_lemma =>
      go_wp2_with fail
      rw [← HW0.out]
      go_wp2_with fail
      refine (local_any B g b x.loc W0 HB0.out).mono ?_
      rintro e w1 ⟨rfl, rfl⟩
      go_wp2
      go_ret
      exact ⟨ret_bool (by rw [HV.out]), ST0⟩
  have e1 : (x.kind == 1) = false := by simpa using h1
  by_cases h2 : x.kind = 2
  · have HV : Hid (insOk b.locals x = locOk b.locals x.loc) := by show _ = _; unfold insOk; rw [if_pos (.inr h2)]; rfl
    have i1 := blk_cell HIB.out 1 _ rfl
    have HB0 := Lib.hid (HB.out.step ST0 (fun _ _ h => h))
    have e2 : (x.kind == 2) = true := by simpa using h2
    clear h1 h2
    as_aux_lemma =>
      go_wp2_with fail
      rw [← HW0.out]
      go_wp2_with fail
      refine (local_any B g b x.loc W0 HB0.out).mono ?_
      rintro e w1 ⟨rfl, rfl⟩
      go_wp2
      go_ret
      exact ⟨ret_bool (by rw [HV.out]), ST0⟩
  have e2 : (x.kind == 2) = false := by simpa using h2
  by_cases h3 : x.kind = 3
  · have HV : Hid (insOk b.locals x = (plOk b.locals x.dest && rightOk b.locals x)) := by show _ = _; unfold insOk; rw [if_neg (by rintro (h | h) <;> contradiction), if_pos h3]
    have e3 : (x.kind == 3) = true := by simpa using h3
    have i2 := blk_cell HIB.out 2 _ rfl
    have i3 := blk_cell HIB.out 3 _ rfl
    have HB0 := Lib.hid (HB.out.step ST0 (fun _ _ h => h))
    clear h1 h2 h3
    cases hpl : plOk b.locals x.dest with
    | false =>
      have HPL := Lib.hid hpl
      clear hpl
      as_aux_lemma =>
        go_wp2_with fail
        rw [← HW0.out]
        go_wp2_with fail
        refine (place_any B g b x.dest _ W0 HB0.out ⟨_, rfl, HR1.out.step ST0 (fun _ _ h => h)⟩).mono ?_
        rintro e w1 ⟨rfl, hw1⟩
        rw [HPL.out]
        go_wp2
        go_ret
        exact ⟨ret_bool (by rw [HV.out, HPL.out]; rfl), ST0.trans hw1⟩
    | true =>
      have HPL := Lib.hid hpl
      clear hpl
      as_aux_lemma =>
        go_wp2_with fail
        rw [← HW0.out]
        go_wp2_with fail
        refine (place_any B g b x.dest _ W0 HB0.out ⟨_, rfl, HR1.out.step ST0 (fun _ _ h => h)⟩).mono ?_
        rintro e w1 ⟨rfl, hw1⟩
        rw [HPL.out]
        have ST1 := ST0.trans hw1
        have HIB1 := hw1.keep HIB.out (fun h => h)
        clear i0 i2 i3
        have i4 := blk_cell HIB1 4 _ rfl
        have i5 := blk_cell HIB1 5 _ rfl
        have i6 := blk_cell HIB1 6 _ rfl
        have i7 := blk_cell HIB1 7 _ rfl
        have i8 := blk_cell HIB1 8 _ rfl
        have i9 := blk_cell HIB1 9 _ rfl
        have i10 := blk_cell HIB1 10 _ rfl
        have i11 := blk_cell HIB1 11 _ rfl
        clear HIB1
        go_wp2_with fail
        refine (right_any B g b x _ _ at1 nt1 ct1 xa w1 (HB.out.step ST1 (fun _ _ h => h)) (Each.mono (OpAt.step ST1 (fun _ _ h => h)) _ _ HOA.out) (HRA.out.step ST1 (fun _ _ h => h)) (HR2.out.step ST1 (fun _ _ h => h))).mono ?_
        rintro e w2 ⟨rfl, hw2⟩
        go_wp2
        go_ret
        exact ⟨ret_bool (by rw [HV.out, HPL.out]; rfl), ST1.trans hw2⟩
  have e3 : (x.kind == 3) = false := by simpa using h3
  by_cases h5 : x.kind = 5
  · have HV : Hid (insOk b.locals x = opOk b.locals x.cond) := by show _ = _; unfold insOk; rw [if_neg (by rintro (h | h) <;> contradiction), if_neg h3, if_pos h5]
    have e5 : (x.kind == 5) = true := by simpa using h5
    have i12 := blk_cell HIB.out 12 _ rfl
    have i13 := blk_cell HIB.out 13 _ rfl
    have i14 := blk_cell HIB.out 14 _ rfl
    have i15 := blk_cell HIB.out 15 _ rfl
    have i16 := blk_cell HIB.out 16 _ rfl
    have HB0 := Lib.hid (HB.out.step ST0 (fun _ _ h => h))
    clear h1 h2 h3 h5
    as_aux_lemma =>
      go_wp2_with fail
      rw [← HW0.out]
      go_wp2_with fail
      refine (operand_any B g b x.cond _ W0 HB0.out ⟨_, rfl, HR3.out.step ST0 (fun _ _ h => h)⟩).mono ?_
      rintro e w1 ⟨rfl, hw1⟩
      go_wp2
      go_ret
      exact ⟨ret_bool (by rw [HV.out]), ST0.trans hw1⟩
  have e5 : (x.kind == 5) = false := by simpa using h5
  have HV : Hid (insOk b.locals x = (decide (1 ≤ x.kind) && decide (x.kind ≤ 7))) := by show _ = _; unfold insOk; rw [if_neg (by rintro (h | h) <;> contradiction), if_neg h3, if_neg h5]
  clear h1 h2 h3 h5
  by_cases ha : 1 ≤ x.kind
  · by_cases hb : x.kind ≤ 7
    · have HH : Hid (insOk b.locals x = true) := by show _ = _; rw [HV.out, decide_eq_true ha, decide_eq_true hb]; rfl
      as_aux_lemma =>
        go_wp2
        go_ret
        exact ⟨ret_bool (by rw [HH.out]), by rw [← HW0.out]; exact ST0⟩
    · have HH : Hid (insOk b.locals x = false) := by show _ = _; rw [HV.out, decide_eq_false hb, Bool.and_false]
      as_aux_lemma =>
        go_wp2
        go_ret
        exact ⟨ret_bool (by rw [HH.out]), by rw [← HW0.out]; exact ST0⟩
  · have HH : Hid (insOk b.locals x = false) := by show _ = _; rw [HV.out, decide_eq_false ha, Bool.false_and]
    as_aux_lemma =>
      go_wp2
      go_ret
      exact ⟨ret_bool (by rw [HH.out]), by rw [← HW0.out]; exact ST0⟩

end Go.Proofs.Ytilipeigjkmldaa

namespace Go.Proofs.Ytilipeigjkmldaa
open Go.RowKit

def tgtOk (n : Nat) (t : Int) : Bool := decide (0 ≤ t) && decide (t < n)

set_option maxHeartbeats 400000 in
theorem check1_any (B g bx : Nat) (b : Bod) (t : Int) (w : World) (h : BodP w B g b) (hbx : w.cell? ⟨bx, 0, none⟩ = some (.pointer (some ⟨g, 0, none⟩))) :
    Calls Try.prog 55 #[.int .i64 t, .pointer (some ⟨bx, 0, none⟩)] w (IsBool (!tgtOk b.code.length t) w) := by
  obtain ⟨-, -, a, c, b3, -, -, -⟩ := h.parts
  clear h
  unfold tgtOk
  by_cases h0 : 0 ≤ t
  · have e0 : decide (t < 0) = false := decide_eq_false (by omega)
    by_cases h1 : t < b.code.length
    · have e1 : decide ((b.code.length : Int) ≤ t) = false := decide_eq_false (by omega)
      rw [decide_eq_true h0, decide_eq_true h1]
      go_enter Try.func55, Try.ntmps55
      go_wp2
      go_ret
      exact ⟨rfl, Step.refl _ _⟩
    · have e1 : decide ((b.code.length : Int) ≤ t) = true := decide_eq_true (by omega)
      rw [decide_eq_true h0, decide_eq_false h1]
      go_enter Try.func55, Try.ntmps55
      go_wp2
      go_ret
      exact ⟨rfl, Step.refl _ _⟩
  · have e0 : decide (t < 0) = true := decide_eq_true (by omega)
    rw [decide_eq_false h0]
    go_enter Try.func55, Try.ntmps55
    go_wp2
    go_ret
    exact ⟨rfl, Step.refl _ _⟩

theorem check1_has (B g bx i : Nat) (b : Bod) (x : Ins) (v : Value) (w : World) (h : BodP w B g b) (hbx : w.cell? ⟨bx, 0, none⟩ = some (.pointer (some ⟨g, 0, none⟩))) (hr : Row w w.heap.size v (succI x i).length (intsV (succI x i))) :
    Calls Try.prog 53 #[v, .func (.func 55) #[] #[.pointer (some ⟨bx, 0, none⟩)]] w (IsBool ((succI x i).any fun t => !tgtOk b.code.length t) w) :=
  contains_any 55 #[.pointer (some ⟨bx, 0, none⟩)] w.heap.size (fun t => !tgtOk b.code.length t) (succI x i) v w (fun xs w => by go_simp) hr
    fun t _ w' hst => check1_any B g bx b t w' (h.step hst (fun _ _ h => h)) (hst.cell hbx (fun h => h))

theorem new_cells {w : World} {t : Nat} {cs : List Value} (j : Nat) (v : Value) (h : cs[j]? = some v) : (w.alloc (.cells cs.toArray t)).cell? ⟨w.heap.size, 0 + j, none⟩ = some v := by
  rw [Nat.zero_add]; exact blk_cell (blk_new _ _) j v (by simpa using h)

def chkF (b : Bod) : Int := if headOk b = true then idxI (fun i => !atOk b i) (List.range b.code.length) else 0
theorem chkF_bad {b : Bod} (h : headOk b = false) : chkF b = 0 := by unfold chkF; rw [if_neg (by rw [h]; decide)]
theorem chkF_at {b : Bod} (h : headOk b = true) {i : Nat} (hi : i < b.code.length) (hb : atOk b i = false) (hno : ∀ j, j < i → atOk b j = true) : chkF b = i := by
  unfold chkF
  rw [if_pos h]
  exact idxI_some (i := i) (x := i) (by simp [hi]) (by rw [hb]; rfl) (fun j hj y hy => by
    have : y = j := by
      rw [List.getElem?_range (by omega)] at hy; exact (Option.some.inj hy).symm
    rw [this, hno j hj]; rfl)
theorem chkF_ok {b : Bod} (h : headOk b = true) (hno : ∀ j, j < b.code.length → atOk b j = true) : chkF b = -1 := by
  unfold chkF
  rw [if_pos h]
  exact idxI_none fun x hx => by rw [hno x (List.mem_range.1 hx)]; rfl
theorem atOk_at {b : Bod} {i : Nat} {x : Ins} (hx : b.code[i]? = some x) : atOk b i = (insOk b.locals x && !((succI x i).any fun t => !tgtOk b.code.length t)) := by
  unfold atOk; rw [hx, any_not]; rfl

theorem check_nil (w : World) : Calls Try.prog 32 #[.pointer none] w fun e w' => e = .returned (.int .i64 0) ∧ Step (fun _ => False) w w' := by
  go_enter Try.func32, Try.ntmps32
  go_wp2
  go_quiet (fail)
  go_wp2
  go_ret
  exact ⟨rfl, ((Step.refl _ _).alloc _).drewN _⟩

set_option maxRecDepth 100000 in
set_option maxHeartbeats 2000000 in
theorem check_any (B g : Nat) (b : Bod) (w : World) (h : BodP w B g b) :
    Calls Try.prog 32 #[.pointer (some ⟨g, 0, none⟩)] w fun e w' => e = .returned (.int .i64 (chkF b)) ∧ Step (fun _ => False) w w' := by
  obtain ⟨b1, ⟨al, cl, b2⟩, a, c, b3, hc1, hc2, hcode⟩ := h.parts
  have HB := Lib.hid h
  have HCO := Lib.hid hcode
  clear h hcode
  have HH : Hid (headOk b = (decide (0 ≤ b.params) && (decide (b.params < b.locals) && decide (0 < b.code.length)))) := rfl
  have hgl := HB.out.2.1
  have e5 : (binOp .eql 35 (.pointer (some ⟨g, 0, none⟩)) (.pointer none)).run Try.prog w = .ok (.bool false) w := by kernel_rfl
  by_cases hp : b.params < 0
  · have e0 : decide (b.params < 0) = true := decide_eq_true hp
    have HV := Lib.hid (chkF_bad (b := b) (by rw [HH.out, decide_eq_false (show ¬ 0 ≤ b.params by omega)]; rfl))
    as_aux_lemma =>
      go_enter Try.func32, Try.ntmps32
      go_wp2
      go_quiet (fail)
      go_wp2
      go_ret
      exact ⟨ret_int HV.out.symm, ((Step.refl _ _).alloc _).drewN _⟩
  have e0 : decide (b.params < 0) = false := decide_eq_false hp
  by_cases hl : (b.locals : Int) ≤ b.params
  · have e1 : decide ((b.locals : Int) ≤ b.params) = true := decide_eq_true hl
    have HV := Lib.hid (chkF_bad (b := b) (by rw [HH.out, decide_eq_false (show ¬ b.params < b.locals by omega)]; simp))
    as_aux_lemma =>
      go_enter Try.func32, Try.ntmps32
      go_wp2
      go_quiet (fail)
      go_wp2
      go_ret
      exact ⟨ret_int HV.out.symm, ((Step.refl _ _).alloc _).drewN _⟩
  have e1 : decide ((b.locals : Int) ≤ b.params) = false := decide_eq_false hl
  by_cases hn : b.code.length = 0
  · have en : ((b.code.length : Int) == 0) = true := by simp [hn]
    have HV := Lib.hid (chkF_bad (b := b) (by rw [HH.out, decide_eq_false (show ¬ 0 < b.code.length by omega)]; simp))
    clear hn
    as_aux_lemma =>
      go_enter Try.func32, Try.ntmps32
      go_wp2
      go_quiet (fail)
      go_wp2
      go_ret
      exact ⟨ret_int HV.out.symm, ((Step.refl _ _).alloc _).drewN _⟩
  have en : ((b.code.length : Int) == 0) = false := by simp [hn]
  have HOK : Hid (headOk b = true) := by
    show _ = _; rw [HH.out, decide_eq_true (show 0 ≤ b.params by omega), decide_eq_true (show b.params < b.locals by omega), decide_eq_true (show 0 < b.code.length by omega)]; rfl
  have ST0 : ∀ n, Step (fun _ => False) w ((w.alloc (.cells #[.pointer (some ⟨g, 0, none⟩)] 35)).drewN n) := fun n => ((Step.refl _ _).alloc _).drewN _
  have HST0 := Lib.hid ST0
  have hpos : 0 < b.code.length := by omega
  obtain ⟨g', o', rfl, hcode⟩ := HCO.out hpos
  have HCODE := Lib.hid hcode
  clear HCO hcode hn ST0
  go_enter Try.func32, Try.ntmps32
  go_wp2
  go_quiet (fail)
  go_wp2_with fail
  have STW := HST0.out nq
  have HBX : Hid (((w.alloc (.cells #[.pointer (some ⟨g, 0, none⟩)] 35)).drewN nq).heap[w.heap.size]? = some (.cells #[.pointer (some ⟨g, 0, none⟩)] 35 (0, 0))) := blk_new _ _
  go_loopg [3, 4, 39] b.code.length (fun gg _ _ s39 wr => ∃ i : Nat, s39 = .int .i64 i ∧ i ≤ b.code.length ∧ b.code.length - i ≤ gg ∧ (∀ j, j < i → atOk b j = true) ∧ Step (fun _ => False) ((w.alloc (.cells #[.pointer (some ⟨g, 0, none⟩)] 35)).drewN nq) wr)
  case atStart => exact ⟨0, rfl, Nat.zero_le _, by omega, fun j hj => absurd hj (Nat.not_lt_zero _), Step.refl _ _⟩
  case round =>
    obtain ⟨i, rfl, hi, hgg, hno, hst⟩ := hrel
    have HNO := Lib.hid hno
    clear hno
    by_cases hlt : i < b.code.length
    · obtain ⟨x, hx⟩ : ∃ x, b.code[i]? = some x := ⟨b.code[i], List.getElem?_eq_getElem hlt⟩
      have STR : Step (fun _ => False) w wr := STW.trans hst
      obtain ⟨cs, hat, f⟩ := HCODE.out i x hx
      have HAT := Lib.hid (InAt.step STR (fun _ _ h => h) _ _ hat)
      have HONE := Lib.hid (InAt.one _ _ hat)
      have HLEN := Lib.hid (InAt.len _ _ hat)
      have F : Hid (∀ (j : Nat) y, cs[j]? = some y → wr.cell? ⟨g', o' + i * 21 + j, none⟩ = some y) := fun j y hy => STR.cell (f j y hy) (fun h => h)
      have HX := Lib.hid hx
      have HAO := Lib.hid (atOk_at hx)
      have hbxr := blk_cell (hst.keep HBX.out (fun h => h)) 0 _ rfl
      have STA : Step (fun _ => False) wr (wr.alloc (.cells cs.toArray 57)) := (Step.refl _ _).alloc _
      have hbxa := STA.cell hbxr (fun h => h)
      have ei : decide ((i : Int) < 0) = false := decide_eq_false (by omega)
      clear hat f hx
      have hinf : (Try.prog.info? 57).map (·.size) = some cs.length := by rw [HLEN.out]; exact Try.sizeIns
      go_wp2_with (first
        | (refine wpList_load_whole rfl 57 (.tmp 42) rfl g' (o' + i * 21) rfl cs _ F.out Try.underlying57 rfl hinf ?_)
        | (refine wpList_store_new rfl 57 (.tmp 4) (.tmp 43) rfl _ cs rfl rfl hinf (by rw [HLEN.out]; rfl) HONE.out ?_)
        | (refine wpList_load_whole rfl 57 (.tmp 4) rfl wr.heap.size 0 rfl cs _ (fun j v h => new_cells j v h) Try.underlying57 rfl hinf ?_))
      have STI : Step (fun _ => False) w (wr.alloc (.cells cs.toArray 57)) := STR.trans STA
      refine (instr_any B g b x cs _ (HB.out.step STI (fun _ _ h => h)) (InAt.step STA (fun _ _ h => h) _ _ HAT.out)).mono ?_
      rintro e w1 ⟨rfl, h1⟩
      clear hbxr hbxa
      have ST1 := STI.trans h1
      have hbx1 := blk_cell (h1.keep (STA.keep (hst.keep HBX.out (fun h => h)) (fun h => h)) (fun h => h)) 0 _ rfl
      cases hio : insOk b.locals x with
      | false =>
        have HV := Lib.hid (chkF_at HOK.out hlt (by rw [HAO.out, hio]; rfl) HNO.out)
        clear hio
        go_wp2
        go_ret
        exact ⟨ret_int HV.out.symm, ST1⟩
      | true =>
        have HIO := Lib.hid hio
        clear hio
        go_wp2_with fail
        refine (succ_any B g b i x w1 (HB.out.step ST1 (fun _ _ h => h)) HX.out).mono ?_
        rintro e w2 ⟨⟨v2, rfl, hr2⟩, h2⟩
        have ST2 := ST1.trans h2
        have HR2 := Lib.hid hr2
        have HB2 := Lib.hid (HB.out.step ST2 (fun _ _ h => h))
        have hbx2 := h2.cell hbx1 (fun h => h)
        obtain ⟨a2, c2, rfl, -⟩ := hr2
        clear hbx1
        go_wp2_with fail
        refine (check1_has B g w.heap.size i b x _ w2 HB2.out hbx2 HR2.out).mono ?_
        rintro e w3 ⟨rfl, h3⟩
        have ST3 := ST2.trans h3
        have H03 := Lib.hid (hst.trans (STA.trans (h1.trans (h2.trans h3))))
        clear hbx2
        cases hso : ((succI x i).any fun t => !tgtOk b.code.length t) with
        | true =>
          have HV := Lib.hid (chkF_at HOK.out hlt (by rw [HAO.out, HIO.out, hso]; rfl) HNO.out)
          clear hso
          go_wp2
          go_ret
          exact ⟨ret_int HV.out.symm, ST3⟩
        | false =>
          have HA : Hid (atOk b i = true) := by show _ = _; rw [HAO.out, HIO.out, hso]; rfl
          clear hso
          go_wp2
          go_roundg (gk - 1)
          case rel =>
            refine ⟨i + 1, by go_num, by omega, by omega, fun j hj => ?_, H03.out⟩
            rcases Nat.lt_succ_iff_lt_or_eq.1 hj with h | rfl
            · exact HNO.out j h
            · exact HA.out
          case measure => omega
    · have HV := Lib.hid (chkF_ok HOK.out (fun j hj => HNO.out j (by omega)))
      go_wp2
      go_ret
      exact ⟨ret_int HV.out.symm, STW.trans hst⟩

end Go.Proofs.Ytilipeigjkmldaa
