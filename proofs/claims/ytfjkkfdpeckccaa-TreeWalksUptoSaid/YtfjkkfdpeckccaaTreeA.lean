/- The parts of a program (api.WType, Expr, Stmt) as plain trees, and how they lie in memory. -/
import Derived.Test.YtfjkkfdpeckccaaApp
namespace Go.Proofs.Ytfjkkfdpeckccaa
open Go.RowKit

inductive Ty where
  | mk (kind : Int) (name life : ByteArray) (mu : Bool) (lifes : List ByteArray) (args : List Ty) (line col : Int)
mutual
inductive Ex where
  | mk (kind : Int) (name : ByteArray) (val : Int) (mu : Bool) (args : List Ex) (names : List ByteArray) (body : List St) (line col : Int)
inductive St where
  | mk (kind : Int) (name : ByteArray) (type : Ty) (place e : List Ex) (body els : List St) (other : Bool) (line col : Int)
end

mutual
def TyAt (w : World) (B : Nat) : Ty → List Value → Prop
  | .mk k name life m lifes args l c, cs => ∃ vl va xs, cs = [.int .i64 k, .string name, .string life, .bool m, vl, va, .int .i64 l, .int .i64 c] ∧ name.size ≤ 9223372036854775807 ∧ life.size ≤ 9223372036854775807 ∧
      (∀ s ∈ lifes, s.size ≤ 9223372036854775807) ∧ Row w B vl lifes.length (lifes.map .string) ∧ TysAt w B args xs ∧ Row w B va args.length xs
def TysAt (w : World) (B : Nat) : List Ty → List Value → Prop
  | [], cs => cs = []
  | t :: r, cs => ∃ c1 c2, cs = c1 ++ c2 ∧ TyAt w B t c1 ∧ TysAt w B r c2
end
mutual
def ExAt (w : World) (B : Nat) : Ex → List Value → Prop
  | .mk k name v m args names body l c, cs => ∃ va vn vb xa xb, cs = [.int .i64 k, .string name, .int .u64 v, .bool m, va, vn, vb, .int .i64 l, .int .i64 c] ∧ name.size ≤ 9223372036854775807 ∧ (∀ s ∈ names, s.size ≤ 9223372036854775807) ∧
      ExsAt w B args xa ∧ Row w B va args.length xa ∧ Row w B vn names.length (names.map .string) ∧ StsAt w B body xb ∧ Row w B vb body.length xb
def ExsAt (w : World) (B : Nat) : List Ex → List Value → Prop
  | [], cs => cs = []
  | t :: r, cs => ∃ c1 c2, cs = c1 ++ c2 ∧ ExAt w B t c1 ∧ ExsAt w B r c2
def StAt (w : World) (B : Nat) : St → List Value → Prop
  | .mk k name ty place e body els other l c, cs => ∃ ct vp ve vb vl xp xe xb xl, cs = [.int .i64 k, .string name] ++ ct ++ [vp, ve, vb, vl, .bool other, .int .i64 l, .int .i64 c] ∧ name.size ≤ 9223372036854775807 ∧ TyAt w B ty ct ∧
      ExsAt w B place xp ∧ Row w B vp place.length xp ∧ ExsAt w B e xe ∧ Row w B ve e.length xe ∧ StsAt w B body xb ∧ Row w B vb body.length xb ∧ StsAt w B els xl ∧ Row w B vl els.length xl
def StsAt (w : World) (B : Nat) : List St → List Value → Prop
  | [], cs => cs = []
  | t :: r, cs => ∃ c1 c2, cs = c1 ++ c2 ∧ StAt w B t c1 ∧ StsAt w B r c2
end

mutual
theorem TyAt.step {w w' : World} {B : Nat} {S : Nat → Prop} (hs : Step S w w') (hS : ∀ k, k < B → ¬ S k) : ∀ (t : Ty) (cs : List Value), TyAt w B t cs → TyAt w' B t cs
  | .mk k name life m lifes args l c, cs, h => by
    rw [TyAt] at h ⊢
    obtain ⟨vl, va, xs, h1, h2, h3, h4, h5, h6, h7⟩ := h
    exact ⟨vl, va, xs, h1, h2, h3, h4, h5.step hs hS, TysAt.step hs hS args xs h6, h7.step hs hS⟩
theorem TysAt.step {w w' : World} {B : Nat} {S : Nat → Prop} (hs : Step S w w') (hS : ∀ k, k < B → ¬ S k) : ∀ (l : List Ty) (cs : List Value), TysAt w B l cs → TysAt w' B l cs
  | [], cs, h => by rw [TysAt] at h ⊢; exact h
  | t :: r, cs, h => by
    rw [TysAt] at h ⊢
    obtain ⟨c1, c2, h1, h2, h3⟩ := h
    exact ⟨c1, c2, h1, TyAt.step hs hS t c1 h2, TysAt.step hs hS r c2 h3⟩
end
mutual
theorem ExAt.step {w w' : World} {B : Nat} {S : Nat → Prop} (hs : Step S w w') (hS : ∀ k, k < B → ¬ S k) : ∀ (t : Ex) (cs : List Value), ExAt w B t cs → ExAt w' B t cs
  | .mk k name v m args names body l c, cs, h => by
    rw [ExAt] at h ⊢
    obtain ⟨va, vn, vb, xa, xb, h1, h2, h3, h4, h5, h6, h7, h8⟩ := h
    exact ⟨va, vn, vb, xa, xb, h1, h2, h3, ExsAt.step hs hS args xa h4, h5.step hs hS, h6.step hs hS, StsAt.step hs hS body xb h7, h8.step hs hS⟩
theorem ExsAt.step {w w' : World} {B : Nat} {S : Nat → Prop} (hs : Step S w w') (hS : ∀ k, k < B → ¬ S k) : ∀ (l : List Ex) (cs : List Value), ExsAt w B l cs → ExsAt w' B l cs
  | [], cs, h => by rw [ExsAt] at h ⊢; exact h
  | t :: r, cs, h => by
    rw [ExsAt] at h ⊢
    obtain ⟨c1, c2, h1, h2, h3⟩ := h
    exact ⟨c1, c2, h1, ExAt.step hs hS t c1 h2, ExsAt.step hs hS r c2 h3⟩
theorem StAt.step {w w' : World} {B : Nat} {S : Nat → Prop} (hs : Step S w w') (hS : ∀ k, k < B → ¬ S k) : ∀ (t : St) (cs : List Value), StAt w B t cs → StAt w' B t cs
  | .mk k name ty place e body els other l c, cs, h => by
    rw [StAt] at h ⊢
    obtain ⟨ct, vp, ve, vb, vl, xp, xe, xb, xl, h1, h2, h3, h4, h5, h6, h7, h8, h9, h10, h11⟩ := h
    exact ⟨ct, vp, ve, vb, vl, xp, xe, xb, xl, h1, h2, TyAt.step hs hS ty ct h3, ExsAt.step hs hS place xp h4, h5.step hs hS, ExsAt.step hs hS e xe h6, h7.step hs hS, StsAt.step hs hS body xb h8, h9.step hs hS, StsAt.step hs hS els xl h10, h11.step hs hS⟩
theorem StsAt.step {w w' : World} {B : Nat} {S : Nat → Prop} (hs : Step S w w') (hS : ∀ k, k < B → ¬ S k) : ∀ (l : List St) (cs : List Value), StsAt w B l cs → StsAt w' B l cs
  | [], cs, h => by rw [StsAt] at h ⊢; exact h
  | t :: r, cs, h => by
    rw [StsAt] at h ⊢
    obtain ⟨c1, c2, h1, h2, h3⟩ := h
    exact ⟨c1, c2, h1, StAt.step hs hS t c1 h2, StsAt.step hs hS r c2 h3⟩
end

theorem TyAt.len {w : World} {B : Nat} {t : Ty} {cs : List Value} (h : TyAt w B t cs) : cs.length = 8 := by
  obtain ⟨k, name, life, m, lifes, args, l, c⟩ := t
  rw [TyAt] at h
  obtain ⟨_, _, _, rfl, _⟩ := h; rfl
theorem ExAt.len {w : World} {B : Nat} {t : Ex} {cs : List Value} (h : ExAt w B t cs) : cs.length = 9 := by
  obtain ⟨k, name, v, m, args, names, body, l, c⟩ := t
  rw [ExAt] at h
  obtain ⟨_, _, _, _, _, rfl, _⟩ := h; rfl
theorem StAt.len {w : World} {B : Nat} {t : St} {cs : List Value} (h : StAt w B t cs) : cs.length = 17 := by
  obtain ⟨k, name, ty, place, e, body, els, other, l, c⟩ := t
  rw [StAt] at h
  obtain ⟨ct, _, _, _, _, _, _, _, _, rfl, _, h, _⟩ := h
  have := h.len
  simp; omega

theorem TysAt.get {w : World} {B : Nat} : ∀ {l : List Ty} {xs : List Value} (i : Nat) {t : Ty}, TysAt w B l xs → l[i]? = some t → ∃ cs, TyAt w B t cs ∧ ∀ j x, cs[j]? = some x → xs[i * 8 + j]? = some x
  | [], _, i, t, _, ht => by simp at ht
  | a :: r, xs, i, t, h, ht => by
    rw [TysAt] at h
    obtain ⟨c1, c2, rfl, h1, h2⟩ := h
    cases i with
    | zero =>
      simp at ht; subst ht
      refine ⟨c1, h1, fun j x hx => ?_⟩
      rw [Nat.zero_mul, Nat.zero_add, List.getElem?_append_left (List.getElem?_eq_some_iff.1 hx).1]; exact hx
    | succ i =>
      obtain ⟨cs, h3, h4⟩ := TysAt.get i h2 (by simpa using ht)
      refine ⟨cs, h3, fun j x hx => ?_⟩
      rw [List.getElem?_append_right (by rw [h1.len]; omega), h1.len, show (i + 1) * 8 + j - 8 = i * 8 + j by omega]
      exact h4 j x hx
theorem ExsAt.get {w : World} {B : Nat} : ∀ {l : List Ex} {xs : List Value} (i : Nat) {t : Ex}, ExsAt w B l xs → l[i]? = some t → ∃ cs, ExAt w B t cs ∧ ∀ j x, cs[j]? = some x → xs[i * 9 + j]? = some x
  | [], _, i, t, _, ht => by simp at ht
  | a :: r, xs, i, t, h, ht => by
    rw [ExsAt] at h
    obtain ⟨c1, c2, rfl, h1, h2⟩ := h
    cases i with
    | zero =>
      simp at ht; subst ht
      refine ⟨c1, h1, fun j x hx => ?_⟩
      rw [Nat.zero_mul, Nat.zero_add, List.getElem?_append_left (List.getElem?_eq_some_iff.1 hx).1]; exact hx
    | succ i =>
      obtain ⟨cs, h3, h4⟩ := ExsAt.get i h2 (by simpa using ht)
      refine ⟨cs, h3, fun j x hx => ?_⟩
      rw [List.getElem?_append_right (by rw [h1.len]; omega), h1.len, show (i + 1) * 9 + j - 9 = i * 9 + j by omega]
      exact h4 j x hx
theorem StsAt.get {w : World} {B : Nat} : ∀ {l : List St} {xs : List Value} (i : Nat) {t : St}, StsAt w B l xs → l[i]? = some t → ∃ cs, StAt w B t cs ∧ ∀ j x, cs[j]? = some x → xs[i * 17 + j]? = some x
  | [], _, i, t, _, ht => by simp at ht
  | a :: r, xs, i, t, h, ht => by
    rw [StsAt] at h
    obtain ⟨c1, c2, rfl, h1, h2⟩ := h
    cases i with
    | zero =>
      simp at ht; subst ht
      refine ⟨c1, h1, fun j x hx => ?_⟩
      rw [Nat.zero_mul, Nat.zero_add, List.getElem?_append_left (List.getElem?_eq_some_iff.1 hx).1]; exact hx
    | succ i =>
      obtain ⟨cs, h3, h4⟩ := StsAt.get i h2 (by simpa using ht)
      refine ⟨cs, h3, fun j x hx => ?_⟩
      rw [List.getElem?_append_right (by rw [h1.len]; omega), h1.len, show (i + 1) * 17 + j - 17 = i * 17 + j by omega]
      exact h4 j x hx
theorem TysAt.len {w : World} {B : Nat} : ∀ {l : List Ty} {xs : List Value}, TysAt w B l xs → xs.length = l.length * 8
  | [], _, h => by rw [TysAt] at h; subst h; rfl
  | a :: r, xs, h => by
    rw [TysAt] at h
    obtain ⟨c1, c2, rfl, h1, h2⟩ := h
    rw [List.length_append, h1.len, h2.len, List.length_cons]; omega
theorem ExsAt.len {w : World} {B : Nat} : ∀ {l : List Ex} {xs : List Value}, ExsAt w B l xs → xs.length = l.length * 9
  | [], _, h => by rw [ExsAt] at h; subst h; rfl
  | a :: r, xs, h => by
    rw [ExsAt] at h
    obtain ⟨c1, c2, rfl, h1, h2⟩ := h
    rw [List.length_append, h1.len, h2.len, List.length_cons]; omega

theorem StsAt.len {w : World} {B : Nat} : ∀ {l : List St} {xs : List Value}, StsAt w B l xs → xs.length = l.length * 17
  | [], _, h => by rw [StsAt] at h; subst h; rfl
  | a :: r, xs, h => by
    rw [StsAt] at h
    obtain ⟨c1, c2, rfl, h1, h2⟩ := h
    rw [List.length_append, h1.len, h2.len, List.length_cons]; omega
theorem Row.slice {w : World} {B : Nat} {v : Value} {n : Nat} {xs : List Value} (h : Row w B v n xs) : v.oneCell' = true := by
  obtain ⟨a, c, rfl, _⟩ := h; rfl
theorem ExAt.one {w : World} {B : Nat} {t : Ex} {cs : List Value} (h : ExAt w B t cs) : ∀ u ∈ cs, u.oneCell' = true := by
  obtain ⟨k, name, v, m, args, names, body, l, c⟩ := t
  rw [ExAt] at h
  obtain ⟨_, _, _, _, _, rfl, _, _, _, ⟨_, _, rfl, _⟩, ⟨_, _, rfl, _⟩, _, _, _, rfl, _⟩ := h
  intro u hu
  simp at hu
  rcases hu with rfl | rfl | rfl | rfl | rfl | rfl | rfl | rfl | rfl <;> rfl
theorem ExsAt.one {w : World} {B : Nat} : ∀ {l : List Ex} {xs : List Value}, ExsAt w B l xs → ∀ u ∈ xs, u.oneCell' = true
  | [], _, h => by rw [ExsAt] at h; subst h; intro u hu; cases hu
  | a :: r, xs, h => by
    rw [ExsAt] at h
    obtain ⟨c1, c2, rfl, h1, h2⟩ := h
    intro u hu
    rcases List.mem_append.1 hu with h | h
    · exact h1.one u h
    · exact ExsAt.one h2 u h
theorem ExsAt.append {w : World} {B : Nat} : ∀ {l : List Ex} {xs : List Value} {l' : List Ex} {xs' : List Value}, ExsAt w B l xs → ExsAt w B l' xs' → ExsAt w B (l ++ l') (xs ++ xs')
  | [], _, _, _, h, h' => by rw [ExsAt] at h; subst h; exact h'
  | a :: r, xs, l', xs', h, h' => by
    rw [ExsAt] at h
    obtain ⟨c1, c2, rfl, h1, h2⟩ := h
    rw [List.cons_append, ExsAt]
    exact ⟨c1, c2 ++ xs', by rw [List.append_assoc], h1, ExsAt.append h2 h'⟩
/- The cells of the i-th element of a row. -/
theorem TysAt.cells {w : World} {B : Nat} {l : List Ty} {xs : List Value} {g o i : Nat} {t : Ty} (h : TysAt w B l xs) (ht : l[i]? = some t) (hc : ∀ (i : Nat) x, xs[i]? = some x → w.cell? ⟨g, o + i, none⟩ = some x) :
    ∃ cs, TyAt w B t cs ∧ ∀ j x, cs[j]? = some x → w.cell? ⟨g, o + i * 8 + j, none⟩ = some x := by
  obtain ⟨cs, h1, h2⟩ := TysAt.get i h ht
  exact ⟨cs, h1, fun j x hx => by rw [Nat.add_assoc]; exact hc _ _ (h2 j x hx)⟩
theorem ExsAt.cells {w : World} {B : Nat} {l : List Ex} {xs : List Value} {g o i : Nat} {t : Ex} (h : ExsAt w B l xs) (ht : l[i]? = some t) (hc : ∀ (i : Nat) x, xs[i]? = some x → w.cell? ⟨g, o + i, none⟩ = some x) :
    ∃ cs, ExAt w B t cs ∧ ∀ j x, cs[j]? = some x → w.cell? ⟨g, o + i * 9 + j, none⟩ = some x := by
  obtain ⟨cs, h1, h2⟩ := ExsAt.get i h ht
  exact ⟨cs, h1, fun j x hx => by rw [Nat.add_assoc]; exact hc _ _ (h2 j x hx)⟩
theorem StsAt.cells {w : World} {B : Nat} {l : List St} {xs : List Value} {g o i : Nat} {t : St} (h : StsAt w B l xs) (ht : l[i]? = some t) (hc : ∀ (i : Nat) x, xs[i]? = some x → w.cell? ⟨g, o + i, none⟩ = some x) :
    ∃ cs, StAt w B t cs ∧ ∀ j x, cs[j]? = some x → w.cell? ⟨g, o + i * 17 + j, none⟩ = some x := by
  obtain ⟨cs, h1, h2⟩ := StsAt.get i h ht
  exact ⟨cs, h1, fun j x hx => by rw [Nat.add_assoc]; exact hc _ _ (h2 j x hx)⟩

end Go.Proofs.Ytfjkkfdpeckccaa
