/- Lists of things of a fixed number of cells, cell behind cell; rows of them in memory; slices of slices. -/
import Derived.Test.YtilipeigjkmldaaRead2
namespace Go.Proofs.Ytilipeigjkmldaa
open Go.RowKit

def Each {α : Type} (R : α → List Value → Prop) : List α → List Value → Prop
  | [], cs => cs = []
  | t :: r, cs => ∃ c1 c2, cs = c1 ++ c2 ∧ R t c1 ∧ Each R r c2

section
variable {α : Type} {R R' : α → List Value → Prop}
theorem Each.nil : Each R [] [] := by rw [Each]
theorem Each.mono (h : ∀ t cs, R t cs → R' t cs) : ∀ (l : List α) (xs : List Value), Each R l xs → Each R' l xs
  | [], xs, hh => by rw [Each] at hh ⊢; exact hh
  | t :: r, xs, hh => by
    rw [Each] at hh ⊢
    obtain ⟨c1, c2, h1, h2, h3⟩ := hh
    exact ⟨c1, c2, h1, h t c1 h2, Each.mono h r c2 h3⟩
theorem Each.mem_mono : ∀ (l : List α) (xs : List Value), (∀ t ∈ l, ∀ cs, R t cs → R' t cs) → Each R l xs → Each R' l xs
  | [], xs, _, hh => by rw [Each] at hh ⊢; exact hh
  | t :: r, xs, h, hh => by
    rw [Each] at hh ⊢
    obtain ⟨c1, c2, h1, h2, h3⟩ := hh
    exact ⟨c1, c2, h1, h t (List.mem_cons_self ..) c1 h2, Each.mem_mono r c2 (fun t ht => h t (List.mem_cons_of_mem _ ht)) h3⟩
theorem Each.len (k : Nat) (hk : ∀ t cs, R t cs → cs.length = k) : ∀ (l : List α) (xs : List Value), Each R l xs → xs.length = l.length * k
  | [], xs, h => by rw [Each] at h; subst h; simp
  | t :: r, xs, h => by
    rw [Each] at h
    obtain ⟨c1, c2, rfl, h1, h2⟩ := h
    rw [List.length_append, hk t c1 h1, Each.len k hk r c2 h2, List.length_cons, Nat.add_mul]; omega
theorem Each.one (h1 : ∀ t cs, R t cs → ∀ u ∈ cs, u.oneCell' = true) : ∀ (l : List α) (xs : List Value), Each R l xs → ∀ u ∈ xs, u.oneCell' = true
  | [], xs, h => by rw [Each] at h; subst h; intro u hu; cases hu
  | t :: r, xs, h => by
    rw [Each] at h
    obtain ⟨c1, c2, rfl, h2, h3⟩ := h
    intro u hu
    rcases List.mem_append.1 hu with h | h
    · exact h1 t c1 h2 u h
    · exact Each.one h1 r c2 h3 u h
theorem Each.append : ∀ (l : List α) (xs : List Value) (l' : List α) (xs' : List Value), Each R l xs → Each R l' xs' → Each R (l ++ l') (xs ++ xs')
  | [], _, _, _, h, h' => by rw [Each] at h; subst h; exact h'
  | t :: r, xs, l', xs', h, h' => by
    rw [Each] at h
    obtain ⟨c1, c2, rfl, h1, h2⟩ := h
    rw [List.cons_append, Each]
    exact ⟨c1, c2 ++ xs', by rw [List.append_assoc], h1, Each.append r c2 l' xs' h2 h'⟩
theorem Each.single {t : α} {cs : List Value} (h : R t cs) : Each R [t] cs := by rw [Each]; exact ⟨cs, [], by simp, h, Each.nil⟩
theorem Each.snoc {l : List α} {xs : List Value} {t : α} {cs : List Value} (h : Each R l xs) (h1 : R t cs) : Each R (l ++ [t]) (xs ++ cs) := Each.append _ _ _ _ h (Each.single h1)
theorem Each.get (k : Nat) (hk : ∀ t cs, R t cs → cs.length = k) : ∀ (l : List α) (xs : List Value) (i : Nat) (t : α), Each R l xs → l[i]? = some t → ∃ cs, R t cs ∧ ∀ (j : Nat) x, cs[j]? = some x → xs[i * k + j]? = some x
  | [], _, i, t, _, ht => by simp at ht
  | a :: r, xs, i, t, h, ht => by
    rw [Each] at h
    obtain ⟨c1, c2, rfl, h1, h2⟩ := h
    cases i with
    | zero =>
      simp at ht; subst ht
      refine ⟨c1, h1, fun j x hx => ?_⟩
      rw [Nat.zero_mul, Nat.zero_add, List.getElem?_append_left (List.getElem?_eq_some_iff.1 hx).1]; exact hx
    | succ i =>
      obtain ⟨cs, h3, h4⟩ := Each.get k hk r c2 i t h2 (by simpa using ht)
      refine ⟨cs, h3, fun j x hx => ?_⟩
      have hl := hk a c1 h1
      rw [List.getElem?_append_right (by rw [hl, Nat.add_mul]; omega), hl, show (i + 1) * k + j - k = i * k + j by rw [Nat.add_mul]; omega]
      exact h4 j x hx
/- The cells of the i-th thing, where the row's cells lie in memory. -/
theorem Each.cells (k : Nat) (hk : ∀ t cs, R t cs → cs.length = k) {w : World} {l : List α} {xs : List Value} {g o i : Nat} {t : α} (h : Each R l xs) (ht : l[i]? = some t) (hc : ∀ (i : Nat) x, xs[i]? = some x → w.cell? ⟨g, o + i, none⟩ = some x) :
    ∃ cs, R t cs ∧ ∀ (j : Nat) x, cs[j]? = some x → w.cell? ⟨g, o + i * k + j, none⟩ = some x := by
  obtain ⟨cs, h1, h2⟩ := Each.get k hk l xs i t h ht
  exact ⟨cs, h1, fun j x hx => by rw [Nat.add_assoc]; exact hc _ _ (h2 j x hx)⟩
end

theorem Row.one {w : World} {B : Nat} {v : Value} {n : Nat} {xs : List Value} (h : Row w B v n xs) : v.oneCell' = true := by
  obtain ⟨a, c, rfl, _⟩ := h; rfl
theorem Row.nil (w : World) (B : Nat) (xs : List Value) : Row w B (.slice none 0 0) 0 xs := ⟨none, 0, rfl, Nat.le_refl _, by decide, fun _ => ⟨rfl, rfl⟩, fun h => absurd h (Nat.lt_irrefl _)⟩
/- A slice of what is in a block of its own, known whole. -/
theorem Row.new {w : World} {b t n : Nat} {cs : List Value} (h : w.heap[b]? = some (.cells cs.toArray t (0, 0))) (hn : n ≤ 9223372036854775807) : Row w (b + 1) (.slice (some ⟨b, 0, none⟩) n n) n cs := by
  refine ⟨_, n, rfl, Nat.le_refl _, hn, (fun h => nomatch h), fun _ => ⟨b, 0, rfl, by omega, blk_lt h, fun i x hx => ?_⟩⟩
  have := news_cells h i x hx
  rwa [add_is] at this

/- Slices of slices: of integers. -/
def IntsAt (w : World) (B : Nat) (l : List Int) (cs : List Value) : Prop := ∃ v, cs = [v] ∧ Row w B v l.length (intsV l)
theorem IntsAt.len {w : World} {B : Nat} (l : List Int) (cs : List Value) (h : IntsAt w B l cs) : cs.length = 1 := by obtain ⟨v, rfl, _⟩ := h; rfl
theorem IntsAt.one {w : World} {B : Nat} (l : List Int) (cs : List Value) (h : IntsAt w B l cs) : ∀ u ∈ cs, u.oneCell' = true := by
  obtain ⟨v, rfl, h⟩ := h
  intro u hu
  rw [List.mem_singleton.1 hu]; exact h.one
theorem IntsAt.step {w w' : World} {B : Nat} {S : Nat → Prop} (hs : Step S w w') (hS : ∀ k, k < B → ¬ S k) (l : List Int) (cs : List Value) (h : IntsAt w B l cs) : IntsAt w' B l cs := by
  obtain ⟨v, h1, h2⟩ := h
  exact ⟨v, h1, h2.step hs hS⟩
theorem IntsAt.mono {w : World} {B B' : Nat} (hb : B ≤ B') (l : List Int) (cs : List Value) (h : IntsAt w B l cs) : IntsAt w B' l cs := by
  obtain ⟨v, h1, h2⟩ := h
  exact ⟨v, h1, h2.mono hb⟩
/- A value that is a slice of slices of integers. -/
def Rows2 (w : World) (B : Nat) (v : Value) (ll : List (List Int)) : Prop := ∃ xs, Each (IntsAt w B) ll xs ∧ Row w B v ll.length xs
theorem Rows2.step {w w' : World} {B : Nat} {S : Nat → Prop} {v : Value} {ll : List (List Int)} (h : Rows2 w B v ll) (hs : Step S w w') (hS : ∀ k, k < B → ¬ S k) : Rows2 w' B v ll := by
  obtain ⟨xs, h1, h2⟩ := h
  exact ⟨xs, Each.mono (IntsAt.step hs hS) _ _ h1, h2.step hs hS⟩
theorem Rows2.mono {w : World} {B B' : Nat} {v : Value} {ll : List (List Int)} (h : Rows2 w B v ll) (hb : B ≤ B') : Rows2 w B' v ll := by
  obtain ⟨xs, h1, h2⟩ := h
  exact ⟨xs, Each.mono (IntsAt.mono hb) _ _ h1, h2.mono hb⟩

end Go.Proofs.Ytilipeigjkmldaa
