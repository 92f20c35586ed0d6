/- Facts on the nodes of a graph, plain: what goes back along it, what goes forward; sets of bits in words. -/
import Derived.Laws.BitsAllLaws
namespace Go.Proofs.Ytilipeigjkmldaa

/- Facts that come back: made by a node, or behind one that doesn't end them. -/
inductive Back (succ : Nat → List Nat) (gen kill : Nat → Nat → Prop) : Nat → Nat → Prop where
  | gen {i e : Nat} : gen i e → Back succ gen kill i e
  | step {i e t : Nat} : ¬ kill i e → t ∈ succ i → Back succ gen kill t e → Back succ gen kill i e

theorem Back.out {succ : Nat → List Nat} {gen kill : Nat → Nat → Prop} {i e : Nat} (h : Back succ gen kill i e) : gen i e ∨ (¬ kill i e ∧ ∃ t ∈ succ i, Back succ gen kill t e) := by
  cases h with
  | gen h => exact .inl h
  | step h1 h2 h3 => exact .inr ⟨h1, _, h2, h3⟩
/- What is closed has all of them. -/
theorem Back.least {succ : Nat → List Nat} {gen kill : Nat → Nat → Prop} {n : Nat} (S : Nat → Nat → Prop) (hs : ∀ i t, i < n → t ∈ succ i → t < n) (hg : ∀ i e, i < n → gen i e → S i e) (hc : ∀ i e t, i < n → ¬ kill i e → t ∈ succ i → S t e → S i e) {i e : Nat} (h : Back succ gen kill i e) (hi : i < n) : S i e := by
  induction h with
  | gen h => exact hg _ _ hi h
  | step h1 h2 h3 ih => exact hc _ _ _ hi h1 h2 (ih (hs _ _ hi h2))

/- Facts that go forward: there at first, made by a node, or ahead of one that doesn't end them. -/
inductive Forth (succ : Nat → List Nat) (gen kill : Nat → Nat → Prop) (entry : Nat → Prop) : Nat → Nat → Prop where
  | entry {e : Nat} : entry e → Forth succ gen kill entry 0 e
  | gen {i t e : Nat} : gen i e → t ∈ succ i → Forth succ gen kill entry t e
  | step {i t e : Nat} : Forth succ gen kill entry i e → ¬ kill i e → t ∈ succ i → Forth succ gen kill entry t e
theorem Forth.least {succ : Nat → List Nat} {gen kill : Nat → Nat → Prop} {entry : Nat → Prop} {n : Nat} (S : Nat → Nat → Prop) (hz : ∀ i, n ≤ i → succ i = []) (he : ∀ e, entry e → S 0 e) (hg : ∀ i t e, i < n → gen i e → t ∈ succ i → S t e) (hc : ∀ i t e, i < n → S i e → ¬ kill i e → t ∈ succ i → S t e) {i e : Nat} (h : Forth succ gen kill entry i e) : S i e := by
  have hlt : ∀ {i t}, t ∈ succ i → i < n := by
    intro i t ht
    rcases Nat.lt_or_ge i n with h | h
    · exact h
    · rw [hz i h] at ht; cases ht
  induction h with
  | entry h => exact he _ h
  | gen h1 h2 => exact hg _ _ _ (hlt h2) h1 h2
  | step h1 h2 h3 ih => exact hc _ _ _ (hlt h3) ih h2 h3

/- A set of bits in words of 64. -/
def bit (ws : List Nat) (e : Nat) : Bool := (ws.getD (e / 64) 0).testBit (e % 64)
def words (ws : List Nat) : Prop := ∀ x ∈ ws, x < 18446744073709551616
theorem words_get {ws : List Nat} (h : words ws) (i : Nat) : ws.getD i 0 < 18446744073709551616 := by
  rw [List.getD_eq_getElem?_getD]
  by_cases hi : i < ws.length
  · rw [List.getElem?_eq_getElem hi]; exact h _ (List.getElem_mem hi)
  · rw [List.getElem?_eq_none (by omega)]; decide
theorem words_set {ws : List Nat} (h : words ws) (i x : Nat) (hx : x < 18446744073709551616) : words (ws.set i x) := by
  intro y hy
  rcases List.mem_or_eq_of_mem_set hy with h1 | h1
  · exact h y h1
  · rw [h1]; exact hx
theorem words_zero (n : Nat) : words (List.replicate n 0) := by
  intro x hx; rw [(List.mem_replicate.1 hx).2]; decide
theorem bit_zero (n e : Nat) : bit (List.replicate n 0) e = false := by
  unfold bit
  rw [List.getD_eq_getElem?_getD, List.getElem?_replicate]
  split <;> simp
theorem getD_set (ws : List Nat) (i j x : Nat) : (ws.set i x).getD j 0 = if i = j ∧ i < ws.length then x else ws.getD j 0 := by
  rw [List.getD_eq_getElem?_getD, List.getD_eq_getElem?_getD, List.getElem?_set]
  by_cases h : i = j
  · subst h
    by_cases h2 : i < ws.length
    · simp [h2]
    · simp [h2]
  · simp [h]
/- A fact is put in. -/
def setB (ws : List Nat) (e : Nat) : List Nat := ws.set (e / 64) (ws.getD (e / 64) 0 ||| 2 ^ (e % 64))
def clrB (ws : List Nat) (e : Nat) : List Nat := ws.set (e / 64) (ws.getD (e / 64) 0 &&& (18446744073709551615 - 2 ^ (e % 64)))
theorem pow_lt (e : Nat) : 2 ^ (e % 64) < 18446744073709551616 := by
  have : (2 : Nat) ^ (e % 64) < 2 ^ 64 := Nat.pow_lt_pow_right (by decide) (Nat.mod_lt _ (by decide))
  simpa using this
theorem setB_words {ws : List Nat} (h : words ws) (e : Nat) : words (setB ws e) :=
  words_set h _ _ (by have := Nat.or_lt_two_pow (n := 64) (x := ws.getD (e / 64) 0) (y := 2 ^ (e % 64)) (by simpa using words_get h _) (by simpa using pow_lt e); simpa using this)
theorem clrB_words {ws : List Nat} (h : words ws) (e : Nat) : words (clrB ws e) :=
  words_set h _ _ (Nat.lt_of_le_of_lt Nat.and_le_left (words_get h _))
theorem setB_len (ws : List Nat) (e : Nat) : (setB ws e).length = ws.length := by simp [setB]
theorem clrB_len (ws : List Nat) (e : Nat) : (clrB ws e).length = ws.length := by simp [clrB]
theorem bit_set (ws : List Nat) (e f : Nat) (he : e / 64 < ws.length) : bit (setB ws e) f = (bit ws f || decide (e = f)) := by
  unfold bit setB
  rw [getD_set]
  by_cases h : e / 64 = f / 64
  · rw [if_pos ⟨h, he⟩, Nat.testBit_or, h]
    congr 1
    rw [Nat.testBit_two_pow]
    by_cases h2 : e % 64 = f % 64
    · simp [show e = f by omega]
    · simp [h2, show e ≠ f by intro h; subst h; exact h2 rfl]
  · rw [if_neg (fun hh => h hh.1)]
    have : e ≠ f := by intro hh; subst hh; exact h rfl
    simp [this]
theorem mask_bit (k i : Nat) (hk : k < 64) (hi : i < 64) : (18446744073709551615 - 2 ^ k).testBit i = !decide (k = i) := by
  have h := Nat.testBit_two_pow_sub_succ (x := 2 ^ k) (n := 64) (Nat.pow_lt_pow_right (by decide) hk) i
  rw [show (2 : Nat) ^ 64 - (2 ^ k + 1) = 18446744073709551615 - 2 ^ k by omega] at h
  rw [h, Nat.testBit_two_pow]
  simp [hi]
theorem bit_clr (ws : List Nat) (e f : Nat) (he : e / 64 < ws.length) : bit (clrB ws e) f = (bit ws f && !decide (e = f)) := by
  unfold bit clrB
  rw [getD_set]
  by_cases h : e / 64 = f / 64
  · rw [if_pos ⟨h, he⟩, Nat.testBit_and, mask_bit _ _ (Nat.mod_lt _ (by decide)) (Nat.mod_lt _ (by decide)), h]
    congr 2
    rw [decide_eq_decide]
    omega
  · rw [if_neg (fun hh => h hh.1)]
    have : e ≠ f := by intro hh; subst hh; exact h rfl
    simp [this]
def setL (ws : List Nat) (l : List Nat) : List Nat := l.foldl setB ws
def clrL (ws : List Nat) (l : List Nat) : List Nat := l.foldl clrB ws
theorem setL_words : ∀ (l : List Nat) {ws : List Nat}, words ws → words (setL ws l)
  | [], _, h => h
  | e :: r, _, h => setL_words r (setB_words h e)
theorem clrL_words : ∀ (l : List Nat) {ws : List Nat}, words ws → words (clrL ws l)
  | [], _, h => h
  | e :: r, _, h => clrL_words r (clrB_words h e)
theorem setL_len : ∀ (l ws : List Nat), (setL ws l).length = ws.length
  | [], _ => rfl
  | e :: r, ws => (setL_len r (setB ws e)).trans (setB_len ws e)
theorem clrL_len : ∀ (l ws : List Nat), (clrL ws l).length = ws.length
  | [], _ => rfl
  | e :: r, ws => (clrL_len r (clrB ws e)).trans (clrB_len ws e)
theorem bit_setL : ∀ (l ws : List Nat) (f : Nat), (∀ e ∈ l, e / 64 < ws.length) → bit (setL ws l) f = (bit ws f || decide (f ∈ l))
  | [], ws, f, _ => by simp [setL]
  | e :: r, ws, f, h => by
    have := bit_setL r (setB ws e) f (fun x hx => by rw [setB_len]; exact h x (List.mem_cons_of_mem _ hx))
    show bit (setL (setB ws e) r) f = _
    rw [this, bit_set _ _ _ (h e (List.mem_cons_self ..)), Bool.or_assoc]
    congr 1
    by_cases h1 : f = e
    · simp [h1]
    · simp [h1, Ne.symm h1]
theorem bit_clrL : ∀ (l ws : List Nat) (f : Nat), (∀ e ∈ l, e / 64 < ws.length) → bit (clrL ws l) f = (bit ws f && !decide (f ∈ l))
  | [], ws, f, _ => by simp [clrL]
  | e :: r, ws, f, h => by
    have := bit_clrL r (clrB ws e) f (fun x hx => by rw [clrB_len]; exact h x (List.mem_cons_of_mem _ hx))
    show bit (clrL (clrB ws e) r) f = _
    rw [this, bit_clr _ _ _ (h e (List.mem_cons_self ..)), Bool.and_assoc]
    congr 1
    by_cases h1 : f = e
    · simp [h1]
    · simp [h1, Ne.symm h1]
theorem setL_snoc (ws l : List Nat) (e : Nat) : setL ws (l ++ [e]) = setB (setL ws l) e := by simp [setL]
theorem clrL_snoc (ws l : List Nat) (e : Nat) : clrL ws (l ++ [e]) = clrB (clrL ws l) e := by simp [clrL]

/- One set put into another one. -/
def joinW (a b : List Nat) : List Nat := List.zipWith (fun x y => x ||| y) a b
theorem joinW_len {a b : List Nat} (h : a.length = b.length) : (joinW a b).length = a.length := by simp [joinW, h]
theorem joinW_get (a b : List Nat) (h : a.length = b.length) (i : Nat) : (joinW a b).getD i 0 = a.getD i 0 ||| b.getD i 0 := by
  unfold joinW
  simp only [List.getD_eq_getElem?_getD, List.getElem?_zipWith]
  by_cases hi : i < a.length
  · rw [List.getElem?_eq_getElem hi, List.getElem?_eq_getElem (by omega : i < b.length)]; rfl
  · rw [List.getElem?_eq_none (by omega : a.length ≤ i), List.getElem?_eq_none (by omega : b.length ≤ i)]; rfl
theorem joinW_words {a b : List Nat} (ha : words a) (hb : words b) : words (joinW a b) := by
  intro x hx
  unfold joinW at hx
  obtain ⟨i, hi⟩ := List.getElem?_of_mem hx
  rw [List.getElem?_zipWith] at hi
  cases h1 : a[i]? with
  | none => simp [h1] at hi
  | some y =>
    cases h2 : b[i]? with
    | none => simp [h1, h2] at hi
    | some z =>
      simp [h1, h2] at hi
      subst hi
      have := Nat.or_lt_two_pow (n := 64) (x := y) (y := z) (by simpa using ha y (List.mem_of_getElem? h1)) (by simpa using hb z (List.mem_of_getElem? h2))
      simpa using this
theorem bit_join (a b : List Nat) (h : a.length = b.length) (e : Nat) : bit (joinW a b) e = (bit a e || bit b e) := by
  unfold bit
  rw [joinW_get a b h, Nat.testBit_or]
/- What is not yet in a set: what it lacks of all bits. -/
def lack : List Nat → Nat
  | [] => 0
  | x :: r => (18446744073709551615 - x) + lack r
theorem le_or (x y : Nat) : x ≤ x ||| y := Nat.left_le_or
theorem or_ne {x y : Nat} (h : x ||| y ≠ x) : x < x ||| y := by
  have := @Nat.left_le_or x y; omega
theorem andnot_zero {x y : Nat} (hx : x < 18446744073709551616) (hy : y < 18446744073709551616) : y &&& (18446744073709551615 - x) = 0 ↔ x ||| y = x := by
  constructor
  · intro h
    apply Nat.eq_of_testBit_eq
    intro i
    rw [Nat.testBit_or]
    have h1 : (y &&& (18446744073709551615 - x)).testBit i = false := by rw [h]; exact Nat.zero_testBit i
    rw [Nat.testBit_and] at h1
    have h2 := Nat.testBit_two_pow_sub_succ (x := x) (n := 64) (by simpa using hx) i
    rw [show (2 : Nat) ^ 64 - (x + 1) = 18446744073709551615 - x by omega] at h2
    rw [h2] at h1
    by_cases hi : i < 64
    · cases hxb : x.testBit i <;> cases hyb : y.testBit i <;> simp_all
    · have h3 : y.testBit i = false := Nat.testBit_lt_two_pow (Nat.lt_of_lt_of_le (by simpa using hy : y < 2 ^ 64) (Nat.pow_le_pow_right (by decide) (by omega)))
      simp [h3]
  · intro h
    apply Nat.eq_of_testBit_eq
    intro i
    rw [Nat.testBit_and, Nat.zero_testBit]
    have h2 := Nat.testBit_two_pow_sub_succ (x := x) (n := 64) (by simpa using hx) i
    rw [show (2 : Nat) ^ 64 - (x + 1) = 18446744073709551615 - x by omega] at h2
    rw [h2]
    have h1 : (x ||| y).testBit i = x.testBit i := by rw [h]
    rw [Nat.testBit_or] at h1
    cases hxb : x.testBit i <;> cases hyb : y.testBit i <;> simp_all
theorem lack_join : ∀ (a b : List Nat), a.length = b.length → words a → words b → lack (joinW a b) ≤ lack a ∧ (joinW a b ≠ a → lack (joinW a b) < lack a)
  | [], [], _, _, _ => ⟨Nat.le_refl _, fun h => absurd rfl h⟩
  | x :: a, y :: b, hl, ha, hb => by
    obtain ⟨h1, h2⟩ := lack_join a b (by simpa using hl) (fun z hz => ha z (List.mem_cons_of_mem _ hz)) (fun z hz => hb z (List.mem_cons_of_mem _ hz))
    have hx : x < 18446744073709551616 := ha x (List.mem_cons_self ..)
    have hy : y < 18446744073709551616 := hb y (List.mem_cons_self ..)
    have hlt : x ||| y < 18446744073709551616 := by
      have := Nat.or_lt_two_pow (n := 64) (x := x) (y := y) (by simpa using hx) (by simpa using hy); simpa using this
    have hle := le_or x y
    show (18446744073709551615 - (x ||| y)) + lack (joinW a b) ≤ (18446744073709551615 - x) + lack a ∧ ((x ||| y) :: joinW a b ≠ x :: a → (18446744073709551615 - (x ||| y)) + lack (joinW a b) < (18446744073709551615 - x) + lack a)
    refine ⟨by omega, fun hne => ?_⟩
    by_cases he : x ||| y = x
    · have : joinW a b ≠ a := fun h => hne (by rw [he, h])
      have := h2 this
      omega
    · have := or_ne he
      omega
  | [], _ :: _, hl, _, _ => by simp at hl
  | _ :: _, [], hl, _, _ => by simp at hl
/- A part of a join: the first k words are joined. -/
theorem join_take_step (a b : List Nat) (h : a.length = b.length) (k : Nat) (hk : k < b.length) :
    (joinW (a.take k) (b.take k) ++ a.drop k).set k (a.getD k 0 ||| b.getD k 0) = joinW (a.take (k + 1)) (b.take (k + 1)) ++ a.drop (k + 1) := by
  have h1 : (joinW (a.take k) (b.take k)).length = k := by rw [joinW_len (by simp [h])]; simp; omega
  have ha : a.drop k = a.getD k 0 :: a.drop (k + 1) := by
    rw [List.drop_eq_getElem_cons (by omega : k < a.length), List.getD_eq_getElem?_getD, List.getElem?_eq_getElem (by omega : k < a.length)]; rfl
  have h2 : joinW (a.take (k + 1)) (b.take (k + 1)) = joinW (a.take k) (b.take k) ++ [a.getD k 0 ||| b.getD k 0] := by
    unfold joinW
    rw [List.take_add_one, List.take_add_one, List.getElem?_eq_getElem (by omega : k < a.length), List.getElem?_eq_getElem hk, List.zipWith_append (by simp [h])]
    simp [List.getD_eq_getElem?_getD, List.getElem?_eq_getElem (by omega : k < a.length), List.getElem?_eq_getElem hk]
  rw [h2, ha, List.set_append_right _ _ (by omega), h1, Nat.sub_self, List.set_cons_zero, List.append_assoc]; rfl

end Go.Proofs.Ytilipeigjkmldaa
