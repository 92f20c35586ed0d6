/- The plain law of LexAgain: the texts of a text's tokens, put together, have the same tokens, but for their places. -/
import Derived.Test.YtfjkkfdpeckccaaLexU
namespace Go.Proofs.Ytfjkkfdpeckccaa
open Go.RowKit

/- What may stand behind a token's text so that it stays one: nothing, or a blank. -/
def Apart (y : List UInt8) : Prop := y = [] ∨ ∃ t, y = 32 :: t

theorem wordy_blank : wordy 32 = false := by decide
theorem runF_stays (r y : List UInt8) (hy : Apart y) : runF (r.take (runF r) ++ y) = runF r := by
  induction r with
  | nil =>
    rcases hy with rfl | ⟨t, rfl⟩
    · rfl
    · exact runF_no wordy_blank
  | cons c r ih =>
    cases h : wordy c
    · rw [runF_no h, List.take_zero, List.nil_append]
      rcases hy with rfl | ⟨t, rfl⟩
      · rfl
      · exact runF_no wordy_blank
    · rw [runF_yes h, List.take_succ_cons, List.cons_append, runF_yes h, ih]

theorem take_append_self (r y : List UInt8) (n : Nat) (hn : n ≤ r.length) : (r.take n ++ y).take n = r.take n := by
  rw [List.take_append_of_le_length (by rw [List.length_take]; omega), List.take_take, Nat.min_self]

theorem nextF_stays {r y : List UInt8} {kind n val : Nat} (h : nextF r = .ok (kind, n, val)) (hy : Apart y) : nextF (r.take n ++ y) = .ok (kind, n, val) := by
  have hpos := nextF_pos h
  cases r with
  | nil => simp [nextF] at h
  | cons c r =>
    obtain ⟨k, rfl⟩ : ∃ k, n = k + 1 := ⟨n - 1, by omega⟩
    have hle := runF_le (c :: r)
    rw [List.take_succ_cons, List.cons_append, nextF]
    rw [nextF] at h
    split at h
    · rename_i hL
      rw [if_pos hL]
      unfold nameF at h ⊢
      split at h
      · simp at h
      · rename_i h24
        simp at h
        obtain ⟨rfl, hk, rfl⟩ := h
        have := runF_stays (c :: r) y hy
        rw [hk, List.take_succ_cons, List.cons_append] at this
        rw [this, if_neg (by omega)]
    · rename_i hL
      rw [if_neg hL]
      split at h
      · rename_i hc
        rw [if_pos hc]
        rw [lifeF] at h ⊢
        split at h
        · simp at h
        · rename_i hns
          split at h
          · simp at h
          · rename_i h24
            simp at h
            obtain ⟨rfl, hk, rfl⟩ := h
            subst hk
            have hr := runF_stays r y hy
            have h0 : runF r ≠ 0 := fun e => hns (.inl e)
            have hh : (r.take (runF r) ++ y).headD 0 = r.headD 0 := by
              cases r with
              | nil => exact absurd rfl h0
              | cons d r =>
                obtain ⟨j, hj⟩ : ∃ j, runF (d :: r) = j + 1 := ⟨runF (d :: r) - 1, by omega⟩
                rw [hj]; rfl
            rw [hr, hh, if_neg hns, if_neg h24]
      · rename_i hc
        rw [if_neg hc]
        split at h
        · rename_i hD
          rw [if_pos hD]
          have hlen : ((c :: r).take (runF (c :: r))).length = runF (c :: r) := by rw [List.length_take]; omega
          have hn : k + 1 = runF (c :: r) := by
            unfold numberF numF at h
            rw [hlen] at h
            split at h <;> split at h <;> simp at h <;> omega
          have := runF_stays (c :: r) y hy
          unfold numberF at h ⊢
          rw [← hn] at this h
          rw [List.take_succ_cons, List.cons_append] at this
          rw [this]
          have ht := take_append_self (c :: r) y (k + 1) (by omega)
          rw [List.take_succ_cons, List.cons_append] at ht
          rw [ht]; exact h
        · rename_i hD
          rw [if_neg hD]
          have hone : ∀ z, Apart z → isOne c = true → markF (c :: z) = .ok (5, 1, 0) := by
            intro z hz h1
            rcases hz with rfl | ⟨t, rfl⟩
            · rw [markF, if_pos h1]
            · rw [markF, show isTwo c 32 = false by unfold isTwo; simp, if_neg (by simp), if_pos h1]
          cases r with
          | nil =>
            rw [markF] at h
            split at h
            · rename_i h1
              simp at h
              obtain ⟨rfl, rfl, rfl⟩ := h
              rw [List.take_nil, List.nil_append]
              exact hone y hy h1
            · simp at h
          | cons d r =>
            rw [markF] at h
            split at h
            · rename_i h2
              simp at h
              obtain ⟨rfl, rfl, rfl⟩ := h
              rw [List.take_succ_cons, List.take_zero, List.cons_append, List.nil_append, markF, if_pos h2]
            · split at h
              · rename_i h1
                simp at h
                obtain ⟨rfl, rfl, rfl⟩ := h
                rw [List.take_zero, List.nil_append]
                exact hone y hy h1
              · simp at h

/- A token's first byte is none that is passed over. -/
theorem nextF_head {c : UInt8} {r : List UInt8} {kind n val : Nat} (h : nextF (c :: r) = .ok (kind, n, val)) : c ≠ 10 ∧ ¬ (c = 32 ∨ c = 9 ∨ c = 13) ∧ (c = 47 → n = 1) := by
  have bad : ∀ c : UInt8, c = 10 ∨ c = 32 ∨ c = 9 ∨ c = 13 → isLetter c.toNat = false ∧ c ≠ 39 ∧ isDigit c.toNat = false ∧ isOne c = false ∧ ∀ d, isTwo c d = false := by
    rintro c (rfl | rfl | rfl | rfl) <;> refine ⟨by decide, by decide, by decide, by decide, fun d => ?_⟩ <;> unfold isTwo <;> simp
  have nogood : ∀ c : UInt8, c = 10 ∨ c = 32 ∨ c = 9 ∨ c = 13 → ∀ r x, nextF (c :: r) = .ok x → False := by
    intro c hc r x hx
    obtain ⟨b1, b2, b3, b4, b5⟩ := bad c hc
    rw [nextF, if_neg (by rw [b1]; simp), if_neg b2, if_neg (by rw [b3]; simp)] at hx
    cases r with
    | nil => rw [markF, b4] at hx; simp at hx
    | cons d r => rw [markF, b5 d, b4] at hx; simp at hx
  refine ⟨fun e => nogood c (.inl e) r _ h, ?_, ?_⟩
  · rintro (e | e | e)
    · exact nogood c (.inr (.inl e)) r _ h
    · exact nogood c (.inr (.inr (.inl e))) r _ h
    · exact nogood c (.inr (.inr (.inr e))) r _ h
  · rintro rfl
    rw [nextF, if_neg (by decide), if_neg (by decide), if_neg (by decide)] at h
    have h2 : ∀ d, isTwo 47 d = false := fun d => by unfold isTwo; simp
    cases r with
    | nil => rw [markF, if_pos (by decide)] at h; simp at h; omega
    | cons d r => rw [markF, h2 d, if_neg (by simp), if_pos (by decide)] at h; simp at h; omega

/- A token as the lexer may have cut it. -/
def Good (t : Tok) : Prop := ∃ r, nextF r = .ok (t.kind, t.text.length, t.val) ∧ t.text = r.take t.text.length
def sumLen (l : List Tok) : Nat := (l.map (·.text.length)).sum
theorem sumLen_snoc (l : List Tok) (t : Tok) : sumLen (l ++ [t]) = sumLen l + t.text.length := by simp [sumLen]

theorem Good.pos {t : Tok} (h : Good t) : 1 ≤ t.text.length := by obtain ⟨r, h1, _⟩ := h; exact (nextF_pos h1).1
theorem Good.next {t : Tok} (h : Good t) {y : List UInt8} (hy : Apart y) : nextF (t.text ++ y) = .ok (t.kind, t.text.length, t.val) := by
  obtain ⟨r, h1, h2⟩ := h
  have := nextF_stays h1 hy
  rwa [← h2] at this
theorem Good.blank {t : Tok} (h : Good t) {y : List UInt8} (hy : Apart y) (p l f : Nat) : blankF false (t.text ++ y) p l f = (p, l, f) := by
  have hn := h.next hy
  have hp := h.pos
  cases ht : t.text with
  | nil => rw [ht] at hp; simp at hp
  | cons c x =>
    rw [ht] at hn
    rw [List.cons_append] at hn ⊢
    obtain ⟨h1, h2, h3⟩ := nextF_head hn
    refine blankF_stop h1 h2 ?_
    rintro ⟨rfl, h4⟩
    have h5 := h3 rfl
    have hx : x = [] := by
      have : (47 :: x : List UInt8).length = 1 := h5
      simp at this; exact this
    subst hx
    rcases hy with rfl | ⟨z, rfl⟩ <;> simp at h4

/- What the lexer gives: tokens so cut, at last an end. -/
theorem allF_good : ∀ (k : Nat) (r : List UInt8) (p l f : Nat) (acc res : List Tok), allF k r p l f acc = .ok res → f ≤ p → (∀ t ∈ acc, Good t) → sumLen acc ≤ p → acc.length ≤ 8000 →
    ∃ body e, res = body ++ [e] ∧ (∀ t ∈ body, Good t) ∧ sumLen body ≤ p + r.length ∧ body.length ≤ 8000 ∧ e.kind = 0 ∧ e.text = [] ∧ e.val = 0 := by
  intro k
  induction k with
  | zero => intro r p l f acc res h; simp [allF] at h
  | succ k ih =>
    intro r p l f acc res h hf hg hs hl
    have hi := blankF_inv r false p l f _ _ _ rfl hf
    rw [allF] at h
    generalize blankF false r p l f = q at *
    obtain ⟨q1, q2, q3⟩ := q
    dsimp only at hi h
    split at h
    · simp at h
      exact ⟨acc, _, h.symm, hg, by omega, hl, rfl, rfl, rfl⟩
    · split at h
      · simp at h
      · split at h
        · simp at h
        · rename_i kind n val hn
          obtain ⟨hn1, hn2, _⟩ := nextF_pos hn
          rw [List.length_drop] at hn2
          have hlen : ((r.drop (q1 - p)).take n).length = n := by rw [List.length_take, List.length_drop]; omega
          have := ih _ _ _ _ _ _ h (by omega) (by
            intro t ht
            rcases List.mem_append.1 ht with h1 | h1
            · exact hg t h1
            · simp at h1; subst h1
              exact ⟨r.drop (q1 - p), by rw [hlen]; exact hn, by simp [hlen]⟩) (by rw [sumLen_snoc, hlen]; omega) (by simp; omega)
          obtain ⟨body, e, h1, h2, h3, h4⟩ := this
          refine ⟨body, e, h1, h2, ?_, h4⟩
          simp only [List.length_drop] at h3
          omega

/- The same tokens, but for their places. -/
def Same (a b : List Tok) : Prop := a.map (fun t => (t.kind, t.text, t.val)) = b.map (fun t => (t.kind, t.text, t.val))

/- Texts behind a first one, a blank ahead of each. -/
def tailF : List Tok → List UInt8
  | [] => []
  | t :: ts => 32 :: (t.text ++ tailF ts)
theorem tailF_apart (ts : List Tok) : Apart (tailF ts) := by
  cases ts with
  | nil => exact .inl rfl
  | cons t ts => exact .inr ⟨_, rfl⟩
theorem tailF_length (ts : List Tok) : (tailF ts).length = sumLen ts + ts.length := by
  induction ts with
  | nil => rfl
  | cons t ts ih => simp [tailF, sumLen] at ih ⊢; omega
theorem putF_cons (t : Tok) (ts : List Tok) : putF ((t :: ts).map (·.text)) = t.text ++ tailF ts := by
  rw [List.map_cons, putF, Lib.join_cons]
  congr 1
  induction ts with
  | nil => rfl
  | cons a ts ih => rw [List.map_cons, Lib.joinTail, List.map_cons, List.flatten_cons, tailF, ← ih]; rfl

theorem allF_again : ∀ (ts : List Tok) (k p l f : Nat) (acc : List Tok), ts.length < k → f ≤ p → (∀ t ∈ ts, Good t) → acc.length + ts.length ≤ 8000 →
    ∃ ts' e, allF k (tailF ts) p l f acc = .ok (acc ++ ts' ++ [e]) ∧ Same ts' ts ∧ e.kind = 0 ∧ e.text = [] ∧ e.val = 0 := by
  intro ts
  induction ts with
  | nil =>
    intro k p l f acc hk hf hg hl
    obtain ⟨j, rfl⟩ : ∃ j, k = j + 1 := ⟨k - 1, by simp at hk; omega⟩
    refine ⟨[], ⟨0, [], l, p - f + 1, 0⟩, ?_, rfl, rfl, rfl, rfl⟩
    rw [allF, tailF, blankF]
    simp
  | cons t ts ih =>
    intro k p l f acc hk hf hg hl
    obtain ⟨j, rfl⟩ : ∃ j, k = j + 1 := ⟨k - 1, by simp at hk; omega⟩
    have hgt := hg t List.mem_cons_self
    have hap := tailF_apart ts
    have hb : blankF false (tailF (t :: ts)) p l f = (p + 1, l, f) := by
      rw [tailF, blankF_skip (.inl rfl)]; exact hgt.blank hap _ _ _
    have hd : (tailF (t :: ts)).drop (p + 1 - p) = t.text ++ tailF ts := by
      rw [show p + 1 - p = 1 by omega]; rfl
    have hne : t.text ++ tailF ts ≠ [] := by
      have := hgt.pos
      intro e
      have := congrArg List.length e
      rw [List.length_append, List.length_nil] at this; omega
    have hcl : (t :: ts).length = ts.length + 1 := rfl
    obtain ⟨ts', e, h1, h2, h3⟩ := ih j (p + 1 + t.text.length) l f (acc ++ [⟨t.kind, t.text, l, p + 1 - f + 1, t.val⟩]) (by omega) (by omega) (fun x hx => hg x (List.mem_cons_of_mem _ hx)) (by rw [List.length_append, List.length_singleton]; omega)
    refine ⟨⟨t.kind, t.text, l, p + 1 - f + 1, t.val⟩ :: ts', e, ?_, ?_, h3⟩
    · rw [allF]
      simp only [hb, hd]
      rw [if_neg hne, if_neg (show ¬ acc.length = 8000 by omega), hgt.next hap]
      simp only [List.drop_left, List.take_left]
      rw [h1]; simp
    · unfold Same at h2 ⊢
      simp [h2]

theorem lexF_again (s : List UInt8) (toks : List Tok) (h : lexF s = .ok toks) (hs : s.length ≤ 9000) :
    ∃ body e toks', toks = body ++ [e] ∧ lexF (putF (body.map (·.text))) = .ok toks' ∧ Same toks' toks ∧ (putF (body.map (·.text))).length ≤ 18000 := by
  unfold lexF at h
  rw [if_neg (by omega)] at h
  obtain ⟨body, e, rfl, hg, hsum, hlen, he1, he2, he3⟩ := allF_good _ _ _ _ _ _ _ h (Nat.le_refl _) (by simp) (by simp [sumLen]) (by simp)
  refine ⟨body, e, ?_⟩
  cases body with
  | nil =>
    refine ⟨[⟨0, [], 1, 1, 0⟩], rfl, rfl, ?_, by simp [putF, Lib.join_nil]⟩
    simp [Same, he1, he2, he3]
  | cons t ts =>
    have hgt := hg t List.mem_cons_self
    have hap := tailF_apart ts
    have hcnt : ∀ l : List Tok, (∀ t ∈ l, Good t) → l.length ≤ sumLen l := by
      intro l
      induction l with
      | nil => intro _; simp
      | cons a l ih =>
        intro hl
        have := ih (fun x hx => hl x (List.mem_cons_of_mem _ hx))
        have := (hl a List.mem_cons_self).pos
        simp [sumLen] at *; omega
    have h1 := hcnt _ hg
    have htl := tailF_length ts
    have hpl : (putF ((t :: ts).map (·.text))).length ≤ 18000 := by
      rw [putF_cons, List.length_append, htl]
      simp [sumLen] at hsum h1 ⊢; omega
    rw [putF_cons] at hpl ⊢
    have hne : t.text ++ tailF ts ≠ [] := by
      have := hgt.pos
      intro e
      have := congrArg List.length e
      rw [List.length_append, List.length_nil] at this; omega
    have hcl : (t :: ts).length = ts.length + 1 := rfl
    have hposn := hgt.pos
    have hfl : ts.length < (t.text ++ tailF ts).length := by rw [List.length_append, htl]; omega
    obtain ⟨ts', e', h2, h3, h4, h5, h6⟩ := allF_again ts (t.text ++ tailF ts).length (0 + t.text.length) 1 0 [⟨t.kind, t.text, 1, 1, t.val⟩] hfl (by omega) (fun x hx => hg x (List.mem_cons_of_mem _ hx)) (by rw [List.length_singleton]; omega)
    refine ⟨⟨t.kind, t.text, 1, 1, t.val⟩ :: ts' ++ [e'], rfl, ?_, ?_, hpl⟩
    · unfold lexF
      rw [if_neg (show ¬ 20000 < (t.text ++ tailF ts).length by omega), allF]
      simp only [hgt.blank hap, List.drop_zero, Nat.sub_self]
      rw [if_neg hne, if_neg (by simp), hgt.next hap]
      simp only [List.drop_left, List.take_left]
      exact h2
    · unfold Same at h3 ⊢
      simp [h3, h4, h5, h6, he1, he2, he3]

end Go.Proofs.Ytfjkkfdpeckccaa
