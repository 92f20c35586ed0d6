/- chattelref20.Live, plain: there is a way to a use of a local, ahead of what loses it. -/
import Derived.Test.YtilipeigjkmldaaAt
namespace Go.Proofs.Ytilipeigjkmldaa
open Go.RowKit

def liveR (b : Bod) (x : Nat) : Nat → Nat → List Nat → Bool
  | 0, _, _ => false
  | f + 1, i, seen => if seen.contains i = true then false else if usedB b i x = true then true else if lostB b i x = true then false else (succB b i).any (fun t => liveR b x f t.toNat (seen ++ [i]))

theorem liveR_sound (b : Bod) (hok : bodOk b) (x : Nat) : ∀ (f i : Nat) (seen : List Nat), i < b.code.length → liveR b x f i seen = true → LiveB b i x
  | 0, _, _, _, h => by simp [liveR] at h
  | f + 1, i, seen, hi, h => by
    unfold liveR at h
    split at h
    · cases h
    split at h
    · rename_i hu
      exact Back.gen ((pGen_iff hok i x hi).2 hu)
    split at h
    · cases h
    · rename_i hl
      obtain ⟨t, ht, hr⟩ := List.any_eq_true.1 h
      have hb := hok.succ i t ht
      refine Back.step (t := t.toNat) (fun hk => hl ((pKill_iff hok i x hi).1 hk)) ?_ (liveR_sound b hok x f t.toNat _ (by omega) hr)
      rw [pSucc_is i hi]; exact List.mem_map.2 ⟨t, ht, rfl⟩

/- A way: from its first node on each is no loser, and goes on to the next; the last one uses. -/
inductive Way (b : Bod) (x : Nat) : Nat → List Nat → Prop where
  | stop {i : Nat} : usedB b i x = true → Way b x i []
  | go {i t : Nat} {p : List Nat} : lostB b i x = false → (∃ y ∈ succB b i, y.toNat = t) → Way b x t p → Way b x i (t :: p)
theorem Way.of_live {b : Bod} (hok : bodOk b) {i x : Nat} (h : LiveB b i x) (hi : i < b.code.length) : ∃ p, Way b x i p ∧ ∀ q ∈ p, q < b.code.length := by
  refine Back.least (n := b.code.length) (fun i y => y = x → ∃ p, Way b x i p ∧ ∀ q ∈ p, q < b.code.length) (succ := pSucc (prbB b)) (gen := pGen (prbB b)) (kill := pKill (prbB b)) ?_ ?_ ?_ h hi rfl
  · intro i t hi ht
    rw [pSucc_is i hi] at ht
    obtain ⟨y, hy, rfl⟩ := toN_mem ht
    have := hok.succ i y hy
    omega
  · rintro i e hi hg rfl
    exact ⟨[], .stop ((pGen_iff hok i e hi).1 hg), fun q hq => nomatch hq⟩
  · rintro i e t hi hk ht hS rfl
    obtain ⟨p, hp, hq⟩ := hS rfl
    have hl : lostB b i e = false := by
      cases h : lostB b i e with
      | false => rfl
      | true => exact absurd ((pKill_iff hok i e hi).2 h) hk
    rw [pSucc_is i hi] at ht
    obtain ⟨y, hy, rfl⟩ := toN_mem ht
    have hb := hok.succ i y hy
    refine ⟨y.toNat :: p, .go hl ⟨y, hy, rfl⟩ hp, fun q hq' => ?_⟩
    rcases List.mem_cons.1 hq' with rfl | h
    · omega
    · exact hq q h
/- Behind the last time that a way comes by a node it is a way still. -/
theorem Way.from_mem {b : Bod} {x j : Nat} : ∀ {p : List Nat} {i : Nat}, Way b x i p → j ∈ p → ∃ q, Way b x j q ∧ q.length < p.length ∧ ∀ r ∈ q, r ∈ p
  | [], _, _, hj => nomatch hj
  | t :: p, i, h, hj => by
    cases h with
    | go h1 h2 h3 =>
      by_cases e : j ∈ p
      · obtain ⟨q, k1, k2, k3⟩ := Way.from_mem h3 e
        exact ⟨q, k1, by simp; omega, fun r hr => List.mem_cons_of_mem _ (k3 r hr)⟩
      · have : j = t := by
          rcases List.mem_cons.1 hj with h | h
          · exact h
          · exact absurd h e
        subst this
        exact ⟨p, h3, by simp, fun r hr => List.mem_cons_of_mem _ hr⟩
theorem nodup_bound : ∀ (n : Nat) (l : List Nat), l.Nodup → (∀ x ∈ l, x < n) → l.length ≤ n
  | 0, l, _, h => by
    cases l with
    | nil => simp
    | cons a r => exact absurd (h a (List.mem_cons_self ..)) (Nat.not_lt_zero _)
  | n + 1, l, hn, h => by
    by_cases hm : n ∈ l
    · have h1 := nodup_bound n (l.erase n) (hn.erase n) (fun x hx => by
        have h2 := (hn.mem_erase_iff).1 hx
        have := h x h2.2
        have h3 := h2.1
        omega)
      have h2 := List.length_erase_of_mem hm
      omega
    · have := nodup_bound n l hn (fun x hx => by
        have h2 := h x hx
        have h3 : x ≠ n := fun e => hm (e ▸ hx)
        omega)
      omega
theorem liveR_whole (b : Bod) (x : Nat) : ∀ (m : Nat) (p : List Nat) (i f : Nat) (seen : List Nat), p.length ≤ m → Way b x i p → (∀ q ∈ i :: p, q < b.code.length) → (∀ q ∈ i :: p, q ∉ seen) → seen.Nodup → (∀ q ∈ seen, q < b.code.length) → f + seen.length = b.code.length + 1 → liveR b x f i seen = true := by
  intro m
  induction m with
  | zero =>
    intro p i f seen hm hp hlt hns hnd hsl hf
    obtain rfl : p = [] := List.eq_nil_of_length_eq_zero (by omega)
    have hle := nodup_bound _ _ hnd hsl
    cases f with
    | zero => omega
    | succ f =>
      have h1 : seen.contains i = false := by simpa using hns i (List.mem_cons_self ..)
      cases hp with
      | stop hu => simp [liveR, hu, hns i (List.mem_cons_self ..)]
  | succ m ih =>
    intro p i f seen hm hp hlt hns hnd hsl hf
    by_cases hmem : i ∈ p
    · obtain ⟨q, k1, k2, k3⟩ := hp.from_mem hmem
      exact ih q i f seen (by omega) k1 (fun r hr => by
        rcases List.mem_cons.1 hr with rfl | h
        · exact hlt _ (List.mem_cons_self ..)
        · exact hlt r (List.mem_cons_of_mem _ (k3 r h))) (fun r hr => by
        rcases List.mem_cons.1 hr with rfl | h
        · exact hns _ (List.mem_cons_self ..)
        · exact hns r (List.mem_cons_of_mem _ (k3 r h))) hnd hsl hf
    · have hle := nodup_bound _ _ hnd hsl
      cases f with
      | zero => omega
      | succ f =>
        have h1 := hns i (List.mem_cons_self ..)
        unfold liveR
        rw [if_neg (by simpa using h1)]
        by_cases hu : usedB b i x = true
        · rw [if_pos hu]
        · rw [if_neg hu]
          cases hp with
          | stop h => exact absurd h hu
          | @go _ t p' hl ht hp' =>
            rw [if_neg (by rw [hl]; decide)]
            obtain ⟨y, hy, rfl⟩ := ht
            refine List.any_eq_true.2 ⟨y, hy, ?_⟩
            refine ih p' y.toNat f (seen ++ [i]) (by simp at hm; omega) hp' (fun r hr => hlt r (List.mem_cons_of_mem _ hr)) (fun r hr => ?_) ?_ (fun r hr => ?_) (by simp; omega)
            · intro h
              rcases List.mem_append.1 h with h | h
              · exact hns r (List.mem_cons_of_mem _ hr) h
              · rw [List.mem_singleton.1 h] at hr
                exact hmem hr
            · rw [List.nodup_append]
              exact ⟨hnd, by simp, fun a ha c hc e => by rw [List.mem_singleton.1 hc] at e; exact h1 (e ▸ ha)⟩
            · rcases List.mem_append.1 hr with h | h
              · exact hsl r h
              · rw [List.mem_singleton.1 h]; exact hlt i (List.mem_cons_self ..)
theorem liveR_iff (b : Bod) (hok : bodOk b) (i x : Nat) (hi : i < b.code.length) : liveR b x (b.code.length + 1) i [] = true ↔ LiveB b i x := by
  refine ⟨liveR_sound b hok x _ i [] hi, fun h => ?_⟩
  obtain ⟨p, hp, hq⟩ := Way.of_live hok h hi
  exact liveR_whole b x p.length p i _ [] (Nat.le_refl _) hp (fun q hq' => by
    rcases List.mem_cons.1 hq' with rfl | h
    · exact hi
    · exact hq q h) (fun _ _ h => nomatch h) List.nodup_nil (fun _ h => nomatch h) (by simp)

end Go.Proofs.Ytilipeigjkmldaa
