/- chattelref19.Ways, plain: ways of at most twelve steps through at most six instructions tell all that is told. -/
import Derived.Test.YtilipeigjkmldaaRefP
namespace Go.Proofs.Ytilipeigjkmldaa
open Go.RowKit

inductive WayR (R : Nat → Nat → Prop) : Nat → Nat → List Nat → Prop where
  | nil (i : Nat) : WayR R i i []
  | cons {i t j : Nat} {p : List Nat} : R i t → WayR R t j p → WayR R i j (t :: p)
theorem WayR.from_mem {R : Nat → Nat → Prop} {x j : Nat} : ∀ {p : List Nat} {i : Nat}, WayR R i j p → x ∈ p → ∃ q, WayR R x j q ∧ q.length < p.length ∧ ∀ r ∈ q, r ∈ p
  | [], _, _, hx => nomatch hx
  | t :: p, i, h, hx => by
    cases h with
    | cons h1 h2 =>
      rcases List.mem_cons.1 hx with rfl | hx
      · exact ⟨p, h2, by simp, fun r hr => List.mem_cons_of_mem _ hr⟩
      · obtain ⟨q, k1, k2, k3⟩ := WayR.from_mem h2 hx
        exact ⟨q, k1, by simp; omega, fun r hr => List.mem_cons_of_mem _ (k3 r hr)⟩
theorem WayR.short {R : Nat → Nat → Prop} : ∀ (m : Nat) {p : List Nat} {i j : Nat}, p.length ≤ m → WayR R i j p → ∃ q, WayR R i j q ∧ (i :: q).Nodup ∧ ∀ r ∈ q, r ∈ p := by
  intro m
  induction m with
  | zero =>
    intro p i j hm h
    obtain rfl : p = [] := List.eq_nil_of_length_eq_zero (by omega)
    exact ⟨[], h, by simp, fun _ h => h⟩
  | succ m ih =>
    intro p i j hm h
    by_cases hi : i ∈ p
    · obtain ⟨q, k1, k2, k3⟩ := h.from_mem hi
      obtain ⟨r, l1, l2, l3⟩ := ih (by omega) k1
      exact ⟨r, l1, l2, fun x hx => k3 x (l3 x hx)⟩
    · cases h with
      | nil => exact ⟨[], .nil _, by simp, fun _ h => h⟩
      | @cons _ t _ p' h1 h2 =>
        obtain ⟨r, l1, l2, l3⟩ := ih (by simp at hm; omega) h2
        refine ⟨t :: r, .cons h1 l1, ?_, fun x hx => ?_⟩
        · rw [List.nodup_cons]
          refine ⟨fun hx => hi ?_, l2⟩
          rcases List.mem_cons.1 hx with rfl | hx
          · exact List.mem_cons_self ..
          · exact List.mem_cons_of_mem _ (l3 i hx)
        · rcases List.mem_cons.1 hx with rfl | hx
          · exact List.mem_cons_self ..
          · exact List.mem_cons_of_mem _ (l3 x hx)
theorem WayR.few {R : Nat → Nat → Prop} {n i j : Nat} {p : List Nat} (h : WayR R i j p) (hi : i < n) (hp : ∀ r ∈ p, r < n) : ∃ q, WayR R i j q ∧ q.length + 1 ≤ n := by
  obtain ⟨q, h1, h2, h3⟩ := h.short _ (Nat.le_refl _)
  refine ⟨q, h1, ?_⟩
  have := nodup_bound n (i :: q) h2 (fun x hx => by
    rcases List.mem_cons.1 hx with rfl | hx
    · exact hi
    · exact hp x (h3 x hx))
  simpa using this
theorem WayR.last {R : Nat → Nat → Prop} {j t : Nat} : ∀ {p : List Nat} {i : Nat}, WayR R i j p → R j t → WayR R i t (p ++ [t])
  | _, _, .nil _, h => .cons h (.nil _)
  | _, _, .cons h1 h2, h => .cons h1 (h2.last h)
def Edge (b : Bod) (i t : Nat) : Prop := ∃ y ∈ succB b i, y.toNat = t
def EdgeK (b : Bod) (q : Pl) (i t : Nat) : Prop := Edge b i t ∧ doL (accB b i) (fun _ => true) q = true
theorem Edge.lt {b : Bod} (hok : bodOk b) {i t : Nat} (h : Edge b i t) : t < b.code.length := by
  obtain ⟨y, hy, rfl⟩ := h
  have := hok.succ i y hy
  omega
theorem Rch.way {b : Bod} (hok : bodOk b) {j : Nat} (h : Rch b j) : ∃ p, WayR (Edge b) 0 j p ∧ ∀ r ∈ p, r < b.code.length := by
  induction h with
  | zero => exact ⟨[], .nil _, fun _ h => nomatch h⟩
  | @step i t _ h2 ih =>
    obtain ⟨p, h3, h4⟩ := ih
    have he : Edge b i t.toNat := ⟨t, h2, rfl⟩
    refine ⟨p ++ [t.toNat], h3.last he, fun r hr => ?_⟩
    rcases List.mem_append.1 hr with hr | hr
    · exact h4 r hr
    · rw [List.mem_singleton.1 hr]; exact he.lt hok
/- A place that is missing was missing at first, or came to be missing, and was kept from there. -/
theorem MissP.way {b : Bod} (hok : bodOk b) {j : Nat} {q : Pl} (h : MissP b j q) :
    (q ∈ firstTo b b.locals ∧ ∃ p, WayR (EdgeK b q) 0 j p ∧ ∀ r ∈ p, r < b.code.length) ∨
    (∃ i t p, Rch b i ∧ doL (accB b i) (fun _ => false) q = true ∧ Edge b i t ∧ WayR (EdgeK b q) t j p ∧ ∀ r ∈ p, r < b.code.length) := by
  induction h with
  | @entry k h1 h2 => exact .inl ⟨firstTo_mem.2 ⟨k, h1, h2, rfl⟩, [], .nil _, fun _ h => nomatch h⟩
  | @gen i t q h1 h2 h3 => exact .inr ⟨i, t.toNat, [], h1, h2, ⟨t, h3, rfl⟩, .nil _, fun _ h => nomatch h⟩
  | @keep i t q _ h2 h3 ih =>
    have he : Edge b i t.toNat := ⟨t, h3, rfl⟩
    have hl : ∀ p : List Nat, (∀ r ∈ p, r < b.code.length) → ∀ r ∈ p ++ [t.toNat], r < b.code.length := fun p h4 r hr => by
      rcases List.mem_append.1 hr with hr | hr
      · exact h4 r hr
      · rw [List.mem_singleton.1 hr]; exact he.lt hok
    rcases ih with ⟨h4, p, h5, h6⟩ | ⟨i', t', p, h4, h5, h6, h7, h8⟩
    · exact .inl ⟨h4, p ++ [t.toNat], h5.last ⟨he, h2⟩, hl p h6⟩
    · exact .inr ⟨i', t', p ++ [t.toNat], h4, h5, h6, h7.last ⟨he, h2⟩, hl p h8⟩

/- go1, plain: is an instruction told by a way of at most so many steps? -/
def wayF (b : Bod) : Nat → Nat → List Pl → Nat → Bool
  | 0, i, l, j => decide (i = j) && wrongR (accB b i) l
  | m + 1, i, l, j => (decide (i = j) && wrongR (accB b i) l) || (succB b i).any (fun t => wayF b m t.toNat (stepL (accB b i) l) j)
theorem wayF_here {b : Bod} {i : Nat} {l : List Pl} (h : wrongR (accB b i) l = true) : ∀ m, wayF b m i l i = true
  | 0 => by simp [wayF, h]
  | m + 1 => by simp [wayF, h]
theorem wayF_on {b : Bod} {m i t j : Nat} {l : List Pl} (h : Edge b i t) (hw : wayF b m t (stepL (accB b i) l) j = true) : wayF b (m + 1) i l j = true := by
  obtain ⟨y, hy, rfl⟩ := h
  unfold wayF
  rw [Bool.or_eq_true]
  exact .inr (List.any_eq_true.2 ⟨y, hy, hw⟩)
theorem wayF_more {b : Bod} {j : Nat} : ∀ (m : Nat) {m' i : Nat} {l : List Pl}, m ≤ m' → wayF b m i l j = true → wayF b m' i l j = true
  | 0, m', i, l, _, h => by
    simp only [wayF, Bool.and_eq_true, decide_eq_true_eq] at h
    obtain ⟨rfl, h⟩ := h
    exact wayF_here h m'
  | m + 1, 0, _, _, hm, _ => by omega
  | m + 1, m' + 1, i, l, hm, h => by
    unfold wayF at h ⊢
    rw [Bool.or_eq_true] at h ⊢
    rcases h with h | h
    · exact .inl h
    · obtain ⟨t, ht, hw⟩ := List.any_eq_true.1 h
      exact .inr (List.any_eq_true.2 ⟨t, ht, wayF_more m (by omega) hw⟩)
theorem way_edge {b : Bod} {j x : Nat} : ∀ {p : List Nat} {i : Nat}, WayR (Edge b) i j p → ∀ l, ∃ l', ∀ m, wayF b m j l' x = true → wayF b (m + p.length) i l x = true
  | [], _, .nil _, l => ⟨l, fun _ h => h⟩
  | t :: p, _, .cons h1 h2, l => by
    obtain ⟨l', h⟩ := way_edge h2 (stepL (accB b _) l)
    exact ⟨l', fun m hm => by
      show wayF b ((m + p.length) + 1) _ l x = true
      exact wayF_on h1 (h m hm)⟩
theorem way_keep {b : Bod} {j x : Nat} {q : Pl} : ∀ {p : List Nat} {i : Nat}, WayR (EdgeK b q) i j p → ∀ l, q ∈ l → ∃ l', q ∈ l' ∧ ∀ m, wayF b m j l' x = true → wayF b (m + p.length) i l x = true
  | [], _, .nil _, l, hq => ⟨l, hq, fun _ h => h⟩
  | t :: p, i, .cons h1 h2, l, hq => by
    obtain ⟨l', hq', h⟩ := way_keep h2 (stepL (accB b i) l) (by
      rw [← hasF_iff, hasF_stepL _ _ _ (fun a ha => accB_kinds ha), doL_true _ _ q (hasF_iff.2 hq)]; exact h1.2)
    exact ⟨l', hq', fun m hm => by
      show wayF b ((m + p.length) + 1) _ l x = true
      exact wayF_on h1.1 (h m hm)⟩
theorem wayF_sound {b : Bod} {j : Nat} : ∀ (m : Nat) {i : Nat} {l : List Pl}, Rch b i → (∀ q ∈ l, MissP b i q) → wayF b m i l j = true → Rch b j ∧ WrongP b j := by
  have here : ∀ {i : Nat} {l : List Pl}, Rch b i → (∀ q ∈ l, MissP b i q) → (decide (i = j) && wrongR (accB b i) l) = true → Rch b j ∧ WrongP b j := by
    intro i l hr hl h
    simp only [Bool.and_eq_true, decide_eq_true_eq] at h
    obtain ⟨rfl, h⟩ := h
    refine ⟨hr, ?_⟩
    obtain ⟨k, a, q, h1, h2, h3⟩ := (wrongR_iff _ _ (fun a ha => accB_kinds ha)).1 h
    refine ⟨k, a, q, h1, h2, ?_⟩
    cases e : hasF l q with
    | true => exact .inr ⟨hl q (hasF_iff.1 e), by rw [← doL_true _ _ q e]; exact h3⟩
    | false => exact .inl (by rw [← doL_false _ _ q e]; exact h3)
  intro m
  induction m with
  | zero => intro i l hr hl h; exact here hr hl h
  | succ m ih =>
    intro i l hr hl h
    unfold wayF at h
    rw [Bool.or_eq_true] at h
    rcases h with h | h
    · exact here hr hl h
    · obtain ⟨t, ht, hw⟩ := List.any_eq_true.1 h
      refine ih (.step hr ht) (fun q hq => ?_) hw
      rw [← hasF_iff, hasF_stepL _ _ _ (fun a ha => accB_kinds ha)] at hq
      cases e : hasF l q with
      | true => exact .keep (hl q (hasF_iff.1 e)) (by rw [← doL_true _ _ q e]; exact hq) ht
      | false => exact .gen hr (by rw [← doL_false _ _ q e]; exact hq) ht
theorem wayF_iff {b : Bod} (hok : bodOk b) (hpos : 0 < b.code.length) (hn : b.code.length ≤ 6) (j : Nat) : wayF b 12 0 (firstTo b b.locals) j = true ↔ (Rch b j ∧ WrongP b j) := by
  refine ⟨wayF_sound 12 .zero (fun q hq => ?_), ?_⟩
  · obtain ⟨k, h1, h2, rfl⟩ := firstTo_mem.1 hq
    exact .entry h1 h2
  · rintro ⟨hr, k, a, q, h1, h2, h3⟩
    have hk : ∀ a ∈ accB b j, 1 ≤ a.kind ∧ a.kind ≤ 6 := fun a ha => accB_kinds ha
    rcases h3 with h3 | ⟨hm, h3⟩
    · obtain ⟨p, hp, hpl⟩ := hr.way hok
      obtain ⟨p, hp, hpn⟩ := hp.few hpos hpl
      obtain ⟨l', h⟩ := way_edge (x := j) hp (firstTo b b.locals)
      refine wayF_more _ (by omega) (h 0 (wayF_here ((wrongR_iff _ _ hk).2 ⟨k, a, q, h1, h2, ?_⟩) 0))
      exact doL_mono _ _ _ (fun q hq => by cases hq) q h3
    · have hlast : ∀ l', q ∈ l' → wayF b 0 j l' j = true := fun l' hq => wayF_here ((wrongR_iff _ _ hk).2 ⟨k, a, q, h1, h2, by rw [doL_true _ _ q (hasF_iff.2 hq)]; exact h3⟩) 0
      rcases hm.way hok with ⟨hq, p, hp, hpl⟩ | ⟨i, t, p, h4, h5, h6, hp, hpl⟩
      · obtain ⟨p, hp, hpn⟩ := hp.few hpos hpl
        obtain ⟨l', hq', h⟩ := way_keep (x := j) hp _ hq
        exact wayF_more _ (by omega) (h 0 (hlast l' hq'))
      · obtain ⟨p, hp, hpn⟩ := hp.few (h6.lt hok) hpl
        obtain ⟨p0, hp0, hpl0⟩ := h4.way hok
        obtain ⟨p0, hp0, hpn0⟩ := hp0.few hpos hpl0
        obtain ⟨l0, h0⟩ := way_edge (x := j) hp0 (firstTo b b.locals)
        have hq0 : q ∈ stepL (accB b i) l0 := by
          rw [← hasF_iff, hasF_stepL _ _ _ (fun a ha => accB_kinds ha)]
          exact doL_mono _ _ _ (fun q hq => by cases hq) q h5
        obtain ⟨l', hq', h⟩ := way_keep (x := j) hp _ hq0
        exact wayF_more _ (by omega) (h0 _ (wayF_on h6 (h 0 (hlast l' hq'))))

end Go.Proofs.Ytilipeigjkmldaa
