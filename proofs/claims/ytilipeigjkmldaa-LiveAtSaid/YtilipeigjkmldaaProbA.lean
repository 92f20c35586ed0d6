/- A problem (flow.Problem) under way: three rows of lists that grow side by side. -/
import Derived.Test.YtilipeigjkmldaaApart
import Derived.Test.YtilipeigjkmldaaFlowH
import Derived.Test.YtilipeigjkmldaaRely
namespace Go.Proofs.Ytilipeigjkmldaa
open Go.RowKit

structure PS (base : Nat) (X : World) (ls : List (List Int)) (vs : Value) (lg : List (List Int)) (vg : Value) (lk : List (List Int)) (vk : Value) (G : Nat → Bool) (xs xg xk : List Value) : Prop where
  s : Grows IntsAt 38 1 base G X ls vs xs
  g : Grows IntsAt 38 1 base G X lg vg xg
  k : Grows IntsAt 38 1 base G X lk vk xk
  up : upG G X
  low : ∀ q, q < base → G q = true
  sg : ∀ q, vs.ownBlock = some q → vg.ownBlock ≠ some q
  sk : ∀ q, vs.ownBlock = some q → vk.ownBlock ≠ some q
  gk : ∀ q, vg.ownBlock = some q → vk.ownBlock ≠ some q
  le : base ≤ X.heap.size

section
variable {base : Nat} {X X' : World} {ls lg lk : List (List Int)} {vs vg vk v' : Value} {G : Nat → Bool} {xs xg xk : List Value}
theorem PS.nil (hb : base = X.heap.size) : PS base X [] (.slice none 0 0) [] (.slice none 0 0) [] (.slice none 0 0) (fun q => decide (q < X.heap.size)) [] [] [] :=
  ⟨Grows.nil _ _ _ _ _ _, Grows.nil _ _ _ _ _ _, Grows.nil _ _ _ _ _ _, upG.low, fun q hq => decide_eq_true (by omega), (fun _ h => nomatch h), (fun _ h => nomatch h), (fun _ h => nomatch h), by omega⟩
theorem PS.keep (h : PS base X ls vs lg vg lk vk G xs xg xk) {S : Nat → Prop} (hs : Step S X X') (hS : ∀ k, k < X.heap.size → S k → k < base) : PS base X' ls vs lg vg lk vk G xs xg xk :=
  ⟨h.s.keep IntsAt.stays hs (fun k hk e => h.low k (hS k hk e)) (fun _ _ => rfl) (fun k hk e => by have := hS k (h.s.own.lt k hk).2 e; have := (h.s.own.lt k hk).1; omega),
   h.g.keep IntsAt.stays hs (fun k hk e => h.low k (hS k hk e)) (fun _ _ => rfl) (fun k hk e => by have := hS k (h.g.own.lt k hk).2 e; have := (h.g.own.lt k hk).1; omega),
   h.k.keep IntsAt.stays hs (fun k hk e => h.low k (hS k hk e)) (fun _ _ => rfl) (fun k hk e => by have := hS k (h.k.own.lt k hk).2 e; have := (h.k.own.lt k hk).1; omega),
   h.up.mono hs.size, h.low, h.sg, h.sk, h.gk, Nat.le_trans h.le hs.size⟩
/- A row that lies apart stays so. -/
theorem row_keep {B : Nat} {v : Value} {n : Nat} {cs : List Value} {S : Nat → Prop} (h : Row (veil G X) B v n cs) (hs : Step S X X') (hS : ∀ k, k < X.heap.size → S k → G k = true) : Row (veil G X') X'.heap.size v n cs := by
  have h2 := h.step (veil_step (G' := G) hs hS (fun _ _ => rfl)) (fun _ _ h => h)
  obtain ⟨a, c, h3, h4, h5, h6, h7⟩ := h2
  refine ⟨a, c, h3, h4, h5, h6, fun hn => ?_⟩
  obtain ⟨g, o, e1, e2, e3, e4⟩ := h7 hn
  exact ⟨g, o, e1, by rw [veil_size] at e3; exact e3, e3, e4⟩
theorem row_grow {R : World → Nat → List Int → List Value → Prop} {ty : TypeId} {size : Nat} {l : List (List Int)} {v : Value} {ys : List Value} (hg : Grows R ty size base G X l v ys) (hgrow : X.grownBy X' v.ownBlock) (hat : v'.ownBlock = v.ownBlock ∨ v'.ownBlock = some X.heap.size)
    {B : Nat} {u : Value} {n : Nat} {cs : List Value} (h : Row (veil G X) B u n cs) : Row (veil (addG G v') X') X'.heap.size u n cs := by
  have h2 := h.step (veil_step (grown_step hgrow) (fun k _ e => hg.inG k e) (addG_same hg hat)) (fun _ _ h => h)
  obtain ⟨a, c, h3, h4, h5, h6, h7⟩ := h2
  refine ⟨a, c, h3, h4, h5, h6, fun hn => ?_⟩
  obtain ⟨g, o, e1, e2, e3, e4⟩ := h7 hn
  exact ⟨g, o, e1, by rw [veil_size] at e3; exact e3, e3, e4⟩
theorem row_new (hup : upG G X) {B : Nat} {u : Value} {n : Nat} {cs : List Value} (h : Row X' B u n cs) (hn : ∀ q, u.ownBlock = some q → X.heap.size ≤ q) : Row (veil G X') B u n cs :=
  h.veil (fun q hq => hup q (hn q hq))
theorem ints_of_row {w : World} {B : Nat} {l : List Int} {u : Value} (h : Row w B u l.length (intsV l)) : IntsAt w B l [u] := ⟨u, rfl, h⟩
theorem ne_grow {a b c : Value} {n : Nat} (hat : a.ownBlock = b.ownBlock ∨ a.ownBlock = some n) (h : ∀ q, b.ownBlock = some q → c.ownBlock ≠ some q) (hc : c.ownBlock ≠ some n) : ∀ q, a.ownBlock = some q → c.ownBlock ≠ some q := by
  intro q hq e
  rcases hat with h1 | h1
  · exact h q (by rw [← h1]; exact hq) e
  · rw [h1] at hq; cases hq; exact hc e
theorem ne_symm {a b : Value} (h : ∀ q, a.ownBlock = some q → b.ownBlock ≠ some q) : ∀ q, b.ownBlock = some q → a.ownBlock ≠ some q := fun q hq e => h q e hq
theorem own_ne {w : World} {e : TypeId} {size n : Nat} {v : Value} {ys : List Value} (h : w.ownsRow base e size v n ys) : v.ownBlock ≠ some w.heap.size := fun e => by have := (h.lt _ e).2; omega

theorem PS.addS (h : PS base X ls vs lg vg lk vk G xs xg xk) {t : List Int} {u : Value} (ht : Row (veil G X) X.heap.size u t.length (intsV t)) (hown : X'.ownsRow base 38 1 v' (ls.length + 1) (xs ++ [u])) (hgrow : X.grownBy X' vs.ownBlock) (hat : v'.ownBlock = vs.ownBlock ∨ v'.ownBlock = some X.heap.size) :
    PS base X' (ls ++ [t]) v' lg vg lk vk (addG G v') (xs ++ [u]) xg xk :=
  ⟨h.s.snoc IntsAt.stays (ints_of_row ht) hown hgrow hat, h.s.other h.g IntsAt.stays hgrow hat h.sg, h.s.other h.k IntsAt.stays hgrow hat h.sk,
   h.up.add (grown_step hgrow).size hown, fun q hq => by simp [addG, h.low q hq],
   ne_grow hat h.sg (own_ne h.g.own), ne_grow hat h.sk (own_ne h.k.own), h.gk, Nat.le_trans h.le (grown_step hgrow).size⟩
theorem PS.addGen (h : PS base X ls vs lg vg lk vk G xs xg xk) {t : List Int} {u : Value} (ht : Row (veil G X) X.heap.size u t.length (intsV t)) (hown : X'.ownsRow base 38 1 v' (lg.length + 1) (xg ++ [u])) (hgrow : X.grownBy X' vg.ownBlock) (hat : v'.ownBlock = vg.ownBlock ∨ v'.ownBlock = some X.heap.size) :
    PS base X' ls vs (lg ++ [t]) v' lk vk (addG G v') xs (xg ++ [u]) xk :=
  ⟨h.g.other h.s IntsAt.stays hgrow hat (ne_symm h.sg), h.g.snoc IntsAt.stays (ints_of_row ht) hown hgrow hat, h.g.other h.k IntsAt.stays hgrow hat h.gk,
   h.up.add (grown_step hgrow).size hown, fun q hq => by simp [addG, h.low q hq],
   ne_symm (ne_grow hat (ne_symm h.sg) (own_ne h.s.own)), h.sk, ne_grow hat h.gk (own_ne h.k.own), Nat.le_trans h.le (grown_step hgrow).size⟩
theorem PS.addKill (h : PS base X ls vs lg vg lk vk G xs xg xk) {t : List Int} {u : Value} (ht : Row (veil G X) X.heap.size u t.length (intsV t)) (hown : X'.ownsRow base 38 1 v' (lk.length + 1) (xk ++ [u])) (hgrow : X.grownBy X' vk.ownBlock) (hat : v'.ownBlock = vk.ownBlock ∨ v'.ownBlock = some X.heap.size) :
    PS base X' ls vs lg vg (lk ++ [t]) v' (addG G v') xs xg (xk ++ [u]) :=
  ⟨h.k.other h.s IntsAt.stays hgrow hat (ne_symm h.sk), h.k.other h.g IntsAt.stays hgrow hat (ne_symm h.gk), h.k.snoc IntsAt.stays (ints_of_row ht) hown hgrow hat,
   h.up.add (grown_step hgrow).size hown, fun q hq => by simp [addG, h.low q hq],
   h.sg, ne_symm (ne_grow hat (ne_symm h.sk) (own_ne h.s.own)), ne_symm (ne_grow hat (ne_symm h.gk) (own_ne h.g.own)), Nat.le_trans h.le (grown_step hgrow).size⟩
/- At the end the three are rows of lists. -/
theorem Grows.rows2 {ty : TypeId} {l : List (List Int)} {v : Value} {ys : List Value} (h : Grows IntsAt ty 1 base G X l v ys) : Rows2 X X.heap.size v l :=
  ⟨ys, Each.mono IntsAt.unveil _ _ h.el, Row.of_owns h.own (Nat.le_refl _)⟩
end

end Go.Proofs.Ytilipeigjkmldaa
