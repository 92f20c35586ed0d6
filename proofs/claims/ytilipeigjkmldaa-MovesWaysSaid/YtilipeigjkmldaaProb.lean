/- A problem (flow.Problem) under way: three rows of lists that grow side by side. / A problem under way: what has come up so far in the two statements that append to its lists. -/
import Derived.Test.YtilipeigjkmldaaBodA
import Derived.Test.YtilipeigjkmldaaFlowH
import Derived.Test.YtilipeigjkmldaaCoreA
namespace Go.Proofs.Ytilipeigjkmldaa
open Go.RowKit

structure PS (base : Nat) (X : World) (ls : List (List Int)) (vs : Value) (lg : List (List Int)) (vg : Value) (lk : List (List Int)) (vk : Value) (G : Nat → Bool) (xs xg xk : List Value) : Prop where
  s : Grows IntsAt 38 1 base G X ls vs xs
  g : Grows IntsAt 38 1 base G X lg vg xg
  k : Grows IntsAt 38 1 base G X lk vk xk
  up : upG G X
  low : ∀ q, q < base → G q = true
  sg : ∀ q, vs.ownBlock = some q → vg.ownBlock ≠ some q
  sk : ∀ q, vs.ownBlock = some q → vk.ownBlock ≠ some q
  gk : ∀ q, vg.ownBlock = some q → vk.ownBlock ≠ some q
  le : base ≤ X.heap.size

section
variable {base : Nat} {X X' : World} {ls lg lk : List (List Int)} {vs vg vk v' : Value} {G : Nat → Bool} {xs xg xk : List Value}
theorem PS.nil (hb : base = X.heap.size) : PS base X [] (.slice none 0 0) [] (.slice none 0 0) [] (.slice none 0 0) (fun q => decide (q < X.heap.size)) [] [] [] :=
  ⟨Grows.nil _ _ _ _ _ _, Grows.nil _ _ _ _ _ _, Grows.nil _ _ _ _ _ _, upG.low, fun q hq => decide_eq_true (by omega), (fun _ h => nomatch h), (fun _ h => nomatch h), (fun _ h => nomatch h), by omega⟩
theorem PS.keep (h : PS base X ls vs lg vg lk vk G xs xg xk) {S : Nat → Prop} (hs : Step S X X') (hS : ∀ k, k < X.heap.size → S k → k < base) : PS base X' ls vs lg vg lk vk G xs xg xk :=
  ⟨h.s.keep IntsAt.stays hs (fun k hk e => h.low k (hS k hk e)) (fun _ _ => rfl) (fun k hk e => by have := hS k (h.s.own.lt k hk).2 e; have := (h.s.own.lt k hk).1; omega),
   h.g.keep IntsAt.stays hs (fun k hk e => h.low k (hS k hk e)) (fun _ _ => rfl) (fun k hk e => by have := hS k (h.g.own.lt k hk).2 e; have := (h.g.own.lt k hk).1; omega),
   h.k.keep IntsAt.stays hs (fun k hk e => h.low k (hS k hk e)) (fun _ _ => rfl) (fun k hk e => by have := hS k (h.k.own.lt k hk).2 e; have := (h.k.own.lt k hk).1; omega),
   h.up.mono hs.size, h.low, h.sg, h.sk, h.gk, Nat.le_trans h.le hs.size⟩
/- A row that lies apart stays so. -/
theorem row_keep {B : Nat} {v : Value} {n : Nat} {cs : List Value} {S : Nat → Prop} (h : Row (veil G X) B v n cs) (hs : Step S X X') (hS : ∀ k, k < X.heap.size → S k → G k = true) : Row (veil G X') X'.heap.size v n cs := by
  have h2 := h.step (veil_step (G' := G) hs hS (fun _ _ => rfl)) (fun _ _ h => h)
  obtain ⟨a, c, h3, h4, h5, h6, h7⟩ := h2
  refine ⟨a, c, h3, h4, h5, h6, fun hn => ?_⟩
  obtain ⟨g, o, e1, e2, e3, e4⟩ := h7 hn
  exact ⟨g, o, e1, by rw [veil_size] at e3; exact e3, e3, e4⟩
theorem row_grow {R : World → Nat → List Int → List Value → Prop} {ty : TypeId} {size : Nat} {l : List (List Int)} {v : Value} {ys : List Value} (hg : Grows R ty size base G X l v ys) (hgrow : X.grownBy X' v.ownBlock) (hat : v'.ownBlock = v.ownBlock ∨ v'.ownBlock = some X.heap.size)
    {B : Nat} {u : Value} {n : Nat} {cs : List Value} (h : Row (veil G X) B u n cs) : Row (veil (addG G v') X') X'.heap.size u n cs := by
  have h2 := h.step (veil_step (grown_step hgrow) (fun k _ e => hg.inG k e) (addG_same hg hat)) (fun _ _ h => h)
  obtain ⟨a, c, h3, h4, h5, h6, h7⟩ := h2
  refine ⟨a, c, h3, h4, h5, h6, fun hn => ?_⟩
  obtain ⟨g, o, e1, e2, e3, e4⟩ := h7 hn
  exact ⟨g, o, e1, by rw [veil_size] at e3; exact e3, e3, e4⟩
theorem row_new (hup : upG G X) {B : Nat} {u : Value} {n : Nat} {cs : List Value} (h : Row X' B u n cs) (hn : ∀ q, u.ownBlock = some q → X.heap.size ≤ q) : Row (veil G X') B u n cs :=
  h.veil (fun q hq => hup q (hn q hq))
theorem ints_of_row {w : World} {B : Nat} {l : List Int} {u : Value} (h : Row w B u l.length (intsV l)) : IntsAt w B l [u] := ⟨u, rfl, h⟩
theorem ne_grow {a b c : Value} {n : Nat} (hat : a.ownBlock = b.ownBlock ∨ a.ownBlock = some n) (h : ∀ q, b.ownBlock = some q → c.ownBlock ≠ some q) (hc : c.ownBlock ≠ some n) : ∀ q, a.ownBlock = some q → c.ownBlock ≠ some q := by
  intro q hq e
  rcases hat with h1 | h1
  · exact h q (by rw [← h1]; exact hq) e
  · rw [h1] at hq; cases hq; exact hc e
theorem ne_symm {a b : Value} (h : ∀ q, a.ownBlock = some q → b.ownBlock ≠ some q) : ∀ q, b.ownBlock = some q → a.ownBlock ≠ some q := fun q hq e => h q e hq
theorem own_ne {w : World} {e : TypeId} {size n : Nat} {v : Value} {ys : List Value} (h : w.ownsRow base e size v n ys) : v.ownBlock ≠ some w.heap.size := fun e => by have := (h.lt _ e).2; omega

theorem PS.addS (h : PS base X ls vs lg vg lk vk G xs xg xk) {t : List Int} {u : Value} (ht : Row (veil G X) X.heap.size u t.length (intsV t)) (hown : X'.ownsRow base 38 1 v' (ls.length + 1) (xs ++ [u])) (hgrow : X.grownBy X' vs.ownBlock) (hat : v'.ownBlock = vs.ownBlock ∨ v'.ownBlock = some X.heap.size) :
    PS base X' (ls ++ [t]) v' lg vg lk vk (addG G v') (xs ++ [u]) xg xk :=
  ⟨h.s.snoc IntsAt.stays (ints_of_row ht) hown hgrow hat, h.s.other h.g IntsAt.stays hgrow hat h.sg, h.s.other h.k IntsAt.stays hgrow hat h.sk,
   h.up.add (grown_step hgrow).size hown, fun q hq => by simp [addG, h.low q hq],
   ne_grow hat h.sg (own_ne h.g.own), ne_grow hat h.sk (own_ne h.k.own), h.gk, Nat.le_trans h.le (grown_step hgrow).size⟩
theorem PS.addGen (h : PS base X ls vs lg vg lk vk G xs xg xk) {t : List Int} {u : Value} (ht : Row (veil G X) X.heap.size u t.length (intsV t)) (hown : X'.ownsRow base 38 1 v' (lg.length + 1) (xg ++ [u])) (hgrow : X.grownBy X' vg.ownBlock) (hat : v'.ownBlock = vg.ownBlock ∨ v'.ownBlock = some X.heap.size) :
    PS base X' ls vs (lg ++ [t]) v' lk vk (addG G v') xs (xg ++ [u]) xk :=
  ⟨h.g.other h.s IntsAt.stays hgrow hat (ne_symm h.sg), h.g.snoc IntsAt.stays (ints_of_row ht) hown hgrow hat, h.g.other h.k IntsAt.stays hgrow hat h.gk,
   h.up.add (grown_step hgrow).size hown, fun q hq => by simp [addG, h.low q hq],
   ne_symm (ne_grow hat (ne_symm h.sg) (own_ne h.s.own)), h.sk, ne_grow hat h.gk (own_ne h.k.own), Nat.le_trans h.le (grown_step hgrow).size⟩
theorem PS.addKill (h : PS base X ls vs lg vg lk vk G xs xg xk) {t : List Int} {u : Value} (ht : Row (veil G X) X.heap.size u t.length (intsV t)) (hown : X'.ownsRow base 38 1 v' (lk.length + 1) (xk ++ [u])) (hgrow : X.grownBy X' vk.ownBlock) (hat : v'.ownBlock = vk.ownBlock ∨ v'.ownBlock = some X.heap.size) :
    PS base X' ls vs lg vg (lk ++ [t]) v' (addG G v') xs xg (xk ++ [u]) :=
  ⟨h.k.other h.s IntsAt.stays hgrow hat (ne_symm h.sk), h.k.other h.g IntsAt.stays hgrow hat (ne_symm h.gk), h.k.snoc IntsAt.stays (ints_of_row ht) hown hgrow hat,
   h.up.add (grown_step hgrow).size hown, fun q hq => by simp [addG, h.low q hq],
   h.sg, ne_symm (ne_grow hat (ne_symm h.sk) (own_ne h.s.own)), ne_symm (ne_grow hat (ne_symm h.gk) (own_ne h.g.own)), Nat.le_trans h.le (grown_step hgrow).size⟩
/- At the end the three are rows of lists. -/
theorem Grows.rows2 {ty : TypeId} {l : List (List Int)} {v : Value} {ys : List Value} (h : Grows IntsAt ty 1 base G X l v ys) : Rows2 X X.heap.size v l :=
  ⟨ys, Each.mono IntsAt.unveil _ _ h.el, Row.of_owns h.own (Nat.le_refl _)⟩
end

end Go.Proofs.Ytilipeigjkmldaa

namespace Go.Proofs.Ytilipeigjkmldaa
open Go.RowKit

/- p.Succ = append(p.Succ, mir.Succ(b, i)) -/
structure J13 (W2 : World) (base B g g3 : Nat) (b : Bod) (i wd : Int) (sl gen kill : List Int) (u5 u6 : Value) (ls : List (List Int)) (vs : Value) (lg : List (List Int)) (vg : Value) (lk : List (List Int)) (vk : Value) (L : Nat → Bool) (V : Nat → Value) (X : World) (G : Nat → Bool) (xs xg xk : List Value) : Prop where
  ps : PS base X (if L 6 = true then ls ++ [sl] else ls) (if L 6 = true then V 6 else vs) lg vg lk vk G xs xg xk
  r5 : Row (veil G X) X.heap.size u5 gen.length (intsV gen)
  r6 : Row (veil G X) X.heap.size u6 kill.length (intsV kill)
  p0 : L 0 = true → V 0 = .pointer (some ⟨g3, 0, none⟩)
  p1 : L 1 = true → V 1 = vs
  p2 : L 2 = true → V 2 = .pointer (some ⟨g, 0, none⟩)
  p3 : L 3 = true → V 3 = .int .i64 i
  p4 : L 4 = true → Row (veil G X) X.heap.size (V 4) sl.length (intsV sl)
  p5 : L 5 = true → Row (veil G X) X.heap.size (V 5) 1 [V 4]
  p7 : L 7 = true → V 7 = .pointer (some ⟨g3, 0, none⟩)
  blk : X.heap[g3]? = some (.cells #[if L 8 = true then V 6 else vs, .int .i64 wd, vg, vk, .slice none 0 0] 82 (0, 0))
  q5 : L 5 = true → L 4 = true
  q8 : L 8 = true → L 6 = true ∧ L 1 = true
  bod : BodP X B g b
  st : Step (· = g3) W2 X
def J13e (W2 : World) (base B g g3 : Nat) (b : Bod) (i wd : Int) (sl gen kill : List Int) (u5 u6 : Value) (ls : List (List Int)) (vs : Value) (lg : List (List Int)) (vg : Value) (lk : List (List Int)) (vk : Value) (L : Nat → Bool) (V : Nat → Value) (X : World) : Prop :=
  ∃ G xs xg xk, J13 W2 base B g g3 b i wd sl gen kill u5 u6 ls vs lg vg lk vk L V X G xs xg xk

/- p.Gen, p.Kill = append(p.Gen, gen), append(p.Kill, kill) -/
structure J14 (W2 : World) (base g3 : Nat) (wd : Int) (ve : Value) (gen kill : List Int) (u5 u6 : Value) (ls : List (List Int)) (vs : Value) (lg : List (List Int)) (vg : Value) (lk : List (List Int)) (vk : Value) (L : Nat → Bool) (V : Nat → Value) (X : World) (G : Nat → Bool) (xs xg xk : List Value) : Prop where
  ps : PS base X ls vs (if L 4 = true then lg ++ [gen] else lg) (if L 4 = true then V 4 else vg) (if L 9 = true then lk ++ [kill] else lk) (if L 9 = true then V 9 else vk) G xs xg xk
  r5 : Row (veil G X) X.heap.size u5 gen.length (intsV gen)
  r6 : Row (veil G X) X.heap.size u6 kill.length (intsV kill)
  p0 : L 0 = true → V 0 = .pointer (some ⟨g3, 2, none⟩)
  p1 : L 1 = true → V 1 = vg
  p2 : L 2 = true → V 2 = u5
  p3 : L 3 = true → Row (veil G X) X.heap.size (V 3) 1 [u5]
  p5 : L 5 = true → V 5 = .pointer (some ⟨g3, 3, none⟩)
  p6 : L 6 = true → V 6 = vk
  p7 : L 7 = true → V 7 = u6
  p8 : L 8 = true → Row (veil G X) X.heap.size (V 8) 1 [u6]
  p10 : L 10 = true → V 10 = .pointer (some ⟨g3, 2, none⟩)
  p12 : L 12 = true → V 12 = .pointer (some ⟨g3, 3, none⟩)
  blk : X.heap[g3]? = some (.cells #[vs, .int .i64 wd, if L 11 = true then V 4 else vg, if L 13 = true then V 9 else vk, ve] 82 (0, 0))
  q11 : L 11 = true → L 4 = true ∧ L 1 = true
  q13 : L 13 = true → L 9 = true ∧ L 6 = true
  st : Step (· = g3) W2 X
def J14e (W2 : World) (base g3 : Nat) (wd : Int) (ve : Value) (gen kill : List Int) (u5 u6 : Value) (ls : List (List Int)) (vs : Value) (lg : List (List Int)) (vg : Value) (lk : List (List Int)) (vk : Value) (L : Nat → Bool) (V : Nat → Value) (X : World) : Prop :=
  ∃ G xs xg xk, J14 W2 base g3 wd ve gen kill u5 u6 ls vs lg vg lk vk L V X G xs xg xk

section
variable {W2 X X' : World} {base B g g3 : Nat} {b : Bod} {i wd : Int} {ve : Value} {sl gen kill : List Int} {u5 u6 : Value} {ls lg lk : List (List Int)} {vs vg vk v' : Value} {L : Nat → Bool} {V : Nat → Value} {G : Nat → Bool} {xs xg xk : List Value}
/- A step that turns nothing that was there. -/
theorem J13.step (h : J13 W2 base B g g3 b i wd sl gen kill u5 u6 ls vs lg vg lk vk L V X G xs xg xk) (hs : Step (fun _ => False) X X') : J13 W2 base B g g3 b i wd sl gen kill u5 u6 ls vs lg vg lk vk L V X' G xs xg xk :=
  { h with
    ps := h.ps.keep hs (fun _ _ h => h.elim)
    r5 := row_keep h.r5 hs (fun _ _ h => h.elim)
    r6 := row_keep h.r6 hs (fun _ _ h => h.elim)
    p4 := fun e => row_keep (h.p4 e) hs (fun _ _ h => h.elim)
    p5 := fun e => row_keep (h.p5 e) hs (fun _ _ h => h.elim)
    blk := hs.keep h.blk (fun h => h)
    bod := h.bod.step hs (fun _ _ h => h)
    st := h.st.trans (hs.mono (fun _ _ h => h.elim)) }
theorem J13.up4 (h : J13 W2 base B g g3 b i wd sl gen kill u5 u6 ls vs lg vg lk vk L V X G xs xg xk) (hL : L 4 = false) (hs : Step (fun _ => False) X X') {v : Value} (hr : Row X' X'.heap.size v sl.length (intsV sl)) (hn : ∀ q, v.ownBlock = some q → X.heap.size ≤ q) :
    J13 W2 base B g g3 b i wd sl gen kill u5 u6 ls vs lg vg lk vk (updL L 4) (updV V 4 v) X' G xs xg xk :=
  { h.step hs with
    p4 := fun _ => row_new h.ps.up hr hn
    p5 := fun e => absurd (h.q5 e) (by rw [hL]; decide)
    q5 := fun _ => rfl }
theorem J13.up5 (h : J13 W2 base B g g3 b i wd sl gen kill u5 u6 ls vs lg vg lk vk L V X G xs xg xk) (h4 : L 4 = true) :
    J13 W2 base B g g3 b i wd sl gen kill u5 u6 ls vs lg vg lk vk (updL L 5) (updV V 5 (.slice (some ⟨X.heap.size, 0, none⟩) 1 1)) (X.alloc (.cells #[V 4] 38)) G xs xg xk :=
  { h.step ((Step.refl _ _).alloc _) with
    p5 := fun _ => row_new h.ps.up ((Row.new (cs := [V 4]) (blk_new X (.cells #[V 4] 38)) (by decide)).mono (by simp)) (fun q hq => by cases hq; exact Nat.le_refl _)
    q5 := fun _ => h4 }
theorem J13.up6 (h : J13 W2 base B g g3 b i wd sl gen kill u5 u6 ls vs lg vg lk vk L V X G xs xg xk) (hL : L 6 = false) (h4 : L 4 = true) (hB : B ≤ base) (hg3 : g3 < base) (hsz : W2.heap.size ≤ base) (hown : X'.ownsRow base 38 1 v' (ls.length + 1) (xs ++ [V 4])) (hgrow : X.grownBy X' vs.ownBlock) (hat : v'.ownBlock = vs.ownBlock ∨ v'.ownBlock = some X.heap.size) :
    J13 W2 base B g g3 b i wd sl gen kill u5 u6 ls vs lg vg lk vk (updL L 6) (updV V 6 v') X' (addG G v') (xs ++ [V 4]) xg xk := by
  have hps := h.ps
  simp only [hL, Bool.false_eq_true, if_false] at hps
  have h8 : L 8 = false := by
    cases e : L 8 with
    | false => rfl
    | true => exact absurd (h.q8 e).1 (by rw [hL]; decide)
  have hlt : ∀ q, vs.ownBlock = some q → base ≤ q := fun q hq => (hps.s.own.lt q hq).1
  exact { h with
    ps := hps.addS (h.p4 h4) hown hgrow hat
    r5 := row_grow hps.s hgrow hat h.r5
    r6 := row_grow hps.s hgrow hat h.r6
    p4 := fun e => row_grow hps.s hgrow hat (h.p4 e)
    p5 := fun e => row_grow hps.s hgrow hat (h.p5 e)
    blk := by
      have hb := h.blk
      simp only [h8, Bool.false_eq_true, if_false] at hb
      have e8 : updL L 6 8 = false := h8
      rw [e8]
      exact grown_keep hgrow hb (fun q hq e => by have := hlt q hq; omega)
    q8 := fun e => absurd (show L 8 = true from e) (by rw [h8]; decide)
    bod := h.bod.step (grown_step hgrow) (fun q hq e => by have := hlt q e; omega)
    st := h.st.then (grown_step hgrow) (fun q hq e => by have := hlt q e; omega) }
theorem J13.up8 (h : J13 W2 base B g g3 b i wd sl gen kill u5 u6 ls vs lg vg lk vk L V X G xs xg xk) (hL : L 8 = false) (h6 : L 6 = true) (h1 : L 1 = true) (hB : B ≤ g3) (hg3 : g3 < base) (v : Value) :
    J13 W2 base B g g3 b i wd sl gen kill u5 u6 ls vs lg vg lk vk (updL L 8) (updV V 8 v) (X.setCell ⟨g3, 0, none⟩ (V 6)) G xs xg xk := by
  have hs : Step (· = g3) X (X.setCell ⟨g3, 0, none⟩ (V 6)) := (Step.refl (· = g3) X).setCell ⟨g3, 0, none⟩ _ (fun _ => rfl)
  have hS : ∀ k, k < X.heap.size → k = g3 → G k = true := fun k _ e => by subst e; exact h.ps.low _ hg3
  have hb := h.blk
  simp only [hL, Bool.false_eq_true, if_false] at hb
  exact { h with
    ps := h.ps.keep hs (fun k _ e => by omega)
    r5 := row_keep h.r5 hs hS
    r6 := row_keep h.r6 hs hS
    p4 := fun e => row_keep (h.p4 e) hs hS
    p5 := fun e => row_keep (h.p5 e) hs hS
    blk := blk_set hb 0 (V 6)
    q8 := fun _ => ⟨h6, h1⟩
    bod := h.bod.step hs (fun q hq e => by omega)
    st := h.st.trans hs }

theorem J14.step (h : J14 W2 base g3 wd ve gen kill u5 u6 ls vs lg vg lk vk L V X G xs xg xk) (hs : Step (fun _ => False) X X') : J14 W2 base g3 wd ve gen kill u5 u6 ls vs lg vg lk vk L V X' G xs xg xk :=
  { h with
    ps := h.ps.keep hs (fun _ _ h => h.elim)
    r5 := row_keep h.r5 hs (fun _ _ h => h.elim)
    r6 := row_keep h.r6 hs (fun _ _ h => h.elim)
    p3 := fun e => row_keep (h.p3 e) hs (fun _ _ h => h.elim)
    p8 := fun e => row_keep (h.p8 e) hs (fun _ _ h => h.elim)
    blk := hs.keep h.blk (fun h => h)
    st := h.st.trans (hs.mono (fun _ _ h => h.elim)) }
theorem J14.up3 (h : J14 W2 base g3 wd ve gen kill u5 u6 ls vs lg vg lk vk L V X G xs xg xk) :
    J14 W2 base g3 wd ve gen kill u5 u6 ls vs lg vg lk vk (updL L 3) (updV V 3 (.slice (some ⟨X.heap.size, 0, none⟩) 1 1)) (X.alloc (.cells #[u5] 38)) G xs xg xk :=
  { h.step ((Step.refl _ _).alloc _) with
    p3 := fun _ => row_new h.ps.up ((Row.new (cs := [u5]) (blk_new X (.cells #[u5] 38)) (by decide)).mono (by simp)) (fun q hq => by cases hq; exact Nat.le_refl _) }
theorem J14.up8 (h : J14 W2 base g3 wd ve gen kill u5 u6 ls vs lg vg lk vk L V X G xs xg xk) :
    J14 W2 base g3 wd ve gen kill u5 u6 ls vs lg vg lk vk (updL L 8) (updV V 8 (.slice (some ⟨X.heap.size, 0, none⟩) 1 1)) (X.alloc (.cells #[u6] 38)) G xs xg xk :=
  { h.step ((Step.refl _ _).alloc _) with
    p8 := fun _ => row_new h.ps.up ((Row.new (cs := [u6]) (blk_new X (.cells #[u6] 38)) (by decide)).mono (by simp)) (fun q hq => by cases hq; exact Nat.le_refl _) }
theorem J14.gen4 (h : J14 W2 base g3 wd ve gen kill u5 u6 ls vs lg vg lk vk L V X G xs xg xk) (hL : L 4 = false) : PS base X ls vs lg vg (if L 9 = true then lk ++ [kill] else lk) (if L 9 = true then V 9 else vk) G xs xg xk := by
  have hps := h.ps
  simp only [hL, Bool.false_eq_true, if_false] at hps
  exact hps
theorem J14.kill9 (h : J14 W2 base g3 wd ve gen kill u5 u6 ls vs lg vg lk vk L V X G xs xg xk) (hL : L 9 = false) : PS base X ls vs (if L 4 = true then lg ++ [gen] else lg) (if L 4 = true then V 4 else vg) lk vk G xs xg xk := by
  have hps := h.ps
  simp only [hL, Bool.false_eq_true, if_false] at hps
  exact hps
theorem J14.n11 (h : J14 W2 base g3 wd ve gen kill u5 u6 ls vs lg vg lk vk L V X G xs xg xk) (hL : L 4 = false ∨ L 1 = false) : L 11 = false := by
  cases e : L 11 with
  | false => rfl
  | true => rcases hL with h1 | h1 <;> simp [(h.q11 e).1, (h.q11 e).2] at h1
theorem J14.n13 (h : J14 W2 base g3 wd ve gen kill u5 u6 ls vs lg vg lk vk L V X G xs xg xk) (hL : L 9 = false ∨ L 6 = false) : L 13 = false := by
  cases e : L 13 with
  | false => rfl
  | true => rcases hL with h1 | h1 <;> simp [(h.q13 e).1, (h.q13 e).2] at h1
theorem J14.up4 (h : J14 W2 base g3 wd ve gen kill u5 u6 ls vs lg vg lk vk L V X G xs xg xk) (hL : L 4 = false) (hg3 : g3 < base) (hsz : W2.heap.size ≤ base) (hown : X'.ownsRow base 38 1 v' (lg.length + 1) (xg ++ [u5])) (hgrow : X.grownBy X' vg.ownBlock) (hat : v'.ownBlock = vg.ownBlock ∨ v'.ownBlock = some X.heap.size) :
    J14 W2 base g3 wd ve gen kill u5 u6 ls vs lg vg lk vk (updL L 4) (updV V 4 v') X' (addG G v') xs (xg ++ [u5]) xk := by
  have hps := h.gen4 hL
  have h11 := h.n11 (.inl hL)
  have hlt : ∀ q, vg.ownBlock = some q → base ≤ q := fun q hq => (hps.g.own.lt q hq).1
  exact { h with
    ps := hps.addGen h.r5 hown hgrow hat
    r5 := row_grow hps.g hgrow hat h.r5
    r6 := row_grow hps.g hgrow hat h.r6
    p3 := fun e => row_grow hps.g hgrow hat (h.p3 e)
    p8 := fun e => row_grow hps.g hgrow hat (h.p8 e)
    blk := by
      have hb := h.blk
      simp only [h11, Bool.false_eq_true, if_false] at hb
      have e8 : updL L 4 11 = false := h11
      rw [e8]
      exact grown_keep hgrow hb (fun q hq e => by have := hlt q hq; omega)
    q11 := fun e => absurd (show L 11 = true from e) (by rw [h11]; decide)
    st := h.st.then (grown_step hgrow) (fun q hq e => by have := hlt q e; omega) }
theorem J14.up9 (h : J14 W2 base g3 wd ve gen kill u5 u6 ls vs lg vg lk vk L V X G xs xg xk) (hL : L 9 = false) (hg3 : g3 < base) (hsz : W2.heap.size ≤ base) (hown : X'.ownsRow base 38 1 v' (lk.length + 1) (xk ++ [u6])) (hgrow : X.grownBy X' vk.ownBlock) (hat : v'.ownBlock = vk.ownBlock ∨ v'.ownBlock = some X.heap.size) :
    J14 W2 base g3 wd ve gen kill u5 u6 ls vs lg vg lk vk (updL L 9) (updV V 9 v') X' (addG G v') xs xg (xk ++ [u6]) := by
  have hps := h.kill9 hL
  have h13 := h.n13 (.inl hL)
  have hlt : ∀ q, vk.ownBlock = some q → base ≤ q := fun q hq => (hps.k.own.lt q hq).1
  exact { h with
    ps := hps.addKill h.r6 hown hgrow hat
    r5 := row_grow hps.k hgrow hat h.r5
    r6 := row_grow hps.k hgrow hat h.r6
    p3 := fun e => row_grow hps.k hgrow hat (h.p3 e)
    p8 := fun e => row_grow hps.k hgrow hat (h.p8 e)
    blk := by
      have hb := h.blk
      simp only [h13, Bool.false_eq_true, if_false] at hb
      have e8 : updL L 9 13 = false := h13
      rw [e8]
      exact grown_keep hgrow hb (fun q hq e => by have := hlt q hq; omega)
    q13 := fun e => absurd (show L 13 = true from e) (by rw [h13]; decide)
    st := h.st.then (grown_step hgrow) (fun q hq e => by have := hlt q e; omega) }
theorem J14.up11 (h : J14 W2 base g3 wd ve gen kill u5 u6 ls vs lg vg lk vk L V X G xs xg xk) (h4 : L 4 = true) (h1 : L 1 = true) (hg3 : g3 < base) (v : Value) :
    J14 W2 base g3 wd ve gen kill u5 u6 ls vs lg vg lk vk (updL L 11) (updV V 11 v) (X.setCell ⟨g3, 2, none⟩ (V 4)) G xs xg xk := by
  have hs : Step (· = g3) X (X.setCell ⟨g3, 2, none⟩ (V 4)) := (Step.refl (· = g3) X).setCell ⟨g3, 2, none⟩ _ (fun _ => rfl)
  have hS : ∀ k, k < X.heap.size → k = g3 → G k = true := fun k _ e => by subst e; exact h.ps.low _ hg3
  exact { h with
    ps := h.ps.keep hs (fun k _ e => by omega)
    r5 := row_keep h.r5 hs hS
    r6 := row_keep h.r6 hs hS
    p3 := fun e => row_keep (h.p3 e) hs hS
    p8 := fun e => row_keep (h.p8 e) hs hS
    blk := blk_set h.blk 2 (V 4)
    q11 := fun _ => ⟨h4, h1⟩
    st := h.st.trans hs }
theorem J14.up13 (h : J14 W2 base g3 wd ve gen kill u5 u6 ls vs lg vg lk vk L V X G xs xg xk) (h4 : L 9 = true) (h1 : L 6 = true) (hg3 : g3 < base) (v : Value) :
    J14 W2 base g3 wd ve gen kill u5 u6 ls vs lg vg lk vk (updL L 13) (updV V 13 v) (X.setCell ⟨g3, 3, none⟩ (V 9)) G xs xg xk := by
  have hs : Step (· = g3) X (X.setCell ⟨g3, 3, none⟩ (V 9)) := (Step.refl (· = g3) X).setCell ⟨g3, 3, none⟩ _ (fun _ => rfl)
  have hS : ∀ k, k < X.heap.size → k = g3 → G k = true := fun k _ e => by subst e; exact h.ps.low _ hg3
  exact { h with
    ps := h.ps.keep hs (fun k _ e => by omega)
    r5 := row_keep h.r5 hs hS
    r6 := row_keep h.r6 hs hS
    p3 := fun e => row_keep (h.p3 e) hs hS
    p8 := fun e => row_keep (h.p8 e) hs hS
    blk := blk_set h.blk 3 (V 9)
    q13 := fun _ => ⟨h4, h1⟩
    st := h.st.trans hs }
end

end Go.Proofs.Ytilipeigjkmldaa
