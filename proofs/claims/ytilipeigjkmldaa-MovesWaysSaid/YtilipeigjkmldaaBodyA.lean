/- The body that a shape makes: plain; the walk of its maker. -/
import Derived.Test.YtilipeigjkmldaaShapeA
import Derived.Test.YtilipeigjkmldaaLivedA
import Derived.Test.YtilipeigjkmldaaBodA
import Derived.Test.YtilipeigjkmldaaCoreA
import Derived.Test.YtilipeigjkmldaaFlowH
import Derived.Deep.RegionLaw
import Derived.Deep.DeepCutAuto
import Derived.Deep.CutBlock
namespace Go.Proofs.Ytilipeigjkmldaa
open Go.RowKit

def noPl : Pl := ⟨0, []⟩
def noOp : Opd := ⟨0, noPl, 0, 0⟩
def mkI (k loc : Int) (dest : Pl) (rk : Int) (args : List Opd) (rpl : Pl) (mu : Bool) (cond : Opd) (tgt els : Int) : Ins := ⟨k, loc, dest, rk, args, rpl, mu, ⟨#[]⟩, 0, cond, tgt, els, 0, 0⟩
def kindF (c : Cd) : Int := c.kind % 18446744073709551616 % 9
def srcF (c : Cd) : Pl := ⟨locF c.a, pathF c.p⟩
def dstF (c : Cd) : Pl := ⟨locF c.b, pathF c.q⟩
/- The instruction that a number's code makes, in a body of n instructions. -/
def cdIns (n : Nat) (c : Cd) : Ins :=
  if kindF c = 1 then mkI 3 0 (dstF c) 1 [⟨2, srcF c, 0, 0⟩] noPl false noOp 0 0
  else if kindF c = 2 then mkI 3 0 (dstF c) 2 [] (srcF c) (decide (c.tgt.tmod 2 = 0)) noOp 0 0
  else if kindF c = 3 then mkI 1 (locF c.a) noPl 0 [] noPl false noOp 0 0
  else if kindF c = 4 then mkI 2 (locF c.a) noPl 0 [] noPl false noOp 0 0
  else if kindF c = 5 then mkI 4 0 noPl 0 [] noPl false noOp (atF n c.tgt) 0
  else if kindF c = 6 then mkI 5 0 noPl 0 [] noPl false ⟨2, srcF c, 0, 0⟩ (atF n c.tgt) (atF n c.els)
  else if kindF c = 7 then mkI 3 0 (dstF c) 10 [] noPl false noOp 0 0
  else if kindF c = 8 then mkI 7 0 noPl 0 [] noPl false noOp 0 0
  else mkI 3 0 (dstF c) 1 [⟨3, srcF c, 0, 0⟩] noPl false noOp 0 0
def retIns : Ins := mkI 6 0 noPl 0 [] noPl false noOp 0 0
def shBod (s : Shp) : Bod := ⟨⟨#[]⟩, s.params % 18446744073709551616 % 4, 4, s.code.map (cdIns (s.code.length + 1)) ++ [retIns]⟩

theorem Try.infoLocal : (Try.prog.info? 168).map (fun i => (i.zero.isSome, decide (i.bytes ≤ 1000))) = some (true, true) := by kernel_rfl
/- make of few locals. -/
theorem make_locals (n : Nat) (m : Int) (hm : m = n) (hn : n ≤ 1000) : ∃ cs : Array Value, ∀ W : World, (Instr.makeSlice 26 (.int .i64 m) (.int .i64 m)).run Try.prog W = .ok (.slice (some ⟨W.heap.size, 0, none⟩) n n) (W.alloc (.cells cs 168)) := by
  have hI := Try.infoLocal
  cases hi : Try.prog.info? 168 with
  | none => rw [hi] at hI; cases hI
  | some i =>
    rw [hi] at hI
    simp only [Option.map_some, Option.some.injEq, Prod.mk.injEq, decide_eq_true_eq] at hI
    obtain ⟨hz, hb⟩ := hI
    obtain ⟨z, hz⟩ := Option.isSome_iff_exists.1 hz
    refine ⟨madeCells z.cells (n * i.size), fun W => ?_⟩
    have hbb : (i.bytes : Int) * m ≤ 281474976710656 := by
      have h1 : i.bytes * n ≤ 1000 * 1000 := Nat.mul_le_mul hb hn
      have h2 : ((i.bytes * n : Nat) : Int) ≤ 1000000 := Int.ofNat_le.2 (by omega)
      rw [hm]; rw [Int.natCast_mul] at h2; omega
    have h := run_make (P := Try.prog) W 26 168 i z Try.underlying26 hi hz .i64 .i64 m m (by omega) (Int.le_refl _) hbb (by omega)
    rw [show m.toNat = n by omega] at h
    exact h

theorem Try.sizeCode : (Try.prog.info? 75).map (·.size) = some 7 := by kernel_rfl
theorem CdAt.one {w : World} {B : Nat} (c : Cd) (cs : List Value) (h : CdAt w B c cs) : ∀ u ∈ cs, u.oneCell' = true := by
  obtain ⟨vp, vq, rfl, h1, h2⟩ := h
  have e1 := h1.one
  have e2 := h2.one
  intro u hu
  simp at hu
  rcases hu with rfl | rfl | rfl | rfl | rfl | rfl | rfl <;> first | rfl | assumption

theorem owns_tag {w : World} {base : Nat} {e : TypeId} {size : Nat} {v : Value} {n : Nat} {xs : List Value} {g t : Nat} {c : Array Value} {fz : Nat × Nat} (h : w.ownsRow base e size v n xs) (hb : w.heap[g]? = some (.cells c t fz)) (hne : e ≠ t) : v.ownBlock ≠ some g := by
  intro e1
  rcases h.2 with ⟨rfl, _⟩ | ⟨g2, cap, cur, rfl, _, hg, _⟩
  · cases e1
  · cases e1
    rw [hb] at hg
    cases hg
    exact hne rfl
/- What has come up so far in the statement that makes two places. -/
structure TwoPl (w3 : World) (b7 : Nat) (c : Cd) (vp vq : Value) (L : Nat → Bool) (V : Nat → Value) (X : World) : Prop where
  st : Step (fun _ => False) w3 X
  p0 : L 0 = true → V 0 = .pointer (some ⟨b7, 1, none⟩)
  p1 : L 1 = true → V 1 = .int .i64 c.a
  p2 : L 2 = true → V 2 = .int .i64 (locF c.a)
  p3 : L 3 = true → V 3 = .pointer (some ⟨b7, 5, none⟩)
  p4 : L 4 = true → V 4 = vp
  p5 : L 5 = true → X.ownsRow w3.heap.size 3 1 (V 5) (pathF c.p).length (intsV (pathF c.p))
  p6 : L 6 = true → V 6 = .agg #[.int .i64 (locF c.a), V 5] ∧ L 5 = true
  p7 : L 7 = true → V 7 = .pointer (some ⟨b7, 2, none⟩)
  p8 : L 8 = true → V 8 = .int .i64 c.b
  p9 : L 9 = true → V 9 = .int .i64 (locF c.b)
  p10 : L 10 = true → V 10 = .pointer (some ⟨b7, 6, none⟩)
  p11 : L 11 = true → V 11 = vq
  p12 : L 12 = true → X.ownsRow w3.heap.size 3 1 (V 12) (pathF c.q).length (intsV (pathF c.q))
  p13 : L 13 = true → V 13 = .agg #[.int .i64 (locF c.b), V 12] ∧ L 12 = true
  p14 : L 14 = true → ∃ g, V 14 = .pointer (some ⟨g, 0, none⟩) ∧ w3.heap.size ≤ g ∧ (L 16 = false → X.heap[g]? = some (.cells #[.int .i64 0, .slice none 0 0] 47 (0, 0))) ∧ (L 16 = true → X.heap[g]? = some (.cells #[.int .i64 (locF c.a), V 5] 47 (0, 0)))
  p15 : L 15 = true → ∃ g, V 15 = .pointer (some ⟨g, 0, none⟩) ∧ w3.heap.size ≤ g ∧ (L 17 = false → X.heap[g]? = some (.cells #[.int .i64 0, .slice none 0 0] 47 (0, 0))) ∧ (L 17 = true → X.heap[g]? = some (.cells #[.int .i64 (locF c.b), V 12] 47 (0, 0)))
  ne : L 14 = true → L 15 = true → V 14 ≠ V 15
  q16 : L 16 = true → L 5 = true ∧ L 14 = true
  q17 : L 17 = true → L 12 = true ∧ L 15 = true

section
variable {w3 X X' : World} {b7 : Nat} {c : Cd} {vp vq : Value} {L : Nat → Bool} {V : Nat → Value}
theorem TwoPl.blk14 (h : TwoPl w3 b7 c vp vq L V X) (hL : L 14 = true) : ∃ g cs, V 14 = .pointer (some ⟨g, 0, none⟩) ∧ w3.heap.size ≤ g ∧ X.heap[g]? = some (.cells cs 47 (0, 0)) := by
  obtain ⟨g, h1, h2, h3, h4⟩ := h.p14 hL
  cases e : L 16 with
  | false => exact ⟨g, _, h1, h2, h3 e⟩
  | true => exact ⟨g, _, h1, h2, h4 e⟩
theorem TwoPl.blk15 (h : TwoPl w3 b7 c vp vq L V X) (hL : L 15 = true) : ∃ g cs, V 15 = .pointer (some ⟨g, 0, none⟩) ∧ w3.heap.size ≤ g ∧ X.heap[g]? = some (.cells cs 47 (0, 0)) := by
  obtain ⟨g, h1, h2, h3, h4⟩ := h.p15 hL
  cases e : L 17 with
  | false => exact ⟨g, _, h1, h2, h3 e⟩
  | true => exact ⟨g, _, h1, h2, h4 e⟩
/- Behind a step that turns nothing that was there. -/
theorem TwoPl.step (h : TwoPl w3 b7 c vp vq L V X) (hs : Step (fun _ => False) X X') : TwoPl w3 b7 c vp vq L V X' :=
  { h with
    st := h.st.trans hs
    p5 := fun hL => hs.owns (h.p5 hL) (fun _ _ h => h)
    p12 := fun hL => hs.owns (h.p12 hL) (fun _ _ h => h)
    p14 := fun hL => let ⟨g, h1, h2, h3, h4⟩ := h.p14 hL; ⟨g, h1, h2, fun e => hs.keep (h3 e) (fun h => h), fun e => hs.keep (h4 e) (fun h => h)⟩
    p15 := fun hL => let ⟨g, h1, h2, h3, h4⟩ := h.p15 hL; ⟨g, h1, h2, fun e => hs.keep (h3 e) (fun h => h), fun e => hs.keep (h4 e) (fun h => h)⟩ }
theorem TwoPl.up5 (h : TwoPl w3 b7 c vp vq L V X) (hL : L 5 = false) {u : Value} (hu : X.ownsRow w3.heap.size 3 1 u (pathF c.p).length (intsV (pathF c.p))) : TwoPl w3 b7 c vp vq (updL L 5) (updV V 5 u) X :=
  { h with
    p5 := fun _ => hu
    p6 := fun h6 => absurd (h.p6 h6).2 (by rw [hL]; decide)
    p14 := fun h14 => let ⟨g, h1, h2, h3, _⟩ := h.p14 h14; ⟨g, h1, h2, h3, fun e => absurd (h.q16 e).1 (by rw [hL]; decide)⟩
    q16 := fun e => ⟨rfl, (h.q16 e).2⟩ }
theorem TwoPl.up12 (h : TwoPl w3 b7 c vp vq L V X) (hL : L 12 = false) {u : Value} (hu : X.ownsRow w3.heap.size 3 1 u (pathF c.q).length (intsV (pathF c.q))) : TwoPl w3 b7 c vp vq (updL L 12) (updV V 12 u) X :=
  { h with
    p12 := fun _ => hu
    p13 := fun h6 => absurd (h.p13 h6).2 (by rw [hL]; decide)
    p15 := fun h14 => let ⟨g, h1, h2, h3, _⟩ := h.p15 h14; ⟨g, h1, h2, h3, fun e => absurd (h.q17 e).1 (by rw [hL]; decide)⟩
    q17 := fun e => ⟨rfl, (h.q17 e).2⟩ }
theorem TwoPl.up14 (h : TwoPl w3 b7 c vp vq L V X) (hL : L 14 = false) : TwoPl w3 b7 c vp vq (updL L 14) (updV V 14 (.pointer (some ⟨X.heap.size, 0, none⟩))) (X.alloc (.cells #[.int .i64 0, .slice none 0 0] 47)) :=
  { h.step ((Step.refl _ _).alloc (.cells #[.int .i64 0, .slice none 0 0] 47)) with
    p14 := fun _ => ⟨X.heap.size, rfl, h.st.size, fun _ => blk_new _ _, fun e => absurd (h.q16 e).2 (by rw [hL]; decide)⟩
    ne := fun _ h15 e => by
      obtain ⟨g, cs, h1, h2, h3⟩ := h.blk15 h15
      have e2 : Value.pointer (some ⟨X.heap.size, 0, none⟩) = V 15 := e
      rw [h1] at e2
      have := blk_lt h3
      simp at e2
      try omega
    q16 := fun e => ⟨(h.q16 e).1, rfl⟩ }
theorem TwoPl.up15 (h : TwoPl w3 b7 c vp vq L V X) (hL : L 15 = false) : TwoPl w3 b7 c vp vq (updL L 15) (updV V 15 (.pointer (some ⟨X.heap.size, 0, none⟩))) (X.alloc (.cells #[.int .i64 0, .slice none 0 0] 47)) :=
  { h.step ((Step.refl _ _).alloc (.cells #[.int .i64 0, .slice none 0 0] 47)) with
    p15 := fun _ => ⟨X.heap.size, rfl, h.st.size, fun _ => blk_new _ _, fun e => absurd (h.q17 e).2 (by rw [hL]; decide)⟩
    ne := fun h14 _ e => by
      obtain ⟨g, cs, h1, h2, h3⟩ := h.blk14 h14
      have e2 : V 14 = Value.pointer (some ⟨X.heap.size, 0, none⟩) := e
      rw [h1] at e2
      have := blk_lt h3
      simp at e2
      try omega
    q17 := fun e => ⟨(h.q17 e).1, rfl⟩ }
theorem set2 {X : World} {g t : Nat} {a0 a1 b0 b1 : Value} (h : X.heap[g]? = some (.cells #[a0, a1] t (0, 0))) : ((X.setCell ⟨g, 0, none⟩ b0).setCell ⟨g, 1, none⟩ b1).heap[g]? = some (.cells #[b0, b1] t (0, 0)) ∧ Step (· = g) X ((X.setCell ⟨g, 0, none⟩ b0).setCell ⟨g, 1, none⟩ b1) :=
  ⟨blk_set (blk_set h 0 b0) 1 b1, ((Step.refl (· = g) X).setCell ⟨g, 0, none⟩ b0 (fun _ => rfl)).setCell ⟨g, 1, none⟩ b1 (fun _ => rfl)⟩
theorem TwoPl.up16 (h : TwoPl w3 b7 c vp vq L V X) {g : Nat} (hV : V 14 = .pointer (some ⟨g, 0, none⟩)) (hL : L 16 = false) (h14 : L 14 = true) (h5 : L 5 = true) (hs : Step (· = g) X X') (hb : X'.heap[g]? = some (.cells #[.int .i64 (locF c.a), V 5] 47 (0, 0))) (v : Value) : TwoPl w3 b7 c vp vq (updL L 16) (updV V 16 v) X' := by
  obtain ⟨g', h1, h2, h3, -⟩ := h.p14 h14
  rw [hV] at h1
  cases h1
  have hz := h3 hL
  exact { h with
    st := h.st.then hs (fun i hi e => by subst e; omega)
    p5 := fun e => owns_keep hs (h.p5 e) (fun k hk e2 => owns_tag (h.p5 e) hz (by decide) (by subst e2; exact hk))
    p12 := fun e => owns_keep hs (h.p12 e) (fun k hk e2 => owns_tag (h.p12 e) hz (by decide) (by subst e2; exact hk))
    p14 := fun _ => ⟨g, hV, h2, (fun e => nomatch e), fun _ => hb⟩
    p15 := fun h15 => by
      obtain ⟨g', k1, k2, k3, k4⟩ := h.p15 h15
      have hne : g' ≠ g := fun e => h.ne h14 h15 (by rw [hV, k1, e])
      exact ⟨g', k1, k2, fun e => hs.keep (k3 e) hne, fun e => hs.keep (k4 e) hne⟩
    q16 := fun _ => ⟨h5, h14⟩ }
theorem TwoPl.up17 (h : TwoPl w3 b7 c vp vq L V X) {g : Nat} (hV : V 15 = .pointer (some ⟨g, 0, none⟩)) (hL : L 17 = false) (h14 : L 15 = true) (h5 : L 12 = true) (hs : Step (· = g) X X') (hb : X'.heap[g]? = some (.cells #[.int .i64 (locF c.b), V 12] 47 (0, 0))) (v : Value) : TwoPl w3 b7 c vp vq (updL L 17) (updV V 17 v) X' := by
  obtain ⟨g', h1, h2, h3, -⟩ := h.p15 h14
  rw [hV] at h1
  cases h1
  have hz := h3 hL
  exact { h with
    st := h.st.then hs (fun i hi e => by subst e; omega)
    p5 := fun e => owns_keep hs (h.p5 e) (fun k hk e2 => owns_tag (h.p5 e) hz (by decide) (by subst e2; exact hk))
    p12 := fun e => owns_keep hs (h.p12 e) (fun k hk e2 => owns_tag (h.p12 e) hz (by decide) (by subst e2; exact hk))
    p15 := fun _ => ⟨g, hV, h2, (fun e => nomatch e), fun _ => hb⟩
    p14 := fun h15 => by
      obtain ⟨g', k1, k2, k3, k4⟩ := h.p14 h15
      have hne : g' ≠ g := fun e => h.ne h15 h14 (by rw [hV, k1, e])
      exact ⟨g', k1, k2, fun e => hs.keep (k3 e) hne, fun e => hs.keep (k4 e) hne⟩
    q17 := fun _ => ⟨h5, h14⟩ }
end

theorem insAt {w : World} {B : Nat} {k loc : Int} {dest : Pl} {rk : Int} {args : List Opd} {rpl : Pl} {mu : Bool} {cond : Opd} {tg el : Int} {dv av rv cv : Value} {xa : List Value} (h1 : Row w B dv dest.path.length (intsV dest.path)) (h2 : Each (OpAt w B) args xa) (h3 : Row w B av args.length xa)
    (h4 : Row w B rv rpl.path.length (intsV rpl.path)) (h5 : Row w B cv cond.pl.path.length (intsV cond.pl.path)) : InAt w B (mkI k loc dest rk args rpl mu cond tg el) (insCells k loc dest.loc dv rk av rpl.loc rv mu 0 cond.kind cond.pl.loc cv cond.ty cond.n tg el) :=
  ⟨dv, av, rv, .slice none 0 0, cv, xa, rfl, h1, h2, h3, h4, ⟨_, _, _, rfl⟩, h5⟩
theorem insCells_one {k loc dl rk rl rn ck cl ct cn tg el : Int} {mu : Bool} {dv av rv cv : Value} (h1 : dv.oneCell' = true) (h2 : av.oneCell' = true) (h3 : rv.oneCell' = true) (h4 : cv.oneCell' = true) : ∀ u ∈ insCells k loc dl dv rk av rl rv mu rn ck cl cv ct cn tg el, u.oneCell' = true := by
  intro u hu
  simp [insCells] at hu
  rcases hu with rfl | rfl | rfl | rfl | rfl | rfl | rfl | rfl | rfl | rfl | rfl | rfl | rfl | rfl | rfl | rfl | rfl | rfl | rfl | rfl | rfl <;> first | rfl | assumption

theorem Try.infoIns : (Try.prog.info? 57).map (fun i => (i.zero, i.size, i.bytes)) = some (some (.agg (insCells 0 0 0 (.slice none 0 0) 0 (.slice none 0 0) 0 (.slice none 0 0) false 0 0 0 (.slice none 0 0) 0 0 0 0).toArray), 21, 256) := by kernel_rfl
theorem Try.sizeBody : (Try.prog.info? 29).map (·.size) = some 4 := by kernel_rfl
theorem rigCells_one {rk rl rn : Int} {mu : Bool} {av rv : Value} (h2 : av.oneCell' = true) (h3 : rv.oneCell' = true) : ∀ u ∈ rigCells rk av rl rv mu rn, u.oneCell' = true := by
  intro u hu
  simp [rigCells] at hu
  rcases hu with rfl | rfl | rfl | rfl | rfl | rfl | rfl | rfl <;> first | rfl | assumption
/- What has come up so far in the statement that makes a choice between two ways. -/
structure TwoAt (w5 : World) (b7 g10 g4 nn : Nat) (c : Cd) (v1 : Value) (L : Nat → Bool) (V : Nat → Value) (X : World) : Prop where
  same : L 11 = false → X = w5.drew
  p0 : L 0 = true → V 0 = .agg #[.int .i64 (locF c.a), v1]
  p1 : L 1 = true → V 1 = .agg #[.int .i64 2, .int .i64 (locF c.a), v1, .int .i64 0, .int .u64 0]
  p2 : L 2 = true → V 2 = .func (Fn.func 29) #[] #[.pointer (some ⟨g4, 0, none⟩)]
  p3 : L 3 = true → V 3 = .pointer (some ⟨b7, 3, none⟩)
  p4 : L 4 = true → V 4 = .int .i64 c.tgt
  p5 : L 5 = true → V 5 = .int .i64 (atF nn c.tgt)
  p6 : L 6 = true → V 6 = .func (Fn.func 29) #[] #[.pointer (some ⟨g4, 0, none⟩)]
  p7 : L 7 = true → V 7 = .pointer (some ⟨b7, 4, none⟩)
  p8 : L 8 = true → V 8 = .int .i64 c.els
  p9 : L 9 = true → V 9 = .int .i64 (atF nn c.els)
  p10 : L 10 = true → V 10 = .agg (insCells 5 0 0 (.slice none 0 0) 0 (.slice none 0 0) 0 (.slice none 0 0) false 0 2 (locF c.a) v1 0 0 (atF nn c.tgt) (atF nn c.els)).toArray
  q11 : L 11 = true → ∀ i, i < 11 → L i = true
  p11 : L 11 = true → X.heap[g10]? = some (.cells (insCells 5 0 0 (.slice none 0 0) 0 (.slice none 0 0) 0 (.slice none 0 0) false 0 2 (locF c.a) v1 0 0 (atF nn c.tgt) (atF nn c.els)).toArray 57 (0, 0)) ∧ Step (· = g10) w5 X

def BodyPost (s : Shp) (w : World) (e : Ending) (w' : World) : Prop := ∃ cs, e = .returned (.agg cs.toArray) ∧ BodAt w' w'.heap.size (shBod s) cs ∧ Step (fun _ => False) w w'
/- As BodyPost; and the row of the instructions is the call's own, nothing else lies in it. -/
def BodyOwn (s : Shp) (w : World) (e : Ending) (w' : World) : Prop := ∃ vl vc xs base G, e = .returned (.agg [.string ⟨#[]⟩, .int .i64 (shBod s).params, vl, vc].toArray) ∧ Row w' w'.heap.size vl 4 [] ∧ Grows InAt 57 21 base G w' (shBod s).code vc xs ∧ w.heap.size ≤ base ∧ Step (fun _ => False) w w'
theorem BodyOwn.post {s : Shp} {w w' : World} {e : Ending} (h : BodyOwn s w e w') : BodyPost s w e w' := by
  obtain ⟨vl, vc, xs, base, G, h1, h2, h3, -, h4⟩ := h
  exact ⟨_, h1, ⟨vl, vc, [], xs, rfl, h2, Each.mono InAt.unveil _ _ h3.el, Row.of_owns h3.own (Nat.le_refl _)⟩, h4⟩

set_option maxRecDepth 100000 in
set_option maxHeartbeats 8000000 in
theorem shBody_own (B : Nat) (s : Shp) (v : Value) (xs : List Value) (w : World) (h1 : Each (CdAt w B) s.code xs) (h2 : Row w B v s.code.length xs) (hn : s.code.length ≤ 40) (hB : B ≤ w.heap.size) :
    Calls Try.prog 12 #[.agg #[.int .i64 s.params, v]] w (BodyOwn s w) := by
  obtain ⟨w0, hw0⟩ : ∃ w0 : World, w0 = (w.alloc (.cells #[.int .i64 s.params, v] 24)).alloc (.cells #[.string ⟨#[]⟩, .int .i64 0, .slice none 0 0, .slice none 0 0] 29) := ⟨_, rfl⟩
  have HW0 := Lib.hid hw0
  have c0 : w0.cell? ⟨w.heap.size, 0, none⟩ = some (.int .i64 s.params) := by rw [hw0]; exact blk_cell (blk_alloc (blk_new w _)) 0 _ rfl
  have c1 : w0.cell? ⟨w.heap.size, 1, none⟩ = some v := by rw [hw0]; exact blk_cell (blk_alloc (blk_new w _)) 1 _ rfl
  obtain ⟨pr, hpr⟩ : ∃ pr, pr = s.params % 18446744073709551616 % 4 := ⟨_, rfl⟩
  obtain ⟨u, hu⟩ : ∃ u : Int, u = IntKind.u64.wrap s.params := ⟨_, rfl⟩
  have R1 : IntKind.u64.wrap s.params = u := hu.symm
  have hu2 : u = s.params % 18446744073709551616 := by rw [hu, wrap_u64']
  have R2 : u.tmod 4 = pr := by rw [hpr, Int.tmod_eq_emod_of_nonneg (by omega), hu2]
  have R3 : u % 4 = pr := by rw [hpr, hu2]
  have R4 : IntKind.i64.wrap pr = pr := IntWalk.i64_in _ (by omega)
  obtain ⟨lc, HLC⟩ := make_locals 4 4 rfl (by decide)
  have HPR := Lib.hid hpr
  clear hw0 hu hu2 hpr
  go_enter Try.func12, Try.ntmps12
  go_upto_region 1 with fail
  rw [← HW0.out]
  go_cut [3] (fun s3 wx => ∃ (gl gb : Nat), s3 = .pointer (some ⟨gb, 0, none⟩) ∧ gl < wx.heap.size ∧ gb < wx.heap.size ∧ w0.heap.size ≤ gl ∧ w0.heap.size ≤ gb ∧ wx.heap[gb]? = some (.cells #[.string ⟨#[]⟩, .int .i64 pr, .slice (some ⟨gl, 0, none⟩) 4 4, .slice none 0 0] 29 (0, 0)) ∧ Step (fun _ => False) w0 wx)
  case first =>
    go_region_held3 (fun w' => w'.cell? ⟨w.heap.size, 0, none⟩ = some (.int .i64 s.params)) (go_keep) (fail)
    all_goals go_wp2_with fail
    all_goals go_meet
    case rel => exact ⟨w0.heap.size, w0.heap.size + 1, rfl, (by simp; omega), by simp, Nat.le_refl _, Nat.le_succ _, blk_new2 w0 _ _, (((Step.refl _ _).alloc _).alloc _).drew⟩
    case rel => exact ⟨w0.heap.size + 1, w0.heap.size, rfl, by simp, (by simp; omega), Nat.le_succ _, Nat.le_refl _, blk_alloc (blk_new w0 _), (((Step.refl _ _).alloc _).alloc _).drew⟩
  case rest =>
    obtain ⟨gl, gb, rfl, hgl, hgb, hgl0, hgb0, hblk, hst0⟩ := hcut
    clear HLC R1 R2 R3 R4
    have c0 := hst0.cell c0 (fun h => h)
    have c1 := hst0.cell c1 (fun h => h)
    have HR2 := Lib.hid h2
    obtain ⟨a1, n1, rfl, -⟩ := h2
    obtain ⟨nn, hnn⟩ : ∃ nn : Nat, nn = s.code.length + 1 := ⟨_, rfl⟩
    have R5 : IntKind.i64.wrap ((s.code.length : Int) + 1) = (nn : Int) := by rw [IntWalk.i64_in _ (by omega)]; omega
    have hsz0 : w0.heap.size = w.heap.size + 2 := by rw [HW0.out]; simp
    have hst00 : Step (fun _ => False) w w0 := by rw [HW0.out]; exact ((Step.refl _ _).alloc _).alloc _
    have HNN := Lib.hid hnn
    have HSZ0 := Lib.hid hsz0
    have HST00 := Lib.hid (hst00.trans hst0)
    have HSZ1 := Lib.hid hst0.size
    clear hnn hsz0 hst00
    go_upto_region 4 with fail
    obtain ⟨w2, hw2⟩ : ∃ w2, w2 = wc.alloc (.cells #[.int .i64 nn] 3) := ⟨_, rfl⟩
    obtain ⟨g4, hg4⟩ : ∃ g4, g4 = wc.heap.size := ⟨_, rfl⟩
    rw [← hw2, ← hg4]
    have hblk2 : w2.heap[gb]? = some (.cells #[.string ⟨#[]⟩, .int .i64 pr, .slice (some ⟨gl, 0, none⟩) 4 4, .slice none 0 0] 29 (0, 0)) := by rw [hw2]; exact blk_alloc hblk
    have hst2 : Step (fun _ => False) wc w2 := by rw [hw2]; exact (Step.refl _ _).alloc _
    have hsz2 : w2.heap.size = g4 + 1 := by rw [hw2, hg4]; simp
    have HN4 := Lib.hid (show w2.cell? ⟨g4, 0, none⟩ = some (.int .i64 nn) by rw [hw2, hg4]; exact blk_cell (blk_new wc _) 0 _ rfl)
    have HC1 := Lib.hid (hst2.cell c1 (fun h => h))
    have HC0 := Lib.hid (hst2.cell c0 (fun h => h))
    have HST2 := Lib.hid (HST00.out.trans hst2)
    have HSTC := Lib.hid (hst0.trans hst2)
    have HG4 := Lib.hid hg4
    have HSZ2 := Lib.hid hsz2
    have HBLK2 := Lib.hid hblk2
    clear hw2 hg4 R5 c0 c1 hblk hst0 hst2 hsz2 hblk2
    go_wp2_with fail
    go_loopg [6] s.code.length (fun gg s6 wr => ∃ (k : Nat) (vc : Value) (xk : List Value) (G : Nat → Bool), s6 = .int .i64 k ∧ k ≤ s.code.length ∧ s.code.length - k ≤ gg ∧ wr.heap[gb]? = some (.cells #[.string ⟨#[]⟩, .int .i64 pr, .slice (some ⟨gl, 0, none⟩) 4 4, vc] 29 (0, 0)) ∧ Grows InAt 57 21 w2.heap.size G wr ((s.code.take k).map (cdIns nn)) vc xk ∧ upG G wr ∧ (∀ q, q < w2.heap.size → G q = true) ∧ Step (· = gb) w2 wr)
    case atStart => exact ⟨0, _, _, fun q => decide (q < w2.heap.size), rfl, Nat.zero_le _, by omega, HBLK2.out, Grows.nil _ _ _ _ _ _, upG.low, fun q hq => decide_eq_true hq, Step.refl _ _⟩
    case round =>
      obtain ⟨k, vc, xk, G, rfl, hk, hgg, hblk, hgr, hup, hlow, hst⟩ := hrel
      have hneb : ∀ q, q < w.heap.size → q ≠ gb := fun q hq => by have := HSZ0.out; omega
      have hsw : Step (fun q => q = gb) w wr := (HST2.out.mono (fun _ _ h => h.elim) : Step (fun q => q = gb) _ _).trans hst
      have HSW := Lib.hid hsw
      have c0 := hst.cell HC0.out (fun h => by simp at h; have := HSZ0.out; omega)
      have c1 := hst.cell HC1.out (fun h => by simp at h; have := HSZ0.out; omega)
      have HN := Lib.hid (hst.cell HN4.out (fun h => by simp at h; have := HG4.out; omega))
      have HBLK := Lib.hid hblk
      have HGR := Lib.hid hgr
      have HUP := Lib.hid hup
      have HLOW := Lib.hid hlow
      have HST := Lib.hid hst
      clear hblk hgr hup hlow hst
      by_cases hlt : k < s.code.length
      · obtain ⟨c, hx⟩ : ∃ c, s.code[k]? = some c := ⟨s.code[k], List.getElem?_eq_getElem hlt⟩
        obtain ⟨a1', c1', hva, -, -, -, hcell⟩ := HR2.out.step hsw (fun q hq => hneb q (by omega))
        obtain ⟨rfl, -, rfl⟩ : a1 = a1' ∧ True ∧ n1 = c1' := by cases hva; exact ⟨rfl, trivial, rfl⟩
        obtain ⟨g1, o1, rfl, -, hg1, hcell⟩ := hcell (by omega)
        obtain ⟨cs, hcd, f⟩ := Each.cells 7 CdAt.len (Each.mono (CdAt.step hsw (fun q hq => hneb q (by omega))) _ _ h1) hx hcell
        have HF := Lib.hid f
        have HONE := Lib.hid (CdAt.one _ _ hcd)
        obtain ⟨vp, vq, rfl, hp, hq⟩ := hcd
        have HP := Lib.hid hp
        have HQ := Lib.hid hq
        obtain ⟨ap, cp, rfl, -⟩ := hp
        obtain ⟨aq, cq, rfl, -⟩ := hq
        have HX := Lib.hid hx
        have hi0 : (0 : Int) ≤ (k : Int) := by omega
        have hi1 : (k : Int) < (s.code.length : Int) := by omega
        obtain ⟨uk, huk⟩ : ∃ uk : Int, uk = IntKind.u64.wrap c.kind := ⟨_, rfl⟩
        have R1 : IntKind.u64.wrap c.kind = uk := huk.symm
        obtain ⟨kd, hkd⟩ : ∃ kd, kd = kindF c := ⟨_, rfl⟩
        have huk2 : uk = c.kind % 18446744073709551616 := by rw [huk, wrap_u64']
        have R2 : uk.tmod 9 = kd := by rw [hkd, Int.tmod_eq_emod_of_nonneg (by omega), huk2]; rfl
        have R3 : uk % 9 = kd := by rw [hkd, huk2]; rfl
        have hkd0 : 0 ≤ kd ∧ kd < 9 := by omega
        have R4 : IntKind.u64.wrap kd = kd := by rw [wrap_u64']; omega
        have HKD := Lib.hid hkd
        have HKD0 := Lib.hid hkd0
        clear hcell f hva hsw hx huk huk2 hkd hkd0
        go_upto_region 8 with (first
          | (refine wpList_load_whole rfl 75 (.tmp 33) rfl g1 (o1 + k * 7) rfl _ _ HF.out Try.underlying75 rfl Try.sizeCode ?_)
          | (refine wpList_store_new rfl 75 (.tmp 7) (.tmp 34) rfl _ _ rfl rfl Try.sizeCode rfl HONE.out ?_))
        obtain ⟨w3, hw3⟩ : ∃ w3, w3 = wr.alloc (.cells #[.int .i64 c.kind, .int .i64 c.a, .int .i64 c.b, .int .i64 c.tgt, .int .i64 c.els, .slice ap c.p.length cp, .slice aq c.q.length cq] 75) := ⟨_, rfl⟩
        obtain ⟨b7, hb7⟩ : ∃ b7, b7 = wr.heap.size := ⟨_, rfl⟩
        rw [← hw3, ← hb7]
        have hblk7 : w3.heap[b7]? = some (.cells #[.int .i64 c.kind, .int .i64 c.a, .int .i64 c.b, .int .i64 c.tgt, .int .i64 c.els, .slice ap c.p.length cp, .slice aq c.q.length cq] 75 (0, 0)) := by rw [hw3, hb7]; exact blk_new _ _
        have hst3 : Step (fun _ => False) wr w3 := by rw [hw3]; exact (Step.refl _ _).alloc _
        have HST3 := Lib.hid hst3
        have HBLK7 := Lib.hid hblk7
        have HSZ3 := Lib.hid (show w3.heap.size = b7 + 1 by rw [hw3, hb7]; simp)
        have HB7 := Lib.hid hb7
        have HP3 := Lib.hid (HP.out.step hst3 (fun _ _ h => h))
        have HQ3 := Lib.hid (HQ.out.step hst3 (fun _ _ h => h))
        have KEEP : Hid (∀ X, Step (fun _ => False) w3 X → X.cell? ⟨b7, 1, none⟩ = some (.int .i64 c.a) ∧ X.cell? ⟨b7, 5, none⟩ = some (.slice ap c.p.length cp) ∧ X.cell? ⟨b7, 2, none⟩ = some (.int .i64 c.b) ∧ X.cell? ⟨b7, 6, none⟩ = some (.slice aq c.q.length cq) ∧ Step (fun _ => False) w3 X) := by
          show ∀ X, _
          intro X hX
          have hb := hX.keep HBLK7.out (fun h => h)
          exact ⟨blk_cell hb 1 _ rfl, blk_cell hb 5 _ rfl, blk_cell hb 2 _ rfl, blk_cell hb 6 _ rfl, hX⟩
        clear hw3 hb7 hblk7 hst3 c0 c1 hi0 hi1
        clear HP HQ HF HONE HW0 HR2
        dsimp only [Act.put]
        go_cut [8, 9] (fun s8 s9 wx => ∃ (g8 g9 : Nat) (v1 v2 : Value), s8 = .pointer (some ⟨g8, 0, none⟩) ∧ s9 = .pointer (some ⟨g9, 0, none⟩) ∧ wx.heap[g8]? = some (.cells #[.int .i64 (locF c.a), v1] 47 (0, 0)) ∧ wx.heap[g9]? = some (.cells #[.int .i64 (locF c.b), v2] 47 (0, 0)) ∧ wx.ownsRow w3.heap.size 3 1 v1 (pathF c.p).length (intsV (pathF c.p)) ∧ wx.ownsRow w3.heap.size 3 1 v2 (pathF c.q).length (intsV (pathF c.q)) ∧ Step (fun _ => False) w3 wx)
        case first =>
          refine wp_region_rely (by kernel_rfl) (TwoPl w3 b7 c (.slice ap c.p.length cp) (.slice aq c.q.length cq)) 18 rfl (by kernel_rfl) (by kernel_rfl) (by kernel_rfl) (by kernel_rfl) ?h0 ?hs ?hdone
          case h0 => exact ⟨(Step.refl _ _).drew, (fun h => nomatch h), (fun h => nomatch h), (fun h => nomatch h), (fun h => nomatch h), (fun h => nomatch h), (fun h => nomatch h), (fun h => nomatch h), (fun h => nomatch h), (fun h => nomatch h), (fun h => nomatch h), (fun h => nomatch h), (fun h => nomatch h), (fun h => nomatch h), (fun h => nomatch h), (fun h => nomatch h), (fun h => nomatch h), (fun h => nomatch h), (fun h => nomatch h), (fun h => nomatch h)⟩
          case hs =>
            refine ⟨?_, ?_, ?_, ?_, ?_, ?_, ?_, ?_, ?_, ?_, ?_, ?_, ?_, ?_, ?_, ?_, ?_, ?_, trivial⟩
            · intro L V X a ev evo hL hdep hJ
              have e1 := evo 7 rfl
              change a.tmps[7]?.getD undef = .pointer (some ⟨b7, 0, none⟩) at e1
              obtain ⟨k1, k5, k2, k6, -⟩ := KEEP.out X hJ.st
              go_simp
              exact ⟨_, rfl, { hJ with p0 := fun _ => rfl }⟩
            · intro L V X a ev evo hL hdep hJ
              have e0 := (ev 0 35 rfl (hdep 0 rfl)).trans (hJ.p0 (hdep 0 rfl))
              obtain ⟨k1, k5, k2, k6, -⟩ := KEEP.out X hJ.st
              go_simp
              exact ⟨_, rfl, { hJ with p1 := fun _ => rfl }⟩
            · intro L V X a ev evo hL hdep hJ
              have e1 := (ev 1 36 rfl (hdep 1 rfl)).trans (hJ.p1 (hdep 1 rfl))
              obtain ⟨k1, k5, k2, k6, -⟩ := KEEP.out X hJ.st
              go_simp
              refine (shLocal_any _ _).mono ?_
              rintro e wz ⟨rfl, rfl⟩
              exact ⟨_, rfl, { hJ with p2 := fun _ => rfl }⟩
            · intro L V X a ev evo hL hdep hJ
              have e1 := evo 7 rfl
              change a.tmps[7]?.getD undef = .pointer (some ⟨b7, 0, none⟩) at e1
              obtain ⟨k1, k5, k2, k6, -⟩ := KEEP.out X hJ.st
              go_simp
              exact ⟨_, rfl, { hJ with p3 := fun _ => rfl }⟩
            · intro L V X a ev evo hL hdep hJ
              have e3 := (ev 3 38 rfl (hdep 3 rfl)).trans (hJ.p3 (hdep 3 rfl))
              obtain ⟨k1, k5, k2, k6, -⟩ := KEEP.out X hJ.st
              go_simp
              exact ⟨_, rfl, { hJ with p4 := fun _ => rfl }⟩
            · intro L V X a ev evo hL hdep hJ
              have e4 := (ev 4 39 rfl (hdep 4 rfl)).trans (hJ.p4 (hdep 4 rfl))
              obtain ⟨k1, k5, k2, k6, -⟩ := KEEP.out X hJ.st
              go_simp
              refine (shPath_any _ c.p _ X (HP3.out.step hJ.st (fun _ _ h => h))).mono ?_
              rintro e w5 ⟨⟨u5, rfl, hown5⟩, hst5⟩
              exact ⟨_, rfl, (hJ.step hst5).up5 hL (owns_base hown5 hJ.st.size)⟩
            · intro L V X a ev evo hL hdep hJ
              have e2 := (ev 2 37 rfl (hdep 2 rfl)).trans (hJ.p2 (hdep 2 rfl))
              have e5 := ev 5 40 rfl (hdep 5 rfl)
              obtain ⟨ar, cr, hvr⟩ := owns_slice (hJ.p5 (hdep 5 rfl))
              rw [hvr] at e5
              go_simp
              exact ⟨_, rfl, { hJ with p6 := fun _ => ⟨by show _ = _; rw [show updV V 6 _ 5 = V 5 from rfl, hvr]; rfl, hdep 5 rfl⟩ }⟩
            · intro L V X a ev evo hL hdep hJ
              have e1 := evo 7 rfl
              change a.tmps[7]?.getD undef = .pointer (some ⟨b7, 0, none⟩) at e1
              obtain ⟨k1, k5, k2, k6, -⟩ := KEEP.out X hJ.st
              go_simp
              exact ⟨_, rfl, { hJ with p7 := fun _ => rfl }⟩
            · intro L V X a ev evo hL hdep hJ
              have e7 := (ev 7 42 rfl (hdep 7 rfl)).trans (hJ.p7 (hdep 7 rfl))
              obtain ⟨k1, k5, k2, k6, -⟩ := KEEP.out X hJ.st
              go_simp
              exact ⟨_, rfl, { hJ with p8 := fun _ => rfl }⟩
            · intro L V X a ev evo hL hdep hJ
              have e8 := (ev 8 43 rfl (hdep 8 rfl)).trans (hJ.p8 (hdep 8 rfl))
              obtain ⟨k1, k5, k2, k6, -⟩ := KEEP.out X hJ.st
              go_simp
              refine (shLocal_any _ _).mono ?_
              rintro e wz ⟨rfl, rfl⟩
              exact ⟨_, rfl, { hJ with p9 := fun _ => rfl }⟩
            · intro L V X a ev evo hL hdep hJ
              have e1 := evo 7 rfl
              change a.tmps[7]?.getD undef = .pointer (some ⟨b7, 0, none⟩) at e1
              obtain ⟨k1, k5, k2, k6, -⟩ := KEEP.out X hJ.st
              go_simp
              exact ⟨_, rfl, { hJ with p10 := fun _ => rfl }⟩
            · intro L V X a ev evo hL hdep hJ
              have e10 := (ev 10 45 rfl (hdep 10 rfl)).trans (hJ.p10 (hdep 10 rfl))
              obtain ⟨k1, k5, k2, k6, -⟩ := KEEP.out X hJ.st
              go_simp
              exact ⟨_, rfl, { hJ with p11 := fun _ => rfl }⟩
            · intro L V X a ev evo hL hdep hJ
              have e11 := (ev 11 46 rfl (hdep 11 rfl)).trans (hJ.p11 (hdep 11 rfl))
              obtain ⟨k1, k5, k2, k6, -⟩ := KEEP.out X hJ.st
              go_simp
              refine (shPath_any _ c.q _ X (HQ3.out.step hJ.st (fun _ _ h => h))).mono ?_
              rintro e w5 ⟨⟨u5, rfl, hown5⟩, hst5⟩
              exact ⟨_, rfl, (hJ.step hst5).up12 hL (owns_base hown5 hJ.st.size)⟩
            · intro L V X a ev evo hL hdep hJ
              have e9 := (ev 9 44 rfl (hdep 9 rfl)).trans (hJ.p9 (hdep 9 rfl))
              have e12 := ev 12 47 rfl (hdep 12 rfl)
              obtain ⟨ar, cr, hvr⟩ := owns_slice (hJ.p12 (hdep 12 rfl))
              rw [hvr] at e12
              go_simp
              exact ⟨_, rfl, { hJ with p13 := fun _ => ⟨by show _ = _; rw [show updV V 13 _ 12 = V 12 from rfl, hvr]; rfl, hdep 12 rfl⟩ }⟩
            · intro L V X a ev evo hL hdep hJ
              go_simp
              exact ⟨_, rfl, hJ.up14 hL⟩
            · intro L V X a ev evo hL hdep hJ
              go_simp
              exact ⟨_, rfl, hJ.up15 hL⟩
            · intro L V X a ev evo hL hdep hJ
              obtain ⟨g, hg1, hg2, hg3, -⟩ := hJ.p14 (hdep 14 rfl)
              obtain ⟨hv, hr⟩ := hJ.p6 (hdep 6 rfl)
              obtain ⟨ar, cr, hvr⟩ := owns_slice (hJ.p5 hr)
              have e1 := (ev 14 8 rfl (hdep 14 rfl)).trans hg1
              have e2 := (ev 6 41 rfl (hdep 6 rfl)).trans hv
              rw [hvr] at e2
              obtain ⟨⟨d1, d2⟩, d3, d4⟩ := blk2 (hg3 hL)
              have hs2 := set2 (hg3 hL) (b0 := .int .i64 (locF c.a)) (b1 := V 5)
              rw [hvr] at hs2
              go_simp
              exact ⟨undef, hJ.up16 hg1 hL (hdep 14 rfl) hr hs2.2 (by rw [hvr]; exact hs2.1) _⟩
            · intro L V X a ev evo hL hdep hJ
              obtain ⟨g, hg1, hg2, hg3, -⟩ := hJ.p15 (hdep 15 rfl)
              obtain ⟨hv, hr⟩ := hJ.p13 (hdep 13 rfl)
              obtain ⟨ar, cr, hvr⟩ := owns_slice (hJ.p12 hr)
              have e1 := (ev 15 9 rfl (hdep 15 rfl)).trans hg1
              have e2 := (ev 13 48 rfl (hdep 13 rfl)).trans hv
              rw [hvr] at e2
              obtain ⟨⟨d1, d2⟩, d3, d4⟩ := blk2 (hg3 hL)
              have hs2 := set2 (hg3 hL) (b0 := .int .i64 (locF c.b)) (b1 := V 12)
              rw [hvr] at hs2
              go_simp
              exact ⟨undef, hJ.up17 hg1 hL (hdep 15 rfl) hr hs2.2 (by rw [hvr]; exact hs2.1) _⟩
          case hdone =>
            intro L V X hall hJ
            obtain ⟨g8, h81, -, -, h82⟩ := hJ.p14 (hall 14 (by decide))
            obtain ⟨g9, h91, -, -, h92⟩ := hJ.p15 (hall 15 (by decide))
            rw [show List.range 18 = [0, 1, 2, 3, 4, 5, 6, 7, 8, 9, 10, 11, 12, 13, 14, 15, 16, 17] from rfl]
            simp only [putF, dstO, List.getElem?_toArray, List.getElem?_cons_zero, List.getElem?_cons_succ, Option.bind_some, Act.put, List.setIfInBounds_toArray, List.set_cons_zero, List.set_cons_succ]
            go_wp2_with fail
            go_meet
            case rel => exact ⟨g8, g9, V 5, V 12, rfl, rfl, h82 (hall 16 (by decide)), h92 (hall 17 (by decide)), hJ.p5 (hall 5 (by decide)), hJ.p12 (hall 12 (by decide)), hJ.st⟩
        case rest =>
          obtain ⟨g8, g9, v1, v2, rfl, rfl, hb8, hb9, ho1, ho2, hst4⟩ := hcut
          obtain ⟨a8, n8, rfl⟩ := owns_slice ho1
          obtain ⟨a9, n9, rfl⟩ := owns_slice ho2
          obtain ⟨w4, rfl⟩ : ∃ w4, w4 = wc := ⟨_, rfl⟩
          have HB8 := Lib.hid hb8
          have HB9 := Lib.hid hb9
          have HO1 := Lib.hid ho1
          have HO2 := Lib.hid ho2
          have HST4 := Lib.hid hst4
          obtain ⟨⟨e80, e81⟩, -⟩ := blk2 hb8
          obtain ⟨⟨e90, e91⟩, -⟩ := blk2 hb9
          clear ho1 ho2 hst4 hb8 hb9 KEEP HP3 HQ3
          have HONE : Hid (∀ u ∈ insCells 3 0 (locF c.b) (.slice a9 (pathF c.q).length n9) 1 (.slice (some ⟨w4.heap.size, 0, none⟩) 1 1) 0 (.slice none 0 0) false 0 0 0 (.slice none 0 0) 0 0 0 0, u.oneCell' = true) := insCells_one rfl rfl rfl rfl
          go_upto_region 10 with (first
            | (refine wpList_store_part (w := _) rfl 57 (.tmp 10) (.tmp 54) rfl (w4.heap.size + 1) 0 57 _ (insCells 3 0 (locF c.b) (.slice a9 (pathF c.q).length n9) 1 (.slice (some ⟨w4.heap.size, 0, none⟩) 1 1) 0 (.slice none 0 0) false 0 0 0 (.slice none 0 0) 0 0 0 0) rfl rfl (blk_new2 _ _ _) Try.sizeIns2 (Nat.le_of_eq rfl) HONE.out ?_
               intro w5 hb10 hst5))
          obtain ⟨g5, hg5⟩ : ∃ g5, g5 = w4.heap.size := ⟨_, rfl⟩
          obtain ⟨g10, hg10⟩ : ∃ g10, g10 = w4.heap.size + 1 := ⟨_, rfl⟩
          have hst45 : Step (fun _ => False) w4 w5 := (((Step.refl (fun _ => False) w4).alloc _).alloc _).then hst5 (fun i hi h => by omega)
          have hsz5 := hst5.size
          have HB10 : Hid (w5.heap[g10]? = some (.cells (insCells 3 0 (locF c.b) (.slice a9 (pathF c.q).length n9) 1 (.slice (some ⟨g5, 0, none⟩) 1 1) 0 (.slice none 0 0) false 0 0 0 (.slice none 0 0) 0 0 0 0).toArray 57 (0, 0))) := by show _ = _; rw [hg10, hg5]; exact hb10
          have HB5 : Hid (w5.heap[g5]? = some (.cells #[.int .i64 3, .int .i64 (locF c.a), .slice a8 (pathF c.p).length n8, .int .i64 0, .int .u64 0] 53 (0, 0))) := by
            show _ = _
            rw [hg5]
            exact hst5.keep (blk_alloc (blk_new w4 _)) (by omega)
          have HG5 : Hid (wr.heap.size ≤ g5 ∧ g5 < g10 ∧ g10 < w5.heap.size) := by
            show _ ∧ _ ∧ _
            have h1 := HSZ3.out
            have h2 := HST4.out.size
            have h3 := HB7.out
            have h4 : g10 < w5.heap.size := blk_lt HB10.out
            exact ⟨by omega, by omega, h4⟩
          rw [← hg10, ← hg5]
          dsimp only [Act.put]
          have HST5 := Lib.hid hst45
          have HOWN : Hid (∀ X, Step (fun q => q = g10 ∨ q = g5) w5 X → X.ownsRow w3.heap.size 3 1 (.slice a8 (pathF c.p).length n8) (pathF c.p).length (intsV (pathF c.p)) ∧ X.ownsRow w3.heap.size 3 1 (.slice a9 (pathF c.q).length n9) (pathF c.q).length (intsV (pathF c.q))) := by
            show ∀ X, _
            intro X hX
            have o1 := hst45.owns HO1.out (fun _ _ h => h)
            have o2 := hst45.owns HO2.out (fun _ _ h => h)
            refine ⟨owns_keep hX o1 (fun q hq e => ?_), owns_keep hX o2 (fun q hq e => ?_)⟩
            · rcases e with rfl | rfl
              · exact owns_tag o1 HB10.out (by decide) hq
              · exact owns_tag o1 HB5.out (by decide) hq
            · rcases e with rfl | rfl
              · exact owns_tag o2 HB10.out (by decide) hq
              · exact owns_tag o2 HB5.out (by decide) hq
          have HGN : Hid (∀ q, wr.heap.size ≤ q → G q = false) := HUP
          have HLE3 : Hid (wr.heap.size ≤ w3.heap.size) := HST3.out.size
          have FIN : Hid (∀ X, Step (fun q => q = g10 ∨ q = g5) w5 X → Row (veil G X) X.heap.size (.slice a8 (pathF c.p).length n8) (pathF c.p).length (intsV (pathF c.p)) ∧ Row (veil G X) X.heap.size (.slice a9 (pathF c.q).length n9) (pathF c.q).length (intsV (pathF c.q))) := by
            show ∀ X, _
            intro X hX
            obtain ⟨o1, o2⟩ := HOWN.out X hX
            have hle := HLE3.out
            exact ⟨Row.owns_veil o1 (Nat.le_refl _) (fun q hq => HGN.out q (by omega)), Row.owns_veil o2 (Nat.le_refl _) (fun q hq => HGN.out q (by omega))⟩
          have FINA : Hid (∀ X kk, Step (fun q => q = g10 ∨ q = g5) w5 X → X.heap[g5]? = some (.cells #[.int .i64 kk, .int .i64 (locF c.a), .slice a8 (pathF c.p).length n8, .int .i64 0, .int .u64 0] 53 (0, 0)) →
              Each (OpAt (veil G X) X.heap.size) [⟨kk, srcF c, 0, 0⟩] [.int .i64 kk, .int .i64 (locF c.a), .slice a8 (pathF c.p).length n8, .int .i64 0, .int .u64 0] ∧ Row (veil G X) X.heap.size (.slice (some ⟨g5, 0, none⟩) 1 1) 1 [.int .i64 kk, .int .i64 (locF c.a), .slice a8 (pathF c.p).length n8, .int .i64 0, .int .u64 0]) := by
            show ∀ X kk, _
            intro X kk hX hb
            exact ⟨Each.single ⟨_, rfl, (FIN.out X hX).1⟩, (Row.new_veil hb (by decide) (HGN.out _ HG5.out.1)).mono (blk_lt hb)⟩
          have HNR : Hid (∀ (X : World) (B : Nat) (xs : List Value), Row X B (.slice none 0 0) 0 xs) := fun X B xs => Row.nil X B xs
          have e80 := hst45.cell e80 (fun h => h)
          have e81 := hst45.cell e81 (fun h => h)
          have hb7 := (HST4.out.trans hst45).keep HBLK7.out (fun h => h)
          have e70 := blk_cell hb7 0 _ rfl
          have e71 := blk_cell hb7 1 _ rfl
          have e73 := blk_cell hb7 3 _ rfl
          have e74 := blk_cell hb7 4 _ rfl
          have e105 : w5.cell? ⟨g10, 5, none⟩ = some (.slice (some ⟨g5, 0, none⟩) 1 1) := blk_cell HB10.out 5 _ rfl
          have e50 := blk_cell HB5.out 0 _ rfl
          have e51 := blk_free HB5.out 0
          clear hb10 hst5 hst45 hsz5 hg5 hg10 hb7 e90 e91
          go_upto_block 2 with fail
          go_cut [] (fun wx => ∃ cs, wx.heap[g10]? = some (.cells cs.toArray 57 (0, 0)) ∧ InAt (veil G wx) wx.heap.size (cdIns nn c) cs ∧ Step (fun q => q = g10 ∨ q = g5) w5 wx)
          case first =>
            have hcases : kd = 0 ∨ kd = 1 ∨ kd = 2 ∨ kd = 3 ∨ kd = 4 ∨ kd = 5 ∨ kd = 6 ∨ kd = 7 ∨ kd = 8 := by have := HKD0.out; omega
            rcases hcases with hk | hk | hk | hk | hk | hk | hk | hk | hk
            · subst hk
              have hI : Hid (cdIns nn c = mkI 3 0 (dstF c) 1 [⟨3, srcF c, 0, 0⟩] noPl false noOp 0 0) := by show _ = _; unfold cdIns; rw [← HKD.out]; rfl
              go_wp2_with fail
              go_meet
              case rel =>
                have hs0 : Step (fun q => q = g10 ∨ q = g5) w5 w5 := Step.refl _ _
                exact ⟨_, HB10.out, by rw [hI.out]; exact insAt (FIN.out _ hs0).2 (FINA.out _ 3 hs0 HB5.out).1 (FINA.out _ 3 hs0 HB5.out).2 (HNR.out _ _ _) (HNR.out _ _ _), hs0⟩
            · subst hk
              have hI : Hid (cdIns nn c = mkI 3 0 (dstF c) 1 [⟨2, srcF c, 0, 0⟩] noPl false noOp 0 0) := by show _ = _; unfold cdIns; rw [← HKD.out]; rfl
              go_wp2_with fail
              go_meet
              case rel =>
                have hs0 : Step (fun q => q = g10 ∨ q = g5) w5 (w5.setCell ⟨g5, 0, none⟩ (.int .i64 2)) := (Step.refl _ _).setCell _ _ (fun _ => .inr rfl)
                have hs1 : Step (· = g5) w5 (w5.setCell ⟨g5, 0, none⟩ (.int .i64 2)) := (Step.refl _ _).setCell _ _ (fun _ => rfl)
                have hb5 := blk_set HB5.out 0 (.int .i64 2)
                exact ⟨_, hs1.keep HB10.out (by have := HG5.out; omega), by rw [hI.out]; exact insAt (FIN.out _ hs0).2 (FINA.out _ 2 hs0 hb5).1 (FINA.out _ 2 hs0 hb5).2 (HNR.out _ _ _) (HNR.out _ _ _), hs0⟩
            · subst hk
              have hI : Hid (cdIns nn c = mkI 3 0 (dstF c) 2 [] (srcF c) (decide (c.tgt.tmod 2 = 0)) noOp 0 0) := by show _ = _; unfold cdIns; rw [← HKD.out]; rfl
              obtain ⟨mm, hmm⟩ : ∃ mm, mm = c.tgt.tmod 2 := ⟨_, rfl⟩
              have R5 : c.tgt.tmod 2 = mm := hmm.symm
              have hmr : -2 < mm ∧ mm < 2 := by rw [hmm]; have h1 := Int.tmod_lt_of_pos c.tgt (show (0:Int) < 2 by decide); have h2 := Int.lt_tmod_of_pos c.tgt (show (0:Int) < 2 by decide); omega
              have R6 : IntKind.i64.wrap mm = mm := IntWalk.i64_in _ (by omega)
              rw [← hmm] at hI
              clear hmm hmr
              by_cases hm0 : mm = 0
              · have e1 : (mm == 0) = true := by simpa using hm0
                have hI2 : Hid (cdIns nn c = mkI 3 0 (dstF c) 2 [] (srcF c) true noOp 0 0) := by show _ = _; rw [hI.out]; simp [hm0]
                clear hm0
                go_wp2_with (first
                  | (refine wpList_store_part (w := w5) rfl 51 (.tmp 74) (.tmp 73) rfl g10 4 57 (insCells 3 0 (locF c.b) (.slice a9 (pathF c.q).length n9) 1 (.slice (some ⟨g5, 0, none⟩) 1 1) 0 (.slice none 0 0) false 0 0 0 (.slice none 0 0) 0 0 0 0).toArray (rigCells 2 (.slice none 0 0) (locF c.a) (.slice a8 (pathF c.p).length n8) true 0) rfl rfl HB10.out Try.sizeRight (show 4 + 8 ≤ 21 by decide) (rigCells_one rfl rfl) ?_
                     intro w6 hb6 hst6))
                go_meet
                case rel =>
                  have hs0 : Step (fun q => q = g10 ∨ q = g5) w5 w6 := hst6.mono (fun _ _ e => .inl e)
                  have hb6' : w6.heap[g10]? = some (.cells (insCells 3 0 (locF c.b) (.slice a9 (pathF c.q).length n9) 2 (.slice none 0 0) (locF c.a) (.slice a8 (pathF c.p).length n8) true 0 0 0 (.slice none 0 0) 0 0 0 0).toArray 57 (0, 0)) := hb6
                  exact ⟨_, hb6', by rw [hI2.out]; exact insAt (FIN.out _ hs0).2 Each.nil (HNR.out _ _ _) (FIN.out _ hs0).1 (HNR.out _ _ _), hs0⟩
              · have e1 : (mm == 0) = false := by simpa using hm0
                have hI2 : Hid (cdIns nn c = mkI 3 0 (dstF c) 2 [] (srcF c) false noOp 0 0) := by show _ = _; rw [hI.out]; simp [hm0]
                clear hm0
                go_wp2_with (first
                  | (refine wpList_store_part (w := w5) rfl 51 (.tmp 74) (.tmp 73) rfl g10 4 57 (insCells 3 0 (locF c.b) (.slice a9 (pathF c.q).length n9) 1 (.slice (some ⟨g5, 0, none⟩) 1 1) 0 (.slice none 0 0) false 0 0 0 (.slice none 0 0) 0 0 0 0).toArray (rigCells 2 (.slice none 0 0) (locF c.a) (.slice a8 (pathF c.p).length n8) false 0) rfl rfl HB10.out Try.sizeRight (show 4 + 8 ≤ 21 by decide) (rigCells_one rfl rfl) ?_
                     intro w6 hb6 hst6))
                go_meet
                case rel =>
                  have hs0 : Step (fun q => q = g10 ∨ q = g5) w5 w6 := hst6.mono (fun _ _ e => .inl e)
                  have hb6' : w6.heap[g10]? = some (.cells (insCells 3 0 (locF c.b) (.slice a9 (pathF c.q).length n9) 2 (.slice none 0 0) (locF c.a) (.slice a8 (pathF c.p).length n8) false 0 0 0 (.slice none 0 0) 0 0 0 0).toArray 57 (0, 0)) := hb6
                  exact ⟨_, hb6', by rw [hI2.out]; exact insAt (FIN.out _ hs0).2 Each.nil (HNR.out _ _ _) (FIN.out _ hs0).1 (HNR.out _ _ _), hs0⟩
            · subst hk
              have hI : Hid (cdIns nn c = mkI 1 (locF c.a) noPl 0 [] noPl false noOp 0 0) := by show _ = _; unfold cdIns; rw [← HKD.out]; rfl
              go_wp2_with fail
              refine (shLocal_any _ _).mono ?_
              rintro e wz ⟨rfl, rfl⟩
              go_wp2_with (first
                | (refine wpList_store_part (w := w5) rfl 57 (.tmp 10) (.tmp 80) rfl g10 0 57 (insCells 3 0 (locF c.b) (.slice a9 (pathF c.q).length n9) 1 (.slice (some ⟨g5, 0, none⟩) 1 1) 0 (.slice none 0 0) false 0 0 0 (.slice none 0 0) 0 0 0 0).toArray (insCells 1 (locF c.a) 0 (.slice none 0 0) 0 (.slice none 0 0) 0 (.slice none 0 0) false 0 0 0 (.slice none 0 0) 0 0 0 0) rfl rfl HB10.out Try.sizeIns2 (Nat.le_of_eq rfl) (insCells_one rfl rfl rfl rfl) ?_
                   intro w6 hb6 hst6))
              go_meet
              case rel =>
                have hs0 : Step (fun q => q = g10 ∨ q = g5) w5 w6 := hst6.mono (fun _ _ e => .inl e)
                have hb6' : w6.heap[g10]? = some (.cells (insCells 1 (locF c.a) 0 (.slice none 0 0) 0 (.slice none 0 0) 0 (.slice none 0 0) false 0 0 0 (.slice none 0 0) 0 0 0 0).toArray 57 (0, 0)) := hb6
                exact ⟨_, hb6', by rw [hI.out]; exact insAt (HNR.out _ _ _) Each.nil (HNR.out _ _ _) (HNR.out _ _ _) (HNR.out _ _ _), hs0⟩
            · subst hk
              have hI : Hid (cdIns nn c = mkI 2 (locF c.a) noPl 0 [] noPl false noOp 0 0) := by show _ = _; unfold cdIns; rw [← HKD.out]; rfl
              go_wp2_with fail
              refine (shLocal_any _ _).mono ?_
              rintro e wz ⟨rfl, rfl⟩
              go_wp2_with (first
                | (refine wpList_store_part (w := w5) rfl 57 (.tmp 10) (.tmp 86) rfl g10 0 57 (insCells 3 0 (locF c.b) (.slice a9 (pathF c.q).length n9) 1 (.slice (some ⟨g5, 0, none⟩) 1 1) 0 (.slice none 0 0) false 0 0 0 (.slice none 0 0) 0 0 0 0).toArray (insCells 2 (locF c.a) 0 (.slice none 0 0) 0 (.slice none 0 0) 0 (.slice none 0 0) false 0 0 0 (.slice none 0 0) 0 0 0 0) rfl rfl HB10.out Try.sizeIns2 (Nat.le_of_eq rfl) (insCells_one rfl rfl rfl rfl) ?_
                   intro w6 hb6 hst6))
              go_meet
              case rel =>
                have hs0 : Step (fun q => q = g10 ∨ q = g5) w5 w6 := hst6.mono (fun _ _ e => .inl e)
                have hb6' : w6.heap[g10]? = some (.cells (insCells 2 (locF c.a) 0 (.slice none 0 0) 0 (.slice none 0 0) 0 (.slice none 0 0) false 0 0 0 (.slice none 0 0) 0 0 0 0).toArray 57 (0, 0)) := hb6
                exact ⟨_, hb6', by rw [hI.out]; exact insAt (HNR.out _ _ _) Each.nil (HNR.out _ _ _) (HNR.out _ _ _) (HNR.out _ _ _), hs0⟩
            · subst hk
              have hI : Hid (cdIns nn c = mkI 4 0 noPl 0 [] noPl false noOp (atF nn c.tgt) 0) := by show _ = _; unfold cdIns; rw [← HKD.out]; rfl
              go_wp2_with fail
              have hN5 := HST5.out.cell (HST4.out.cell (HST3.out.cell HN.out (fun h => h)) (fun h => h)) (fun h => h)
              refine (shAt_any nn c.tgt g4 _ (by have := HNN.out; omega) (by have := HNN.out; omega) hN5).mono ?_
              rintro e wz ⟨rfl, rfl⟩
              clear hN5
              go_wp2_with (first
                | (refine wpList_store_part (w := w5) rfl 57 (.tmp 10) (.tmp 93) rfl g10 0 57 (insCells 3 0 (locF c.b) (.slice a9 (pathF c.q).length n9) 1 (.slice (some ⟨g5, 0, none⟩) 1 1) 0 (.slice none 0 0) false 0 0 0 (.slice none 0 0) 0 0 0 0).toArray (insCells 4 0 0 (.slice none 0 0) 0 (.slice none 0 0) 0 (.slice none 0 0) false 0 0 0 (.slice none 0 0) 0 0 (atF nn c.tgt) 0) rfl rfl HB10.out Try.sizeIns2 (Nat.le_of_eq rfl) (insCells_one rfl rfl rfl rfl) ?_
                   intro w6 hb6 hst6))
              go_meet
              case rel =>
                have hs0 : Step (fun q => q = g10 ∨ q = g5) w5 w6 := hst6.mono (fun _ _ e => .inl e)
                have hb6' : w6.heap[g10]? = some (.cells (insCells 4 0 0 (.slice none 0 0) 0 (.slice none 0 0) 0 (.slice none 0 0) false 0 0 0 (.slice none 0 0) 0 0 (atF nn c.tgt) 0).toArray 57 (0, 0)) := hb6
                exact ⟨_, hb6', by rw [hI.out]; exact insAt (HNR.out _ _ _) Each.nil (HNR.out _ _ _) (HNR.out _ _ _) (HNR.out _ _ _), hs0⟩
            · subst hk
              have hI : Hid (cdIns nn c = mkI 5 0 noPl 0 [] noPl false ⟨2, srcF c, 0, 0⟩ (atF nn c.tgt) (atF nn c.els)) := by show _ = _; unfold cdIns; rw [← HKD.out]; rfl
              go_upto_region 22 with fail
              have hN5 := Lib.hid (HST5.out.cell (HST4.out.cell (HST3.out.cell HN.out (fun h => h)) (fun h => h)) (fun h => h))
              have HNP : Hid (0 < nn ∧ nn ≤ 1000000) := by show _ ∧ _; have := HNN.out; omega
              refine wp_region_rely (by kernel_rfl) (TwoAt w5 b7 g10 g4 nn c (.slice a8 (pathF c.p).length n8)) 12 rfl (by kernel_rfl) (by kernel_rfl) (by kernel_rfl) (by kernel_rfl) ?h0 ?hs ?hdone
              case h0 => exact ⟨fun _ => rfl, (fun h => nomatch h), (fun h => nomatch h), (fun h => nomatch h), (fun h => nomatch h), (fun h => nomatch h), (fun h => nomatch h), (fun h => nomatch h), (fun h => nomatch h), (fun h => nomatch h), (fun h => nomatch h), (fun h => nomatch h), (fun h => nomatch h), (fun h => nomatch h)⟩
              case hs =>
                refine ⟨?_, ?_, ?_, ?_, ?_, ?_, ?_, ?_, ?_, ?_, ?_, ?_, trivial⟩
                all_goals
                  intro L V X a ev evo hL hdep hJ
                · have h11 : L 11 = false := by
                    cases e : L 11 with
                    | false => rfl
                    | true => exact absurd (hJ.q11 e 0 (by decide)) (by rw [hL]; decide)
                  obtain rfl := hJ.same h11
                  have o1 := evo 8 rfl
                  change a.tmps[8]?.getD undef = .pointer (some ⟨g8, 0, none⟩) at o1
                  go_simp
                  exact ⟨_, rfl, { hJ with q11 := fun e => absurd (show L 11 = true from e) (by rw [h11]; decide), p0 := fun _ => rfl }⟩
                · have h11 : L 11 = false := by
                    cases e : L 11 with
                    | false => rfl
                    | true => exact absurd (hJ.q11 e 1 (by decide)) (by rw [hL]; decide)
                  obtain rfl := hJ.same h11
                  have e200 := (ev 0 96 rfl (hdep 0 rfl)).trans (hJ.p0 (hdep 0 rfl))
                  go_simp
                  exact ⟨_, rfl, { hJ with q11 := fun e => absurd (show L 11 = true from e) (by rw [h11]; decide), p1 := fun _ => rfl }⟩
                · have h11 : L 11 = false := by
                    cases e : L 11 with
                    | false => rfl
                    | true => exact absurd (hJ.q11 e 2 (by decide)) (by rw [hL]; decide)
                  obtain rfl := hJ.same h11
                  have o1 := evo 5 rfl
                  change a.tmps[5]?.getD undef = .func (Fn.func 29) #[] #[.pointer (some ⟨g4, 0, none⟩)] at o1
                  go_simp
                  exact ⟨_, rfl, { hJ with q11 := fun e => absurd (show L 11 = true from e) (by rw [h11]; decide), p2 := fun _ => rfl }⟩
                · have h11 : L 11 = false := by
                    cases e : L 11 with
                    | false => rfl
                    | true => exact absurd (hJ.q11 e 3 (by decide)) (by rw [hL]; decide)
                  obtain rfl := hJ.same h11
                  have o1 := evo 7 rfl
                  change a.tmps[7]?.getD undef = .pointer (some ⟨b7, 0, none⟩) at o1
                  go_simp
                  exact ⟨_, rfl, { hJ with q11 := fun e => absurd (show L 11 = true from e) (by rw [h11]; decide), p3 := fun _ => rfl }⟩
                · have h11 : L 11 = false := by
                    cases e : L 11 with
                    | false => rfl
                    | true => exact absurd (hJ.q11 e 4 (by decide)) (by rw [hL]; decide)
                  obtain rfl := hJ.same h11
                  have e203 := (ev 3 99 rfl (hdep 3 rfl)).trans (hJ.p3 (hdep 3 rfl))
                  go_simp
                  exact ⟨_, rfl, { hJ with q11 := fun e => absurd (show L 11 = true from e) (by rw [h11]; decide), p4 := fun _ => rfl }⟩
                · have h11 : L 11 = false := by
                    cases e : L 11 with
                    | false => rfl
                    | true => exact absurd (hJ.q11 e 5 (by decide)) (by rw [hL]; decide)
                  obtain rfl := hJ.same h11
                  have e202 := (ev 2 98 rfl (hdep 2 rfl)).trans (hJ.p2 (hdep 2 rfl))
                  have e204 := (ev 4 100 rfl (hdep 4 rfl)).trans (hJ.p4 (hdep 4 rfl))
                  go_simp
                  refine (shAt_any nn c.tgt g4 w5.drew HNP.out.1 HNP.out.2 hN5.out).mono ?_
                  rintro e wz ⟨rfl, rfl⟩
                  exact ⟨_, rfl, { hJ with q11 := fun e => absurd (show L 11 = true from e) (by rw [h11]; decide), p5 := fun _ => rfl }⟩
                · have h11 : L 11 = false := by
                    cases e : L 11 with
                    | false => rfl
                    | true => exact absurd (hJ.q11 e 6 (by decide)) (by rw [hL]; decide)
                  obtain rfl := hJ.same h11
                  have o1 := evo 5 rfl
                  change a.tmps[5]?.getD undef = .func (Fn.func 29) #[] #[.pointer (some ⟨g4, 0, none⟩)] at o1
                  go_simp
                  exact ⟨_, rfl, { hJ with q11 := fun e => absurd (show L 11 = true from e) (by rw [h11]; decide), p6 := fun _ => rfl }⟩
                · have h11 : L 11 = false := by
                    cases e : L 11 with
                    | false => rfl
                    | true => exact absurd (hJ.q11 e 7 (by decide)) (by rw [hL]; decide)
                  obtain rfl := hJ.same h11
                  have o1 := evo 7 rfl
                  change a.tmps[7]?.getD undef = .pointer (some ⟨b7, 0, none⟩) at o1
                  go_simp
                  exact ⟨_, rfl, { hJ with q11 := fun e => absurd (show L 11 = true from e) (by rw [h11]; decide), p7 := fun _ => rfl }⟩
                · have h11 : L 11 = false := by
                    cases e : L 11 with
                    | false => rfl
                    | true => exact absurd (hJ.q11 e 8 (by decide)) (by rw [hL]; decide)
                  obtain rfl := hJ.same h11
                  have e207 := (ev 7 103 rfl (hdep 7 rfl)).trans (hJ.p7 (hdep 7 rfl))
                  go_simp
                  exact ⟨_, rfl, { hJ with q11 := fun e => absurd (show L 11 = true from e) (by rw [h11]; decide), p8 := fun _ => rfl }⟩
                · have h11 : L 11 = false := by
                    cases e : L 11 with
                    | false => rfl
                    | true => exact absurd (hJ.q11 e 9 (by decide)) (by rw [hL]; decide)
                  obtain rfl := hJ.same h11
                  have e206 := (ev 6 102 rfl (hdep 6 rfl)).trans (hJ.p6 (hdep 6 rfl))
                  have e208 := (ev 8 104 rfl (hdep 8 rfl)).trans (hJ.p8 (hdep 8 rfl))
                  go_simp
                  refine (shAt_any nn c.els g4 w5.drew HNP.out.1 HNP.out.2 hN5.out).mono ?_
                  rintro e wz ⟨rfl, rfl⟩
                  exact ⟨_, rfl, { hJ with q11 := fun e => absurd (show L 11 = true from e) (by rw [h11]; decide), p9 := fun _ => rfl }⟩
                · have h11 : L 11 = false := by
                    cases e : L 11 with
                    | false => rfl
                    | true => exact absurd (hJ.q11 e 10 (by decide)) (by rw [hL]; decide)
                  obtain rfl := hJ.same h11
                  have e201 := (ev 1 97 rfl (hdep 1 rfl)).trans (hJ.p1 (hdep 1 rfl))
                  have e205 := (ev 5 101 rfl (hdep 5 rfl)).trans (hJ.p5 (hdep 5 rfl))
                  have e209 := (ev 9 105 rfl (hdep 9 rfl)).trans (hJ.p9 (hdep 9 rfl))
                  go_simp
                  exact ⟨_, rfl, { hJ with q11 := fun e => absurd (show L 11 = true from e) (by rw [h11]; decide), p10 := fun _ => rfl }⟩
                · have h11 : L 11 = false := hL
                  obtain rfl := hJ.same h11
                  have o1 := evo 10 rfl
                  change a.tmps[10]?.getD undef = .pointer (some ⟨g10, 0, none⟩) at o1
                  have e210 := (ev 10 106 rfl (hdep 10 rfl)).trans (hJ.p10 (hdep 10 rfl))
                  refine wp_store_part 57 (.tmp 10) (.tmp 106) rfl g10 0 57 (insCells 3 0 (locF c.b) (.slice a9 (pathF c.q).length n9) 1 (.slice (some ⟨g5, 0, none⟩) 1 1) 0 (.slice none 0 0) false 0 0 0 (.slice none 0 0) 0 0 0 0).toArray (insCells 5 0 0 (.slice none 0 0) 0 (.slice none 0 0) 0 (.slice none 0 0) false 0 2 (locF c.a) (.slice a8 (pathF c.p).length n8) 0 0 (atF nn c.tgt) (atF nn c.els)) (by rw [evalTmp]; exact o1) (by rw [evalTmp]; exact e210) HB10.out Try.sizeIns2 (Nat.le_of_eq rfl) (insCells_one rfl rfl rfl rfl) (fun w6 hb6 hst6 => ⟨undef, rfl, { hJ with same := fun e => (nomatch (show true = false from e)), q11 := fun _ i hi => ?_, p11 := fun _ => ⟨hb6, ((Step.refl (· = g10) w5).drew).trans hst6⟩ }⟩)
                  rcases (show i = 0 ∨ i = 1 ∨ i = 2 ∨ i = 3 ∨ i = 4 ∨ i = 5 ∨ i = 6 ∨ i = 7 ∨ i = 8 ∨ i = 9 ∨ i = 10 by omega) with rfl | rfl | rfl | rfl | rfl | rfl | rfl | rfl | rfl | rfl | rfl
                  · exact hdep 0 rfl
                  · exact hdep 1 rfl
                  · exact hdep 2 rfl
                  · exact hdep 3 rfl
                  · exact hdep 4 rfl
                  · exact hdep 5 rfl
                  · exact hdep 6 rfl
                  · exact hdep 7 rfl
                  · exact hdep 8 rfl
                  · exact hdep 9 rfl
                  · exact hdep 10 rfl
              case hdone =>
                intro L V X hall hJ
                obtain ⟨hb6, hst6⟩ := hJ.p11 (hall 11 (by decide))
                rw [show List.range 12 = [0, 1, 2, 3, 4, 5, 6, 7, 8, 9, 10, 11] from rfl]
                simp only [putF, dstO, List.getElem?_toArray, List.getElem?_cons_zero, List.getElem?_cons_succ, Option.bind_some, Act.put, List.setIfInBounds_toArray, List.set_cons_zero, List.set_cons_succ]
                go_wp2_with fail
                go_meet
                case rel =>
                  have hs0 : Step (fun q => q = g10 ∨ q = g5) w5 X := hst6.mono (fun _ _ e => .inl e)
                  exact ⟨_, hb6, by rw [hI.out]; exact insAt (HNR.out _ _ _) Each.nil (HNR.out _ _ _) (HNR.out _ _ _) (FIN.out _ hs0).1, hs0⟩
            · subst hk
              have hI : Hid (cdIns nn c = mkI 3 0 (dstF c) 10 [] noPl false noOp 0 0) := by show _ = _; unfold cdIns; rw [← HKD.out]; rfl
              go_wp2_with (first
                | (refine wpList_store_part (w := w5) rfl 51 (.tmp 110) (.tmp 109) rfl g10 4 57 (insCells 3 0 (locF c.b) (.slice a9 (pathF c.q).length n9) 1 (.slice (some ⟨g5, 0, none⟩) 1 1) 0 (.slice none 0 0) false 0 0 0 (.slice none 0 0) 0 0 0 0).toArray (rigCells 10 (.slice none 0 0) 0 (.slice none 0 0) false 0) rfl rfl HB10.out Try.sizeRight (show 4 + 8 ≤ 21 by decide) (rigCells_one rfl rfl) ?_
                   intro w6 hb6 hst6))
              go_meet
              case rel =>
                have hs0 : Step (fun q => q = g10 ∨ q = g5) w5 w6 := hst6.mono (fun _ _ e => .inl e)
                have hb6' : w6.heap[g10]? = some (.cells (insCells 3 0 (locF c.b) (.slice a9 (pathF c.q).length n9) 10 (.slice none 0 0) 0 (.slice none 0 0) false 0 0 0 (.slice none 0 0) 0 0 0 0).toArray 57 (0, 0)) := hb6
                exact ⟨_, hb6', by rw [hI.out]; exact insAt (FIN.out _ hs0).2 Each.nil (HNR.out _ _ _) (HNR.out _ _ _) (HNR.out _ _ _), hs0⟩
            · subst hk
              have hI : Hid (cdIns nn c = mkI 7 0 noPl 0 [] noPl false noOp 0 0) := by show _ = _; unfold cdIns; rw [← HKD.out]; rfl
              go_wp2_with (first
                | (refine wpList_store_part (w := w5) rfl 57 (.tmp 10) (.tmp 113) rfl g10 0 57 (insCells 3 0 (locF c.b) (.slice a9 (pathF c.q).length n9) 1 (.slice (some ⟨g5, 0, none⟩) 1 1) 0 (.slice none 0 0) false 0 0 0 (.slice none 0 0) 0 0 0 0).toArray (insCells 7 0 0 (.slice none 0 0) 0 (.slice none 0 0) 0 (.slice none 0 0) false 0 0 0 (.slice none 0 0) 0 0 0 0) rfl rfl HB10.out Try.sizeIns2 (Nat.le_of_eq rfl) (insCells_one rfl rfl rfl rfl) ?_
                   intro w6 hb6 hst6))
              go_meet
              case rel =>
                have hs0 : Step (fun q => q = g10 ∨ q = g5) w5 w6 := hst6.mono (fun _ _ e => .inl e)
                have hb6' : w6.heap[g10]? = some (.cells (insCells 7 0 0 (.slice none 0 0) 0 (.slice none 0 0) 0 (.slice none 0 0) false 0 0 0 (.slice none 0 0) 0 0 0 0).toArray 57 (0, 0)) := hb6
                exact ⟨_, hb6', by rw [hI.out]; exact insAt (HNR.out _ _ _) Each.nil (HNR.out _ _ _) (HNR.out _ _ _) (HNR.out _ _ _), hs0⟩
          case rest =>
            obtain ⟨w6, rfl⟩ : ∃ w6, w6 = wc := ⟨_, rfl⟩
            obtain ⟨cs, hb10, hin, hst6⟩ := hcut
            have ST6 : Step (fun _ => False) wr w6 := ((HST3.out.trans HST4.out).trans HST5.out).then hst6 (fun i hi e => by have := HG5.out; omega)
            obtain ⟨lk, hlk⟩ : ∃ lk, lk = List.map (cdIns nn) (s.code.take k) := ⟨_, rfl⟩
            rw [← hlk] at HGR
            have hlkl : lk.length ≤ 40 := by rw [hlk]; simp; omega
            have HLK := Lib.hid hlk
            obtain ⟨ao, co, rfl⟩ := owns_slice HGR.out.own
            have hgb6 := ST6.keep HBLK.out (fun h => h)
            have cb3 := blk_cell hgb6 3 _ rfl
            have hlen := InAt.len _ _ hin
            have HONE6 := Lib.hid (InAt.one _ _ hin)
            have HLD : Hid (∀ (j : Nat) v, cs[j]? = some v → w6.cell? ⟨g10, 0 + j, none⟩ = some v) := fun j v hv => by rw [Nat.zero_add]; exact blk_cell hb10 j v (by simpa using hv)
            have HSI : Hid ((Try.prog.info? 57).map (·.size) = some cs.length) := by show _ = _; rw [hlen]; exact Try.sizeIns2
            obtain ⟨i0, hi0, hz0, hz1, hz2⟩ := info_parts Try.infoIns
            have HI := Lib.hid hi0
            have HZ0 := Lib.hid hz0
            have HZ1 := Lib.hid hz1
            have HZ2 := Lib.hid hz2
            have HS1 : Hid (i0.size = cs.length) := by show _ = _; rw [hz1, hlen]
            have HS2 : Hid ((Value.agg (insCells 0 0 0 (.slice none 0 0) 0 (.slice none 0 0) 0 (.slice none 0 0) false 0 0 0 (.slice none 0 0) 0 0 0 0).toArray).cells.size = cs.length) := by show _ = _; rw [hlen]; rfl
            have HS3 : Hid (0 < cs.length ∧ cs.length ≤ 16777216 ∧ cs.length = 1 * 21) := by show _ ∧ _ ∧ _; rw [hlen]; decide
            have ST7 : Step (fun _ => False) wr (w6.alloc (.cells cs.toArray 57)) := ST6.alloc _
            have HGR7 := Lib.hid (HGR.out.keep InAt.stays ST7 (fun _ _ h => h.elim) (fun _ _ => rfl) (fun _ _ h => h))
            have HIN7 := Lib.hid (InAt.mono (show w6.heap.size ≤ (w6.alloc (.cells cs.toArray 57)).heap.size by simp) _ _ (InAt.step (veil_step ((Step.refl (fun _ => False) w6).alloc (.cells cs.toArray 57)) (fun _ _ h => h.elim) (fun _ _ => rfl)) (fun _ _ h => h) _ _ hin))
            have HROW7 := Lib.hid (Row.new (blk_new w6 (.cells cs.toArray 57)) (show 1 ≤ 9223372036854775807 by decide))
            have HB7' : Hid (w2.heap.size ≤ (w6.alloc (.cells cs.toArray 57)).heap.size) := Nat.le_trans HST.out.size ST7.size
            have HGB7 := Lib.hid (blk_alloc (o' := .cells cs.toArray 57) hgb6)
            have HST7 := Lib.hid ST7
            have HGBL : Hid (gb < w2.heap.size) := by show _ < _; have h1 := HSZ2.out; have h2 := HG4.out; omega
            have cb3' := cell_alloc (o := .cells cs.toArray 57) cb3
            clear hb10 hin hst6 ST6 ST7 hgb6 hlen e80 e81 e70 e71 e73 e74 e105 e50 e51 hlk hi0 hz0 hz1 hz2
            go_wp2_with (first
              | (refine wpList_load_whole rfl 57 (.tmp 10) rfl g10 0 rfl cs _ HLD.out Try.underlying57 rfl HSI.out ?_)
              | (refine wpList_slice_one rfl 27 (.tmp 116) rfl 57 i0 _ cs rfl Try.underlying27 HI.out HZ0.out HS1.out HS2.out HS3.out.1 HS3.out.2.1 ?_)
              | (at_builtin
                 refine wpList_append_row _ rfl (w6.heap.size + 1) (.tmp 115) (.tmp 117) 27 rfl w2.heap.size 57 i0 _ 21 256 Try.underlying27 HI.out HZ0.out HZ1.out HZ2.out rfl (by decide) _ _ _ rfl HGR7.out.own _ 1 _ rfl HROW7.out HS3.out.2.2 HONE6.out (by unfold maxLen; omega) (by omega) HB7'.out ?_
                 intro v8 w8 hown8 hgrow8 hat8
                 have HGR8 := Lib.hid (HGR7.out.snoc InAt.stays HIN7.out hown8 hgrow8 hat8)
                 obtain ⟨a8', n8', rfl⟩ := owns_slice hown8
                 have hgb8 := grown_keep hgrow8 HGB7.out (fun q hq e => by have := (owned_row HGR7.out.own q hq); have := HGBL.out; omega)
                 have HGB8 := Lib.hid hgb8
                 have cb8 := blk_cell hgb8 3 _ rfl
                 have cf8 := blk_free hgb8 3
                 have HGRW : Hid (World.grownBy (w6.alloc (.cells cs.toArray 57)) w8 (Value.slice ao lk.length co).ownBlock) := hgrow8
                 have HOWN8 := Lib.hid hown8
                 clear hown8 hgrow8 hat8 hgb8))
            go_roundg (gk - 1)
            case rel =>
              have hs8 : Step (fun q => (Value.slice ao lk.length co).ownBlock = some q) (w6.alloc (.cells cs.toArray 57)) w8 := grown_step HGRW.out
              have hgbt : G gb = true := HLOW.out gb HGBL.out
              have hs9 : Step (· = gb) w8 (w8.setCell ⟨gb, 3, none⟩ (.slice a8' (lk.length + 1) n8')) := (Step.refl (· = gb) w8).setCell ⟨gb, 3, none⟩ _ (fun _ => rfl)
              have hT : List.map (cdIns nn) (s.code.take (k + 1)) = lk ++ [cdIns nn c] := by
                rw [HLK.out]
                obtain ⟨hk', hx'⟩ := List.getElem?_eq_some_iff.1 HX.out
                rw [List.take_succ_eq_append_getElem hk', List.map_append, hx']; rfl
              have hz7 := HST7.out.size
              have hz8 := hs8.size
              have hz9 := hs9.size
              have ha1 : k + 1 ≤ s.code.length := hlt
              have ha2 : s.code.length - (k + 1) ≤ gk - 1 := by rw [← Nat.sub_sub]; exact Nat.sub_le_sub_right hgg 1
              refine ⟨k + 1, .slice a8' (lk.length + 1) n8', xk ++ cs, addG G (.slice a8' (lk.length + 1) n8'), by go_num, ha1, ha2, blk_set HGB8.out 3 _, ?_, ?_, ?_, ?_⟩
              · rw [hT]
                refine HGR8.out.keep InAt.stays hs9 (fun q _ e => by subst e; simp [addG, hgbt]) (fun _ _ => rfl) (fun q hq e => ?_)
                have := (HOWN8.out.lt q hq).1
                have := HGBL.out
                omega
              · have h1 := (HUP.out.mono (Nat.le_trans hz7 hz8)).add (Nat.le_refl _) HOWN8.out
                exact h1.mono hz9
              · intro q hq
                simp [addG, HLOW.out q hq]
              · exact ((HST.out.trans (HST7.out.mono (fun _ _ h => h.elim))).then hs8 (fun i hi e => by have := (HGR7.out.own.lt i e).1; omega)).trans hs9
            case measure => omega
      · obtain rfl : k = s.code.length := by omega
        obtain ⟨lk, hlk⟩ : ∃ lk, lk = List.map (cdIns nn) s.code := ⟨_, rfl⟩
        rw [List.take_length, ← hlk] at HGR
        have hlkl : lk.length ≤ 40 := by rw [hlk]; simp; omega
        have HLK := Lib.hid hlk
        obtain ⟨ao, co, rfl⟩ := owns_slice HGR.out.own
        have cb3 := blk_cell HBLK.out 3 _ rfl
        have hone : ∀ u ∈ insCells 6 0 0 (.slice none 0 0) 0 (.slice none 0 0) 0 (.slice none 0 0) false 0 0 0 (.slice none 0 0) 0 0 0 0, u.oneCell' = true := insCells_one rfl rfl rfl rfl
        obtain ⟨cs, hcs⟩ : ∃ cs, cs = insCells 6 0 0 (.slice none 0 0) 0 (.slice none 0 0) 0 (.slice none 0 0) false 0 0 0 (.slice none 0 0) 0 0 0 0 := ⟨_, rfl⟩
        rw [← hcs] at hone
        have hlen : cs.length = 21 := by rw [hcs]; rfl
        have HCS := Lib.hid hcs
        have HONE6 := Lib.hid hone
        obtain ⟨i0, hi0, hz0, hz1, hz2⟩ := info_parts Try.infoIns
        have HI := Lib.hid hi0
        have HZ0 := Lib.hid hz0
        have HZ1 := Lib.hid hz1
        have HZ2 := Lib.hid hz2
        have HS1 : Hid (i0.size = cs.length) := by show _ = _; rw [hz1, hlen]
        have HS2 : Hid ((Value.agg (insCells 0 0 0 (.slice none 0 0) 0 (.slice none 0 0) 0 (.slice none 0 0) false 0 0 0 (.slice none 0 0) 0 0 0 0).toArray).cells.size = cs.length) := by show _ = _; rw [hlen]; rfl
        have HS3 : Hid (0 < cs.length ∧ cs.length ≤ 16777216 ∧ cs.length = 1 * 21) := by show _ ∧ _ ∧ _; rw [hlen]; decide
        have ST7 : Step (fun _ => False) wr (wr.alloc (.cells cs.toArray 57)) := (Step.refl _ _).alloc _
        have HGR7 := Lib.hid (HGR.out.keep InAt.stays ST7 (fun _ _ h => h.elim) (fun _ _ => rfl) (fun _ _ h => h))
        have HIN7 : Hid (InAt (veil G (wr.alloc (.cells cs.toArray 57))) (wr.alloc (.cells cs.toArray 57)).heap.size retIns cs) := by
          show InAt _ _ _ _
          rw [hcs]
          exact insAt (Row.nil _ _ _) Each.nil (Row.nil _ _ _) (Row.nil _ _ _) (Row.nil _ _ _)
        have HROW7 := Lib.hid (Row.new (blk_new wr (.cells cs.toArray 57)) (show 1 ≤ 9223372036854775807 by decide))
        have HB7' : Hid (w2.heap.size ≤ (wr.alloc (.cells cs.toArray 57)).heap.size) := Nat.le_trans HST.out.size ST7.size
        have HGB7 := Lib.hid (blk_alloc (o' := .cells cs.toArray 57) HBLK.out)
        have HST7 := Lib.hid ST7
        have HGBL : Hid (gb < w2.heap.size) := by show _ < _; have h1 := HSZ2.out; have h2 := HG4.out; omega
        have cb3' := cell_alloc (o := .cells cs.toArray 57) cb3
        have HRES : Hid (w2.heap[w.heap.size + 1]? = some (.cells #[.string ⟨#[]⟩, .int .i64 0, .slice none 0 0, .slice none 0 0] 29 (0, 0))) := by
          show _ = _
          have h0 : w0.heap[w.heap.size + 1]? = some (.cells #[.string ⟨#[]⟩, .int .i64 0, .slice none 0 0, .slice none 0 0] 29 (0, 0)) := by rw [HW0.out]; exact blk_new2 _ _ _
          exact HSTC.out.keep h0 (fun h => h)
        clear hlk hcs hlen hone hi0 hz0 hz1 hz2 ST7
        go_upto_region 29 with (first
          | (refine wpList_slice_one rfl 27 (.tmp 122) rfl 57 i0 _ cs (by rw [HCS.out]; rfl) Try.underlying27 HI.out HZ0.out HS1.out HS2.out HS3.out.1 HS3.out.2.1 ?_)
          | (at_builtin
             refine wpList_append_row _ rfl (wr.heap.size + 1) (.tmp 121) (.tmp 123) 27 rfl w2.heap.size 57 i0 _ 21 256 Try.underlying27 HI.out HZ0.out HZ1.out HZ2.out rfl (by decide) _ _ _ rfl HGR7.out.own _ 1 _ rfl HROW7.out HS3.out.2.2 HONE6.out (by unfold maxLen; omega) (by omega) HB7'.out ?_
             intro v8 w8 hown8 hgrow8 hat8
             have HGR8 := Lib.hid (HGR7.out.snoc InAt.stays HIN7.out hown8 hgrow8 hat8)
             obtain ⟨a8', n8', rfl⟩ := owns_slice hown8
             have hgb8 := grown_keep hgrow8 HGB7.out (fun q hq e => by have := (owned_row HGR7.out.own q hq); have := HGBL.out; omega)
             have HGB8 := Lib.hid hgb8
             have cb8 := blk_cell hgb8 3 _ rfl
             have cf8 := blk_free hgb8 3
             have HGRW : Hid (World.grownBy (wr.alloc (.cells cs.toArray 57)) w8 (Value.slice ao lk.length co).ownBlock) := hgrow8
             have HOWN8 := Lib.hid hown8
             clear hown8 hgrow8 hat8 hgb8))
        obtain ⟨w9, hw9⟩ : ∃ w9, w9 = w8.setCell ⟨gb, 3, none⟩ (.slice a8' (lk.length + 1) n8') := ⟨_, rfl⟩
        rw [← hw9]
        have hs8 : Step (fun q => (Value.slice ao lk.length co).ownBlock = some q) (wr.alloc (.cells cs.toArray 57)) w8 := grown_step HGRW.out
        have hgbt : G gb = true := HLOW.out gb HGBL.out
        have hs9 : Step (· = gb) w8 w9 := by rw [hw9]; exact (Step.refl (· = gb) w8).setCell ⟨gb, 3, none⟩ _ (fun _ => rfl)
        have hgr9 : Grows InAt 57 21 w2.heap.size (addG G (.slice a8' (lk.length + 1) n8')) w9 (lk ++ [retIns]) (.slice a8' (lk.length + 1) n8') (xk ++ cs) :=
          HGR8.out.keep InAt.stays hs9 (fun q _ e => by subst e; simp [addG, hgbt]) (fun _ _ => rfl) (fun q hq e => by have := (HOWN8.out.lt q hq).1; have := HGBL.out; omega)
        have HGR9 := Lib.hid hgr9
        have hblk9 : w9.heap[gb]? = some (.cells #[.string ⟨#[]⟩, .int .i64 pr, .slice (some ⟨gl, 0, none⟩) 4 4, .slice a8' (lk.length + 1) n8'] 29 (0, 0)) := by rw [hw9]; exact blk_set HGB8.out 3 _
        have HLD : Hid (∀ (j : Nat) v, [Value.string ⟨#[]⟩, .int .i64 pr, .slice (some ⟨gl, 0, none⟩) 4 4, .slice a8' (lk.length + 1) n8'][j]? = some v → w9.cell? ⟨gb, 0 + j, none⟩ = some v) := fun j v hv => by rw [Nat.zero_add]; exact blk_cell hblk9 j v (by simpa using hv)
        have hst29 : Step (· = gb) w2 w9 := ((HST.out.trans (HST7.out.mono (fun _ _ h => h.elim))).then hs8 (fun i hi e => by have := (HGR7.out.own.lt i e).1; omega)).trans hs9
        have HST29 := Lib.hid hst29
        have HRES9 := Lib.hid (hst29.keep HRES.out (by have := HSZ0.out; omega))
        have HONEB : Hid (∀ u ∈ [Value.string ⟨#[]⟩, .int .i64 pr, .slice (some ⟨gl, 0, none⟩) 4 4, .slice a8' (lk.length + 1) n8'], u.oneCell' = true) := by
          show ∀ u ∈ _, _
          intro u hu
          simp at hu
          rcases hu with rfl | rfl | rfl | rfl <;> rfl
        clear hw9 hs8 hs9 hgr9 hblk9 hst29 cb3 cb3' cb8 cf8
        go_wp2_with (first
          | (refine wpList_load_whole rfl 29 (.tmp 3) rfl gb 0 rfl [.string ⟨#[]⟩, .int .i64 pr, .slice (some ⟨gl, 0, none⟩) 4 4, .slice a8' (lk.length + 1) n8'] _ HLD.out Try.underlying29 rfl Try.sizeBody ?_)
          | (refine wpList_store_part (w := _) rfl 29 (.tmp 2) (.tmp 126) rfl (w.heap.size + 1) 0 29 _ [.string ⟨#[]⟩, .int .i64 pr, .slice (some ⟨gl, 0, none⟩) 4 4, .slice a8' (lk.length + 1) n8'] rfl rfl HRES9.out Try.sizeBody (Nat.le_of_eq rfl) HONEB.out ?_
             intro w10 hb10 hst10))
        have hb10' : w10.heap[w.heap.size + 1]? = some (.cells [Value.string ⟨#[]⟩, .int .i64 pr, .slice (some ⟨gl, 0, none⟩) 4 4, .slice a8' (lk.length + 1) n8'].toArray 29 (0, 0)) := hb10
        have hg10 : Grows InAt 57 21 w2.heap.size (addG G (.slice a8' (lk.length + 1) n8')) w10 (lk ++ [retIns]) (.slice a8' (lk.length + 1) n8') (xk ++ cs) :=
          HGR9.out.keep InAt.stays hst10 (fun q _ e => by subst e; have h0 := HSZ0.out; have h1 := HSZ1.out; have h2 := HG4.out; have h3 := HSZ2.out; simp [addG, HLOW.out (w.heap.size + 1) (by omega)]) (fun _ _ => rfl) (fun q hq e => by have h0 := HSZ0.out; have h1 := HSZ1.out; have h2 := HG4.out; have h3 := HSZ2.out; have := (HGR9.out.own.lt q hq).1; omega)
        have hs210 : Step (fun q => q = gb ∨ q = w.heap.size + 1) w2 w10 := (HST29.out.mono (fun _ _ e => .inl e) : Step (fun q => q = gb ∨ q = w.heap.size + 1) _ _).trans (hst10.mono (fun _ _ e => .inr e))
        have hc : (shBod s).code = lk ++ [retIns] := by
          rw [HLK.out, HNN.out]; rfl
        have hpar : (shBod s).params = pr := HPR.out.symm
        refine bodyPost_ret (v := .agg [Value.string ⟨#[]⟩, .int .i64 pr, .slice (some ⟨gl, 0, none⟩) 4 4, .slice a8' (lk.length + 1) n8'].toArray) ?_ rfl ⟨.slice (some ⟨gl, 0, none⟩) 4 4, .slice a8' (lk.length + 1) n8', xk ++ cs, w2.heap.size, addG G (.slice a8' (lk.length + 1) n8'), ?_, ?_, ?_, ?_, ?_⟩
        · exact results_cellB rfl _ (w.heap.size + 1) 29 _ _ rfl hb10' Try.underlying29 rfl Try.sizeBody
        · rw [hpar]
        · have hz := hs210.size
          exact ⟨_, 4, rfl, Nat.le_refl _, by decide, (fun h => nomatch h), fun _ => ⟨gl, 0, rfl, by have h3 := HSZ2.out; have h2 := HG4.out; omega, by have h3 := HSZ2.out; have h2 := HG4.out; omega, fun i x hx => by simp at hx⟩⟩
        · rw [hc]; exact hg10
        · exact HST2.out.size
        · exact (HST2.out).then hs210 (fun i hi e => by have h0 := HSZ0.out; omega)

theorem shBody_any (B : Nat) (s : Shp) (v : Value) (xs : List Value) (w : World) (h1 : Each (CdAt w B) s.code xs) (h2 : Row w B v s.code.length xs) (hn : s.code.length ≤ 40) (hB : B ≤ w.heap.size) :
    Calls Try.prog 12 #[.agg #[.int .i64 s.params, v]] w (BodyPost s w) :=
  (shBody_own B s v xs w h1 h2 hn hB).mono fun _ _ h => h.post

end Go.Proofs.Ytilipeigjkmldaa
