/- Contracts of package flow: lists of a node; what may be a problem. -/
import Derived.Test.YtilipeigjkmldaaFlowB
namespace Go.Proofs.Ytilipeigjkmldaa
open Go.RowKit

/- Slices of slices of natural numbers. -/
def NatAt (w : World) (B : Nat) (l : List Nat) (cs : List Value) : Prop := ∃ v, cs = [v] ∧ Row w B v l.length (natV l)
theorem NatAt.len {w : World} {B : Nat} (l : List Nat) (cs : List Value) (h : NatAt w B l cs) : cs.length = 1 := by obtain ⟨v, rfl, _⟩ := h; rfl
theorem NatAt.one {w : World} {B : Nat} (l : List Nat) (cs : List Value) (h : NatAt w B l cs) : ∀ u ∈ cs, u.oneCell' = true := by
  obtain ⟨v, rfl, h⟩ := h
  intro u hu
  rw [List.mem_singleton.1 hu]; exact h.one
theorem NatAt.step {w w' : World} {B : Nat} {S : Nat → Prop} (hs : Step S w w') (hS : ∀ k, k < B → ¬ S k) (l : List Nat) (cs : List Value) (h : NatAt w B l cs) : NatAt w' B l cs := by
  obtain ⟨v, h1, h2⟩ := h
  exact ⟨v, h1, h2.step hs hS⟩
theorem NatAt.mono {w : World} {B B' : Nat} (hb : B ≤ B') (l : List Nat) (cs : List Value) (h : NatAt w B l cs) : NatAt w B' l cs := by
  obtain ⟨v, h1, h2⟩ := h
  exact ⟨v, h1, h2.mono hb⟩
def NRows (w : World) (B : Nat) (v : Value) (ll : List (List Nat)) : Prop := ∃ xs, Each (NatAt w B) ll xs ∧ Row w B v ll.length xs
theorem NRows.step {w w' : World} {B : Nat} {S : Nat → Prop} {v : Value} {ll : List (List Nat)} (h : NRows w B v ll) (hs : Step S w w') (hS : ∀ k, k < B → ¬ S k) : NRows w' B v ll := by
  obtain ⟨xs, h1, h2⟩ := h
  exact ⟨xs, Each.mono (NatAt.step hs hS) _ _ h1, h2.step hs hS⟩
theorem NRows.mono {w : World} {B B' : Nat} {v : Value} {ll : List (List Nat)} (h : NRows w B v ll) (hb : B ≤ B') : NRows w B' v ll := by
  obtain ⟨xs, h1, h2⟩ := h
  exact ⟨xs, Each.mono (NatAt.mono hb) _ _ h1, h2.mono hb⟩
structure Prb where
  succ : List (List Nat)
  width : Nat
  gen : List (List Nat)
  kill : List (List Nat)
  entry : List Nat
structure PrbAt (w : World) (B : Nat) (p : Prb) (vs vg vk ve : Value) : Prop where
  s : NRows w B vs p.succ
  g : NRows w B vg p.gen
  k : NRows w B vk p.kill
  e : Row w B ve p.entry.length (natV p.entry)
theorem PrbAt.step {w w' : World} {B : Nat} {S : Nat → Prop} {p : Prb} {vs vg vk ve : Value} (h : PrbAt w B p vs vg vk ve) (hs : Step S w w') (hS : ∀ k, k < B → ¬ S k) : PrbAt w' B p vs vg vk ve :=
  ⟨h.s.step hs hS, h.g.step hs hS, h.k.step hs hS, h.e.step hs hS⟩

set_option maxHeartbeats 400000 in
theorem list_at (B : Nat) (ll : List (List Nat)) (l : List Nat) (i : Nat) (v : Value) (w : World) (h : NRows w B v ll) (hl : ll[i]? = some l) :
    Calls Try.prog 77 #[v, .int .i64 i] w fun e w' => (∃ u, e = .returned u ∧ Row w B u l.length (natV l)) ∧ w = w' := by
  have hi := (List.getElem?_eq_some_iff.1 hl).1
  obtain ⟨xs, h1, a, c, rfl, hcl, hcm, -, hr⟩ := h
  obtain ⟨g, o, rfl, -, -, hcell⟩ := hr (by omega)
  obtain ⟨cs, ⟨u, rfl, hu⟩, f⟩ := Each.cells 1 NatAt.len h1 hl hcell
  have f0 := f 0 _ rfl
  rw [Nat.mul_one, Nat.add_zero] at f0
  have HU := Lib.hid hu
  obtain ⟨a2, c2, rfl, -⟩ := hu
  have e1 : decide (ll.length ≤ i) = false := decide_eq_false (by omega)
  clear f h1 hr hcell hl
  go_enter Try.func77, Try.ntmps77
  go_wp2
  go_ret
  exact ⟨⟨_, rfl, HU.out⟩, rfl⟩

set_option maxRecDepth 100000 in
set_option maxHeartbeats 1000000 in
theorem fits_any (B : Nat) (ll : List (List Nat)) (n most : Nat) (v : Value) (w : World) (h : NRows w B v ll) (hn : ll.length ≤ n) (hm : ∀ l ∈ ll, ∀ y ∈ l, y < most) :
    Calls Try.prog 76 #[v, .int .i64 n, .int .i64 most] w fun e w' => e = .returned (.bool true) ∧ w = w' := by
  obtain ⟨xs, h1, a, c, rfl, hcl, hcm, -, hr⟩ := h
  have H1 := Lib.hid h1
  have HR := Lib.hid hr
  have HM := Lib.hid hm
  have e1 : decide (n < ll.length) = false := decide_eq_false (by omega)
  clear h1 hr hm
  go_enter Try.func76, Try.ntmps76
  go_wp2_with fail
  go_loopg [8, 10, 17, 21, 22, 23] ll.length (fun gg _ _ s17 _ _ _ wr => ∃ i : Nat, s17 = .int .i64 i ∧ i ≤ ll.length ∧ ll.length - i ≤ gg ∧ wr = w)
  case atStart => exact ⟨0, rfl, Nat.zero_le _, by omega, rfl⟩
  case round =>
    obtain ⟨i, rfl, hi, hgg, rfl⟩ := hrel
    by_cases hlt : i < ll.length
    · obtain ⟨l, hl⟩ : ∃ l, ll[i]? = some l := ⟨ll[i], List.getElem?_eq_getElem hlt⟩
      obtain ⟨g, o, rfl, -, -, hcell⟩ := HR.out (by omega)
      obtain ⟨cs, ⟨u, rfl, hu⟩, f⟩ := Each.cells 1 NatAt.len H1.out hl hcell
      have f0 := f 0 _ rfl
      rw [Nat.mul_one, Nat.add_zero] at f0
      obtain ⟨a2, c2, rfl, hc2, hcm2, -, hr2⟩ := hu
      have HR2 := Lib.hid hr2
      have HML := Lib.hid (HM.out l (List.mem_of_getElem? hl))
      clear hcell f hl hr2
      obtain ⟨go1, rfl⟩ : ∃ go1, go1 = gk := ⟨_, rfl⟩
      go_wp2_with fail
      go_loopg [10, 23] l.length (fun gg _ s23 wr2 => ∃ j : Nat, s23 = .int .i64 j ∧ j ≤ l.length ∧ l.length - j ≤ gg ∧ wr2 = wr)
      case atStart => exact ⟨0, rfl, Nat.zero_le _, by omega, rfl⟩
      case round =>
        obtain ⟨j, rfl, hj, hgg2, rfl⟩ := hrel
        by_cases hlt2 : j < l.length
        · obtain ⟨x, hx⟩ : ∃ x, l[j]? = some x := ⟨l[j], List.getElem?_eq_getElem hlt2⟩
          obtain ⟨g2, o2, rfl, -, -, hcell2⟩ := HR2.out (by omega)
          have f2 := hcell2 j _ (natV_get l j x hx)
          have hxm := HML.out x (List.mem_of_getElem? hx)
          have e2 : decide ((x : Int) < 0) = false := decide_eq_false (by omega)
          have e3 : decide (most ≤ x) = false := decide_eq_false (by omega)
          clear hcell2 hx
          go_wp2
          go_roundg (gk - 1)
          case rel => exact ⟨j + 1, by go_num, by omega, by omega, rfl⟩
          case measure => omega
        · go_wp2
          go_roundg (go1 - 1)
          case rel => exact ⟨i + 1, by go_num, by omega, by omega, rfl⟩
          case measure => omega
    · go_wp2
      go_ret
      exact ⟨rfl, rfl⟩

end Go.Proofs.Ytilipeigjkmldaa
