/- Contracts of package live: which accesses use what a local has. -/
import Derived.Test.YtilipeigjkmldaaFlowH
namespace Go.Proofs.Ytilipeigjkmldaa
open Go.RowKit

def usesA (a : Acc) : Bool := decide (a.kind = 1 ∨ a.kind = 2 ∨ a.kind = 3) || (decide (a.kind = 4) && decide (0 < a.pl.path.length))

set_option maxHeartbeats 1000000 in
theorem uses_any (B : Nat) (a : Acc) (cs : List Value) (w : World) (h : AcAt w B a cs) :
    Calls Try.prog 39 #[.agg cs.toArray] w (IsBool (usesA a) w) := by
  obtain ⟨v, rfl, ⟨ao, c, rfl, -⟩⟩ := h
  have HU : Hid (usesA a = (decide (a.kind = 1 ∨ a.kind = 2 ∨ a.kind = 3) || (decide (a.kind = 4) && decide (0 < a.pl.path.length)))) := rfl
  by_cases h1 : a.kind = 1
  · have e1 : (a.kind == 1) = true := by simpa using h1
    have HV : Hid (usesA a = true) := by show _ = _; rw [HU.out, h1]; rfl
    clear h1
    go_enter Try.func39, Try.ntmps39
    go_wp2
    go_ret
    exact ⟨ret_bool HV.out.symm, (Step.refl _ _).alloc _⟩
  have e1 : (a.kind == 1) = false := by simpa using h1
  by_cases h2 : a.kind = 2
  · have e2 : (a.kind == 2) = true := by simpa using h2
    have HV : Hid (usesA a = true) := by show _ = _; rw [HU.out, h2]; rfl
    clear h2
    go_enter Try.func39, Try.ntmps39
    go_wp2
    go_ret
    exact ⟨ret_bool HV.out.symm, (Step.refl _ _).alloc _⟩
  have e2 : (a.kind == 2) = false := by simpa using h2
  by_cases h3 : a.kind = 3
  · have e3 : (a.kind == 3) = true := by simpa using h3
    have HV : Hid (usesA a = true) := by show _ = _; rw [HU.out, h3]; rfl
    clear h3
    go_enter Try.func39, Try.ntmps39
    go_wp2
    go_ret
    exact ⟨ret_bool HV.out.symm, (Step.refl _ _).alloc _⟩
  have e3 : (a.kind == 3) = false := by simpa using h3
  have HU2 : Hid (usesA a = (decide (a.kind = 4) && decide (0 < a.pl.path.length))) := by
    show _ = _
    rw [HU.out, decide_eq_false (by rintro (h | h | h) <;> contradiction)]; rfl
  by_cases h4 : a.kind = 4
  · have e4 : (a.kind == 4) = true := by simpa using h4
    have HV : Hid (usesA a = decide (0 < a.pl.path.length)) := by show _ = _; rw [HU2.out, decide_eq_true h4]; rfl
    clear h1 h2 h3 h4
    go_enter Try.func39, Try.ntmps39
    go_wp2
    go_ret
    exact ⟨ret_bool HV.out.symm, (Step.refl _ _).alloc _⟩
  have e4 : (a.kind == 4) = false := by simpa using h4
  have HV : Hid (usesA a = false) := by show _ = _; rw [HU2.out, decide_eq_false h4]; rfl
  clear h1 h2 h3 h4
  go_enter Try.func39, Try.ntmps39
  go_wp2
  go_ret
  exact ⟨ret_bool HV.out.symm, (Step.refl _ _).alloc _⟩

/- The locals that an instruction uses, and loses. -/
def genI (l : List Acc) : List Int := (l.filter usesA).map (·.pl.loc)
def killI (l : List Acc) : List Int := (l.filter (fun a => !usesA a)).map (·.pl.loc)
theorem genI_take (l : List Acc) (i : Nat) (a : Acc) (h : l[i]? = some a) : genI (l.take (i + 1)) = genI (l.take i) ++ (if usesA a = true then [a.pl.loc] else []) := by
  obtain ⟨hi, rfl⟩ := List.getElem?_eq_some_iff.1 h
  unfold genI
  rw [List.take_succ_eq_append_getElem hi, List.filter_append, List.map_append]
  congr 1
  by_cases hu : usesA l[i] = true <;> simp [hu]
theorem killI_take (l : List Acc) (i : Nat) (a : Acc) (h : l[i]? = some a) : killI (l.take (i + 1)) = killI (l.take i) ++ (if usesA a = true then [] else [a.pl.loc]) := by
  obtain ⟨hi, rfl⟩ := List.getElem?_eq_some_iff.1 h
  unfold killI
  rw [List.take_succ_eq_append_getElem hi, List.filter_append, List.map_append]
  congr 1
  by_cases hu : usesA l[i] = true <;> simp [hu]

end Go.Proofs.Ytilipeigjkmldaa
