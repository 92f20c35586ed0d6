/- The body that a shape makes may be, and is small. -/
import Derived.Test.YtilipeigjkmldaaBodyA
namespace Go.Proofs.Ytilipeigjkmldaa
open Go.RowKit

theorem shBod_len (s : Shp) : (shBod s).code.length = s.code.length + 1 := by simp [shBod]
theorem shBod_get (s : Shp) (i : Nat) (c : Cd) (h : s.code[i]? = some c) : (shBod s).code[i]? = some (cdIns (s.code.length + 1) c) := by
  have hi := (List.getElem?_eq_some_iff.1 h).1
  show (s.code.map (cdIns (s.code.length + 1)) ++ [retIns])[i]? = _
  rw [List.getElem?_append_left (by simpa using hi), List.getElem?_map, h]; rfl
theorem shBod_last (s : Shp) : (shBod s).code[s.code.length]? = some retIns := by
  show (s.code.map (cdIns (s.code.length + 1)) ++ [retIns])[s.code.length]? = _
  rw [List.getElem?_append_right (by simp)]; simp
theorem shBod_cases (s : Shp) {i : Nat} {x : Ins} (h : (shBod s).code[i]? = some x) : (∃ c, s.code[i]? = some c ∧ x = cdIns (s.code.length + 1) c) ∨ (i = s.code.length ∧ x = retIns) := by
  by_cases hi : i < s.code.length
  · left
    have hc := List.getElem?_eq_getElem hi
    refine ⟨_, hc, ?_⟩
    have := shBod_get s i _ hc
    rw [h] at this
    cases this; rfl
  · right
    have hlt := (List.getElem?_eq_some_iff.1 h).1
    rw [shBod_len] at hlt
    obtain rfl : i = s.code.length := by omega
    rw [shBod_last] at h
    cases h
    exact ⟨rfl, rfl⟩
theorem pathF_ge (l : List Int) : ∀ x ∈ pathF l, -1 ≤ x := by
  intro x hx
  obtain ⟨y, _, rfl⟩ := List.mem_map.1 hx
  exact (stepF_range y).1
theorem plOk_mk (a : Int) (l : List Int) : plOk 4 ⟨locF a, pathF l⟩ = true := by
  have h1 := locF_range a
  simp only [plOk, Bool.and_eq_true, decide_eq_true_eq, List.all_eq_true]
  exact ⟨⟨h1.1, h1.2⟩, pathF_ge l⟩
theorem srcF_ok (c : Cd) : plOk 4 (srcF c) = true := plOk_mk c.a c.p
theorem dstF_ok (c : Cd) : plOk 4 (dstF c) = true := plOk_mk c.b c.q
theorem cdIns_ok (n : Nat) (c : Cd) : insOk 4 (cdIns n c) = true := by
  have hs := srcF_ok c
  have hd := dstF_ok c
  have hl := locF_range c.a
  unfold cdIns
  split
  · simp [mkI, insOk, hd, rightOk, cntF, opOk, hs]
  split
  · simp [mkI, insOk, hd, rightOk, cntF, hs]
  split
  · show (decide (0 ≤ locF c.a) && decide (locF c.a < ((4 : Nat) : Int))) = true
    simp only [Bool.and_eq_true, decide_eq_true_eq]; exact hl
  split
  · show (decide (0 ≤ locF c.a) && decide (locF c.a < ((4 : Nat) : Int))) = true
    simp only [Bool.and_eq_true, decide_eq_true_eq]; exact hl
  split
  · simp [mkI, insOk]
  split
  · simp [mkI, insOk, opOk, hs]
  split
  · simp [mkI, insOk, hd, rightOk, cntF]
  split
  · simp [mkI, insOk]
  · simp [mkI, insOk, hd, rightOk, cntF, opOk, hs]
theorem cdIns_succ (n : Nat) (c : Cd) (i : Nat) (hi : i + 1 < n) : ∀ t ∈ succI (cdIns n c) i, 0 ≤ t ∧ t < n := by
  have h1 := atF_range n c.tgt (by omega)
  have h2 := atF_range n c.els (by omega)
  intro t ht
  unfold cdIns at ht
  split at ht
  · simp [mkI, succI] at ht; omega
  split at ht
  · simp [mkI, succI] at ht; omega
  split at ht
  · simp [mkI, succI] at ht; omega
  split at ht
  · simp [mkI, succI] at ht; omega
  split at ht
  · simp [mkI, succI] at ht; omega
  split at ht
  · by_cases he : atF n c.tgt = atF n c.els
    · simp [mkI, succI, he] at ht; omega
    · simp [mkI, succI, he] at ht
      rcases ht with rfl | rfl <;> omega
  split at ht
  · simp [mkI, succI] at ht; omega
  split at ht
  · simp [mkI, succI] at ht
  · simp [mkI, succI] at ht; omega
theorem cdIns_args (n : Nat) (c : Cd) : (cdIns n c).args.length ≤ 1 := by
  unfold cdIns
  (repeat' split) <;> simp [mkI]
theorem shBod_ok (s : Shp) : bodOk (shBod s) := by
  refine ⟨?_, fun i hi => ?_⟩
  · simp only [headOk, Bool.and_eq_true, decide_eq_true_eq]
    rw [shBod_len]
    have : (shBod s).params = s.params % 18446744073709551616 % 4 := rfl
    have h2 : (shBod s).locals = 4 := rfl
    rw [this, h2]
    omega
  · rw [shBod_len] at hi
    have hlast : ∀ t ∈ succI retIns i, 0 ≤ t ∧ t < (shBod s).code.length := by
      intro t ht; simp [retIns, mkI, succI] at ht
    obtain ⟨x, hx⟩ : ∃ x, (shBod s).code[i]? = some x := ⟨_, List.getElem?_eq_getElem (by rw [shBod_len]; exact hi)⟩
    have h2 : (shBod s).locals = 4 := rfl
    simp only [atOk, hx, h2, Bool.and_eq_true, List.all_eq_true, decide_eq_true_eq]
    rcases shBod_cases s hx with ⟨c, hc, rfl⟩ | ⟨rfl, rfl⟩
    · refine ⟨cdIns_ok _ c, fun t ht => ?_⟩
      have := cdIns_succ (s.code.length + 1) c i (by have := (List.getElem?_eq_some_iff.1 hc).1; omega) t ht
      rw [shBod_len]; exact this
    · exact ⟨by decide, fun t ht => hlast t ht⟩
theorem shBod_small (s : Shp) : BodSmall (shBod s) := by
  refine ⟨by show 4 ≤ 100000; decide, fun i x hx => ?_⟩
  rcases shBod_cases s hx with ⟨c, hc, rfl⟩ | ⟨rfl, rfl⟩
  · have := cdIns_args (s.code.length + 1) c; omega
  · decide

end Go.Proofs.Ytilipeigjkmldaa
