/- What is read as a shape lies in memory as a plain shape. -/
import Derived.Test.YtilipeigjkmldaaLawA
import Derived.Handed
import Derived.ProofKit
namespace Go.Proofs.Ytilipeigjkmldaa
open Go.RowKit Go.WideShapes Go.ChangeShapes

theorem Try.own : ownKnob Try.prog.godebug = none := by kernel_rfl
theorem Try.laidOut : laidOutB Try.prog = true := by kernel_rfl
theorem Try.mapsOk : mapsRowed Try.prog = true := by kernel_rfl
theorem Try.slicesFull : ∀ t e, t < Try.prog.types.size → Try.prog.underlying t = some (.slice e) → 0 < Try.prog.cellsOf e := slices_full_of _ (by kernel_rfl)
theorem Try.cellsInt : Try.prog.cellsOf 3 = 1 := by kernel_rfl
theorem Try.cellsInts : Try.prog.cellsOf 38 = 1 := by kernel_rfl
theorem Try.cellsCode : Try.prog.cellsOf 75 = 7 := by kernel_rfl
theorem Try.cellsCodes : Try.prog.cellsOf 22 = 1 := by kernel_rfl
theorem Try.cellsShape : Try.prog.cellsOf 24 = 2 := by kernel_rfl
theorem list2 {α : Type} {l : List α} (h : l.length = 2) : ∃ a0 a1, l = [a0, a1] := by
  match l, h with
  | [a0, a1], _ => exact ⟨a0, a1, rfl⟩
theorem list7 {α : Type} {l : List α} (h : l.length = 7) : ∃ a0 a1 a2 a3 a4 a5 a6, l = [a0, a1, a2, a3, a4, a5, a6] := by
  match l, h with
  | [a0, a1, a2, a3, a4, a5, a6], _ => exact ⟨a0, a1, a2, a3, a4, a5, a6, rfl⟩

section
variable {H : Type} {enc : TypeId × Value → H} {w : World} {spare : Nat → Bool} {held : Bool}
theorem read_int {n : Nat} {cs : List Value} {x : DataW H × List MemPlace} (h : DataW.trod enc Try.prog w 0 spare held n 3 cs = some x) : ∃ k, cs = [.int .i64 k] := by
  obtain ⟨k, rfl, rfl, -⟩ := DataW.trod_int Try.underlying3 h
  exact ⟨k, rfl⟩
theorem read_ints {n : Nat} {cs : List Value} {x : DataW H × List MemPlace} (h : DataW.trod enc Try.prog w 0 spare held n 38 cs = some x) : ∃ (v : Value) (l : List Int), cs = [v] ∧ Row w w.heap.size v l.length (intsV l) := by
  obtain ⟨v, l, m, rfl, rfl, hr, hl, -⟩ := trod_row Try.underlying38 (by rw [Try.cellsInt]; decide) h
  have key : ∀ (l : List (List Value × DataW H)), (∀ y ∈ l, y.1.length = Try.prog.cellsOf 3 ∧ ∃ p, DataW.trod enc Try.prog w 0 spare held m 3 y.1 = some (y.2, p)) → ∃ ks : List Int, ks.length = l.length ∧ l.flatMap (·.1) = intsV ks := by
    intro l
    induction l with
    | nil => exact fun _ => ⟨[], rfl, rfl⟩
    | cons y r ih =>
      intro hy
      obtain ⟨_, p, hp⟩ := hy y (List.mem_cons_self ..)
      obtain ⟨k, hk⟩ := read_int hp
      obtain ⟨ks, h1, h2⟩ := ih (fun y h => hy y (List.mem_cons_of_mem _ h))
      exact ⟨k :: ks, by simp [h1], by rw [List.flatMap_cons, h2, hk]; rfl⟩
  obtain ⟨ks, h1, h2⟩ := key l hl
  rw [h2, ← h1] at hr
  exact ⟨v, ks, rfl, hr⟩
theorem read_code {n : Nat} {cs : List Value} {x : DataW H × List MemPlace} (h : DataW.trod enc Try.prog w 0 spare held n 75 cs = some x) : ∃ c : Cd, CdAt w w.heap.size c cs := by
  obtain ⟨xs, m, rfl, -, hl, hx, hf⟩ := trod_fields Try.underlying75 h
  rw [Try.cellsCode] at hl
  obtain ⟨c0, c1, c2, c3, c4, c5, c6, rfl⟩ := list7 hl
  obtain ⟨x0, x1, x2, x3, x4, x5, x6, rfl⟩ := list7 hx
  simp only [FieldsAt, Try.cellsInt, Try.cellsInts] at hf
  obtain ⟨f0, f1, f2, f3, f4, f5, f6, -⟩ := hf
  obtain ⟨k0, h0⟩ := read_int f0
  obtain ⟨k1, h1⟩ := read_int f1
  obtain ⟨k2, h2⟩ := read_int f2
  obtain ⟨k3, h3⟩ := read_int f3
  obtain ⟨k4, h4⟩ := read_int f4
  obtain ⟨v5, l5, h5, r5⟩ := read_ints f5
  obtain ⟨v6, l6, h6, r6⟩ := read_ints f6
  simp at h0 h1 h2 h3 h4 h5 h6
  subst h0 h1 h2 h3 h4 h5 h6
  exact ⟨⟨k0, k1, k2, k3, k4, l5, l6⟩, _, _, rfl, r5, r6⟩
theorem read_codes {n : Nat} {cs : List Value} {x : DataW H × List MemPlace} (h : DataW.trod enc Try.prog w 0 spare held n 22 cs = some x) : ∃ (v : Value) (l : List Cd) (xs : List Value), cs = [v] ∧ Each (CdAt w w.heap.size) l xs ∧ Row w w.heap.size v l.length xs := by
  obtain ⟨v, l, m, rfl, rfl, hr, hl, -⟩ := trod_row Try.underlying22 (by rw [Try.cellsCode]; decide) h
  have key : ∀ (l : List (List Value × DataW H)), (∀ y ∈ l, y.1.length = Try.prog.cellsOf 75 ∧ ∃ p, DataW.trod enc Try.prog w 0 spare held m 75 y.1 = some (y.2, p)) → ∃ ks : List Cd, ks.length = l.length ∧ Each (CdAt w w.heap.size) ks (l.flatMap (·.1)) := by
    intro l
    induction l with
    | nil => exact fun _ => ⟨[], rfl, Each.nil⟩
    | cons y r ih =>
      intro hy
      obtain ⟨_, p, hp⟩ := hy y (List.mem_cons_self ..)
      obtain ⟨k, hk⟩ := read_code hp
      obtain ⟨ks, h1, h2⟩ := ih (fun y h => hy y (List.mem_cons_of_mem _ h))
      refine ⟨k :: ks, by simp [h1], ?_⟩
      rw [List.flatMap_cons, Each]
      exact ⟨_, _, rfl, hk, h2⟩
  obtain ⟨ks, h1, h2⟩ := key l hl
  rw [← h1] at hr
  exact ⟨v, ks, _, rfl, h2, hr⟩
theorem read_shape {n : Nat} {cs : List Value} {x : DataW H × List MemPlace} (h : DataW.trod enc Try.prog w 0 spare held n 24 cs = some x) : ∃ (s : Shp) (v : Value) (xs : List Value), cs = [.int .i64 s.params, v] ∧ Each (CdAt w w.heap.size) s.code xs ∧ Row w w.heap.size v s.code.length xs := by
  obtain ⟨ys, m, rfl, -, hl, hx, hf⟩ := trod_fields Try.underlying24 h
  rw [Try.cellsShape] at hl
  obtain ⟨c0, c1, rfl⟩ := list2 hl
  obtain ⟨x0, x1, rfl⟩ := list2 hx
  simp only [FieldsAt, Try.cellsInt, Try.cellsCodes] at hf
  obtain ⟨f0, f1, -⟩ := hf
  obtain ⟨k0, h0⟩ := read_int f0
  obtain ⟨v, l, xs, h1, h2, h3⟩ := read_codes f1
  simp at h0 h1
  subst h0 h1
  exact ⟨⟨k0, l⟩, _, xs, rfl, h2, h3⟩
end

end Go.Proofs.Ytilipeigjkmldaa
