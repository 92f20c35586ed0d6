/- What is read as data: rows of whatever type, structs' fields; what a law leaves whose arguments stay as they were. -/
import Derived.Test.YtilipeigjkmldaaApp2
import Derived.ChangeArms
import Derived.ReadAgain
import Derived.Below
import Derived.ChangeSame
import Derived.Deep.Slices
namespace Go.Proofs.Ytilipeigjkmldaa
open Go.RowKit Go.WideShapes Go.ChangeShapes

theorem flat_get {α : Type} (k : Nat) (hk : 0 < k) (g : α → List Value) : ∀ (l : List α) (i : Nat) (x : Value), (∀ y ∈ l, (g y).length = k) → (l.flatMap g)[i]? = some x → ∃ j m y, l[j]? = some y ∧ (g y)[m]? = some x ∧ m < k ∧ i = j * k + m
  | [], i, x, _, h => by simp at h
  | y :: r, i, x, hl, h => by
    rw [List.flatMap_cons] at h
    have hy := hl y (List.mem_cons_self ..)
    by_cases hi : i < k
    · rw [List.getElem?_append_left (by omega)] at h
      exact ⟨0, i, y, rfl, h, hi, by omega⟩
    · rw [List.getElem?_append_right (by omega), hy] at h
      obtain ⟨j, m, z, h1, h2, h3, h4⟩ := flat_get k hk g r (i - k) x (fun y hy => hl y (List.mem_cons_of_mem _ hy)) h
      refine ⟨j + 1, m, z, by simpa using h1, h2, h3, ?_⟩
      rw [Nat.add_mul]; omega

section
variable {H : Type} {enc : TypeId × Value → H} {P : Program} {w : World} {spare : Nat → Bool} {held : Bool}

theorem trod_row {e T : TypeId} (hT : P.underlying T = some (.slice e)) (hk : 0 < P.cellsOf e) {fuel : Nat} {cs : List Value} {x : DataW H × List MemPlace} (h : DataW.trod enc P w 0 spare held fuel T cs = some x) :
    ∃ (v : Value) (l : List (List Value × DataW H)) (n : Nat), fuel = n + 1 ∧ cs = [v] ∧ Row w w.heap.size v l.length (l.flatMap (·.1)) ∧
      (∀ y ∈ l, y.1.length = P.cellsOf e ∧ ∃ p, DataW.trod enc P w 0 spare held n e y.1 = some (y.2, p)) ∧ Rows.uptoBulkAll (l.map (·.2)) + 1 ≤ Rows.uptoBulk x.1 := by
  rcases DataW.trod_slice hT h with ⟨rfl, rfl⟩ | ⟨a, len, cap, elems, rest, n, rfl, rfl, rfl, -, hlc, hcm, hel, hget, -, -⟩
  · cases fuel with
    | zero => simp [DataW.trod] at h
    | succ n => exact ⟨_, [], n, rfl, rfl, ⟨none, 0, rfl, Nat.le_refl _, by decide, fun _ => ⟨rfl, rfl⟩, fun h => absurd h (Nat.lt_irrefl _)⟩, (fun y hy => nomatch hy), by simp [Rows.uptoBulk, Rows.uptoBulkAll]⟩
  · have hone : ∀ i, i < len → ∃ y : List Value × DataW H, w.cells? 0 (a.add (i * P.cellsOf e)) (P.cellsOf e) = some y.1 ∧ (∃ p, DataW.trod enc P w 0 spare held n e y.1 = some (y.2, p)) ∧ (elems.map (·.1))[i]? = some y.2 := by
      intro i hi
      have hg := hget i hi
      rw [List.getElem?_eq_getElem (by omega)] at hg
      obtain ⟨c, h1, h2⟩ := Option.bind_eq_some_iff.1 hg
      exact ⟨(c, elems[i].1), h1, ⟨elems[i].2, h2⟩, by simp [List.getElem?_eq_getElem (show i < elems.length by omega)]⟩
    obtain ⟨f, hf⟩ := Deep.choose_lt (p := fun i (y : List Value × DataW H) => w.cells? 0 (a.add (i * P.cellsOf e)) (P.cellsOf e) = some y.1 ∧ (∃ p, DataW.trod enc P w 0 spare held n e y.1 = some (y.2, p)) ∧ (elems.map (·.1))[i]? = some y.2) hone
    have hlen : ∀ y ∈ (List.range len).map f, y.1.length = P.cellsOf e := by
      intro y hy
      obtain ⟨i, hi, rfl⟩ := List.mem_map.1 hy
      exact (World.cells?_some (hf i (List.mem_range.1 hi)).1).2.1
    have hds : ((List.range len).map f).map (·.2) = elems.map (·.1) := by
      apply List.ext_getElem?
      intro i
      by_cases hi : i < len
      · rw [(hf i hi).2.2]; simp [hi]
      · simp [hi, List.getElem?_eq_none (show elems.length ≤ i by omega)]
    refine ⟨_, (List.range len).map f, n, rfl, rfl, ?_, ?_, ?_⟩
    · refine ⟨some a, cap, by simp, by simpa using hlc, by simpa [maxLen] using hcm, (fun h => nomatch h), fun hn => ?_⟩
      have hn : 0 < len := by simpa using hn
      have h0 := (hf 0 hn).1
      have hc0 := (World.cells?_some h0).2.2 0 hk
      obtain ⟨x0, hx0⟩ : ∃ x0, (f 0).1[0]? = some x0 := ⟨_, List.getElem?_eq_getElem (by rw [(World.cells?_some h0).2.1]; exact hk)⟩
      rw [hx0] at hc0
      obtain ⟨g, o, sp⟩ := a
      have hsp : sp = none := by
        simp [Addr.add, World.cell?] at hc0
        cases sp with
        | none => rfl
        | some s => split at hc0 <;> simp at hc0
      subst hsp
      have hgl := World.cells?_block h0 hk
      rw [Nat.zero_mul, add_is] at hgl
      refine ⟨g, o, rfl, hgl, hgl, fun i x hx => ?_⟩
      obtain ⟨j, m, y, h1, h2, h3, h4⟩ := flat_get (P.cellsOf e) hk (fun y : List Value × DataW H => y.1) _ i x hlen hx
      have hj : j < len := by
        have := (List.getElem?_eq_some_iff.1 h1).1
        simpa using this
      have hy : y = f j := by simpa [hj] using h1.symm
      subst hy
      have := (World.cells?_some (hf j hj).1).2.2 m h3
      rw [h2, add_is, add_is, Nat.add_assoc, ← h4] at this
      exact this
    · intro y hy
      refine ⟨hlen y hy, ?_⟩
      obtain ⟨i, hi, rfl⟩ := List.mem_map.1 hy
      exact (hf i (List.mem_range.1 hi)).2.1
    · rw [hds]
      simp only [Rows.uptoBulk]
      omega

theorem trodAll_carry {w' : World} {base : Nat} : ∀ {ts : List TypeId} {vs : List Value} {ds : List (DataW H)} {ps : List MemPlace}, DataW.TrodAll enc P w base spare held ts vs ds ps → (∀ p ∈ ps, w.sameAt w' p) → DataW.TrodAll enc P w' base spare held ts vs ds ps
  | [], [], [], _, h, _ => h
  | _ :: _, _ :: _, _ :: _, _, ⟨p, q, ⟨n, h1⟩, h2, e⟩, hs => ⟨p, q, ⟨n, DataW.trod_carry _ _ _ _ h1 (fun x hx => hs x (by rw [e]; exact List.mem_append_left _ hx))⟩, trodAll_carry h2 (fun x hx => hs x (by rw [e]; exact List.mem_append_right _ hx)), e⟩

/- A struct's fields, one by one. -/
def FieldsAt (enc : TypeId × Value → H) (P : Program) (w : World) (spare : Nat → Bool) (held : Bool) (n : Nat) (cs : List Value) : List Field → List (DataW H × List MemPlace) → Prop
  | [], [] => True
  | f :: fs, x :: xs => DataW.trod enc P w 0 spare held n f.type ((cs.drop f.offset).take (P.cellsOf f.type)) = some x ∧ FieldsAt enc P w spare held n cs fs xs
  | _, _ => False
theorem fieldsAt_of {n : Nat} {cs : List Value} : ∀ (fs : List Field) (xs : List (DataW H × List MemPlace)), xs.length = fs.length → (∀ (i : Nat) (f : Field), fs[i]? = some f → DataW.trod enc P w 0 spare held n f.type ((cs.drop f.offset).take (P.cellsOf f.type)) = xs[i]?) → FieldsAt enc P w spare held n cs fs xs
  | [], [], _, _ => trivial
  | f :: fs, x :: xs, hl, h => ⟨by simpa using h 0 f rfl, fieldsAt_of fs xs (by simpa using hl) (fun i g hg => by simpa using h (i + 1) g (by simpa using hg))⟩
  | [], _ :: _, hl, _ => by simp at hl
  | _ :: _, [], hl, _ => by simp at hl
theorem trod_fields {t : TypeId} {fs : List Field} {fuel : Nat} {cs : List Value} {x : DataW H × List MemPlace} (ht : P.underlying t = some (.struct ⟨fs⟩)) (h : DataW.trod enc P w 0 spare held fuel t cs = some x) :
    ∃ (xs : List (DataW H × List MemPlace)) (n : Nat), fuel = n + 1 ∧ x = (.agg (xs.map (·.1)), xs.flatMap (·.2)) ∧ cs.length = P.cellsOf t ∧ xs.length = fs.length ∧ FieldsAt enc P w spare held n cs fs xs := by
  obtain ⟨xs, n, h1, h2, h3, h4, h5⟩ := DataW.trod_struct ht h
  exact ⟨xs, n, h1, h2, h3, by simpa using h4, fieldsAt_of fs xs (by simpa using h4) (fun i f hf => h5 i f (by simpa using hf))⟩

/- What a law that answers true leaves, where all that was there reads as it did. -/
theorem law_post (hl : laidOutB P = true) (hm : mapsRowed P = true) (hz : ∀ t e, t < P.types.size → P.underlying t = some (.slice e) → 0 < P.cellsOf e) {f : Func} {s : ChangeSpec} {W W' : World} {args : Array Value} {ds gs : List (DataW H)} {before : List MemPlace} {bt : TypeId}
    (hv : s.vars = []) (hW : DataW.Whole enc P f.params.toList s.vars false W args.toList ds gs before) (hty : ∀ t ∈ f.params.toList, t < P.types.size) (hres : f.resultTypes = #[bt]) (hbt : P.underlying bt = some .bool)
    (hfn : s.fn H (ds ++ gs) = { results := [.lit (.bool true)], args := ds }) (hb : Below W.heap.size W W') : s.post enc P f false true false false W args (.bool true) W' := by
  have hW' := hW
  obtain ⟨p, q, hA, hV, rfl, hfz, hnd⟩ := hW
  rw [hv] at hV
  obtain ⟨rfl, rfl⟩ := trodVars_none hV
  rw [List.append_nil] at hW' hfz hnd hfn
  have hlt : ∀ x ∈ p, x.block < W.heap.size := fun x hx => hW'.lt x hx
  have hcar : ∀ sp : Nat → Bool, (∀ x ∈ p, sp x.block = true) → DataW.TrodAll enc P W' 0 sp true f.params.toList args.toList ds p := by
    intro sp hsp
    have h1 := DataW.TrodAll.respare (spare' := sp) (kids_rows hl hm) hz hty hA hsp
    exact trodAll_carry h1 (fun x hx => hb.same (hlt x hx))
  refine ⟨ds, [], p, [], p, [], hW', ?_, ?_, ?_, hb.frame _, fun h => by cases h⟩
  · rw [hres, List.append_nil, hfn]
    exact trodAll_mk1 (shut_bool hbt _)
  · rw [List.append_nil, hfn]
    exact hcar _ (fun x hx => by simpa using hlt x hx)
  · rw [hv, List.append_nil, hfn]; rfl

end
end Go.Proofs.Ytilipeigjkmldaa
