/- The statement LexPuts holds: for every slice of texts the law returns true, and the slice reads as it did. -/
import Derived.Test.YtfjkkfdpeckccaaLexRow
import Derived.Test.YtfjkkfdpeckccaaLexU
namespace Go.Proofs.Ytfjkkfdpeckccaa
open Go.ChangeShapes Go.WideShapes Go.ChangeAt Go.RowKit

theorem Try.cellsStr : Try.prog.cellsOf 9 = 1 := by kernel_rfl

set_option maxRecDepth 100000 in
theorem lexPuts_lifted (os : Os) (started : os.Started) (H : Type) (enc : TypeId × Value → H) :
    ReturnsInHanded {} Try.checked os 7 .any (Rows.lexPutsSpec.pre6 enc Try.prog Try.f7 Rows.lexPutsRow.domain false) (Rows.lexPutsSpec.post enc Try.prog Try.f7 false true false false) := by
  refine returnsInHanded_of_change_shaped (C := Try.checked) Try.own started (by kernel_rfl) Try.func7
    (ChangeSpec.witness6 (enc := enc) (C := Try.checked) false ⟨#[], #[.slice none 0 0], []⟩ 8 (by kernel_rfl) (by kernel_rfl) (by kernel_rfl) (by kernel_rfl)) ?_
  intro W base args ds gs before hval0 hW hcnd _ hsh _
  have hval : ∀ (j : Nat) t v, Try.f7.params[j]? = some t → args[j]? = some v → Value.okWide Try.prog W .any base t v := hval0
  have hW' := hW
  obtain ⟨p, q, hA0, hV, rfl, hfz, hnd⟩ := hW
  have hA : DataW.TrodAll enc Try.prog W 0 (fun _ => true) true Try.f7.params.toList args.toList ds p := hA0
  rw [Try.params7] at hA hval
  obtain ⟨v0, d0, rfl, rfl, h0⟩ := trodAll_one hA
  obtain ⟨rfl, rfl⟩ := trodVars_none hV
  obtain ⟨a0, len, cap, rfl⟩ := okWide_slice Try.underlying24 (hval 0 24 v0 rfl rfl)
  have h0k := h0
  obtain ⟨fuel, hf⟩ := h0
  clear hA0 hval0
  simp only [List.append_nil] at hW'
  have hlt : ∀ x ∈ p, x.block < W.heap.size := fun x hx => by simpa using hW'.lt x hx
  obtain ⟨m, hm⟩ := Try.laysM144.s1_3 W hsh
  have fin : ∀ W' : World, Step (fun _ => False) W W' → Rows.lexPutsSpec.post enc Try.checked.prog Try.f7 false true false false W #[.slice a0 len cap] (.bool true) W' := by
    intro W' hst
    have hb := hst.toBelow
    exact ⟨_, _, _, [] ++ [], p, [], hW', trodAll_mk1 (shut_bool Try.underlying4 _), trodAll_mk1 (Below.trod Try.laidOut (by kernel_rfl) (of_decide_eq_true (by kernel_rfl)) h0k hb hlt), rfl, hb.frame _, fun h => by cases h⟩
  rcases open_strings Try.underlying24 Try.underlying9 Try.cellsStr hf with ⟨hcs, hx⟩ | ⟨a, len', cap', ss, hcs, _, hl, hmx, hz, hx, hcell, hws⟩
  · simp [Value.cells] at hcs
    obtain ⟨rfl, rfl, rfl⟩ := hcs
    refine (lexPuts_none W m none 0 hm).mono fun e W' ⟨he, hst⟩ => ?_
    subst he
    exact ⟨_, rfl, fin W' hst⟩
  · simp [Value.cells] at hcs
    obtain ⟨rfl, rfl, rfl⟩ := hcs
    simp only [Prod.mk.injEq] at hx
    obtain ⟨rfl, rfl⟩ := hx
    simp only [if_true] at hz
    unfold maxLen at hmx
    by_cases hl0 : len = 0
    · subst hl0
      refine (lexPuts_none W m (some a) cap hm).mono fun e W' ⟨he, hst⟩ => ?_
      subst he
      exact ⟨_, rfl, fin W' hst⟩
    · by_cases h40 : 40 < len
      · refine (lexPuts_many _ W m (some a) len cap rfl hm h40 (by omega)).mono fun e W' ⟨he, hst⟩ => ?_
        subst he
        exact ⟨_, rfl, fin W' hst⟩
      · obtain ⟨b, off, spot⟩ := a
        have hspot : spot = none := by simpa [Addr.add] using World.cell?_spot (hcell 0 (by omega))
        subst hspot
        have hbW : b < W.heap.size := hlt (.cell b off) (MemPlace.mem_row.2 ⟨0, by omega, by simp⟩)
        have hlen : (ss.take len).length = len := by rw [List.length_take]; omega
        have hstr : Strs W (.slice (some ⟨b, off, none⟩) len cap) (ss.take len) := by
          refine ⟨b, off, cap, by rw [hlen], hbW, by omega, ?_⟩
          intro i x hx
          have hi : i < (ss.take len).length := (List.getElem?_eq_some_iff.1 hx).1
          rw [hlen] at hi
          have := hcell i (by omega)
          rw [add_plain] at this
          rw [this, List.getD_eq_getElem?_getD]
          rw [List.getElem?_take_of_lt hi] at hx
          rw [hx]; rfl
        refine (lexPuts_any (ss.take len) _ W m hstr hm (by omega) (fun x hx => hws x (List.mem_of_mem_take hx))).mono fun e W' ⟨he, hst⟩ => ?_
        subst he
        exact ⟨_, rfl, fin W' hst⟩

theorem lexPuts_holds : Rows.LexPutsSaid :=
  OpenClaim.holds_of_wide 7 Try.f7 rfl rfl rfl rfl rfl rfl rfl ⟨rfl, rfl, rfl, rfl, rfl⟩ rfl rfl rfl rfl rfl (by kernel_rfl) Try.func7 (by kernel_rfl)
    (of_decide_eq_true (by kernel_rfl)) (by unfold Func.isWrapper; rw [if_neg (of_decide_eq_false (by kernel_rfl))]; exact ⟨rfl, rfl⟩)
    (fun os started H enc _ => lexPuts_lifted os started H enc)

end Go.Proofs.Ytfjkkfdpeckccaa
