/- The statement MovesWays holds: for whatever shape the law returns true, and they read as they did. -/
import Derived.Test.YtilipeigjkmldaaReadShp
import Derived.Test.YtilipeigjkmldaaWayL
namespace Go.Proofs.Ytilipeigjkmldaa
open Go.ChangeShapes Go.WideShapes Go.ChangeAt Go.RowKit

set_option maxRecDepth 100000 in
theorem movesWays_lifted (os : Os) (started : os.Started) (H : Type) (enc : TypeId × Value → H) :
    ReturnsInHanded {} Try.checked os 8 .any (Rows.movesWaysSpec.pre6 enc Try.prog Try.f8 Rows.movesWaysRow.domain false) (Rows.movesWaysSpec.post enc Try.prog Try.f8 false true false false) := by
  refine returnsInHanded_of_change (C := Try.checked) Try.own started (by kernel_rfl) Try.func8
    (ChangeSpec.witness6 (enc := enc) (C := Try.checked) false ⟨#[], #[.agg #[.int .i64 0, .slice none 0 0]], []⟩ 8 (by kernel_rfl) (by kernel_rfl) (by kernel_rfl) (by kernel_rfl)) ?_
  intro W base args ds gs before hval0 hW hcnd _
  have hval : ∀ (j : Nat) t v, Try.f8.params[j]? = some t → args[j]? = some v → Value.okWide Try.prog W .any base t v := hval0
  have hW' := hW
  obtain ⟨p, q, hA0, hV, rfl, hfz, hnd⟩ := hW
  have hA : DataW.TrodAll enc Try.prog W 0 (fun _ => true) true Try.f8.params.toList args.toList ds p := hA0
  rw [Try.params8] at hA hval
  obtain ⟨v0, d0, rfl, rfl, h0⟩ := trodAll_one hA
  obtain ⟨rfl, rfl⟩ := trodVars_none hV
  clear hA0 hval0
  obtain ⟨n0, h0⟩ := h0
  obtain ⟨s, u, xs, hu, hc, hr⟩ := read_shape h0
  obtain ⟨cs0, rfl, -⟩ := okWide_struct Try.underlying24 (hval 0 24 _ rfl rfl)
  have hu' : cs0 = #[.int .i64 s.params, u] := by
    have h2 : cs0.toList = [.int .i64 s.params, u] := hu
    rw [← Array.toArray_toList (xs := cs0), h2]
  subst hu'
  refine (movesWays_any W.heap.size s u xs W hc hr (Nat.le_refl _)).mono ?_
  rintro e W' ⟨rfl, hst⟩
  refine ⟨_, rfl, law_post (f := Try.f8) (s := Rows.movesWaysSpec) (bt := 4) Try.laidOut Try.mapsOk Try.slicesFull rfl hW' ?_ rfl Try.underlying4 rfl ⟨hst.os, hst.tape, hst.output, hst.size, fun k hk => hst.block k hk (fun e => e)⟩⟩
  rw [Try.params8]
  intro t ht
  have h2 : (#[24] : Array Nat).toList.all (fun t => decide (t < Try.prog.types.size)) = true := by kernel_rfl
  exact of_decide_eq_true (List.all_eq_true.1 h2 t ht)

theorem movesWays_holds : Rows.MovesWaysSaid :=
  OpenClaim.holds_of_wide 8 Try.f8 rfl rfl rfl rfl rfl rfl rfl ⟨rfl, rfl, rfl, rfl, rfl⟩ rfl rfl rfl rfl rfl (by kernel_rfl) Try.func8 (by kernel_rfl)
    (of_decide_eq_true (by kernel_rfl)) (by unfold Func.isWrapper; rw [if_neg (of_decide_eq_false (by kernel_rfl))]; exact ⟨rfl, rfl⟩)
    (fun os started H enc _ => movesWays_lifted os started H enc)

end Go.Proofs.Ytilipeigjkmldaa
