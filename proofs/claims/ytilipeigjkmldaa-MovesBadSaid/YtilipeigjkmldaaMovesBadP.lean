/- The statement MovesBad holds: for whatever shape and numbers the law returns true, and they read as they did. -/
import Derived.Test.YtilipeigjkmldaaReadShp
import Derived.Test.YtilipeigjkmldaaMovE
namespace Go.Proofs.Ytilipeigjkmldaa
open Go.ChangeShapes Go.WideShapes Go.ChangeAt Go.RowKit

set_option maxRecDepth 100000 in
theorem movesBad_lifted (os : Os) (started : os.Started) (H : Type) (enc : TypeId × Value → H) :
    ReturnsInHanded {} Try.checked os 10 .any (Rows.movesBadSpec.pre6 enc Try.prog Try.f10 Rows.movesBadRow.domain false) (Rows.movesBadSpec.post enc Try.prog Try.f10 false true false false) := by
  refine returnsInHanded_of_change (C := Try.checked) Try.own started (by kernel_rfl) Try.func10
    (ChangeSpec.witness6 (enc := enc) (C := Try.checked) false ⟨#[], #[.agg #[.int .i64 0, .slice none 0 0], .int .i64 0], []⟩ 8 (by kernel_rfl) (by kernel_rfl) (by kernel_rfl) (by kernel_rfl)) ?_
  intro W base args ds gs before hval0 hW hcnd _
  have hval : ∀ (j : Nat) t v, Try.f10.params[j]? = some t → args[j]? = some v → Value.okWide Try.prog W .any base t v := hval0
  have hW' := hW
  obtain ⟨p, q, hA0, hV, rfl, hfz, hnd⟩ := hW
  have hA : DataW.TrodAll enc Try.prog W 0 (fun _ => true) true Try.f10.params.toList args.toList ds p := hA0
  rw [Try.params10] at hA hval
  obtain ⟨v0, v1, d0, d1, p0, p1, rfl, rfl, rfl, h0, h1⟩ := trodAll_two hA
  obtain ⟨rfl, rfl⟩ := trodVars_none hV
  clear hA0 hval0
  obtain ⟨n0, h0⟩ := h0
  obtain ⟨s, u, xs, hu, hc, hr⟩ := read_shape h0
  obtain ⟨cs0, rfl, -⟩ := okWide_struct Try.underlying24 (hval 0 24 _ rfl rfl)
  obtain ⟨n1, h1⟩ := h1
  obtain ⟨k1, hk1⟩ := read_int h1
  obtain ⟨j1, rfl⟩ := okWide_int Try.underlying3 (hval 1 3 _ rfl rfl)
  have hu' : cs0 = #[.int .i64 s.params, u] := by
    have h2 : cs0.toList = [.int .i64 s.params, u] := hu
    rw [← Array.toArray_toList (xs := cs0), h2]
  subst hu'
  refine (movesBad_any W.heap.size s u xs j1 W hc hr (Nat.le_refl _)).mono ?_
  rintro e W' ⟨rfl, hst⟩
  refine ⟨_, rfl, law_post (f := Try.f10) (s := Rows.movesBadSpec) (bt := 4) Try.laidOut Try.mapsOk Try.slicesFull rfl hW' ?_ rfl Try.underlying4 rfl ⟨hst.os, hst.tape, hst.output, hst.size, fun k hk => hst.block k hk (fun e => e)⟩⟩
  rw [Try.params10]
  intro t ht
  have h2 : (#[24, 3] : Array Nat).toList.all (fun t => decide (t < Try.prog.types.size)) = true := by kernel_rfl
  exact of_decide_eq_true (List.all_eq_true.1 h2 t ht)

theorem movesBad_holds : Rows.MovesBadSaid :=
  OpenClaim.holds_of_wide 10 Try.f10 rfl rfl rfl rfl rfl rfl rfl ⟨rfl, rfl, rfl, rfl, rfl⟩ rfl rfl rfl rfl rfl (by kernel_rfl) Try.func10 (by kernel_rfl)
    (of_decide_eq_true (by kernel_rfl)) (by unfold Func.isWrapper; rw [if_neg (of_decide_eq_false (by kernel_rfl))]; exact ⟨rfl, rfl⟩)
    (fun os started H enc _ => movesBad_lifted os started H enc)

end Go.Proofs.Ytilipeigjkmldaa
