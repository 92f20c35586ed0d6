/- The statement TreeWalks holds where what is read is of bulk at most 1048576: for every expression and every statements the law returns true, and they read as they did. -/
import Derived.Test.YtfjkkfdpeckccaaTreeP
import Derived.Test.YtfjkkfdpeckccaaTreeQ
import Derived.ProofKit
import Derived.OpenShut
import Derived.JoinedCond
namespace Go.Proofs.Ytfjkkfdpeckccaa
open Go.ChangeShapes Go.WideShapes Go.ChangeAt Go.RowKit

theorem tw_own : ownKnob Try.prog.godebug = none := by kernel_rfl
theorem tw_laidOut : laidOutB Try.prog = true := by kernel_rfl
theorem tw_mapsOk : mapsRowed Try.prog = true := by kernel_rfl
theorem tw_full : ∀ t e, t < Try.prog.types.size → Try.prog.underlying t = some (.slice e) → 0 < Try.prog.cellsOf e := slices_full_of _ (by kernel_rfl)

set_option maxRecDepth 100000 in
theorem tw_contract (H : Type) (enc : TypeId × Value → H) (W : World) (base : Nat) (args : Array Value) (ds gs : List (DataW H)) (before : List MemPlace)
    (hval : ∀ (j : Nat) t v, Try.f3.params[j]? = some t → args[j]? = some v → Value.okWide Try.prog W .any base t v)
    (hW : DataW.Whole enc Try.prog Try.f3.params.toList Rows.treeWalksSpec.vars false W args.toList ds gs before) (hk : Rows.uptoSmall H (ds ++ gs) = true) :
    Calls Try.prog 3 args W fun e W' => ∃ v, e = .returned v ∧ Rows.treeWalksSpec.post enc Try.prog Try.f3 false true false false W args v W' := by
  have hW' := hW
  obtain ⟨p, q, hA0, hV, rfl, hfz, hnd⟩ := hW
  have hA : DataW.TrodAll enc Try.prog W 0 (fun _ => true) true Try.f3.params.toList args.toList ds p := hA0
  rw [Try.params3] at hA hval
  obtain ⟨v0, v1, d0, d1, p0, p1, rfl, rfl, rfl, h0, h1⟩ := trodAll_two hA
  obtain ⟨rfl, rfl⟩ := trodVars_none hV
  clear hA0
  have hb : Rows.uptoBulkAll ([d0, d1] ++ []) ≤ 1048576 := of_decide_eq_true hk
  simp only [List.append_nil, Rows.uptoBulkAll] at hb
  obtain ⟨n0, h0⟩ := h0
  obtain ⟨n1, h1⟩ := h1
  obtain ⟨e, hat, hse⟩ := (read_both (n0 + 1)).1 n0 (Nat.lt_succ_self _) _ _ h0
  obtain ⟨u, l, ys, hu, hls, hr, hsl⟩ := read_sts (read_both n1).2 (Nat.le_refl _) h1
  simp only at hse hsl
  obtain ⟨cs0, rfl, -⟩ := okWide_struct Try.underlying29 (hval 0 29 _ rfl rfl)
  obtain ⟨a1, n1', c1, rfl⟩ := okWide_slice Try.underlying25 (hval 1 25 _ rfl rfl)
  have hu' : Value.slice a1 n1' c1 = u := by simpa [Value.cells] using hu
  rw [← hu'] at hr
  refine (treeWalks_any W.heap.size e l cs0.toList _ ys W hat hls hr (Nat.le_refl _) (by omega) (by omega)).mono ?_
  rintro e W' ⟨rfl, hst⟩
  refine ⟨_, rfl, law_post (f := Try.f3) (s := Rows.treeWalksSpec) (bt := 4) tw_laidOut tw_mapsOk tw_full rfl hW' ?_ rfl Try.underlying4 rfl ⟨hst.os, hst.tape, hst.output, hst.size, fun k hk => hst.block k hk (fun e => e)⟩⟩
  rw [Try.params3]
  intro t ht
  have h2 : (#[29, 25] : Array Nat).toList.all (fun t => decide (t < Try.prog.types.size)) = true := by kernel_rfl
  exact of_decide_eq_true (List.all_eq_true.1 h2 t ht)

set_option maxRecDepth 100000 in
theorem tw_lifted (os : Os) (started : os.Started) (H : Type) (enc : TypeId × Value → H) (F : Stop.Interp) :
    ReturnsInHanded {} Try.checked os 3 .any ((Rows.OpenSpec.upto Rows.treeWalksSpec).pre6 enc Try.prog Try.f3 Rows.treeWalksUptoRow.domain false) (((Rows.OpenSpec.upto Rows.treeWalksSpec).at F).post enc Try.prog Try.f3 false true false false) := by
  refine returnsInHanded_of_cond (C := Try.checked) (s := Rows.OpenSpec.upto Rows.treeWalksSpec) (k := Rows.uptoSmall) rfl tw_own started (by kernel_rfl) Try.func3
    (OpenSpec.witness (enc := enc) (C := Try.checked) (s := Rows.OpenSpec.upto Rows.treeWalksSpec) (k := Rows.uptoSmall) rfl false ⟨#[], #[.agg #[.int .i64 0, .string ⟨#[]⟩, .int .u64 0, .bool false, .slice none 0 0, .slice none 0 0, .slice none 0 0, .int .i64 0, .int .i64 0], .slice none 0 0], []⟩ 8 (by kernel_rfl) (by kernel_rfl) (by kernel_rfl)
      (x := ([.agg [.lit (.int .i64 0), .lit (.string []), .lit (.int .u64 0), .lit (.bool false), .nil, .nil, .nil, .agg [.lit (.int .i64 0), .lit (.int .i64 0)]], .nil], [], [])) (by kernel_rfl) rfl (by kernel_rfl)) ?_
  intro W base args ds gs before hval hW _ hk _
  exact tw_contract H enc W base args ds gs before hval hW hk

theorem treeWalksUpto_holds : Rows.TreeWalksUptoSaid :=
  OpenClaim.holds_of_cond 3 Try.f3 rfl rfl rfl rfl rfl rfl rfl ⟨rfl, rfl, rfl, rfl, rfl⟩ rfl rfl rfl rfl rfl (by kernel_rfl) Try.func3 (by kernel_rfl)
    (of_decide_eq_true (by kernel_rfl)) (by unfold Func.isWrapper; first | (rw [if_pos (by decide +kernel)]; kernel_rfl) | (rw [if_neg (by decide +kernel)]; exact ⟨rfl, rfl⟩))
    (fun os started H enc _ F => tw_lifted os started H enc F)
end Go.Proofs.Ytfjkkfdpeckccaa
