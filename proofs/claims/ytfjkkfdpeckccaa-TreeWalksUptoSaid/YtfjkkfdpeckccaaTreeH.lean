/- Contracts: Seen. -/
import Derived.Test.YtfjkkfdpeckccaaTreeE
import Derived.Deep.RegionHeld3
namespace Go.Proofs.Ytfjkkfdpeckccaa
open Go.RowKit

def SeenPost (w : World) (ks : List Int) (e : Ending) (w' : World) : Prop :=
  ∃ v, e = .returned v ∧ w'.ownsRow w.heap.size 3 1 v ks.length (intsV ks) ∧ Step (fun _ => False) w w'

def SeenE (B n : Nat) : Prop := ∀ (e : Ex) (cs : List Value) (w : World), SizeOf.sizeOf e < n → ExAt w B e cs → (seenE e).length ≤ 4000000 →
  Calls Try.prog 17 #[.agg cs.toArray] w (SeenPost w (seenE e))
def SeenS (B n : Nat) : Prop := ∀ (l : List St) (u : Value) (xs : List Value) (w : World), SizeOf.sizeOf l < n → StsAt w B l xs → Row w B u l.length xs → (seenS l).length ≤ 4000000 →
  Calls Try.prog 18 #[u] w (SeenPost w (seenS l))

set_option maxRecDepth 100000 in
set_option maxHeartbeats 4000000 in
theorem seenE_succ (B n : Nat) (ihE : SeenE B n) (ihS : SeenS B n) : SeenE B (n + 1) := by
  intro e cs w hn h hks
  obtain ⟨k, name, val, m, args, names, body, l, c⟩ := e
  rw [ExAt] at h
  obtain ⟨va, vn, vb, xa, xb, rfl, -, -, ha, hra, -, hb, hrb⟩ := h
  obtain ⟨aa, ca, rfl, hca, hcma, -, hrA⟩ := hra
  obtain ⟨ab', cb, hvb, hcb, hcmb, -, -⟩ := id hrb
  subst hvb
  obtain ⟨w1, hw1⟩ : ∃ w1 : World, w1 = w.alloc (.cells #[.int .i64 k, .string name, .int .u64 val, .bool m, .slice aa args.length ca, vn, .slice ab' body.length cb, .int .i64 l, .int .i64 c] 29) := ⟨_, rfl⟩
  have ST0 : Step (fun _ => False) w w1 := by rw [hw1]; exact (Step.refl _ _).alloc _
  have hblk : w1.heap[w.heap.size]? = some (.cells #[.int .i64 k, .string name, .int .u64 val, .bool m, .slice aa args.length ca, vn, .slice ab' body.length cb, .int .i64 l, .int .i64 c] 29 (0, 0)) := by rw [hw1]; exact blk_new _ _
  have k0 : w1.cell? ⟨w.heap.size, 0, none⟩ = some (.int .i64 k) := blk_cell hblk 0 _ rfl
  have k4 : w1.cell? ⟨w.heap.size, 4, none⟩ = some (.slice aa args.length ca) := blk_cell hblk 4 _ rfl
  have k6 : w1.cell? ⟨w.heap.size, 6, none⟩ = some (.slice ab' body.length cb) := blk_cell hblk 6 _ rfl
  have hsz1 : w1.heap.size = w.heap.size + 1 := by rw [hw1]; simp
  have HW1 := Lib.hid hw1
  have K0 := Lib.hid k0
  have K4 := Lib.hid k4
  have K6 := Lib.hid k6
  have HSZ := Lib.hid hsz1
  have HA := Lib.hid (ExsAt.step ST0 (fun _ _ h => h) args xa ha)
  have HB := Lib.hid (StsAt.step ST0 (fun _ _ h => h) body xb hb)
  have HRB := Lib.hid (hrb.step ST0 (fun _ _ h => h))
  have HRA := Lib.hid hrA
  have IHE := Lib.hid ihE
  have IHS := Lib.hid ihS
  obtain ⟨i0, hi0, hz00, hz10, hz20⟩ := info_parts Try.infoInt
  have hI := Lib.hid hi0
  have hz0 := Lib.hid hz00
  have hz1 := Lib.hid hz10
  have hz2 := Lib.hid hz20
  clear hi0 hz00 hz10 hz20
  have hsz : Hid (∀ x ∈ args, SizeOf.sizeOf x < n) := by
    intro x hx
    have := List.sizeOf_lt_of_mem hx
    simp at hn
    omega
  have hszb : Hid (SizeOf.sizeOf body < n) := by
    show _ < _
    simp at hn
    omega
  have hseen : Hid (seenE (.mk k name val m args names body l c) = seenEs args ++ (seenS body ++ [k])) := by show _ = _; rw [seenE]
  have hks' := hks
  rw [hseen.out] at hks'
  simp only [List.length_append, List.length_singleton] at hks'
  clear ha hrb hb hrA ihE ihS hn hks hw1 hblk k0 k4 k6 hsz1
  go_enter Try.func17, Try.ntmps17
  go_wp2_with fail
  rw [← HW1.out]
  go_loopg [3, 4] args.length (fun gg s3 s4 wr => ∃ (i : Nat), s4 = .int .i64 i ∧ i ≤ args.length ∧ args.length - i ≤ gg ∧ wr.ownsRow w1.heap.size 3 1 s3 (seenEs (args.take i)).length (intsV (seenEs (args.take i))) ∧ Step (fun _ => False) w1 wr)
  case atStart => exact ⟨0, rfl, Nat.zero_le _, by omega, by simpa [seenEs, intsV] using World.ownsRow_nil _ _ _ _, Step.refl _ _⟩
  case round =>
    obtain ⟨i, rfl, hi, hgg, hown, hst⟩ := hrel
    obtain ⟨oa, oc, rfl⟩ := owns_slice hown
    have HOW := Lib.hid hown
    have k4 := hst.cell K4.out (fun h => h)
    have k6 := hst.cell K6.out (fun h => h)
    have k0 := hst.cell K0.out (fun h => h)
    clear hown
    by_cases hlt : i < args.length
    · obtain ⟨x, hx⟩ : ∃ x, args[i]? = some x := ⟨args[i], List.getElem?_eq_getElem hlt⟩
      obtain ⟨g, o, rfl, hgb, hgw, hcell⟩ := HRA.out (by omega)
      obtain ⟨cs, hat, f⟩ := ExsAt.cells (ExsAt.step hst (fun _ _ h => h) _ _ HA.out) hx (fun i x hx => hst.cell (ST0.cell (hcell i x hx) (fun h => h)) (fun h => h))
      have HXM := Lib.hid (hsz.out x (List.mem_of_getElem? hx))
      have HTK := Lib.hid (seenEs_take args i x hx)
      have HLE := Lib.hid (seenEs_le args (i + 1))
      have HAT := Lib.hid hat
      obtain ⟨k1, name1, v2, m1, args1, names1, body1, l1, c1⟩ := x
      rw [ExAt] at hat
      obtain ⟨va1, vn1, vb1, xa1, xb1, rfl, -, -, -, ⟨a5, c5, rfl, -⟩, ⟨a6, c6, rfl, -⟩, -, ⟨a7, c7, rfl, -⟩⟩ := hat
      have f0 := f 0 _ rfl
      have f1 := f 1 _ rfl
      have f2 := f 2 _ rfl
      have f3 := f 3 _ rfl
      have f4 := f 4 _ rfl
      have f5 := f 5 _ rfl
      have f6 := f 6 _ rfl
      have f7 := f 7 _ rfl
      have f8 := f 8 _ rfl
      rw [Nat.add_zero] at f0
      clear f hcell hx
      have hln := HLE.out
      rw [HTK.out, List.length_append] at hln
      go_wp2_with fail
      refine (IHE.out _ _ _ HXM.out HAT.out (by omega)).mono ?_
      rintro e w3 ⟨v3, rfl, hown3, hst3⟩
      have HROW3 := Lib.hid (Row.of_owns (B := w3.heap.size) hown3 (Nat.le_refl _))
      have HOW3 := Lib.hid (hst3.owns HOW.out (fun _ _ h => h))
      have ST3 := hst.trans hst3
      clear hown3 f0 f1 f2 f3 f4 f5 f6 f7 f8
      go_wp2_with (at_builtin; refine wpList_append_row _ rfl w3.heap.size _ _ 33 rfl w1.heap.size 3 i0 (.int .i64 0) 1 8 Try.underlying33 hI.out hz0.out hz1.out hz2.out rfl (by decide) _ _ _ rfl HOW3.out _ _ _ rfl HROW3.out (intsV_length _) (intsV_one _) (by unfold maxLen; omega) (by omega) ST3.size ?_)
      intro v4 w4 hown4 hgrow4 _
      have ST4 : Step (fun _ => False) w1 w4 := ST3.grown hgrow4 (fun k hk hlt => by have := owned_row HOW3.out k hk; omega)
      rw [← intsV_append, ← List.length_append, ← HTK.out] at hown4
      go_wp2
      go_roundg (gk - 1)
      case rel => exact ⟨i + 1, by go_num, by omega, by omega, hown4, ST4⟩
      case measure => omega
    · have htk : args.take i = args := List.take_of_length_le (by omega)
      rw [htk] at HOW
      have hpos : w1.heap.size ≤ wr.heap.size := hst.size
      have KEEP : Hid (∀ X : World, Step (fun _ => False) w1 X → X.cell? ⟨w.heap.size, 0, none⟩ = some (.int .i64 k) ∧ X.cell? ⟨w.heap.size, 6, none⟩ = some (.slice ab' body.length cb) ∧ Step (fun _ => False) w1 X) :=
        fun X hX => ⟨hX.cell K0.out (fun h => h), hX.cell K6.out (fun h => h), hX⟩
      rw [htk]
      have FIN : Hid (∀ (v : Value) (X : World), X.ownsRow w1.heap.size 3 1 v ((seenEs args).length + (seenS body).length + 1) (intsV (seenEs args) ++ intsV (seenS body) ++ intsV [k]) → Step (fun _ => False) w1 X → SeenPost w (seenE (.mk k name val m args names body l c)) (.returned v) X) := by
        intro v X ho hs
        refine ⟨v, rfl, ?_, ST0.trans hs⟩
        rw [hseen.out, intsV_append, intsV_append, List.length_append, List.length_append, List.length_singleton, ← List.append_assoc, ← Nat.add_assoc]
        exact owns_base ho (by rw [HSZ.out]; omega)
      have KW : Hid ((wr.alloc (.cells #[.int .i64 k] 3)).heap[wr.heap.size]? = some (.cells #[.int .i64 k] 3 (0, 0))) := blk_new _ _
      have STD : Step (fun _ => False) wr wr.drew := (Step.refl _ _).drew
      have STK : Step (fun _ => False) wr ((wr.alloc (.cells #[.int .i64 k] 3)).drew) := ((Step.refl _ _).alloc _).drew
      have KROW : Hid (∀ (X : World) (b : Nat), X.heap[b]? = some (.cells #[.int .i64 k] 3 (0, 0)) → Row X (b + 1) (.slice (some ⟨b, 0, none⟩) 1 1) 1 (intsV [k])) := by
        intro X b hb
        refine ⟨_, 1, rfl, Nat.le_refl _, by decide, (fun h => by cases h), fun _ => ⟨b, 0, rfl, by omega, blk_lt hb, fun i x hx => ?_⟩⟩
        have := news_cells (cs := [.int .i64 k]) hb i x hx
        rwa [add_is] at this
      go_wp2
      clear k0 k4 k6 htk
      go_region_held3 (fun X => X.cell? ⟨w.heap.size, 0, none⟩ = some (.int .i64 k) ∧ X.cell? ⟨w.heap.size, 6, none⟩ = some (.slice ab' body.length cb) ∧ Step (fun _ => False) w1 X)
        (first | exact KEEP.out _ hst.drew | exact KEEP.out _ (hst.trans STK) | exact KEEP.out _ ST5 | exact KEEP.out _ (ST5.alloc _) | exact KEEP.out _ ST5c | exact KEEP.out _ ST6 | exact KEEP.out _ (ST6.alloc _) | exact KEEP.out _ ST6b | exact KEEP.out _ ST6c | exact KEEP.out _ ST7 | exact KEEP.out _ ST7b | exact KEEP.out _ ST7c)
        (first
          | (go_at_call 18
             refine (IHS.out body _ xb wr.drew hszb.out (StsAt.step (hst.drew) (fun _ _ h => h) _ _ HB.out) (HRB.out.step (hst.drew) (fun _ _ h => h)) (by omega)).mono ?_
             rintro e w5 ⟨v5, rfl, hown5, hst5⟩
             obtain ⟨oa5, oc5, rfl⟩ := owns_slice hown5
             have ST5 : Step (fun _ => False) w1 w5 := (hst.drew).trans hst5
             have HO5 := Lib.hid (hst5.owns (STD.owns HOW.out (fun _ _ h => h)) (fun _ _ h => h))
             have HN5 := Lib.hid hown5
             skip
             clear hown5)
          | (go_at_call 18
             refine (IHS.out body _ xb (wr.alloc (.cells #[.int .i64 k] 3)).drew hszb.out (StsAt.step (hst.trans STK) (fun _ _ h => h) _ _ HB.out) (HRB.out.step (hst.trans STK) (fun _ _ h => h)) (by omega)).mono ?_
             rintro e w5c ⟨v5c, rfl, hown5, hst5⟩
             obtain ⟨oa5c, oc5c, rfl⟩ := owns_slice hown5
             have ST5c : Step (fun _ => False) w1 w5c := (hst.trans STK).trans hst5
             have HO5c := Lib.hid (hst5.owns (STK.owns HOW.out (fun _ _ h => h)) (fun _ _ h => h))
             have HN5c := Lib.hid hown5
             have KB5c := Lib.hid (hst5.keep KW.out (fun h => h))
             have LT5c : Hid (wr.heap.size < w5c.heap.size) := blk_lt KB5c.out
             clear hown5)
          | (refine step_append_row _ rfl (w5).heap.size (.tmp 20) (.tmp 23) 33 rfl w1.heap.size 3 i0 (.int .i64 0) 1 8 Try.underlying33 hI.out hz0.out hz1.out hz2.out rfl (by decide) _ _ _ (by simp [Act.eval]) HO5.out _ _ _ (by simp [Act.eval]) (Row.of_owns HN5.out (Nat.le_refl _)) (intsV_length _) (intsV_one _) (by unfold maxLen; omega) (by omega) (ST5).size ?_
             intro v6 w6 hown hgrow _
             obtain ⟨oa6, oc6, rfl⟩ := owns_slice hown
             have ST6 : Step (fun _ => False) w1 w6 := (ST5).grown hgrow (fun k hk hlt => by have := owned_row HOW.out k hk; omega)
             have HO6 := Lib.hid hown
             skip
             clear hown hgrow)
          | (refine step_append_row _ rfl (w5.alloc (.cells #[.int .i64 k] 3)).heap.size (.tmp 20) (.tmp 23) 33 rfl w1.heap.size 3 i0 (.int .i64 0) 1 8 Try.underlying33 hI.out hz0.out hz1.out hz2.out rfl (by decide) _ _ _ (by simp [Act.eval]) (HO5.out.alloc _) _ _ _ (by simp [Act.eval]) (Row.of_owns (HN5.out.alloc _) (Nat.le_refl _)) (intsV_length _) (intsV_one _) (by unfold maxLen; omega) (by omega) (ST5.alloc _).size ?_
             intro v6b w6b hown hgrow _
             obtain ⟨oa6b, oc6b, rfl⟩ := owns_slice hown
             have ST6b : Step (fun _ => False) w1 w6b := (ST5.alloc _).grown hgrow (fun k hk hlt => by have := owned_row HOW.out k hk; omega)
             have HO6b := Lib.hid hown
             have KB6b : Hid (w6b.heap[w5.heap.size]? = some (.cells #[.int .i64 k] 3 (0, 0))) := grown_keep hgrow (blk_new _ _) (fun k hk e => by have := (HO5.out.lt k hk).2; omega)
             clear hown hgrow)
          | (refine step_append_row _ rfl (w5c).heap.size (.tmp 20) (.tmp 23) 33 rfl w1.heap.size 3 i0 (.int .i64 0) 1 8 Try.underlying33 hI.out hz0.out hz1.out hz2.out rfl (by decide) _ _ _ (by simp [Act.eval]) HO5c.out _ _ _ (by simp [Act.eval]) (Row.of_owns HN5c.out (Nat.le_refl _)) (intsV_length _) (intsV_one _) (by unfold maxLen; omega) (by omega) (ST5c).size ?_
             intro v6c w6c hown hgrow _
             obtain ⟨oa6c, oc6c, rfl⟩ := owns_slice hown
             have ST6c : Step (fun _ => False) w1 w6c := (ST5c).grown hgrow (fun k hk hlt => by have := owned_row HOW.out k hk; omega)
             have HO6c := Lib.hid hown
             have KB6c : Hid (w6c.heap[wr.heap.size]? = some (.cells #[.int .i64 k] 3 (0, 0))) := grown_keep hgrow KB5c.out (fun k hk e => by have := (HOW.out.lt k hk).2; omega)
             clear hown hgrow)
          | (refine step_append_row _ rfl (w6.heap.size + 1) (.tmp 24) (.tmp 27) 33 rfl w1.heap.size 3 i0 (.int .i64 0) 1 8 Try.underlying33 hI.out hz0.out hz1.out hz2.out rfl (by decide) _ _ _ (by simp [Act.eval]) (HO6.out.alloc _) _ 1 (intsV [k]) (by simp [Act.eval]) (KROW.out _ (w6.heap.size) (blk_new _ _)) rfl (intsV_one _) (by unfold maxLen; omega) (by omega) (ST6.alloc _).size ?_
             intro v7 w7 hown hgrow _
             obtain ⟨oa7, oc7, rfl⟩ := owns_slice hown
             have ST7 : Step (fun _ => False) w1 w7 := (ST6.alloc _).grown hgrow (fun k hk hlt => by have := owned_row HO6.out k hk; omega)
             have HO7 := Lib.hid hown
             clear hown hgrow)
          | (refine step_append_row _ rfl (w5.heap.size + 1) (.tmp 24) (.tmp 27) 33 rfl w1.heap.size 3 i0 (.int .i64 0) 1 8 Try.underlying33 hI.out hz0.out hz1.out hz2.out rfl (by decide) _ _ _ (by simp [Act.eval]) HO6b.out _ 1 (intsV [k]) (by simp [Act.eval]) (KROW.out _ (w5.heap.size) KB6b.out) rfl (intsV_one _) (by unfold maxLen; omega) (by omega) (ST6b).size ?_
             intro v7b w7b hown hgrow _
             obtain ⟨oa7b, oc7b, rfl⟩ := owns_slice hown
             have ST7b : Step (fun _ => False) w1 w7b := (ST6b).grown hgrow (fun k hk hlt => by have := owned_row HO6b.out k hk; omega)
             have HO7b := Lib.hid hown
             clear hown hgrow)
          | (refine step_append_row _ rfl (wr.heap.size + 1) (.tmp 24) (.tmp 27) 33 rfl w1.heap.size 3 i0 (.int .i64 0) 1 8 Try.underlying33 hI.out hz0.out hz1.out hz2.out rfl (by decide) _ _ _ (by simp [Act.eval]) HO6c.out _ 1 (intsV [k]) (by simp [Act.eval]) (KROW.out _ (wr.heap.size) KB6c.out) rfl (intsV_one _) (by unfold maxLen; omega) (by omega) (ST6c).size ?_
             intro v7c w7c hown hgrow _
             obtain ⟨oa7c, oc7c, rfl⟩ := owns_slice hown
             have ST7c : Step (fun _ => False) w1 w7c := (ST6c).grown hgrow (fun k hk hlt => by have := owned_row HO6c.out k hk; omega)
             have HO7c := Lib.hid hown
             clear hown hgrow))
      · go_wp2
        go_ret
        exact FIN.out _ _ HO7.out ST7
      · go_wp2
        go_ret
        exact FIN.out _ _ HO7b.out ST7b
      · go_wp2
        go_ret
        exact FIN.out _ _ HO7c.out ST7c

end Go.Proofs.Ytfjkkfdpeckccaa
