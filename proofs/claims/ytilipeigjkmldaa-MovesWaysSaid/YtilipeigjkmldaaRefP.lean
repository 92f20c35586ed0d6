/- The document's answer for moves: Check. -/
import Derived.Test.YtilipeigjkmldaaRefO
namespace Go.Proofs.Ytilipeigjkmldaa
open Go.RowKit

/- Each that may be missing alone, and none: what the document looks at says what the ways say. -/
theorem wrongP_iff {b : Bod} {i : Nat} {li : List Pl} (h : ∀ q, q ∈ li ↔ MissP b i q) : (li.any (fun q => wrongR (accB b i) [q]) || wrongR (accB b i) []) = true ↔ WrongP b i := by
  have hk : ∀ a ∈ accB b i, 1 ≤ a.kind ∧ a.kind ≤ 6 := fun a ha => accB_kinds ha
  rw [Bool.or_eq_true, List.any_eq_true, wrongR_iff _ _ hk]
  constructor
  · rintro (⟨q', hq', hw⟩ | ⟨j, a, q, h1, h2, h3⟩)
    · obtain ⟨j, a, q, h1, h2, h3⟩ := (wrongR_iff _ _ hk).1 hw
      refine ⟨j, a, q, h1, h2, ?_⟩
      cases e : hasF [q'] q with
      | true =>
        have : q = q' := by simpa using hasF_iff.1 e
        subst this
        exact .inr ⟨(h q).1 hq', by rw [← doL_true _ _ q e]; exact h3⟩
      | false => exact .inl (by rw [← doL_false _ _ q e]; exact h3)
    · exact ⟨j, a, q, h1, h2, .inl h3⟩
  · rintro ⟨j, a, q, h1, h2, h3 | ⟨h3, h4⟩⟩
    · exact .inr ⟨j, a, q, h1, h2, h3⟩
    · refine .inl ⟨q, (h q).2 h3, (wrongR_iff _ _ hk).2 ⟨j, a, q, h1, h2, ?_⟩⟩
      rw [doL_true _ _ q (hasF_iff.2 (List.mem_singleton.2 rfl))]; exact h4

def RCheckPost (b : Bod) (w : World) (e : Ending) (w' : World) : Prop :=
  (∃ v p, e = .returned v ∧ Row w' w'.heap.size v (ints ((List.range b.code.length).filter p)).length (intsV (ints ((List.range b.code.length).filter p))) ∧ ∀ i, i < b.code.length → (p i = true ↔ (Rch b i ∧ WrongP b i))) ∧ Step (fun _ => False) w w'

set_option maxRecDepth 100000 in
set_option maxHeartbeats 8000000 in
theorem rcheck_any (B : Nat) (b : Bod) (bs : List Value) (w : World) (h : BodAt w B b bs) (hs : BodSmall b) (hB : B ≤ w.heap.size) (hok : bodOk b) (hn : b.code.length ≤ 100000) (hw : (factsB b).length ≤ 100000) (hp : ∀ i a, a ∈ accB b i → a.pl.path.length ≤ 1000000) :
    Calls Try.prog 22 #[.agg bs.toArray] w (RCheckPost b w) := by
  have H := Lib.hid h
  have HSM := Lib.hid hs
  have HOK := Lib.hid hok
  have HP := Lib.hid hp
  obtain ⟨a1, c1, a2, c2, rfl⟩ := h.parts
  obtain ⟨j0, hj0, hy0, hy1, hy2⟩ := info_parts Try.infoInt
  have HJ := Lib.hid hj0
  have HY0 := Lib.hid hy0
  have HY1 := Lib.hid hy1
  have HY2 := Lib.hid hy2
  obtain ⟨w1, hw1⟩ : ∃ w1 : World, w1 = w.alloc (.cells #[.string b.name, .int .i64 b.params, .slice a1 b.locals c1, .slice a2 b.code.length c2] 29) := ⟨_, rfl⟩
  have HST : Hid (Step (fun _ => False) w w1) := by show Step _ _ _; rw [hw1]; exact (Step.refl _ _).alloc _
  have HB1 : Hid (w1.heap[w.heap.size]? = some (.cells #[.string b.name, .int .i64 b.params, .slice a1 b.locals c1, .slice a2 b.code.length c2] 29 (0, 0))) := by show _ = _; rw [hw1]; exact blk_new w _
  have HW1 := Lib.hid hw1
  have HKB : Hid (∀ X : World, Step (fun _ => False) w1 X → X.cell? ⟨w.heap.size, 0, none⟩ = some (.string b.name) ∧ X.cell? ⟨w.heap.size, 1, none⟩ = some (.int .i64 b.params) ∧ X.cell? ⟨w.heap.size, 2, none⟩ = some (.slice a1 b.locals c1) ∧ X.cell? ⟨w.heap.size, 3, none⟩ = some (.slice a2 b.code.length c2)) := by
    show ∀ X, _
    intro X hX
    have hb := hX.keep HB1.out (fun h => h)
    exact ⟨blk_cell hb 0 _ rfl, blk_cell hb 1 _ rfl, blk_cell hb 2 _ rfl, blk_cell hb 3 _ rfl⟩
  have HBOD : Hid (∀ X, Step (fun _ => False) w1 X → BodAt X B b [.string b.name, .int .i64 b.params, .slice a1 b.locals c1, .slice a2 b.code.length c2] ∧ B ≤ X.heap.size) := by
    show ∀ X, _
    intro X hX
    have hs := HST.out.trans hX
    exact ⟨BodAt.step hs (fun _ _ h => h) _ _ H.out, Nat.le_trans hB hs.size⟩
  obtain ⟨hb1, hl1⟩ := HBOD.out w1 (Step.refl _ _)
  have HALL := Lib.hid (rall_any B b _ w1 hb1 HSM.out hl1 HOK.out hn hw HP.out)
  obtain ⟨d0, d1, d2, d3⟩ := HKB.out w1 (Step.refl _ _)
  clear h hs hok hp hw1 hj0 hy0 hy1 hy2 hb1 hl1
  go_enter Try.func22, Try.ntmps22
  go_upto_region 1 with fail
  rw [← HW1.out]
  go_wp2_with fail
  refine HALL.out.mono ?_
  rintro e w3 ⟨⟨go, gm, vs, ls, m, base, rfl, hout, hcom, hml, hmr, hinv, hmem⟩, s3⟩
  have HOUT := Lib.hid hout
  have HCOM := Lib.hid hcom
  have HML := Lib.hid hml
  have HMR := Lib.hid hmr
  have HINV := Lib.hid hinv
  have HMEM := Lib.hid hmem
  have HST3 := Lib.hid s3
  obtain ⟨pf, hpf⟩ : ∃ pf : Nat → Bool, pf = fun i => mg m i && ((ls.getD i []).any (fun q => wrongR (accB b i) [q]) || wrongR (accB b i) []) := ⟨_, rfl⟩
  have HPF := Lib.hid hpf
  clear hout hcom hml hmr hinv hmem s3 hpf d0 d1 d2 d3
  go_wp2_with fail
  go_loopg [5, 6, 7, 8, 9, 10, 11, 12] b.code.length (fun gg s5 s6 _ _ _ _ _ _ wr => ∃ (i : Nat) (lo : List Nat), s6 = .int .i64 i ∧ i ≤ b.code.length ∧ b.code.length - i ≤ gg ∧ lo = (List.range i).filter pf ∧ wr.ownsRow w3.heap.size 3 1 s5 lo.length (intsV (ints lo)) ∧ Step (fun _ => False) w3 wr)
  case atStart => exact ⟨0, [], rfl, Nat.zero_le _, by omega, rfl, World.ownsRow_nil _ _ _ _, Step.refl _ _⟩
  case round =>
    obtain ⟨i, lo, rfl, hi, hgg, hlo, hown, hst⟩ := hrel
    have HLO := Lib.hid hlo
    have HOWN := Lib.hid hown
    have HSTR := Lib.hid hst
    have hlol : lo.length ≤ 100000 := by rw [hlo]; exact Nat.le_trans (List.length_filter_le ..) (by rw [List.length_range]; omega)
    obtain ⟨ao, co, rfl⟩ := owns_slice hown
    obtain ⟨d0, d1, d2, d3⟩ := HKB.out wr (HST3.out.trans hst)
    clear hlo hown hst
    obtain ⟨go1, rfl⟩ : ∃ go1, go1 = gk := ⟨_, rfl⟩
    obtain ⟨wo, rfl⟩ : ∃ wo : World, wo = wr := ⟨_, rfl⟩
    by_cases hil : i < b.code.length
    · have hlen2 : i < vs.length := by rw [HOUT.out.len, HINV.out.len]; exact hil
      obtain ⟨vi, hvi⟩ : ∃ vi, vs[i]? = some vi := ⟨_, List.getElem?_eq_getElem hlen2⟩
      obtain ⟨li, hli⟩ : ∃ li, ls[i]? = some li := ⟨_, List.getElem?_eq_getElem (by rw [HINV.out.len]; exact hil)⟩
      obtain ⟨xi, howni, hxi⟩ := HOUT.out.row i vi li hvi hli
      have HLI := Lib.hid hli
      have hlil := HINV.out.room HOK.out hli
      obtain ⟨ai, ci, hvis⟩ := owns_slice howni
      subst hvis
      have HVI : Hid (∀ X, Step (fun _ => False) w3 X → X.cell? ⟨go, i, none⟩ = some (.slice ai li.length ci)) := by
        show ∀ X, _
        intro X hX
        exact blk_cell (hX.keep HOUT.out.blk (fun h => h)) i _ (by simpa using hvi)
      have HROWI : Hid (Row w3 w3.heap.size (.slice ai li.length ci) li.length xi) := Row.of_owns howni (Nat.le_refl _)
      have HXI := Lib.hid hxi
      have hi0 : (0 : Int) ≤ (i : Int) := by omega
      have hi1 : (i : Int) < (b.code.length : Int) := by omega
      clear hvi hli howni hxi
      go_wp2_with fail
      go_loopg [7, 8, 9, 10] li.length (fun gg s7 s8 _ _ wr => ∃ k : Nat, s8 = .int .i64 k ∧ k ≤ li.length ∧ li.length - k ≤ gg ∧ s7 = .bool ((li.take k).any (fun q => wrongR (accB b i) [q])) ∧ Step (fun _ => False) wo wr)
      case atStart => exact ⟨0, rfl, Nat.zero_le _, by omega, rfl, Step.refl _ _⟩
      case round =>
        obtain ⟨k, rfl, hk, hgg2, rfl, hst5⟩ := hrel
        have HST5 := Lib.hid hst5
        have HST35 : Hid (Step (fun _ => False) w3 wr) := HSTR.out.trans hst5
        have c0 := HVI.out wr HST35.out
        obtain ⟨bd, hbd⟩ : ∃ bd, bd = (li.take k).any (fun q => wrongR (accB b i) [q]) := ⟨_, rfl⟩
        have HBD := Lib.hid hbd
        rw [← hbd]
        clear hst5 hbd
        obtain ⟨d0, d1, d2, d3⟩ := HKB.out wr (HST3.out.trans HST35.out)
        by_cases hkl : k < li.length
        · obtain ⟨q, hq⟩ : ∃ q, li[k]? = some q := ⟨_, List.getElem?_eq_getElem hkl⟩
          obtain ⟨a', c', hva, -, -, -, hra⟩ := HROWI.out.step HST35.out (fun _ _ h => h)
          obtain ⟨rfl, -, rfl⟩ : ai = a' ∧ True ∧ ci = c' := by cases hva; exact ⟨rfl, trivial, rfl⟩
          obtain ⟨gS, oS, rfl, -, -, hcS⟩ := hra (by omega)
          obtain ⟨cq, hat, f⟩ := Each.cells 2 PlAt.len (Each.mono (PlAt.step HST35.out (fun _ _ h => h)) _ _ HXI.out) hq hcS
          have HAT := Lib.hid hat
          obtain ⟨vv, rfl, hqr⟩ := hat
          obtain ⟨aq, cqq, rfl, -⟩ := hqr
          have q0 := f 0 _ rfl
          have q1 := f 1 _ rfl
          rw [Nat.add_zero] at q0
          have HSY : Hid (Step (fun _ => False) wr (wr.alloc (.cells #[.int .i64 q.loc, .slice aq q.path.length cqq] 47)).drew) := ((Step.refl _ _).alloc _).drew
          have HCALL : Hid (Calls Try.prog 44 #[.agg #[.string b.name, .int .i64 b.params, .slice a1 b.locals c1, .slice a2 b.code.length c2], .int .i64 i, .slice (some ⟨wr.heap.size, 0, none⟩) 1 1] (wr.alloc (.cells #[.int .i64 q.loc, .slice aq q.path.length cqq] 47)).drew (StepPost B (accB b i) [q] (.slice (some ⟨wr.heap.size, 0, none⟩) 1 1) (wr.alloc (.cells #[.int .i64 q.loc, .slice aq q.path.length cqq] 47)).drew)) := by
            obtain ⟨hb, hl⟩ := HBOD.out _ ((HST3.out.trans HST35.out).trans HSY.out)
            exact step_any B (wr.heap.size + 1) b _ i [q] [.int .i64 q.loc, .slice aq q.path.length cqq] _ _ hb hil HSM.out hl (Each.single (PlAt.step HSY.out (fun _ _ h => h) _ _ HAT.out)) (Row.new (cs := [.int .i64 q.loc, .slice aq q.path.length cqq]) (blk_drew (blk_new _ _)) (by decide)) (by show wr.heap.size + 1 ≤ (wr.alloc _).heap.size; simp) (by simp) HP.out
          have HTK : Hid ((li.take (k + 1)).any (fun q => wrongR (accB b i) [q]) = (bd || wrongR (accB b i) [q])) := by
            show _ = _
            obtain ⟨hj', hja⟩ := List.getElem?_eq_some_iff.1 hq
            rw [List.take_succ_eq_append_getElem hj', hja, List.any_append, ← HBD.out]; simp
          obtain ⟨bx, hbx⟩ : ∃ bx, bx = wrongR (accB b i) [q] := ⟨_, rfl⟩
          have HBX := Lib.hid hbx
          rw [← hbx] at HTK
          have hk0 : (0 : Int) ≤ (k : Int) := by omega
          have hk1 : (k : Int) < (li.length : Int) := by omega
          clear hcS hra hva f hq hbx
          go_upto_region 10 with fail
          go_cut [9, 10] (fun _ s10 wx => s10 = .bool bx ∧ Step (fun _ => False) wr wx)
          case first =>
            obtain ⟨m0, m1, m2, m3⟩ := HKB.out (wr.alloc (.cells #[.int .i64 q.loc, .slice aq q.path.length cqq] 47)) ((HST3.out.trans HST35.out).alloc _)
            go_wp2_with fail
            first
            | (go_region_law (first
                | (go_simp
                   go_at_call 44
                   refine HCALL.out.mono ?_
                   rintro e8 w8 ⟨⟨u8, xm8, rfl, -, -, -⟩, s8⟩
                   rw [← HBX.out]
                   have ST8 : Step (fun _ => False) wr w8 := HSY.out.trans s8
                   clear s8)))
            | fail
            all_goals (
              clear d0 d1 d2 d3 c0 q0 q1 m0 m1 m2 m3
              go_wp2_with fail
              go_meet
              case rel => exact ⟨rfl, ST8⟩)
          case rest =>
            obtain ⟨rfl, hst6⟩ := hcut
            obtain ⟨w6, rfl⟩ : ∃ w6 : World, w6 = wc := ⟨_, rfl⟩
            have HST6 := Lib.hid (HST5.out.trans hst6)
            clear hst6 d0 d1 d2 d3 c0 q0 q1
            cases bd with
            | true =>
              go_wp2
              go_roundg (gk - 1)
              case rel => exact ⟨k + 1, by go_num, hkl, by omega, by rw [HTK.out]; rfl, HST6.out⟩
              case measure => omega
            | false =>
              go_wp2
              go_roundg (gk - 1)
              case rel => exact ⟨k + 1, by go_num, hkl, by omega, by rw [HTK.out]; rfl, HST6.out⟩
              case measure => omega
        · obtain rfl : k = li.length := by omega
          obtain ⟨w5, rfl⟩ : ∃ w5 : World, w5 = wr := ⟨_, rfl⟩
          have HBE : Hid (bd = li.any (fun q => wrongR (accB b i) [q])) := by show _ = _; rw [HBD.out, List.take_length]
          have HCALL : Hid (Calls Try.prog 44 #[.agg #[.string b.name, .int .i64 b.params, .slice a1 b.locals c1, .slice a2 b.code.length c2], .int .i64 i, .slice none 0 0] w5 (StepPost B (accB b i) [] (.slice none 0 0) w5)) := by
            obtain ⟨hb, hl⟩ := HBOD.out w5 (HST3.out.trans HST35.out)
            exact step_any B w5.heap.size b _ i [] [] _ _ hb hil HSM.out hl Each.nil (Row.nil _ _ _) (Nat.le_refl _) (by simp) HP.out
          clear hgg2
          go_wp2_with fail
          refine HCALL.out.mono ?_
          rintro e w6 ⟨⟨u8, xm8, rfl, -, -, -⟩, s6⟩
          have HST6 : Hid (Step (fun _ => False) w3 w6) := HST35.out.trans s6
          obtain ⟨bx, hbx⟩ : ∃ bx, bx = wrongR (accB b i) [] := ⟨_, rfl⟩
          obtain ⟨mi, hmi⟩ : ∃ mi, mi = mg m i := ⟨_, rfl⟩
          have HPK : Hid (pf i = (mi && (bd || bx))) := by
            show _ = _
            rw [HPF.out]
            show (mg m i && ((ls.getD i []).any (fun q => wrongR (accB b i) [q]) || wrongR (accB b i) [])) = _
            rw [getD_nil HLI.out, ← HBE.out, hbx, hmi]
          have HFS : Hid ((List.range (i + 1)).filter pf = lo ++ (if pf i = true then [i] else [])) := by show _ = _; rw [filter_range_succ, HLO.out]
          have hcom := bits_cell (HST6.out.keep HCOM.out (fun h => h)) (i := i) (b := mi) (by rw [hmi]; exact getD_some (by rw [HML.out]; exact hil))
          have HOWN6 := Lib.hid (((HST5.out.trans s6)).owns HOWN.out (fun _ _ h => h))
          rw [← hbx]
          clear s6 d0 d1 d2 d3 c0 hbx hmi
          obtain ⟨pb, hpb⟩ : ∃ pb, pb = pf i := ⟨_, rfl⟩
          have HPB := Lib.hid hpb
          rw [← hpb] at HPK HFS
          clear hpb
          go_upto_region 13 with fail
          go_cut [68] (fun s68 wx => s68 = .bool pb ∧ wx = w6)
          case first =>
            cases mi with
            | false =>
              have hc2 : w6.cell? ⟨gm, i, none⟩ = some (.int .i64 0) := hcom
              clear hcom
              go_wp2_with fail
              go_meet
              case rel => exact ⟨by rw [HPK.out]; rfl, rfl⟩
            | true =>
              have hc2 : w6.cell? ⟨gm, i, none⟩ = some (.int .i64 1) := hcom
              clear hcom
              cases bd with
              | true =>
                go_wp2_with fail
                go_meet
                case rel => exact ⟨by rw [HPK.out]; rfl, rfl⟩
              | false =>
                go_wp2_with fail
                go_meet
                case rel => exact ⟨by rw [HPK.out]; rfl, rfl⟩
          case rest =>
            obtain ⟨rfl, rfl⟩ := hcut
            obtain ⟨w7, rfl⟩ : ∃ w7 : World, w7 = wc := ⟨_, rfl⟩
            clear hcom
            cases pb with
            | false =>
              have HE : Hid (lo = (List.range (i + 1)).filter pf) := by show _ = _; rw [HFS.out]; simp
              go_wp2
              go_roundg (go1 - 1)
              case rel => exact ⟨i + 1, lo, by go_num, hil, by rw [← Nat.sub_sub]; exact Nat.sub_le_sub_right hgg 1, HE.out, HOWN6.out, HST6.out⟩
              case measure => omega
            | true =>
              have HE : Hid (lo ++ [i] = (List.range (i + 1)).filter pf) := by show _ = _; rw [HFS.out]; simp
              have HROW5 : Hid (Row (w7.alloc (.cells #[.int .i64 i] 3)) (w7.heap.size + 1) (.slice (some ⟨w7.heap.size, 0, none⟩) 1 1) 1 (intsV [(i : Int)])) := Row.new (cs := [.int .i64 i]) (blk_new _ _) (by decide)
              have HOA := Lib.hid (HOWN6.out.alloc (.cells #[.int .i64 i] 3))
              have HSA : Hid (Step (fun _ => False) w3 (w7.alloc (.cells #[.int .i64 i] 3))) := HST6.out.alloc _
              go_wp2_with (at_builtin; refine wpList_append_row _ rfl (w7.heap.size + 1) (.tmp 69) (.tmp 71) 38 rfl w3.heap.size 3 j0 (.int .i64 0) 1 8 Try.underlying38 HJ.out HY0.out HY1.out HY2.out rfl (by decide) _ _ _ rfl HOA.out _ 1 _ rfl HROW5.out rfl (intsV_one _) (by unfold maxLen; omega) (by omega) HSA.out.size ?_)
              intro v8 w8 hown8 hgrow8 hat8
              rw [← intsV_append, ← ints_snoc] at hown8
              have HOWN8 := Lib.hid hown8
              have HST8 : Hid (Step (fun _ => False) w3 w8) := HSA.out.then (grown_step hgrow8) (fun q hq e => by have := (HOA.out.lt q e).1; omega)
              clear hown8 hgrow8 hat8
              go_wp2
              go_roundg (go1 - 1)
              case rel => exact ⟨i + 1, lo ++ [i], by go_num, hil, by rw [← Nat.sub_sub]; exact Nat.sub_le_sub_right hgg 1, HE.out, by rw [List.length_append]; exact HOWN8.out, HST8.out⟩
              case measure => omega
    · obtain rfl : i = b.code.length := by omega
      have HIFF : Hid (∀ i, i < b.code.length → (pf i = true ↔ (Rch b i ∧ WrongP b i))) := by
        show ∀ i, _
        intro i hi
        rw [HPF.out]
        show (_ && _) = true ↔ _
        rw [Bool.and_eq_true, HMR.out i hi, wrongP_iff (HMEM.out i hi)]
      go_wp2
      go_ret
      refine ⟨⟨_, pf, rfl, ?_, HIFF.out⟩, (HST.out.trans HST3.out).trans HSTR.out⟩
      rw [ints_len, ← HLO.out]
      exact Row.of_owns HOWN.out (Nat.le_refl _)

end Go.Proofs.Ytilipeigjkmldaa
