/- chattelref19.go1 and Ways: what they tell of each instruction. -/
import Derived.Test.YtilipeigjkmldaaWay
import Derived.StillTailTactics
namespace Go.Proofs.Ytilipeigjkmldaa
open Go.RowKit

theorem getD_setB2 (m : List Bool) (i j : Nat) (x : Bool) (hi : i < m.length) : (m.set i x).getD j false = if i = j then x else m.getD j false := by
  simp only [List.getD_eq_getElem?_getD, List.getElem?_set]
  by_cases e : i = j
  · subst e; simp [hi]
  · simp [e]
def Go1Post (b : Bod) (g m i : Nat) (l : List Pl) (o : List Bool) (w : World) (e : Ending) (w' : World) : Prop :=
  e = .returned (.tuple #[]) ∧ (∃ o', w'.heap[g]? = some (boolsO o') ∧ o'.length = b.code.length ∧ ∀ j, j < b.code.length → o'.getD j false = (o.getD j false || wayF b m i l j)) ∧ Step (· = g) w w'

set_option maxRecDepth 100000 in
set_option maxHeartbeats 8000000 in
theorem go1_any (B g : Nat) (b : Bod) (bs : List Value) (hs : BodSmall b) (hok : bodOk b) (hacc : ∀ i, (accB b i).length ≤ 100) (hp : ∀ i a, a ∈ accB b i → a.pl.path.length ≤ 1000000) (hBg : B ≤ g) : ∀ (m i : Nat) (l : List Pl) (xs : List Value) (v : Value) (B2 : Nat) (o : List Bool) (w : World),
    m ≤ 100 → i < b.code.length → BodAt w B b bs → Each (PlAt w B) l xs → Row w B2 v l.length xs → B2 ≤ w.heap.size → l.length + 100 * m ≤ 100000 → (0 < l.length → ∀ q, v.ownBlock = some q → q ≠ g) → w.heap[g]? = some (boolsO o) → o.length = b.code.length →
    Calls Try.prog 45 #[.agg bs.toArray, .int .i64 i, v, .int .i64 m, .slice (some ⟨g, 0, none⟩) b.code.length b.code.length] w (Go1Post b g m i l o w) := by
  intro m
  induction m using Nat.strongRecOn with
  | ind m ih =>
  intro i l xs v B2 o w hm hi h hx hr hB2 hl hv ho hol
  have IH := Lib.hid ih
  have HSM := Lib.hid hs
  have HOK := Lib.hid hok
  have HACC := Lib.hid hacc
  have HP := Lib.hid hp
  have H := Lib.hid h
  have HX := Lib.hid hx
  have HR := Lib.hid hr
  have HV := Lib.hid hv
  have HOL := Lib.hid hol
  have hglt := blk_lt ho
  obtain ⟨vl, vcd, xl, xc, hbs, hrl, hec, hrc⟩ := id h
  have HINS : Hid (InsP w B vcd b.code) := ⟨xc, hec, hrc⟩
  obtain ⟨a1, c1, rfl, -⟩ := hrl
  obtain ⟨a2, c2, rfl, -⟩ := hrc
  subst hbs
  obtain ⟨vo, vc, rfl, -⟩ := id hr
  obtain ⟨w1, hw1⟩ : ∃ w1 : World, w1 = w.alloc (.cells #[.string b.name, .int .i64 b.params, .slice a1 b.locals c1, .slice a2 b.code.length c2] 29) := ⟨_, rfl⟩
  have HST : Hid (Step (fun _ => False) w w1) := by show Step _ _ _; rw [hw1]; exact (Step.refl _ _).alloc _
  have HB1 : Hid (w1.heap[w.heap.size]? = some (.cells #[.string b.name, .int .i64 b.params, .slice a1 b.locals c1, .slice a2 b.code.length c2] 29 (0, 0))) := by show _ = _; rw [hw1]; exact blk_new w _
  have HO1 : Hid (w1.heap[g]? = some (boolsO o)) := HST.out.keep ho (fun h => h)
  have HW1 := Lib.hid hw1
  have HKB : Hid (∀ X : World, Step (· = g) w1 X → X.cell? ⟨w.heap.size, 0, none⟩ = some (.string b.name) ∧ X.cell? ⟨w.heap.size, 1, none⟩ = some (.int .i64 b.params) ∧ X.cell? ⟨w.heap.size, 2, none⟩ = some (.slice a1 b.locals c1) ∧ X.cell? ⟨w.heap.size, 3, none⟩ = some (.slice a2 b.code.length c2)) := by
    show ∀ X, _
    intro X hX
    have hb := hX.keep HB1.out (by omega)
    exact ⟨blk_cell hb 0 _ rfl, blk_cell hb 1 _ rfl, blk_cell hb 2 _ rfl, blk_cell hb 3 _ rfl⟩
  have HSG : Hid (∀ X : World, Step (· = g) w1 X → Step (· = g) w X) := by
    show ∀ X, _
    intro X hX
    exact (HST.out.mono (fun _ _ h => h.elim)).trans hX
  have HBX : Hid (∀ X : World, Step (· = g) w1 X → BodAt X B b [.string b.name, .int .i64 b.params, .slice a1 b.locals c1, .slice a2 b.code.length c2] ∧ InsP X B (.slice a2 b.code.length c2) b.code ∧ w.heap.size ≤ X.heap.size) := by
    show ∀ X, _
    intro X hX
    have h2 := HSG.out X hX
    obtain ⟨u1, u2, u3⟩ := HINS.out
    exact ⟨BodAt.step h2 (fun q hq e => by omega) _ _ H.out, ⟨u1, Each.mono (InAt.step h2 (fun q hq e => by omega)) _ _ u2, u3.step h2 (fun q hq e => by omega)⟩, h2.size⟩
  have HCALL : Hid (Calls Try.prog 44 #[.agg #[.string b.name, .int .i64 b.params, .slice a1 b.locals c1, .slice a2 b.code.length c2], .int .i64 i, .slice vo l.length vc] w1 (StepPost B (accB b i) l (.slice vo l.length vc) w1)) :=
    step_any B B2 b _ i l xs _ w1 (BodAt.step HST.out (fun _ _ h => h) _ _ h) hi HSM.out (by have := HST.out.size; omega) (Each.mono (PlAt.step HST.out (fun _ _ h => h)) _ _ hx) (hr.step HST.out (fun _ _ h => h)) (by have := HST.out.size; omega) (by omega) HP.out
  obtain ⟨d0, d1, d2, d3⟩ := HKB.out w1 (Step.refl _ _)
  clear ih hs hok hacc hp h hx hr hv ho hec hw1 hol
  go_enter Try.func45, Try.ntmps45
  go_upto_region 1 with fail
  rw [← HW1.out]
  go_wp2_with fail
  refine HCALL.out.mono ?_
  rintro e w2 ⟨⟨u, xs2, rfl, hx2, hr2, hal⟩, s2⟩
  obtain ⟨nx, hnx⟩ : ∃ nx, nx = stepL (accB b i) l := ⟨_, rfl⟩
  have hnl : nx.length ≤ l.length + 100 := by
    have h1 := stepL_len (accB b i) l
    have h2 := HACC.out i
    rw [hnx]; omega
  rw [← hnx] at hx2 hr2
  have HNX := Lib.hid hnx
  have HX2 := Lib.hid hx2
  have HR2 := Lib.hid hr2
  have HAL := Lib.hid hal
  obtain ⟨wg, hwg⟩ : ∃ wg, wg = wrongR (accB b i) l := ⟨_, rfl⟩
  have HWG := Lib.hid hwg
  rw [← hwg]
  have HUG : Hid (0 < nx.length → ∀ q, u.ownBlock = some q → q ≠ g) := by
    show 0 < nx.length → _
    intro h0 q hq
    rcases HAL.out with ⟨h1, h2⟩ | h1
    · have h3 : nx = l := by rw [HNX.out, h1]; rfl
      rw [h3] at h0
      exact HV.out h0 q (h2 ▸ hq)
    · have := h1 q hq
      have := HST.out.size
      omega
  obtain ⟨u0, u1, rfl, -⟩ := hr2
  have HS2 : Hid (Step (· = g) w1 w2) := s2.mono (fun _ _ h => h.elim)
  have ho2 := s2.keep HO1.out (fun h => h)
  obtain ⟨ob, hob⟩ : ∃ ob, o[i]? = some ob := ⟨_, List.getElem?_eq_getElem (by rw [HOL.out]; exact hi)⟩
  have c0 := bools_cell ho2 hob
  have f0 := bools_free ho2 i
  have HO2 := Lib.hid ho2
  have HOB := Lib.hid hob
  have hi0 : (0 : Int) ≤ (i : Int) := by omega
  have hi1 : (i : Int) < (b.code.length : Int) := by omega
  clear hnx hx2 hal hwg s2 ho2 hob d0 d1 d2 d3
  go_upto_region 2 with fail
  go_cut [] (fun wx => (∃ o1, wx.heap[g]? = some (boolsO o1) ∧ o1.length = b.code.length ∧ ∀ j, j < b.code.length → o1.getD j false = (o.getD j false || (decide (i = j) && wg))) ∧ Step (· = g) w2 wx)
  case first =>
    have HSET : Hid (∀ x, x = (ob || wg) → ∀ j, j < b.code.length → (o.set i x).getD j false = (o.getD j false || (decide (i = j) && wg))) := by
      show ∀ x, _
      intro x hx j hj
      rw [getD_setB2 o i j x (by rw [HOL.out]; exact hi), hx]
      by_cases e : i = j
      · subst e
        rw [if_pos rfl, List.getD_eq_getElem?_getD, HOB.out]; simp
      · simp [e]
    cases ob with
    | true =>
      go_wp2_with fail
      go_meet
      case rel => exact ⟨⟨_, bools_set true HO2.out, by rw [List.length_set]; exact HOL.out, HSET.out true rfl⟩, (Step.refl _ _).setCell _ _ (fun _ => rfl)⟩
    | false =>
      go_wp2_with fail
      go_meet
      case rel => exact ⟨⟨_, bools_set wg HO2.out, by rw [List.length_set]; exact HOL.out, HSET.out wg (by simp)⟩, (Step.refl _ _).setCell _ _ (fun _ => rfl)⟩
  case rest =>
    obtain ⟨⟨o1, ho1, hol1, hob1⟩, s3⟩ := hcut
    obtain ⟨w3, rfl⟩ : ∃ w3 : World, w3 = wc := ⟨_, rfl⟩
    have HS3 : Hid (Step (· = g) w1 w3) := HS2.out.trans s3
    have HS23 := Lib.hid s3
    have HO3 := Lib.hid ho1
    have HOL1 := Lib.hid hol1
    have HOB1 := Lib.hid hob1
    clear c0 f0 ho1 hol1 hob1 s3
    by_cases hm0 : m = 0
    · subst hm0
      go_wp2_with fail
      refine bodyPost_ret (results_none rfl _ _ _) rfl ?_
      refine ⟨rfl, ⟨o1, HO3.out, HOL1.out, fun j hj => ?_⟩, HSG.out _ HS3.out⟩
      rw [HOB1.out j hj, HWG.out]; rfl
    · have e0 : ((m : Int) == 0) = false := by simpa using (by omega : ¬ (m : Int) = 0)
      obtain ⟨x, hx⟩ : ∃ x, b.code[i]? = some x := ⟨_, List.getElem?_eq_getElem hi⟩
      have HXI := Lib.hid hx
      have HSUCC := Lib.hid (rsucc_fresh B b.code _ i x w3 (HBX.out w3 HS3.out).2.1 hx)
      obtain ⟨d0, d1, d2, d3⟩ := HKB.out w3 HS3.out
      clear hx
      go_wp2_with fail
      refine HSUCC.out.mono ?_
      rintro e w4 ⟨⟨vt, rfl, hrt, hvt⟩, s4⟩
      obtain ⟨tl, htl⟩ : ∃ tl, tl = succI x i := ⟨_, rfl⟩
      have htll : tl.length ≤ 2 := by rw [htl]; unfold succI; (repeat' split) <;> simp
      rw [← htl] at hrt
      have HTL : Hid (tl = succB b i) := by show _ = _; unfold succB; rw [HXI.out]; exact htl
      have HRT := Lib.hid hrt
      have HVT : Hid (∀ q, vt.ownBlock = some q → q ≠ g) := by
        show ∀ q, _
        intro q hq
        have h1 := hvt q hq
        have h2 := (HBX.out w3 HS3.out).2.2
        omega
      obtain ⟨t0, t1, rfl, -⟩ := hrt
      have HS4 : Hid (Step (· = g) w1 w4) := HS3.out.trans (s4.mono (fun _ _ h => h.elim))
      have HS24 : Hid (Step (· = g) w2 w4) := HS23.out.trans (s4.mono (fun _ _ h => h.elim))
      have HO4 := Lib.hid (s4.keep HO3.out (fun h => h))
      clear htl hvt s4 d0 d1 d2 d3
      go_wp2_with fail
      go_loopg [13] tl.length (fun gg s13 wr => ∃ (k : Nat) (o2 : List Bool), s13 = .int .i64 k ∧ k ≤ tl.length ∧ tl.length - k ≤ gg ∧ wr.heap[g]? = some (boolsO o2) ∧ o2.length = b.code.length ∧ (∀ j, j < b.code.length → o2.getD j false = (o1.getD j false || (tl.take k).any (fun t => wayF b (m - 1) t.toNat nx j))) ∧ Step (· = g) w4 wr)
      case atStart => exact ⟨0, o1, rfl, Nat.zero_le _, by omega, HO4.out, HOL1.out, fun j hj => by simp, Step.refl _ _⟩
      case round =>
        obtain ⟨k, o2, rfl, hk, hgg, ho2, hol2, hob2, hst⟩ := hrel
        have HO5 := Lib.hid ho2
        have HOL2 := Lib.hid hol2
        have HOB2 := Lib.hid hob2
        have HST5 := Lib.hid hst
        have HS5 : Hid (Step (· = g) w1 wr) := HS4.out.trans hst
        obtain ⟨d0, d1, d2, d3⟩ := HKB.out wr HS5.out
        clear ho2 hol2 hob2 hst
        by_cases hkl : k < tl.length
        · obtain ⟨t, ht⟩ : ∃ t, tl[k]? = some t := ⟨_, List.getElem?_eq_getElem hkl⟩
          obtain ⟨a', c', hva, -, -, -, hrr⟩ := HRT.out.keepN HST5.out (fun _ q hq e => HVT.out q hq e)
          obtain ⟨rfl, rfl⟩ : t0 = a' ∧ t1 = c' := by cases hva; exact ⟨rfl, rfl⟩
          obtain ⟨gL, oL, rfl, -, -, hcell⟩ := hrr (by omega)
          have f0 := hcell k _ (intsV_get tl k t ht)
          have htb := HOK.out.succ i t (by rw [← HTL.out]; exact List.mem_of_getElem? ht)
          obtain ⟨tn, rfl⟩ : ∃ tn : Nat, t = (tn : Int) := ⟨t.toNat, by omega⟩
          obtain ⟨mm, rfl⟩ : ∃ mm, m = mm + 1 := ⟨m - 1, by omega⟩
          have em : IntKind.i64.wrap (((mm + 1 : Nat) : Int) - 1) = (mm : Int) := by
            rw [show (((mm + 1 : Nat) : Int) - 1) = (mm : Int) by omega]
            exact IntWalk.i64_in _ (by omega)
          have em2 : (((mm + 1 : Nat) : Int) - 1) = (mm : Int) := by omega
          have HTK : Hid (∀ j, (tl.take (k + 1)).any (fun t => wayF b (mm + 1 - 1) t.toNat nx j) = ((tl.take k).any (fun t => wayF b (mm + 1 - 1) t.toNat nx j) || wayF b mm tn nx j)) := by
            show ∀ j, _
            intro j
            obtain ⟨hj', hja⟩ := List.getElem?_eq_some_iff.1 ht
            rw [List.take_succ_eq_append_getElem hj', hja, List.any_append]; simp
          have STD : Step (· = g) wr wr.drew := (Step.refl _ _).drew
          have HREC : Hid (Calls Try.prog 45 #[.agg #[.string b.name, .int .i64 b.params, .slice a1 b.locals c1, .slice a2 b.code.length c2], .int .i64 tn, .slice u0 nx.length u1, .int .i64 mm, .slice (some ⟨g, 0, none⟩) b.code.length b.code.length] wr.drew (Go1Post b g mm tn nx o2 wr.drew)) := by
            have hsd := HS5.out.trans STD
            obtain ⟨q1, -, q3⟩ := HBX.out _ hsd
            have q4 := (HS24.out.trans HST5.out).trans STD
            refine IH.out mm (by omega) tn nx xs2 _ w2.heap.size o2 wr.drew (by omega) (by omega) q1 (Each.mono (PlAt.step q4 (fun q hq e => by omega)) _ _ HX2.out) (HR2.out.keepN q4 (fun h0 q hq e => HUG.out h0 q hq e)) q4.size (by omega) HUG.out (HO5.out) HOL2.out
          have HTN := Lib.hid htb
          have hk0 : (0 : Int) ≤ (k : Int) := by omega
          have hk1 : (k : Int) < (tl.length : Int) := by omega
          clear ht hva hrr hcell htb
          go_upto_region 8 with fail
          go_still_tail 9, (by kernel_rfl)
          change wpList _ _ _ _ _ wr.drew
          go_wp2_with fail
          refine HREC.out.mono ?_
          rintro e w6 ⟨rfl, ⟨o3, ho3, hol3, hob3⟩, s6⟩
          have HRL : Hid (∀ j, j < b.code.length → o3.getD j false = (o1.getD j false || (tl.take (k + 1)).any (fun t => wayF b (mm + 1 - 1) t.toNat nx j))) := by
            show ∀ j, _
            intro j hj
            rw [hob3 j hj, HOB2.out j hj, HTK.out j, Bool.or_assoc]
          have HO6 := Lib.hid ho3
          have HOL6 := Lib.hid hol3
          clear hob3 ho3 hol3 f0 d0 d1 d2 d3 em em2
          go_wp2_with fail
          go_roundg (gk - 1)
          case rel => exact ⟨k + 1, o3, by go_num, by omega, by omega, HO6.out, HOL6.out, HRL.out, (HST5.out.trans STD).trans s6⟩
          case measure => omega
        · have HEND : Hid (∀ j, j < b.code.length → o2.getD j false = (o.getD j false || wayF b m i l j)) := by
            show ∀ j, _
            intro j hj
            rw [HOB2.out j hj, List.take_of_length_le (by omega), HOB1.out j hj]
            obtain ⟨mm, rfl⟩ : ∃ mm, m = mm + 1 := ⟨m - 1, by omega⟩
            rw [HWG.out, HTL.out, HNX.out, Bool.or_assoc]; rfl
          go_wp2_with fail
          refine bodyPost_ret (results_none rfl _ _ _) rfl ?_
          exact ⟨rfl, ⟨o2, HO5.out, HOL2.out, HEND.out⟩, HSG.out _ HS5.out⟩

end Go.Proofs.Ytilipeigjkmldaa
