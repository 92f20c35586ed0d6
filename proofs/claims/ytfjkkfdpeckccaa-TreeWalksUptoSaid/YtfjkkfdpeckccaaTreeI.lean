/- Contracts: SeenAll; what is seen of any tree. -/
import Derived.Test.YtfjkkfdpeckccaaTreeH
namespace Go.Proofs.Ytfjkkfdpeckccaa
open Go.RowKit

theorem grown_step {w w' : World} {row : Option Nat} (h : w.grownBy w' row) : Step (fun k => row = some k) w w' := (Step.refl _ _).grown h (fun _ hk _ => hk)

set_option maxRecDepth 100000 in
set_option maxHeartbeats 4000000 in
theorem seenS_succ (B n : Nat) (ihE : SeenE B n) (ihS : SeenS B n) : SeenS B (n + 1) := by
  intro l u xs w hn hxs hr hks
  obtain ⟨a, c, rfl, hc, hcm, -, hrr⟩ := hr
  have HXS := Lib.hid hxs
  have HRR := Lib.hid hrr
  have IHE := Lib.hid ihE
  have IHS := Lib.hid ihS
  have HN := Lib.hid hn
  obtain ⟨i0, hi0, hz00, hz10, hz20⟩ := info_parts Try.infoInt
  have hI := Lib.hid hi0
  have hz0 := Lib.hid hz00
  have hz1 := Lib.hid hz10
  have hz2 := Lib.hid hz20
  clear hi0 hz00 hz10 hz20 hxs hrr ihE ihS hn
  go_enter Try.func18, Try.ntmps18
  go_wp2_with fail
  go_loopg [3, 4, 5, 6] l.length (fun gg s3 s4 _ _ wr => ∃ (i : Nat), s4 = .int .i64 i ∧ i ≤ l.length ∧ l.length - i ≤ gg ∧ wr.ownsRow w.heap.size 3 1 s3 (seenS (l.take i)).length (intsV (seenS (l.take i))) ∧ Step (fun _ => False) w wr)
  case atStart => exact ⟨0, rfl, Nat.zero_le _, by omega, by simpa [seenS, intsV] using World.ownsRow_nil _ _ _ _, Step.refl _ _⟩
  case round =>
    obtain ⟨i, rfl, hi, hgg, hown, hst⟩ := hrel
    have HOW := Lib.hid hown
    by_cases hlt : i < l.length
    · obtain ⟨x, hx⟩ : ∃ x, l[i]? = some x := ⟨l[i], List.getElem?_eq_getElem hlt⟩
      obtain ⟨g, o, rfl, hgb, hgw, hcell⟩ := HRR.out (by omega)
      obtain ⟨cs, hat, f⟩ := StsAt.cells HXS.out hx (fun i x hx => hcell i x hx)
      have HTK := Lib.hid (seenS_take l i x hx)
      have HLE := Lib.hid (seenS_le l (i + 1))
      have hszx := List.sizeOf_lt_of_mem (List.mem_of_getElem? hx)
      obtain ⟨k1, name1, ty1, place, e, body, els, other, l1, c1⟩ := x
      have hnn := HN.out
      simp at hszx
      have HSP : Hid (SizeOf.sizeOf place < n) := by show _ < _; omega
      have HSE : Hid (SizeOf.sizeOf e < n) := by show _ < _; omega
      have HSB : Hid (SizeOf.sizeOf body < n) := by show _ < _; omega
      have HSL : Hid (SizeOf.sizeOf els < n) := by show _ < _; omega
      have hks2 := HLE.out
      rw [HTK.out] at hks2
      rw [seenT] at hks2
      simp only [List.length_append] at hks2
      rw [StAt] at hat
      obtain ⟨ct, vp, ve, vb, vl, xp, xe, xb, xl, rfl, hs1, hty, hp, hrp, he, hre, hb, hrb, hl, hrl⟩ := hat
      have hct := hty.len
      have f10 := f 10 vp (by rw [List.getElem?_append_right (by simp [hct])]; simp [hct])
      have f11 := f 11 ve (by rw [List.getElem?_append_right (by simp [hct])]; simp [hct])
      have f12 := f 12 vb (by rw [List.getElem?_append_right (by simp [hct])]; simp [hct])
      have f13 := f 13 vl (by rw [List.getElem?_append_right (by simp [hct])]; simp [hct])
      have HP := Lib.hid hp
      have HE := Lib.hid he
      have HB := Lib.hid hb
      have HRB := Lib.hid hrb
      have HL := Lib.hid hl
      have HRL := Lib.hid hrl
      obtain ⟨ap, cp, rfl, hcp, hcmp, -, hrP⟩ := hrp
      obtain ⟨ae, ce, rfl, hce, hcme, -, hrE⟩ := hre
      obtain ⟨ab', cb, rfl, hcb, hcmb, -, -⟩ := hrb
      obtain ⟨al, cl, rfl, hcl, hcml, -, -⟩ := hrl
      have HRP := Lib.hid hrP
      have HRE := Lib.hid hrE
      have F10 := Lib.hid f10
      have F11 := Lib.hid f11
      have F12 := Lib.hid f12
      have F13 := Lib.hid f13
      clear f f10 f11 f12 f13 hct hty hcell hx hown hp he hb hl hrP hrE hszx hnn
      obtain ⟨go, hgo⟩ : ∃ go : Nat, go = gk := ⟨_, rfl⟩
      obtain ⟨wo, hwo⟩ : ∃ wo : World, wo = wr := ⟨_, rfl⟩
      go_wp2_with fail
      subst hwo
      go_loopg [3, 5] place.length (fun gg s3 s wr => ∃ (j : Nat) (kk : List Int), s = .int .i64 j ∧ j ≤ place.length ∧ place.length - j ≤ gg ∧ kk = seenS (l.take i) ++ seenEs (place.take j) ∧ wr.ownsRow w.heap.size 3 1 s3 kk.length (intsV kk) ∧ Step (fun _ => False) w wr)
      case atStart => exact ⟨0, _, rfl, Nat.zero_le _, by omega, by rw [List.take_zero, seenEs, List.append_nil], And.intro HOW.out hst⟩
      case round =>
        obtain ⟨j, kk, rfl, hj, hggj, hkk, hownj, hstj⟩ := hrel
        have HKKHSP := Lib.hid hkk
        clear hkk
        obtain ⟨oa, oc, rfl⟩ := owns_slice hownj
        have HOWJ := Lib.hid hownj
        have fl := hstj.cell F10.out (fun h => h)
        clear hownj
        by_cases hltj : j < place.length
        · obtain ⟨y, hy⟩ : ∃ y, place[j]? = some y := ⟨place[j], List.getElem?_eq_getElem hltj⟩
          obtain ⟨g2, o2, rfl, hgb2, hgw2, hcell2⟩ := HRP.out (by omega)
          obtain ⟨cs, hat, f⟩ := ExsAt.cells (ExsAt.step hstj (fun _ _ h => h) _ _ HP.out) hy (fun i x hx => hstj.cell (hcell2 i x hx) (fun h => h))
          have HYM : Hid (SizeOf.sizeOf y < n) := by
            have h1 := List.sizeOf_lt_of_mem (List.mem_of_getElem? hy)
            have h2 := HSP.out
            show _ < _
            omega
          have HTJ := Lib.hid (seenEs_take place j y hy)
          have HLJ := Lib.hid (seenEs_le place (j + 1))
          have HAT := Lib.hid hat
          obtain ⟨k3, name3, v3, m3, args3, names3, body3, l3, c3⟩ := y
          rw [ExAt] at hat
          obtain ⟨va3, vn3, vb3, xa3, xb3, rfl, -, -, -, ⟨a5', c5', rfl, -⟩, ⟨a6', c6', rfl, -⟩, -, ⟨a7', c7', rfl, -⟩⟩ := hat
          have f0 := f 0 _ rfl
          have f1 := f 1 _ rfl
          have f2 := f 2 _ rfl
          have f3 := f 3 _ rfl
          have f4 := f 4 _ rfl
          have f5 := f 5 _ rfl
          have f6 := f 6 _ rfl
          have f7 := f 7 _ rfl
          have f8 := f 8 _ rfl
          rw [Nat.add_zero] at f0
          clear f hcell2 hy
          have hln := HLJ.out
          rw [HTJ.out, List.length_append] at hln
          have hlo : kk.length + (seenE (.mk k3 name3 v3 m3 args3 names3 body3 l3 c3)).length ≤ 4000000 := by rw [HKKHSP.out]; simp only [List.length_append]; omega
          go_wp2_with fail
          refine (IHE.out _ _ _ HYM.out HAT.out (by omega)).mono ?_
          rintro e w3 ⟨v4, rfl, hown3, hst3⟩
          have HROW3 := Lib.hid (Row.of_owns (B := w3.heap.size) hown3 (Nat.le_refl _))
          have HOW3 := Lib.hid (hst3.owns HOWJ.out (fun _ _ h => h))
          have ST3 := hstj.trans hst3
          clear hown3 f0 f1 f2 f3 f4 f5 f6 f7 f8 fl
          go_wp2_with (at_builtin; refine wpList_append_row _ rfl w3.heap.size _ _ 33 rfl w.heap.size 3 i0 (.int .i64 0) 1 8 Try.underlying33 hI.out hz0.out hz1.out hz2.out rfl (by decide) _ _ _ rfl HOW3.out _ _ _ rfl HROW3.out (intsV_length _) (intsV_one _) (by unfold maxLen; omega) (by omega) ST3.size ?_)
          intro v4 w4 hown4 hgrow4 _
          have ST4 : Step (fun _ => False) w w4 := ST3.grown hgrow4 (fun k hk hlt => by have := owned_row HOW3.out k hk; omega)
          rw [← intsV_append, ← List.length_append] at hown4
          go_wp2
          go_roundg (gk - 1)
          case rel => exact ⟨j + 1, _, by go_num, by omega, by omega, by rw [HKKHSP.out, HTJ.out, List.append_assoc], hown4, ST4⟩
          case measure => omega
        · have htk : place.take j = place := List.take_of_length_le (by omega)
          rw [htk] at HKKHSP
          obtain ⟨kp, hkp⟩ : ∃ kp, kp = kk := ⟨_, rfl⟩
          go_wp2_with fail
          clear fl
          subst hkp
          go_loopg [3, 6] e.length (fun gg s3 s wr => ∃ (j : Nat) (kk : List Int), s = .int .i64 j ∧ j ≤ e.length ∧ e.length - j ≤ gg ∧ kk = kp ++ seenEs (e.take j) ∧ wr.ownsRow w.heap.size 3 1 s3 kk.length (intsV kk) ∧ Step (fun _ => False) w wr)
          case atStart => exact ⟨0, _, rfl, Nat.zero_le _, by omega, by rw [List.take_zero, seenEs, List.append_nil], And.intro HOWJ.out hstj⟩
          case round =>
            obtain ⟨j, kk, rfl, hj, hggj, hkk, hownj, hstj⟩ := hrel
            have HKKHSE := Lib.hid hkk
            clear hkk
            obtain ⟨oa, oc, rfl⟩ := owns_slice hownj
            have HOWJ := Lib.hid hownj
            have fl := hstj.cell F11.out (fun h => h)
            clear hownj
            by_cases hltj : j < e.length
            · obtain ⟨y, hy⟩ : ∃ y, e[j]? = some y := ⟨e[j], List.getElem?_eq_getElem hltj⟩
              obtain ⟨g2, o2, rfl, hgb2, hgw2, hcell2⟩ := HRE.out (by omega)
              obtain ⟨cs, hat, f⟩ := ExsAt.cells (ExsAt.step hstj (fun _ _ h => h) _ _ HE.out) hy (fun i x hx => hstj.cell (hcell2 i x hx) (fun h => h))
              have HYM : Hid (SizeOf.sizeOf y < n) := by
                have h1 := List.sizeOf_lt_of_mem (List.mem_of_getElem? hy)
                have h2 := HSE.out
                show _ < _
                omega
              have HTJ := Lib.hid (seenEs_take e j y hy)
              have HLJ := Lib.hid (seenEs_le e (j + 1))
              have HAT := Lib.hid hat
              obtain ⟨k3, name3, v3, m3, args3, names3, body3, l3, c3⟩ := y
              rw [ExAt] at hat
              obtain ⟨va3, vn3, vb3, xa3, xb3, rfl, -, -, -, ⟨a5', c5', rfl, -⟩, ⟨a6', c6', rfl, -⟩, -, ⟨a7', c7', rfl, -⟩⟩ := hat
              have f0 := f 0 _ rfl
              have f1 := f 1 _ rfl
              have f2 := f 2 _ rfl
              have f3 := f 3 _ rfl
              have f4 := f 4 _ rfl
              have f5 := f 5 _ rfl
              have f6 := f 6 _ rfl
              have f7 := f 7 _ rfl
              have f8 := f 8 _ rfl
              rw [Nat.add_zero] at f0
              clear f hcell2 hy
              have hln := HLJ.out
              rw [HTJ.out, List.length_append] at hln
              have hlo : kk.length + (seenE (.mk k3 name3 v3 m3 args3 names3 body3 l3 c3)).length ≤ 4000000 := by rw [HKKHSE.out, HKKHSP.out]; simp only [List.length_append]; omega
              go_wp2_with fail
              refine (IHE.out _ _ _ HYM.out HAT.out (by omega)).mono ?_
              rintro e w3 ⟨v4, rfl, hown3, hst3⟩
              have HROW3 := Lib.hid (Row.of_owns (B := w3.heap.size) hown3 (Nat.le_refl _))
              have HOW3 := Lib.hid (hst3.owns HOWJ.out (fun _ _ h => h))
              have ST3 := hstj.trans hst3
              clear hown3 f0 f1 f2 f3 f4 f5 f6 f7 f8 fl
              go_wp2_with (at_builtin; refine wpList_append_row _ rfl w3.heap.size _ _ 33 rfl w.heap.size 3 i0 (.int .i64 0) 1 8 Try.underlying33 hI.out hz0.out hz1.out hz2.out rfl (by decide) _ _ _ rfl HOW3.out _ _ _ rfl HROW3.out (intsV_length _) (intsV_one _) (by unfold maxLen; omega) (by omega) ST3.size ?_)
              intro v4 w4 hown4 hgrow4 _
              have ST4 : Step (fun _ => False) w w4 := ST3.grown hgrow4 (fun k hk hlt => by have := owned_row HOW3.out k hk; omega)
              rw [← intsV_append, ← List.length_append] at hown4
              go_wp2
              go_roundg (gk - 1)
              case rel => exact ⟨j + 1, _, by go_num, by omega, by omega, by rw [HKKHSE.out, HTJ.out, List.append_assoc], hown4, ST4⟩
              case measure => omega
            · have htk : e.take j = e := List.take_of_length_le (by omega)
              rw [htk] at HKKHSE
              have KEEP : Hid (∀ X : World, Step (fun _ => False) w X → X.cell? ⟨g, o + i * 17 + 12, none⟩ = some (.slice ab' body.length cb) ∧ X.cell? ⟨g, o + i * 17 + 13, none⟩ = some (.slice al els.length cl) ∧ Step (fun _ => False) w X) :=
                fun X hX => ⟨hX.cell F12.out (fun h => h), hX.cell F13.out (fun h => h), hX⟩
              have hlo : kk.length + (seenS body).length + (seenS els).length ≤ 4000000 := by rw [HKKHSE.out, HKKHSP.out]; simp only [List.length_append]; omega
              have FIN : Hid (∀ (v : Value) (X : World), X.ownsRow w.heap.size 3 1 v (kk.length + (seenS body).length + (seenS els).length) (intsV kk ++ intsV (seenS body) ++ intsV (seenS els)) → X.ownsRow w.heap.size 3 1 v (seenS (l.take (i + 1))).length (intsV (seenS (l.take (i + 1))))) := by
                intro v X ho
                rw [← intsV_append, ← intsV_append, ← List.length_append, ← List.length_append] at ho
                rw [HTK.out, seenT, ← List.append_assoc, ← List.append_assoc, ← List.append_assoc, ← HKKHSP.out, ← HKKHSE.out]
                exact ho
              have STD : Step (fun _ => False) wr wr.drew := (Step.refl _ _).drew
              have wsz := hstj.size
              go_wp2
              clear fl
              have d12 := hstj.cell F12.out (fun h => h)
              have d13 := hstj.cell F13.out (fun h => h)
              go_region_held3 (fun X => X.cell? ⟨g, o + i * 17 + 12, none⟩ = some (.slice ab' body.length cb) ∧ X.cell? ⟨g, o + i * 17 + 13, none⟩ = some (.slice al els.length cl) ∧ Step (fun _ => False) w X)
                (first | exact KEEP.out _ hstj.drew | exact KEEP.out _ ST5 | exact KEEP.out _ ST6 | exact KEEP.out _ ST7 | exact KEEP.out _ ST8)
                (first
                  | (go_at_call 18
                     refine (IHS.out els _ xl w6 HSL.out (StsAt.step ST6 (fun _ _ h => h) _ _ HL.out) (HRL.out.step ST6 (fun _ _ h => h)) (by omega)).mono ?_
                     rintro e w7 ⟨v7, rfl, hown7, hst7⟩
                     obtain ⟨oa7, oc7, rfl⟩ := owns_slice hown7
                     have ST7 : Step (fun _ => False) w w7 := ST6.trans hst7
                     have HO7 := Lib.hid (hst7.owns HO6.out (fun _ _ h => h))
                     have HN7 := Lib.hid hown7
                     clear hown7)
                  | (go_at_call 18
                     refine (IHS.out body _ xb wr.drew HSB.out (StsAt.step hstj.drew (fun _ _ h => h) _ _ HB.out) (HRB.out.step hstj.drew (fun _ _ h => h)) (by omega)).mono ?_
                     rintro e w5 ⟨v5, rfl, hown5, hst5⟩
                     obtain ⟨oa5, oc5, rfl⟩ := owns_slice hown5
                     have ST5 : Step (fun _ => False) w w5 := hstj.drew.trans hst5
                     have HO5 := Lib.hid (hst5.owns (STD.owns HOWJ.out (fun _ _ h => h)) (fun _ _ h => h))
                     have HN5 := Lib.hid hown5
                     clear hown5)
                  | (refine step_append_row _ rfl w5.heap.size (.tmp 55) (.tmp 61) 33 rfl w.heap.size 3 i0 (.int .i64 0) 1 8 Try.underlying33 hI.out hz0.out hz1.out hz2.out rfl (by decide) _ _ _ (by simp [Act.eval]) HO5.out _ _ _ (by simp [Act.eval]) (Row.of_owns HN5.out (Nat.le_refl _)) (intsV_length _) (intsV_one _) (by unfold maxLen; omega) (by omega) ST5.size ?_
                     intro v6 w6 hown hgrow _
                     obtain ⟨oa6, oc6, rfl⟩ := owns_slice hown
                     have ST6 : Step (fun _ => False) w w6 := ST5.grown hgrow (fun k hk hlt => by have := owned_row HO5.out k hk; omega)
                     have HO6 := Lib.hid hown
                     clear hown hgrow)
                  | (refine step_append_row _ rfl w7.heap.size (.tmp 62) (.tmp 68) 33 rfl w.heap.size 3 i0 (.int .i64 0) 1 8 Try.underlying33 hI.out hz0.out hz1.out hz2.out rfl (by decide) _ _ _ (by simp [Act.eval]) HO7.out _ _ _ (by simp [Act.eval]) (Row.of_owns HN7.out (Nat.le_refl _)) (intsV_length _) (intsV_one _) (by unfold maxLen; omega) (by omega) ST7.size ?_
                     intro v8 w8 hown hgrow _
                     obtain ⟨oa8, oc8, rfl⟩ := owns_slice hown
                     have ST8 : Step (fun _ => False) w w8 := ST7.grown hgrow (fun k hk hlt => by have := owned_row HO7.out k hk; omega)
                     have HO8 := Lib.hid hown
                     clear hown hgrow))
              · go_wp2
                go_roundg (go - 1)
                case rel => exact ⟨i + 1, by go_num, by omega, by omega, FIN.out _ _ HO8.out, ST8⟩
                case measure => omega
    · have htk : l.take i = l := List.take_of_length_le (by omega)
      rw [htk] at HOW
      go_wp2
      go_ret
      exact ⟨_, rfl, HOW.out, hst⟩

theorem seen_both (B : Nat) : ∀ n, SeenE B n ∧ SeenS B n := by
  intro n
  induction n with
  | zero => exact ⟨fun _ _ _ h => absurd h (Nat.not_lt_zero _), fun _ _ _ _ h => absurd h (Nat.not_lt_zero _)⟩
  | succ n ih => exact ⟨seenE_succ B n ih.1 ih.2, seenS_succ B n ih.1 ih.2⟩

end Go.Proofs.Ytfjkkfdpeckccaa
