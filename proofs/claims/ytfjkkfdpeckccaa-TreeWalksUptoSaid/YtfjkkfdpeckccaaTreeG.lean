/- Contracts: WalkAll; a walk of any tree. -/
import Derived.Test.YtfjkkfdpeckccaaTreeF
namespace Go.Proofs.Ytfjkkfdpeckccaa
open Go.RowKit

set_option maxRecDepth 100000 in
set_option maxHeartbeats 4000000 in
theorem walkS_succ (kf B base ab n : Nat) (hB : B ≤ ab) (hab : ab < base) (ihE : WalkE kf B base ab n) (ihS : WalkS kf B base ab n) : WalkS kf B base ab (n + 1) := by
  intro l u xs w v ks hn hxs hr hg hks
  have HXS := Lib.hid hxs
  obtain ⟨a, c, rfl, hc, hcm, -, hrr⟩ := hr
  have HRR := Lib.hid hrr
  have HG := Lib.hid hg
  have IHE := Lib.hid ihE
  have IHS := Lib.hid ihS
  have HN := Lib.hid hn
  clear hxs hrr hg ihE ihS hn
  go_enter Try.func14, Try.ntmps14
  go_wp2_with fail
  go_loopg [5, 7, 9, 12] l.length (fun gg _ _ _ s12 wr => ∃ (i : Nat) (v' : Value), s12 = .int .i64 i ∧ i ≤ l.length ∧ l.length - i ≤ gg ∧ Gath wr base ab v' (ks ++ seenS (l.take i)) ∧ Carry ab v w v' wr)
  case atStart => exact ⟨0, v, rfl, Nat.zero_le _, by omega, by simpa [seenS] using HG.out, Carry.refl _ _ _⟩
  case round =>
    obtain ⟨i, v1, rfl, hi, hgg, hg1, hc1⟩ := hrel
    by_cases hlt : i < l.length
    · obtain ⟨x, hx⟩ : ∃ x, l[i]? = some x := ⟨l[i], List.getElem?_eq_getElem hlt⟩
      obtain ⟨g, o, rfl, hgb, hgw, hcell⟩ := HRR.out (by omega)
      obtain ⟨cs, hat, f⟩ := StsAt.cells (HXS.out.carry hc1 HG.out hB hab) hx (fun i x hx => hc1.step.cell (hcell i x hx) (Carry.old HG.out hB hab g hgb))
      have HTK := Lib.hid (seenS_take l i x hx)
      have HLE := Lib.hid (seenS_le l (i + 1))
      have hszx := List.sizeOf_lt_of_mem (List.mem_of_getElem? hx)
      obtain ⟨k1, name1, ty1, place, e, body, els, other, l1, c1⟩ := x
      have hnn := HN.out
      simp at hszx
      have HSP : Hid (SizeOf.sizeOf place < n) := by show _ < _; omega
      have HSE : Hid (SizeOf.sizeOf e < n) := by show _ < _; omega
      have HSB : Hid (SizeOf.sizeOf body < n) := by show _ < _; omega
      have HSL : Hid (SizeOf.sizeOf els < n) := by show _ < _; omega
      have hks2 := HLE.out
      rw [HTK.out] at hks2
      rw [seenT] at hks2
      simp only [List.length_append] at hks2
      rw [StAt] at hat
      obtain ⟨ct, vp, ve, vb, vl, xp, xe, xb, xl, rfl, hs1, hty, hp, hrp, he, hre, hb, hrb, hl, hrl⟩ := hat
      obtain ⟨k2, name2, life2, m2, lifes2, args2, l2, c2⟩ := ty1
      rw [TyAt] at hty
      obtain ⟨vl2, va2, xs2, rfl, -, -, -, ⟨a4, c4, rfl, -⟩, -, ⟨a5, c5, rfl, -⟩⟩ := hty
      have f0 := f 0 _ rfl
      have f1 := f 1 _ rfl
      have f2 := f 2 _ rfl
      have f3 := f 3 _ rfl
      have f4 := f 4 _ rfl
      have f5 := f 5 _ rfl
      have f6 := f 6 _ rfl
      have f7 := f 7 _ rfl
      have f8 := f 8 _ rfl
      have f9 := f 9 _ rfl
      have f10 := f 10 _ rfl
      have f11 := f 11 _ rfl
      have f12 := f 12 _ rfl
      have f13 := f 13 _ rfl
      have f14 := f 14 _ rfl
      have f15 := f 15 _ rfl
      have f16 := f 16 _ rfl
      rw [Nat.add_zero] at f0
      have HP := Lib.hid hp
      have HE := Lib.hid he
      have HB := Lib.hid hb
      have HRB := Lib.hid hrb
      have HL := Lib.hid hl
      have HRL := Lib.hid hrl
      obtain ⟨ap, cp, rfl, hcp, hcmp, -, hrP⟩ := hrp
      obtain ⟨ae, ce, rfl, hce, hcme, -, hrE⟩ := hre
      obtain ⟨ab', cb, rfl, hcb, hcmb, -, -⟩ := hrb
      obtain ⟨al, cl, rfl, hcl, hcml, -, -⟩ := hrl
      have HRP := Lib.hid hrP
      have HRE := Lib.hid hrE
      have HG1 := Lib.hid hg1
      have HC1 := Lib.hid hc1
      have HLB : Hid (¬ Turns ab v1 wr.heap.size) := by
        show ¬ _
        rintro (h | h)
        · have := blk_lt HG1.out.cell; omega
        · have := (HG1.out.lt _ h).2; omega
      clear f hcell hx hg1 hc1 hp he hb hl hrP hrE hszx hnn
      obtain ⟨w1, hw1⟩ : ∃ w1 : World, w1 = wr.alloc (.cells #[.int .i64 k1, .string name1, .int .i64 k2, .string name2, .string life2, .bool m2, .slice a4 lifes2.length c4, .slice a5 args2.length c5, .int .i64 l2, .int .i64 c2, .slice ap place.length cp, .slice ae e.length ce, .slice ab' body.length cb, .slice al els.length cl, .bool other, .int .i64 l1, .int .i64 c1] 74) := ⟨_, rfl⟩
      have ST1 : Step (fun _ => False) wr w1 := by rw [hw1]; exact (Step.refl _ _).alloc _
      have HW1 := Lib.hid hw1
      have HBLK : Hid (w1.heap[wr.heap.size]? = some (.cells #[.int .i64 k1, .string name1, .int .i64 k2, .string name2, .string life2, .bool m2, .slice a4 lifes2.length c4, .slice a5 args2.length c5, .int .i64 l2, .int .i64 c2, .slice ap place.length cp, .slice ae e.length ce, .slice ab' body.length cb, .slice al els.length cl, .bool other, .int .i64 l1, .int .i64 c1] 74 (0, 0))) := by show _ = _; rw [hw1]; exact blk_new _ _
      clear hw1
      have HG2 := Lib.hid (HG1.out.step ST1)
      have HP2 := Lib.hid (ExsAt.step ST1 (fun _ _ h => h) _ _ HP.out)
      have HE2 := Lib.hid (ExsAt.step ST1 (fun _ _ h => h) _ _ HE.out)
      have HB2 := Lib.hid (StsAt.step ST1 (fun _ _ h => h) _ _ HB.out)
      have HL2 := Lib.hid (StsAt.step ST1 (fun _ _ h => h) _ _ HL.out)
      have HRB2 := Lib.hid (HRB.out.step ST1 (fun _ _ h => h))
      have HRL2 := Lib.hid (HRL.out.step ST1 (fun _ _ h => h))
      obtain ⟨go, hgo⟩ : ∃ go : Nat, go = gk := ⟨_, rfl⟩
      obtain ⟨wo, hwo⟩ : ∃ wo : World, wo = wr := ⟨_, rfl⟩
      go_wp2_with fail
      rw [← HW1.out]
      subst hwo
      go_loopg [7, 19] place.length (fun gg _ s wr => ∃ (j : Nat) (v' : Value), s = .int .i64 j ∧ j ≤ place.length ∧ place.length - j ≤ gg ∧ Gath wr base ab v' ((ks ++ seenS (l.take i)) ++ seenEs (place.take j)) ∧ Carry ab v1 w1 v' wr)
      case atStart => exact ⟨0, v1, rfl, Nat.zero_le _, by omega, by simpa [seenEs] using And.intro HG2.out (Carry.refl ab v1 w1)⟩
      case round =>
        obtain ⟨j, v2, rfl, hj, hggj, hg2, hc2⟩ := hrel
        by_cases hltj : j < place.length
        · obtain ⟨y, hy⟩ : ∃ y, place[j]? = some y := ⟨place[j], List.getElem?_eq_getElem hltj⟩
          obtain ⟨g2, o2, rfl, hgb2, hgw2, hcell2⟩ := HRP.out (by omega)
          obtain ⟨cs, hat, f⟩ := ExsAt.cells (HP2.out.carry hc2 HG2.out hB hab) hy (fun i x hx => hc2.step.cell (ST1.cell (hcell2 i x hx) (fun h => h)) (Carry.old HG2.out hB hab g2 hgb2))
          have HYM : Hid (SizeOf.sizeOf y < n) := by
            have h1 := List.sizeOf_lt_of_mem (List.mem_of_getElem? hy)
            have h2 := HSP.out
            show _ < _
            omega
          have HTJ := Lib.hid (seenEs_take place j y hy)
          have HLJ := Lib.hid (seenEs_le place (j + 1))
          have HAT := Lib.hid hat
          obtain ⟨k3, name3, v3, m3, args3, names3, body3, l3, c3⟩ := y
          rw [ExAt] at hat
          obtain ⟨va3, vn3, vb3, xa3, xb3, rfl, -, -, -, ⟨a5', c5', rfl, -⟩, ⟨a6', c6', rfl, -⟩, -, ⟨a7', c7', rfl, -⟩⟩ := hat
          have f0 := f 0 _ rfl
          have f1 := f 1 _ rfl
          have f2 := f 2 _ rfl
          have f3 := f 3 _ rfl
          have f4 := f 4 _ rfl
          have f5 := f 5 _ rfl
          have f6 := f 6 _ rfl
          have f7 := f 7 _ rfl
          have f8 := f 8 _ rfl
          rw [Nat.add_zero] at f0
          have HGJ := Lib.hid hg2
          have HCJ := Lib.hid hc2
          clear f hcell2 hy hg2 hc2
          go_wp2_with fail
          have st2 : Step (fun _ => False) wr (wr.alloc (.cells #[.int .i64 k3, .string name3, .int .u64 v3, .bool m3, .slice a5' args3.length c5', .slice a6' names3.length c6', .slice a7' body3.length c7', .int .i64 l3, .int .i64 c3] 29)) := (Step.refl _ _).alloc _
          have hln := HLJ.out
          rw [HTJ.out, List.length_append] at hln
          refine (IHE.out _ _ _ v2 _ HYM.out (ExAt.step st2 (fun _ _ h => h) _ _ HAT.out) (HGJ.out.step st2) (by simp only [List.length_append]; omega)).mono ?_
          rintro e w3 ⟨rfl, v4, hg3, hc3⟩
          have HG3 := Lib.hid hg3
          have HC3 : Hid (Carry ab v2 wr v4 w3) := Carry.pre (st2.mono (fun _ _ h => h.elim)) hc3
          clear hg3 hc3
          go_wp2
          go_roundg (gk - 1)
          case rel =>
            refine ⟨j + 1, v4, by go_num, by omega, by omega, ?_, HCJ.out.trans HC3.out⟩
            rw [HTJ.out, ← List.append_assoc]; exact HG3.out
          case measure => omega
        · have htk : place.take j = place := List.take_of_length_le (by omega)
          rw [htk] at hg2
          have HGP' := Lib.hid hg2
          have HCP' := Lib.hid hc2
          have hblkP := hc2.step.keep HBLK.out HLB.out
          clear hg2 hc2 htk
          have c11 : wr.cell? ⟨wo.heap.size, 11, none⟩ = some (.slice ae e.length ce) := blk_cell hblkP 11 _ rfl
          clear hblkP
          go_wp2_with fail
          clear c11
          go_loopg [9, 30] e.length (fun gg _ s wr => ∃ (j : Nat) (v' : Value), s = .int .i64 j ∧ j ≤ e.length ∧ e.length - j ≤ gg ∧ Gath wr base ab v' ((ks ++ seenS (l.take i) ++ seenEs place) ++ seenEs (e.take j)) ∧ Carry ab v1 w1 v' wr)
          case atStart => exact ⟨0, v2, rfl, Nat.zero_le _, by omega, by simpa [seenEs] using And.intro HGP'.out HCP'.out⟩
          case round =>
            obtain ⟨j, v2, rfl, hj, hggj, hg2, hc2⟩ := hrel
            by_cases hltj : j < e.length
            · obtain ⟨y, hy⟩ : ∃ y, e[j]? = some y := ⟨e[j], List.getElem?_eq_getElem hltj⟩
              obtain ⟨g2, o2, rfl, hgb2, hgw2, hcell2⟩ := HRE.out (by omega)
              obtain ⟨cs, hat, f⟩ := ExsAt.cells (HE2.out.carry hc2 HG2.out hB hab) hy (fun i x hx => hc2.step.cell (ST1.cell (hcell2 i x hx) (fun h => h)) (Carry.old HG2.out hB hab g2 hgb2))
              have HYM : Hid (SizeOf.sizeOf y < n) := by
                have h1 := List.sizeOf_lt_of_mem (List.mem_of_getElem? hy)
                have h2 := HSE.out
                show _ < _
                omega
              have HTJ := Lib.hid (seenEs_take e j y hy)
              have HLJ := Lib.hid (seenEs_le e (j + 1))
              have HAT := Lib.hid hat
              obtain ⟨k3, name3, v3, m3, args3, names3, body3, l3, c3⟩ := y
              rw [ExAt] at hat
              obtain ⟨va3, vn3, vb3, xa3, xb3, rfl, -, -, -, ⟨a5', c5', rfl, -⟩, ⟨a6', c6', rfl, -⟩, -, ⟨a7', c7', rfl, -⟩⟩ := hat
              have f0 := f 0 _ rfl
              have f1 := f 1 _ rfl
              have f2 := f 2 _ rfl
              have f3 := f 3 _ rfl
              have f4 := f 4 _ rfl
              have f5 := f 5 _ rfl
              have f6 := f 6 _ rfl
              have f7 := f 7 _ rfl
              have f8 := f 8 _ rfl
              rw [Nat.add_zero] at f0
              have HGJ := Lib.hid hg2
              have HCJ := Lib.hid hc2
              clear f hcell2 hy hg2 hc2
              go_wp2_with fail
              have st2 : Step (fun _ => False) wr (wr.alloc (.cells #[.int .i64 k3, .string name3, .int .u64 v3, .bool m3, .slice a5' args3.length c5', .slice a6' names3.length c6', .slice a7' body3.length c7', .int .i64 l3, .int .i64 c3] 29)) := (Step.refl _ _).alloc _
              have hln := HLJ.out
              rw [HTJ.out, List.length_append] at hln
              refine (IHE.out _ _ _ v2 _ HYM.out (ExAt.step st2 (fun _ _ h => h) _ _ HAT.out) (HGJ.out.step st2) (by simp only [List.length_append]; omega)).mono ?_
              rintro e w3 ⟨rfl, v4, hg3, hc3⟩
              have HG3 := Lib.hid hg3
              have HC3 : Hid (Carry ab v2 wr v4 w3) := Carry.pre (st2.mono (fun _ _ h => h.elim)) hc3
              clear hg3 hc3
              go_wp2
              go_roundg (gk - 1)
              case rel =>
                refine ⟨j + 1, v4, by go_num, by omega, by omega, ?_, HCJ.out.trans HC3.out⟩
                rw [HTJ.out, ← List.append_assoc]; exact HG3.out
              case measure => omega
            · have htk : e.take j = e := List.take_of_length_le (by omega)
              rw [htk] at hg2
              have HGE' := Lib.hid hg2
              have HCE' := Lib.hid hc2
              have hblkE := hc2.step.keep HBLK.out HLB.out
              clear hg2 hc2 htk
              have c12 : wr.cell? ⟨wo.heap.size, 12, none⟩ = some (.slice ab' body.length cb) := blk_cell hblkE 12 _ rfl
              clear hblkE
              go_wp2_with fail
              refine (IHS.out body _ xb wr v2 _ HSB.out (HB2.out.carry HCE'.out HG2.out hB hab) (HRB2.out.carry HCE'.out HG2.out hB hab) HGE'.out (by simp only [List.length_append]; omega)).mono ?_
              rintro e w3 ⟨rfl, v4, hg3, hc3⟩
              have HG3 := Lib.hid hg3
              have HC3 := Lib.hid (HCE'.out.trans hc3)
              have hblk3 := HC3.out.step.keep HBLK.out HLB.out
              have c13 : w3.cell? ⟨wo.heap.size, 13, none⟩ = some (.slice al els.length cl) := blk_cell hblk3 13 _ rfl
              clear hg3 hc3 hblk3 c12
              go_wp2_with fail
              refine (IHS.out els _ xl w3 v4 _ HSL.out (HL2.out.carry HC3.out HG2.out hB hab) (HRL2.out.carry HC3.out HG2.out hB hab) HG3.out (by simp only [List.length_append]; omega)).mono ?_
              rintro e w4 ⟨rfl, v5, hg4, hc4⟩
              have HG4 := Lib.hid hg4
              have HC4 := Lib.hid (HC3.out.trans hc4)
              clear hg4 hc4 c13
              go_wp2
              go_roundg (go - 1)
              case rel =>
                refine ⟨i + 1, v5, by go_num, by omega, by omega, ?_, HC1.out.trans (Carry.pre (ST1.mono (fun _ _ h => h.elim)) HC4.out)⟩
                rw [HTK.out, seenT, ← List.append_assoc, ← List.append_assoc, ← List.append_assoc, ← List.append_assoc]
                exact HG4.out
              case measure => omega
    · have htk : l.take i = l := List.take_of_length_le (by omega)
      rw [htk] at hg1
      go_wp2
      go_end0
      exact ⟨rfl, v1, hg1, hc1⟩

theorem walk_both (kf B base ab : Nat) (hen : Enters' kf) (hsee : Sees kf B base ab) (hB : B ≤ ab) (hab : ab < base) : ∀ n, WalkE kf B base ab n ∧ WalkS kf B base ab n := by
  intro n
  induction n with
  | zero => exact ⟨fun _ _ _ _ _ h => absurd h (Nat.not_lt_zero _), fun _ _ _ _ _ _ h => absurd h (Nat.not_lt_zero _)⟩
  | succ n ih => exact ⟨walkE_succ kf B base ab n hen hsee hB hab ih.1 ih.2, walkS_succ kf B base ab n hB hab ih.1 ih.2⟩

end Go.Proofs.Ytfjkkfdpeckccaa
