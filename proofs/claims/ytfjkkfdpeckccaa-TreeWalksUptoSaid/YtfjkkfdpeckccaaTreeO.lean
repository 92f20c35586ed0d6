/- Contracts: Walk, WalkAll with nobody to see: nothing turns. -/
import Derived.Test.YtfjkkfdpeckccaaTreeF
namespace Go.Proofs.Ytfjkkfdpeckccaa
open Go.RowKit

def Quiet (w : World) (e : Ending) (w' : World) : Prop := e = .returned (.tuple #[]) ∧ Step (fun _ => False) w w'

set_option maxRecDepth 100000 in
set_option maxHeartbeats 1000000 in
theorem walkE_nil (B : Nat) (e : Ex) (cs : List Value) (w : World) (h : ExAt w B e cs) : Calls Try.prog 12 #[.agg cs.toArray, .nilFunc] w (Quiet w) := by
  obtain ⟨k, name, val, m, args, names, body, l, c⟩ := e
  rw [ExAt] at h
  obtain ⟨va, vn, vb, xa, xb, rfl, -⟩ := h
  have hmf : ∀ W : World, (binOp .eql 35 .nilFunc .nilFunc).run Try.prog W = .ok (.bool true) W := fun _ => by kernel_rfl
  go_enter Try.func12, Try.ntmps12
  go_wp2
  refine bodyPost_ret (results_none rfl _ _ _) rfl ?_
  exact ⟨rfl, (Step.refl _ _).alloc _⟩

def WalkN (B n : Nat) : Prop := ∀ (l : List St) (u : Value) (xs : List Value) (w : World), SizeOf.sizeOf l < n → StsAt w B l xs → Row w B u l.length xs →
  Calls Try.prog 14 #[u, .nilFunc] w (Quiet w)

set_option maxRecDepth 100000 in
set_option maxHeartbeats 4000000 in
theorem walkN_succ (B n : Nat) (ihS : WalkN B n) : WalkN B (n + 1) := by
  intro l u xs w hn hxs hr
  have HXS := Lib.hid hxs
  obtain ⟨a, c, rfl, hc, hcm, -, hrr⟩ := hr
  have HRR := Lib.hid hrr
  have IHS := Lib.hid ihS
  have HN := Lib.hid hn
  clear hxs hrr ihS hn
  go_enter Try.func14, Try.ntmps14
  go_wp2_with fail
  go_loopg [5, 7, 9, 12] l.length (fun gg _ _ _ s12 wr => ∃ (i : Nat), s12 = .int .i64 i ∧ i ≤ l.length ∧ l.length - i ≤ gg ∧ Step (fun _ => False) w wr)
  case atStart => exact ⟨0, rfl, Nat.zero_le _, by omega, Step.refl _ _⟩
  case round =>
    obtain ⟨i, rfl, hi, hgg, hst⟩ := hrel
    by_cases hlt : i < l.length
    · obtain ⟨x, hx⟩ : ∃ x, l[i]? = some x := ⟨l[i], List.getElem?_eq_getElem hlt⟩
      obtain ⟨g, o, rfl, hgb, hgw, hcell⟩ := HRR.out (by omega)
      obtain ⟨cs, hat, f⟩ := StsAt.cells (StsAt.step hst (fun _ _ h => h) _ _ HXS.out) hx (fun i x hx => hst.cell (hcell i x hx) (fun h => h))
      have hszx := List.sizeOf_lt_of_mem (List.mem_of_getElem? hx)
      obtain ⟨k1, name1, ty1, place, e, body, els, other, l1, c1⟩ := x
      have hnn := HN.out
      simp at hszx
      have HSB : Hid (SizeOf.sizeOf body < n) := by show _ < _; omega
      have HSL : Hid (SizeOf.sizeOf els < n) := by show _ < _; omega
      rw [StAt] at hat
      obtain ⟨ct, vp, ve, vb, vl, xp, xe, xb, xl, rfl, hs1, hty, hp, hrp, he, hre, hb, hrb, hl, hrl⟩ := hat
      obtain ⟨k2, name2, life2, m2, lifes2, args2, l2, c2⟩ := ty1
      rw [TyAt] at hty
      obtain ⟨vl2, va2, xs2, rfl, -, -, -, ⟨a4, c4, rfl, -⟩, -, ⟨a5, c5, rfl, -⟩⟩ := hty
      have f0 := f 0 _ rfl
      have f1 := f 1 _ rfl
      have f2 := f 2 _ rfl
      have f3 := f 3 _ rfl
      have f4 := f 4 _ rfl
      have f5 := f 5 _ rfl
      have f6 := f 6 _ rfl
      have f7 := f 7 _ rfl
      have f8 := f 8 _ rfl
      have f9 := f 9 _ rfl
      have f10 := f 10 _ rfl
      have f11 := f 11 _ rfl
      have f12 := f 12 _ rfl
      have f13 := f 13 _ rfl
      have f14 := f 14 _ rfl
      have f15 := f 15 _ rfl
      have f16 := f 16 _ rfl
      rw [Nat.add_zero] at f0
      have HP := Lib.hid hp
      have HE := Lib.hid he
      have HB := Lib.hid hb
      have HRB := Lib.hid hrb
      have HL := Lib.hid hl
      have HRL := Lib.hid hrl
      obtain ⟨ap, cp, rfl, hcp, hcmp, -, hrP⟩ := hrp
      obtain ⟨ae, ce, rfl, hce, hcme, -, hrE⟩ := hre
      obtain ⟨ab', cb, rfl, hcb, hcmb, -, -⟩ := hrb
      obtain ⟨al, cl, rfl, hcl, hcml, -, -⟩ := hrl
      have HRP := Lib.hid hrP
      have HRE := Lib.hid hrE
      clear f hcell hx hp he hb hl hrP hrE hszx hnn
      obtain ⟨w1, hw1⟩ : ∃ w1 : World, w1 = wr.alloc (.cells #[.int .i64 k1, .string name1, .int .i64 k2, .string name2, .string life2, .bool m2, .slice a4 lifes2.length c4, .slice a5 args2.length c5, .int .i64 l2, .int .i64 c2, .slice ap place.length cp, .slice ae e.length ce, .slice ab' body.length cb, .slice al els.length cl, .bool other, .int .i64 l1, .int .i64 c1] 74) := ⟨_, rfl⟩
      have ST1 : Step (fun _ => False) wr w1 := by rw [hw1]; exact (Step.refl _ _).alloc _
      have HW1 := Lib.hid hw1
      have HBLK : Hid (w1.heap[wr.heap.size]? = some (.cells #[.int .i64 k1, .string name1, .int .i64 k2, .string name2, .string life2, .bool m2, .slice a4 lifes2.length c4, .slice a5 args2.length c5, .int .i64 l2, .int .i64 c2, .slice ap place.length cp, .slice ae e.length ce, .slice ab' body.length cb, .slice al els.length cl, .bool other, .int .i64 l1, .int .i64 c1] 74 (0, 0))) := by show _ = _; rw [hw1]; exact blk_new _ _
      clear hw1
      have HP2 := Lib.hid (ExsAt.step ST1 (fun _ _ h => h) _ _ HP.out)
      have HE2 := Lib.hid (ExsAt.step ST1 (fun _ _ h => h) _ _ HE.out)
      have HB2 := Lib.hid (StsAt.step ST1 (fun _ _ h => h) _ _ HB.out)
      have HL2 := Lib.hid (StsAt.step ST1 (fun _ _ h => h) _ _ HL.out)
      have HRB2 := Lib.hid (HRB.out.step ST1 (fun _ _ h => h))
      have HRL2 := Lib.hid (HRL.out.step ST1 (fun _ _ h => h))
      obtain ⟨go, hgo⟩ : ∃ go : Nat, go = gk := ⟨_, rfl⟩
      obtain ⟨wo, hwo⟩ : ∃ wo : World, wo = wr := ⟨_, rfl⟩
      go_wp2_with fail
      rw [← HW1.out]
      subst hwo
      go_loopg [7, 19] place.length (fun gg _ s wr => ∃ (j : Nat), s = .int .i64 j ∧ j ≤ place.length ∧ place.length - j ≤ gg ∧ Step (fun _ => False) w1 wr)
      case atStart => exact ⟨0, rfl, Nat.zero_le _, by omega, Step.refl _ _⟩
      case round =>
        obtain ⟨j, rfl, hj, hggj, hstj⟩ := hrel
        by_cases hltj : j < place.length
        · obtain ⟨y, hy⟩ : ∃ y, place[j]? = some y := ⟨place[j], List.getElem?_eq_getElem hltj⟩
          obtain ⟨g2, o2, rfl, hgb2, hgw2, hcell2⟩ := HRP.out (by omega)
          obtain ⟨cs, hat, f⟩ := ExsAt.cells (ExsAt.step hstj (fun _ _ h => h) _ _ HP2.out) hy (fun i x hx => hstj.cell (ST1.cell (hcell2 i x hx) (fun h => h)) (fun h => h))
          have HAT := Lib.hid hat
          obtain ⟨k3, name3, v3, m3, args3, names3, body3, l3, c3⟩ := y
          rw [ExAt] at hat
          obtain ⟨va3, vn3, vb3, xa3, xb3, rfl, -, -, -, ⟨a5', c5', rfl, -⟩, ⟨a6', c6', rfl, -⟩, -, ⟨a7', c7', rfl, -⟩⟩ := hat
          have f0 := f 0 _ rfl
          have f1 := f 1 _ rfl
          have f2 := f 2 _ rfl
          have f3 := f 3 _ rfl
          have f4 := f 4 _ rfl
          have f5 := f 5 _ rfl
          have f6 := f 6 _ rfl
          have f7 := f 7 _ rfl
          have f8 := f 8 _ rfl
          rw [Nat.add_zero] at f0
          clear f hcell2 hy
          go_wp2_with fail
          have st2 : Step (fun _ => False) wr (wr.alloc (.cells #[.int .i64 k3, .string name3, .int .u64 v3, .bool m3, .slice a5' args3.length c5', .slice a6' names3.length c6', .slice a7' body3.length c7', .int .i64 l3, .int .i64 c3] 29)) := (Step.refl _ _).alloc _
          refine (walkE_nil B _ _ _ (ExAt.step st2 (fun _ _ h => h) _ _ HAT.out)).mono ?_
          rintro e w3 ⟨rfl, h3⟩
          go_wp2
          go_roundg (gk - 1)
          case rel => exact ⟨j + 1, by go_num, by omega, by omega, hstj.trans (st2.trans h3)⟩
          case measure => omega
        · have hblkP := hstj.keep HBLK.out (fun h => h)
          have c11 : wr.cell? ⟨wo.heap.size, 11, none⟩ = some (.slice ae e.length ce) := blk_cell hblkP 11 _ rfl
          clear hblkP
          go_wp2_with fail
          clear c11
          go_loopg [9, 30] e.length (fun gg _ s wr => ∃ (j : Nat), s = .int .i64 j ∧ j ≤ e.length ∧ e.length - j ≤ gg ∧ Step (fun _ => False) w1 wr)
          case atStart => exact ⟨0, rfl, Nat.zero_le _, by omega, hstj⟩
          case round =>
            obtain ⟨j, rfl, hj, hggj, hstj⟩ := hrel
            by_cases hltj : j < e.length
            · obtain ⟨y, hy⟩ : ∃ y, e[j]? = some y := ⟨e[j], List.getElem?_eq_getElem hltj⟩
              obtain ⟨g2, o2, rfl, hgb2, hgw2, hcell2⟩ := HRE.out (by omega)
              obtain ⟨cs, hat, f⟩ := ExsAt.cells (ExsAt.step hstj (fun _ _ h => h) _ _ HE2.out) hy (fun i x hx => hstj.cell (ST1.cell (hcell2 i x hx) (fun h => h)) (fun h => h))
              have HAT := Lib.hid hat
              obtain ⟨k3, name3, v3, m3, args3, names3, body3, l3, c3⟩ := y
              rw [ExAt] at hat
              obtain ⟨va3, vn3, vb3, xa3, xb3, rfl, -, -, -, ⟨a5', c5', rfl, -⟩, ⟨a6', c6', rfl, -⟩, -, ⟨a7', c7', rfl, -⟩⟩ := hat
              have f0 := f 0 _ rfl
              have f1 := f 1 _ rfl
              have f2 := f 2 _ rfl
              have f3 := f 3 _ rfl
              have f4 := f 4 _ rfl
              have f5 := f 5 _ rfl
              have f6 := f 6 _ rfl
              have f7 := f 7 _ rfl
              have f8 := f 8 _ rfl
              rw [Nat.add_zero] at f0
              clear f hcell2 hy
              go_wp2_with fail
              have st2 : Step (fun _ => False) wr (wr.alloc (.cells #[.int .i64 k3, .string name3, .int .u64 v3, .bool m3, .slice a5' args3.length c5', .slice a6' names3.length c6', .slice a7' body3.length c7', .int .i64 l3, .int .i64 c3] 29)) := (Step.refl _ _).alloc _
              refine (walkE_nil B _ _ _ (ExAt.step st2 (fun _ _ h => h) _ _ HAT.out)).mono ?_
              rintro e w3 ⟨rfl, h3⟩
              go_wp2
              go_roundg (gk - 1)
              case rel => exact ⟨j + 1, by go_num, by omega, by omega, hstj.trans (st2.trans h3)⟩
              case measure => omega
            · have hblkE := hstj.keep HBLK.out (fun h => h)
              have c12 : wr.cell? ⟨wo.heap.size, 12, none⟩ = some (.slice ab' body.length cb) := blk_cell hblkE 12 _ rfl
              clear hblkE
              go_wp2_with fail
              refine (IHS.out body _ xb wr HSB.out (StsAt.step hstj (fun _ _ h => h) _ _ HB2.out) (HRB2.out.step hstj (fun _ _ h => h))).mono ?_
              rintro e w3 ⟨rfl, h3⟩
              have st3 := hstj.trans h3
              have hblk3 := st3.keep HBLK.out (fun h => h)
              have c13 : w3.cell? ⟨wo.heap.size, 13, none⟩ = some (.slice al els.length cl) := blk_cell hblk3 13 _ rfl
              clear hblk3 c12
              go_wp2_with fail
              refine (IHS.out els _ xl w3 HSL.out (StsAt.step st3 (fun _ _ h => h) _ _ HL2.out) (HRL2.out.step st3 (fun _ _ h => h))).mono ?_
              rintro e w4 ⟨rfl, h4⟩
              clear c13
              go_wp2
              go_roundg (go - 1)
              case rel => exact ⟨i + 1, by go_num, by omega, by omega, hst.trans (ST1.trans (st3.trans h4))⟩
              case measure => omega
    · go_wp2
      go_end0
      exact ⟨rfl, hst⟩

theorem walkN_all (B : Nat) : ∀ n, WalkN B n := by
  intro n
  induction n with
  | zero => exact fun _ _ _ _ h => absurd h (Nat.not_lt_zero _)
  | succ n ih => exact walkN_succ B n ih

end Go.Proofs.Ytfjkkfdpeckccaa
