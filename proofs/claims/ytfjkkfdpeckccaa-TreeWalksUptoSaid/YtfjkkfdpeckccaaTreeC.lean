/- Contracts: whether an expression is small: some answer, and nothing turned. -/
import Derived.Test.YtfjkkfdpeckccaaTreeB
namespace Go.Proofs.Ytfjkkfdpeckccaa
open Go.RowKit

def SmallE (B d : Nat) : Prop := ∀ (e : Ex) (cs : List Value) (w : World), ExAt w B e cs → Calls Try.prog 10 #[.agg cs.toArray, .int .i64 d] w (SomeBool w)
def SmallS (B d : Nat) : Prop := ∀ (l : List St) (v : Value) (xs : List Value) (w : World), StsAt w B l xs → Row w B v l.length xs → Calls Try.prog 11 #[v, .int .i64 d] w (SomeBool w)

set_option maxRecDepth 100000 in
set_option maxHeartbeats 1000000 in
theorem small_zero (B : Nat) : SmallE B 0 := by
  intro e cs w h
  obtain ⟨k, name, v, m, args, names, body, l, c⟩ := e
  rw [ExAt] at h
  obtain ⟨va, vn, vb, xa, xb, rfl, hs1, hs2, ha, hra, hrn, hb, hrb⟩ := h
  clear ha hra hrn hb hrb hs2
  go_enter Try.func10, Try.ntmps10
  go_wp2
  go_ret
  exact ⟨⟨_, rfl⟩, (Step.refl _ _).alloc _⟩

set_option maxRecDepth 100000 in
set_option maxHeartbeats 1000000 in
theorem small_succ (B d : Nat) (hd : d ≤ 100) (ihE : SmallE B d) (ihS : SmallS B d) : SmallE B (d + 1) := by
  intro e cs w h
  obtain ⟨k, name, v, m, args, names, body, l, c⟩ := e
  rw [ExAt] at h
  obtain ⟨va, vn, vb, xa, xb, rfl, hs1, hs2, ha, hra, hrn, hb, hrb⟩ := h
  have st1 : Step (fun _ => False) w (w.alloc (.cells #[.int .i64 k, .string name, .int .u64 v, .bool m, va, vn, vb, .int .i64 l, .int .i64 c] 29)) := (Step.refl _ _).alloc _
  obtain ⟨aa, ca, rfl, hca, hcma, _, hrA⟩ := hra.step st1 (fun _ _ h => h)
  obtain ⟨an, cn, rfl, hcn, hcmn, _, hrN⟩ := hrn.step st1 (fun _ _ h => h)
  obtain ⟨ab, cb, hvb, hcb, hcmb, _, hrB⟩ := hrb.step st1 (fun _ _ h => h)
  subst hvb
  have HRB := Lib.hid (hrb.step st1 (fun _ _ h => h))
  have HA := Lib.hid (ExsAt.step st1 (fun _ _ h => h) args xa ha)
  have HB := Lib.hid (StsAt.step st1 (fun _ _ h => h) body xb hb)
  have HRA := Lib.hid hrA
  have HRN := Lib.hid hrN
  have H2 := Lib.hid hs2
  have IHE := Lib.hid ihE
  have IHS := Lib.hid ihS
  clear ha hra hrn hb hrb hs2 hrA hrN hrB ihE ihS
  have d0 : (((d + 1 : Nat) : Int) == 0) = false := by rw [beq_eq_false_iff_ne]; omega
  cases e1 : decide ((10 : Int) < args.length)
  case true =>
    go_enter Try.func10, Try.ntmps10
    go_wp2
    go_ret
    exact ⟨⟨_, rfl⟩, st1⟩
  cases e2 : decide ((14 : Int) < names.length)
  case true =>
    go_enter Try.func10, Try.ntmps10
    go_wp2
    go_ret
    exact ⟨⟨_, rfl⟩, st1⟩
  cases e3 : decide ((100 : Int) < name.size)
  case true =>
    go_enter Try.func10, Try.ntmps10
    go_wp2
    go_ret
    exact ⟨⟨_, rfl⟩, st1⟩
  have hn1 : args.length ≤ 10 := by have := of_decide_eq_false e1; omega
  have hn2 : names.length ≤ 14 := by have := of_decide_eq_false e2; omega
  go_enter Try.func10, Try.ntmps10
  go_wp2_with fail
  go_loopg [5] args.length (fun gg s6 wr => ∃ i : Nat, s6 = .int .i64 i ∧ i ≤ args.length ∧ args.length - i ≤ gg ∧
    Step (fun _ => False) (w.alloc (.cells #[.int .i64 k, .string name, .int .u64 v, .bool m, .slice aa args.length ca, .slice an names.length cn, .slice ab body.length cb, .int .i64 l, .int .i64 c] 29)) wr)
  case atStart => exact ⟨0, rfl, Nat.zero_le _, by omega, Step.refl _ _⟩
  case round =>
    obtain ⟨i, rfl, hi, hgg, hst⟩ := hrel
    have hblk := hst.keep (blk_new w _) (fun h => h)
    have c4 : wr.cell? ⟨w.heap.size, 4, none⟩ = some (.slice aa args.length ca) := blk_cell hblk 4 _ rfl
    have c5 : wr.cell? ⟨w.heap.size, 5, none⟩ = some (.slice an names.length cn) := blk_cell hblk 5 _ rfl
    have c6 : wr.cell? ⟨w.heap.size, 6, none⟩ = some (.slice ab body.length cb) := blk_cell hblk 6 _ rfl
    clear hblk
    by_cases hlt : i < args.length
    · obtain ⟨x, hx⟩ : ∃ x, args[i]? = some x := ⟨args[i], List.getElem?_eq_getElem hlt⟩
      obtain ⟨g, o, rfl, hg, hgw, hcell⟩ := HRA.out (by omega)
      obtain ⟨cs, hat, f⟩ := ExsAt.cells (ExsAt.step hst (fun _ _ h => h) args xa HA.out) hx (fun i x hx => hst.cell (hcell i x hx) (fun h => h))
      obtain ⟨k1, name1, v1, m1, args1, names1, body1, l1, c1⟩ := x
      have hat0 := hat
      rw [ExAt] at hat
      obtain ⟨va1, vn1, vb1, xa1, xb1, rfl, _⟩ := hat
      have HAT := Lib.hid hat0
      clear hat0 hx
      have f0 := f 0 _ rfl
      have f1 := f 1 _ rfl
      have f2 := f 2 _ rfl
      have f3 := f 3 _ rfl
      have f4 := f 4 _ rfl
      have f5 := f 5 _ rfl
      have f6 := f 6 _ rfl
      have f7 := f 7 _ rfl
      have f8 := f 8 _ rfl
      rw [Nat.add_zero] at f0
      clear f hcell
      go_wp2_with fail
      refine (IHE.out _ _ wr HAT.out).mono ?_
      rintro e w1 ⟨⟨b, rfl⟩, h1⟩
      cases b
      · go_wp2
        go_ret
        exact ⟨⟨_, rfl⟩, st1.trans (hst.trans h1)⟩
      · go_wp2
        go_roundg (gk - 1)
        case rel => exact ⟨i + 1, by go_num, by omega, by omega, hst.trans h1⟩
        case measure => omega
    · go_wp2_with fail
      obtain ⟨wo, rfl⟩ : ∃ wo : World, wo = wr := ⟨_, rfl⟩
      go_loopg [6] names.length (fun gg s5 wr => ∃ i : Nat, s5 = .int .i64 i ∧ i ≤ names.length ∧ names.length - i ≤ gg ∧ wr = wo)
      case atStart => exact ⟨0, rfl, Nat.zero_le _, by omega, rfl⟩
      case round =>
        obtain ⟨i, rfl, hi, hgg, rfl⟩ := hrel
        by_cases hlt : i < names.length
        · obtain ⟨x, hx⟩ : ∃ x, names[i]? = some x := ⟨names[i], List.getElem?_eq_getElem hlt⟩
          obtain ⟨g, o, rfl, hg, hgw, hcell⟩ := HRN.out (by omega)
          have hc := hst.cell (hcell i (.string x) (by simp [hx])) (fun h => h)
          have hxs := H2.out x (List.mem_of_getElem? hx)
          clear hx hcell
          cases e5 : decide ((100 : Int) < x.size)
          case true =>
            go_wp2
            go_ret
            exact ⟨⟨_, rfl⟩, st1.trans hst⟩
          go_wp2
          go_roundg (gk - 1)
          case rel => exact ⟨i + 1, by go_num, by omega, by omega, rfl⟩
          case measure => omega
        · go_wp2_with fail
          refine (IHS.out _ _ _ _ (StsAt.step hst (fun _ _ h => h) body xb HB.out) (HRB.out.step hst (fun _ _ h => h))).mono ?_
          rintro e w1 ⟨⟨b, rfl⟩, h1⟩
          go_wp2
          go_ret
          exact ⟨⟨_, rfl⟩, st1.trans (hst.trans h1)⟩

end Go.Proofs.Ytfjkkfdpeckccaa
