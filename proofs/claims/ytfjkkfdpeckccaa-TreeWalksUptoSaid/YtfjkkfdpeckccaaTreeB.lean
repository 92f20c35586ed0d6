/- Contracts: whether a type, an expression, statements are small: some answer, and nothing turned. -/
import Derived.Test.YtfjkkfdpeckccaaTreeA
namespace Go.Proofs.Ytfjkkfdpeckccaa
open Go.RowKit

theorem dec_lt {a b : Int} (h : a < b) : decide (a < b) = true := decide_eq_true h
theorem dec_ge {a b : Int} (h : b ≤ a) : decide (a < b) = false := decide_eq_false (by omega)

/- Some bool, and nothing old turned. -/
def SomeBool (w : World) (e : Ending) (w' : World) : Prop := (∃ b, e = .returned (.bool b)) ∧ Step (fun _ => False) w w'

set_option maxRecDepth 100000 in
set_option maxHeartbeats 1000000 in
theorem smallType_any (B : Nat) : ∀ (deep : Nat) (t : Ty) (cs : List Value) (w : World), TyAt w B t cs → deep ≤ 100 →
    Calls Try.prog 40 #[.agg cs.toArray, .int .i64 deep] w (SomeBool w) := by
  intro deep
  induction deep with
  | zero =>
    intro t cs w h _
    obtain ⟨k, name, life, m, lifes, args, l, c⟩ := t
    rw [TyAt] at h
    obtain ⟨vl, va, xs, rfl, hs1, hs2, hs3, hl, hxs, ha⟩ := h
    clear hl hxs ha hs3
    go_enter Try.func40, Try.ntmps40
    go_wp2
    go_ret
    exact ⟨⟨_, rfl⟩, (Step.refl _ _).alloc _⟩
  | succ deep ih =>
    intro t cs w h hd
    obtain ⟨k, name, life, m, lifes, args, l, c⟩ := t
    rw [TyAt] at h
    obtain ⟨vl, va, xs, rfl, hs1, hs2, hs3, hl, hxs, ha⟩ := h
    have st1 : Step (fun _ => False) w (w.alloc (.cells #[.int .i64 k, .string name, .string life, .bool m, vl, va, .int .i64 l, .int .i64 c] 71)) := (Step.refl _ _).alloc _
    have hl1 := hl.step st1 (fun _ _ h => h)
    have ha1 := ha.step st1 (fun _ _ h => h)
    have HXS := Lib.hid (TysAt.step st1 (fun _ _ h => h) args xs hxs)
    have IH := Lib.hid ih
    have H3 := Lib.hid hs3
    clear hl ha hxs ih hs3
    obtain ⟨al, cl, rfl, hcl, hcm, _, hrl⟩ := hl1
    obtain ⟨aa, ca, rfl, hca, hcma, _, hra⟩ := ha1
    have HRL := Lib.hid hrl
    have HRA := Lib.hid hra
    clear hrl hra
    have d0 : (((deep + 1 : Nat) : Int) == 0) = false := by rw [beq_eq_false_iff_ne]; omega
    cases e1 : decide ((8 : Int) < args.length)
    case true =>
      go_enter Try.func40, Try.ntmps40
      go_wp2
      go_ret
      exact ⟨⟨_, rfl⟩, st1⟩
    cases e2 : decide ((8 : Int) < lifes.length)
    case true =>
      go_enter Try.func40, Try.ntmps40
      go_wp2
      go_ret
      exact ⟨⟨_, rfl⟩, st1⟩
    cases e3 : decide ((100 : Int) < name.size)
    case true =>
      go_enter Try.func40, Try.ntmps40
      go_wp2
      go_ret
      exact ⟨⟨_, rfl⟩, st1⟩
    cases e4 : decide ((100 : Int) < life.size)
    case true =>
      go_enter Try.func40, Try.ntmps40
      go_wp2
      go_ret
      exact ⟨⟨_, rfl⟩, st1⟩
    have hn1 : args.length ≤ 8 := by have := of_decide_eq_false e1; omega
    have hn2 : lifes.length ≤ 8 := by have := of_decide_eq_false e2; omega
    go_enter Try.func40, Try.ntmps40
    go_wp2_with fail
    go_loopg [5] lifes.length (fun gg s5 wr => ∃ i : Nat, s5 = .int .i64 i ∧ i ≤ lifes.length ∧ lifes.length - i ≤ gg ∧ wr = w.alloc (.cells #[.int .i64 k, .string name, .string life, .bool m, .slice al lifes.length cl, .slice aa args.length ca, .int .i64 l, .int .i64 c] 71))
    case atStart => exact ⟨0, rfl, Nat.zero_le _, by omega, rfl⟩
    case round =>
      obtain ⟨i, rfl, hi, hgg, rfl⟩ := hrel
      by_cases hlt : i < lifes.length
      · obtain ⟨x, hx⟩ : ∃ x, lifes[i]? = some x := ⟨lifes[i], List.getElem?_eq_getElem hlt⟩
        obtain ⟨g, o, rfl, hg, hgw, hcell⟩ := HRL.out (by omega)
        have hc := hcell i (.string x) (by simp [hx])
        have hxs := H3.out x (List.mem_of_getElem? hx)
        clear hx hcell
        cases e5 : decide ((100 : Int) < x.size)
        case true =>
          go_wp2
          go_ret
          exact ⟨⟨_, rfl⟩, st1⟩
        go_wp2
        go_roundg (gk - 1)
        case rel => exact ⟨i + 1, by go_num, by omega, by omega, rfl⟩
        case measure => omega
      · go_wp2_with fail
        go_loopg [6] args.length (fun gg s6 wr => ∃ i : Nat, s6 = .int .i64 i ∧ i ≤ args.length ∧ args.length - i ≤ gg ∧
          Step (fun _ => False) (w.alloc (.cells #[.int .i64 k, .string name, .string life, .bool m, .slice al lifes.length cl, .slice aa args.length ca, .int .i64 l, .int .i64 c] 71)) wr)
        case atStart => exact ⟨0, rfl, Nat.zero_le _, by omega, Step.refl _ _⟩
        case round =>
          obtain ⟨i, rfl, hi, hgg, hst⟩ := hrel
          have hblk := hst.keep (blk_new w _) (fun h => h)
          have c5 : wr.cell? ⟨w.heap.size, 5, none⟩ = some (.slice aa args.length ca) := blk_cell hblk 5 _ rfl
          clear hblk
          by_cases hlt : i < args.length
          · obtain ⟨x, hx⟩ : ∃ x, args[i]? = some x := ⟨args[i], List.getElem?_eq_getElem hlt⟩
            obtain ⟨g, o, rfl, hg, hgw, hcell⟩ := HRA.out (by omega)
            obtain ⟨cs, hat, f⟩ := TysAt.cells (TysAt.step hst (fun _ _ h => h) args xs HXS.out) hx (fun i x hx => hst.cell (hcell i x hx) (fun h => h))
            obtain ⟨k1, name1, life1, m1, lifes1, args1, l1, c1⟩ := x
            have hat0 := hat
            rw [TyAt] at hat
            obtain ⟨vl1, va1, xs1, rfl, _⟩ := hat
            have HAT := Lib.hid hat0
            clear hat0 hx
            have f0 := f 0 _ rfl
            have f1 := f 1 _ rfl
            have f2 := f 2 _ rfl
            have f3 := f 3 _ rfl
            have f4 := f 4 _ rfl
            have f5 := f 5 _ rfl
            have f6 := f 6 _ rfl
            have f7 := f 7 _ rfl
            rw [Nat.add_zero] at f0
            clear f hcell
            go_wp2_with fail
            refine (IH.out _ _ wr HAT.out (by omega)).mono ?_
            rintro e w1 ⟨⟨b, rfl⟩, h1⟩
            cases b
            · go_wp2
              go_ret
              exact ⟨⟨_, rfl⟩, st1.trans (hst.trans h1)⟩
            · go_wp2
              go_roundg (gk - 1)
              case rel => exact ⟨i + 1, by go_num, by omega, by omega, hst.trans h1⟩
              case measure => omega
          · go_wp2
            go_ret
            exact ⟨⟨_, rfl⟩, st1.trans hst⟩

end Go.Proofs.Ytfjkkfdpeckccaa
