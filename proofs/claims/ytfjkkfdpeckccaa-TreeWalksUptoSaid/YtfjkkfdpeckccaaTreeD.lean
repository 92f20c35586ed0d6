/- Contracts: whether statements are small: some answer, and nothing turned. -/
import Derived.Test.YtfjkkfdpeckccaaTreeC
import Derived.Deep.RegionHeld3
namespace Go.Proofs.Ytfjkkfdpeckccaa
open Go.RowKit

theorem Try.infoEx : (Try.prog.info? 29).map (fun i => (i.zero, i.size, i.bytes)) = some (some (.agg #[.int .i64 0, .string ⟨#[]⟩, .int .u64 0, .bool false, .slice none 0 0, .slice none 0 0, .slice none 0 0, .int .i64 0, .int .i64 0]), 9, 128) := by kernel_rfl

set_option maxRecDepth 100000 in
set_option maxHeartbeats 1000000 in
theorem smallAll_none (B d : Nat) (v : Value) (xs : List Value) (w : World) (hr : Row w B v 0 xs) : Calls Try.prog 11 #[v, .int .i64 d] w (SomeBool w) := by
  obtain ⟨a, c, rfl, hc, hcm, -, hrr⟩ := hr
  clear hrr
  go_enter Try.func11, Try.ntmps11
  go_wp2_with fail
  go_loopg [5] 1 (fun g s5 wr => s5 = .int .i64 0 ∧ wr = w)
  case atStart => exact ⟨rfl, rfl⟩
  case round =>
    obtain ⟨rfl, rfl⟩ := hrel
    go_wp2
    go_ret
    exact ⟨⟨_, rfl⟩, Step.refl _ _⟩

set_option maxRecDepth 100000 in
set_option maxHeartbeats 1000000 in
theorem smallAll_deep (B : Nat) (l : List St) (v : Value) (xs : List Value) (w : World) (hr : Row w B v l.length xs) (hl : 0 < l.length) : Calls Try.prog 11 #[v, .int .i64 (0 : Nat)] w (SomeBool w) := by
  obtain ⟨a, c, rfl, hc, hcm, -, hrr⟩ := hr
  clear hrr
  have d1 : decide ((0 : Int) < l.length) = true := by rw [decide_eq_true_eq]; omega
  go_enter Try.func11, Try.ntmps11
  go_wp2
  go_ret
  exact ⟨⟨_, rfl⟩, Step.refl _ _⟩

set_option maxRecDepth 100000 in
set_option maxHeartbeats 2000000 in
theorem smallAll_succ (B d : Nat) (hd : d ≤ 100) (ihE : SmallE B (d + 1)) (ihS : SmallS B d) : SmallS B (d + 1) := by
  intro l v xs w hxs hr
  rcases Nat.eq_zero_or_pos l.length with h0 | hpos
  · rw [h0] at hr
    exact smallAll_none B (d + 1) v xs w hr
  obtain ⟨i0, hi0, hz00, hz10, hz20⟩ := info_parts Try.infoEx
  have hI := Lib.hid hi0
  have hz0 := Lib.hid hz00
  have hz1 := Lib.hid hz10
  have hz2 := Lib.hid hz20
  clear hi0 hz00 hz10 hz20
  have HXS := Lib.hid hxs
  obtain ⟨a, c, rfl, hc, hcm, -, hrr⟩ := hr
  obtain ⟨g, o, rfl, hg, hgw, hcell⟩ := hrr hpos
  have HC := Lib.hid hcell
  have IHE := Lib.hid ihE
  have IHS := Lib.hid ihS
  clear hxs hrr hcell ihE ihS
  have d0 : decide ((0 : Int) < l.length) = true := by rw [decide_eq_true_eq]; omega
  have d1 : decide ((d : Int) + 1 < 1) = false := by rw [decide_eq_false_iff_not]; omega
  cases d2 : decide ((12 : Int) < l.length)
  case true =>
    go_enter Try.func11, Try.ntmps11
    go_wp2
    go_ret
    exact ⟨⟨_, rfl⟩, Step.refl _ _⟩
  have hn : l.length ≤ 12 := by have := of_decide_eq_false d2; omega
  go_enter Try.func11, Try.ntmps11
  go_wp2_with fail
  go_loopg [5, 6, 7] l.length (fun gg s6 _ _ wr => ∃ i : Nat, s6 = .int .i64 i ∧ i ≤ l.length ∧ l.length - i ≤ gg ∧ Step (fun _ => False) w wr)
  case atStart => exact ⟨0, rfl, Nat.zero_le _, by omega, Step.refl _ _⟩
  case round =>
    obtain ⟨i, rfl, hi, hgg, hst⟩ := hrel
    by_cases hlt : i < l.length
    · obtain ⟨x, hx⟩ : ∃ x, l[i]? = some x := ⟨l[i], List.getElem?_eq_getElem hlt⟩
      obtain ⟨cs, hat, f⟩ := StsAt.cells (StsAt.step hst (fun _ _ h => h) l xs HXS.out) hx (fun i x hx => hst.cell (HC.out i x hx) (fun h => h))
      obtain ⟨k1, name1, ty1, place, e, body, els, other, l1, c1⟩ := x
      rw [StAt] at hat
      obtain ⟨ct, vp, ve, vb, vl, xp, xe, xb, xl, rfl, hs1, hty, hp, hrp, he, hre, hb, hrb, hl, hrl⟩ := hat
      have HTY := Lib.hid hty
      obtain ⟨k2, name2, life2, m2, lifes2, args2, l2, c2⟩ := ty1
      rw [TyAt] at hty
      obtain ⟨vl2, va2, xs2, rfl, _⟩ := hty
      have f1 := f 1 _ rfl
      have f2 := f 2 _ rfl
      have f3 := f 3 _ rfl
      have f4 := f 4 _ rfl
      have f5 := f 5 _ rfl
      have f6 := f 6 _ rfl
      have f7 := f 7 _ rfl
      have f8 := f 8 _ rfl
      have f9 := f 9 _ rfl
      have f10 := f 10 _ rfl
      have f11 := f 11 _ rfl
      have f12 := f 12 _ rfl
      have f13 := f 13 _ rfl
      clear f hx
      have HP := Lib.hid hp
      have HRP := Lib.hid hrp
      have HE := Lib.hid he
      have HRE := Lib.hid hre
      have HB := Lib.hid hb
      have HRB := Lib.hid hrb
      have HL := Lib.hid hl
      have HRL := Lib.hid hrl
      obtain ⟨ap, cp, rfl, hcp, hcmp, -, -⟩ := hrp
      obtain ⟨ae, ce, rfl, hce, hcme, -, -⟩ := hre
      obtain ⟨ab, cb, rfl, hcb, hcmb, -, -⟩ := hrb
      obtain ⟨al, cl, rfl, hcl, hcml, -, -⟩ := hrl
      clear hp he hb hl
      cases e1 : decide ((3 : Int) < place.length)
      case true =>
        go_wp2
        go_ret
        exact ⟨⟨_, rfl⟩, hst⟩
      cases e2 : decide ((3 : Int) < e.length)
      case true =>
        go_wp2
        go_ret
        exact ⟨⟨_, rfl⟩, hst⟩
      cases e3 : decide ((100 : Int) < name1.size)
      case true =>
        go_wp2
        go_ret
        exact ⟨⟨_, rfl⟩, hst⟩
      have hn1 : place.length ≤ 3 := by have := of_decide_eq_false e1; omega
      have hn2 : e.length ≤ 3 := by have := of_decide_eq_false e2; omega
      go_wp2_with fail
      refine (smallType_any B 6 _ _ wr HTY.out (by omega)).mono ?_
      rintro e w1 ⟨⟨b, rfl⟩, h1⟩
      cases b
      · go_wp2
        go_ret
        exact ⟨⟨_, rfl⟩, hst.trans h1⟩
      have st1 := hst.trans h1
      have f12' := h1.cell f12 (fun h => h)
      have f13' := h1.cell f13 (fun h => h)
      have f10' := h1.cell f10 (fun h => h)
      have f11' := h1.cell f11 (fun h => h)
      clear f1 f2 f3 f4 f5 f6 f7 f8 f9 f10 f11 f12 f13
      go_wp2_with fail
      refine (IHS.out _ _ _ w1 (StsAt.step h1 (fun _ _ h => h) _ _ HB.out) (HRB.out.step h1 (fun _ _ h => h))).mono ?_
      rintro e2 w2 ⟨⟨b, rfl⟩, h2⟩
      cases b
      · go_wp2
        go_ret
        exact ⟨⟨_, rfl⟩, st1.trans h2⟩
      have f13 := h2.cell f13' (fun h => h)
      have f10 := h2.cell f10' (fun h => h)
      have f11 := h2.cell f11' (fun h => h)
      clear f10' f11' f12' f13'
      go_wp2_with fail
      refine (IHS.out _ _ _ w2 (StsAt.step (h1.trans h2) (fun _ _ h => h) _ _ HL.out) (HRL.out.step (h1.trans h2) (fun _ _ h => h))).mono ?_
      rintro e3 w3 ⟨⟨b, rfl⟩, h3⟩
      cases b
      · go_wp2
        go_ret
        exact ⟨⟨_, rfl⟩, (st1.trans h2).trans h3⟩
      have f10' := h3.cell f10 (fun h => h)
      have f11' := h3.cell f11 (fun h => h)
      clear f10 f11 f13
      have st3 := (h1.trans h2).trans h3
      have HP3 := Lib.hid (ExsAt.step st3 (fun _ _ h => h) _ _ HP.out)
      have HE3 := Lib.hid (ExsAt.step st3 (fun _ _ h => h) _ _ HE.out)
      have HRP3 := Lib.hid (HRP.out.step st3 (fun _ _ h => h))
      have HRE3 := Lib.hid (HRE.out.step st3 (fun _ _ h => h))
      go_wp2
      have OWN0 : Hid (((w3.alloc (.cells #[] 29)).drew).ownsRow w3.heap.size 29 9 (.slice (some ⟨w3.heap.size, 0, none⟩) 0 0) 0 []) := World.ownsRow_made w3 #[] 0 (Nat.le_refl _) (by decide) rfl
      have ST0 : Step (fun _ => False) w3 ((w3.alloc (.cells #[] 29)).drew) := ((Step.refl _ _).alloc _).drew
      have ROWP : Hid (Row ((w3.alloc (.cells #[] 29)).drew) B (.slice ap place.length cp) place.length xp) := HRP3.out.step ST0 (fun _ _ h => h)
      have LP : Hid (xp.length = place.length * 9) := ExsAt.len HP3.out
      have LE : Hid (xe.length = e.length * 9) := ExsAt.len HE3.out
      have OP := Lib.hid (ExsAt.one HP3.out)
      have OE := Lib.hid (ExsAt.one HE3.out)
      go_region_held3 (fun w' => w'.cell? ⟨g, o + i * 17 + 10, none⟩ = some (.slice ap place.length cp) ∧ w'.cell? ⟨g, o + i * 17 + 11, none⟩ = some (.slice ae e.length ce) ∧ Step (fun _ => False) w3 w')
        (first | exact ⟨f10', f11', (Step.refl _ _).drew⟩ | exact ⟨cell_drew (cell_alloc f10'), cell_drew (cell_alloc f11'), ST0⟩ | exact ⟨ST4.cell f10' (fun h => h), ST4.cell f11' (fun h => h), ST4⟩ | exact ⟨ST5.cell f10' (fun h => h), ST5.cell f11' (fun h => h), ST5⟩)
        (first
          | (refine step_append_row _ rfl B (.tmp 82) (.tmp 87) 23 rfl w3.heap.size 29 i0 (.agg #[.int .i64 0, .string ⟨#[]⟩, .int .u64 0, .bool false, .slice none 0 0, .slice none 0 0, .slice none 0 0, .int .i64 0, .int .i64 0]) 9 128 Try.underlying23 hI.out hz0.out hz1.out hz2.out rfl (by decide)
              _ 0 [] (by simp [Act.eval]) OWN0.out _ place.length xp (by simp [Act.eval]) ROWP.out LP.out OP.out (by unfold maxLen; omega) (by omega) (by simp) ?_
             intro v4 w4 hown4 hgrow4 _
             have HOWN4 := Lib.hid hown4
             have ST4 : Step (fun _ => False) w3 w4 := ST0.grown hgrow4 (fun k hk hlt => by simp [Value.ownBlock] at hk; omega)
             clear hown4 hgrow4)
          | (refine step_append_row _ rfl B (.tmp 88) (.tmp 93) 23 rfl w3.heap.size 29 i0 (.agg #[.int .i64 0, .string ⟨#[]⟩, .int .u64 0, .bool false, .slice none 0 0, .slice none 0 0, .slice none 0 0, .int .i64 0, .int .i64 0]) 9 128 Try.underlying23 hI.out hz0.out hz1.out hz2.out rfl (by decide)
              _ _ _ (by simp [Act.eval]) HOWN4.out _ e.length xe (by simp [Act.eval]) (HRE3.out.step ST4 (fun _ _ h => h)) LE.out OE.out (by unfold maxLen; omega) (by omega) ST4.size ?_
             intro v5 w5 hown5 hgrow5 _
             have HOWN5 := Lib.hid hown5
             have ST5 : Step (fun _ => False) w3 w5 := ST4.grown hgrow5 (fun k hk hlt => by have := owned_row HOWN4.out k hk; omega)
             clear hown5 hgrow5))
      have hlen : 0 + place.length + e.length = (place ++ e).length := by rw [List.length_append]; omega
      have hown5 := HOWN5.out
      rw [hlen, List.nil_append] at hown5
      have HALL : Hid (ExsAt w5 B (place ++ e) (xp ++ xe)) := ExsAt.append (ExsAt.step ST5 (fun _ _ h => h) _ _ HP3.out) (ExsAt.step ST5 (fun _ _ h => h) _ _ HE3.out)
      have hrow := Row.of_owns (B := w5.heap.size) hown5 (Nat.le_refl _)
      clear hown5 HOWN5 HOWN4 OWN0 ROWP
      have hall : (place ++ e).length ≤ 6 := by omega
      generalize place ++ e = all at *
      generalize xp ++ xe = xall at *
      obtain ⟨oa, oc, rfl, hoc, hocm, -, hrr⟩ := hrow
      have HRR := Lib.hid hrr
      clear hrr hlen
      have hst5 := st1.trans (h2.trans (h3.trans ST5))
      go_wp2_with fail
      obtain ⟨wo, rfl⟩ : ∃ wo : World, wo = wr := ⟨_, rfl⟩
      obtain ⟨go, hgo⟩ : ∃ go : Nat, go = gk := ⟨_, rfl⟩
      go_loopg [7] all.length (fun gg s7 wr => ∃ k : Nat, s7 = .int .i64 k ∧ k ≤ all.length ∧ all.length - k ≤ gg ∧ Step (fun _ => False) w5 wr)
      case atStart => exact ⟨0, rfl, Nat.zero_le _, by omega, Step.refl _ _⟩
      case round =>
        obtain ⟨j, rfl, hj, hggj, hstj⟩ := hrel
        by_cases hltj : j < all.length
        · obtain ⟨x, hx⟩ : ∃ x, all[j]? = some x := ⟨all[j], List.getElem?_eq_getElem hltj⟩
          obtain ⟨g2, o2, rfl, hg2, hgw2, hcell2⟩ := HRR.out (by omega)
          obtain ⟨cs, hat, f⟩ := ExsAt.cells (ExsAt.step hstj (fun _ _ h => h) all xall HALL.out) hx (fun i x hx => hstj.cell (hcell2 i x hx) (fun h => h))
          obtain ⟨k1, name2, v1, m1, args1, names1, body1, l1, c1⟩ := x
          have hat0 := hat
          rw [ExAt] at hat
          obtain ⟨va1, vn1, vb1, xa1, xb1, rfl, -⟩ := hat
          have HAT := Lib.hid hat0
          clear hat0 hx
          have f0 := f 0 _ rfl
          have f1 := f 1 _ rfl
          have f2 := f 2 _ rfl
          have f3 := f 3 _ rfl
          have f4 := f 4 _ rfl
          have f5 := f 5 _ rfl
          have f6 := f 6 _ rfl
          have f7 := f 7 _ rfl
          have f8 := f 8 _ rfl
          rw [Nat.add_zero] at f0
          clear f hcell2
          go_wp2_with fail
          refine (IHE.out _ _ wr HAT.out).mono ?_
          rintro e w1 ⟨⟨b, rfl⟩, h1⟩
          cases b
          · go_wp2
            go_ret
            exact ⟨⟨_, rfl⟩, hst5.trans (hstj.trans h1)⟩
          · go_wp2
            go_roundg (gk - 1)
            case rel => exact ⟨j + 1, by go_num, by omega, by omega, hstj.trans h1⟩
            case measure => omega
        · go_wp2
          go_roundg (go - 1)
          case rel => exact ⟨i + 1, by go_num, by omega, by omega, hst5.trans hstj⟩
          case measure => omega
    · go_wp2
      go_ret
      exact ⟨⟨_, rfl⟩, hst⟩

theorem smallAll_zero (B : Nat) : SmallS B 0 := by
  intro l v xs w hxs hr
  rcases Nat.eq_zero_or_pos l.length with h0 | hpos
  · rw [h0] at hr
    exact smallAll_none B 0 v xs w hr
  · exact smallAll_deep B l v xs w hr hpos

theorem small_both (B : Nat) : ∀ d, d ≤ 100 → SmallE B d ∧ SmallS B d := by
  intro d
  induction d with
  | zero => intro _; exact ⟨small_zero B, smallAll_zero B⟩
  | succ d ih =>
    intro hd
    obtain ⟨h1, h2⟩ := ih (by omega)
    have h3 := small_succ B d (by omega) h1 h2
    exact ⟨h3, smallAll_succ B d (by omega) h3 h2⟩

end Go.Proofs.Ytfjkkfdpeckccaa
