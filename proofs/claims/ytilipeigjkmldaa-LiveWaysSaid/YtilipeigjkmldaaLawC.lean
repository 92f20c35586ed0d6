/- The law LiveAt, walked: it answers true. -/
import Derived.Test.YtilipeigjkmldaaLawA
import Derived.Test.YtilipeigjkmldaaAllB
import Derived.Deep.RegionHeld3
namespace Go.Proofs.Ytilipeigjkmldaa
open Go.RowKit

theorem Rows2.elem {w : World} {B : Nat} {v : Value} {ll : List (List Int)} (h : Rows2 w B v ll) : ∃ a c, v = .slice a ll.length c ∧ ∀ (i : Nat) l, ll[i]? = some l → ∃ g o u, a = some ⟨g, o, none⟩ ∧ w.cell? ⟨g, o + i, none⟩ = some u ∧ Row w B u l.length (intsV l) := by
  obtain ⟨xs, hx, a, c, rfl, h1, h2, h3, h4⟩ := h
  refine ⟨a, c, rfl, fun i l hl => ?_⟩
  obtain ⟨g, o, rfl, -, -, hc⟩ := h4 (by have := (List.getElem?_eq_some_iff.1 hl).1; omega)
  obtain ⟨cs, ⟨u, rfl, hr⟩, f⟩ := Each.cells 1 IntsAt.len hx hl hc
  have := f 0 _ rfl
  rw [Nat.mul_one, Nat.add_zero] at this
  exact ⟨g, o, u, rfl, this, hr⟩

set_option maxRecDepth 100000 in
set_option maxHeartbeats 4000000 in
theorem liveAt_any (B : Nat) (s : Shp) (v : Value) (xs : List Value) (w : World) (h1 : Each (CdAt w B) s.code xs) (h2 : Row w B v s.code.length xs) (hB : B ≤ w.heap.size) :
    Calls Try.prog 3 #[.agg #[.int .i64 s.params, v]] w (LawPost w) := by
  have H1 := Lib.hid h1
  have H2 := Lib.hid h2
  obtain ⟨a1, c1, rfl, -⟩ := h2
  have ST0 : Step (fun _ => False) w (w.alloc (.cells #[.int .i64 s.params, .slice a1 s.code.length c1] 24)) := (Step.refl _ _).alloc _
  have HST0 := Lib.hid ST0
  have HNB := Lib.hid (blk_new w (.cells #[.int .i64 s.params, .slice a1 s.code.length c1] 24))
  clear h1 ST0
  go_enter Try.func3, Try.ntmps3
  go_wp2_with fail
  refine (lived_any _).mono ?_
  rintro e w1 ⟨rfl, h1⟩
  have HS1 := Lib.hid (HST0.out.trans h1)
  have hb1 := h1.keep HNB.out (fun h => h)
  have d0 := blk_cell hb1 0 _ rfl
  have d1 := blk_cell hb1 1 _ rfl
  clear h1 hb1
  by_cases hlt : 25 < s.code.length
  · have e1 : decide (25 < s.code.length) = true := decide_eq_true hlt
    go_wp2_with fail
    refine (lived_any _).mono ?_
    rintro e w2 ⟨rfl, h2⟩
    go_wp2_with fail
    go_ret
    exact ⟨rfl, HS1.out.trans h2⟩
  · have e1 : decide (25 < s.code.length) = false := decide_eq_false hlt
    go_wp2_with fail
    refine (shBody_any B s _ xs w1 (Each.mono (CdAt.step HS1.out (fun _ _ h => h)) _ _ H1.out) (H2.out.step HS1.out (fun _ _ h => h)) (by omega) (Nat.le_trans hB HS1.out.size)).mono ?_
    rintro e w2 ⟨cs, rfl, hat, h2⟩
    obtain ⟨a2, c2, a3, c3, rfl⟩ := hat.parts
    obtain ⟨b, hb⟩ : ∃ b, b = shBod s := ⟨_, rfl⟩
    have HBL : Hid (b.code.length = s.code.length + 1) := by show _ = _; rw [hb, shBod_len]
    have HSM : Hid (BodSmall b) := by rw [hb]; exact shBod_small s
    have HOK : Hid (bodOk b) := by rw [hb]; exact shBod_ok s
    have HLC : Hid (b.locals = 4) := by rw [hb]; rfl
    rw [← hb] at hat
    rw [← hb]
    have HAT := Lib.hid hat
    have STA : Step (fun _ => False) w2 (w2.alloc (.cells #[.string b.name, .int .i64 b.params, .slice a2 b.locals c2, .slice a3 b.code.length c3] 29)) := (Step.refl _ _).alloc _
    have HSTA := Lib.hid STA
    have HNA := Lib.hid (blk_new w2 (.cells #[.string b.name, .int .i64 b.params, .slice a2 b.locals c2, .slice a3 b.code.length c3] 29))
    have HS2 := Lib.hid (HS1.out.trans h2)
    have HBP : Hid (BodP (w2.alloc (.cells #[.string b.name, .int .i64 b.params, .slice a2 b.locals c2, .slice a3 b.code.length c3] 29)) (w2.alloc (.cells #[.string b.name, .int .i64 b.params, .slice a2 b.locals c2, .slice a3 b.code.length c3] 29)).heap.size w2.heap.size b) := BodP.of_at (BodAt.step STA (fun _ _ h => h) _ _ hat) HNA.out STA.size
    clear hb hat h2 STA d0 d1
    go_wp2_with fail
    refine (at_any _ w2.heap.size b _ HBP.out HSM.out (Nat.le_refl _) HOK.out (by have := HBL.out; omega) (by have := HLC.out; omega)).mono ?_
    rintro e w3 ⟨⟨v1, p, rfl, hr1, hp⟩, h3⟩
    have HR1 := Lib.hid hr1
    have HP := Lib.hid hp
    have HS3 := Lib.hid (HSTA.out.trans h3)
    have hn3 := h3.keep HNA.out (fun h => h)
    have b0 := blk_cell hn3 0 _ rfl
    have b1 := blk_cell hn3 1 _ rfl
    have b2 := blk_cell hn3 2 _ rfl
    have b3 := blk_cell hn3 3 _ rfl
    obtain ⟨al, cl, rfl, -⟩ := hr1.elem
    clear hr1 hp h3 hn3
    go_wp2_with fail
    refine (all_any w2.heap.size b [.string b.name, .int .i64 b.params, .slice a2 b.locals c2, .slice a3 b.code.length c3] w3 (BodAt.step HS3.out (fun _ _ h => h) _ _ HAT.out) HSM.out HS3.out.size HOK.out (by have := HBL.out; omega)).mono ?_
    rintro e w4 ⟨⟨v2, q, rfl, hr2, hq⟩, h4⟩
    obtain ⟨ll, hll⟩ : ∃ ll, ll = liveL b p := ⟨_, rfl⟩
    have heq : liveL b q = ll := by
      rw [hll]
      refine liveL_congr (fun i x hi hx => ?_)
      have h1 := hq i x hi hx
      have h2 := HP.out i x hi
      cases e1 : q i x <;> cases e2 : p i x <;> simp_all
    rw [heq] at hr2
    rw [← hll] at HR1 ⊢
    have HQ1 := Lib.hid (HR1.out.step h4 (fun _ _ h => h))
    have HQ2 := Lib.hid hr2
    have HS4 := Lib.hid (HS3.out.trans h4)
    obtain ⟨al', cl', hv1, hel1⟩ := HQ1.out.elem
    obtain ⟨am, cm, rfl, hel2⟩ := hr2.elem
    obtain ⟨rfl, rfl⟩ : al' = al ∧ cl' = cl := by cases hv1; exact ⟨rfl, rfl⟩
    have HE1 := Lib.hid hel1
    have HE2 := Lib.hid hel2
    have hl26 : ll.length ≤ 26 := by rw [hll, liveL_len]; have := HBL.out; omega
    have e2 : ((ll.length : Int) != (ll.length : Int)) = false := by simp
    clear hr2 hq h4 hll heq hv1 hel1 hel2 b0 b1 b2 b3
    go_wp2_with fail
    go_loopg [7] ll.length (fun gg s7 wr => ∃ k : Nat, s7 = .int .i64 k ∧ k ≤ ll.length ∧ ll.length - k ≤ gg ∧ Step (fun _ => False) w4 wr)
    case atStart => exact ⟨0, rfl, Nat.zero_le _, by omega, Step.refl _ _⟩
    case round =>
      obtain ⟨k, rfl, hk, hgg, hst⟩ := hrel
      by_cases hlt2 : k < ll.length
      · obtain ⟨l, hl⟩ : ∃ l, ll[k]? = some l := ⟨_, List.getElem?_eq_getElem hlt2⟩
        obtain ⟨g, o, u, rfl, f1, r1⟩ := HE1.out k l hl
        obtain ⟨g', o', u', rfl, f2, r2⟩ := HE2.out k l hl
        have HR3 := Lib.hid (r1.step hst (fun _ _ h => h))
        have HR4 := Lib.hid (r2.step hst (fun _ _ h => h))
        obtain ⟨au, cu, rfl, -⟩ := r1
        obtain ⟨au', cu', rfl, -⟩ := r2
        have KEEP : Hid (∀ X, Step (fun _ => False) wr X → X.cell? ⟨g, o + k, none⟩ = some (.slice au l.length cu) ∧ X.cell? ⟨g', o' + k, none⟩ = some (.slice au' l.length cu') ∧ Step (fun _ => False) wr X) := by
          show ∀ X, _
          intro X hX
          exact ⟨(hst.trans hX).cell f1 (fun h => h), (hst.trans hX).cell f2 (fun h => h), hX⟩
        have hi0 : (0 : Int) ≤ (k : Int) := by omega
        have hi1 : (k : Int) < (ll.length : Int) := by omega
        have STD : Step (fun _ => False) wr wr.drew := (Step.refl _ _).drew
        have HST := Lib.hid hst
        have HMM : Hid (gk - 1 < gk) := by show _ < _; omega
        clear hl f1 f2 hst
        go_wp2_with fail
        go_region_held3 (fun X => X.cell? ⟨g, o + k, none⟩ = some (.slice au l.length cu) ∧ X.cell? ⟨g', o' + k, none⟩ = some (.slice au' l.length cu') ∧ Step (fun _ => False) wr X)
          (first | exact KEEP.out _ STD | exact KEEP.out _ ST9)
          (first
            | (go_at_call 15
               refine (ints_any l _ _ _ _ _ (HR3.out.step STD (fun _ _ h => h)) (HR4.out.step STD (fun _ _ h => h))).mono ?_
               rintro e w9 ⟨rfl, h9⟩
               have ST9 := STD.trans h9))
        all_goals
          go_wp2_with fail
          go_roundg (gk - 1)
          case rel => exact ⟨k + 1, by go_num, hlt2, by rw [← Nat.sub_sub]; exact Nat.sub_le_sub_right hgg 1, HST.out.trans ST9⟩
          case measure => exact HMM.out
      · obtain rfl : k = ll.length := by omega
        go_wp2_with fail
        go_ret
        exact ⟨rfl, (HS2.out.trans HS4.out).trans hst⟩

end Go.Proofs.Ytilipeigjkmldaa
