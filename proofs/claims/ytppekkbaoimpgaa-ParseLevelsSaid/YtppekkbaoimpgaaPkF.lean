/- Set, Clo, Mad, Fw -/
import Derived.Test.YtppekkbaoimpgaaPkE
set_option maxRecDepth 100000
set_option maxHeartbeats 8000000
namespace Go.Proofs.Ytppekkbaoimpgaa
open Go.RowKit
/- What set leaves in its statement. -/
def SetLeft (n0 bt : Nat) (t : Tok) (w' : World) (a : List Ex × Ex) : Prop := ∃ (xp xe : List Value) (vp ve : Value), w'.heap[bt]? = some (.cells #[.int .i64 (if a.1.length = 0 then 3 else 2), .string noB, .int .i64 0, .string noB, .string noB, .bool false, .slice none 0 0, .slice none 0 0, .int .i64 0, .int .i64 0, vp, ve, .slice none 0 0, .slice none 0 0, .bool false, .int .i64 t.line, .int .i64 t.col] 67 (0, 0)) ∧
 ExsP w' (fun k => n0 ≤ k) a.1 xp ∧ RowP w' (fun k => n0 ≤ k) vp a.1.length xp ∧ ExsP w' (fun k => n0 ≤ k) [a.2] xe ∧ RowP w' (fun k => n0 ≤ k) ve 1 xe
def SetOk (f : Nat) : Prop := ∀ (R : Rdr) (w : World) (i d bt : Nat) (t : Tok), LOk R.l → RdAt R w i d → d ≤ 40 → R.rb < bt → w.heap[bt]? = some (.cells #[.int .i64 0, .string noB, .int .i64 0, .string noB, .string noB, .bool false, .slice none 0 0, .slice none 0 0, .int .i64 0, .int .i64 0, .slice none 0 0, .slice none 0 0, .slice none 0 0, .slice none 0 0, .bool false, .int .i64 t.line, .int .i64 t.col] 67 (0, 0)) → setR f R.l i d ≠ .out →
 Calls Try.prog 80 #[.agg #[.pointer (some ⟨R.rb, 0, none⟩)], .pointer (some ⟨bt, 0, none⟩)] w (CloPost R d bt (SetLeft w.heap.size bt t) (setR f R.l i d) w)
structure SetJ (bt : Nat) (w4 : World) (t : Tok) (xc : List Value) (L : Nat → Bool) (V : Nat → Value) (X : World) : Prop where
 det : ∀ (i : Nat) v, [some (Value.pointer (some ⟨bt, 0, none⟩)), some (.pointer (some ⟨bt, 0, none⟩)), some (.agg xc.toArray), none, some (.pointer (some ⟨bt, 0, none⟩)), some (.pointer (some ⟨bt, 0, none⟩)), none, some (.pointer (some ⟨bt, 0, none⟩)), some (.pointer (some ⟨bt, 10, none⟩)), none][i]? = some (some v) → L i = true → V i = v
 s3 : L 3 = true → ∃ g : Nat, V 3 = .slice (some ⟨g, 0, none⟩) 1 1 ∧ w4.heap.size ≤ g ∧ X.heap[g]? = some (.cells xc.toArray 29 (0, 0))
 st : Step (· = bt) w4 X
 blk : X.heap[bt]? = some (.cells #[.int .i64 (if L 6 = true then 2 else 3), .string noB, .int .i64 0, .string noB, .string noB, .bool false, .slice none 0 0, .slice none 0 0, .int .i64 0, .int .i64 0, (if L 9 = true then V 3 else .slice none 0 0), .slice none 0 0, .slice none 0 0, .slice none 0 0, .bool false, .int .i64 t.line, .int .i64 t.col] 67 (0, 0))
 q9 : L 9 = true → L 3 = true
theorem set_step (f : Nat) (ih : LevelOk f) : SetOk (f + 1) := by
 intro R w i d bt t hl h hd hrb hbt hno
 have HL := Lib.hid hl
 have HEX : Hid (∀ X j, RdAt R X j d → levelR f R.l j d 0 ≠ .out → Calls Try.prog 10 #[.agg #[.pointer (some ⟨R.rb, 0, none⟩)]] X (PPost R d (ExV X.heap.size) (levelR f R.l j d 0) X)) := fun X j hX hn => expr_any f ih R X j d hl hX hd hn
 obtain ⟨r, hr⟩ : ∃ r, r = setR (f + 1) R.l i d := ⟨_, rfl⟩
 have HRR : Hid (r = (levelR f R.l i d 0).bind fun x j => (if isF R.l j [61] then (levelR f R.l (j + 1) d 0).bind fun y j => .ok ([x], y) j else .ok ([], x) j).bind fun p j => (needR R.l j [59]).bind fun _ j => .ok p j) := by show _ = _; rw [hr, setR]
 rw [← hr] at hno ⊢
 have HNO := Lib.hid hno
 have hbtl := blk_lt hbt
 obtain ⟨w1, hw1⟩ : ∃ w1 : World, w1 = (w.setCell ⟨bt, 0, none⟩ (.int .i64 3)).alloc (.cells #[.pointer (some ⟨R.rb, 0, none⟩)] 45) := ⟨_, rfl⟩
 have hst : Step (· = bt) w (w.setCell ⟨bt, 0, none⟩ (.int .i64 3)) := (Step.refl _ _).setCell _ _ (fun _ => rfl)
 have hal : Step (fun _ => False) (w.setCell ⟨bt, 0, none⟩ (.int .i64 3)) w1 := by rw [hw1]; exact (Step.refl _ _).alloc _
 have hbta : (w.alloc (.cells #[.pointer (some ⟨R.rb, 0, none⟩)] 45)).heap[bt]? = some (.cells #[.int .i64 0, .string noB, .int .i64 0, .string noB, .string noB, .bool false, .slice none 0 0, .slice none 0 0, .int .i64 0, .int .i64 0, .slice none 0 0, .slice none 0 0, .slice none 0 0, .slice none 0 0, .bool false, .int .i64 t.line, .int .i64 t.col] 67 (0, 0)) := blk_alloc hbt
 have HS1 : Hid (Step (· = bt) w w1) := hst.trans (hal.mono (fun _ _ h => h.elim))
 have HP1 : Hid (w1.heap[w.heap.size]? = some (.cells #[.pointer (some ⟨R.rb, 0, none⟩)] 45 (0, 0))) := by show _ = _; rw [hw1]; exact blk_at _ _ _ (by simp)
 have HBT1 : Hid (w1.heap[bt]? = some (.cells #[.int .i64 3, .string noB, .int .i64 0, .string noB, .string noB, .bool false, .slice none 0 0, .slice none 0 0, .int .i64 0, .int .i64 0, .slice none 0 0, .slice none 0 0, .slice none 0 0, .slice none 0 0, .bool false, .int .i64 t.line, .int .i64 t.col] 67 (0, 0))) := by show _ = _; rw [hw1]; exact blk_alloc (blk_set hbt 0 (.int .i64 3))
 have HW1 := Lib.hid hw1
 have H1 := Lib.hid ((h.step hst (fun k hk e => by omega)).quiet hal)
 have hn1 := blk_lt HP1.out
 have HKP : Hid (∀ X : World, Step (fun q => q = R.rb ∨ q = bt) w1 X → X.cell? ⟨w.heap.size, 0, none⟩ = some (.pointer (some ⟨R.rb, 0, none⟩))) := by
  show ∀ X, _
  intro X hX
  exact blk_cell (hX.keep HP1.out (by omega)) 0 _ rfl
 have bt0 := blk_cell hbta 0 _ rfl
 have bz0 := blk_free hbta 0
 clear ih hl h hno hr hw1 hbt hal hst hbta
 go_enter Try.func80, Try.ntmps80
 go_upto_region 2 with fail
 rw [← HW1.out]
 clear bt0 bz0
 have p0 := HKP.out w1 (Step.refl _ _)
 go_wp2_with fail
 cases hx : levelR f R.l i d 0 with
 | out => exact absurd (by rw [HRR.out, hx]; rfl) HNO.out
 | err c ln col =>
  have HX := Lib.hid hx
  clear hx
  refine (HEX.out _ i H1.out (by rw [HX.out]; intro h; cases h)).mono ?_
  rintro e wq hp
  rw [HX.out] at hp
  obtain ⟨rfl, sq⟩ := hp
  refine ⟨rfl, CloPost.of_err (c := c) (ln := ln) (col := col) (by rw [HRR.out, HX.out]; rfl) rfl ?_⟩
  exact (HS1.out.mono (fun _ _ e => .inr e)).trans (sq.mono (fun _ _ e => .inl e))
 | ok x jx =>
  have HX := Lib.hid hx
  clear hx
  refine (HEX.out _ i H1.out (by rw [HX.out]; intro h; cases h)).mono ?_
  rintro e wx hp
  rw [HX.out] at hp
  obtain ⟨⟨v, rfl, cs, rfl, hy⟩, hrx, hsx⟩ := hp
  have HY := Lib.hid hy
  obtain ⟨k5, nm5, v5, mu5, b1, m1, d1, b2, m2, d2, b3, m3, d3, l5, c5, rfl⟩ := hy.parts
  have HRX := Lib.hid hrx
  have HSX := Lib.hid hsx
  have HRA : Hid (r = (if isF R.l jx [61] then (levelR f R.l (jx + 1) d 0).bind fun y j => .ok ([x], y) j else .ok ([], x) jx).bind fun p j => (needR R.l j [59]).bind fun _ j => .ok p j) := by show _ = _; rw [HRR.out, HX.out]; rfl
  obtain ⟨w3, hw3⟩ : ∃ w3 : World, w3 = wx.alloc (.cells #[.int .i64 k5, .string nm5, .int .u64 v5, .bool mu5, .slice b1 m1 d1, .slice b2 m2 d2, .slice b3 m3 d3, .int .i64 l5, .int .i64 c5] 29) := ⟨_, rfl⟩
  have HS3 : Hid (Step (fun _ => False) wx w3) := by show Step _ _ _; rw [hw3]; exact (Step.refl _ _).alloc _
  have HB3 : Hid (w3.heap[wx.heap.size]? = some (.cells #[.int .i64 k5, .string nm5, .int .u64 v5, .bool mu5, .slice b1 m1 d1, .slice b2 m2 d2, .slice b3 m3 d3, .int .i64 l5, .int .i64 c5] 29 (0, 0))) := by show _ = _; rw [hw3]; exact blk_new _ _
  have HS13 : Hid (Step (fun q => q = R.rb ∨ q = bt) w1 w3) := (HSX.out.trans (HS3.out.mono (fun _ _ h => h.elim))).mono (fun _ _ e => .inl e)
  have HBT3 := Lib.hid (HS3.out.keep (HSX.out.keep HBT1.out (by omega)) (fun h => h))
  have HY3 : Hid (ExP w3 (fun q => w1.heap.size ≤ q ∧ q < wx.heap.size) x [.int .i64 k5, .string nm5, .int .u64 v5, .bool mu5, .slice b1 m1 d1, .slice b2 m2 d2, .slice b3 m3 d3, .int .i64 l5, .int .i64 c5]) := ExP.step HS3.out (fun _ _ h => h) _ _ (ExP.mono (fun q h1 h2 => ⟨h2, h1⟩) _ _ hy)
  have HR3 := Lib.hid (hrx.quiet HS3.out)
  have hz1 := HS1.out.size
  have hzx := HSX.out.size
  have hz3 := blk_lt HB3.out
  obtain ⟨bx, hbx⟩ : ∃ bx, bx = wx.heap.size := ⟨_, rfl⟩
  have HW3 := Lib.hid hw3
  clear hy hrx hsx p0 hw3
  go_upto_region 3 with fail
  rw [← HW3.out]
  rw [← hbx] at HB3 HY3 hz3 hzx ⊢
  clear hbx
  have p0 := HKP.out w3 HS13.out
  obtain ⟨bq, hbq⟩ : ∃ bq, bq = isF R.l jx [61] := ⟨_, rfl⟩
  obtain ⟨j2, hj2⟩ : ∃ j2, j2 = takeI R.l jx [61] := ⟨_, rfl⟩
  have HI2 : Hid (Calls Try.prog 36 #[.pointer (some ⟨R.rb, 0, none⟩), .string ⟨#[61]⟩] w3 fun e w' => e = .returned (.bool bq) ∧ RdAt R w' j2 d ∧ Step (· = R.rb) w3 w') := by
   show Calls _ _ _ _ _
   rw [hbq, hj2]; exact is_any R HL.out ⟨#[61]⟩ w3 jx d HR3.out (by decide)
  have HB2 := Lib.hid hbq
  have HJ2 := Lib.hid hj2
  clear hbq hj2
  go_wp2_with fail
  refine HI2.out.mono ?_
  rintro e w4 ⟨rfl, hr4, h4⟩
  have HR4 := Lib.hid hr4
  have HS14 : Hid (Step (fun q => q = R.rb ∨ q = bt) w1 w4) := HS13.out.trans (h4.mono (fun _ _ e => .inl e))
  have HBT4 := Lib.hid (h4.keep HBT3.out (by omega))
  have HB4 := Lib.hid (h4.keep HB3.out (by omega))
  have HY4 : Hid (ExP w4 (fun q => w1.heap.size ≤ q ∧ q < bx) x [.int .i64 k5, .string nm5, .int .u64 v5, .bool mu5, .slice b1 m1 d1, .slice b2 m2 d2, .slice b3 m3 d3, .int .i64 l5, .int .i64 c5]) := ExP.step h4 (fun q hq e => by omega) _ _ HY3.out
  have hz4 := h4.size
  clear hr4 h4 p0
  have p0 := HKP.out w4 HS14.out
  go_upto_if 12 with fail
  go_cut [] (fun wx => ∃ (pl : List Ex) (y : Ex) (je : Nat) (k : Int) (vp : Value) (xp cy : List Value), r = ((needR R.l je [59]).bind fun _ j => .ok (pl, y) j) ∧ k = (if pl.length = 0 then 3 else 2) ∧ ExsP wx (fun q => w1.heap.size ≤ q ∧ q ≠ bx) pl xp ∧ RowP wx (fun q => w1.heap.size ≤ q ∧ q ≠ bx) vp pl.length xp ∧
   ExP wx (fun q => w1.heap.size ≤ q ∧ q ≠ bx) y cy ∧ wx.heap[bx]? = some (.cells cy.toArray 29 (0, 0)) ∧ wx.heap[bt]? = some (.cells #[.int .i64 k, .string noB, .int .i64 0, .string noB, .string noB, .bool false, .slice none 0 0, .slice none 0 0, .int .i64 0, .int .i64 0, vp, .slice none 0 0, .slice none 0 0, .slice none 0 0, .bool false, .int .i64 t.line, .int .i64 t.col] 67 (0, 0)) ∧ RdAt R wx je d ∧ Step (fun q => q = R.rb ∨ q = bt ∨ q = bx) w4 wx)
  case first =>
   cases bq with
   | false =>
    have hj : j2 = jx := by rw [HJ2.out, takeI, ← HB2.out, if_neg (by decide)]
    have HRB : Hid (r = ((needR R.l j2 [59]).bind fun _ j => .ok ([], x) j)) := by show _ = _; rw [HRA.out, ← HB2.out, if_neg (by decide), hj]; rfl
    clear hj
    go_wp2_with fail
    go_meet
    case rel => exact ⟨[], x, j2, 3, .slice none 0 0, [], [.int .i64 k5, .string nm5, .int .u64 v5, .bool mu5, .slice b1 m1 d1, .slice b2 m2 d2, .slice b3 m3 d3, .int .i64 l5, .int .i64 c5], HRB.out, rfl, by rw [ExsP], RowP.nil _ _ _, ExP.mono (fun q _ hq => by omega) _ _ HY4.out, HB4.out, HBT4.out, HR4.out, Step.refl _ _⟩
   | true =>
    have hj : j2 = jx + 1 := by rw [HJ2.out, takeI, ← HB2.out, if_pos rfl]
    have HRB : Hid (r = (levelR f R.l j2 d 0).bind fun y j => (needR R.l j [59]).bind fun _ j => .ok ([x], y) j) := by
     show _ = _
     rw [HRA.out, ← HB2.out, if_pos rfl, hj]
     cases levelR f R.l (jx + 1) d 0 <;> rfl
    clear hj
    have HONE := Lib.hid HY4.out.one
    go_upto_region 4 with fail
    go_cut [] (fun wx => ∃ g : Nat, w4.heap.size ≤ g ∧ g ≠ bx ∧ wx.heap[g]? = some (.cells #[.int .i64 k5, .string nm5, .int .u64 v5, .bool mu5, .slice b1 m1 d1, .slice b2 m2 d2, .slice b3 m3 d3, .int .i64 l5, .int .i64 c5] 29 (0, 0)) ∧ wx.heap[bt]? = some (.cells #[.int .i64 2, .string noB, .int .i64 0, .string noB, .string noB, .bool false, .slice none 0 0, .slice none 0 0, .int .i64 0, .int .i64 0, .slice (some ⟨g, 0, none⟩) 1 1, .slice none 0 0, .slice none 0 0, .slice none 0 0, .bool false, .int .i64 t.line, .int .i64 t.col] 67 (0, 0)) ∧ Step (· = bt) w4 wx)
    case first =>
     refine wp_region_relyD (by kernel_rfl) (SetJ bt w4 t [.int .i64 k5, .string nm5, .int .u64 v5, .bool mu5, .slice b1 m1 d1, .slice b2 m2 d2, .slice b3 m3 d3, .int .i64 l5, .int .i64 c5]) 10 rfl (by kernel_rfl) (by kernel_rfl) (by kernel_rfl) (by kernel_rfl) ?h0 ?hs ?hdone
     case h0 => exact ⟨(fun _ _ _ h => nomatch h), (fun h => nomatch h), (Step.refl _ _).drew, HBT4.out, (fun h => nomatch h)⟩
     case hs =>
      refine ⟨?_, ?_, ?_, ?_, ?_, ?_, ?_, ?_, ?_, ?_, trivial⟩
      ·intro L V X a ev evo hdf hL hdep hJ
       have o1 := evo 1 rfl
       change a.tmps[1]?.getD undef = .pointer (some ⟨bt, 0, none⟩) at o1
       go_simp
       exact ⟨_, rfl, { hJ with det := det_up hJ.det 0 _ (fun u hu => by cases hu; rfl) }⟩
      ·intro L V X a ev evo hdf hL hdep hJ
       have o1 := evo 1 rfl
       change a.tmps[1]?.getD undef = .pointer (some ⟨bt, 0, none⟩) at o1
       go_simp
       exact ⟨_, rfl, { hJ with det := det_up hJ.det 1 _ (fun u hu => by cases hu; rfl) }⟩
      ·intro L V X a ev evo hdf hL hdep hJ
       have o4 := evo 4 rfl
       change a.tmps[4]?.getD undef = .pointer (some ⟨bx, 0, none⟩) at o4
       have hb := hJ.st.keep HB4.out (by omega)
       refine wp_load_mid 29 (.tmp 4) rfl bx 0 (by rw [evalTmp]; exact o4) [.int .i64 k5, .string nm5, .int .u64 v5, .bool mu5, .slice b1 m1 d1, .slice b2 m2 d2, .slice b3 m3 d3, .int .i64 l5, .int .i64 c5] _ (fun jj v hv => by rw [Nat.zero_add]; exact blk_cell hb jj v (by simpa using hv)) Try.underlying29 rfl Try.sizeExpr ?_
       exact ⟨_, rfl, { hJ with det := det_up hJ.det 2 _ (fun u hu => by cases hu; rfl) }⟩
      ·intro L V X a ev evo hdf hL hdep hJ
       have e15 := (ev 2 15 rfl (hdep 2 rfl)).trans (hJ.det 2 _ rfl (hdep 2 rfl))
       have h9 : L 9 = false := by
        cases e : L 9 with
        | false => rfl
        | true => exact absurd (hJ.q9 e) (by rw [hL]; decide)
       have hs : Step (fun _ => False) X (X.alloc (.cells #[.int .i64 k5, .string nm5, .int .u64 v5, .bool mu5, .slice b1 m1 d1, .slice b2 m2 d2, .slice b3 m3 d3, .int .i64 l5, .int .i64 c5] 29)) := (Step.refl _ _).alloc _
       have hb := hJ.blk
       simp only [h9, Bool.false_eq_true, if_false] at hb
       go_simp
       refine ⟨_, rfl, { hJ with det := det_up hJ.det 3 _ (fun u hu => by cases hu), s3 := fun _ => ⟨X.heap.size, rfl, hJ.st.size, blk_new _ _⟩, st := hJ.st.alloc _, blk := ?_, q9 := fun _ => rfl }⟩
       show (X.alloc _).heap[bt]? = some (.cells #[.int .i64 (if L 6 = true then 2 else 3), .string noB, .int .i64 0, .string noB, .string noB, .bool false, .slice none 0 0, .slice none 0 0, .int .i64 0, .int .i64 0, (if L 9 = true then .slice (some ⟨X.heap.size, 0, none⟩) 1 1 else .slice none 0 0), .slice none 0 0, .slice none 0 0, .slice none 0 0, .bool false, .int .i64 t.line, .int .i64 t.col] 67 (0, 0))
       simp only [h9, Bool.false_eq_true, if_false]
       exact hs.keep hb (fun h => h)
      ·intro L V X a ev evo hdf hL hdep hJ
       have e13 := (ev 0 13 rfl (hdep 0 rfl)).trans (hJ.det 0 _ rfl (hdep 0 rfl))
       go_simp
       exact ⟨_, rfl, { hJ with det := det_up hJ.det 4 _ (fun u hu => by cases hu; rfl) }⟩
      ·intro L V X a ev evo hdf hL hdep hJ
       have e17 := (ev 4 17 rfl (hdep 4 rfl)).trans (hJ.det 4 _ rfl (hdep 4 rfl))
       go_simp
       exact ⟨_, rfl, { hJ with det := det_up hJ.det 5 _ (fun u hu => by cases hu; rfl) }⟩
      ·intro L V X a ev evo hdf hL hdep hJ
       have e18 := (ev 5 18 rfl (hdep 5 rfl)).trans (hJ.det 5 _ rfl (hdep 5 rfl))
       have hb := hJ.blk
       have q0 := blk_cell hb 0 _ rfl
       have z0 := blk_free hb 0
       have hs : Step (· = bt) X (X.setCell ⟨bt, 0, none⟩ (.int .i64 2)) := (Step.refl _ _).setCell _ _ (fun _ => rfl)
       have hbs := blk_set hb 0 (.int .i64 2)
       go_simp
       exact ⟨undef, { hJ with det := det_up hJ.det 6 _ (fun u hu => by cases hu), s3 := fun e => (by obtain ⟨g, g1, g2, g3⟩ := hJ.s3 e; exact ⟨g, g1, g2, hs.keep g3 (by omega)⟩), st := hJ.st.trans hs, blk := hbs }⟩
      ·intro L V X a ev evo hdf hL hdep hJ
       have e14 := (ev 1 14 rfl (hdep 1 rfl)).trans (hJ.det 1 _ rfl (hdep 1 rfl))
       go_simp
       exact ⟨_, rfl, { hJ with det := det_up hJ.det 7 _ (fun u hu => by cases hu; rfl) }⟩
      ·intro L V X a ev evo hdf hL hdep hJ
       have e19 := (ev 7 19 rfl (hdep 7 rfl)).trans (hJ.det 7 _ rfl (hdep 7 rfl))
       go_simp
       exact ⟨_, rfl, { hJ with det := det_up hJ.det 8 _ (fun u hu => by cases hu; rfl) }⟩
      ·intro L V X a ev evo hdf hL hdep hJ
       have e20 := (ev 8 20 rfl (hdep 8 rfl)).trans (hJ.det 8 _ rfl (hdep 8 rfl))
       have hb := hJ.blk
       obtain ⟨g, g1, g2, g3⟩ := hJ.s3 (hdep 3 rfl)
       have e16 := (ev 3 16 rfl (hdep 3 rfl)).trans g1
       have q0 := blk_cell hb 10 _ rfl
       have z0 := blk_free hb 10
       have hs : Step (· = bt) X (X.setCell ⟨bt, 10, none⟩ (.slice (some ⟨g, 0, none⟩) 1 1)) := (Step.refl _ _).setCell _ _ (fun _ => rfl)
       have hbs := blk_set hb 10 (.slice (some ⟨g, 0, none⟩) 1 1)
       go_simp
       refine ⟨undef, { hJ with det := det_up hJ.det 9 _ (fun u hu => by cases hu), s3 := fun _ => ⟨g, g1, g2, hs.keep g3 (by omega)⟩, st := hJ.st.trans hs, blk := ?_, q9 := fun _ => hdep 3 rfl }⟩
       show (X.setCell _ _).heap[bt]? = some (.cells #[.int .i64 (if L 6 = true then 2 else 3), .string noB, .int .i64 0, .string noB, .string noB, .bool false, .slice none 0 0, .slice none 0 0, .int .i64 0, .int .i64 0, V 3, .slice none 0 0, .slice none 0 0, .slice none 0 0, .bool false, .int .i64 t.line, .int .i64 t.col] 67 (0, 0))
       rw [g1]
       exact hbs
     case hdone =>
      intro L V X hall hJ
      obtain ⟨g, g1, g2, g3⟩ := hJ.s3 (hall 3 (by decide))
      have hb := hJ.blk
      rw [hall 6 (by decide), hall 9 (by decide), if_pos rfl, if_pos rfl, g1] at hb
      have hs9 := hJ.st
      rw [show List.range 10 = [0, 1, 2, 3, 4, 5, 6, 7, 8, 9] from rfl]
      simp only [putF, dstO, List.getElem?_toArray, List.getElem?_cons_zero, List.getElem?_cons_succ, Option.bind_some, Act.put, List.setIfInBounds_toArray, List.set_cons_zero, List.set_cons_succ]
      clear hJ hall p0
      go_wp2_with fail
      go_meet
      case rel => exact ⟨g, g2, by omega, g3, hb, hs9⟩
    case rest =>
     obtain ⟨g, hg1, hg2, hg3, hb5, hs5⟩ := hcut
     obtain ⟨w5, rfl⟩ : ∃ w5 : World, w5 = wc := ⟨_, rfl⟩
     have HG5 := Lib.hid hg3
     have HBT5 := Lib.hid hb5
     have HS45 := Lib.hid hs5
     have HR5 := Lib.hid (HR4.out.step hs5 (fun q hq e => by omega))
     have HBX5 := Lib.hid (hs5.keep HB4.out (by omega))
     have HX5 : Hid (ExP w5 (fun q => w1.heap.size ≤ q ∧ q < bx) x [.int .i64 k5, .string nm5, .int .u64 v5, .bool mu5, .slice b1 m1 d1, .slice b2 m2 d2, .slice b3 m3 d3, .int .i64 l5, .int .i64 c5]) := ExP.step hs5 (fun q hq e => by omega) _ _ HY4.out
     have hz5 := hs5.size
     have hg5 := blk_lt hg3
     clear hg3 hb5 hs5 p0
     have p0 := HKP.out w5 (HS14.out.trans (HS45.out.mono (fun _ _ e => .inr e)))
     go_wp2_with fail
     cases hx : levelR f R.l j2 d 0 with
     | out => exact absurd (by rw [HRB.out, hx]; rfl) HNO.out
     | err c ln col =>
      have HX9 := Lib.hid hx
      clear hx
      refine (HEX.out _ j2 HR5.out (by rw [HX9.out]; intro h; cases h)).mono ?_
      rintro e wq hp
      rw [HX9.out] at hp
      obtain ⟨rfl, sq⟩ := hp
      refine ⟨rfl, CloPost.of_err (c := c) (ln := ln) (col := col) (by rw [HRB.out, HX9.out]; rfl) rfl ?_⟩
      exact (((HS1.out.mono (fun _ _ e => .inr e)).trans HS14.out).trans (HS45.out.mono (fun _ _ e => .inr e))).trans (sq.mono (fun _ _ e => .inl e))
     | ok y jy =>
      have HX9 := Lib.hid hx
      clear hx
      refine (HEX.out _ j2 HR5.out (by rw [HX9.out]; intro h; cases h)).mono ?_
      rintro e w6 hp
      rw [HX9.out] at hp
      obtain ⟨⟨v, rfl, cs, rfl, hy⟩, hr6, hs6⟩ := hp
      have HYY := Lib.hid hy
      have HONY := Lib.hid hy.one
      obtain ⟨k7, nm7, v7, mu7, p1, q1, r1, p2, q2, r2, p3, q3, r3, l7, c7, rfl⟩ := hy.parts
      have HR6 := Lib.hid hr6
      have HS56 := Lib.hid hs6
      have HBX6 := Lib.hid (hs6.keep HBX5.out (by omega))
      have HRC : Hid (r = ((needR R.l jy [59]).bind fun _ j => .ok ([x], y) j)) := by show _ = _; rw [HRB.out, HX9.out]; rfl
      clear hy hr6 hs6 p0
      go_wp2_with (refine wpList_store_part (w := w6) rfl 29 (.tmp 4) (.tmp 22) rfl bx 0 29 _ [.int .i64 k7, .string nm7, .int .u64 v7, .bool mu7, .slice p1 q1 r1, .slice p2 q2 r2, .slice p3 q3 r3, .int .i64 l7, .int .i64 c7] rfl rfl HBX6.out Try.sizeExpr (Nat.le_of_eq rfl) HONY.out ?_
                   intro w7 hb7 hst7)
      have HB7 : Hid (w7.heap[bx]? = some (.cells #[.int .i64 k7, .string nm7, .int .u64 v7, .bool mu7, .slice p1 q1 r1, .slice p2 q2 r2, .slice p3 q3 r3, .int .i64 l7, .int .i64 c7] 29 (0, 0))) := hb7
      have HS67 := Lib.hid hst7
      clear hb7 hst7
      go_meet
      case rel =>
       have s57 : Step (fun q => q = R.rb ∨ q = bx) w5 w7 := (HS56.out.mono (fun _ _ e => .inl e)).trans (HS67.out.mono (fun _ _ e => .inr e))
       refine ⟨[x], y, jy, 2, _, [.int .i64 k5, .string nm5, .int .u64 v5, .bool mu5, .slice b1 m1 d1, .slice b2 m2 d2, .slice b3 m3 d3, .int .i64 l5, .int .i64 c5], [.int .i64 k7, .string nm7, .int .u64 v7, .bool mu7, .slice p1 q1 r1, .slice p2 q2 r2, .slice p3 q3 r3, .int .i64 l7, .int .i64 c7], HRC.out, rfl, ExsP.single (ExP.mono (fun q _ hq => by omega) _ _ (ExP.step s57 (fun q hq e => by omega) _ _ HX5.out)), RowP.new (s57.keep HG5.out (by omega)) (by simp) (by omega), ?_, HB7.out, s57.keep HBT5.out (by omega), HR6.out.step HS67.out (fun q hq e => by omega), ((HS45.out.mono (fun _ _ e => .inr (.inl e))).trans (HS56.out.mono (fun _ _ e => .inl e))).trans (HS67.out.mono (fun _ _ e => .inr (.inr e)))⟩
       exact ExP.mono (fun q _ hq => by omega) _ _ (ExP.step HS67.out (fun q hq e => by omega) _ _ HYY.out)
  case rest =>
   obtain ⟨pl, y, je, k, vp, xp, cy, hr8, hk8, hp8, hv8, hy8, hx8, hb8, hrd8, hs8⟩ := hcut
   obtain ⟨w8, rfl⟩ : ∃ w8 : World, w8 = wc := ⟨_, rfl⟩
   obtain ⟨k7, nm7, v7, mu7, p1, q1, r1, p2, q2, r2, p3, q3, r3, l7, c7, rfl⟩ := hy8.parts
   obtain ⟨av, cv, rfl, -⟩ := id hv8
   have HR8 := Lib.hid hr8
   have HK8 := Lib.hid hk8
   have HP8 := Lib.hid hp8
   have HV8 := Lib.hid hv8
   have HY8 := Lib.hid hy8
   have HX8 := Lib.hid hx8
   have HB8 := Lib.hid hb8
   have HRD8 := Lib.hid hrd8
   have HS48 := Lib.hid hs8
   have hz8 := hs8.size
   clear hr8 hk8 hp8 hv8 hy8 hx8 hb8 hrd8 p0
   have p0 : w8.cell? ⟨w.heap.size, 0, none⟩ = some (.pointer (some ⟨R.rb, 0, none⟩)) := hs8.cell (HKP.out w4 HS14.out) (fun e => by have e2 : w.heap.size = R.rb ∨ w.heap.size = bt ∨ w.heap.size = bx := e; omega)
   clear hs8
   have HLD : Hid (∀ (jj : Nat) v, [Value.int .i64 k7, .string nm7, .int .u64 v7, .bool mu7, .slice p1 q1 r1, .slice p2 q2 r2, .slice p3 q3 r3, .int .i64 l7, .int .i64 c7][jj]? = some v → w8.cell? ⟨bx, 0 + jj, none⟩ = some v) := by
    show ∀ jj v, _
    intro jj v hv
    rw [Nat.zero_add]; exact blk_cell HX8.out jj v (by simpa using hv)
   obtain ⟨w9, hw9⟩ : ∃ w9 : World, w9 = (w8.alloc (.cells #[.int .i64 k7, .string nm7, .int .u64 v7, .bool mu7, .slice p1 q1 r1, .slice p2 q2 r2, .slice p3 q3 r3, .int .i64 l7, .int .i64 c7] 29)).setCell ⟨bt, 11, none⟩ (.slice (some ⟨w8.heap.size, 0, none⟩) 1 1) := ⟨_, rfl⟩
   have hst9 : Step (· = bt) w8 w9 := by rw [hw9]; exact ((Step.refl (· = bt) _).alloc _).setCell _ _ (fun _ => rfl)
   have HBT9 : Hid (w9.heap[bt]? = some (.cells #[.int .i64 k, .string noB, .int .i64 0, .string noB, .string noB, .bool false, .slice none 0 0, .slice none 0 0, .int .i64 0, .int .i64 0, .slice av pl.length cv, .slice (some ⟨w8.heap.size, 0, none⟩) 1 1, .slice none 0 0, .slice none 0 0, .bool false, .int .i64 t.line, .int .i64 t.col] 67 (0, 0))) := by show _ = _; rw [hw9]; exact blk_set (blk_alloc HB8.out) 11 _
   have HK9 : Hid (w9.heap[w8.heap.size]? = some (.cells #[.int .i64 k7, .string nm7, .int .u64 v7, .bool mu7, .slice p1 q1 r1, .slice p2 q2 r2, .slice p3 q3 r3, .int .i64 l7, .int .i64 c7] 29 (0, 0))) := by show _ = _; rw [hw9]; exact ((Step.refl (· = bt) _).setCell _ _ (fun _ => rfl)).keep (blk_new _ _) (fun e => by have := blk_lt HB8.out; omega)
   have HS89 := Lib.hid hst9
   have bt11 := blk_cell (blk_alloc (o' := .cells #[.int .i64 k7, .string nm7, .int .u64 v7, .bool mu7, .slice p1 q1 r1, .slice p2 q2 r2, .slice p3 q3 r3, .int .i64 l7, .int .i64 c7] 29) HB8.out) 11 _ rfl
   have bz11 := blk_free (blk_alloc (o' := .cells #[.int .i64 k7, .string nm7, .int .u64 v7, .bool mu7, .slice p1 q1 r1, .slice p2 q2 r2, .slice p3 q3 r3, .int .i64 l7, .int .i64 c7] 29) HB8.out) 11
   have HR9 := Lib.hid (HRD8.out.step hst9 (fun q hq e => by omega))
   have HW9 := Lib.hid hw9
   have p9 : w9.cell? ⟨w.heap.size, 0, none⟩ = some (.pointer (some ⟨R.rb, 0, none⟩)) := hst9.cell p0 (fun e => by have e2 : w.heap.size = bt := e; omega)
   have hz9 := hst9.size
   clear hst9 hw9 p0
   go_upto_region 7 with (refine wpList_load_whole rfl 29 (.tmp 4) rfl bx 0 rfl [.int .i64 k7, .string nm7, .int .u64 v7, .bool mu7, .slice p1 q1 r1, .slice p2 q2 r2, .slice p3 q3 r3, .int .i64 l7, .int .i64 c7] _ HLD.out Try.underlying29 rfl Try.sizeExpr ?_)
   rw [← HW9.out]
   clear bt11 bz11
   go_wp2_with fail
   refine (need_any R HL.out w9.heap.size ⟨#[59]⟩ _ je d (HR9.out.quiet ((Step.refl _ _).alloc _)) (by decide) (blk_cell (blk_new _ _) 0 _ rfl)).mono ?_
   rintro e wz hp
   have hp2 : PPost R d UnitV (needR R.l je [59]) _ e wz := hp
   have HS08 : Hid (Step (fun q => q = R.rb ∨ q = bt) w w8) := ((HS1.out.mono (fun _ _ e => .inr e)).trans HS14.out).then HS48.out (fun q hq e => by omega)
   cases hn : needR R.l je [59] with
   | out => exact (needR_out hn).elim
   | err c ln col =>
    rw [hn] at hp2
    obtain ⟨rfl, sz⟩ := hp2
    refine ⟨rfl, CloPost.of_err (c := c) (ln := ln) (col := col) (by rw [HR8.out, hn]; rfl) rfl ?_⟩
    exact (HS08.out.trans (HS89.out.mono (fun _ _ e => .inr e))).trans ((((Step.refl (· = R.rb) _).alloc _).trans sz).mono (fun _ _ e => .inl e))
   | ok u jz =>
    have HNZ := Lib.hid hn
    rw [hn] at hp2
    obtain ⟨⟨v, rfl, rfl⟩, hrz, sz⟩ := hp2
    have HRZ := Lib.hid hrz
    have HS9Z : Hid (Step (· = R.rb) w9 wz) := ((Step.refl (· = R.rb) _).alloc _).trans sz
    have HS8Z : Hid (Step (fun q => q = R.rb ∨ q = bt) w8 wz) := (HS89.out.mono (fun _ _ e => .inr e)).trans (HS9Z.out.mono (fun _ _ e => .inl e))
    clear hn hrz sz p9 hp
    go_wp2_with fail
    refine bodyPost_end (results_none rfl _ _ _) rfl ?_
    have hkk := HK8.out
    refine CloPost.of_ok (a := (pl, y)) (j := jz) (by rw [HR8.out, HNZ.out]; rfl) rfl ⟨xp, [.int .i64 k7, .string nm7, .int .u64 v7, .bool mu7, .slice p1 q1 r1, .slice p2 q2 r2, .slice p3 q3 r3, .int .i64 l7, .int .i64 c7], .slice av pl.length cv, .slice (some ⟨w8.heap.size, 0, none⟩) 1 1, ?_, ExsP.mono (fun q _ hq => by have := hq.1; omega) _ _ (ExsP.step HS8Z.out (fun q hq e => by have := hq.1; omega) _ _ HP8.out), (HV8.out.step HS8Z.out (fun q hq e => by have := hq.1; omega)).mono (fun q _ hq => by have := hq.1; omega), ExsP.single (ExP.mono (fun q _ hq => by have := hq.1; omega) _ _ (ExP.step HS8Z.out (fun q hq e => by have := hq.1; omega) _ _ HY8.out)), RowP.new (HS9Z.out.keep HK9.out (by omega)) (by decide) (by omega)⟩ HRZ.out (HS08.out.trans HS8Z.out)
    have hb9 := HS9Z.out.keep HBT9.out (by omega)
    rw [hkk] at hb9
    exact hb9
def closF (f : Nat) (l : List Tok) (i d : Nat) : Res (ByteArray × List ByteArray × List St) := (nameR l i).bind fun n j => (needR l j [124]).bind fun _ j => (if isF l j [124] then .ok [] (j + 1) else barsR f l j []).bind fun ns j => (blockR f l j d).bind fun b j => .ok (n, ns, b) j
/- What closure leaves in its expression. -/
def ClosLeft (n0 bt : Nat) (t : Tok) (w' : World) (a : ByteArray × List ByteArray × List St) : Prop := ∃ (xb : List Value) (vn vb : Value), w'.heap[bt]? = some (.cells #[.int .i64 17, .string a.1, .int .u64 0, .bool false, .slice none 0 0, vn, vb, .int .i64 t.line, .int .i64 t.col] 29 (0, 0)) ∧
 a.1.size ≤ 9223372036854775807 ∧ (∀ s ∈ a.2.1, s.size ≤ 9223372036854775807) ∧ RowP w' (fun k => n0 ≤ k) vn a.2.1.length (a.2.1.map .string) ∧ StsP w' (fun k => n0 ≤ k) a.2.2 xb ∧ RowP w' (fun k => n0 ≤ k) vb a.2.2.length xb
def ClosOk (f : Nat) : Prop := ∀ (R : Rdr) (w : World) (i d bt : Nat) (t : Tok), LOk R.l → RdAt R w i d → d ≤ 40 → R.rb < bt → w.heap[bt]? = some (.cells #[.int .i64 0, .string noB, .int .u64 0, .bool false, .slice none 0 0, .slice none 0 0, .slice none 0 0, .int .i64 t.line, .int .i64 t.col] 29 (0, 0)) → closF f R.l i d ≠ .out →
 Calls Try.prog 75 #[.agg #[.pointer (some ⟨R.rb, 0, none⟩)], .pointer (some ⟨bt, 0, none⟩)] w (CloPost R d bt (ClosLeft w.heap.size bt t) (closF f R.l i d) w)
structure ClSt (R : Rdr) (w1 : World) (bt : Nat) (nm : ByteArray) (t : Tok) (d : Nat) (X : World) (i' : Nat) (ns : List ByteArray) (vn : Value) : Prop where
 rd : RdAt R X i' d
 blk : X.heap[bt]? = some (.cells #[.int .i64 17, .string nm, .int .u64 0, .bool false, .slice none 0 0, vn, .slice none 0 0, .int .i64 t.line, .int .i64 t.col] 29 (0, 0))
 on : X.ownsRow w1.heap.size 9 1 vn ns.length (ns.map .string)
 sz : ∀ s ∈ ns, s.size ≤ 9223372036854775807
 few : ns.length ≤ 8
 st : Step (fun k => k = R.rb ∨ k = bt) w1 X
theorem ClSt.read {R : Rdr} {w1 : World} {bt : Nat} {nm : ByteArray} {t : Tok} {d : Nat} {X X' : World} {i' i2 : Nat} {ns : List ByteArray} {vn : Value} (h : ClSt R w1 bt nm t d X i' ns vn) (hrb : R.rb < bt) (hw : R.rb < w1.heap.size) (hr : RdAt R X' i2 d) (hs : Step (· = R.rb) X X') : ClSt R w1 bt nm t d X' i2 ns vn :=
 ⟨hr, hs.keep h.blk (by omega), hs.owns h.on (fun _ _ h => by omega), h.sz, h.few, h.st.trans (hs.mono (fun _ _ e => .inl e))⟩
theorem ClSt.quiet {R : Rdr} {w1 : World} {bt : Nat} {nm : ByteArray} {t : Tok} {d : Nat} {X X' : World} {i' : Nat} {ns : List ByteArray} {vn : Value} (h : ClSt R w1 bt nm t d X i' ns vn) (hs : Step (fun _ => False) X X') : ClSt R w1 bt nm t d X' i' ns vn :=
 ⟨h.rd.quiet hs, hs.keep h.blk (fun h => h), hs.owns h.on (fun _ _ h => h), h.sz, h.few, h.st.trans (hs.mono (fun _ _ h => h.elim))⟩
theorem ClSt.push {R : Rdr} {w1 : World} {bt : Nat} {nm : ByteArray} {t : Tok} {d : Nat} {X X2 X3 : World} {i' : Nat} {ns : List ByteArray} {vn v9 : Value} {s : ByteArray} (h : ClSt R w1 bt nm t d X i' ns vn) (hrb : R.rb < bt) (hbt : bt < w1.heap.size) (h2 : Step (fun _ => False) X X2)
  (hown : X3.ownsRow w1.heap.size 9 1 v9 (ns.length + 1) (ns.map .string ++ [.string s])) (hgrow : X2.grownBy X3 vn.ownBlock) (hs : s.size ≤ 9223372036854775807) (hlt : ns.length < 8) :
  ClSt R w1 bt nm t d (X3.setCell ⟨bt, 5, none⟩ v9) i' (ns ++ [s]) v9 := by
 have h3 : Step (fun q => vn.ownBlock = some q) X2 X3 := grown_step hgrow
 have h4 : Step (· = bt) X3 (X3.setCell ⟨bt, 5, none⟩ v9) := (Step.refl _ _).setCell _ _ (fun _ => rfl)
 have ho : ∀ q, vn.ownBlock = some q → w1.heap.size ≤ q := fun q hq => (h.on.lt q hq).1
 have hlen : (ns ++ [s]).length = ns.length + 1 := by simp
 have hb3 := h3.keep (h2.keep h.blk (fun h => h)) (fun e => by have := ho bt e; omega)
 refine ⟨((h.rd.quiet h2).step h3 (fun q hq e => by have := ho q e; omega)).step h4 (fun q hq e => by omega), blk_set hb3 5 v9, ?_, ?_, by rw [hlen]; omega, ?_⟩
 ·rw [hlen, List.map_append]
  exact owns_stay hown h4 (fun q hq e => by have := (hown.lt q hq).1; omega)
 ·intro x hx
  rcases List.mem_append.1 hx with hx | hx
  ·exact h.sz x hx
  ·rw [List.mem_singleton.1 hx]; exact hs
 ·exact ((h.st.trans (h2.mono (fun _ _ h => h.elim))).then h3 (fun q hq e => by have := ho q e; omega)).trans (h4.mono (fun _ _ e => .inr e))
/- The region that puts one more name behind the names, where the name gives up. -/
structure ClJ (R : Rdr) (bt bp : Nat) (sv : Value) (X0 : World) (L : Nat → Bool) (V : Nat → Value) (X : World) : Prop where
 wx : X = X0
 no : L 7 = false
 v0 : L 0 = true → V 0 = .pointer (some ⟨bt, 0, none⟩)
 v1 : L 1 = true → V 1 = .pointer (some ⟨bt, 0, none⟩)
 v2 : L 2 = true → V 2 = .pointer (some ⟨bt, 0, none⟩)
 v3 : L 3 = true → V 3 = .pointer (some ⟨bt, 5, none⟩)
 v4 : L 4 = true → V 4 = sv
 v5 : L 5 = true → V 5 = .pointer (some ⟨bp, 0, none⟩)
 v6 : L 6 = true → V 6 = .pointer (some ⟨R.rb, 0, none⟩)
 v10 : L 10 = true → V 10 = .pointer (some ⟨bt, 0, none⟩)
 v11 : L 11 = true → V 11 = .pointer (some ⟨bt, 5, none⟩)
theorem clos_step (f : Nat) (ih : BlockOk f) : ClosOk f := by
 intro R w i d bt t hl h hd hrb hbt hno
 have HL := Lib.hid hl
 have IH := Lib.hid ih
 obtain ⟨r, hr⟩ : ∃ r, r = closF f R.l i d := ⟨_, rfl⟩
 have HRR : Hid (r = (nameR R.l i).bind fun n j => (needR R.l j [124]).bind fun _ j => (if isF R.l j [124] then .ok [] (j + 1) else barsR f R.l j []).bind fun ns j => (blockR f R.l j d).bind fun b j => .ok (n, ns, b) j) := by show _ = _; rw [hr, closF]
 rw [← hr] at hno ⊢
 have HNO := Lib.hid hno
 have hbtl := blk_lt hbt
 obtain ⟨w1, hw1⟩ : ∃ w1 : World, w1 = w.alloc (.cells #[.pointer (some ⟨R.rb, 0, none⟩)] 45) := ⟨_, rfl⟩
 have HS1 : Hid (Step (fun _ => False) w w1) := by show Step _ _ _; rw [hw1]; exact (Step.refl _ _).alloc _
 have HP1 : Hid (w1.heap[w.heap.size]? = some (.cells #[.pointer (some ⟨R.rb, 0, none⟩)] 45 (0, 0))) := by show _ = _; rw [hw1]; exact blk_new _ _
 have HBT1 := Lib.hid (HS1.out.keep hbt (fun h => h))
 have HW1 := Lib.hid hw1
 have H1 := Lib.hid (h.quiet HS1.out)
 have hn1 := blk_lt HP1.out
 have HKP : Hid (∀ X : World, Step (fun q => q = R.rb ∨ q = bt) w1 X → X.cell? ⟨w.heap.size, 0, none⟩ = some (.pointer (some ⟨R.rb, 0, none⟩))) := by
  show ∀ X, _
  intro X hX
  exact blk_cell (hX.keep HP1.out (by omega)) 0 _ rfl
 obtain ⟨i0, hi0, hz0, hz1, hz2⟩ := info_parts Try.infoString
 have HI := Lib.hid hi0
 have HZ0 := Lib.hid hz0
 have HZ1 := Lib.hid hz1
 have HZ2 := Lib.hid hz2
 have p0 := HKP.out w1 (Step.refl _ _)
 clear ih hl h hno hr hw1 hbt hi0 hz0 hz1 hz2
 go_enter Try.func75, Try.ntmps75
 go_upto_region 1 with fail
 rw [← HW1.out]
 go_wp2_with fail
 cases hn : nameR R.l i with
 | out => exact (nameR_out hn).elim
 | err c ln col =>
  have HN := Lib.hid hn
  clear hn
  refine (name_any R HL.out _ i d H1.out).mono ?_
  rintro e wq hp
  rw [HN.out] at hp
  obtain ⟨rfl, sq⟩ := hp
  refine ⟨rfl, CloPost.of_err (c := c) (ln := ln) (col := col) (by rw [HRR.out, HN.out]; rfl) rfl ?_⟩
  exact ((HS1.out.mono (fun _ _ h => h.elim)).trans sq).mono (fun _ _ e => .inl e)
 | ok nm j =>
  have HN := Lib.hid hn
  have HNS := Lib.hid (nameR_size HL.out H1.out.lt hn)
  clear hn
  refine (name_any R HL.out _ i d H1.out).mono ?_
  rintro e w2 hp
  rw [HN.out] at hp
  obtain ⟨⟨v, rfl, rfl⟩, hr2, s2⟩ := hp
  have HR2 := Lib.hid hr2
  have HS2 := Lib.hid s2
  have HBT2 := Lib.hid (s2.keep HBT1.out (by omega))
  have HRA : Hid (r = (needR R.l j [124]).bind fun _ j => (if isF R.l j [124] then .ok [] (j + 1) else barsR f R.l j []).bind fun ns j => (blockR f R.l j d).bind fun b j => .ok (nm, ns, b) j) := by show _ = _; rw [HRR.out, HN.out]; rfl
  have bt0 := blk_cell HBT2.out 0 _ rfl
  have bz0 := blk_free HBT2.out 0
  have bt1 := blk_cell HBT2.out 1 _ rfl
  have bz1 := blk_free HBT2.out 1
  obtain ⟨w3, hw3⟩ : ∃ w3 : World, w3 = (w2.setCell ⟨bt, 0, none⟩ (.int .i64 17)).setCell ⟨bt, 1, none⟩ (.string nm) := ⟨_, rfl⟩
  have HS3 : Hid (Step (· = bt) w2 w3) := by show Step _ _ _; rw [hw3]; exact ((Step.refl (· = bt) _).setCell _ _ (fun _ => rfl)).setCell _ _ (fun _ => rfl)
  have HBT3 : Hid (w3.heap[bt]? = some (.cells #[.int .i64 17, .string nm, .int .u64 0, .bool false, .slice none 0 0, .slice none 0 0, .slice none 0 0, .int .i64 t.line, .int .i64 t.col] 29 (0, 0))) := by show _ = _; rw [hw3]; exact blk_set (blk_set HBT2.out 0 (.int .i64 17)) 1 (.string nm)
  have HS13 : Hid (Step (fun q => q = R.rb ∨ q = bt) w1 w3) := (HS2.out.mono (fun _ _ e => .inl e)).trans (HS3.out.mono (fun _ _ e => .inr e))
  have HST3 : Hid (ClSt R w1 bt nm t d w3 j [] (.slice none 0 0)) := ⟨HR2.out.step HS3.out (fun k hk e => by omega), HBT3.out, World.ownsRow_nil _ _ _ _, (fun _ h => nomatch h), by simp, HS13.out⟩
  clear hr2 s2 p0
  go_upto_region 2 with fail
  rw [← hw3]
  clear hw3 bt0 bz0 bt1 bz1
  have p0 := HKP.out w3 HS13.out
  go_wp2_with fail
  refine (need_any R HL.out w3.heap.size ⟨#[124]⟩ _ j d (HST3.out.rd.quiet ((Step.refl _ _).alloc _)) (by decide) (blk_cell (blk_new _ _) 0 _ rfl)).mono ?_
  rintro e w4 hp
  have hp2 : PPost R d UnitV (needR R.l j [124]) _ e w4 := hp
  cases hn : needR R.l j [124] with
  | out => exact (needR_out hn).elim
  | err c ln col =>
   rw [hn] at hp2
   obtain ⟨rfl, s4⟩ := hp2
   refine ⟨rfl, CloPost.of_err (c := c) (ln := ln) (col := col) (by rw [HRA.out, hn]; rfl) rfl ?_⟩
   exact ((HS1.out.mono (fun _ _ h => h.elim)).trans HST3.out.st).trans ((((Step.refl (· = R.rb) _).alloc _).trans s4).mono (fun _ _ e => .inl e))
  | ok u j4 =>
   have HN4 := Lib.hid hn
   rw [hn] at hp2
   obtain ⟨⟨v, rfl, rfl⟩, hr4, s4⟩ := hp2
   have HST4 := Lib.hid (HST3.out.read hrb (by omega) hr4 (((Step.refl (· = R.rb) _).alloc _).trans s4))
   have HRB : Hid (r = (if isF R.l j4 [124] then .ok [] (j4 + 1) else barsR f R.l j4 []).bind fun ns j => (blockR f R.l j d).bind fun b j => .ok (nm, ns, b) j) := by show _ = _; rw [HRA.out, HN4.out]; rfl
   clear hn hr4 s4 p0 hp
   have p0 := HKP.out w4 HST4.out.st
   obtain ⟨bq, hbq⟩ : ∃ bq, bq = isF R.l j4 [124] := ⟨_, rfl⟩
   obtain ⟨j5, hj5⟩ : ∃ j5, j5 = takeI R.l j4 [124] := ⟨_, rfl⟩
   have HI5 : Hid (Calls Try.prog 36 #[.pointer (some ⟨R.rb, 0, none⟩), .string ⟨#[124]⟩] w4 fun e w' => e = .returned (.bool bq) ∧ RdAt R w' j5 d ∧ Step (· = R.rb) w4 w') := by
    show Calls _ _ _ _ _
    rw [hbq, hj5]; exact is_any R HL.out ⟨#[124]⟩ w4 j4 d HST4.out.rd (by decide)
   have HBQ := Lib.hid hbq
   have HJ5 := Lib.hid hj5
   clear hbq hj5
   go_wp2_with fail
   refine HI5.out.mono ?_
   rintro e w5 ⟨rfl, hr5, h5⟩
   have HST5 := Lib.hid (HST4.out.read hrb (by omega) hr5 h5)
   clear hr5 h5 p0
   have p0 := HKP.out w5 HST5.out.st
   go_upto_if 20 with fail
   go_cut [] (fun wx => ∃ (jn : Nat) (ns : List ByteArray) (vn : Value), r = ((blockR f R.l jn d).bind fun b j => .ok (nm, ns, b) j) ∧ ClSt R w1 bt nm t d wx jn ns vn)
   case first =>
    cases bq with
    | true =>
     have hj : j5 = j4 + 1 := by rw [HJ5.out, takeI, ← HBQ.out, if_pos rfl]
     have HRC : Hid (r = ((blockR f R.l j5 d).bind fun b j => .ok (nm, [], b) j)) := by show _ = _; rw [HRB.out, ← HBQ.out, if_pos rfl, hj]; rfl
     clear hj
     go_wp2_with fail
     go_meet
     case rel => exact ⟨j5, [], _, HRC.out, HST5.out⟩
    | false =>
     have hj : j5 = j4 := by rw [HJ5.out, takeI, ← HBQ.out, if_neg (by decide)]
     have HRC : Hid (r = (barsR f R.l j5 []).bind fun ns j => (blockR f R.l j d).bind fun b j => .ok (nm, ns, b) j) := by show _ = _; rw [HRB.out, ← HBQ.out, if_neg (by decide), hj]
     clear hj p0
     go_wp2_with fail
     go_loopg [] f (fun gg wr => gg ≤ f ∧ ∃ (i' : Nat) (ns : List ByteArray) (vn : Value), r = ((barsR gg R.l i' ns).bind fun ns j => (blockR f R.l j d).bind fun b j => .ok (nm, ns, b) j) ∧ ClSt R w1 bt nm t d wr i' ns vn)
     case atStart => exact ⟨Nat.le_refl _, j5, [], _, HRC.out, HST5.out⟩
     case round =>
      obtain ⟨hgf, i', ns, vn, hrq, hst⟩ := hrel
      obtain ⟨gn, rfl⟩ : ∃ gn, gk = gn + 1 := by
       cases gk with
       | zero => exact absurd hrq (by rw [barsR]; exact HNO.out)
       | succ gn => exact ⟨gn, rfl⟩
      have HEQ : Hid (r = ((roomR ns.length 8 R.l i').bind fun _ i => (nameR R.l i).bind fun n j => if isF R.l j [44] then barsR gn R.l (j + 1) (ns ++ [n]) else (needR R.l j [124]).bind fun _ j => .ok (ns ++ [n]) j).bind fun ns j => (blockR f R.l j d).bind fun b j => .ok (nm, ns, b) j) := by show _ = _; rw [hrq, barsR]
      obtain ⟨oa, oc, rfl⟩ := owns_slice hst.on
      have HST := Lib.hid hst
      have hfew := hst.few
      have p0 := HKP.out wr hst.st
      have bt5 := blk_cell hst.blk 5 _ rfl
      clear hrq hst
      go_upto_region 4 with fail
      go_still_tail 6, (by kernel_rfl)
      change wpList _ _ _ _ _ wr.drew
      obtain ⟨wd, hwd⟩ : ∃ wd, wd = wr.drew := ⟨_, rfl⟩
      have HSTD : Hid (ClSt R w1 bt nm t d wd i' ns (.slice oa ns.length oc)) := by show ClSt _ _ _ _ _ _ _ _ _ _; rw [hwd]; exact HST.out.quiet ((Step.refl _ _).drew)
      rw [← hwd]
      clear hwd p0 bt5
      have p0 := HKP.out wd HSTD.out.st
      have bt5 := blk_cell HSTD.out.blk 5 _ rfl
      go_wp2_with fail
      refine (room_any R wd ns.length 8 i' d HSTD.out.rd).mono ?_
      rintro e w6 hp
      cases hn : roomR ns.length 8 R.l i' with
      | out => exact (roomR_out hn).elim
      | err c ln col =>
       rw [hn] at hp
       obtain ⟨rfl, s6⟩ := hp
       refine ⟨rfl, CloPost.of_err (c := c) (ln := ln) (col := col) (by rw [HEQ.out, hn]; rfl) rfl ?_⟩
       exact ((HS1.out.mono (fun _ _ h => h.elim)).trans HSTD.out.st).trans (s6.mono (fun _ _ e => .inl e))
      | ok u j6 =>
       have hji : j6 = i' ∧ ns.length < 8 := by
        unfold roomR at hn
        split at hn
        ·cases hn
        ·cases hn; exact ⟨rfl, by omega⟩
       obtain ⟨rfl, hlt8⟩ := hji
       have HN6 := Lib.hid hn
       rw [hn] at hp
       obtain ⟨⟨v, rfl, rfl⟩, hr6, s6⟩ := hp
       have HST6 := Lib.hid (HSTD.out.read hrb (by omega) hr6 s6)
       have HE6 : Hid (r = ((nameR R.l j6).bind fun n j => if isF R.l j [44] then barsR gn R.l (j + 1) (ns ++ [n]) else (needR R.l j [124]).bind fun _ j => .ok (ns ++ [n]) j).bind fun ns j => (blockR f R.l j d).bind fun b j => .ok (nm, ns, b) j) := by show _ = _; rw [HEQ.out, HN6.out]; rfl
       clear hn hr6 s6 p0 bt5
       have p0 := HKP.out w6 HST6.out.st
       have bt5 := blk_cell HST6.out.blk 5 _ rfl
       go_upto_region 5 with fail
       cases hn : nameR R.l j6 with
       | out => exact (nameR_out hn).elim
       | err c ln col =>
        have HN := Lib.hid hn
        have HNM : Hid (∀ X, RdAt R X j6 d → Calls Try.prog 38 #[.pointer (some ⟨R.rb, 0, none⟩)] X fun e w' => e = .panicked [{ v := .iface 89 (.agg #[.int .i64 c, .int .i64 ln, .int .i64 col]), recovered := false }] ∧ Step (· = R.rb) X w') := by
         show ∀ X, _
         intro X hX
         have h9 := name_any R HL.out X j6 d hX
         rw [HN.out] at h9
         exact h9
        have HPAN : Hid (∀ wq : World, Step (· = R.rb) w6.drew wq → CloPost R d bt (ClosLeft w.heap.size bt t) r w (.panicked [{ v := .iface 89 (.agg #[.int .i64 c, .int .i64 ln, .int .i64 col]), recovered := false }]) wq) := by
         show ∀ wq, _
         intro wq hs
         refine CloPost.of_err (c := c) (ln := ln) (col := col) (by rw [HE6.out, HN.out]; rfl) rfl ?_
         exact ((HS1.out.mono (fun _ _ h => h.elim)).trans HST6.out.st).trans ((((Step.refl (· = R.rb) _).drew).trans hs).mono (fun _ _ e => .inl e))
        clear hn
        refine wp_region_relyD (by kernel_rfl) (ClJ R bt w.heap.size (.slice oa ns.length oc) w6.drew) 13 rfl (by kernel_rfl) (by kernel_rfl) (by kernel_rfl) (by kernel_rfl) ?h0 ?hs ?hdone
        case h0 => exact ⟨rfl, rfl, (fun h => nomatch h), (fun h => nomatch h), (fun h => nomatch h), (fun h => nomatch h), (fun h => nomatch h), (fun h => nomatch h), (fun h => nomatch h), (fun h => nomatch h), (fun h => nomatch h)⟩
        case hs =>
         refine ⟨?_, ?_, ?_, ?_, ?_, ?_, ?_, ?_, ?_, ?_, ?_, ?_, ?_, trivial⟩
         ·intro L V X a ev evo hdf hL hdep hJ
          have hwx := hJ.wx; subst hwx
          have o1 := evo 1 rfl
          change a.tmps[1]?.getD undef = .pointer (some ⟨bt, 0, none⟩) at o1
          go_simp
          exact ⟨_, rfl, { hJ with no := by rw [updL_ne _ (by decide)]; exact hJ.no, v0 := fun _ => rfl }⟩
         ·intro L V X a ev evo hdf hL hdep hJ
          have hwx := hJ.wx; subst hwx
          have o1 := evo 1 rfl
          change a.tmps[1]?.getD undef = .pointer (some ⟨bt, 0, none⟩) at o1
          go_simp
          exact ⟨_, rfl, { hJ with no := by rw [updL_ne _ (by decide)]; exact hJ.no, v1 := fun _ => rfl }⟩
         ·intro L V X a ev evo hdf hL hdep hJ
          have hwx := hJ.wx; subst hwx
          have e29 := (ev 1 29 rfl (hdep 1 rfl)).trans (hJ.v1 (hdep 1 rfl))
          go_simp
          exact ⟨_, rfl, { hJ with no := by rw [updL_ne _ (by decide)]; exact hJ.no, v2 := fun _ => rfl }⟩
         ·intro L V X a ev evo hdf hL hdep hJ
          have hwx := hJ.wx; subst hwx
          have e30 := (ev 2 30 rfl (hdep 2 rfl)).trans (hJ.v2 (hdep 2 rfl))
          go_simp
          exact ⟨_, rfl, { hJ with no := by rw [updL_ne _ (by decide)]; exact hJ.no, v3 := fun _ => rfl }⟩
         ·intro L V X a ev evo hdf hL hdep hJ
          have hwx := hJ.wx; subst hwx
          have e31 := (ev 3 31 rfl (hdep 3 rfl)).trans (hJ.v3 (hdep 3 rfl))
          have q5 := blk_cell (((Step.refl (fun _ => False) w6).drew).keep HST6.out.blk (fun h => h)) 5 _ rfl
          go_simp
          exact ⟨_, rfl, { hJ with no := by rw [updL_ne _ (by decide)]; exact hJ.no, v4 := fun _ => rfl }⟩
         ·intro L V X a ev evo hdf hL hdep hJ
          have hwx := hJ.wx; subst hwx
          have o2 := evo 2 rfl
          change a.tmps[2]?.getD undef = .pointer (some ⟨w.heap.size, 0, none⟩) at o2
          go_simp
          exact ⟨_, rfl, { hJ with no := by rw [updL_ne _ (by decide)]; exact hJ.no, v5 := fun _ => rfl }⟩
         ·intro L V X a ev evo hdf hL hdep hJ
          have hwx := hJ.wx; subst hwx
          have e33 := (ev 5 33 rfl (hdep 5 rfl)).trans (hJ.v5 (hdep 5 rfl))
          have q0 := HKP.out w6.drew (HST6.out.st.trans ((Step.refl _ _).drew))
          go_simp
          exact ⟨_, rfl, { hJ with no := by rw [updL_ne _ (by decide)]; exact hJ.no, v6 := fun _ => rfl }⟩
         ·intro L V X a ev evo hdf hL hdep hJ
          have hwx := hJ.wx; subst hwx
          have e34 := (ev 6 34 rfl (hdep 6 rfl)).trans (hJ.v6 (hdep 6 rfl))
          go_simp
          refine (HNM.out _ (HST6.out.rd.quiet ((Step.refl _ _).drew))).mono ?_
          rintro e wq ⟨rfl, hs⟩
          exact ⟨hdf, HPAN.out wq hs⟩
         ·intro L V X a ev evo hdf hL hdep hJ
          have hwx := hJ.wx; subst hwx
          exact absurd hJ.no (by rw [hdep 7 rfl]; decide)
         ·intro L V X a ev evo hdf hL hdep hJ
          have hwx := hJ.wx; subst hwx
          exact absurd hJ.no (by rw [hdep 7 rfl]; decide)
         ·intro L V X a ev evo hdf hL hdep hJ
          have hwx := hJ.wx; subst hwx
          have e28 := (ev 0 28 rfl (hdep 0 rfl)).trans (hJ.v0 (hdep 0 rfl))
          go_simp
          exact ⟨_, rfl, { hJ with no := by rw [updL_ne _ (by decide)]; exact hJ.no, v10 := fun _ => rfl }⟩
         ·intro L V X a ev evo hdf hL hdep hJ
          have hwx := hJ.wx; subst hwx
          have e38 := (ev 10 38 rfl (hdep 10 rfl)).trans (hJ.v10 (hdep 10 rfl))
          go_simp
          exact ⟨_, rfl, { hJ with no := by rw [updL_ne _ (by decide)]; exact hJ.no, v11 := fun _ => rfl }⟩
         ·intro L V X a ev evo hdf hL hdep hJ
          have hwx := hJ.wx; subst hwx
          exact absurd hJ.no (by rw [hdep 7 rfl]; decide)
        case hdone =>
         intro L V X hall hJ
         exact absurd hJ.no (by rw [hall 7 (by decide)]; decide)
       | ok s j7 =>
        have HN := Lib.hid hn
        have HSS := Lib.hid (nameR_size HL.out HST6.out.rd.lt hn)
        have HNM : Hid (∀ X, RdAt R X j6 d → Calls Try.prog 38 #[.pointer (some ⟨R.rb, 0, none⟩)] X fun e w' => e = .returned (.string s) ∧ RdAt R w' j7 d ∧ Step (· = R.rb) X w') := by
         show ∀ X, _
         intro X hX
         refine (name_any R HL.out X j6 d hX).mono ?_
         intro e w' hp
         rw [HN.out] at hp
         obtain ⟨⟨v, he, hv⟩, h1, h2⟩ := hp
         exact ⟨by rw [he, hv], h1, h2⟩
        have HE7 : Hid (r = (if isF R.l j7 [44] then barsR gn R.l (j7 + 1) (ns ++ [s]) else (needR R.l j7 [124]).bind fun _ j => .ok (ns ++ [s]) j).bind fun ns j => (blockR f R.l j d).bind fun b j => .ok (nm, ns, b) j) := by show _ = _; rw [HE6.out, HN.out]; rfl
        clear hn
        go_cut [] (fun wx => ∃ v9 : Value, ClSt R w1 bt nm t d wx j7 (ns ++ [s]) v9)
        case first =>
         first
         | (go_region_law (first
             | (refine step_append_row _ rfl (w8.heap.size + 1) (.tmp 32) (.tmp 36) 24 rfl w1.heap.size 9 i0 (.string ⟨#[]⟩) 1 16 Try.underlying24 HI.out HZ0.out HZ1.out HZ2.out rfl (by decide) _ _ _ (by simp [Act.eval]) HOL9.out _ 1 _ (by simp [Act.eval]) HROW9.out rfl HONE9.out (by unfold maxLen; omega) (by omega) HLE9.out ?_
                intro v9 w9 hown9 hgrow9 hat9
                obtain ⟨a9, c9, rfl⟩ := owns_slice hown9
                have HEND : Hid (ClSt R w1 bt nm t d (w9.setCell ⟨bt, 5, none⟩ (.slice a9 (ns.length + 1) c9)) j7 (ns ++ [s]) (.slice a9 (ns.length + 1) c9)) := HST8.out.push hrb (by omega) ((Step.refl _ _).alloc _) hown9 hgrow9 HSS.out hlt8
                have hbb := (grown_step hgrow9).keep (blk_alloc (o' := .cells #[.string s] 9) HST8.out.blk) (fun e => by have := (HST8.out.on.lt _ e).1; omega)
                have bt5' := blk_cell hbb 5 _ rfl
                have bz5' := blk_free hbb 5
                clear hbb hown9 hgrow9 hat9)
             | (go_simp
                go_at_call 38
                refine (HNM.out _ (HST6.out.rd.quiet ((Step.refl _ _).drew))).mono ?_
                rintro e8 w8 ⟨rfl, hr8, hs8⟩
                have HST8 := Lib.hid ((HST6.out.quiet ((Step.refl _ _).drew)).read hrb (by omega) hr8 hs8)
                have HOL9 : Hid ((w8.alloc (.cells #[.string s] 9)).ownsRow w1.heap.size 9 1 (.slice oa ns.length oc) ns.length (ns.map .string)) := HST8.out.on.alloc _
                have HROW9 : Hid (Row (w8.alloc (.cells #[.string s] 9)) (w8.heap.size + 1) (.slice (some ⟨w8.heap.size, 0, none⟩) 1 1) 1 [.string s]) := Row.new (blk_new _ _) (by decide)
                have HONE9 : Hid (∀ u ∈ [Value.string s], u.oneCell' = true) := by
                 show ∀ u ∈ _, _
                 intro u hu
                 simp at hu
                 subst hu; rfl
                have HLE9 : Hid (w1.heap.size ≤ (w8.alloc (.cells #[.string s] 9)).heap.size) := by
                 show _ ≤ _
                 have := HST8.out.st.size
                 simp; omega
                have bt58 := blk_cell HST8.out.blk 5 _ rfl
                have bt59 := blk_cell (blk_alloc (o' := .cells #[.string s] 9) HST8.out.blk) 5 _ rfl
                clear hr8 hs8)))
         | fail
         all_goals (
          clear p0 bt5
          go_wp2_with fail
          go_meet
          case rel => exact ⟨_, HEND.out⟩)
        case rest =>
         obtain ⟨v9, hls⟩ := hcut
         obtain ⟨w9, rfl⟩ : ∃ w9 : World, w9 = wc := ⟨_, rfl⟩
         have HST9 := Lib.hid hls
         clear hls p0 bt5
         have p0 := HKP.out w9 HST9.out.st
         go_wp2_with fail
         cases hc : isF R.l j7 [44] with
         | true =>
          have HC := Lib.hid hc
          clear hc
          refine (is_yes R HL.out ⟨#[44]⟩ _ j7 d HST9.out.rd (by decide) HC.out).mono ?_
          rintro e wa ⟨rfl, hra, sa⟩
          have HSTA := Lib.hid (HST9.out.read hrb (by omega) hra sa)
          have HRE : Hid (r = (barsR gn R.l (j7 + 1) (ns ++ [s])).bind fun ns j => (blockR f R.l j d).bind fun b j => .ok (nm, ns, b) j) := by show _ = _; rw [HE7.out, HC.out, if_pos rfl]
          clear hra sa p0
          go_wp2_with fail
          go_roundg gn
          case rel => exact ⟨by omega, j7 + 1, ns ++ [s], v9, HRE.out, HSTA.out⟩
          case measure => omega
         | false =>
          have HC := Lib.hid hc
          clear hc
          refine (is_no R HL.out ⟨#[44]⟩ _ j7 d HST9.out.rd (by decide) HC.out).mono ?_
          rintro e wa ⟨rfl, hra, sa⟩
          have HSTA := Lib.hid (HST9.out.read hrb (by omega) hra sa)
          have HRE : Hid (r = ((needR R.l j7 [124]).bind fun _ j => .ok (ns ++ [s]) j).bind fun ns j => (blockR f R.l j d).bind fun b j => .ok (nm, ns, b) j) := by show _ = _; rw [HE7.out, HC.out, if_neg (by decide)]
          clear hra sa p0
          have p0 := HKP.out wa HSTA.out.st
          go_wp2_with fail
          refine (need_any R HL.out wa.heap.size ⟨#[124]⟩ _ j7 d (HSTA.out.rd.quiet ((Step.refl _ _).alloc _)) (by decide) (blk_cell (blk_new _ _) 0 _ rfl)).mono ?_
          rintro e wb hp
          have hp2 : PPost R d UnitV (needR R.l j7 [124]) _ e wb := hp
          cases hn : needR R.l j7 [124] with
          | out => exact (needR_out hn).elim
          | err c ln col =>
           rw [hn] at hp2
           obtain ⟨rfl, sb⟩ := hp2
           refine ⟨rfl, CloPost.of_err (c := c) (ln := ln) (col := col) (by rw [HRE.out, hn]; rfl) rfl ?_⟩
           exact ((HS1.out.mono (fun _ _ h => h.elim)).trans HSTA.out.st).trans ((((Step.refl (· = R.rb) _).alloc _).trans sb).mono (fun _ _ e => .inl e))
          | ok u2 j9 =>
           have HNB := Lib.hid hn
           rw [hn] at hp2
           obtain ⟨⟨v, rfl, rfl⟩, hrb2, sb⟩ := hp2
           have HSTB := Lib.hid (HSTA.out.read hrb (by omega) hrb2 (((Step.refl (· = R.rb) _).alloc _).trans sb))
           have HRF : Hid (r = ((blockR f R.l j9 d).bind fun b j => .ok (nm, ns ++ [s], b) j)) := by show _ = _; rw [HRE.out, HNB.out]; rfl
           clear hn hrb2 sb p0 hp
           go_wp2_with fail
           go_meet
           case rel => exact ⟨j9, ns ++ [s], v9, HRF.out, HSTB.out⟩
   case rest =>
    obtain ⟨jn, ns, vn, hrn, hls⟩ := hcut
    obtain ⟨w9, rfl⟩ : ∃ w9 : World, w9 = wc := ⟨_, rfl⟩
    have HST9 := Lib.hid hls
    have HRN := Lib.hid hrn
    clear hls hrn p0
    have p0 := HKP.out w9 HST9.out.st
    go_wp2_with fail
    refine (IH.out R w9 jn d HL.out HST9.out.rd hd (fun e => HNO.out (by rw [HRN.out, e]; rfl))).mono ?_
    rintro e wa hp
    have hp2 : PPost R d (StsV w9.heap.size) (blockR f R.l jn d) _ e wa := hp
    cases hn : blockR f R.l jn d with
    | out => exact absurd (by rw [HRN.out, hn]; rfl) HNO.out
    | err c ln col =>
     rw [hn] at hp2
     obtain ⟨rfl, sa⟩ := hp2
     refine ⟨rfl, CloPost.of_err (c := c) (ln := ln) (col := col) (by rw [HRN.out, hn]; rfl) rfl ?_⟩
     exact ((HS1.out.mono (fun _ _ h => h.elim)).trans HST9.out.st).trans (sa.mono (fun _ _ e => .inl e))
    | ok bs ja =>
     have HNB := Lib.hid hn
     rw [hn] at hp2
     obtain ⟨⟨vb, rfl, xb, hrow, hels⟩, hra, sa⟩ := hp2
     obtain ⟨ab, cb, rfl, hvb⟩ : ∃ (ab : Option Addr) (cb : Nat), vb = .slice ab bs.length cb ∧ RowP wa (fun k => w9.heap.size ≤ k) (.slice ab bs.length cb) bs.length xb := by
      obtain ⟨ab, cb, hv, -⟩ := id hrow
      exact ⟨ab, cb, hv, by rw [← hv]; exact hrow⟩
     have HROW := Lib.hid hvb
     have HELS := Lib.hid hels
     have HRA2 := Lib.hid hra
     have HSTA := Lib.hid (HST9.out.read hrb (by omega) hra sa)
     have HSA := Lib.hid sa
     clear hn hrow hels hra sa hvb p0 hp
     have bt6 := blk_cell HSTA.out.blk 6 _ rfl
     have bz6 := blk_free HSTA.out.blk 6
     have HS4 : Hid (Step (· = bt) wa (wa.setCell ⟨bt, 6, none⟩ (.slice ab bs.length cb))) := (Step.refl (· = bt) _).setCell _ _ (fun _ => rfl)
     have HBTE : Hid ((wa.setCell ⟨bt, 6, none⟩ (.slice ab bs.length cb)).heap[bt]? = some (.cells #[.int .i64 17, .string nm, .int .u64 0, .bool false, .slice none 0 0, vn, .slice ab bs.length cb, .int .i64 t.line, .int .i64 t.col] 29 (0, 0))) := blk_set HSTA.out.blk 6 (.slice ab bs.length cb)
     have h9 := HST9.out.st.size
     have hsa := HSA.out.size
     go_wp2_with fail
     refine bodyPost_end (results_none rfl _ _ _) rfl ?_
     refine CloPost.of_ok (a := (nm, ns, bs)) (j := ja) (by rw [HRN.out, HNB.out]; rfl) rfl ⟨xb, vn, _, HBTE.out, HNS.out, HST9.out.sz, RowP.of_owns (owns_stay HSTA.out.on HS4.out (fun q hq e => by have := (HSTA.out.on.lt q hq).1; omega)) (fun q hq => by have := (HSTA.out.on.lt q hq).1; have := HS1.out.size; omega), StsP.mono (fun q _ hq => by have := HS1.out.size; omega) _ _ (StsP.step HS4.out (fun q hq e => by omega) _ _ HELS.out), (HROW.out.step HS4.out (fun q hq e => by omega)).mono (fun q _ hq => by have := HS1.out.size; omega)⟩ (HSTA.out.rd.step HS4.out (fun q hq e => by omega)) ?_
     exact ((HS1.out.mono (fun _ _ h => h.elim)).trans HSTA.out.st).trans (HS4.out.mono (fun _ _ e => .inr e))
theorem ExEl (a : Ex) : ElOk (fun w P cs => ExP w P a cs) := ⟨fun _ _ _ _ cs hs hP h => ExP.step hs hP a cs h, fun _ _ _ cs hp h => ExP.mono hp a cs h⟩
def madeF (f : Nat) (l : List Tok) (i d : Nat) : Res (ByteArray × List ByteArray × List Ex) := (nameR l i).bind fun n j => (needR l j [123]).bind fun _ j => if isF l j [125] then .ok (n, [], []) (j + 1) else (madeR f l j d [] []).bind fun p j => .ok (n, p.1, p.2) j
/- What made leaves in its expression. -/
def MadeLeft (n0 bt : Nat) (t : Tok) (w' : World) (a : ByteArray × List ByteArray × List Ex) : Prop := ∃ (xa : List Value) (vn va : Value), w'.heap[bt]? = some (.cells #[.int .i64 11, .string a.1, .int .u64 0, .bool false, va, vn, .slice none 0 0, .int .i64 t.line, .int .i64 t.col] 29 (0, 0)) ∧
 a.1.size ≤ 9223372036854775807 ∧ (∀ s ∈ a.2.1, s.size ≤ 9223372036854775807) ∧ RowP w' (fun k => n0 ≤ k) vn a.2.1.length (a.2.1.map .string) ∧ ExsP w' (fun k => n0 ≤ k) a.2.2 xa ∧ RowP w' (fun k => n0 ≤ k) va a.2.2.length xa
def MadeOk (f : Nat) : Prop := ∀ (R : Rdr) (w : World) (i d bt : Nat) (t : Tok), LOk R.l → RdAt R w i d → d ≤ 40 → R.rb < bt → w.heap[bt]? = some (.cells #[.int .i64 0, .string noB, .int .u64 0, .bool false, .slice none 0 0, .slice none 0 0, .slice none 0 0, .int .i64 t.line, .int .i64 t.col] 29 (0, 0)) → madeF f R.l i d ≠ .out →
 Calls Try.prog 74 #[.agg #[.pointer (some ⟨R.rb, 0, none⟩)], .pointer (some ⟨bt, 0, none⟩)] w (CloPost R d bt (MadeLeft w.heap.size bt t) (madeF f R.l i d) w)
structure MdSt (R : Rdr) (w1 : World) (bt : Nat) (nm : ByteArray) (t : Tok) (d : Nat) (X : World) (i' : Nat) (ns : List ByteArray) (al : List Ex) (vn va : Value) (xs : List Value) : Prop where
 rd : RdAt R X i' d
 blk : X.heap[bt]? = some (.cells #[.int .i64 11, .string nm, .int .u64 0, .bool false, va, vn, .slice none 0 0, .int .i64 t.line, .int .i64 t.col] 29 (0, 0))
 on : X.ownsRow w1.heap.size 9 1 vn ns.length (ns.map .string)
 oa : X.ownsRow w1.heap.size 29 9 va al.length xs
 el : ExsP X (fun q => w1.heap.size ≤ q ∧ va.ownBlock ≠ some q ∧ vn.ownBlock ≠ some q) al xs
 ne : ∀ q, vn.ownBlock = some q → va.ownBlock ≠ some q
 sz : ∀ s ∈ ns, s.size ≤ 9223372036854775807
 few : ns.length ≤ 12 ∧ al.length ≤ ns.length
 st : Step (fun k => k = R.rb ∨ k = bt) w1 X
theorem MdSt.quiet {R : Rdr} {w1 : World} {bt : Nat} {nm : ByteArray} {t : Tok} {d : Nat} {X X' : World} {i' : Nat} {ns : List ByteArray} {al : List Ex} {vn va : Value} {xs : List Value} (h : MdSt R w1 bt nm t d X i' ns al vn va xs) (hs : Step (fun _ => False) X X') : MdSt R w1 bt nm t d X' i' ns al vn va xs :=
 ⟨h.rd.quiet hs, hs.keep h.blk (fun h => h), hs.owns h.on (fun _ _ h => h), hs.owns h.oa (fun _ _ h => h), ExsP.step hs (fun _ _ h => h) _ _ h.el, h.ne, h.sz, h.few, h.st.trans (hs.mono (fun _ _ h => h.elim))⟩
theorem MdSt.read {R : Rdr} {w1 : World} {bt : Nat} {nm : ByteArray} {t : Tok} {d : Nat} {X X' : World} {i' i2 : Nat} {ns : List ByteArray} {al : List Ex} {vn va : Value} {xs : List Value} (h : MdSt R w1 bt nm t d X i' ns al vn va xs) (hrb : R.rb < bt) (hw : R.rb < w1.heap.size) (hr : RdAt R X' i2 d) (hs : Step (· = R.rb) X X') : MdSt R w1 bt nm t d X' i2 ns al vn va xs :=
 ⟨hr, hs.keep h.blk (by omega), hs.owns h.on (fun _ _ h => by omega), hs.owns h.oa (fun _ _ h => by omega), ExsP.step hs (fun _ hk h => by have := hk.1; omega) _ _ h.el, h.ne, h.sz, h.few, h.st.trans (hs.mono (fun _ _ e => .inl e))⟩
/- A name is put behind the others. -/
theorem MdSt.pushN {R : Rdr} {w1 : World} {bt : Nat} {nm : ByteArray} {t : Tok} {d : Nat} {X X2 X3 : World} {i' : Nat} {ns : List ByteArray} {al : List Ex} {vn va v9 : Value} {xs : List Value} {s : ByteArray} (h : MdSt R w1 bt nm t d X i' ns al vn va xs) (hrb : R.rb < bt) (hbt : bt < w1.heap.size) (h2 : Step (fun _ => False) X X2)
  (hown : X3.ownsRow w1.heap.size 9 1 v9 (ns.length + 1) (ns.map .string ++ [.string s])) (hgrow : X2.grownBy X3 vn.ownBlock) (hat : v9.ownBlock = vn.ownBlock ∨ v9.ownBlock = some X2.heap.size) (hs : s.size ≤ 9223372036854775807) (hlt : ns.length < 12) :
  MdSt R w1 bt nm t d (X3.setCell ⟨bt, 5, none⟩ v9) i' (ns ++ [s]) al v9 va xs := by
 have h3 : Step (fun q => vn.ownBlock = some q) X2 X3 := grown_step hgrow
 have h4 : Step (· = bt) X3 (X3.setCell ⟨bt, 5, none⟩ v9) := (Step.refl _ _).setCell _ _ (fun _ => rfl)
 have ho : ∀ q, vn.ownBlock = some q → w1.heap.size ≤ q ∧ q < X.heap.size := fun q hq => h.on.lt q hq
 have hlen : (ns ++ [s]).length = ns.length + 1 := by simp
 have hb3 := h3.keep (h2.keep h.blk (fun h => h)) (fun e => by have := (ho bt e).1; omega)
 refine ⟨((h.rd.quiet h2).step h3 (fun q hq e => by have := (ho q e).1; omega)).step h4 (fun q hq e => by omega), blk_set hb3 5 v9, ?_, ?_, ?_, ?_, ?_, ⟨by rw [hlen]; omega, by rw [hlen]; have := h.few.2; omega⟩, ?_⟩
 ·rw [hlen, List.map_append]
  exact owns_stay hown h4 (fun q hq e => by have := (hown.lt q hq).1; omega)
 ·refine owns_stay (owns_stay (h2.owns h.oa (fun _ _ h => h)) h3 (fun q hq e => h.ne q e hq)) h4 (fun q hq e => by have := (h.oa.lt q hq).1; omega)
 ·have h5 := ExsP.mono (P' := fun q => (w1.heap.size ≤ q ∧ va.ownBlock ≠ some q ∧ vn.ownBlock ≠ some q) ∧ q < X.heap.size) (fun q h7 h8 => ⟨h8, h7⟩) _ _ h.el
  have h6 := ExsP.step h4 (fun q hq e => by have := hq.1.1; omega) _ _ (ExsP.step h3 (fun q hq e => hq.1.2.2 e) _ _ (ExsP.step h2 (fun _ _ h => h) _ _ h5))
  refine ExsP.mono (fun q _ hq => ⟨hq.1.1, hq.1.2.1, fun e => ?_⟩) _ _ h6
  rcases hat with h7 | h7
  ·exact hq.1.2.2 (by rw [← h7]; exact e)
  ·rw [h7] at e
   have e2 : X2.heap.size = q := Option.some.inj e
   have := h2.size
   have := hq.2
   omega
 ·intro q hq e
  rcases hat with h7 | h7
  ·exact h.ne q (by rw [← h7]; exact hq) e
  ·rw [h7] at hq
   have e2 : X2.heap.size = q := Option.some.inj hq
   have := (h.oa.lt q e).2
   have := h2.size
   omega
 ·intro x hx
  rcases List.mem_append.1 hx with hx | hx
  ·exact h.sz x hx
  ·rw [List.mem_singleton.1 hx]; exact hs
 ·refine ((h.st.trans (h2.mono (fun _ _ h => h.elim))).then h3 (fun q hq e => by have := (ho q e).1; omega)).trans (h4.mono (fun _ _ e => .inr e))
/- An expression is put behind the others. -/
theorem MdSt.pushA {R : Rdr} {w1 : World} {bt : Nat} {nm : ByteArray} {t : Tok} {d : Nat} {w4 X : World} {j8 j9 : Nat} {ns : List ByteArray} {al : List Ex} {oa1 oa2 : Option Addr} {oc1 oc2 : Nat} {xs : List Value} {ex : Ex} {g9 c9 : Nat} {cs9 : List Value} (h : MdSt R w1 bt nm t d w4 j8 ns al (.slice oa1 ns.length oc1) (.slice oa2 al.length oc2) xs) (hrb : R.rb < bt) (hbt : bt < w1.heap.size) (hlt : al.length < ns.length)
  (h1 : RdAt R X j9 d) (h2 : X.heap[bt]? = some (.cells #[.int .i64 11, .string nm, .int .u64 0, .bool false, .slice (some ⟨g9, 0, none⟩) (al.length + 1) c9, .slice oa1 ns.length oc1, .slice none 0 0, .int .i64 t.line, .int .i64 t.col] 29 (0, 0))) (h3 : X.ownsRow w1.heap.size 29 9 (.slice (some ⟨g9, 0, none⟩) (al.length + 1) c9) (al.length + 1) (xs ++ cs9)) (h4 : ExP X (fun q => w4.heap.size ≤ q ∧ q ≠ g9) ex cs9) (h5 : (Value.slice oa2 al.length oc2).ownBlock = some g9 ∨ w4.heap.size ≤ g9)
  (h6 : Step (fun q => q = R.rb ∨ q = bt ∨ (Value.slice oa2 al.length oc2).ownBlock = some q) w4 X) : MdSt R w1 bt nm t d X j9 ns (al ++ [ex]) (.slice oa1 ns.length oc1) (.slice (some ⟨g9, 0, none⟩) (al.length + 1) c9) (xs ++ cs9) := by
 have hol := h.on
 have hne := h.ne
 have hg9 : ∀ q, (Value.slice oa1 ns.length oc1).ownBlock = some q → q ≠ g9 := by
  intro q hq e
  subst e
  rcases h5 with h5 | h5
  ·exact hne q hq h5
  ·have := (hol.lt q hq).2; omega
 have hlen : (al ++ [ex]).length = al.length + 1 := by simp
 refine ⟨h1, h2, owns_stay hol h6 (fun q hq e => ?_), by rw [hlen]; exact h3, ExsP.snoc ?_ ?_, fun q hq e => ?_, h.sz, ⟨h.few.1, by rw [hlen]; omega⟩, h.st.then h6 (fun q hq e => ?_)⟩
 ·have h7 := (hol.lt q hq).1
  rcases e with e | e | e
  ·omega
  ·omega
  ·exact hne q hq e
 ·refine ExsP.mono ?_ _ _ (ExsP.step h6 ?_ _ _ (ExsP.mono (P' := fun q => (w1.heap.size ≤ q ∧ (Value.slice oa2 al.length oc2).ownBlock ≠ some q ∧ (Value.slice oa1 ns.length oc1).ownBlock ≠ some q) ∧ q < w4.heap.size) (fun q h7 h8 => ⟨h8, h7⟩) _ _ h.el))
  ·intro q _ hq
   refine ⟨hq.1.1, fun e => ?_, hq.1.2.2⟩
   have e2 : g9 = q := Option.some.inj e
   rcases h5 with h5 | h5
   ·exact hq.1.2.1 (by rw [← e2]; exact h5)
   ·have := hq.2; omega
  ·intro q hq e
   rcases e with e | e | e
   ·have := hq.1.1; omega
   ·have := hq.1.1; omega
   ·exact hq.1.2.1 e
 ·refine ExP.mono (fun q _ hq => ⟨Nat.le_trans h.st.size hq.1, fun e => hq.2 (Option.some.inj e).symm, fun e => ?_⟩) _ _ h4
  have := (hol.lt q e).2
  have := hq.1
  omega
 ·exact hg9 q hq (Option.some.inj e).symm
 ·rcases e with e | e | e
  ·exact .inl e
  ·exact .inr e
  ·have := (h.oa.lt _ e).1; omega
theorem made_step (f : Nat) (ih : ∀ f', f' < f → LevelOk f') : MadeOk f := by
 intro R w i d bt t hl h hd hrb hbt hno
 have HL := Lib.hid hl
 have IH := Lib.hid ih
 obtain ⟨r, hr⟩ : ∃ r, r = madeF f R.l i d := ⟨_, rfl⟩
 have HRR : Hid (r = (nameR R.l i).bind fun n j => (needR R.l j [123]).bind fun _ j => if isF R.l j [125] then .ok (n, [], []) (j + 1) else (madeR f R.l j d [] []).bind fun p j => .ok (n, p.1, p.2) j) := by show _ = _; rw [hr, madeF]
 rw [← hr] at hno ⊢
 have HNO := Lib.hid hno
 have hbtl := blk_lt hbt
 obtain ⟨w1, hw1⟩ : ∃ w1 : World, w1 = w.alloc (.cells #[.pointer (some ⟨R.rb, 0, none⟩)] 45) := ⟨_, rfl⟩
 have HS1 : Hid (Step (fun _ => False) w w1) := by show Step _ _ _; rw [hw1]; exact (Step.refl _ _).alloc _
 have HP1 : Hid (w1.heap[w.heap.size]? = some (.cells #[.pointer (some ⟨R.rb, 0, none⟩)] 45 (0, 0))) := by show _ = _; rw [hw1]; exact blk_new _ _
 have HBT1 := Lib.hid (HS1.out.keep hbt (fun h => h))
 have HW1 := Lib.hid hw1
 have H1 := Lib.hid (h.quiet HS1.out)
 have hn1 := blk_lt HP1.out
 have HKP : Hid (∀ X : World, Step (fun q => q = R.rb ∨ q = bt) w1 X → X.cell? ⟨w.heap.size, 0, none⟩ = some (.pointer (some ⟨R.rb, 0, none⟩))) := by
  show ∀ X, _
  intro X hX
  exact blk_cell (hX.keep HP1.out (by omega)) 0 _ rfl
 obtain ⟨i0, hi0, hz0, hz1, hz2⟩ := info_parts Try.infoString
 have HI := Lib.hid hi0
 have HZ0 := Lib.hid hz0
 have HZ1 := Lib.hid hz1
 have HZ2 := Lib.hid hz2
 have p0 := HKP.out w1 (Step.refl _ _)
 obtain ⟨j0, hj0, hy0, hy1, hy2⟩ := info_parts Try.infoExpr
 have HJ := Lib.hid hj0
 have HY0 := Lib.hid hy0
 have HY1 := Lib.hid hy1
 have HY2 := Lib.hid hy2
 clear ih hl h hno hr hw1 hbt hi0 hz0 hz1 hz2 hj0 hy0 hy1 hy2
 go_enter Try.func74, Try.ntmps74
 go_upto_region 1 with fail
 rw [← HW1.out]
 go_wp2_with fail
 cases hn : nameR R.l i with
 | out => exact (nameR_out hn).elim
 | err c ln col =>
  have HN := Lib.hid hn
  clear hn
  refine (name_any R HL.out _ i d H1.out).mono ?_
  rintro e wq hp
  rw [HN.out] at hp
  obtain ⟨rfl, sq⟩ := hp
  refine ⟨rfl, CloPost.of_err (c := c) (ln := ln) (col := col) (by rw [HRR.out, HN.out]; rfl) rfl ?_⟩
  exact ((HS1.out.mono (fun _ _ h => h.elim)).trans sq).mono (fun _ _ e => .inl e)
 | ok nm j =>
  have HN := Lib.hid hn
  have HNS := Lib.hid (nameR_size HL.out H1.out.lt hn)
  clear hn
  refine (name_any R HL.out _ i d H1.out).mono ?_
  rintro e w2 hp
  rw [HN.out] at hp
  obtain ⟨⟨v, rfl, rfl⟩, hr2, s2⟩ := hp
  have HR2 := Lib.hid hr2
  have HS2 := Lib.hid s2
  have HBT2 := Lib.hid (s2.keep HBT1.out (by omega))
  have HRA : Hid (r = (needR R.l j [123]).bind fun _ j => if isF R.l j [125] then .ok (nm, [], []) (j + 1) else (madeR f R.l j d [] []).bind fun p j => .ok (nm, p.1, p.2) j) := by show _ = _; rw [HRR.out, HN.out]; rfl
  have bt0 := blk_cell HBT2.out 0 _ rfl
  have bz0 := blk_free HBT2.out 0
  have bt1 := blk_cell HBT2.out 1 _ rfl
  have bz1 := blk_free HBT2.out 1
  obtain ⟨w3, hw3⟩ : ∃ w3 : World, w3 = (w2.setCell ⟨bt, 0, none⟩ (.int .i64 11)).setCell ⟨bt, 1, none⟩ (.string nm) := ⟨_, rfl⟩
  have HS3 : Hid (Step (· = bt) w2 w3) := by show Step _ _ _; rw [hw3]; exact ((Step.refl (· = bt) _).setCell _ _ (fun _ => rfl)).setCell _ _ (fun _ => rfl)
  have HBT3 : Hid (w3.heap[bt]? = some (.cells #[.int .i64 11, .string nm, .int .u64 0, .bool false, .slice none 0 0, .slice none 0 0, .slice none 0 0, .int .i64 t.line, .int .i64 t.col] 29 (0, 0))) := by show _ = _; rw [hw3]; exact blk_set (blk_set HBT2.out 0 (.int .i64 11)) 1 (.string nm)
  have HS13 : Hid (Step (fun q => q = R.rb ∨ q = bt) w1 w3) := (HS2.out.mono (fun _ _ e => .inl e)).trans (HS3.out.mono (fun _ _ e => .inr e))
  have HST3 : Hid (MdSt R w1 bt nm t d w3 j [] [] (.slice none 0 0) (.slice none 0 0) []) := ⟨HR2.out.step HS3.out (fun k hk e => by omega), HBT3.out, World.ownsRow_nil _ _ _ _, World.ownsRow_nil _ _ _ _, by rw [ExsP], (fun _ h => nomatch h), (fun _ h => nomatch h), by simp, HS13.out⟩
  clear hr2 s2 p0
  go_upto_region 2 with fail
  rw [← hw3]
  clear hw3 bt0 bz0 bt1 bz1
  have p0 := HKP.out w3 HS13.out
  go_wp2_with fail
  refine (need_any R HL.out w3.heap.size ⟨#[123]⟩ _ j d (HST3.out.rd.quiet ((Step.refl _ _).alloc _)) (by decide) (blk_cell (blk_new _ _) 0 _ rfl)).mono ?_
  rintro e w4 hp
  have hp2 : PPost R d UnitV (needR R.l j [123]) _ e w4 := hp
  cases hn : needR R.l j [123] with
  | out => exact (needR_out hn).elim
  | err c ln col =>
   rw [hn] at hp2
   obtain ⟨rfl, s4⟩ := hp2
   refine ⟨rfl, CloPost.of_err (c := c) (ln := ln) (col := col) (by rw [HRA.out, hn]; rfl) rfl ?_⟩
   exact ((HS1.out.mono (fun _ _ h => h.elim)).trans HST3.out.st).trans ((((Step.refl (· = R.rb) _).alloc _).trans s4).mono (fun _ _ e => .inl e))
  | ok u j4 =>
   have HN4 := Lib.hid hn
   rw [hn] at hp2
   obtain ⟨⟨v, rfl, rfl⟩, hr4, s4⟩ := hp2
   have HST4 := Lib.hid (HST3.out.read hrb (by omega) hr4 (((Step.refl (· = R.rb) _).alloc _).trans s4))
   have HRB : Hid (r = if isF R.l j4 [125] then .ok (nm, [], []) (j4 + 1) else (madeR f R.l j4 d [] []).bind fun p j => .ok (nm, p.1, p.2) j) := by show _ = _; rw [HRA.out, HN4.out]; rfl
   clear hn hr4 s4 p0 hp
   have p0 := HKP.out w4 HST4.out.st
   go_wp2_with fail
   cases hb : isF R.l j4 [125] with
   | true =>
    have HB := Lib.hid hb
    clear hb
    refine (is_yes R HL.out ⟨#[125]⟩ _ j4 d HST4.out.rd (by decide) HB.out).mono ?_
    rintro e w5 ⟨rfl, hr5, h5⟩
    have HST5 := Lib.hid (HST4.out.read hrb (by omega) hr5 h5)
    clear hr5 h5 p0
    go_wp2_with fail
    refine bodyPost_ret (results_none rfl _ _ _) rfl ?_
    refine CloPost.of_ok (a := (nm, [], [])) (j := j4 + 1) (by rw [HRB.out, HB.out, if_pos rfl]) rfl ⟨[], _, _, HST5.out.blk, HNS.out, (fun _ h => nomatch h), RowP.nil _ _ _, by rw [ExsP], RowP.nil _ _ _⟩ HST5.out.rd ((HS1.out.mono (fun _ _ h => h.elim)).trans HST5.out.st)
   | false =>
    have HB := Lib.hid hb
    clear hb
    refine (is_no R HL.out ⟨#[125]⟩ _ j4 d HST4.out.rd (by decide) HB.out).mono ?_
    rintro e w5 ⟨rfl, hr5, h5⟩
    have HST5 := Lib.hid (HST4.out.read hrb (by omega) hr5 h5)
    have HRC : Hid (r = (madeR f R.l j4 d [] []).bind fun p j => .ok (nm, p.1, p.2) j) := by show _ = _; rw [HRB.out, HB.out, if_neg (by decide)]
    clear hr5 h5 p0
    go_wp2_with fail
    go_loopg [] f (fun gg wr => gg ≤ f ∧ ∃ (i' : Nat) (ns : List ByteArray) (al : List Ex) (vn va : Value) (xs : List Value), r = ((madeR gg R.l i' d ns al).bind fun p j => .ok (nm, p.1, p.2) j) ∧ MdSt R w1 bt nm t d wr i' ns al vn va xs)
    case atStart => exact ⟨Nat.le_refl _, j4, [], [], _, _, [], HRC.out, HST5.out⟩
    case round =>
      obtain ⟨hgf, i', ns, al, vn, va, xs, hrq, hst⟩ := hrel
      obtain ⟨gn, rfl⟩ : ∃ gn, gk = gn + 1 := by
       cases gk with
       | zero => exact absurd hrq (by rw [madeR]; exact HNO.out)
       | succ gn => exact ⟨gn, rfl⟩
      have HEQ : Hid (r = ((roomR ns.length 12 R.l i').bind fun _ i => (nameR R.l i).bind fun n j => (needR R.l j [58]).bind fun _ j => (levelR gn R.l j d 0).bind fun x j => if isF R.l j [44] then madeR gn R.l (j + 1) d (ns ++ [n]) (al ++ [x]) else (needR R.l j [125]).bind fun _ j => .ok (ns ++ [n], al ++ [x]) j).bind fun p j => .ok (nm, p.1, p.2) j) := by show _ = _; rw [hrq, madeR]
      obtain ⟨oa1, oc1, rfl⟩ := owns_slice hst.on
      obtain ⟨oa2, oc2, rfl⟩ := owns_slice hst.oa
      have HST := Lib.hid hst
      have hfew := hst.few
      have p0 := HKP.out wr hst.st
      have bt5 := blk_cell hst.blk 5 _ rfl
      clear hrq hst
      go_upto_region 4 with fail
      go_still_tail 6, (by kernel_rfl)
      change wpList _ _ _ _ _ wr.drew
      obtain ⟨wd, hwd⟩ : ∃ wd, wd = wr.drew := ⟨_, rfl⟩
      have HSTD : Hid (MdSt R w1 bt nm t d wd i' ns al (.slice oa1 ns.length oc1) (.slice oa2 al.length oc2) xs) := by show MdSt _ _ _ _ _ _ _ _ _ _ _ _ _; rw [hwd]; exact HST.out.quiet ((Step.refl _ _).drew)
      rw [← hwd]
      clear hwd p0 bt5
      have p0 := HKP.out wd HSTD.out.st
      have bt5 := blk_cell HSTD.out.blk 5 _ rfl
      go_wp2_with fail
      refine (room_any R wd ns.length 12 i' d HSTD.out.rd).mono ?_
      rintro e w6 hp
      cases hn : roomR ns.length 12 R.l i' with
      | out => exact (roomR_out hn).elim
      | err c ln col =>
       rw [hn] at hp
       obtain ⟨rfl, s6⟩ := hp
       refine ⟨rfl, CloPost.of_err (c := c) (ln := ln) (col := col) (by rw [HEQ.out, hn]; rfl) rfl ?_⟩
       exact ((HS1.out.mono (fun _ _ h => h.elim)).trans HSTD.out.st).trans (s6.mono (fun _ _ e => .inl e))
      | ok u j6 =>
       have hji : j6 = i' ∧ ns.length < 12 := by
        unfold roomR at hn
        split at hn
        ·cases hn
        ·cases hn; exact ⟨rfl, by omega⟩
       obtain ⟨rfl, hlt12⟩ := hji
       have HN6 := Lib.hid hn
       rw [hn] at hp
       obtain ⟨⟨v, rfl, rfl⟩, hr6, s6⟩ := hp
       have HST6 := Lib.hid (HSTD.out.read hrb (by omega) hr6 s6)
       have HE6 : Hid (r = ((nameR R.l j6).bind fun n j => (needR R.l j [58]).bind fun _ j => (levelR gn R.l j d 0).bind fun x j => if isF R.l j [44] then madeR gn R.l (j + 1) d (ns ++ [n]) (al ++ [x]) else (needR R.l j [125]).bind fun _ j => .ok (ns ++ [n], al ++ [x]) j).bind fun p j => .ok (nm, p.1, p.2) j) := by show _ = _; rw [HEQ.out, HN6.out]; rfl
       clear hn hr6 s6 p0 bt5
       have p0 := HKP.out w6 HST6.out.st
       have bt5 := blk_cell HST6.out.blk 5 _ rfl
       go_upto_region 5 with fail
       cases hn : nameR R.l j6 with
       | out => exact (nameR_out hn).elim
       | err c ln col =>
        have HN := Lib.hid hn
        have HNM : Hid (∀ X, RdAt R X j6 d → Calls Try.prog 38 #[.pointer (some ⟨R.rb, 0, none⟩)] X fun e w' => e = .panicked [{ v := .iface 89 (.agg #[.int .i64 c, .int .i64 ln, .int .i64 col]), recovered := false }] ∧ Step (· = R.rb) X w') := by
         show ∀ X, _
         intro X hX
         have h9 := name_any R HL.out X j6 d hX
         rw [HN.out] at h9
         exact h9
        have HPAN : Hid (∀ wq : World, Step (· = R.rb) w6.drew wq → CloPost R d bt (MadeLeft w.heap.size bt t) r w (.panicked [{ v := .iface 89 (.agg #[.int .i64 c, .int .i64 ln, .int .i64 col]), recovered := false }]) wq) := by
         show ∀ wq, _
         intro wq hs
         refine CloPost.of_err (c := c) (ln := ln) (col := col) (by rw [HE6.out, HN.out]; rfl) rfl ?_
         exact ((HS1.out.mono (fun _ _ h => h.elim)).trans HST6.out.st).trans ((((Step.refl (· = R.rb) _).drew).trans hs).mono (fun _ _ e => .inl e))
        clear hn
        refine wp_region_relyD (by kernel_rfl) (ClJ R bt w.heap.size (.slice oa1 ns.length oc1) w6.drew) 13 rfl (by kernel_rfl) (by kernel_rfl) (by kernel_rfl) (by kernel_rfl) ?h0 ?hs ?hdone
        case h0 => exact ⟨rfl, rfl, (fun h => nomatch h), (fun h => nomatch h), (fun h => nomatch h), (fun h => nomatch h), (fun h => nomatch h), (fun h => nomatch h), (fun h => nomatch h), (fun h => nomatch h), (fun h => nomatch h)⟩
        case hs =>
         refine ⟨?_, ?_, ?_, ?_, ?_, ?_, ?_, ?_, ?_, ?_, ?_, ?_, ?_, trivial⟩
         ·intro L V X a ev evo hdf hL hdep hJ
          have hwx := hJ.wx; subst hwx
          have o1 := evo 1 rfl
          change a.tmps[1]?.getD undef = .pointer (some ⟨bt, 0, none⟩) at o1
          go_simp
          exact ⟨_, rfl, { hJ with no := by rw [updL_ne _ (by decide)]; exact hJ.no, v0 := fun _ => rfl }⟩
         ·intro L V X a ev evo hdf hL hdep hJ
          have hwx := hJ.wx; subst hwx
          have o1 := evo 1 rfl
          change a.tmps[1]?.getD undef = .pointer (some ⟨bt, 0, none⟩) at o1
          go_simp
          exact ⟨_, rfl, { hJ with no := by rw [updL_ne _ (by decide)]; exact hJ.no, v1 := fun _ => rfl }⟩
         ·intro L V X a ev evo hdf hL hdep hJ
          have hwx := hJ.wx; subst hwx
          have e28 := (ev 1 28 rfl (hdep 1 rfl)).trans (hJ.v1 (hdep 1 rfl))
          go_simp
          exact ⟨_, rfl, { hJ with no := by rw [updL_ne _ (by decide)]; exact hJ.no, v2 := fun _ => rfl }⟩
         ·intro L V X a ev evo hdf hL hdep hJ
          have hwx := hJ.wx; subst hwx
          have e29 := (ev 2 29 rfl (hdep 2 rfl)).trans (hJ.v2 (hdep 2 rfl))
          go_simp
          exact ⟨_, rfl, { hJ with no := by rw [updL_ne _ (by decide)]; exact hJ.no, v3 := fun _ => rfl }⟩
         ·intro L V X a ev evo hdf hL hdep hJ
          have hwx := hJ.wx; subst hwx
          have e30 := (ev 3 30 rfl (hdep 3 rfl)).trans (hJ.v3 (hdep 3 rfl))
          have q5 := blk_cell (((Step.refl (fun _ => False) w6).drew).keep HST6.out.blk (fun h => h)) 5 _ rfl
          go_simp
          exact ⟨_, rfl, { hJ with no := by rw [updL_ne _ (by decide)]; exact hJ.no, v4 := fun _ => rfl }⟩
         ·intro L V X a ev evo hdf hL hdep hJ
          have hwx := hJ.wx; subst hwx
          have o2 := evo 2 rfl
          change a.tmps[2]?.getD undef = .pointer (some ⟨w.heap.size, 0, none⟩) at o2
          go_simp
          exact ⟨_, rfl, { hJ with no := by rw [updL_ne _ (by decide)]; exact hJ.no, v5 := fun _ => rfl }⟩
         ·intro L V X a ev evo hdf hL hdep hJ
          have hwx := hJ.wx; subst hwx
          have e32 := (ev 5 32 rfl (hdep 5 rfl)).trans (hJ.v5 (hdep 5 rfl))
          have q0 := HKP.out w6.drew (HST6.out.st.trans ((Step.refl _ _).drew))
          go_simp
          exact ⟨_, rfl, { hJ with no := by rw [updL_ne _ (by decide)]; exact hJ.no, v6 := fun _ => rfl }⟩
         ·intro L V X a ev evo hdf hL hdep hJ
          have hwx := hJ.wx; subst hwx
          have e33 := (ev 6 33 rfl (hdep 6 rfl)).trans (hJ.v6 (hdep 6 rfl))
          go_simp
          refine (HNM.out _ (HST6.out.rd.quiet ((Step.refl _ _).drew))).mono ?_
          rintro e wq ⟨rfl, hs⟩
          exact ⟨hdf, HPAN.out wq hs⟩
         ·intro L V X a ev evo hdf hL hdep hJ
          have hwx := hJ.wx; subst hwx
          exact absurd hJ.no (by rw [hdep 7 rfl]; decide)
         ·intro L V X a ev evo hdf hL hdep hJ
          have hwx := hJ.wx; subst hwx
          exact absurd hJ.no (by rw [hdep 7 rfl]; decide)
         ·intro L V X a ev evo hdf hL hdep hJ
          have hwx := hJ.wx; subst hwx
          have e27 := (ev 0 27 rfl (hdep 0 rfl)).trans (hJ.v0 (hdep 0 rfl))
          go_simp
          exact ⟨_, rfl, { hJ with no := by rw [updL_ne _ (by decide)]; exact hJ.no, v10 := fun _ => rfl }⟩
         ·intro L V X a ev evo hdf hL hdep hJ
          have hwx := hJ.wx; subst hwx
          have e37 := (ev 10 37 rfl (hdep 10 rfl)).trans (hJ.v10 (hdep 10 rfl))
          go_simp
          exact ⟨_, rfl, { hJ with no := by rw [updL_ne _ (by decide)]; exact hJ.no, v11 := fun _ => rfl }⟩
         ·intro L V X a ev evo hdf hL hdep hJ
          have hwx := hJ.wx; subst hwx
          exact absurd hJ.no (by rw [hdep 7 rfl]; decide)
        case hdone =>
         intro L V X hall hJ
         exact absurd hJ.no (by rw [hall 7 (by decide)]; decide)
       | ok s j7 =>
        have HN := Lib.hid hn
        have HSS := Lib.hid (nameR_size HL.out HST6.out.rd.lt hn)
        have HNM : Hid (∀ X, RdAt R X j6 d → Calls Try.prog 38 #[.pointer (some ⟨R.rb, 0, none⟩)] X fun e w' => e = .returned (.string s) ∧ RdAt R w' j7 d ∧ Step (· = R.rb) X w') := by
         show ∀ X, _
         intro X hX
         refine (name_any R HL.out X j6 d hX).mono ?_
         intro e w' hp
         rw [HN.out] at hp
         obtain ⟨⟨v, he, hv⟩, h1, h2⟩ := hp
         exact ⟨by rw [he, hv], h1, h2⟩
        have HE7 : Hid (r = ((needR R.l j7 [58]).bind fun _ j => (levelR gn R.l j d 0).bind fun x j => if isF R.l j [44] then madeR gn R.l (j + 1) d (ns ++ [s]) (al ++ [x]) else (needR R.l j [125]).bind fun _ j => .ok (ns ++ [s], al ++ [x]) j).bind fun p j => .ok (nm, p.1, p.2) j) := by show _ = _; rw [HE6.out, HN.out]; rfl
        clear hn
        go_cut [] (fun wx => ∃ v9 : Value, MdSt R w1 bt nm t d wx j7 (ns ++ [s]) al v9 (.slice oa2 al.length oc2) xs)
        case first =>
         first
         | (go_region_law (first
             | (refine step_append_row _ rfl (w8.heap.size + 1) (.tmp 31) (.tmp 35) 24 rfl w1.heap.size 9 i0 (.string ⟨#[]⟩) 1 16 Try.underlying24 HI.out HZ0.out HZ1.out HZ2.out rfl (by decide) _ _ _ (by simp [Act.eval]) HOL9.out _ 1 _ (by simp [Act.eval]) HROW9.out rfl HONE9.out (by unfold maxLen; omega) (by omega) HLE9.out ?_
                intro v9 w9 hown9 hgrow9 hat9
                obtain ⟨a9, c9, rfl⟩ := owns_slice hown9
                have HEND : Hid (MdSt R w1 bt nm t d (w9.setCell ⟨bt, 5, none⟩ (.slice a9 (ns.length + 1) c9)) j7 (ns ++ [s]) al (.slice a9 (ns.length + 1) c9) (.slice oa2 al.length oc2) xs) := HST8.out.pushN hrb (by omega) ((Step.refl _ _).alloc _) hown9 hgrow9 hat9 HSS.out hlt12
                have hbb := (grown_step hgrow9).keep (blk_alloc (o' := .cells #[.string s] 9) HST8.out.blk) (fun e => by have := (HST8.out.on.lt _ e).1; omega)
                have bt5' := blk_cell hbb 5 _ rfl
                have bz5' := blk_free hbb 5
                clear hbb hown9 hgrow9 hat9)
             | (go_simp
                go_at_call 38
                refine (HNM.out _ (HST6.out.rd.quiet ((Step.refl _ _).drew))).mono ?_
                rintro e8 w8 ⟨rfl, hr8, hs8⟩
                have HST8 := Lib.hid ((HST6.out.quiet ((Step.refl _ _).drew)).read hrb (by omega) hr8 hs8)
                have HOL9 : Hid ((w8.alloc (.cells #[.string s] 9)).ownsRow w1.heap.size 9 1 (.slice oa1 ns.length oc1) ns.length (ns.map .string)) := HST8.out.on.alloc _
                have HROW9 : Hid (Row (w8.alloc (.cells #[.string s] 9)) (w8.heap.size + 1) (.slice (some ⟨w8.heap.size, 0, none⟩) 1 1) 1 [.string s]) := Row.new (blk_new _ _) (by decide)
                have HONE9 : Hid (∀ u ∈ [Value.string s], u.oneCell' = true) := by
                 show ∀ u ∈ _, _
                 intro u hu
                 simp at hu
                 subst hu; rfl
                have HLE9 : Hid (w1.heap.size ≤ (w8.alloc (.cells #[.string s] 9)).heap.size) := by
                 show _ ≤ _
                 have := HST8.out.st.size
                 simp; omega
                have bt58 := blk_cell HST8.out.blk 5 _ rfl
                have bt59 := blk_cell (blk_alloc (o' := .cells #[.string s] 9) HST8.out.blk) 5 _ rfl
                clear hr8 hs8)))
         | fail
         all_goals (
          clear p0 bt5
          go_wp2_with fail
          go_meet
          case rel => exact ⟨_, HEND.out⟩)
        case rest =>
         obtain ⟨v9, hls⟩ := hcut
         obtain ⟨w9, rfl⟩ : ∃ w9 : World, w9 = wc := ⟨_, rfl⟩
         obtain ⟨ns8, hns8⟩ : ∃ q, q = ns ++ [s] := ⟨_, rfl⟩
         rw [← hns8] at hls HE7
         have HST9 := Lib.hid hls
         have HLT8 : Hid (al.length < ns8.length) := by show _ < _; rw [hns8]; simp; omega
         clear hls p0 bt5 hns8
         have p0 := HKP.out w9 HST9.out.st
         go_wp2_with fail
         refine (need_any R HL.out w9.heap.size ⟨#[58]⟩ _ j7 d (HST9.out.rd.quiet ((Step.refl _ _).alloc _)) (by decide) (blk_cell (blk_new _ _) 0 _ rfl)).mono ?_
         rintro e wa hp
         have hp2 : PPost R d UnitV (needR R.l j7 [58]) _ e wa := hp
         cases hn : needR R.l j7 [58] with
         | out => exact (needR_out hn).elim
         | err c ln col =>
          rw [hn] at hp2
          obtain ⟨rfl, sa⟩ := hp2
          refine ⟨rfl, CloPost.of_err (c := c) (ln := ln) (col := col) (by rw [HE7.out, hn]; rfl) rfl ?_⟩
          exact ((HS1.out.mono (fun _ _ h => h.elim)).trans HST9.out.st).trans ((((Step.refl (· = R.rb) _).alloc _).trans sa).mono (fun _ _ e => .inl e))
         | ok u j8 =>
          have HNB := Lib.hid hn
          rw [hn] at hp2
          obtain ⟨⟨v, rfl, rfl⟩, hra, sa⟩ := hp2
          obtain ⟨a8, c8, rfl⟩ := owns_slice HST9.out.on
          have HSTA := Lib.hid (HST9.out.read hrb (by omega) hra (((Step.refl (· = R.rb) _).alloc _).trans sa))
          have HRE : Hid (r = ((levelR gn R.l j8 d 0).bind fun x j => if isF R.l j [44] then madeR gn R.l (j + 1) d ns8 (al ++ [x]) else (needR R.l j [125]).bind fun _ j => .ok (ns8, al ++ [x]) j).bind fun p j => .ok (nm, p.1, p.2) j) := by show _ = _; rw [HE7.out, HNB.out]; rfl
          clear hn hra sa p0 hp
          obtain ⟨w4, rfl⟩ : ∃ w4 : World, w4 = wa := ⟨_, rfl⟩
          have HPX : Hid (∀ X : World, Step (fun q => q = R.rb ∨ q = bt ∨ (Value.slice oa2 al.length oc2).ownBlock = some q) w4 X → X.cell? ⟨w.heap.size, 0, none⟩ = some (.pointer (some ⟨R.rb, 0, none⟩))) := by
           show ∀ X, _
           intro X hX
           refine hX.cell (HKP.out w4 HSTA.out.st) (fun e => ?_)
           have e2 : w.heap.size = R.rb ∨ w.heap.size = bt ∨ (Value.slice oa2 al.length oc2).ownBlock = some w.heap.size := e
           rcases e2 with e2 | e2 | e2
           ·omega
           ·omega
           ·have := (HSTA.out.oa.lt _ e2).1; omega
          have HLT : Hid (al.length < ns8.length) := HLT8
          have hal12 : al.length ≤ 12 := by have := HSTA.out.few; omega
          have HO : Hid (AppOk R w4 5 7 8 9 10 13 bt w1.heap.size 9 al.length (.slice oa2 al.length oc2) xs [Value.int .i64 0, .string ⟨#[]⟩, .int .u64 0, .bool false, .slice none 0 0, .slice none 0 0, .slice none 0 0, .int .i64 0, .int .i64 0]) :=
           ⟨by decide, by decide, by decide, by decide, by decide, by decide, by decide, by decide, by decide, hrb, by omega, HSTA.out.st.size, fun q hq => HSTA.out.oa.lt q hq, HSTA.out.el.len, rfl⟩
          have ZONE : Hid (∀ u ∈ [Value.int .i64 0, .string ⟨#[]⟩, .int .u64 0, .bool false, .slice none 0 0, .slice none 0 0, .slice none 0 0, .int .i64 0, .int .i64 0], u.oneCell' = true) := by
           show ∀ u ∈ _, _
           intro u hu
           simp at hu
           rcases hu with rfl | rfl | rfl | rfl | rfl | rfl | rfl | rfl | rfl <;> rfl
          go_upto_region 7 with fail
          cases hx : levelR gn R.l j8 d 0 with
          | out => exact absurd (by rw [HRE.out, hx]; rfl) HNO.out
          | err c ln col =>
           have HX := Lib.hid hx
           clear hx
           obtain ⟨ex, -⟩ : ∃ ex : Ex, ex = exMk 0 noB 0 false [] [] [] noTok := ⟨_, rfl⟩
           obtain ⟨j9, -⟩ : ∃ j9, j9 = j8 := ⟨_, rfl⟩
           have HE : Hid (ElOk (fun w P cs => ExP w P ex cs)) := ExEl ex
           have HZERO : Hid (∀ V, AppB R j8 j9 d w4 5 7 8 9 10 13 bt (fun v => .cells #[.int .i64 11, .string nm, .int .u64 0, .bool false, v, .slice a8 ns8.length c8, .slice none 0 0, .int .i64 t.line, .int .i64 t.col] 29 (0, 0)) w1.heap.size 29 9 al.length (.slice oa2 al.length oc2) xs [Value.int .i64 0, .string ⟨#[]⟩, .int .u64 0, .bool false, .slice none 0 0, .slice none 0 0, .slice none 0 0, .int .i64 0, .int .i64 0] (fun w P cs => ExP w P ex cs) [some (.pointer (some ⟨bt, 0, none⟩)), some (.pointer (some ⟨bt, 0, none⟩)), some (.pointer (some ⟨bt, 4, none⟩)), some (.slice oa2 al.length oc2), some (.agg #[.pointer (some ⟨R.rb, 0, none⟩)]), none, some (.int .i64 (al.length : Int)), none, none, none, none, some (.pointer (some ⟨bt, 0, none⟩)), some (.pointer (some ⟨bt, 4, none⟩)), none] (fun _ => false) V w4.drew) := fun V => AppB.zero ((Step.refl _ _).drew) HSTA.out.rd HSTA.out.oa HSTA.out.blk
           have HCAL : Hid (∀ X, RdAt R X j8 d → Calls Try.prog 10 #[.agg #[.pointer (some ⟨R.rb, 0, none⟩)]] X fun e wq => e = .panicked [{ v := .iface 89 (.agg #[.int .i64 c, .int .i64 ln, .int .i64 col]), recovered := false }] ∧ Step (· = R.rb) X wq) := by
            show ∀ X, _
            intro X hX
            have h9 := expr_any gn (IH.out gn (by omega)) R X j8 d HL.out hX hd (by rw [HX.out]; intro h; cases h)
            rw [HX.out] at h9
            exact h9
           have HPAN : Hid (∀ X wq : World, Step (fun q => q = R.rb ∨ q = bt ∨ (Value.slice oa2 al.length oc2).ownBlock = some q) w4 X → Step (· = R.rb) X wq → CloPost R d bt (MadeLeft w.heap.size bt t) r w (.panicked [{ v := .iface 89 (.agg #[.int .i64 c, .int .i64 ln, .int .i64 col]), recovered := false }]) wq) := by
            show ∀ X wq, _
            intro X wq h1 h2
            refine CloPost.of_err (c := c) (ln := ln) (col := col) (by rw [HRE.out, HX.out]; rfl) rfl (((HS1.out.mono (fun _ _ h => h.elim)).trans HSTA.out.st).then (h1.trans (h2.mono (fun _ _ e => .inl e))) (fun q hq e => ?_))
            rcases e with e | e | e
            ·exact .inl e
            ·exact .inr e
            ·have := (HSTA.out.oa.lt _ e).1; have := HS1.out.size; omega
           refine wp_region_relyD (by kernel_rfl) (fun L V X => AppB R j8 j9 d w4 5 7 8 9 10 13 bt (fun v => .cells #[.int .i64 11, .string nm, .int .u64 0, .bool false, v, .slice a8 ns8.length c8, .slice none 0 0, .int .i64 t.line, .int .i64 t.col] 29 (0, 0)) w1.heap.size 29 9 al.length (.slice oa2 al.length oc2) xs [Value.int .i64 0, .string ⟨#[]⟩, .int .u64 0, .bool false, .slice none 0 0, .slice none 0 0, .slice none 0 0, .int .i64 0, .int .i64 0] (fun w P cs => ExP w P ex cs) [some (.pointer (some ⟨bt, 0, none⟩)), some (.pointer (some ⟨bt, 0, none⟩)), some (.pointer (some ⟨bt, 4, none⟩)), some (.slice oa2 al.length oc2), some (.agg #[.pointer (some ⟨R.rb, 0, none⟩)]), none, some (.int .i64 (al.length : Int)), none, none, none, none, some (.pointer (some ⟨bt, 0, none⟩)), some (.pointer (some ⟨bt, 4, none⟩)), none] L V X ∧ L 5 = false) 14 rfl (by kernel_rfl) (by kernel_rfl) (by kernel_rfl) (by kernel_rfl) ?h0 ?hs ?hdone
           case h0 => exact ⟨HZERO.out _, rfl⟩
           case hs =>
            refine ⟨?_, ?_, ?_, ?_, ?_, ?_, ?_, ?_, ?_, ?_, ?_, ?_, ?_, ?_, trivial⟩
            ·intro L V X a ev evo hdf hL hdep hJ
             have o1 := evo 1 rfl
             change a.tmps[1]?.getD undef = .pointer (some ⟨bt, 0, none⟩) at o1
             go_simp
             exact ⟨_, rfl, ⟨hJ.1.up 0 (by decide) (by decide) (by decide) (by decide) (by decide) (by decide) rfl, by rw [updL_ne _ (by decide)]; exact hJ.2⟩⟩
            ·intro L V X a ev evo hdf hL hdep hJ
             have e43 := (ev 0 43 rfl (hdep 0 rfl)).trans (hJ.1.det 0 _ rfl (hdep 0 rfl))
             go_simp
             exact ⟨_, rfl, ⟨hJ.1.up 1 (by decide) (by decide) (by decide) (by decide) (by decide) (by decide) rfl, by rw [updL_ne _ (by decide)]; exact hJ.2⟩⟩
            ·intro L V X a ev evo hdf hL hdep hJ
             have e44 := (ev 1 44 rfl (hdep 1 rfl)).trans (hJ.1.det 1 _ rfl (hdep 1 rfl))
             go_simp
             exact ⟨_, rfl, ⟨hJ.1.up 2 (by decide) (by decide) (by decide) (by decide) (by decide) (by decide) rfl, by rw [updL_ne _ (by decide)]; exact hJ.2⟩⟩
            ·intro L V X a ev evo hdf hL hdep hJ
             have e45 := (ev 2 45 rfl (hdep 2 rfl)).trans (hJ.1.det 2 _ rfl (hdep 2 rfl))
             have hZ := (hJ.1.noZ (hJ.1.noA (by decide) hL)).1
             have hb := hJ.1.blk
             rw [hZ, if_neg (by decide)] at hb
             have q4 : X.cell? ⟨bt, 4, none⟩ = some (.slice oa2 al.length oc2) := blk_cell hb 4 _ rfl
             go_simp
             exact ⟨_, rfl, ⟨hJ.1.up 3 (by decide) (by decide) (by decide) (by decide) (by decide) (by decide) rfl, by rw [updL_ne _ (by decide)]; exact hJ.2⟩⟩
            ·intro L V X a ev evo hdf hL hdep hJ
             have o2 := evo 2 rfl
             change a.tmps[2]?.getD undef = .pointer (some ⟨w.heap.size, 0, none⟩) at o2
             have p0 := HPX.out X hJ.1.st
             go_simp
             exact ⟨_, rfl, ⟨hJ.1.up 4 (by decide) (by decide) (by decide) (by decide) (by decide) (by decide) rfl, by rw [updL_ne _ (by decide)]; exact hJ.2⟩⟩
            ·intro L V X a ev evo hdf hL hdep hJ
             have e47 := (ev 4 47 rfl (hdep 4 rfl)).trans (hJ.1.det 4 _ rfl (hdep 4 rfl))
             have hrd := hJ.1.rd
             rw [hL, if_neg (by decide)] at hrd
             go_simp
             refine (HCAL.out X hrd).mono ?_
             rintro e wq ⟨rfl, hs⟩
             exact ⟨hdf, HPAN.out X wq hJ.1.st hs⟩
            ·intro L V X a ev evo hdf hL hdep hJ
             have e46 := (ev 3 46 rfl (hdep 3 rfl)).trans (hJ.1.det 3 _ rfl (hdep 3 rfl))
             go_simp
             exact ⟨_, rfl, ⟨hJ.1.up 6 (by decide) (by decide) (by decide) (by decide) (by decide) (by decide) rfl, by rw [updL_ne _ (by decide)]; exact hJ.2⟩⟩
            ·intro L V X a ev evo hdf hL hdep hJ
             have hu := hJ.1.build HE.out HO.out hL rfl
             go_simp
             exact ⟨_, rfl, ⟨hu, by rw [updL_ne _ (by decide)]; exact hJ.2⟩⟩
            ·intro L V X a ev evo hdf hL hdep hJ
             have e46 := (ev 3 46 rfl (hdep 3 rfl)).trans (hJ.1.det 3 _ rfl (hdep 3 rfl))
             exact absurd hJ.2 (by rw [hdep 5 rfl]; decide)
            ·intro L V X a ev evo hdf hL hdep hJ
             have e49 := (ev 6 49 rfl (hdep 6 rfl)).trans (hJ.1.det 6 _ rfl (hdep 6 rfl))
             exact absurd hJ.2 (by rw [hdep 5 rfl]; decide)
            ·intro L V X a ev evo hdf hL hdep hJ
             exact absurd hJ.2 (by rw [hdep 5 rfl]; decide)
            ·intro L V X a ev evo hdf hL hdep hJ
             have e43 := (ev 0 43 rfl (hdep 0 rfl)).trans (hJ.1.det 0 _ rfl (hdep 0 rfl))
             go_simp
             exact ⟨_, rfl, ⟨hJ.1.up 11 (by decide) (by decide) (by decide) (by decide) (by decide) (by decide) rfl, by rw [updL_ne _ (by decide)]; exact hJ.2⟩⟩
            ·intro L V X a ev evo hdf hL hdep hJ
             have e53 := (ev 11 53 rfl (hdep 11 rfl)).trans (hJ.1.det 11 _ rfl (hdep 11 rfl))
             go_simp
             exact ⟨_, rfl, ⟨hJ.1.up 12 (by decide) (by decide) (by decide) (by decide) (by decide) (by decide) rfl, by rw [updL_ne _ (by decide)]; exact hJ.2⟩⟩
            ·intro L V X a ev evo hdf hL hdep hJ
             have e54 := (ev 12 54 rfl (hdep 12 rfl)).trans (hJ.1.det 12 _ rfl (hdep 12 rfl))
             exact absurd hJ.2 (by rw [hdep 5 rfl]; decide)
           case hdone =>
            intro L V X hall hJ
            exact absurd hJ.2 (by rw [hall 5 (by decide)]; decide)
          | ok ex j9 =>
           have HX := Lib.hid hx
           clear hx
           have HE : Hid (ElOk (fun w P cs => ExP w P ex cs)) := ExEl ex
           have HZERO : Hid (∀ V, AppB R j8 j9 d w4 5 7 8 9 10 13 bt (fun v => .cells #[.int .i64 11, .string nm, .int .u64 0, .bool false, v, .slice a8 ns8.length c8, .slice none 0 0, .int .i64 t.line, .int .i64 t.col] 29 (0, 0)) w1.heap.size 29 9 al.length (.slice oa2 al.length oc2) xs [Value.int .i64 0, .string ⟨#[]⟩, .int .u64 0, .bool false, .slice none 0 0, .slice none 0 0, .slice none 0 0, .int .i64 0, .int .i64 0] (fun w P cs => ExP w P ex cs) [some (.pointer (some ⟨bt, 0, none⟩)), some (.pointer (some ⟨bt, 0, none⟩)), some (.pointer (some ⟨bt, 4, none⟩)), some (.slice oa2 al.length oc2), some (.agg #[.pointer (some ⟨R.rb, 0, none⟩)]), none, some (.int .i64 (al.length : Int)), none, none, none, none, some (.pointer (some ⟨bt, 0, none⟩)), some (.pointer (some ⟨bt, 4, none⟩)), none] (fun _ => false) V w4.drew) := fun V => AppB.zero ((Step.refl _ _).drew) HSTA.out.rd HSTA.out.oa HSTA.out.blk
           have HCAL : Hid (∀ X, RdAt R X j8 d → Calls Try.prog 10 #[.agg #[.pointer (some ⟨R.rb, 0, none⟩)]] X fun e wq => (∃ v, e = .returned v ∧ ∃ cs : List Value, v = .agg cs.toArray ∧ ExP wq (fun q => X.heap.size ≤ q) ex cs) ∧ RdAt R wq j9 d ∧ Step (· = R.rb) X wq) := by
            show ∀ X, _
            intro X hX
            have h9 := expr_any gn (IH.out gn (by omega)) R X j8 d HL.out hX hd (by rw [HX.out]; intro h; cases h)
            rw [HX.out] at h9
            exact h9
           have HRG : Hid (r = (if isF R.l j9 [44] then madeR gn R.l (j9 + 1) d ns8 (al ++ [ex]) else (needR R.l j9 [125]).bind fun _ j => .ok (ns8, al ++ [ex]) j).bind fun p j => .ok (nm, p.1, p.2) j) := by show _ = _; rw [HRE.out, HX.out]; rfl
           have HEND : Hid (∀ (g9 c9 : Nat) (cs9 : List Value) (X : World), RdAt R X j9 d → X.heap[bt]? = some (.cells #[.int .i64 11, .string nm, .int .u64 0, .bool false, .slice (some ⟨g9, 0, none⟩) (al.length + 1) c9, .slice a8 ns8.length c8, .slice none 0 0, .int .i64 t.line, .int .i64 t.col] 29 (0, 0)) → X.ownsRow w1.heap.size 29 9 (.slice (some ⟨g9, 0, none⟩) (al.length + 1) c9) (al.length + 1) (xs ++ cs9) → ExP X (fun q => w4.heap.size ≤ q ∧ q ≠ g9) ex cs9 → ((Value.slice oa2 al.length oc2).ownBlock = some g9 ∨ w4.heap.size ≤ g9) → Step (fun q => q = R.rb ∨ q = bt ∨ (Value.slice oa2 al.length oc2).ownBlock = some q) w4 X →
             MdSt R w1 bt nm t d X j9 ns8 (al ++ [ex]) (.slice a8 ns8.length c8) (.slice (some ⟨g9, 0, none⟩) (al.length + 1) c9) (xs ++ cs9)) := by
            show ∀ g9 c9 cs9 X, _
            intro g9 c9 cs9 X h1 h2 h3 h4 h5 h6
            exact HSTA.out.pushA hrb (by omega) HLT.out h1 h2 h3 h4 h5 h6
           go_cut [] (fun wx => ∃ (va2 : Value) (xs2 : List Value), MdSt R w1 bt nm t d wx j9 ns8 (al ++ [ex]) (.slice a8 ns8.length c8) va2 xs2)
           case first =>
            refine wp_region_relyD (by kernel_rfl) (AppB R j8 j9 d w4 5 7 8 9 10 13 bt (fun v => .cells #[.int .i64 11, .string nm, .int .u64 0, .bool false, v, .slice a8 ns8.length c8, .slice none 0 0, .int .i64 t.line, .int .i64 t.col] 29 (0, 0)) w1.heap.size 29 9 al.length (.slice oa2 al.length oc2) xs [Value.int .i64 0, .string ⟨#[]⟩, .int .u64 0, .bool false, .slice none 0 0, .slice none 0 0, .slice none 0 0, .int .i64 0, .int .i64 0] (fun w P cs => ExP w P ex cs) [some (.pointer (some ⟨bt, 0, none⟩)), some (.pointer (some ⟨bt, 0, none⟩)), some (.pointer (some ⟨bt, 4, none⟩)), some (.slice oa2 al.length oc2), some (.agg #[.pointer (some ⟨R.rb, 0, none⟩)]), none, some (.int .i64 (al.length : Int)), none, none, none, none, some (.pointer (some ⟨bt, 0, none⟩)), some (.pointer (some ⟨bt, 4, none⟩)), none]) 14 rfl (by kernel_rfl) (by kernel_rfl) (by kernel_rfl) (by kernel_rfl) ?h0 ?hs ?hdone
            case h0 => exact HZERO.out _
            case hs =>
             refine ⟨?_, ?_, ?_, ?_, ?_, ?_, ?_, ?_, ?_, ?_, ?_, ?_, ?_, ?_, trivial⟩
             ·intro L V X a ev evo hdf hL hdep hJ
              have o1 := evo 1 rfl
              change a.tmps[1]?.getD undef = .pointer (some ⟨bt, 0, none⟩) at o1
              go_simp
              exact ⟨_, rfl, hJ.up 0 (by decide) (by decide) (by decide) (by decide) (by decide) (by decide) rfl⟩
             ·intro L V X a ev evo hdf hL hdep hJ
              have e43 := (ev 0 43 rfl (hdep 0 rfl)).trans (hJ.det 0 _ rfl (hdep 0 rfl))
              go_simp
              exact ⟨_, rfl, hJ.up 1 (by decide) (by decide) (by decide) (by decide) (by decide) (by decide) rfl⟩
             ·intro L V X a ev evo hdf hL hdep hJ
              have e44 := (ev 1 44 rfl (hdep 1 rfl)).trans (hJ.det 1 _ rfl (hdep 1 rfl))
              go_simp
              exact ⟨_, rfl, hJ.up 2 (by decide) (by decide) (by decide) (by decide) (by decide) (by decide) rfl⟩
             ·intro L V X a ev evo hdf hL hdep hJ
              have e45 := (ev 2 45 rfl (hdep 2 rfl)).trans (hJ.det 2 _ rfl (hdep 2 rfl))
              have hZ := (hJ.noZ (hJ.noA (by decide) hL)).1
              have hb := hJ.blk
              rw [hZ, if_neg (by decide)] at hb
              have q4 : X.cell? ⟨bt, 4, none⟩ = some (.slice oa2 al.length oc2) := blk_cell hb 4 _ rfl
              go_simp
              exact ⟨_, rfl, hJ.up 3 (by decide) (by decide) (by decide) (by decide) (by decide) (by decide) rfl⟩
             ·intro L V X a ev evo hdf hL hdep hJ
              have o2 := evo 2 rfl
              change a.tmps[2]?.getD undef = .pointer (some ⟨w.heap.size, 0, none⟩) at o2
              have p0 := HPX.out X hJ.st
              go_simp
              exact ⟨_, rfl, hJ.up 4 (by decide) (by decide) (by decide) (by decide) (by decide) (by decide) rfl⟩
             ·intro L V X a ev evo hdf hL hdep hJ
              have e47 := (ev 4 47 rfl (hdep 4 rfl)).trans (hJ.det 4 _ rfl (hdep 4 rfl))
              have hrd := hJ.rd
              rw [hL, if_neg (by decide)] at hrd
              go_simp
              refine (HCAL.out X hrd).mono ?_
              rintro e wq ⟨⟨v, rfl, cs, rfl, hty⟩, hr, hs⟩
              exact ⟨_, rfl, hJ.call HE.out HO.out hL rfl hs hr hty⟩
             ·intro L V X a ev evo hdf hL hdep hJ
              have e46 := (ev 3 46 rfl (hdep 3 rfl)).trans (hJ.det 3 _ rfl (hdep 3 rfl))
              go_simp
              exact ⟨_, rfl, hJ.up 6 (by decide) (by decide) (by decide) (by decide) (by decide) (by decide) rfl⟩
             ·intro L V X a ev evo hdf hL hdep hJ
              have hu := hJ.build HE.out HO.out hL rfl
              go_simp
              exact ⟨_, rfl, hu⟩
             ·intro L V X a ev evo hdf hL hdep hJ
              have e46 := (ev 3 46 rfl (hdep 3 rfl)).trans (hJ.det 3 _ rfl (hdep 3 rfl))
              have e50 := ev 7 50 rfl (hdep 7 rfl)
              obtain ⟨zb, z1, z2, z3⟩ := hJ.bl (hdep 7 rfl) hL
              have hall : ∀ i, i < 8 → L i = true := by
               intro i hi
               rcases (show i = 0 ∨ i = 1 ∨ i = 2 ∨ i = 3 ∨ i = 4 ∨ i = 5 ∨ i = 6 ∨ i = 7 by omega) with rfl | rfl | rfl | rfl | rfl | rfl | rfl | rfl
               ·exact hdep 0 rfl
               ·exact hdep 1 rfl
               ·exact hdep 2 rfl
               ·exact hdep 3 rfl
               ·exact hdep 4 rfl
               ·exact hdep 5 rfl
               ·exact hdep 6 rfl
               ·exact hdep 7 rfl
              refine wp_append_row _ X.heap.size (.tmp 46) (.tmp 50) 23 rfl w1.heap.size 29 j0 (.agg #[.int .i64 0, .string ⟨#[]⟩, .int .u64 0, .bool false, .slice none 0 0, .slice none 0 0, .slice none 0 0, .int .i64 0, .int .i64 0]) 9 128 Try.underlying23 HJ.out HY0.out HY1.out HY2.out rfl (by decide) _ _ _ (by rw [evalTmp]; exact e46) (hJ.old hL) (V 7) 1 _ (by rw [evalTmp]; exact e50) (by rw [z1]; exact (Row.new z3 (by decide)).mono (blk_lt z3)) rfl ZONE.out (by unfold maxLen; omega) (by omega) (Nat.le_trans HO.out.bw hJ.st.size) ?_
              intro v8 w8 hown8 hgrow8 hat8
              exact ⟨v8, rfl, hJ.app HE.out HO.out hL hall rfl hown8 hgrow8 hat8⟩
             ·intro L V X a ev evo hdf hL hdep hJ
              have e49 := (ev 6 49 rfl (hdep 6 rfl)).trans (hJ.det 6 _ rfl (hdep 6 rfl))
              have e51 := ev 8 51 rfl (hdep 8 rfl)
              obtain ⟨g, c, hV, -⟩ := hJ.new (hdep 8 rfl)
              rw [hV] at e51
              have hi0 : (0 : Int) ≤ (al.length : Int) := by omega
              have hi1 : (al.length : Int) < ((al.length + 1 : Nat) : Int) := by omega
              have hi2 : (al.length : Int) < (al.length : Int) + 1 := by omega
              have hu := hJ.index HO.out (hdep 8 rfl) rfl hV
              go_simp
              exact ⟨_, rfl, hu⟩
             ·intro L V X a ev evo hdf hL hdep hJ
              have h8 := hdep 8 rfl
              have h9 := hdep 9 rfl
              have h5 := hdep 5 rfl
              obtain ⟨g, c, hV, -, ys, hown, -⟩ := hJ.new h8
              have ep := (ev 9 52 rfl h9).trans ((hJ.ix h9).2 g c hV)
              obtain ⟨cs, c1, c2⟩ := hJ.el h5
              have ec := (ev 5 48 rfl h5).trans c1
              rw [hV] at hown
              obtain ⟨g', c', cur, hg', -, hcur, hsz⟩ := owns_cells hown (by omega)
              cases hg'
              have hcl : cs.length = 9 := ExP.len c2
              refine wp_store_part 29 (.tmp 52) (.tmp 48) rfl g (al.length * 9) 29 cur cs (by rw [evalTmp]; exact ep) (by rw [evalTmp]; exact ec) hcur (by rw [hcl]; exact Try.sizeExpr) (by omega) (ExP.one c2) ?_
              intro w6 hb6 hs6
              exact ⟨undef, rfl, hJ.put HE.out HO.out h8 (fun u hu => by cases hu) hV c1 hcl hcur hb6 hs6⟩
             ·intro L V X a ev evo hdf hL hdep hJ
              have e43 := (ev 0 43 rfl (hdep 0 rfl)).trans (hJ.det 0 _ rfl (hdep 0 rfl))
              go_simp
              exact ⟨_, rfl, hJ.up 11 (by decide) (by decide) (by decide) (by decide) (by decide) (by decide) rfl⟩
             ·intro L V X a ev evo hdf hL hdep hJ
              have e53 := (ev 11 53 rfl (hdep 11 rfl)).trans (hJ.det 11 _ rfl (hdep 11 rfl))
              go_simp
              exact ⟨_, rfl, hJ.up 12 (by decide) (by decide) (by decide) (by decide) (by decide) (by decide) rfl⟩
             ·intro L V X a ev evo hdf hL hdep hJ
              have e54 := (ev 12 54 rfl (hdep 12 rfl)).trans (hJ.det 12 _ rfl (hdep 12 rfl))
              have h8 := hdep 8 rfl
              have ev8 := ev 8 51 rfl h8
              obtain ⟨g, c, hV, -⟩ := hJ.new h8
              rw [hV] at ev8
              have hb := hJ.blk
              rw [hL, if_neg (by decide)] at hb
              have q5 := blk_cell hb 4 _ rfl
              have z5 := blk_free hb 4
              have hu := hJ.last (X' := X.setCell ⟨bt, 4, none⟩ (.slice (some ⟨g, 0, none⟩) (al.length + 1) c)) HE.out HO.out h8 (fun u hu => by cases hu) (by rw [hV]; exact blk_set hb 4 _) ((Step.refl _ _).setCell _ _ (fun _ => rfl))
              go_simp
              exact ⟨undef, hu⟩
            case hdone =>
             intro L V X hall hJ
             obtain ⟨g9, c9, cs9, hrd9, hbl9, hown9, hel9, hgg9, hst9, hgb9⟩ := hJ.done ⟨hall 5 (by decide), hall 8 (by decide), hall 10 (by decide), hall 13 (by decide)⟩
             rw [show List.range 14 = [0, 1, 2, 3, 4, 5, 6, 7, 8, 9, 10, 11, 12, 13] from rfl]
             simp only [putF, dstO, List.getElem?_toArray, List.getElem?_cons_zero, List.getElem?_cons_succ, Option.bind_some, Act.put, List.setIfInBounds_toArray, List.set_cons_zero, List.set_cons_succ]
             clear hJ hall
             have HEND9 := Lib.hid (HEND.out g9 c9 cs9 X hrd9 hbl9 hown9 hel9 hgg9 hst9)
             go_wp2_with fail
             go_meet
             case rel => exact ⟨_, _, HEND9.out⟩
           case rest =>
            obtain ⟨va2, xs2, hls⟩ := hcut
            obtain ⟨w5, rfl⟩ : ∃ w5 : World, w5 = wc := ⟨_, rfl⟩
            have HST5 := Lib.hid hls
            clear hls
            have p0 := HKP.out w5 HST5.out.st
            go_wp2_with fail
            cases hc : isF R.l j9 [44] with
            | true =>
             have HC := Lib.hid hc
             clear hc
             refine (is_yes R HL.out ⟨#[44]⟩ _ j9 d HST5.out.rd (by decide) HC.out).mono ?_
             rintro e wa ⟨rfl, hra, sa⟩
             have HSTB := Lib.hid (HST5.out.read hrb (by omega) hra sa)
             have HRI : Hid (r = (madeR gn R.l (j9 + 1) d ns8 (al ++ [ex])).bind fun p j => .ok (nm, p.1, p.2) j) := by show _ = _; rw [HRG.out, HC.out, if_pos rfl]
             clear hra sa p0
             go_wp2_with fail
             go_roundg gn
             case rel => exact ⟨by omega, j9 + 1, ns8, al ++ [ex], _, va2, xs2, HRI.out, HSTB.out⟩
             case measure => omega
            | false =>
             have HC := Lib.hid hc
             clear hc
             refine (is_no R HL.out ⟨#[44]⟩ _ j9 d HST5.out.rd (by decide) HC.out).mono ?_
             rintro e wa ⟨rfl, hra, sa⟩
             have HSTB := Lib.hid (HST5.out.read hrb (by omega) hra sa)
             have HRI : Hid (r = ((needR R.l j9 [125]).bind fun _ j => .ok (ns8, al ++ [ex]) j).bind fun p j => .ok (nm, p.1, p.2) j) := by show _ = _; rw [HRG.out, HC.out, if_neg (by decide)]
             clear hra sa p0
             have p0 := HKP.out wa HSTB.out.st
             go_wp2_with fail
             refine (need_any R HL.out wa.heap.size ⟨#[125]⟩ _ j9 d (HSTB.out.rd.quiet ((Step.refl _ _).alloc _)) (by decide) (blk_cell (blk_new _ _) 0 _ rfl)).mono ?_
             rintro e wb hp
             have hp2 : PPost R d UnitV (needR R.l j9 [125]) _ e wb := hp
             cases hn : needR R.l j9 [125] with
             | out => exact (needR_out hn).elim
             | err c ln col =>
              rw [hn] at hp2
              obtain ⟨rfl, sb⟩ := hp2
              refine ⟨rfl, CloPost.of_err (c := c) (ln := ln) (col := col) (by rw [HRI.out, hn]; rfl) rfl ?_⟩
              exact ((HS1.out.mono (fun _ _ h => h.elim)).trans HSTB.out.st).trans ((((Step.refl (· = R.rb) _).alloc _).trans sb).mono (fun _ _ e => .inl e))
             | ok u2 jz =>
              have HNC := Lib.hid hn
              rw [hn] at hp2
              obtain ⟨⟨v, rfl, rfl⟩, hrb2, sb⟩ := hp2
              have HSTC := Lib.hid (HSTB.out.read hrb (by omega) hrb2 (((Step.refl (· = R.rb) _).alloc _).trans sb))
              clear hn hrb2 sb p0 hp
              have hs1 := HS1.out.size
              go_wp2_with fail
              refine bodyPost_end (results_none rfl _ _ _) rfl ?_
              refine CloPost.of_ok (a := (nm, ns8, al ++ [ex])) (j := jz) (by rw [HRI.out, HNC.out]; rfl) rfl ⟨xs2, _, va2, HSTC.out.blk, HNS.out, HSTC.out.sz, RowP.of_owns HSTC.out.on (fun q hq => by have := (HSTC.out.on.lt q hq).1; omega), ExsP.mono (fun q _ hq => by have := hq.1; omega) _ _ HSTC.out.el, RowP.of_owns HSTC.out.oa (fun q hq => by have := (HSTC.out.oa.lt q hq).1; omega)⟩ HSTC.out.rd ((HS1.out.mono (fun _ _ h => h.elim)).trans HSTC.out.st)
/- Things in memory, in blocks of which a predicate holds. -/
structure AtOk {α : Type} (At : World → (Nat → Prop) → α → Value → Prop) : Prop where
 step : ∀ {w w' : World} {P S : Nat → Prop} (a : α) (v : Value), Step S w w' → (∀ k, P k → ¬ S k) → At w P a v → At w' P a v
 mono : ∀ {w : World} {P P' : Nat → Prop} (a : α) (v : Value), (∀ k, k < w.heap.size → P k → P' k) → At w P a v → At w P' a v
def ExQ (w : World) (P : Nat → Prop) (a : Ex) (v : Value) : Prop := ∃ cs : List Value, v = .agg cs.toArray ∧ ExP w P a cs
def TyQ (w : World) (P : Nat → Prop) (a : Ty) (v : Value) : Prop := ∃ cs : List Value, v = .agg cs.toArray ∧ TyP w P a cs
def ExsQ (w : World) (P : Nat → Prop) (l : List Ex) (v : Value) : Prop := ∃ xs : List Value, RowP w P v l.length xs ∧ ExsP w P l xs
def StsQ (w : World) (P : Nat → Prop) (l : List St) (v : Value) : Prop := ∃ xs : List Value, RowP w P v l.length xs ∧ StsP w P l xs
def NamesQ (w : World) (P : Nat → Prop) (l : List ByteArray) (v : Value) : Prop := (∀ s ∈ l, s.size ≤ 9223372036854775807) ∧ RowP w P v l.length (l.map .string)
theorem exQ_ok : AtOk ExQ := ⟨fun _ _ hs hP ⟨cs, h1, h2⟩ => ⟨cs, h1, ExP.step hs hP _ cs h2⟩, fun _ _ hp ⟨cs, h1, h2⟩ => ⟨cs, h1, ExP.mono hp _ cs h2⟩⟩
theorem tyQ_ok : AtOk TyQ := ⟨fun _ _ hs hP ⟨cs, h1, h2⟩ => ⟨cs, h1, TyP.step hs hP _ cs h2⟩, fun _ _ hp ⟨cs, h1, h2⟩ => ⟨cs, h1, TyP.mono hp _ cs h2⟩⟩
theorem exsQ_ok : AtOk ExsQ := ⟨fun _ _ hs hP ⟨xs, h1, h2⟩ => ⟨xs, h1.step hs hP, ExsP.step hs hP _ xs h2⟩, fun _ _ hp ⟨xs, h1, h2⟩ => ⟨xs, h1.mono hp, ExsP.mono hp _ xs h2⟩⟩
theorem stsQ_ok : AtOk StsQ := ⟨fun _ _ hs hP ⟨xs, h1, h2⟩ => ⟨xs, h1.step hs hP, StsP.step hs hP _ xs h2⟩, fun _ _ hp ⟨xs, h1, h2⟩ => ⟨xs, h1.mono hp, StsP.mono hp _ xs h2⟩⟩
theorem namesQ_ok : AtOk NamesQ := ⟨fun _ _ hs hP ⟨h1, h2⟩ => ⟨h1, h2.step hs hP⟩, fun _ _ hp ⟨h1, h2⟩ => ⟨h1, h2.mono hp⟩⟩
theorem RowP.parts {w : World} {P : Nat → Prop} {v : Value} {n : Nat} {xs : List Value} (h : RowP w P v n xs) : ∃ (a : Option Addr) (c : Nat), v = .slice a n c := by
 obtain ⟨a, c, h, -⟩ := h; exact ⟨a, c, h⟩
theorem ExsQ.parts {w : World} {P : Nat → Prop} {l : List Ex} {v : Value} (h : ExsQ w P l v) : ∃ (a : Option Addr) (c : Nat), v = .slice a l.length c := by
 obtain ⟨_, h, -⟩ := h; exact h.parts
theorem StsQ.parts {w : World} {P : Nat → Prop} {l : List St} {v : Value} (h : StsQ w P l v) : ∃ (a : Option Addr) (c : Nat), v = .slice a l.length c := by
 obtain ⟨_, h, -⟩ := h; exact h.parts
theorem ExsQ.nil (w : World) (P : Nat → Prop) : ExsQ w P [] (.slice none 0 0) := ⟨[], RowP.nil _ _ _, by rw [ExsP]⟩
theorem StsQ.nil (w : World) (P : Nat → Prop) : StsQ w P [] (.slice none 0 0) := ⟨[], RowP.nil _ _ _, by rw [StsP]⟩
theorem NamesQ.nil (w : World) (P : Nat → Prop) : NamesQ w P [] (.slice none 0 0) := ⟨(fun _ h => nomatch h), RowP.nil _ _ _⟩
theorem ExsQ.single {w : World} {P : Nat → Prop} {x : Ex} {cs : List Value} {b t : Nat} (h : ExP w P x cs) (hb : w.heap[b]? = some (.cells cs.toArray t (0, 0))) (hp : P b) : ExsQ w P [x] (.slice (some ⟨b, 0, none⟩) 1 1) := ⟨cs, RowP.new hb (by decide) hp, ExsP.single h⟩
theorem ExQ.mk {w : World} {P : Nat → Prop} {k : Int} {nm : ByteArray} {v : Int} {m : Bool} {al : List Ex} {ns : List ByteArray} {bs : List St} {l c : Int} {va vn vb : Value} (h1 : nm.size ≤ 9223372036854775807) (ha : ExsQ w P al va) (hn : NamesQ w P ns vn) (hb : StsQ w P bs vb) :
  ExP w P (.mk k nm v m al ns bs l c) [.int .i64 k, .string nm, .int .u64 v, .bool m, va, vn, vb, .int .i64 l, .int .i64 c] := by
 obtain ⟨xa, a1, a2⟩ := ha
 obtain ⟨xb, b1, b2⟩ := hb
 rw [ExP]
 exact ⟨va, vn, vb, xa, xb, rfl, h1, hn.1, a2, a1, hn.2, b2, b1⟩
structure Sv (R : Rdr) (w1 : World) (b d : Nat) (I : World → Prop) (X : World) (i : Nat) (o : Obj) : Prop where
 rd : RdAt R X i d
 blk : X.heap[b]? = some o
 st : Step (fun q => q = R.rb ∨ q = b) w1 X
 inv : I X
def Stab (R : Rdr) (b n : Nat) (I : World → Prop) : Prop := ∀ X Y, n ≤ X.heap.size → Step (fun q => q = R.rb ∨ q = b) X Y → I X → I Y
theorem Stab.yes {R : Rdr} {b n : Nat} : Stab R b n (fun _ => True) := fun _ _ _ _ _ => trivial
theorem Stab.and {R : Rdr} {b n : Nat} {I J : World → Prop} (h : Stab R b n I) (k : Stab R b n J) : Stab R b n (fun X => I X ∧ J X) := fun X Y hn hs hi => ⟨h X Y hn hs hi.1, k X Y hn hs hi.2⟩
theorem Stab.at {α : Type} {At : World → (Nat → Prop) → α → Value → Prop} (hA : AtOk At) {R : Rdr} {b n : Nat} (h1 : R.rb < b) (h2 : b < n) (a : α) (v : Value) : Stab R b n (fun X => At X (fun q => n ≤ q) a v) :=
 fun X Y _ hs hi => hA.step a v hs (fun k hk e => by omega) hi
section
variable {R : Rdr} {w1 : World} {b d : Nat} {I : World → Prop} {X X' : World} {i j : Nat} {o : Obj}
theorem Sv.quiet (h : Sv R w1 b d I X i o) (hI : Stab R b w1.heap.size I) (hs : Step (fun _ => False) X X') : Sv R w1 b d I X' i o :=
 ⟨h.rd.quiet hs, hs.keep h.blk (fun h => h), h.st.trans (hs.mono (fun _ _ h => h.elim)), hI X X' h.st.size (hs.mono (fun _ _ h => h.elim)) h.inv⟩
theorem Sv.read (h : Sv R w1 b d I X i o) (hI : Stab R b w1.heap.size I) (hb : R.rb < b) (hr : RdAt R X' j d) (hs : Step (· = R.rb) X X') : Sv R w1 b d I X' j o :=
 ⟨hr, hs.keep h.blk (by omega), h.st.trans (hs.mono (fun _ _ e => .inl e)), hI X X' h.st.size (hs.mono (fun _ _ e => .inl e)) h.inv⟩
/- A callee that writes the variable, too. -/
theorem Sv.write (h : Sv R w1 b d I X i o) (hI : Stab R b w1.heap.size I) {o' : Obj} (hr : RdAt R X' j d) (hb : X'.heap[b]? = some o') (hs : Step (fun q => q = R.rb ∨ q = b) X X') : Sv R w1 b d I X' j o' :=
 ⟨hr, hb, h.st.trans hs, hI X X' h.st.size hs h.inv⟩
theorem Sv.set {cs : Array Value} {t : Nat} (h : Sv R w1 b d I X i (.cells cs t (0, 0))) (hI : Stab R b w1.heap.size I) (hb : R.rb < b) (k : Nat) (v : Value) : Sv R w1 b d I (X.setCell ⟨b, k, none⟩ v) i (.cells (cs.setIfInBounds k v) t (0, 0)) := by
 have hs : Step (· = b) X (X.setCell ⟨b, k, none⟩ v) := (Step.refl (· = b) _).setCell _ _ (fun _ => rfl)
 have hs2 : Step (fun q => q = R.rb ∨ q = b) X (X.setCell ⟨b, k, none⟩ v) := hs.mono (fun _ _ e => .inr e)
 exact ⟨h.rd.step hs (fun q hq e => by omega), blk_set h.blk k v, h.st.trans hs2, hI _ _ h.st.size hs2 h.inv⟩
theorem Sv.err (h : Sv R w1 b d I X i o) (hs : Step (· = R.rb) X X') : Step (fun q => q = R.rb ∨ q = b) w1 X' := h.st.trans (hs.mono (fun _ _ e => .inl e))
/- What a call answers, and how it lies, is kept. -/
theorem Sv.got {α : Type} {At : World → (Nat → Prop) → α → Value → Prop} (hA : AtOk At) {a : α} {v : Value} (h : Sv R w1 b d I X i o) (hI : Stab R b w1.heap.size I) (hb : R.rb < b) (hbw : b < w1.heap.size) (hr : RdAt R X' j d) (hs : Step (· = R.rb) X X')
  (ha : At X' (fun k => X.heap.size ≤ k) a v) : ∃ I', Stab R b w1.heap.size I' ∧ (∀ Y, I' Y → I Y ∧ At Y (fun k => w1.heap.size ≤ k) a v) ∧ Sv R w1 b d I' X' j o := by
 have h2 := h.read hI hb hr hs
 refine ⟨_, hI.and (Stab.at hA hb hbw a v), fun _ h => h, h2.rd, h2.blk, h2.st, h2.inv, hA.mono a v (fun k _ hk => ?_) ha⟩
 have := h.st.size
 omega
theorem Sv.keep (h : Sv R w1 b d I X i o) (hI : Stab R b w1.heap.size I) {J : World → Prop} (hJ : Stab R b w1.heap.size J) (hj : J X) : ∃ I', Stab R b w1.heap.size I' ∧ (∀ Y, I' Y → I Y ∧ J Y) ∧ Sv R w1 b d I' X i o :=
 ⟨_, hI.and hJ, fun _ h => h, h.rd, h.blk, h.st, h.inv, hj⟩
end
theorem PPost.of_err {α : Type} {R : Rdr} {d : Nat} {At : World → α → Value → Prop} {r : Res α} {w w' : World} {e : Ending} {c ln col : Nat} (hr : r = .err c ln col) (he : e = .panicked [{ v := .iface 89 (.agg #[.int .i64 c, .int .i64 ln, .int .i64 col]), recovered := false }]) (hs : Step (· = R.rb) w w') : PPost R d At r w e w' := by
 rw [hr]; exact ⟨he, hs⟩
theorem PPost.of_ok {α : Type} {R : Rdr} {d : Nat} {At : World → α → Value → Prop} {r : Res α} {w w' : World} {e : Ending} {a : α} {j : Nat} {v : Value} (hr : r = .ok a j) (he : e = .returned v) (hv : At w' a v) (h : RdAt R w' j d) (hs : Step (· = R.rb) w w') : PPost R d At r w e w' := by
 rw [hr]; exact ⟨⟨v, he, hv⟩, h, hs⟩
theorem oneCells {cs : List Value} (h : (cs.all fun u => u.oneCell') = true) : ∀ u ∈ cs, u.oneCell' = true := by simpa using h
theorem Sv.slice1 {R : Rdr} {w1 : World} {b d : Nat} {I : World → Prop} {X : World} {i : Nat} {o : Obj} {x : Ex} {cs : List Value} {t : Nat} (h : Sv R w1 b d I X i o) (hI : Stab R b w1.heap.size I) (h1 : R.rb < b) (h2 : b < w1.heap.size) (hx : ∀ Y, I Y → ExQ Y (fun q => w1.heap.size ≤ q) x (.agg cs.toArray)) :
  ∃ I', Stab R b w1.heap.size I' ∧ (∀ Y, I' Y → I Y ∧ ExsQ Y (fun q => w1.heap.size ≤ q) [x] (.slice (some ⟨X.heap.size, 0, none⟩) 1 1)) ∧ Sv R w1 b d I' (X.alloc (.cells cs.toArray t)) i o := by
 have hq := h.quiet hI ((Step.refl (fun _ => False) X).alloc (.cells cs.toArray t))
 refine hq.keep hI (Stab.at exsQ_ok h1 h2 _ _) ?_
 obtain ⟨cs', e, h3⟩ := hx _ hq.inv
 obtain rfl : cs = cs' := by simpa using e
 exact ExsQ.single h3 (blk_new _ _) h.st.size
theorem Res.bind_assoc {α β γ : Type} (r : Res α) (f : α → Nat → Res β) (g : β → Nat → Res γ) : (r.bind f).bind g = r.bind fun a i => (f a i).bind g := by cases r <;> rfl
theorem clos_bind {β : Type} (f : Nat) (l : List Tok) (i d : Nat) (g : ByteArray → List ByteArray → List St → Nat → Res β) :
  ((nameR l i).bind fun n j => (needR l j [124]).bind fun _ j => (if isF l j [124] then .ok [] (j + 1) else barsR f l j []).bind fun ns j => (blockR f l j d).bind fun b j => g n ns b j) = (closF f l i d).bind fun p j => g p.1 p.2.1 p.2.2 j := by
 unfold closF
 simp only [Res.bind_assoc, Res.bind_ok]
end Go.Proofs.Ytppekkbaoimpgaa
