/- Pos, Ind, Pi, Nj, Gen, Aj -/
import Derived.Test.YtppekkbaoimpgaaPkH
set_option maxRecDepth 100000
set_option maxHeartbeats 8000000
namespace Go.Proofs.Ytppekkbaoimpgaa
open Go.RowKit
theorem owns_new (w : World) (base t size : Nat) (cs : List Value) (h : cs.length = size) (hb : base ≤ w.heap.size) : (w.alloc (.cells cs.toArray t)).ownsRow base t size (.slice (some ⟨w.heap.size, 0, none⟩) 1 1) 1 cs :=
 ⟨by omega, .inr ⟨w.heap.size, 1, cs.toArray, rfl, hb, blk_new _ _, Nat.le_refl _, by unfold maxLen; omega, by simp [h], by simp [← h]⟩⟩
theorem moreR_few : ∀ (f : Nat) (l : List Tok) (i d : Nat) (acc al : List Ex) (k : Nat), moreR f l i d acc = .ok al k → al.length ≤ 8
 | 0, l, i, d, acc, al, k, h => by rw [moreR] at h; cases h
 | f + 1, l, i, d, acc, al, k, h => by
  rw [moreR] at h
  by_cases h8 : 8 ≤ acc.length
  ·rw [roomR, if_pos h8] at h; cases h
  ·rw [roomR, if_neg h8, Res.bind_ok] at h
   cases hx : levelR f l i d 0 with
   | out => rw [hx] at h; cases h
   | err c ln col => rw [hx] at h; cases h
   | ok x j =>
    rw [hx, Res.bind_ok] at h
    split at h
    ·exact moreR_few f l (j + 1) d _ al k h
    ·cases hn : needR l j [41] with
     | out => rw [hn] at h; cases h
     | err c ln col => rw [hn] at h; cases h
     | ok u j2 => rw [hn, Res.bind_ok] at h; cases h; simp; omega
theorem listR_few (f : Nat) (l : List Tok) (i d : Nat) (al : List Ex) (k : Nat) (h : listR f l i d = .ok al k) : al.length ≤ 8 := by
 cases f with
 | zero => rw [listR] at h; cases h
 | succ f =>
  rw [listR] at h
  split at h
  ·cases h; simp
  ·exact moreR_few f l i d [] al k h
structure PoJ (R : Rdr) (j1 d bx bp bq : Nat) (w6 : World) (nm : ByteArray) (tl tc : Int) (xc : List Value) (x : Ex) (PX : Nat → Prop) (r1 : Res (List Ex)) (L : Nat → Bool) (V : Nat → Value) (X : World) : Prop where
 p0 : L 0 = true → V 0 = .string nm
 p1 : L 1 = true → V 1 = .agg xc.toArray
 p2 : L 2 = true → L 5 = false → True ∧ X.ownsRow w6.heap.size 29 9 (V 2) 1 xc
 p3 : L 3 = true → V 3 = .agg #[.pointer (some ⟨R.rb, 0, none⟩)]
 p4 : L 4 = true → L 5 = false → ∃ l k xs, r1 = .ok l k ∧ RowP X (fun q => w6.heap.size ≤ q) (V 4) l.length xs ∧ ExsP X (fun q => w6.heap.size ≤ q ∧ (L 2 = true → (V 2).ownBlock ≠ some q)) l xs
 p5 : L 5 = true → ∃ l k c a, r1 = .ok l k ∧ V 5 = .slice a (1 + l.length) c ∧ ExsQ X PX (x :: l) (V 5)
 p6 : L 6 = true → V 6 = .agg #[.int .i64 tl, .int .i64 tc]
 p7 : L 7 = true → V 7 = .agg #[.int .i64 13, .string nm, .int .u64 0, .bool false, V 5, .slice none 0 0, .slice none 0 0, .int .i64 tl, .int .i64 tc]
 rd : ∃ i, RdAt R X i d ∧ cond (L 4) (∃ l, r1 = .ok l i) (i = j1)
 st : Step (fun q => q = R.rb ∨ q = bx) w6 X
 x0 : L 8 = false → X.heap[bx]? = some (.cells xc.toArray 29 (0, 0))
 x1 : L 8 = true → X.heap[bx]? = some (.cells #[.int .i64 13, .string nm, .int .u64 0, .bool false, V 5, .slice none 0 0, .slice none 0 0, .int .i64 tl, .int .i64 tc] 29 (0, 0))
 bp0 : X.cell? ⟨bp, 0, none⟩ = some (.pointer (some ⟨R.rb, 0, none⟩))
 bq0 : X.heap[bq]? = some (.cells #[.int .i64 tl, .int .i64 tc] 27 (0, 0))
 ex : ExP X (fun q => PX q ∧ q < w6.heap.size) x xc
 q2 : L 2 = true → L 1 = true
 q5 : L 5 = true → L 2 = true ∧ L 4 = true
 q7 : L 7 = true → L 0 = true ∧ L 5 = true ∧ L 6 = true
 q8 : L 8 = true → L 1 = true ∧ L 7 = true
theorem post_step (f : Nat) (ihP : PrimOk f) (ihI : ∀ f', f' < f → ListOk f') : PostOk (f + 1) := by
 intro R w i d hl h hd hno
 have HL := Lib.hid hl
 have H0 := Lib.hid h
 have IHP := Lib.hid ihP
 have IHI := Lib.hid ihI
 obtain ⟨r, hr⟩ : ∃ r, r = postR (f + 1) R.l i d := ⟨_, rfl⟩
 have HRR : Hid (r = (primR f R.l i d).bind fun x j => dotsR f R.l j d x) := by show _ = _; rw [hr, postR]
 rw [← hr] at hno ⊢
 have HNO := Lib.hid hno
 have hrlt := blk_lt h.blk
 obtain ⟨i0, hi0, hz0, hz1, hz2⟩ := info_parts Try.infoExpr
 have HI := Lib.hid hi0
 have HZ0 := Lib.hid hz0
 have HZ1 := Lib.hid hz1
 have HZ2 := Lib.hid hz2
 obtain ⟨w1, hw1⟩ : ∃ w1 : World, w1 = (w.alloc (.cells #[.pointer (some ⟨R.rb, 0, none⟩)] 45)).alloc (.cells #[.int .i64 0, .string ⟨#[]⟩, .int .u64 0, .bool false, .slice none 0 0, .slice none 0 0, .slice none 0 0, .int .i64 0, .int .i64 0] 29) := ⟨_, rfl⟩
 have HS1 : Hid (Step (fun _ => False) w w1) := by show Step _ _ _; rw [hw1]; exact ((Step.refl _ _).alloc _).alloc _
 have HP1 : Hid (w1.heap[w.heap.size]? = some (.cells #[.pointer (some ⟨R.rb, 0, none⟩)] 45 (0, 0))) := by show _ = _; rw [hw1]; exact blk_alloc (blk_new _ _)
 have HN1 : Hid (w1.heap[w.heap.size + 1]? = some (.cells #[.int .i64 0, .string ⟨#[]⟩, .int .u64 0, .bool false, .slice none 0 0, .slice none 0 0, .slice none 0 0, .int .i64 0, .int .i64 0] 29 (0, 0))) := by show _ = _; rw [hw1]; exact blk_new2 _ _ _
 have HW1 := Lib.hid hw1
 have H1 := Lib.hid (h.quiet HS1.out)
 have hn1 := blk_lt HN1.out
 have p0 : w1.cell? ⟨w.heap.size, 0, none⟩ = some (.pointer (some ⟨R.rb, 0, none⟩)) := blk_cell HP1.out 0 _ rfl
 clear ihP ihI hl h hno hr hw1 hi0 hz0 hz1 hz2
 go_enter Try.func37, Try.ntmps37
 go_upto_region 1 with fail
 rw [← HW1.out]
 go_wp2_with fail
 refine (IHP.out R w1 i d HL.out H1.out hd (fun e => HNO.out (by rw [HRR.out, e]; rfl))).mono ?_
 rintro e wx hp
 have hp2 : PPost R d (ExV w1.heap.size) (primR f R.l i d) _ e wx := hp
 cases hx : primR f R.l i d with
 | out => exact absurd (by rw [HRR.out, hx]; rfl) HNO.out
 | err c ln col =>
  rw [hx] at hp2
  obtain ⟨rfl, sq⟩ := hp2
  exact ⟨rfl, PPost.of_err (c := c) (ln := ln) (col := col) (by rw [HRR.out, hx]; rfl) rfl ((HS1.out.mono (fun _ _ h => h.elim)).trans sq)⟩
 | ok x jx =>
   have HX := Lib.hid hx
   rw [hx] at hp2
   obtain ⟨⟨v, rfl, cs, rfl, hy⟩, hrx, hsx⟩ := hp2
   have HY := Lib.hid hy
   obtain ⟨k0, nm0, v0, mu0, a1, n1, c1, a2, n2, c2, a3, n3, c3, l0, c0, rfl⟩ := hy.parts
   have HRX := Lib.hid hrx
   have HSX : Hid (Step (· = R.rb) w1 wx) := hsx
   have HR3 : Hid (r = dotsR f R.l jx d x) := by show _ = _; rw [HRR.out, HX.out]; rfl
   have hzx := hsx.size
   obtain ⟨w3, hw3⟩ : ∃ w3 : World, w3 = wx.alloc (.cells #[.int .i64 k0, .string nm0, .int .u64 v0, .bool mu0, .slice a1 n1 c1, .slice a2 n2 c2, .slice a3 n3 c3, .int .i64 l0, .int .i64 c0] 29) := ⟨_, rfl⟩
   have HS3 : Hid (Step (fun _ => False) wx w3) := by show Step _ _ _; rw [hw3]; exact (Step.refl _ _).alloc _
   have HB3 : Hid (w3.heap[wx.heap.size]? = some (.cells #[.int .i64 k0, .string nm0, .int .u64 v0, .bool mu0, .slice a1 n1 c1, .slice a2 n2 c2, .slice a3 n3 c3, .int .i64 l0, .int .i64 c0] 29 (0, 0))) := by show _ = _; rw [hw3]; exact blk_new _ _
   have HS13 : Hid (Step (· = R.rb) w1 w3) := HSX.out.trans (HS3.out.mono (fun _ _ h => h.elim))
   have HW3 := Lib.hid hw3
   clear hx hp hy hrx hsx p0 hw3
   have hxb := blk_lt HB3.out
   have hz3 := HS3.out.size
   have HEX3 : Hid (ExP w3 (fun q => w1.heap.size ≤ q ∧ q ≠ wx.heap.size) x [.int .i64 k0, .string nm0, .int .u64 v0, .bool mu0, .slice a1 n1 c1, .slice a2 n2 c2, .slice a3 n3 c3, .int .i64 l0, .int .i64 c0]) := ExP.step HS3.out (fun _ _ h => h) _ _ (ExP.mono (fun q hq hh => ⟨by omega, by omega⟩) _ _ HY.out)
   have HLS0 : Hid (LvSt R w1 w3 wx.heap.size d w3 jx x [.int .i64 k0, .string nm0, .int .u64 v0, .bool mu0, .slice a1 n1 c1, .slice a2 n2 c2, .slice a3 n3 c3, .int .i64 l0, .int .i64 c0]) := ⟨HRX.out.quiet HS3.out, HB3.out, HEX3.out, Step.refl _ _⟩
   go_upto_block 0 with fail
   rw [← HW3.out]
   obtain ⟨bx, hbx⟩ : ∃ bx, bx = wx.heap.size := ⟨_, rfl⟩
   rw [← hbx] at HLS0 hxb ⊢
   have hbx1 : w1.heap.size ≤ bx := by omega
   have HP3 := Lib.hid (HS13.out.keep HP1.out (by omega))
   have HN3 := Lib.hid (HS13.out.keep HN1.out (by omega))
   have HKX : Hid (∀ X : World, Step (fun q => q = R.rb ∨ q = bx) w3 X → X.cell? ⟨w.heap.size, 0, none⟩ = some (.pointer (some ⟨R.rb, 0, none⟩)) ∧ X.heap[w.heap.size + 1]? = some (.cells #[.int .i64 0, .string ⟨#[]⟩, .int .u64 0, .bool false, .slice none 0 0, .slice none 0 0, .slice none 0 0, .int .i64 0, .int .i64 0] 29 (0, 0))) := by
    show ∀ X, _
    intro X hX
    exact ⟨blk_cell (hX.keep HP3.out (by omega)) 0 _ rfl, hX.keep HN3.out (by omega)⟩
   have HS03 : Hid (Step (· = R.rb) w w3) := (HS1.out.mono (fun _ _ h => h.elim)).trans HS13.out
   have HBK : Hid (∀ X : World, Step (fun q => q = R.rb ∨ q = bx) w3 X → Step (· = R.rb) w X) := by
    show ∀ X, _
    intro X hX
    exact HS03.out.then hX (fun q hq e => by omega)
   clear hbx
   go_wp2_with fail
   go_loopg [5] f (fun gg s5 wr => gg ≤ f ∧ ∃ (i' : Nat) (x : Ex) (cs : List Value), r = dotsR gg R.l i' d x ∧ LvSt R w1 w3 bx d wr i' x cs)
   case atStart => exact ⟨Nat.le_refl _, jx, x, _, HR3.out, HLS0.out⟩
   case round =>
    obtain ⟨hgf, i', x, cs, hrq, hst⟩ := hrel
    obtain ⟨gn, rfl⟩ : ∃ gn, gk = gn + 1 := by
     cases gk with
     | zero => exact absurd hrq (by rw [dotsR]; exact HNO.out)
     | succ gn => exact ⟨gn, rfl⟩
    obtain ⟨k0, nm0, v0, mu0, a1, n1, c1, a2, n2, c2, a3, n3, c3, l0, c0, rfl⟩ := hst.ex.parts
    have HST := Lib.hid hst
    obtain ⟨p0, -⟩ := HKX.out wr hst.st
    obtain ⟨tk, htk⟩ : ∃ tk, tk = tokA R.l i' := ⟨_, rfl⟩
    have HRQ : Hid (r = if isF R.l i' [46] then (nameR R.l (i' + 1)).bind fun n j => if isF R.l j [40] then (listR gn R.l (j + 1) d).bind fun al j => dotsR gn R.l j d (exMk 13 n 0 false (x :: al) [] [] tk) else dotsR gn R.l j d (exMk 6 n 0 false [x] [] [] tk) else .ok x i') := by show _ = _; rw [hrq, dotsR, htk]
    have HAT := Lib.hid (at_at R wr i' d tk hst.rd (by rw [htk]; exact hst.rd.tok))
    clear hrq hst htk
    go_upto_region 2 with fail
    go_wp2_with fail
    refine HAT.out.mono ?_
    rintro e w4 ⟨rfl, h4⟩
    have HST4 := Lib.hid (HST.out.quiet h4)
    obtain ⟨w5, hw5⟩ : ∃ w5 : World, w5 = w4.alloc (.cells #[.int .i64 tk.line, .int .i64 tk.col] 27) := ⟨_, rfl⟩
    have HS5 : Hid (Step (fun _ => False) w4 w5) := by show Step _ _ _; rw [hw5]; exact (Step.refl _ _).alloc _
    have HQ5 : Hid (w5.heap[w4.heap.size]? = some (.cells #[.int .i64 tk.line, .int .i64 tk.col] 27 (0, 0))) := by show _ = _; rw [hw5]; exact blk_new _ _
    have HST5 := Lib.hid (HST4.out.quiet HS5.out)
    have hz4 := HST4.out.st.size
    have hz5 := HS5.out.size
    have HW5 := Lib.hid hw5
    clear h4 hw5 p0
    obtain ⟨p0, -⟩ := HKX.out w5 HST5.out.st
    go_upto_region 3 with fail
    rw [← HW5.out]
    go_wp2_with fail
    cases hb : isF R.l i' [46] with
    | false =>
     have HB := Lib.hid hb
     clear hb
     refine (is_no R HL.out ⟨#[46]⟩ _ i' d HST5.out.rd (by decide) HB.out).mono ?_
     rintro e w6 ⟨rfl, hr6, h6⟩
     have HST6 := Lib.hid (HST5.out.read (by omega) (by omega) hr6 h6)
     have HRE : Hid (r = .ok x i') := by show _ = _; rw [HRQ.out, HB.out, if_neg (by decide)]
     have HONE := Lib.hid HST6.out.ex.one
     have HLD : Hid (∀ (jj : Nat) v, [Value.int .i64 k0, .string nm0, .int .u64 v0, .bool mu0, .slice a1 n1 c1, .slice a2 n2 c2, .slice a3 n3 c3, .int .i64 l0, .int .i64 c0][jj]? = some v → w6.cell? ⟨bx, 0 + jj, none⟩ = some v) := by
      show ∀ jj v, _
      intro jj v hv
      rw [Nat.zero_add]; exact blk_cell HST6.out.blk jj v (by simpa using hv)
     have HN6 := Lib.hid (HKX.out w6 HST6.out.st).2
     clear hr6 h6 p0
     go_wp2_with (first
      | (refine wpList_load_whole rfl 29 (.tmp 3) rfl bx 0 rfl [.int .i64 k0, .string nm0, .int .u64 v0, .bool mu0, .slice a1 n1 c1, .slice a2 n2 c2, .slice a3 n3 c3, .int .i64 l0, .int .i64 c0] _ HLD.out Try.underlying29 rfl Try.sizeExpr ?_)
      | (refine wpList_store_part (w := w6) rfl 29 (.tmp 2) (.tmp 15) rfl (w.heap.size + 1) 0 29 _ [.int .i64 k0, .string nm0, .int .u64 v0, .bool mu0, .slice a1 n1 c1, .slice a2 n2 c2, .slice a3 n3 c3, .int .i64 l0, .int .i64 c0] rfl rfl HN6.out Try.sizeExpr (Nat.le_of_eq rfl) HONE.out ?_
         intro w7 hb7 hst7))
     have hb7' : w7.heap[w.heap.size + 1]? = some (.cells [Value.int .i64 k0, .string nm0, .int .u64 v0, .bool mu0, .slice a1 n1 c1, .slice a2 n2 c2, .slice a3 n3 c3, .int .i64 l0, .int .i64 c0].toArray 29 (0, 0)) := hb7
     refine bodyPost_ret (results_cellB rfl _ (w.heap.size + 1) 29 _ _ rfl hb7' Try.underlying29 rfl Try.sizeExpr) rfl ?_
     have hz1 := HS1.out.size
     refine PPost.of_ok HRE.out rfl ⟨_, rfl, ExP.mono (fun q _ hq => by have := hq.1; omega) _ _ (ExP.step hst7 (fun q hq e => by have := hq.1; omega) _ _ HST6.out.ex)⟩ (HST6.out.rd.step hst7 (fun q hq e => by omega)) ?_
     exact (HBK.out _ HST6.out.st).then hst7 (fun q hq e => by omega)
    | true =>
     have HB := Lib.hid hb
     clear hb
     refine (is_yes R HL.out ⟨#[46]⟩ _ i' d HST5.out.rd (by decide) HB.out).mono ?_
     rintro e w6 ⟨rfl, hr6, h6⟩
     have HST6 := Lib.hid (HST5.out.read (by omega) (by omega) hr6 h6)
     have HQ6 := Lib.hid (h6.keep HQ5.out (by omega))
     have HRA : Hid (r = (nameR R.l (i' + 1)).bind fun n j => if isF R.l j [40] then (listR gn R.l (j + 1) d).bind fun al j => dotsR gn R.l j d (exMk 13 n 0 false (x :: al) [] [] tk) else dotsR gn R.l j d (exMk 6 n 0 false [x] [] [] tk)) := by show _ = _; rw [HRQ.out, HB.out, if_pos rfl]
     clear hr6 h6 p0
     obtain ⟨p0, -⟩ := HKX.out w6 HST6.out.st
     go_wp2_with fail
     refine (name_any R HL.out _ (i' + 1) d HST6.out.rd).mono ?_
     rintro e w7 hp
     have hp2 : PPost R d StrV (nameR R.l (i' + 1)) _ e w7 := hp
     cases hn : nameR R.l (i' + 1) with
     | out => exact (nameR_out hn).elim
     | err c ln col =>
      rw [hn] at hp2
      obtain ⟨rfl, hs⟩ := hp2
      exact ⟨rfl, PPost.of_err (c := c) (ln := ln) (col := col) (by rw [HRA.out, hn]; rfl) rfl (HBK.out _ (HST6.out.st.trans (hs.mono (fun _ _ e => .inl e))))⟩
     | ok nm j =>
      have HN := Lib.hid hn
      have HNS := Lib.hid (nameR_size HL.out HST6.out.rd.lt hn)
      rw [hn] at hp2
      obtain ⟨⟨v, rfl, rfl⟩, hr, hs⟩ := hp2
      have HST7 := Lib.hid (HST6.out.read (by omega) (by omega) hr hs)
      have HQ7 := Lib.hid (hs.keep HQ6.out (by omega))
      have HRB : Hid (r = if isF R.l j [40] then (listR gn R.l (j + 1) d).bind fun al j => dotsR gn R.l j d (exMk 13 nm 0 false (x :: al) [] [] tk) else dotsR gn R.l j d (exMk 6 nm 0 false [x] [] [] tk)) := by show _ = _; rw [HRA.out, HN.out]; rfl
      clear hn hr hs hp p0
      obtain ⟨p0, -⟩ := HKX.out w7 HST7.out.st
      go_wp2_with fail
      cases hb : isF R.l j [40] with
      | false =>
       have HC := Lib.hid hb
       clear hb
       refine (is_no R HL.out ⟨#[40]⟩ _ j d HST7.out.rd (by decide) HC.out).mono ?_
       rintro e w8 ⟨rfl, hr8, h8⟩
       have HST8 := Lib.hid (HST7.out.read (by omega) (by omega) hr8 h8)
       have HQ8 := Lib.hid (h8.keep HQ7.out (by omega))
       have HRE : Hid (r = dotsR gn R.l j d (exMk 6 nm 0 false [x] [] [] tk)) := by show _ = _; rw [HRB.out, HC.out, if_neg (by decide)]
       have HLD : Hid (∀ (jj : Nat) v, [Value.int .i64 k0, .string nm0, .int .u64 v0, .bool mu0, .slice a1 n1 c1, .slice a2 n2 c2, .slice a3 n3 c3, .int .i64 l0, .int .i64 c0][jj]? = some v → w8.cell? ⟨bx, 0 + jj, none⟩ = some v) := by
        show ∀ jj v, _
        intro jj v hv
        rw [Nat.zero_add]; exact blk_cell HST8.out.blk jj v (by simpa using hv)
       obtain ⟨w9, hw9⟩ : ∃ w9 : World, w9 = w8.alloc (.cells #[.int .i64 k0, .string nm0, .int .u64 v0, .bool mu0, .slice a1 n1 c1, .slice a2 n2 c2, .slice a3 n3 c3, .int .i64 l0, .int .i64 c0] 29) := ⟨_, rfl⟩
       have HS9 : Hid (Step (fun _ => False) w8 w9) := by show Step _ _ _; rw [hw9]; exact (Step.refl _ _).alloc _
       have HG9 : Hid (w9.heap[w8.heap.size]? = some (.cells #[.int .i64 k0, .string nm0, .int .u64 v0, .bool mu0, .slice a1 n1 c1, .slice a2 n2 c2, .slice a3 n3 c3, .int .i64 l0, .int .i64 c0] 29 (0, 0))) := by show _ = _; rw [hw9]; exact blk_new _ _
       have HST9 := Lib.hid (HST8.out.quiet HS9.out)
       have HX9 : Hid (w8.alloc (.cells #[.int .i64 k0, .string nm0, .int .u64 v0, .bool mu0, .slice a1 n1 c1, .slice a2 n2 c2, .slice a3 n3 c3, .int .i64 l0, .int .i64 c0] 29) = w9) := hw9.symm
       have hq := HS9.out.keep HQ8.out (fun h => h)
       have q0 := blk_cell hq 0 _ rfl
       have q1 := blk_cell hq 1 _ rfl
       rw [hw9] at q0 q1
       have HON : Hid (∀ u ∈ [Value.int .i64 6, .string nm, .int .u64 0, .bool false, .slice (some ⟨w8.heap.size, 0, none⟩) 1 1, .slice none 0 0, .slice none 0 0, .int .i64 tk.line, .int .i64 tk.col], u.oneCell' = true) := oneCells rfl
       have hg9 := blk_lt HG9.out
       have hz8 := HST8.out.st.size
       clear hr8 h8 p0 hw9 hq
       go_wp2_with (first
        | (refine wpList_load_whole rfl 29 (.tmp 3) rfl bx 0 rfl [.int .i64 k0, .string nm0, .int .u64 v0, .bool mu0, .slice a1 n1 c1, .slice a2 n2 c2, .slice a3 n3 c3, .int .i64 l0, .int .i64 c0] _ HLD.out Try.underlying29 rfl Try.sizeExpr ?_)
        | (rw [HX9.out]
           refine wpList_store_part (w := w9) rfl 29 (.tmp 3) (.tmp 27) rfl bx 0 29 _ [.int .i64 6, .string nm, .int .u64 0, .bool false, .slice (some ⟨w8.heap.size, 0, none⟩) 1 1, .slice none 0 0, .slice none 0 0, .int .i64 tk.line, .int .i64 tk.col] rfl rfl HST9.out.blk Try.sizeExpr (Nat.le_of_eq rfl) HON.out ?_
           intro wa hba hsa))
       have hba' : wa.heap[bx]? = some (.cells [Value.int .i64 6, .string nm, .int .u64 0, .bool false, .slice (some ⟨w8.heap.size, 0, none⟩) 1 1, .slice none 0 0, .slice none 0 0, .int .i64 tk.line, .int .i64 tk.col].toArray 29 (0, 0)) := hba
       have HEND : Hid (LvSt R w1 w3 bx d wa j (exMk 6 nm 0 false [x] [] [] tk) [.int .i64 6, .string nm, .int .u64 0, .bool false, .slice (some ⟨w8.heap.size, 0, none⟩) 1 1, .slice none 0 0, .slice none 0 0, .int .i64 tk.line, .int .i64 tk.col]) := by
        refine ⟨HST9.out.rd.step hsa (fun q hq e => by omega), hba', ?_, HST9.out.st.trans (hsa.mono (fun _ _ e => .inr e))⟩
        exact ExQ.mk HNS.out (ExsQ.single (ExP.step hsa (fun q hq e => hq.2 e) _ _ HST9.out.ex) (hsa.keep HG9.out (by omega)) ⟨by omega, by omega⟩) (NamesQ.nil _ _) (StsQ.nil _ _)
       clear hba hba' hsa q0 q1
       try go_wp2_with fail
       go_roundg gn
       case rel => exact ⟨by omega, j, _, _, HRE.out, HEND.out⟩
       case measure => omega
      | true =>
       have HC := Lib.hid hb
       clear hb
       refine (is_yes R HL.out ⟨#[40]⟩ _ j d HST7.out.rd (by decide) HC.out).mono ?_
       rintro e w8 ⟨rfl, hr8, h8⟩
       have HST8 := Lib.hid (HST7.out.read (by omega) (by omega) hr8 h8)
       have HQ8 := Lib.hid (h8.keep HQ7.out (by omega))
       have HRE : Hid (r = (listR gn R.l (j + 1) d).bind fun al j => dotsR gn R.l j d (exMk 13 nm 0 false (x :: al) [] [] tk)) := by show _ = _; rw [HRB.out, HC.out, if_pos rfl]
       obtain ⟨p0, -⟩ := HKX.out w8 HST8.out.st
       have hz8 := HST8.out.st.size
       have hqlt := blk_lt HQ8.out
       have hblt := blk_lt HST8.out.blk
       obtain ⟨r1, hr1⟩ : ∃ r1, r1 = listR gn R.l (j + 1) d := ⟨_, rfl⟩
       have HR1 := Lib.hid hr1
       have HRE2 : Hid (r = r1.bind fun al j => dotsR gn R.l j d (exMk 13 nm 0 false (x :: al) [] [] tk)) := by show _ = _; rw [HRE.out, hr1]
       have HRN : Hid (r1 ≠ .out) := by show _ ≠ _; intro e; exact HNO.out (by rw [HRE2.out, e]; rfl)
       have HFEW : Hid (∀ l k, r1 = .ok l k → l.length ≤ 8) := by
        show ∀ l k, _
        intro l k e
        exact listR_few gn R.l (j + 1) d l k (by rw [← HR1.out]; exact e)
       have HCAL : Hid (∀ X, RdAt R X (j + 1) d → Calls Try.prog 56 #[.agg #[.pointer (some ⟨R.rb, 0, none⟩)]] X (PPost R d (ExsV X.heap.size) r1 X)) := by
        show ∀ X, _
        intro X hX
        rw [HR1.out]
        exact IHI.out gn (by omega) R X (j + 1) d HL.out hX hd (by rw [← HR1.out]; exact HRN.out)
       obtain ⟨PX, hPX⟩ : ∃ PX : Nat → Prop, PX = fun q => w1.heap.size ≤ q ∧ q ≠ bx := ⟨_, rfl⟩
       have HPX := Lib.hid hPX
       have HPX6 : Hid (∀ q, w8.heap.size ≤ q → PX q) := by show ∀ q, _; intro q hq; rw [hPX]; exact ⟨by omega, by omega⟩
       have HPB : Hid (∀ q, PX q → q ≠ R.rb ∧ q ≠ bx) := by show ∀ q, _; intro q hq; rw [hPX] at hq; exact ⟨by have := hq.1; omega, hq.2⟩
       obtain ⟨Jx, hJx⟩ : ∃ Jx : (Nat → Bool) → (Nat → Value) → World → Prop, Jx = PoJ R (j + 1) d bx w.heap.size w4.heap.size w8 nm tk.line tk.col [.int .i64 k0, .string nm0, .int .u64 v0, .bool mu0, .slice a1 n1 c1, .slice a2 n2 c2, .slice a3 n3 c3, .int .i64 l0, .int .i64 c0] x PX r1 := ⟨_, rfl⟩
       have HJX := Lib.hid hJx
       have HZ8 : Hid (∀ V, Jx (fun _ => false) V w8.drew) := by
        show ∀ V, _
        intro V
        have hs : Step (fun _ => False) w8 w8.drew := (Step.refl _ _).drew
        rw [hJx]
        exact ⟨(fun h => nomatch h), (fun h => nomatch h), (fun h => nomatch h), (fun h => nomatch h), (fun h => nomatch h), (fun h => nomatch h), (fun h => nomatch h), (fun h => nomatch h), ⟨_, HST8.out.rd.quiet hs, rfl⟩, hs.mono (fun _ _ h => h.elim), fun _ => hs.keep HST8.out.blk (fun h => h), (fun h => nomatch h), hs.cell p0 (fun h => h), hs.keep HQ8.out (fun h => h), ExP.step hs (fun _ _ h => h) _ _ (ExP.mono (fun q h7 h8 => ⟨by rw [hPX]; exact h8, h7⟩) _ _ HST8.out.ex), (fun h => nomatch h), (fun h => nomatch h), (fun h => nomatch h), (fun h => nomatch h)⟩
       clear hr8 h8 p0 hJx hPX hr1
       go_upto_region 8 with fail
       refine wp_region_relyD (by kernel_rfl) Jx 9 rfl (by kernel_rfl) (by kernel_rfl) (by kernel_rfl) (by kernel_rfl) ?h0 ?hs ?hdone
       case h0 => exact HZ8.out _
       case hs =>
        refine ⟨?_, ?_, ?_, ?_, ?_, ?_, ?_, ?_, ?_, trivial⟩
        ·intro L V X a ev evo hdf hL hdep hJ
         rw [HJX.out] at hJ
         have o5 := evo 5 rfl
         change a.tmps[5]?.getD undef = .string nm at o5
         have h7 : L 7 = false := by
          cases e : L 7 with
          | false => rfl
          | true => exact absurd ((hJ.q7 e).1) (by rw [hL]; decide)
         have h8 : L 8 = false := by
          cases e : L 8 with
          | false => rfl
          | true => exact absurd ((hJ.q8 e).2) (by rw [h7]; decide)
         go_simp
         exact ⟨_, rfl, by rw [HJX.out]; exact { hJ with p0 := fun _ => rfl, q7 := fun e => absurd (show L 7 = true from e) (by rw [h7]; decide) }⟩
        ·intro L V X a ev evo hdf hL hdep hJ
         rw [HJX.out] at hJ
         have o3 := evo 3 rfl
         change a.tmps[3]?.getD undef = .pointer (some ⟨bx, 0, none⟩) at o3
         have h2 : L 2 = false := by
          cases e : L 2 with
          | false => rfl
          | true => exact absurd (hJ.q2 e) (by rw [hL]; decide)
         have h8 : L 8 = false := by
          cases e : L 8 with
          | false => rfl
          | true => exact absurd (hJ.q8 e).1 (by rw [hL]; decide)
         have hb := hJ.x0 h8
         refine wp_load_mid 29 (.tmp 3) rfl bx 0 (by rw [evalTmp]; exact o3) [.int .i64 k0, .string nm0, .int .u64 v0, .bool mu0, .slice a1 n1 c1, .slice a2 n2 c2, .slice a3 n3 c3, .int .i64 l0, .int .i64 c0] _ (fun jj v hv => by rw [Nat.zero_add]; exact blk_cell hb jj v (by simpa using hv)) Try.underlying29 rfl Try.sizeExpr ?_
         exact ⟨_, rfl, by rw [HJX.out]; exact { hJ with p1 := fun _ => rfl, q2 := fun e => absurd (show L 2 = true from e) (by rw [h2]; decide), q8 := fun e => absurd (show L 8 = true from e) (by rw [h8]; decide) }⟩
        ·intro L V X a ev evo hdf hL hdep hJ
         rw [HJX.out] at hJ
         have e29 := (ev 1 29 rfl (hdep 1 rfl)).trans (hJ.p1 (hdep 1 rfl))
         have h5 : L 5 = false := by
          cases e : L 5 with
          | false => rfl
          | true => exact absurd (hJ.q5 e).1 (by rw [hL]; decide)
         have hs : Step (fun _ => False) X (X.alloc (.cells #[.int .i64 k0, .string nm0, .int .u64 v0, .bool mu0, .slice a1 n1 c1, .slice a2 n2 c2, .slice a3 n3 c3, .int .i64 l0, .int .i64 c0] 29)) := (Step.refl _ _).alloc _
         have h48 := hJ.st.size
         go_simp
         refine ⟨_, rfl, ?_⟩
         rw [HJX.out]
         refine { hJ with p2 := fun _ _ => ⟨trivial, owns_new X w8.heap.size 29 9 [.int .i64 k0, .string nm0, .int .u64 v0, .bool mu0, .slice a1 n1 c1, .slice a2 n2 c2, .slice a3 n3 c3, .int .i64 l0, .int .i64 c0] rfl h48⟩, p4 := fun e e2 => ?_, p5 := fun e => absurd (show L 5 = true from e) (by rw [h5]; decide), rd := ?_, st := hJ.st.alloc _, x0 := fun e => hs.keep (hJ.x0 e) (fun h => h), x1 := fun e => hs.keep (hJ.x1 e) (fun h => h), bp0 := hs.cell hJ.bp0 (fun h => h), bq0 := hs.keep hJ.bq0 (fun h => h), ex := ExP.step hs (fun _ _ h => h) _ _ hJ.ex, q2 := fun _ => hdep 1 rfl, q5 := fun e => absurd (show L 5 = true from e) (by rw [h5]; decide) }
         ·obtain ⟨l, k, xs, y1, y2, y3⟩ := hJ.p4 e e2
          refine ⟨l, k, xs, y1, y2.step hs (fun _ _ h => h), ExsP.step hs (fun _ _ h => h) _ _ (ExsP.mono (fun q h7 h8 => ⟨h8.1, fun _ e => ?_⟩) _ _ y3)⟩
          have e3 : X.heap.size = q := Option.some.inj e
          omega
         ·obtain ⟨i9, y1, y2⟩ := hJ.rd
          exact ⟨i9, y1.quiet hs, y2⟩
        ·intro L V X a ev evo hdf hL hdep hJ
         rw [HJX.out] at hJ
         have o1 := evo 1 rfl
         change a.tmps[1]?.getD undef = .pointer (some ⟨w.heap.size, 0, none⟩) at o1
         have p9 := hJ.bp0
         go_simp
         exact ⟨_, rfl, by rw [HJX.out]; exact { hJ with p3 := fun _ => rfl }⟩
        ·intro L V X a ev evo hdf hL hdep hJ
         rw [HJX.out] at hJ
         have e31 := (ev 3 31 rfl (hdep 3 rfl)).trans (hJ.p3 (hdep 3 rfl))
         have h5 : L 5 = false := by
          cases e : L 5 with
          | false => rfl
          | true => exact absurd (hJ.q5 e).2 (by rw [hL]; decide)
         have h7 : L 7 = false := by
          cases e : L 7 with
          | false => rfl
          | true => exact absurd (hJ.q7 e).2.1 (by rw [h5]; decide)
         have h8 : L 8 = false := by
          cases e : L 8 with
          | false => rfl
          | true => exact absurd (hJ.q8 e).2 (by rw [h7]; decide)
         obtain ⟨i9, y1, y2⟩ := hJ.rd
         rw [hL] at y2
         have y3 : i9 = j + 1 := y2
         subst y3
         have hsz := hJ.st.size
         go_simp
         refine (HCAL.out X y1).mono ?_
         intro e wq hp
         cases hx : r1 with
         | out => exact absurd hx HRN.out
         | err cc ln col =>
          rw [hx] at hp
          obtain ⟨rfl, hs⟩ := hp
          exact ⟨hdf, PPost.of_err (c := cc) (ln := ln) (col := col) (by rw [HRE2.out, hx]; rfl) rfl (HBK.out _ ((HST8.out.st.trans hJ.st).trans (hs.mono (fun _ _ e => .inl e))))⟩
         | ok l k =>
          have hx0 := hx
          rw [hx] at hp
          obtain ⟨⟨v, rfl, xs, hrow, hxs⟩, hr, hs⟩ := hp
          refine ⟨_, rfl, ?_⟩
          rw [HJX.out]
          refine { hJ with p2 := fun e e2 => ?_, p4 := fun _ _ => ⟨l, k, xs, hx0, hrow.mono (fun q _ hq => by omega), ExsP.mono (fun q _ hq => ⟨by omega, fun e e3 => ?_⟩) _ _ hxs⟩, p5 := fun e => absurd (show L 5 = true from e) (by rw [h5]; decide), rd := ⟨k, hr, ⟨l, hx0⟩⟩, st := hJ.st.trans (hs.mono (fun _ _ e => .inl e)), x0 := fun e => hs.keep (hJ.x0 e) (by omega), x1 := fun e => absurd (show L 8 = true from e) (by rw [h8]; decide), bp0 := hs.cell hJ.bp0 (fun e => by have e2 : w.heap.size = R.rb := e; omega), bq0 := hs.keep hJ.bq0 (by omega), ex := ExP.step hs (fun q hq e => (HPB.out q hq.1).1 e) _ _ hJ.ex, q5 := fun e => absurd (show L 5 = true from e) (by rw [h5]; decide) }
          ·obtain ⟨z1, z2⟩ := hJ.p2 e e2
           exact ⟨z1, hs.owns z2 (fun _ _ h => by omega)⟩
          ·obtain ⟨z1, z2⟩ := hJ.p2 e h5
           have := (z2.lt q e3).2
           omega
        ·intro L V X a ev evo hdf hL hdep hJ
         rw [HJX.out] at hJ
         have e30 := ev 2 30 rfl (hdep 2 rfl)
         have e32 := ev 4 32 rfl (hdep 4 rfl)
         have h7 : L 7 = false := by
          cases e : L 7 with
          | false => rfl
          | true => exact absurd (hJ.q7 e).2.1 (by rw [hL]; decide)
         have h8 : L 8 = false := by
          cases e : L 8 with
          | false => rfl
          | true => exact absurd (hJ.q8 e).2 (by rw [h7]; decide)
         obtain ⟨z1, z2⟩ := hJ.p2 (hdep 2 rfl) hL
         obtain ⟨l, k, xs, y1, y2, y3⟩ := hJ.p4 (hdep 4 rfl) hL
         have hfew := HFEW.out l k y1
         refine wp_append_row _ X.heap.size (.tmp 30) (.tmp 32) 23 rfl w8.heap.size 29 i0 (.agg #[.int .i64 0, .string ⟨#[]⟩, .int .u64 0, .bool false, .slice none 0 0, .slice none 0 0, .slice none 0 0, .int .i64 0, .int .i64 0]) 9 128 Try.underlying23 HI.out HZ0.out HZ1.out HZ2.out rfl (by decide) (V 2) 1 [.int .i64 k0, .string nm0, .int .u64 v0, .bool mu0, .slice a1 n1 c1, .slice a2 n2 c2, .slice a3 n3 c3, .int .i64 l0, .int .i64 c0] (by rw [evalTmp]; exact e30) z2 (V 4) l.length xs (by rw [evalTmp]; exact e32) (y2.row (fun q h7 _ => h7)) y3.len (ExsP.one y3) (by unfold maxLen; omega) (by omega) hJ.st.size ?_
         intro v9 w9 hown9 hgrow9 hat9
         have hg := grown_step hgrow9
         obtain ⟨a9, c9, hv9⟩ := owns_slice hown9
         have hrow9 : RowP w9 PX v9 (x :: l).length _ := RowP.of_owns (by rw [Nat.add_comm 1 l.length] at hown9; exact hown9) (fun q hq => HPX6.out q (hown9.lt q hq).1)
         have hge : ∀ q, (V 2).ownBlock = some q → w8.heap.size ≤ q := fun q hq => (z2.lt q hq).1
         refine ⟨v9, rfl, ?_⟩
         rw [HJX.out]
         refine { hJ with p2 := (fun _ e => nomatch e), p4 := (fun _ e => nomatch e), p5 := fun _ => ⟨l, k, c9, a9, y1, hv9, _, hrow9, ?_⟩, p7 := fun e => absurd (show L 7 = true from e) (by rw [h7]; decide), rd := ?_, st := hJ.st.then hg (fun q hq e => by have := hge q e; omega), x0 := fun e => hg.keep (hJ.x0 e) (fun e => by have := hge _ e; omega), x1 := fun e => absurd (show L 8 = true from e) (by rw [h8]; decide), bp0 := hg.cell hJ.bp0 (fun e => by have e2 : w8.heap.size ≤ w.heap.size := hge _ e; omega), bq0 := hg.keep hJ.bq0 (fun e => by have := hge _ e; omega), ex := ExP.step hg (fun q hq e => by have := hge _ e; have := hq.2; omega) _ _ hJ.ex, q5 := fun _ => ⟨hdep 2 rfl, hdep 4 rfl⟩, q7 := fun e => absurd (show L 7 = true from e) (by rw [h7]; decide) }
         ·rw [ExsP]
          refine ⟨_, _, rfl, ExP.mono (fun q _ hq => hq.1) _ _ (ExP.step hg (fun q hq e => by have := hge _ e; have := hq.2; omega) _ _ hJ.ex), ExsP.mono (fun q _ hq => HPX6.out q hq.1) _ _ (ExsP.step hg (fun q hq e => hq.2 (hdep 2 rfl) e) _ _ y3)⟩
         ·obtain ⟨i9, y5, y6⟩ := hJ.rd
          exact ⟨i9, y5.step hg (fun q hq e => by have := hge _ e; omega), y6⟩
        ·intro L V X a ev evo hdf hL hdep hJ
         rw [HJX.out] at hJ
         have o4 := evo 4 rfl
         change a.tmps[4]?.getD undef = .pointer (some ⟨w4.heap.size, 0, none⟩) at o4
         have q0 := blk_cell hJ.bq0 0 _ rfl
         have q1 := blk_cell hJ.bq0 1 _ rfl
         have h7 : L 7 = false := by
          cases e : L 7 with
          | false => rfl
          | true => exact absurd (hJ.q7 e).2.2 (by rw [hL]; decide)
         go_simp
         exact ⟨_, rfl, by rw [HJX.out]; exact { hJ with p6 := fun _ => rfl, q7 := fun e => absurd (show L 7 = true from e) (by rw [h7]; decide) }⟩
        ·intro L V X a ev evo hdf hL hdep hJ
         rw [HJX.out] at hJ
         have e28 := (ev 0 28 rfl (hdep 0 rfl)).trans (hJ.p0 (hdep 0 rfl))
         obtain ⟨l, k, c9, a9, y1, y2, -⟩ := hJ.p5 (hdep 5 rfl)
         have e33 := (ev 5 33 rfl (hdep 5 rfl)).trans y2
         have e34 := (ev 6 34 rfl (hdep 6 rfl)).trans (hJ.p6 (hdep 6 rfl))
         have h8 : L 8 = false := by
          cases e : L 8 with
          | false => rfl
          | true => exact absurd (hJ.q8 e).2 (by rw [hL]; decide)
         go_simp
         exact ⟨_, rfl, by rw [HJX.out]; exact { hJ with p7 := fun _ => by show Value.agg _ = Value.agg #[.int .i64 13, .string nm, .int .u64 0, .bool false, V 5, .slice none 0 0, .slice none 0 0, .int .i64 tk.line, .int .i64 tk.col]; rw [y2], q7 := fun _ => ⟨hdep 0 rfl, hdep 5 rfl, hdep 6 rfl⟩, q8 := fun e => absurd (show L 8 = true from e) (by rw [h8]; decide) }⟩
        ·intro L V X a ev evo hdf hL hdep hJ
         rw [HJX.out] at hJ
         have o3 := evo 3 rfl
         change a.tmps[3]?.getD undef = .pointer (some ⟨bx, 0, none⟩) at o3
         have e35 := (ev 7 35 rfl (hdep 7 rfl)).trans (hJ.p7 (hdep 7 rfl))
         have hb := hJ.x0 hL
         have h5 := hJ.q7 (hdep 7 rfl)
         obtain ⟨l, k, c9, a9, y1, y2, y3⟩ := hJ.p5 h5.2.1
         refine wp_store_part 29 (.tmp 3) (.tmp 35) rfl bx 0 29 _ [.int .i64 13, .string nm, .int .u64 0, .bool false, V 5, .slice none 0 0, .slice none 0 0, .int .i64 tk.line, .int .i64 tk.col] (by rw [evalTmp]; exact o3) (by rw [evalTmp]; exact e35) hb Try.sizeExpr (Nat.le_of_eq rfl) (by rw [y2]; exact oneCells rfl) ?_
         intro w9 hb9 hs9
         have hbb : w9.heap[bx]? = some (.cells #[.int .i64 13, .string nm, .int .u64 0, .bool false, V 5, .slice none 0 0, .slice none 0 0, .int .i64 tk.line, .int .i64 tk.col] 29 (0, 0)) := hb9
         refine ⟨undef, rfl, ?_⟩
         rw [HJX.out]
         refine { hJ with p2 := fun _ e => absurd (show L 5 = false from e) (by rw [h5.2.1]; decide), p4 := fun _ e => absurd (show L 5 = false from e) (by rw [h5.2.1]; decide), p5 := fun _ => ⟨l, k, c9, a9, y1, y2, exsQ_ok.step _ _ hs9 (fun q hq e => (HPB.out q hq).2 e) y3⟩, rd := ?_, st := hJ.st.trans (hs9.mono (fun _ _ e => .inr e)), x0 := (fun e => nomatch e), x1 := fun _ => hbb, bp0 := hs9.cell hJ.bp0 (fun e => by have e2 : w.heap.size = bx := e; omega), bq0 := hs9.keep hJ.bq0 (by omega), ex := ExP.step hs9 (fun q hq e => (HPB.out q hq.1).2 e) _ _ hJ.ex, q8 := fun _ => ⟨hdep 1 rfl, hdep 7 rfl⟩ }
         obtain ⟨i9, y5, y6⟩ := hJ.rd
         exact ⟨i9, y5.step hs9 (fun q hq e => by omega), y6⟩
       case hdone =>
        intro L V X hall hJ
        rw [HJX.out] at hJ
        obtain ⟨l, k, c9, a9, y1, y2, y3⟩ := hJ.p5 (hall 5 (by decide))
        obtain ⟨i9, y5, y6⟩ := hJ.rd
        rw [hall 4 (by decide)] at y6
        obtain ⟨l2, y7⟩ : ∃ l, r1 = .ok l i9 := y6
        rw [y1] at y7
        cases y7
        have HRF : Hid (r = dotsR gn R.l k d (exMk 13 nm 0 false (x :: l) [] [] tk)) := by show _ = _; rw [HRE2.out, y1]; rfl
        have HEND : Hid (LvSt R w1 w3 bx d X k (exMk 13 nm 0 false (x :: l) [] [] tk) [.int .i64 13, .string nm, .int .u64 0, .bool false, V 5, .slice none 0 0, .slice none 0 0, .int .i64 tk.line, .int .i64 tk.col]) := by
         refine ⟨y5, hJ.x1 (hall 8 (by decide)), ?_, HST8.out.st.trans hJ.st⟩
         rw [← HPX.out]
         exact ExQ.mk HNS.out y3 (NamesQ.nil _ _) (StsQ.nil _ _)
        rw [show List.range 9 = [0, 1, 2, 3, 4, 5, 6, 7, 8] from rfl]
        simp only [putF, dstO, List.getElem?_toArray, List.getElem?_cons_zero, List.getElem?_cons_succ, Option.bind_some, Act.put, List.setIfInBounds_toArray, List.set_cons_zero, List.set_cons_succ]
        clear hJ hall y1 y2 y3 y5
        try go_wp2_with fail
        go_roundg gn
        case rel => exact ⟨by omega, k, _, _, HRF.out, HEND.out⟩
        case measure => omega
structure ExOk (f : Nat) : Prop where
 level : LevelOk f
 unary : UnaryOk f
 post : PostOk f
 list : ListOk f
 one : OneOk f
 prim : PrimOk f
 block : BlockOk f
 stmt : StmtOk f
theorem let_zero : LetOk 0 := fun _ _ _ _ _ _ _ _ _ _ _ h => absurd (by rw [letR]) h
theorem set_zero : SetOk 0 := fun _ _ _ _ _ _ _ _ _ _ _ h => absurd (by rw [setR]) h
theorem exOk_all : ∀ (f : Nat), f ≤ 1000000 → ExOk f := by
 intro f
 induction f using Nat.strongRecOn with
 | ind f ih =>
  intro hf
  have hl : LevelOk f := level_step f fun f' h => ⟨(ih f' h (by omega)).level, (ih f' h (by omega)).unary⟩
  have hi : ListOk f := list_step f fun f' h => (ih f' h (by omega)).level
  cases f with
  | zero => exact ⟨hl, fun _ _ _ _ _ _ _ h => absurd (by rw [unaryR]) h, fun _ _ _ _ _ _ _ h => absurd (by rw [postR]) h, hi, fun _ _ _ _ _ _ _ h => absurd (by rw [oneR]) h, fun _ _ _ _ _ _ _ h => absurd (by rw [primR]) h, fun _ _ _ _ _ _ _ h => absurd (by rw [blockR]) h, fun _ _ _ _ _ _ _ h => absurd (by rw [stmtR]) h⟩
  | succ f =>
   have h0 := ih f (Nat.lt_succ_self f) (by omega)
   have hm : MadeOk f := made_step f fun f' h => (ih f' (by omega) (by omega)).level
   have hc : ClosOk f := clos_step f h0.block
   have hle : LetOk f := by
    cases f with
    | zero => exact let_zero
    | succ f => exact let_step f (ih f (by omega) (by omega)).level
   have hse : SetOk f := by
    cases f with
    | zero => exact set_zero
    | succ f => exact set_step f (ih f (by omega) (by omega)).level
   exact ⟨hl, unary_step f h0.unary h0.post, post_step f h0.prim fun f' h => (ih f' (by omega) (by omega)).list, hi, one_step f h0.level, prim_step f h0.level h0.one h0.list hm hc, block_step f (fun f' h => (ih f' (by omega) (by omega)).stmt) (by omega), stmt_step f h0.level h0.block hle hse⟩
structure Gn where
 lifes : List ByteArray
 types : List ByteArray
structure Pm where
 name : ByteArray
 ty : Ty
 line : Int
 col : Int
structure Bd where
 name : ByteArray
 traits : List ByteArray
 lifes : List ByteArray
 line : Int
 col : Int
structure Mt where
 name : ByteArray
 lifes : List ByteArray
 recv : Int
 life : ByteArray
 params : List Pm
 ret : Ty
 wh : List Bd
 body : List St
 line : Int
 col : Int
structure It where
 kind : Int
 name : ByteArray
 head : ByteArray
 gen : Gn
 fields : List Pm
 ret : Ty
 wh : List Bd
 methods : List Mt
 body : List St
 line : Int
 col : Int
/- Things one behind the other in memory. -/
structure ClOk {α : Type} (El : World → (Nat → Prop) → α → List Value → Prop) (k : Nat) : Prop where
 step : ∀ {w w' : World} {P S : Nat → Prop} (a : α) (cs : List Value), Step S w w' → (∀ k, P k → ¬ S k) → El w P a cs → El w' P a cs
 mono : ∀ {w : World} {P P' : Nat → Prop} (a : α) (cs : List Value), (∀ k, k < w.heap.size → P k → P' k) → El w P a cs → El w P' a cs
 len : ∀ {w : World} {P : Nat → Prop} (a : α) (cs : List Value), El w P a cs → cs.length = k
 one : ∀ {w : World} {P : Nat → Prop} (a : α) (cs : List Value), El w P a cs → ∀ u ∈ cs, u.oneCell' = true
def LsP {α : Type} (El : World → (Nat → Prop) → α → List Value → Prop) (w : World) (P : Nat → Prop) : List α → List Value → Prop
 | [], cs => cs = []
 | t :: r, cs => ∃ c1 c2, cs = c1 ++ c2 ∧ El w P t c1 ∧ LsP El w P r c2
section
variable {α : Type} {El : World → (Nat → Prop) → α → List Value → Prop} {k : Nat}
theorem LsP.step (hE : ClOk El k) {w w' : World} {P S : Nat → Prop} (hs : Step S w w') (hP : ∀ k, P k → ¬ S k) : ∀ (l : List α) (cs : List Value), LsP El w P l cs → LsP El w' P l cs
 | [], _, h => h
 | t :: r, cs, h => by
  obtain ⟨c1, c2, h1, h2, h3⟩ := h
  exact ⟨c1, c2, h1, hE.step t c1 hs hP h2, LsP.step hE hs hP r c2 h3⟩
theorem LsP.mono (hE : ClOk El k) {w : World} {P P' : Nat → Prop} (hp : ∀ k, k < w.heap.size → P k → P' k) : ∀ (l : List α) (cs : List Value), LsP El w P l cs → LsP El w P' l cs
 | [], _, h => h
 | t :: r, cs, h => by
  obtain ⟨c1, c2, h1, h2, h3⟩ := h
  exact ⟨c1, c2, h1, hE.mono t c1 hp h2, LsP.mono hE hp r c2 h3⟩
theorem LsP.snoc {w : World} {P : Nat → Prop} : ∀ {l : List α} {xs : List Value} {t : α} {cs : List Value}, LsP El w P l xs → El w P t cs → LsP El w P (l ++ [t]) (xs ++ cs)
 | [], xs, t, cs, h, h1 => by
  cases h
  exact ⟨cs, [], by simp, h1, rfl⟩
 | a :: r, xs, t, cs, h, h1 => by
  obtain ⟨c1, c2, rfl, h2, h3⟩ := h
  exact ⟨c1, c2 ++ cs, by rw [List.append_assoc], h2, LsP.snoc h3 h1⟩
def LsQ (El : World → (Nat → Prop) → α → List Value → Prop) (w : World) (P : Nat → Prop) (l : List α) (v : Value) : Prop := ∃ xs : List Value, RowP w P v l.length xs ∧ LsP El w P l xs
theorem lsQ_ok (hE : ClOk El k) : AtOk (LsQ El) := ⟨fun _ _ hs hP ⟨xs, h1, h2⟩ => ⟨xs, h1.step hs hP, LsP.step hE hs hP _ xs h2⟩, fun _ _ hp ⟨xs, h1, h2⟩ => ⟨xs, h1.mono hp, LsP.mono hE hp _ xs h2⟩⟩
theorem LsQ.nil (w : World) (P : Nat → Prop) : LsQ El w P ([] : List α) (.slice none 0 0) := ⟨[], RowP.nil _ _ _, rfl⟩
theorem LsQ.parts {w : World} {P : Nat → Prop} {l : List α} {v : Value} (h : LsQ El w P l v) : ∃ (a : Option Addr) (c : Nat), v = .slice a l.length c := by
 obtain ⟨_, h, -⟩ := h; exact h.parts
def ElQ (El : World → (Nat → Prop) → α → List Value → Prop) (w : World) (P : Nat → Prop) (a : α) (v : Value) : Prop := ∃ cs : List Value, v = .agg cs.toArray ∧ El w P a cs
/- A row that grows in a slot: things of whatever kind. -/
structure LqSt (El : World → (Nat → Prop) → α → List Value → Prop) (T k : Nat) (R : Rdr) (w1 : World) (d : Nat) (X : World) (i' : Nat) (acc : List α) (va : Value) (xs : List Value) : Prop where
 rd : RdAt R X i' d
 ow : X.ownsRow w1.heap.size T k va acc.length xs
 el : LsP El X (fun q => w1.heap.size ≤ q ∧ va.ownBlock ≠ some q) acc xs
 st : Step (· = R.rb) w1 X
theorem LqSt.read (hE : ClOk El k) {T : Nat} {R : Rdr} {w1 : World} {d : Nat} {X X' : World} {i' i2 : Nat} {acc : List α} {va : Value} {xs : List Value} (h : LqSt El T k R w1 d X i' acc va xs) (hw : R.rb < w1.heap.size) (hr : RdAt R X' i2 d) (hs : Step (· = R.rb) X X') : LqSt El T k R w1 d X' i2 acc va xs :=
 ⟨hr, hs.owns h.ow (fun _ _ h => by omega), LsP.step hE hs (fun q hq e => by have := hq.1; omega) _ _ h.el, h.st.trans hs⟩
theorem LqSt.quiet (hE : ClOk El k) {T : Nat} {R : Rdr} {w1 : World} {d : Nat} {X X' : World} {i' : Nat} {acc : List α} {va : Value} {xs : List Value} (h : LqSt El T k R w1 d X i' acc va xs) (hs : Step (fun _ => False) X X') : LqSt El T k R w1 d X' i' acc va xs :=
 ⟨h.rd.quiet hs, hs.owns h.ow (fun _ _ h => h), LsP.step hE hs (fun _ _ h => h) _ _ h.el, h.st.trans (hs.mono (fun _ _ h => h.elim))⟩
/- The thing that is put behind lies in blocks that were made since X0. -/
theorem LqSt.push (hE : ClOk El k) {T : Nat} {R : Rdr} {w1 : World} {d : Nat} {X0 X2 X3 : World} {i0 i2 : Nat} {acc : List α} {va v9 : Value} {xs cs : List Value} {x : α} (h0 : LqSt El T k R w1 d X0 i0 acc va xs) (h2 : LqSt El T k R w1 d X2 i2 acc va xs) (hx : El X2 (fun q => X0.heap.size ≤ q) x cs)
  (hown : X3.ownsRow w1.heap.size T k v9 (acc.length + 1) (xs ++ cs)) (hgrow : X2.grownBy X3 va.ownBlock) (hat : v9.ownBlock = va.ownBlock ∨ v9.ownBlock = some X2.heap.size) (hw : R.rb < w1.heap.size) : LqSt El T k R w1 d X3 i2 (acc ++ [x]) v9 (xs ++ cs) := by
 have h3 : Step (fun q => va.ownBlock = some q) X2 X3 := grown_step hgrow
 have ho : ∀ q, va.ownBlock = some q → w1.heap.size ≤ q ∧ q < X0.heap.size := fun q hq => h0.ow.lt q hq
 have hlen : (acc ++ [x]).length = acc.length + 1 := by simp
 have hnew : ∀ q, q < X2.heap.size → va.ownBlock ≠ some q → v9.ownBlock ≠ some q := by
  intro q hq hn e
  rcases hat with h7 | h7
  ·exact hn (by rw [← h7]; exact e)
  ·rw [h7] at e
   have e2 : X2.heap.size = q := Option.some.inj e
   omega
 refine ⟨h2.rd.step h3 (fun q hq e => by have := (ho q e).1; omega), by rw [hlen]; exact hown, LsP.snoc ?_ ?_, h2.st.then h3 (fun q hq e => by have := (ho q e).1; omega)⟩
 ·have h5 := LsP.mono hE (P' := fun q => (w1.heap.size ≤ q ∧ va.ownBlock ≠ some q) ∧ q < X2.heap.size) (fun q h7 h8 => ⟨h8, h7⟩) _ _ h2.el
  have h6 := LsP.step hE h3 (fun q hq e => hq.1.2 e) _ _ h5
  exact LsP.mono hE (fun q _ hq => ⟨hq.1.1, hnew q hq.2 hq.1.2⟩) _ _ h6
 ·have h5 := hE.mono (P' := fun q => X0.heap.size ≤ q ∧ q < X2.heap.size) _ _ (fun q h7 h8 => ⟨h8, h7⟩) hx
  have h6 := hE.step _ _ h3 (fun q hq e => by have := (ho q e).2; omega) h5
  refine hE.mono _ _ (fun q _ hq => ⟨by have := h0.st.size; omega, hnew q hq.2 (fun e => by have := (ho q e).2; omega)⟩) h6
end
def PmP (w : World) (P : Nat → Prop) (p : Pm) (cs : List Value) : Prop := ∃ ct : List Value, cs = [.string p.name] ++ ct ++ [.int .i64 p.line, .int .i64 p.col] ∧ p.name.size ≤ 9223372036854775807 ∧ TyP w P p.ty ct
def BdP (w : World) (P : Nat → Prop) (b : Bd) (cs : List Value) : Prop := ∃ vt vl : Value, cs = [.string b.name, vt, vl, .int .i64 b.line, .int .i64 b.col] ∧ b.name.size ≤ 9223372036854775807 ∧ NamesQ w P b.traits vt ∧ NamesQ w P b.lifes vl
def MtP (w : World) (P : Nat → Prop) (m : Mt) (cs : List Value) : Prop := ∃ (ct : List Value) (vl vp vw vb : Value), cs = [.string m.name, vl, .int .i64 m.recv, .string m.life, vp] ++ ct ++ [vw, vb, .int .i64 m.line, .int .i64 m.col] ∧ m.name.size ≤ 9223372036854775807 ∧ m.life.size ≤ 9223372036854775807 ∧
 NamesQ w P m.lifes vl ∧ LsQ PmP w P m.params vp ∧ TyP w P m.ret ct ∧ LsQ BdP w P m.wh vw ∧ StsQ w P m.body vb
def ItP (w : World) (P : Nat → Prop) (x : It) (cs : List Value) : Prop := ∃ (ct : List Value) (vl vt vf vw vm vb : Value), cs = [.int .i64 x.kind, .string x.name, .string x.head, vl, vt, vf] ++ ct ++ [vw, vm, vb, .int .i64 x.line, .int .i64 x.col] ∧ x.name.size ≤ 9223372036854775807 ∧ x.head.size ≤ 9223372036854775807 ∧
 NamesQ w P x.gen.lifes vl ∧ NamesQ w P x.gen.types vt ∧ LsQ PmP w P x.fields vf ∧ TyP w P x.ret ct ∧ LsQ BdP w P x.wh vw ∧ LsQ MtP w P x.methods vm ∧ StsQ w P x.body vb
theorem NamesQ.parts {w : World} {P : Nat → Prop} {l : List ByteArray} {v : Value} (h : NamesQ w P l v) : ∃ (a : Option Addr) (c : Nat), v = .slice a l.length c := h.2.parts
theorem pmP_ok : ClOk PmP 11 where
 step := fun _ _ hs hP ⟨ct, h1, h2, h3⟩ => ⟨ct, h1, h2, TyP.step hs hP _ ct h3⟩
 mono := fun _ _ hp ⟨ct, h1, h2, h3⟩ => ⟨ct, h1, h2, TyP.mono hp _ ct h3⟩
 len := fun _ _ ⟨ct, h1, _, h3⟩ => by rw [h1]; have := h3.len; simp; omega
 one := fun _ _ ⟨ct, h1, _, h3⟩ => by
  intro u hu
  rw [h1] at hu
  rcases List.mem_append.1 hu with hu | hu
  ·rcases List.mem_append.1 hu with hu | hu
   ·simp at hu; subst hu; rfl
   ·exact h3.one u hu
  ·simp at hu; rcases hu with rfl | rfl <;> rfl
theorem bdP_ok : ClOk BdP 5 where
 step := fun _ _ hs hP ⟨vt, vl, h1, h2, h3, h4⟩ => ⟨vt, vl, h1, h2, namesQ_ok.step _ _ hs hP h3, namesQ_ok.step _ _ hs hP h4⟩
 mono := fun _ _ hp ⟨vt, vl, h1, h2, h3, h4⟩ => ⟨vt, vl, h1, h2, namesQ_ok.mono _ _ hp h3, namesQ_ok.mono _ _ hp h4⟩
 len := fun _ _ ⟨vt, vl, h1, _⟩ => by rw [h1]; rfl
 one := fun _ _ ⟨vt, vl, h1, _, h3, h4⟩ => by
  obtain ⟨_, _, rfl⟩ := h3.parts
  obtain ⟨_, _, rfl⟩ := h4.parts
  rw [h1]; exact oneCells rfl
theorem mtP_ok : ClOk MtP 17 where
 step := fun _ _ hs hP ⟨ct, vl, vp, vw, vb, h1, h2, h3, h4, h5, h6, h7, h8⟩ => ⟨ct, vl, vp, vw, vb, h1, h2, h3, namesQ_ok.step _ _ hs hP h4, (lsQ_ok pmP_ok).step _ _ hs hP h5, TyP.step hs hP _ _ h6, (lsQ_ok bdP_ok).step _ _ hs hP h7, stsQ_ok.step _ _ hs hP h8⟩
 mono := fun _ _ hp ⟨ct, vl, vp, vw, vb, h1, h2, h3, h4, h5, h6, h7, h8⟩ => ⟨ct, vl, vp, vw, vb, h1, h2, h3, namesQ_ok.mono _ _ hp h4, (lsQ_ok pmP_ok).mono _ _ hp h5, TyP.mono hp _ _ h6, (lsQ_ok bdP_ok).mono _ _ hp h7, stsQ_ok.mono _ _ hp h8⟩
 len := fun _ _ ⟨ct, vl, vp, vw, vb, h1, _, _, _, _, h6, _⟩ => by rw [h1]; have := h6.len; simp; omega
 one := fun _ _ ⟨ct, vl, vp, vw, vb, h1, _, _, h4, h5, h6, h7, h8⟩ => by
  obtain ⟨_, _, rfl⟩ := h4.parts
  obtain ⟨_, _, rfl⟩ := h5.parts
  obtain ⟨_, _, rfl⟩ := h7.parts
  obtain ⟨_, _, rfl⟩ := h8.parts
  intro u hu
  rw [h1] at hu
  rcases List.mem_append.1 hu with hu | hu
  ·rcases List.mem_append.1 hu with hu | hu
   ·exact oneCells rfl u hu
   ·exact h6.one u hu
  ·exact oneCells rfl u hu
theorem itP_ok : ClOk ItP 19 where
 step := fun _ _ hs hP ⟨ct, vl, vt, vf, vw, vm, vb, h1, h2, h3, h4, h5, h6, h7, h8, h9, h10⟩ => ⟨ct, vl, vt, vf, vw, vm, vb, h1, h2, h3, namesQ_ok.step _ _ hs hP h4, namesQ_ok.step _ _ hs hP h5, (lsQ_ok pmP_ok).step _ _ hs hP h6, TyP.step hs hP _ _ h7, (lsQ_ok bdP_ok).step _ _ hs hP h8, (lsQ_ok mtP_ok).step _ _ hs hP h9, stsQ_ok.step _ _ hs hP h10⟩
 mono := fun _ _ hp ⟨ct, vl, vt, vf, vw, vm, vb, h1, h2, h3, h4, h5, h6, h7, h8, h9, h10⟩ => ⟨ct, vl, vt, vf, vw, vm, vb, h1, h2, h3, namesQ_ok.mono _ _ hp h4, namesQ_ok.mono _ _ hp h5, (lsQ_ok pmP_ok).mono _ _ hp h6, TyP.mono hp _ _ h7, (lsQ_ok bdP_ok).mono _ _ hp h8, (lsQ_ok mtP_ok).mono _ _ hp h9, stsQ_ok.mono _ _ hp h10⟩
 len := fun _ _ ⟨ct, vl, vt, vf, vw, vm, vb, h1, _, _, _, _, _, h7, _⟩ => by rw [h1]; have := h7.len; simp; omega
 one := fun _ _ ⟨ct, vl, vt, vf, vw, vm, vb, h1, _, _, h4, h5, h6, h7, h8, h9, h10⟩ => by
  obtain ⟨_, _, rfl⟩ := h4.parts
  obtain ⟨_, _, rfl⟩ := h5.parts
  obtain ⟨_, _, rfl⟩ := h6.parts
  obtain ⟨_, _, rfl⟩ := h8.parts
  obtain ⟨_, _, rfl⟩ := h9.parts
  obtain ⟨_, _, rfl⟩ := h10.parts
  intro u hu
  rw [h1] at hu
  rcases List.mem_append.1 hu with hu | hu
  ·rcases List.mem_append.1 hu with hu | hu
   ·exact oneCells rfl u hu
   ·exact h7.one u hu
  ·exact oneCells rfl u hu
/- The parser of items. -/
def gensR : Nat → List Tok → Nat → List ByteArray → List ByteArray → Res Gn
 | 0, _, _, _, _ => .out
 | f + 1, l, i, ls, ts => (roomR (ls.length + ts.length) 8 l i).bind fun _ i => (if (tokA l i).kind = 2 ∧ ts.length = 0 then (lifeR l i).bind fun x j => .ok (ls ++ [x], ts) j else (nameR l i).bind fun x j => .ok (ls, ts ++ [x]) j).bind fun p j =>
   if isF l j [44] then gensR f l (j + 1) p.1 p.2 else (needR l j [62]).bind fun _ j => .ok ⟨p.1, p.2⟩ j
def genR (f : Nat) (l : List Tok) (i : Nat) : Res Gn := if isF l i [60] then gensR f l (i + 1) [] [] else .ok ⟨[], []⟩ i
def parsR : Nat → List Tok → Nat → Nat → List UInt8 → Nat → List Pm → Res (List Pm)
 | 0, _, _, _, _, _, _ => .out
 | f + 1, l, i, d, e, m, acc => (roomR acc.length m l i).bind fun _ i => (nameR l i).bind fun n j => (needR l j [58]).bind fun _ j => (typR f l j d).bind fun ty j =>
   if isF l j [44] then parsR f l (j + 1) d e m (acc ++ [⟨n, ty, (tokA l i).line, (tokA l i).col⟩]) else (needR l j e).bind fun _ j => .ok (acc ++ [⟨n, ty, (tokA l i).line, (tokA l i).col⟩]) j
def paramsR (f : Nat) (l : List Tok) (i d : Nat) (e : List UInt8) (m : Nat) : Res (List Pm) := if isF l i e then .ok [] (i + 1) else parsR f l i d e m []
def retR (f : Nat) (l : List Tok) (i d : Nat) : Res Ty := if isF l i [45, 62] then typR f l (i + 1) d else .ok noTy i
def traitsR : Nat → List Tok → Nat → Bool → List ByteArray → List ByteArray → Res (List ByteArray × List ByteArray)
 | 0, _, _, _, _, _ => .out
 | f + 1, l, i, p, ts, ls => (roomR (ls.length + ts.length) 8 l i).bind fun _ i => (if p = true ∧ ls.length = 0 ∧ (tokA l i).kind ≠ 2 then (nameR l i).bind fun x j => .ok (ts ++ [x], ls) j else (lifeR l i).bind fun x j => .ok (ts, ls ++ [x]) j).bind fun q j =>
   if isF l j [43] then traitsR f l (j + 1) p q.1 q.2 else .ok q j
def boundR (f : Nat) (l : List Tok) (i : Nat) : Res Bd :=
 (if (optF l i).size = 0 then (nameR l (optI l i)).bind fun n j => .ok (n, true) j else .ok (optF l i, false) (optI l i)).bind fun p j => (needR l j [58]).bind fun _ j => (traitsR f l j p.2 [] []).bind fun q j => .ok ⟨p.1, q.1, q.2, (tokA l i).line, (tokA l i).col⟩ j
def wheresR : Nat → List Tok → Nat → List Bd → Res (List Bd)
 | 0, _, _, _ => .out
 | f + 1, l, i, acc => (roomR acc.length 16 l i).bind fun _ i => (boundR f l i).bind fun b j => if isF l j [44] then wheresR f l (j + 1) (acc ++ [b]) else .ok (acc ++ [b]) j
def whereR (f : Nat) (l : List Tok) (i : Nat) : Res (List Bd) := if isF l i [119, 104, 101, 114, 101] then wheresR f l (i + 1) [] else .ok [] i
def recvR (l : List Tok) (i : Nat) : (Int × ByteArray) × Nat :=
 if isF l i [38] then ((if isF l (optI l (i + 1)) [109, 117, 116] then 3 else 2, optF l (i + 1)), takeI l (optI l (i + 1)) [109, 117, 116]) else ((1, noB), i)
def methodR (f : Nat) (l : List Tok) (i d : Nat) (body : Bool) : Res Mt :=
 (needR l i [102, 110]).bind fun _ j => (nameR l j).bind fun n j => (genR f l j).bind fun g j => (if 0 < g.types.length then failR 5 l j else .ok () j).bind fun _ j => (needR l j [40]).bind fun _ j =>
  (needR l (recvR l j).2 [115, 101, 108, 102]).bind fun _ k => (if isF l k [44] then (if isF l (k + 1) [41] then failR 1 l (k + 1) else paramsR f l (k + 1) d [41] 8) else (needR l k [41]).bind fun _ k => .ok [] k).bind fun ps k =>
   (retR f l k d).bind fun t k => (whereR f l k).bind fun wh k => (if body then blockR f l k d else (needR l k [59]).bind fun _ k => .ok [] k).bind fun b k =>
    .ok ⟨n, g.lifes, (recvR l j).1.1, (recvR l j).1.2, ps, t, wh, b, (tokA l i).line, (tokA l i).col⟩ k
def methsR : Nat → List Tok → Nat → Nat → Bool → List Mt → Res (List Mt)
 | 0, _, _, _, _, _ => .out
 | f + 1, l, i, d, body, acc => if isF l i [125] then .ok acc (i + 1) else (roomR acc.length 12 l i).bind fun _ i => (methodR f l i d body).bind fun m j => methsR f l j d body (acc ++ [m])
def methodsR (f : Nat) (l : List Tok) (i d : Nat) (body : Bool) : Res (List Mt) := (needR l i [123]).bind fun _ j => methsR f l j d body []
def headR (l : List Tok) (i : Nat) : Res ByteArray :=
 if isF l i [105, 110, 116] then .ok ⟨#[105, 110, 116]⟩ (i + 1) else if isF l i [98, 111, 111, 108] then .ok ⟨#[98, 111, 111, 108]⟩ (i + 1) else if isF l i [102, 54, 52] then .ok ⟨#[102, 54, 52]⟩ (i + 1) else nameR l i
def itMk (k : Int) (name head : ByteArray) (g : Gn) (fs : List Pm) (t : Ty) (wh : List Bd) (ms : List Mt) (b : List St) (tk : Tok) : It := ⟨k, name, head, g, fs, t, wh, ms, b, tk.line, tk.col⟩
def noGn : Gn := ⟨[], []⟩
def itemR (f : Nat) (l : List Tok) (i d : Nat) : Res It :=
 if isF l i [115, 116, 114, 117, 99, 116] then (nameR l (i + 1)).bind fun n j => (genR f l j).bind fun g j => (needR l j [123]).bind fun _ j => (paramsR f l j d [125] 12).bind fun fs j => .ok (itMk 1 n noB g fs noTy [] [] [] (tokA l i)) j
 else if isF l i [116, 114, 97, 105, 116] then (nameR l (i + 1)).bind fun n j => (methodsR f l j d false).bind fun ms j => .ok (itMk 2 n noB noGn [] noTy [] ms [] (tokA l i)) j
 else if isF l i [105, 109, 112, 108] then (nameR l (i + 1)).bind fun n j => (needR l j [102, 111, 114]).bind fun _ j => (headR l j).bind fun h j => (whereR f l j).bind fun wh j => (methodsR f l j d true).bind fun ms j => .ok (itMk 3 n h noGn [] noTy wh ms [] (tokA l i)) j
 else if isF l i [102, 110] then (nameR l (i + 1)).bind fun n j => (genR f l j).bind fun g j => (needR l j [40]).bind fun _ j => (paramsR f l j d [41] 8).bind fun fs j => (retR f l j d).bind fun t j => (whereR f l j).bind fun wh j => (blockR f l j d).bind fun b j => .ok (itMk 4 n noB g fs t wh [] b (tokA l i)) j
 else failR 1 l i
def itemsR : Nat → List Tok → Nat → Nat → List It → Res (List It)
 | 0, _, _, _, _ => .out
 | f + 1, l, i, d, acc => if (tokA l i).kind = 0 then .ok acc i else (roomR acc.length 60 l i).bind fun _ i => (itemR f l i d).bind fun x j => itemsR f l j d (acc ++ [x])
structure NJ (R : Rdr) (j0 d b : Nat) (w0 : World) (oF : Value → Obj) (base T : Nat) (v0 : Value) (n : Nat) (xs : List Value) (r1 : Res ByteArray) (il ic ib ia iz : Nat) (vals : List (Option Value)) (L : Nat → Bool) (V : Nat → Value) (X : World) : Prop where
 det : ∀ (i : Nat) v, vals[i]? = some (some v) → L i = true → V i = v
 vc : L ic = true → ∃ s k, r1 = .ok s k ∧ V ic = .string s
 vb : L ib = true → L ia = false → ∃ s k g, r1 = .ok s k ∧ V ib = .slice (some ⟨g, 0, none⟩) 1 1 ∧ w0.heap.size ≤ g ∧ X.heap[g]? = some (.cells #[.string s] T (0, 0))
 va : L ia = true → ∃ s k, r1 = .ok s k ∧ X.ownsRow base T 1 (V ia) (n + 1) (xs ++ [.string s]) ∧ ((V ia).ownBlock = v0.ownBlock ∨ ∃ g, (V ia).ownBlock = some g ∧ w0.heap.size ≤ g)
 own : L ia = false → X.ownsRow base T 1 v0 n xs
 rd : ∃ i, RdAt R X i d ∧ cond (L ic) (∃ s, r1 = .ok s i) (i = j0)
 st : Step (fun q => q = R.rb ∨ q = b ∨ v0.ownBlock = some q) w0 X
 blk : X.heap[b]? = some (oF (cond (L iz) (V ia) v0))
 qb : L ib = true → L ic = true
 qa : L ia = true → L ib = true ∧ L ic = true
 qz : L iz = true → L ia = true
 ql : L ia = true → L il = true
structure NOk (R : Rdr) (b : Nat) (w0 : World) (base : Nat) (v0 : Value) (il ic ib ia iz : Nat) : Prop where
 ne : ic ≠ ib ∧ ic ≠ ia ∧ ic ≠ iz ∧ ib ≠ ia ∧ ib ≠ iz ∧ ia ≠ iz
 nl : il ≠ ic ∧ il ≠ ib ∧ il ≠ ia ∧ il ≠ iz
 rb : R.rb < b
 bb : b < base
 bw : base ≤ w0.heap.size
 own : ∀ q, v0.ownBlock = some q → base ≤ q ∧ q < w0.heap.size
section
variable {R : Rdr} {j0 d b : Nat} {w0 : World} {oF : Value → Obj} {base T : Nat} {v0 : Value} {n : Nat} {xs : List Value} {r1 : Res ByteArray} {il ic ib ia iz : Nat} {vals : List (Option Value)} {L : Nat → Bool} {V : Nat → Value} {X X' : World}
theorem NJ.zero (hs : Step (fun _ => False) w0 X) (hr : RdAt R w0 j0 d) (hown : w0.ownsRow base T 1 v0 n xs) (hb : w0.heap[b]? = some (oF v0)) : NJ R j0 d b w0 oF base T v0 n xs r1 il ic ib ia iz vals (fun _ => false) V X :=
 ⟨fun _ _ _ h => (nomatch h), (fun h => nomatch h), (fun h => nomatch h), (fun h => nomatch h), fun _ => hs.owns hown (fun _ _ h => h), ⟨j0, hr.quiet hs, rfl⟩, hs.mono (fun _ _ h => h.elim), hs.keep hb (fun h => h), (fun h => nomatch h), (fun h => nomatch h), (fun h => nomatch h), (fun h => nomatch h)⟩
theorem NJ.up (h : NJ R j0 d b w0 oF base T v0 n xs r1 il ic ib ia iz vals L V X) (i : Nat) {v : Value} (hv : vals[i]? = some (some v)) (h1 : i ≠ ic) (h2 : i ≠ ib) (h3 : i ≠ ia) (h4 : i ≠ iz) : NJ R j0 d b w0 oF base T v0 n xs r1 il ic ib ia iz vals (updL L i) (updV V i v) X := by
 refine ⟨det_up h.det i v (fun u hu => by rw [hv] at hu; cases hu; rfl), ?_, ?_, ?_, ?_, ?_, h.st, ?_, ?_, ?_, ?_, ?_⟩
 ·rw [updL_ne _ (Ne.symm h1), updV_ne _ _ (Ne.symm h1)]; exact h.vc
 ·rw [updL_ne _ (Ne.symm h2), updL_ne _ (Ne.symm h3), updV_ne _ _ (Ne.symm h2)]; exact h.vb
 ·rw [updL_ne _ (Ne.symm h3), updV_ne _ _ (Ne.symm h3)]; exact h.va
 ·rw [updL_ne _ (Ne.symm h3)]; exact h.own
 ·rw [updL_ne _ (Ne.symm h1)]; exact h.rd
 ·rw [updL_ne _ (Ne.symm h4), updV_ne _ _ (Ne.symm h3)]; exact h.blk
 ·rw [updL_ne _ (Ne.symm h2), updL_ne _ (Ne.symm h1)]; exact h.qb
 ·rw [updL_ne _ (Ne.symm h3), updL_ne _ (Ne.symm h2), updL_ne _ (Ne.symm h1)]; exact h.qa
 ·rw [updL_ne _ (Ne.symm h4), updL_ne _ (Ne.symm h3)]; exact h.qz
 ·rw [updL_ne _ (Ne.symm h3)]
  intro e
  by_cases e2 : il = i
  ·rw [e2]; exact updL_eq _ _
  ·rw [updL_ne _ e2]; exact h.ql e
theorem NJ.noB (h : NJ R j0 d b w0 oF base T v0 n xs r1 il ic ib ia iz vals L V X) (hL : L ic = false) : L ib = false := by
 cases e : L ib with
 | false => rfl
 | true => rw [h.qb e] at hL; cases hL
theorem NJ.noA (h : NJ R j0 d b w0 oF base T v0 n xs r1 il ic ib ia iz vals L V X) (hL : L ib = false) : L ia = false := by
 cases e : L ia with
 | false => rfl
 | true => rw [(h.qa e).1] at hL; cases hL
theorem NJ.noZ (h : NJ R j0 d b w0 oF base T v0 n xs r1 il ic ib ia iz vals L V X) (hL : L ia = false) : L iz = false := by
 cases e : L iz with
 | false => rfl
 | true => rw [h.qz e] at hL; cases hL
theorem NJ.call (ho : NOk R b w0 base v0 il ic ib ia iz) (h : NJ R j0 d b w0 oF base T v0 n xs r1 il ic ib ia iz vals L V X) (hL : L ic = false) (hvals : vals[ic]? = some none) (hs : Step (· = R.rb) X X') {k : Nat} (hr : RdAt R X' k d) {s : ByteArray} (hx : r1 = .ok s k) :
  NJ R j0 d b w0 oF base T v0 n xs r1 il ic ib ia iz vals (updL L ic) (updV V ic (.string s)) X' := by
 have hB := h.noB hL
 have hA := h.noA hB
 have hZ := h.noZ hA
 obtain ⟨n1, n2, n3, n4, n5, n6⟩ := ho.ne
 have h1 := ho.rb
 have h2 := ho.bb
 refine ⟨det_up h.det ic _ (fun u hu => by rw [hvals] at hu; cases hu), fun _ => ⟨s, k, hx, updV_eq _ _ _⟩, ?_, ?_, ?_, ⟨k, hr, by rw [updL_eq]; exact ⟨s, hx⟩⟩, h.st.trans (hs.mono (fun _ _ e => .inl e)), ?_, fun _ => updL_eq _ _, ?_, ?_, ?_⟩
 ·rw [updL_ne _ (Ne.symm n1), hB]; intro e; cases e
 ·rw [updL_ne _ (Ne.symm n2), hA]; intro e; cases e
 ·intro _; exact hs.owns (h.own hA) (fun q hq e => by omega)
 ·have hb := h.blk
  rw [hZ] at hb
  rw [updL_ne _ (Ne.symm n3), hZ]
  exact hs.keep hb (by omega)
 ·rw [updL_ne _ (Ne.symm n2), hA]; intro e; cases e
 ·rw [updL_ne _ (Ne.symm n3), hZ]; intro e; cases e
 ·rw [updL_ne _ (Ne.symm n2), hA]; intro e; cases e
theorem NJ.build (ho : NOk R b w0 base v0 il ic ib ia iz) (h : NJ R j0 d b w0 oF base T v0 n xs r1 il ic ib ia iz vals L V X) (hL : L ib = false) (hC : L ic = true) (hvals : vals[ib]? = some none) {s : ByteArray} (hs : V ic = .string s) :
  NJ R j0 d b w0 oF base T v0 n xs r1 il ic ib ia iz vals (updL L ib) (updV V ib (.slice (some ⟨X.heap.size, 0, none⟩) 1 1)) (X.alloc (.cells #[.string s] T)) := by
 have hA := h.noA hL
 have hZ := h.noZ hA
 obtain ⟨n1, n2, n3, n4, n5, n6⟩ := ho.ne
 have hst : Step (fun _ => False) X (X.alloc (.cells #[.string s] T)) := (Step.refl _ _).alloc _
 refine ⟨det_up h.det ib _ (fun u hu => by rw [hvals] at hu; cases hu), ?_, ?_, ?_, ?_, ?_, h.st.alloc _, ?_, ?_, ?_, ?_, ?_⟩
 ·rw [updL_ne _ n1, updV_ne _ _ n1]; exact h.vc
 ·intro _ _
  obtain ⟨s', k, h1, h2⟩ := h.vc hC
  rw [hs] at h2
  cases h2
  exact ⟨s, k, X.heap.size, h1, updV_eq _ _ _, h.st.size, blk_new _ _⟩
 ·rw [updL_ne _ (Ne.symm n4), hA]; intro e; cases e
 ·intro _; exact hst.owns (h.own hA) (fun _ _ h => h)
 ·rw [updL_ne _ n1]
  obtain ⟨i, h1, h2⟩ := h.rd
  exact ⟨i, h1.quiet hst, h2⟩
 ·have hb := h.blk
  rw [hZ] at hb
  rw [updL_ne _ (Ne.symm n5), hZ]
  exact hst.keep hb (fun h => h)
 ·intro _; rw [updL_ne _ n1]; exact hC
 ·rw [updL_ne _ (Ne.symm n4), hA]; intro e; cases e
 ·rw [updL_ne _ (Ne.symm n5), hZ]; intro e; cases e
 ·rw [updL_ne _ (Ne.symm n4), hA]; intro e; cases e
theorem NJ.app (ho : NOk R b w0 base v0 il ic ib ia iz) (h : NJ R j0 d b w0 oF base T v0 n xs r1 il ic ib ia iz vals L V X) (hL : L ia = false) (hB : L ib = true) (hl : L il = true) (hvals : vals[ia]? = some none) {s : ByteArray} {k : Nat} (hx : r1 = .ok s k) {v' : Value} (hown : X'.ownsRow base T 1 v' (n + 1) (xs ++ [.string s])) (hg : X.grownBy X' v0.ownBlock)
  (hat : v'.ownBlock = v0.ownBlock ∨ v'.ownBlock = some X.heap.size) : NJ R j0 d b w0 oF base T v0 n xs r1 il ic ib ia iz vals (updL L ia) (updV V ia v') X' := by
 have hZ := h.noZ hL
 obtain ⟨n1, n2, n3, n4, n5, n6⟩ := ho.ne
 have h1 := ho.rb
 have h2 := ho.bb
 have h3 := grown_step hg
 have hC := h.qb hB
 refine ⟨det_up h.det ia _ (fun u hu => by rw [hvals] at hu; cases hu), ?_, ?_, ?_, ?_, ?_, h.st.trans (h3.mono (fun _ _ e => .inr (.inr e))), ?_, ?_, ?_, ?_, fun _ => by rw [updL_ne _ ho.nl.2.2.1]; exact hl⟩
 ·rw [updL_ne _ n2, updV_ne _ _ n2]; exact h.vc
 ·intro _ e; rw [updL_eq] at e; cases e
 ·intro _
  rw [updV_eq]
  refine ⟨s, k, hx, hown, ?_⟩
  rcases hat with e | e
  ·exact .inl e
  ·exact .inr ⟨_, e, h.st.size⟩
 ·intro e; rw [updL_eq] at e; cases e
 ·rw [updL_ne _ n2]
  obtain ⟨i, h4, h5⟩ := h.rd
  exact ⟨i, h4.step h3 (fun q hq e => by have := (ho.own q e).1; omega), h5⟩
 ·have hb := h.blk
  rw [hZ] at hb
  rw [updL_ne _ (Ne.symm n6), hZ]
  exact h3.keep hb (fun e => by have := (ho.own _ e).1; omega)
 ·rw [updL_ne _ n4, updL_ne _ n2]; exact h.qb
 ·intro _; rw [updL_ne _ n4, updL_ne _ n2]; exact ⟨hB, hC⟩
 ·rw [updL_ne _ (Ne.symm n6), hZ]; intro e; cases e
theorem NJ.put (ho : NOk R b w0 base v0 il ic ib ia iz) (h : NJ R j0 d b w0 oF base T v0 n xs r1 il ic ib ia iz vals L V X) (hA : L ia = true) (hvals : ∀ u, vals[iz]? = some (some u) → False) (hs : Step (· = b) X X') (hb : X'.heap[b]? = some (oF (V ia))) (v : Value) :
  NJ R j0 d b w0 oF base T v0 n xs r1 il ic ib ia iz vals (updL L iz) (updV V iz v) X' := by
 obtain ⟨n1, n2, n3, n4, n5, n6⟩ := ho.ne
 have h1 := ho.rb
 have h2 := ho.bb
 have h3 := ho.bw
 refine ⟨det_up h.det iz _ (fun u hu => (hvals u hu).elim), ?_, ?_, ?_, ?_, ?_, h.st.trans (hs.mono (fun _ _ e => .inr (.inl e))), ?_, ?_, ?_, ?_, ?_⟩
 ·rw [updL_ne _ n3, updV_ne _ _ n3]; exact h.vc
 ·rw [updL_ne _ n6, hA]; intro _ e; cases e
 ·rw [updL_ne _ n6, updV_ne _ _ n6]
  intro e
  obtain ⟨s, k, h4, h5, h6⟩ := h.va e
  exact ⟨s, k, h4, owns_stay h5 hs (fun q hq e => by have := (h5.lt q hq).1; omega), h6⟩
 ·rw [updL_ne _ n6, hA]; intro e; cases e
 ·rw [updL_ne _ n3]
  obtain ⟨i, h4, h5⟩ := h.rd
  exact ⟨i, h4.step hs (fun q hq e => by omega), h5⟩
 ·rw [updL_eq, updV_ne _ _ n6]; exact hb
 ·rw [updL_ne _ n5, updL_ne _ n3]; exact h.qb
 ·rw [updL_ne _ n6, updL_ne _ n5, updL_ne _ n3]; exact h.qa
 ·rw [updL_ne _ n6]; intro _; exact hA
 ·rw [updL_ne _ n6, updL_ne _ ho.nl.2.2.2]; exact h.ql
theorem NJ.done (h : NJ R j0 d b w0 oF base T v0 n xs r1 il ic ib ia iz vals L V X) (hC : L ic = true) (hA : L ia = true) (hZ : L iz = true) :
  ∃ s k v', r1 = .ok s k ∧ RdAt R X k d ∧ X.heap[b]? = some (oF v') ∧ X.ownsRow base T 1 v' (n + 1) (xs ++ [.string s]) ∧ (v'.ownBlock = v0.ownBlock ∨ ∃ g, v'.ownBlock = some g ∧ w0.heap.size ≤ g) ∧ Step (fun q => q = R.rb ∨ q = b ∨ v0.ownBlock = some q) w0 X := by
 obtain ⟨s, k, h1, h2, h3⟩ := h.va hA
 obtain ⟨i, h4, h5⟩ := h.rd
 rw [hC] at h5
 obtain ⟨s', h6⟩ : ∃ s, r1 = .ok s i := h5
 rw [h1] at h6
 cases h6
 have hb := h.blk
 rw [hZ] at hb
 exact ⟨s, k, V ia, h1, h4, hb, h2, h3, h.st⟩
end
/- Two rows of names in a variable. -/
structure N2 (T : Nat) (mk : Value → Value → Obj) (R : Rdr) (w1 : World) (b d : Nat) (X : World) (i : Nat) (la lb : List ByteArray) (va vb : Value) : Prop where
 rd : RdAt R X i d
 blk : X.heap[b]? = some (mk va vb)
 oa : X.ownsRow w1.heap.size T 1 va la.length (la.map .string)
 ob : X.ownsRow w1.heap.size T 1 vb lb.length (lb.map .string)
 ne : ∀ q, va.ownBlock = some q → vb.ownBlock ≠ some q
 sa : ∀ s ∈ la, s.size ≤ 9223372036854775807
 sb : ∀ s ∈ lb, s.size ≤ 9223372036854775807
 few : la.length + lb.length ≤ 8
 st : Step (fun q => q = R.rb ∨ q = b) w1 X
section
variable {T : Nat} {mk : Value → Value → Obj} {R : Rdr} {w1 : World} {b d : Nat} {X X' : World} {i j : Nat} {la lb : List ByteArray} {va vb v' : Value}
theorem N2.quiet (h : N2 T mk R w1 b d X i la lb va vb) (hs : Step (fun _ => False) X X') : N2 T mk R w1 b d X' i la lb va vb :=
 ⟨h.rd.quiet hs, hs.keep h.blk (fun h => h), hs.owns h.oa (fun _ _ h => h), hs.owns h.ob (fun _ _ h => h), h.ne, h.sa, h.sb, h.few, h.st.trans (hs.mono (fun _ _ h => h.elim))⟩
theorem N2.read (h : N2 T mk R w1 b d X i la lb va vb) (hb : R.rb < b) (hw : R.rb < w1.heap.size) (hr : RdAt R X' j d) (hs : Step (· = R.rb) X X') : N2 T mk R w1 b d X' j la lb va vb :=
 ⟨hr, hs.keep h.blk (by omega), hs.owns h.oa (fun _ _ h => by omega), hs.owns h.ob (fun _ _ h => by omega), h.ne, h.sa, h.sb, h.few, h.st.trans (hs.mono (fun _ _ e => .inl e))⟩
theorem N2.err (h : N2 T mk R w1 b d X i la lb va vb) (hs : Step (· = R.rb) X X') : Step (fun q => q = R.rb ∨ q = b) w1 X' := h.st.trans (hs.mono (fun _ _ e => .inl e))
theorem N2.pushA (h : N2 T mk R w1 b d X i la lb va vb) (hb : R.rb < b) (hw : b < w1.heap.size) {s : ByteArray} (hr : RdAt R X' j d) (hk : X'.heap[b]? = some (mk v' vb)) (hown : X'.ownsRow w1.heap.size T 1 v' (la.length + 1) (la.map .string ++ [.string s])) (hat : v'.ownBlock = va.ownBlock ∨ ∃ g, v'.ownBlock = some g ∧ X.heap.size ≤ g)
  (hs : Step (fun q => q = R.rb ∨ q = b ∨ va.ownBlock = some q) X X') (hz : s.size ≤ 9223372036854775807) (hlt : la.length + lb.length < 8) : N2 T mk R w1 b d X' j (la ++ [s]) lb v' vb := by
 have hlen : (la ++ [s]).length = la.length + 1 := by simp
 refine ⟨hr, hk, by rw [hlen, List.map_append]; exact hown, owns_stay h.ob hs (fun q hq e => ?_), fun q hq e => ?_, ?_, h.sb, by rw [hlen]; omega, h.st.then hs (fun q hq e => ?_)⟩
 ·have h1 := (h.ob.lt q hq).1
  rcases e with e | e | e
  ·omega
  ·omega
  ·exact h.ne q e hq
 ·rcases hat with e2 | ⟨g, e2, e3⟩
  ·exact h.ne q (by rw [← e2]; exact hq) e
  ·rw [e2] at hq; cases hq
   have := (h.ob.lt _ e).2; omega
 ·intro x hx
  rcases List.mem_append.1 hx with hx | hx
  ·exact h.sa x hx
  ·rw [List.mem_singleton.1 hx]; exact hz
 ·rcases e with e | e | e
  ·exact .inl e
  ·exact .inr e
  ·have := (h.oa.lt q e).1; omega
theorem N2.pushB (h : N2 T mk R w1 b d X i la lb va vb) (hb : R.rb < b) (hw : b < w1.heap.size) {s : ByteArray} (hr : RdAt R X' j d) (hk : X'.heap[b]? = some (mk va v')) (hown : X'.ownsRow w1.heap.size T 1 v' (lb.length + 1) (lb.map .string ++ [.string s])) (hat : v'.ownBlock = vb.ownBlock ∨ ∃ g, v'.ownBlock = some g ∧ X.heap.size ≤ g)
  (hs : Step (fun q => q = R.rb ∨ q = b ∨ vb.ownBlock = some q) X X') (hz : s.size ≤ 9223372036854775807) (hlt : la.length + lb.length < 8) : N2 T mk R w1 b d X' j la (lb ++ [s]) va v' := by
 have hlen : (lb ++ [s]).length = lb.length + 1 := by simp
 refine ⟨hr, hk, owns_stay h.oa hs (fun q hq e => ?_), by rw [hlen, List.map_append]; exact hown, fun q hq e => ?_, h.sa, ?_, by rw [hlen]; omega, h.st.then hs (fun q hq e => ?_)⟩
 ·have h1 := (h.oa.lt q hq).1
  rcases e with e | e | e
  ·omega
  ·omega
  ·exact h.ne q hq e
 ·rcases hat with e2 | ⟨g, e2, e3⟩
  ·exact h.ne q hq (by rw [← e2]; exact e)
  ·rw [e2] at e; cases e
   have := (h.oa.lt _ hq).2; omega
 ·intro x hx
  rcases List.mem_append.1 hx with hx | hx
  ·exact h.sb x hx
  ·rw [List.mem_singleton.1 hx]; exact hz
 ·rcases e with e | e | e
  ·exact .inl e
  ·exact .inr e
  ·have := (h.ob.lt q e).1; omega
theorem N2.names (h : N2 T mk R w1 b d X i la lb va vb) : NamesQ X (fun q => w1.heap.size ≤ q) la va ∧ NamesQ X (fun q => w1.heap.size ≤ q) lb vb :=
 ⟨⟨h.sa, RowP.of_owns h.oa (fun q hq => (h.oa.lt q hq).1)⟩, ⟨h.sb, RowP.of_owns h.ob (fun q hq => (h.ob.lt q hq).1)⟩⟩
end
def GnQ (w : World) (P : Nat → Prop) (g : Gn) (v : Value) : Prop := ∃ vl vt : Value, v = .agg #[vl, vt] ∧ NamesQ w P g.lifes vl ∧ NamesQ w P g.types vt
theorem gnQ_ok : AtOk GnQ := ⟨fun _ _ hs hP ⟨vl, vt, h1, h2, h3⟩ => ⟨vl, vt, h1, namesQ_ok.step _ _ hs hP h2, namesQ_ok.step _ _ hs hP h3⟩, fun _ _ hp ⟨vl, vt, h1, h2, h3⟩ => ⟨vl, vt, h1, namesQ_ok.mono _ _ hp h2, namesQ_ok.mono _ _ hp h3⟩⟩
def GnV (n0 : Nat) (w' : World) (a : Gn) (v : Value) : Prop := GnQ w' (fun k => n0 ≤ k) a v
theorem gen_any (f : Nat) (R : Rdr) (w : World) (i d : Nat) (hl : LOk R.l) (h : RdAt R w i d) (hno : genR f R.l i ≠ .out) :
  Calls Try.prog 39 #[.agg #[.pointer (some ⟨R.rb, 0, none⟩)]] w (PPost R d (GnV w.heap.size) (genR f R.l i) w) := by
 have HL := Lib.hid hl
 obtain ⟨r, hr⟩ : ∃ r, r = genR f R.l i := ⟨_, rfl⟩
 have HRR : Hid (r = if isF R.l i [60] then gensR f R.l (i + 1) [] [] else .ok ⟨[], []⟩ i) := by show _ = _; rw [hr, genR]
 rw [← hr] at hno ⊢
 have HNO := Lib.hid hno
 have hrlt := blk_lt h.blk
 obtain ⟨w1, hw1⟩ : ∃ w1 : World, w1 = ((w.alloc (.cells #[.pointer (some ⟨R.rb, 0, none⟩)] 45)).alloc (.cells #[.slice none 0 0, .slice none 0 0] 50)).alloc (.cells #[.slice none 0 0, .slice none 0 0] 50) := ⟨_, rfl⟩
 have HS1 : Hid (Step (fun _ => False) w w1) := by show Step _ _ _; rw [hw1]; exact (((Step.refl _ _).alloc _).alloc _).alloc _
 have HP1 : Hid (w1.heap[w.heap.size]? = some (.cells #[.pointer (some ⟨R.rb, 0, none⟩)] 45 (0, 0))) := by show _ = _; rw [hw1]; exact blk_alloc (blk_alloc (blk_new _ _))
 have HN1 : Hid (w1.heap[w.heap.size + 1]? = some (.cells #[.slice none 0 0, .slice none 0 0] 50 (0, 0))) := by show _ = _; rw [hw1]; exact blk_alloc (blk_new2 _ _ _)
 have HB1 : Hid (w1.heap[w.heap.size + 1 + 1]? = some (.cells #[.slice none 0 0, .slice none 0 0] 50 (0, 0))) := by
  show _ = _
  rw [hw1]
  have h := blk_new ((w.alloc (.cells #[.pointer (some ⟨R.rb, 0, none⟩)] 45)).alloc (.cells #[.slice none 0 0, .slice none 0 0] 50)) (.cells #[.slice none 0 0, .slice none 0 0] 50)
  simpa using h
 have HW1 := Lib.hid hw1
 have H1 := Lib.hid (h.quiet HS1.out)
 obtain ⟨i0, hi0, hz0, hz1, hz2⟩ := info_parts Try.infoString
 have HI := Lib.hid hi0
 have HZ0 := Lib.hid hz0
 have HZ1 := Lib.hid hz1
 have HZ2 := Lib.hid hz2
 have hbw := blk_lt HB1.out
 clear hl h hno hr hw1 hi0 hz0 hz1 hz2
 go_enter Try.func39, Try.ntmps39
 go_upto_region 2 with fail
 rw [← HW1.out]
 obtain ⟨b, hb⟩ : ∃ b, b = w.heap.size + 1 + 1 := ⟨_, rfl⟩
 rw [← hb] at HB1 hbw ⊢
 have hrb : R.rb < b := by omega
 have hwb : w.heap.size + 1 < b := by omega
 have HBK : Hid (∀ X : World, Step (fun q => q = R.rb ∨ q = b) w1 X → Step (· = R.rb) w X) := by
  show ∀ X, _
  intro X hX
  exact (HS1.out.mono (fun _ _ h => h.elim)).then hX (fun q hq e => by omega)
 have HKP : Hid (∀ X : World, Step (fun q => q = R.rb ∨ q = b) w1 X → X.cell? ⟨w.heap.size, 0, none⟩ = some (.pointer (some ⟨R.rb, 0, none⟩))) := by
  show ∀ X, _
  intro X hX
  exact blk_cell (hX.keep HP1.out (by omega)) 0 _ rfl
 have HKN : Hid (∀ X : World, Step (fun q => q = R.rb ∨ q = b) w1 X → X.heap[w.heap.size + 1]? = some (.cells #[.slice none 0 0, .slice none 0 0] 50 (0, 0))) := by
  show ∀ X, _
  intro X hX
  exact hX.keep HN1.out (by omega)
 have hsz1 := HS1.out.size
 have HST1 : Hid (N2 9 (fun va vb => .cells #[va, vb] 50 (0, 0)) R w1 b d w1 i [] [] (.slice none 0 0) (.slice none 0 0)) := ⟨H1.out, HB1.out, World.ownsRow_nil _ _ _ _, World.ownsRow_nil _ _ _ _, (fun _ h => nomatch h), (fun _ h => nomatch h), (fun _ h => nomatch h), by simp, Step.refl _ _⟩
 clear hb
 have p0 := HKP.out w1 (Step.refl _ _)
 go_wp2_with fail
 cases hb : isF R.l i [60] with
 | false =>
  have HB := Lib.hid hb
  clear hb
  refine (is_no R HL.out ⟨#[60]⟩ _ i d HST1.out.rd (by decide) HB.out).mono ?_
  rintro e w2 ⟨rfl, hr2, h2⟩
  have HST2 := Lib.hid (HST1.out.read hrb (by omega) hr2 h2)
  have HRE : Hid (r = .ok ⟨[], []⟩ i) := by show _ = _; rw [HRR.out, HB.out, if_neg (by decide)]
  clear hr2 h2 p0
  have q0 := blk_cell HST2.out.blk 0 _ rfl
  have q1 := blk_cell HST2.out.blk 1 _ rfl
  obtain ⟨⟨d0, d1⟩, z0, z1⟩ := blk2 (HKN.out w2 HST2.out.st)
  go_wp2_with fail
  refine bodyPost_ret (v := .agg #[.slice none 0 0, .slice none 0 0]) (by simp [results, Try.results39, go_sem, d0, d1]) rfl ?_
  have hs2 : Step (· = w.heap.size + 1) w2 ((w2.setCell ⟨w.heap.size + 1, 0, none⟩ (.slice none 0 0)).setCell ⟨w.heap.size + 1, 1, none⟩ (.slice none 0 0)) := ((Step.refl (· = w.heap.size + 1) _).setCell _ _ (fun _ => rfl)).setCell _ _ (fun _ => rfl)
  exact PPost.of_ok HRE.out rfl ⟨_, _, rfl, NamesQ.nil _ _, NamesQ.nil _ _⟩ (HST2.out.rd.step hs2 (fun q hq e => by omega)) ((HBK.out _ HST2.out.st).then hs2 (fun q hq e => by omega))
 | true =>
  have HB := Lib.hid hb
  clear hb
  refine (is_yes R HL.out ⟨#[60]⟩ _ i d HST1.out.rd (by decide) HB.out).mono ?_
  rintro e w2 ⟨rfl, hr2, h2⟩
  have HST2 := Lib.hid (HST1.out.read hrb (by omega) hr2 h2)
  have HRE : Hid (r = gensR f R.l (i + 1) [] []) := by show _ = _; rw [HRR.out, HB.out, if_pos rfl]
  clear hr2 h2 p0
  go_wp2_with fail
  go_loopg [] f (fun gg wr => gg ≤ f ∧ ∃ (i' : Nat) (ls ts : List ByteArray) (vl vt : Value), r = gensR gg R.l i' ls ts ∧ N2 9 (fun va vb => .cells #[va, vb] 50 (0, 0)) R w1 b d wr i' ls ts vl vt)
  case atStart => exact ⟨Nat.le_refl _, i + 1, [], [], _, _, HRE.out, HST2.out⟩
  case round =>
   obtain ⟨hgf, i', ls, ts, vl, vt, hrq, hst⟩ := hrel
   obtain ⟨gn, rfl⟩ : ∃ gn, gk = gn + 1 := by
    cases gk with
    | zero => exact absurd hrq (by rw [gensR]; exact HNO.out)
    | succ gn => exact ⟨gn, rfl⟩
   have HEQ : Hid (r = (roomR (ls.length + ts.length) 8 R.l i').bind fun _ i => (if (tokA R.l i).kind = 2 ∧ ts.length = 0 then (lifeR R.l i).bind fun x j => .ok (ls ++ [x], ts) j else (nameR R.l i).bind fun x j => .ok (ls, ts ++ [x]) j).bind fun p j => if isF R.l j [44] then gensR gn R.l (j + 1) p.1 p.2 else (needR R.l j [62]).bind fun _ j => .ok ⟨p.1, p.2⟩ j) := by show _ = _; rw [hrq, gensR]
   obtain ⟨oa, oc, rfl⟩ := owns_slice hst.oa
   obtain ⟨pa, pc, rfl⟩ := owns_slice hst.ob
   have HST := Lib.hid hst
   have p0 := HKP.out wr hst.st
   have q0 := blk_cell hst.blk 0 _ rfl
   have q1 := blk_cell hst.blk 1 _ rfl
   have hfew := hst.few
   have R1 : IntKind.i64.wrap ((ls.length : Int) + (ts.length : Int)) = ((ls.length + ts.length : Nat) : Int) := by rw [show ((ls.length : Int) + (ts.length : Int)) = ((ls.length + ts.length : Nat) : Int) by omega]; exact IntWalk.i64_in _ (by omega)
   clear hrq hst
   go_wp2_with fail
   clear R1
   refine (room_any R wr (ls.length + ts.length) 8 i' d HST.out.rd).mono ?_
   rintro e w3 hp
   cases hn : roomR (ls.length + ts.length) 8 R.l i' with
   | out => exact (roomR_out hn).elim
   | err c ln col =>
    rw [hn] at hp
    obtain ⟨rfl, s3⟩ := hp
    exact ⟨rfl, PPost.of_err (c := c) (ln := ln) (col := col) (by rw [HEQ.out, hn]; rfl) rfl (HBK.out _ (HST.out.err s3))⟩
   | ok u j =>
    have hji : j = i' ∧ ls.length + ts.length < 8 := by
     unfold roomR at hn
     split at hn
     ·cases hn
     ·cases hn; exact ⟨rfl, by omega⟩
    obtain ⟨rfl, hlt8⟩ := hji
    have HN := Lib.hid hn
    rw [hn] at hp
    obtain ⟨⟨v, rfl, rfl⟩, hr3, s3⟩ := hp
    have HST3 := Lib.hid (HST.out.read hrb (by omega) hr3 s3)
    have HE3 : Hid (r = (if (tokA R.l j).kind = 2 ∧ ts.length = 0 then (lifeR R.l j).bind fun x j => .ok (ls ++ [x], ts) j else (nameR R.l j).bind fun x j => .ok (ls, ts ++ [x]) j).bind fun p j => if isF R.l j [44] then gensR gn R.l (j + 1) p.1 p.2 else (needR R.l j [62]).bind fun _ j => .ok ⟨p.1, p.2⟩ j) := by show _ = _; rw [HEQ.out, HN.out]; rfl
    clear hn hr3 s3 p0 q0 q1
    obtain ⟨tk, htk⟩ : ∃ tk, tk = tokA R.l j := ⟨_, rfl⟩
    have HTK : Hid (R.l[j]? = some tk) := by show _ = _; rw [htk]; exact HST3.out.rd.tok
    have HTE := Lib.hid htk
    obtain ⟨cb, hcb⟩ : ∃ cb, cb = (tk.kind == 2 && ts.length == 0) := ⟨_, rfl⟩
    have HCB := Lib.hid hcb
    have hfd0 : ∀ (a0 a1 a2 a3 a4 : Value) (w : World), (Instr.field 73 (.agg #[a0, a1, a2, a3, a4]) 0).run Try.prog w = .ok a0 w := fun _ _ _ _ _ _ => by kernel_rfl
    clear htk hcb
    go_upto_region 5 with fail
    go_cut [28] (fun s28 wx => s28 = .bool cb ∧ Step (fun _ => False) w3 wx)
    case first =>
     have p0 := HKP.out w3 HST3.out.st
     go_wp2_with fail
     refine (peek_at R _ j d tk HST3.out.rd HTK.out).mono ?_
     rintro e w4 ⟨rfl, h4⟩
     have hb4 := h4.keep HST3.out.blk (fun h => h)
     have q1 := blk_cell hb4 1 _ rfl
     have HS4 := Lib.hid h4
     clear p0 h4 hb4
     by_cases hk : tk.kind = 2
     ·have e1 : ((tk.kind : Int) == 2) = true := by rw [kindN tk.kind 2 2 rfl, hk]; rfl
      obtain ⟨b0, hb0⟩ : ∃ b0, ((ts.length : Int) == 0) = b0 := ⟨_, rfl⟩
      have hcb : cb = b0 := by rw [HCB.out, hk, ← hb0, kindN ts.length 0 0 rfl]; rfl
      have HC2 := Lib.hid hcb
      clear hcb
      go_wp2_with fail
      go_meet
      case rel => exact ⟨by rw [HC2.out], HS4.out⟩
     ·have e1 : ((tk.kind : Int) == 2) = false := by rw [kindN tk.kind 2 2 rfl, beq_eq_false_iff_ne.2 hk]
      have hcb : cb = false := by rw [HCB.out, beq_eq_false_iff_ne.2 hk]; rfl
      have HC2 := Lib.hid hcb
      clear hcb
      go_wp2_with fail
      go_meet
      case rel => exact ⟨by rw [HC2.out], HS4.out⟩
    case rest =>
     obtain ⟨rfl, hs4⟩ := hcut
     obtain ⟨w6, rfl⟩ : ∃ w6 : World, w6 = wc := ⟨_, rfl⟩
     have HN6 := Lib.hid (HST3.out.quiet hs4)
     clear hs4
     go_upto_if 28 with fail
     go_cut [] (fun wx => ∃ (jn : Nat) (la lb : List ByteArray) (va vb : Value), r = (if isF R.l jn [44] then gensR gn R.l (jn + 1) la lb else (needR R.l jn [62]).bind fun _ j => .ok ⟨la, lb⟩ j) ∧ N2 9 (fun va vb => .cells #[va, vb] 50 (0, 0)) R w1 b d wx jn la lb va vb)
     case first =>
      cases cb with
      | true =>
       have hc : tk.kind = 2 ∧ ts.length = 0 := by simpa using HCB.out.symm
       have HE6 : Hid (r = ((lifeR R.l j).bind fun x j => .ok (ls ++ [x], ts) j).bind fun p j => if isF R.l j [44] then gensR gn R.l (j + 1) p.1 p.2 else (needR R.l j [62]).bind fun _ j => .ok ⟨p.1, p.2⟩ j) := by show _ = _; rw [HE3.out, ← HTE.out, if_pos hc]
       clear hc
       have p0 := HKP.out w6 HN6.out.st
       go_upto_region 6 with fail
       obtain ⟨r1, hr1⟩ : ∃ r1, r1 = lifeR R.l j := ⟨_, rfl⟩
       have HR1 := Lib.hid hr1
       have HRN : Hid (r1 ≠ .out) := by show _ ≠ _; rw [hr1]; exact fun e => lifeR_out e
       have HRE : Hid (r = (r1.bind fun x j => .ok (ls ++ [x], ts) j).bind fun p j => if isF R.l j [44] then gensR gn R.l (j + 1) p.1 p.2 else (needR R.l j [62]).bind fun _ j => .ok ⟨p.1, p.2⟩ j) := by show _ = _; rw [HE6.out, hr1]
       have HOK : Hid (NOk R b w6 w1.heap.size (.slice oa ls.length oc) 1 3 4 5 7) := ⟨by decide, by decide, hrb, hbw, HN6.out.st.size, fun q hq => HN6.out.oa.lt q hq⟩
       have HPX : Hid (∀ X : World, Step (fun q => q = R.rb ∨ q = b ∨ (Value.slice oa ls.length oc).ownBlock = some q) w6 X → X.cell? ⟨w.heap.size, 0, none⟩ = some (.pointer (some ⟨R.rb, 0, none⟩))) := by
        show ∀ X, _
        intro X hX
        refine hX.cell (HKP.out w6 HN6.out.st) (fun e => ?_)
        have e2 : w.heap.size = R.rb ∨ w.heap.size = b ∨ (Value.slice oa ls.length oc).ownBlock = some w.heap.size := e
        rcases e2 with e2 | e2 | e2
        ·omega
        ·omega
        ·have := (HOK.out.own _ e2).1; omega
       obtain ⟨Jx, hJx⟩ : ∃ Jx : (Nat → Bool) → (Nat → Value) → World → Prop, Jx = NJ R j d b w6 (fun v => .cells #[v, .slice pa ts.length pc] 50 (0, 0)) w1.heap.size 9 (.slice oa ls.length oc) ls.length (ls.map .string) r1 1 3 4 5 7 [some (.pointer (some ⟨b, 0, none⟩)), some (.slice oa ls.length oc), some (.agg #[.pointer (some ⟨R.rb, 0, none⟩)]), none, none, none, some (.pointer (some ⟨b, 0, none⟩)), none] := ⟨_, rfl⟩
       have HJX := Lib.hid hJx
       have HZ0J : Hid (∀ V, Jx (fun _ => false) V w6.drew) := by
        show ∀ V, _
        intro V
        rw [hJx]
        exact NJ.zero ((Step.refl _ _).drew) HN6.out.rd HN6.out.oa HN6.out.blk
       have HWB : Hid (∀ X : World, Step (fun q => q = R.rb ∨ q = b ∨ (Value.slice oa ls.length oc).ownBlock = some q) w6 X → Step (fun q => q = R.rb ∨ q = b) w1 X) := by
        show ∀ X, _
        intro X hX
        refine HN6.out.st.then hX (fun q hq e => ?_)
        rcases e with e | e | e
        ·exact .inl e
        ·exact .inr e
        ·have := (HOK.out.own _ e).1; omega
       clear hr1 hJx p0
       refine wp_region_relyD (by kernel_rfl) Jx 8 rfl (by kernel_rfl) (by kernel_rfl) (by kernel_rfl) (by kernel_rfl) ?h0 ?hs ?hdone
       case h0 => exact HZ0J.out _
       case hs =>
        refine ⟨?_, ?_, ?_, ?_, ?_, ?_, ?_, ?_, trivial⟩
        ·intro L V X a ev evo hdf hL hdep hJ
         rw [HJX.out] at hJ
         have o3 := evo 3 rfl
         change a.tmps[3]?.getD undef = .pointer (some ⟨b, 0, none⟩) at o3
         go_simp
         exact ⟨_, rfl, by rw [HJX.out]; exact hJ.up 0 rfl (by decide) (by decide) (by decide) (by decide)⟩
        ·intro L V X a ev evo hdf hL hdep hJ
         rw [HJX.out] at hJ
         have e29 := (ev 0 29 rfl (hdep 0 rfl)).trans (hJ.det 0 _ rfl (hdep 0 rfl))
         have hA : L 5 = false := by
          cases e : L 5 with
          | false => rfl
          | true => rw [hJ.ql e] at hL; cases hL
         have hb := hJ.blk
         rw [hJ.noZ hA] at hb
         have q0 : X.cell? ⟨b, 0, none⟩ = some (.slice oa ls.length oc) := blk_cell hb 0 _ rfl
         go_simp
         exact ⟨_, rfl, by rw [HJX.out]; exact hJ.up 1 rfl (by decide) (by decide) (by decide) (by decide)⟩
        ·intro L V X a ev evo hdf hL hdep hJ
         rw [HJX.out] at hJ
         have o1 := evo 1 rfl
         change a.tmps[1]?.getD undef = .pointer (some ⟨w.heap.size, 0, none⟩) at o1
         have p0 := HPX.out X hJ.st
         go_simp
         exact ⟨_, rfl, by rw [HJX.out]; exact hJ.up 2 rfl (by decide) (by decide) (by decide) (by decide)⟩
        ·intro L V X a ev evo hdf hL hdep hJ
         rw [HJX.out] at hJ
         have e31 := (ev 2 31 rfl (hdep 2 rfl)).trans (hJ.det 2 _ rfl (hdep 2 rfl))
         obtain ⟨i9, y1, y2⟩ := hJ.rd
         rw [hL] at y2
         have y3 : i9 = j := y2
         subst y3
         go_simp
         refine (life_any R HL.out X i9 d y1).mono ?_
         intro e wq hp
         rw [← HR1.out] at hp
         cases hx : r1 with
         | out => exact absurd hx HRN.out
         | err cc ln col =>
          rw [hx] at hp
          obtain ⟨rfl, hs⟩ := hp
          exact ⟨hdf, PPost.of_err (c := cc) (ln := ln) (col := col) (by rw [HRE.out, hx]; rfl) rfl (HBK.out _ ((HWB.out X hJ.st).trans (hs.mono (fun _ _ e => .inl e))))⟩
         | ok s9 k9 =>
          have hx0 := hx
          rw [hx] at hp
          obtain ⟨⟨v, rfl, rfl⟩, hr, hs⟩ := hp
          exact ⟨_, rfl, by rw [HJX.out]; exact hJ.call HOK.out hL rfl hs hr hx0⟩
        ·intro L V X a ev evo hdf hL hdep hJ
         rw [HJX.out] at hJ
         obtain ⟨s9, k9, y1, y2⟩ := hJ.vc (hdep 3 rfl)
         have e32 := (ev 3 32 rfl (hdep 3 rfl)).trans y2
         go_simp
         exact ⟨_, rfl, by rw [HJX.out]; exact hJ.build HOK.out hL (hdep 3 rfl) rfl y2⟩
        ·intro L V X a ev evo hdf hL hdep hJ
         rw [HJX.out] at hJ
         have e30 := (ev 1 30 rfl (hdep 1 rfl)).trans (hJ.det 1 _ rfl (hdep 1 rfl))
         have e33 := ev 4 33 rfl (hdep 4 rfl)
         obtain ⟨s9, k9, g9, y1, y2, y3, y4⟩ := hJ.vb (hdep 4 rfl) hL
         have hon := hJ.own hL
         have hwz := Nat.le_trans HOK.out.bw hJ.st.size
         have hfw := HN6.out.few
         refine wp_append_row _ (g9 + 1) (.tmp 30) (.tmp 33) 24 rfl w1.heap.size 9 i0 (.string ⟨#[]⟩) 1 16 Try.underlying24 HI.out HZ0.out HZ1.out HZ2.out rfl (by decide) (.slice oa ls.length oc) ls.length (ls.map .string) (by rw [evalTmp]; exact e30) hon (V 4) 1 [.string s9] (by rw [evalTmp]; exact e33) (by rw [y2]; exact Row.new y4 (by decide)) rfl (oneCells rfl) (by unfold maxLen; omega) (by omega) hwz ?_
         intro v8 w8 hown8 hgrow8 hat8
         exact ⟨v8, rfl, by rw [HJX.out]; exact hJ.app HOK.out hL (hdep 4 rfl) (hdep 1 rfl) rfl y1 hown8 hgrow8 hat8⟩
        ·intro L V X a ev evo hdf hL hdep hJ
         rw [HJX.out] at hJ
         have o3 := evo 3 rfl
         change a.tmps[3]?.getD undef = .pointer (some ⟨b, 0, none⟩) at o3
         go_simp
         exact ⟨_, rfl, by rw [HJX.out]; exact hJ.up 6 rfl (by decide) (by decide) (by decide) (by decide)⟩
        ·intro L V X a ev evo hdf hL hdep hJ
         rw [HJX.out] at hJ
         have e35 := (ev 6 35 rfl (hdep 6 rfl)).trans (hJ.det 6 _ rfl (hdep 6 rfl))
         obtain ⟨s9, k9, y1, y2, y3⟩ := hJ.va (hdep 5 rfl)
         obtain ⟨a9, c9, hV⟩ := owns_slice y2
         have e34 := (ev 5 34 rfl (hdep 5 rfl)).trans hV
         have hb := hJ.blk
         rw [hL] at hb
         have ecell : ∃ v, X.cell? ⟨b, 0, none⟩ = some v := ⟨_, blk_cell hb 0 _ rfl⟩
         obtain ⟨vc, hvc⟩ := ecell
         have hfz : X.frozen? ⟨b, 0, none⟩ = false := blk_free hb 0
         go_simp
         exact ⟨undef, by rw [HJX.out]; exact hJ.put HOK.out (hdep 5 rfl) (fun u hu => by cases hu) ((Step.refl _ _).setCell _ _ (fun _ => rfl)) (by rw [← hV]; exact blk_set hb 0 (V 5)) undef⟩
       case hdone =>
        intro L V X hall hJ
        rw [HJX.out] at hJ
        obtain ⟨s9, k9, v9, h1, h2, h3, h4, h5, h6⟩ := hJ.done (hall 3 (by decide)) (hall 5 (by decide)) (hall 7 (by decide))
        have hx9 : lifeR R.l j = .ok s9 k9 := by rw [← HR1.out]; exact h1
        have hsz := lifeR_size HL.out HN6.out.rd.lt hx9
        rw [show List.range 8 = [0, 1, 2, 3, 4, 5, 6, 7] from rfl]
        simp only [putF, dstO, List.getElem?_toArray, List.getElem?_cons_zero, List.getElem?_cons_succ, Option.bind_some, Act.put, List.setIfInBounds_toArray, List.set_cons_zero, List.set_cons_succ]
        have HRZ : Hid (r = (if isF R.l k9 [44] then gensR gn R.l (k9 + 1) (ls ++ [s9]) ts else (needR R.l k9 [62]).bind fun _ j => .ok ⟨(ls ++ [s9]), ts⟩ j)) := by show _ = _; rw [HE6.out, hx9]; rfl
        have HEND : Hid (N2 9 (fun va vb => .cells #[va, vb] 50 (0, 0)) R w1 b d X k9 (ls ++ [s9]) ts v9 (.slice pa ts.length pc)) := HN6.out.pushA hrb hbw h2 h3 h4 h5 h6 hsz hlt8
        clear hJ hall h1 h2 h3 h4 h5 h6 hx9 hsz
        go_wp2_with fail
        go_meet
        case rel => exact ⟨k9, _, _, _, _, HRZ.out, HEND.out⟩
      | false =>
       have hc : ¬ (tk.kind = 2 ∧ ts.length = 0) := by
        intro hc
        have h9 := HCB.out
        rw [hc.1, hc.2] at h9
        cases h9
       have HE6 : Hid (r = ((nameR R.l j).bind fun x j => .ok (ls, ts ++ [x]) j).bind fun p j => if isF R.l j [44] then gensR gn R.l (j + 1) p.1 p.2 else (needR R.l j [62]).bind fun _ j => .ok ⟨p.1, p.2⟩ j) := by show _ = _; rw [HE3.out, ← HTE.out, if_neg hc]
       clear hc
       have p0 := HKP.out w6 HN6.out.st
       go_upto_region 7 with fail
       obtain ⟨r1, hr1⟩ : ∃ r1, r1 = nameR R.l j := ⟨_, rfl⟩
       have HR1 := Lib.hid hr1
       have HRN : Hid (r1 ≠ .out) := by show _ ≠ _; rw [hr1]; exact fun e => nameR_out e
       have HRE : Hid (r = (r1.bind fun x j => .ok (ls, ts ++ [x]) j).bind fun p j => if isF R.l j [44] then gensR gn R.l (j + 1) p.1 p.2 else (needR R.l j [62]).bind fun _ j => .ok ⟨p.1, p.2⟩ j) := by show _ = _; rw [HE6.out, hr1]
       have HOK : Hid (NOk R b w6 w1.heap.size (.slice pa ts.length pc) 1 4 5 6 8) := ⟨by decide, by decide, hrb, hbw, HN6.out.st.size, fun q hq => HN6.out.ob.lt q hq⟩
       have HPX : Hid (∀ X : World, Step (fun q => q = R.rb ∨ q = b ∨ (Value.slice pa ts.length pc).ownBlock = some q) w6 X → X.cell? ⟨w.heap.size, 0, none⟩ = some (.pointer (some ⟨R.rb, 0, none⟩))) := by
        show ∀ X, _
        intro X hX
        refine hX.cell (HKP.out w6 HN6.out.st) (fun e => ?_)
        have e2 : w.heap.size = R.rb ∨ w.heap.size = b ∨ (Value.slice pa ts.length pc).ownBlock = some w.heap.size := e
        rcases e2 with e2 | e2 | e2
        ·omega
        ·omega
        ·have := (HOK.out.own _ e2).1; omega
       obtain ⟨Jx, hJx⟩ : ∃ Jx : (Nat → Bool) → (Nat → Value) → World → Prop, Jx = NJ R j d b w6 (fun v => .cells #[.slice oa ls.length oc, v] 50 (0, 0)) w1.heap.size 9 (.slice pa ts.length pc) ts.length (ts.map .string) r1 1 4 5 6 8 [some (.pointer (some ⟨b, 1, none⟩)), some (.slice pa ts.length pc), some (.pointer (some ⟨w.heap.size, 0, none⟩)), some (.pointer (some ⟨R.rb, 0, none⟩)), none, none, none, some (.pointer (some ⟨b, 1, none⟩)), none] := ⟨_, rfl⟩
       have HJX := Lib.hid hJx
       have HZ0J : Hid (∀ V, Jx (fun _ => false) V w6.drew) := by
        show ∀ V, _
        intro V
        rw [hJx]
        exact NJ.zero ((Step.refl _ _).drew) HN6.out.rd HN6.out.ob HN6.out.blk
       have HWB : Hid (∀ X : World, Step (fun q => q = R.rb ∨ q = b ∨ (Value.slice pa ts.length pc).ownBlock = some q) w6 X → Step (fun q => q = R.rb ∨ q = b) w1 X) := by
        show ∀ X, _
        intro X hX
        refine HN6.out.st.then hX (fun q hq e => ?_)
        rcases e with e | e | e
        ·exact .inl e
        ·exact .inr e
        ·have := (HOK.out.own _ e).1; omega
       clear hr1 hJx p0
       refine wp_region_relyD (by kernel_rfl) Jx 9 rfl (by kernel_rfl) (by kernel_rfl) (by kernel_rfl) (by kernel_rfl) ?h0 ?hs ?hdone
       case h0 => exact HZ0J.out _
       case hs =>
        refine ⟨?_, ?_, ?_, ?_, ?_, ?_, ?_, ?_, ?_, trivial⟩
        ·intro L V X a ev evo hdf hL hdep hJ
         rw [HJX.out] at hJ
         have o3 := evo 3 rfl
         change a.tmps[3]?.getD undef = .pointer (some ⟨b, 0, none⟩) at o3
         go_simp
         exact ⟨_, rfl, by rw [HJX.out]; exact hJ.up 0 rfl (by decide) (by decide) (by decide) (by decide)⟩
        ·intro L V X a ev evo hdf hL hdep hJ
         rw [HJX.out] at hJ
         have e36 := (ev 0 36 rfl (hdep 0 rfl)).trans (hJ.det 0 _ rfl (hdep 0 rfl))
         have hA : L 6 = false := by
          cases e : L 6 with
          | false => rfl
          | true => rw [hJ.ql e] at hL; cases hL
         have hb := hJ.blk
         rw [hJ.noZ hA] at hb
         have q1 : X.cell? ⟨b, 1, none⟩ = some (.slice pa ts.length pc) := blk_cell hb 1 _ rfl
         go_simp
         exact ⟨_, rfl, by rw [HJX.out]; exact hJ.up 1 rfl (by decide) (by decide) (by decide) (by decide)⟩
        ·intro L V X a ev evo hdf hL hdep hJ
         rw [HJX.out] at hJ
         have o1 := evo 1 rfl
         change a.tmps[1]?.getD undef = .pointer (some ⟨w.heap.size, 0, none⟩) at o1
         go_simp
         exact ⟨_, rfl, by rw [HJX.out]; exact hJ.up 2 rfl (by decide) (by decide) (by decide) (by decide)⟩
        ·intro L V X a ev evo hdf hL hdep hJ
         rw [HJX.out] at hJ
         have e38 := (ev 2 38 rfl (hdep 2 rfl)).trans (hJ.det 2 _ rfl (hdep 2 rfl))
         have p0 := HPX.out X hJ.st
         go_simp
         exact ⟨_, rfl, by rw [HJX.out]; exact hJ.up 3 rfl (by decide) (by decide) (by decide) (by decide)⟩
        ·intro L V X a ev evo hdf hL hdep hJ
         rw [HJX.out] at hJ
         have e39 := (ev 3 39 rfl (hdep 3 rfl)).trans (hJ.det 3 _ rfl (hdep 3 rfl))
         obtain ⟨i9, y1, y2⟩ := hJ.rd
         rw [hL] at y2
         have y3 : i9 = j := y2
         subst y3
         go_simp
         refine (name_any R HL.out X i9 d y1).mono ?_
         intro e wq hp
         rw [← HR1.out] at hp
         cases hx : r1 with
         | out => exact absurd hx HRN.out
         | err cc ln col =>
          rw [hx] at hp
          obtain ⟨rfl, hs⟩ := hp
          exact ⟨hdf, PPost.of_err (c := cc) (ln := ln) (col := col) (by rw [HRE.out, hx]; rfl) rfl (HBK.out _ ((HWB.out X hJ.st).trans (hs.mono (fun _ _ e => .inl e))))⟩
         | ok s9 k9 =>
          have hx0 := hx
          rw [hx] at hp
          obtain ⟨⟨v, rfl, rfl⟩, hr, hs⟩ := hp
          exact ⟨_, rfl, by rw [HJX.out]; exact hJ.call HOK.out hL rfl hs hr hx0⟩
        ·intro L V X a ev evo hdf hL hdep hJ
         rw [HJX.out] at hJ
         obtain ⟨s9, k9, y1, y2⟩ := hJ.vc (hdep 4 rfl)
         have e40 := (ev 4 40 rfl (hdep 4 rfl)).trans y2
         go_simp
         exact ⟨_, rfl, by rw [HJX.out]; exact hJ.build HOK.out hL (hdep 4 rfl) rfl y2⟩
        ·intro L V X a ev evo hdf hL hdep hJ
         rw [HJX.out] at hJ
         have e37 := (ev 1 37 rfl (hdep 1 rfl)).trans (hJ.det 1 _ rfl (hdep 1 rfl))
         have e41 := ev 5 41 rfl (hdep 5 rfl)
         obtain ⟨s9, k9, g9, y1, y2, y3, y4⟩ := hJ.vb (hdep 5 rfl) hL
         have hon := hJ.own hL
         have hwz := Nat.le_trans HOK.out.bw hJ.st.size
         have hfw := HN6.out.few
         refine wp_append_row _ (g9 + 1) (.tmp 37) (.tmp 41) 24 rfl w1.heap.size 9 i0 (.string ⟨#[]⟩) 1 16 Try.underlying24 HI.out HZ0.out HZ1.out HZ2.out rfl (by decide) (.slice pa ts.length pc) ts.length (ts.map .string) (by rw [evalTmp]; exact e37) hon (V 5) 1 [.string s9] (by rw [evalTmp]; exact e41) (by rw [y2]; exact Row.new y4 (by decide)) rfl (oneCells rfl) (by unfold maxLen; omega) (by omega) hwz ?_
         intro v8 w8 hown8 hgrow8 hat8
         exact ⟨v8, rfl, by rw [HJX.out]; exact hJ.app HOK.out hL (hdep 5 rfl) (hdep 1 rfl) rfl y1 hown8 hgrow8 hat8⟩
        ·intro L V X a ev evo hdf hL hdep hJ
         rw [HJX.out] at hJ
         have o3 := evo 3 rfl
         change a.tmps[3]?.getD undef = .pointer (some ⟨b, 0, none⟩) at o3
         go_simp
         exact ⟨_, rfl, by rw [HJX.out]; exact hJ.up 7 rfl (by decide) (by decide) (by decide) (by decide)⟩
        ·intro L V X a ev evo hdf hL hdep hJ
         rw [HJX.out] at hJ
         have e43 := (ev 7 43 rfl (hdep 7 rfl)).trans (hJ.det 7 _ rfl (hdep 7 rfl))
         obtain ⟨s9, k9, y1, y2, y3⟩ := hJ.va (hdep 6 rfl)
         obtain ⟨a9, c9, hV⟩ := owns_slice y2
         have e42 := (ev 6 42 rfl (hdep 6 rfl)).trans hV
         have hb := hJ.blk
         rw [hL] at hb
         have ecell : ∃ v, X.cell? ⟨b, 1, none⟩ = some v := ⟨_, blk_cell hb 1 _ rfl⟩
         obtain ⟨vc, hvc⟩ := ecell
         have hfz : X.frozen? ⟨b, 1, none⟩ = false := blk_free hb 1
         go_simp
         exact ⟨undef, by rw [HJX.out]; exact hJ.put HOK.out (hdep 6 rfl) (fun u hu => by cases hu) ((Step.refl _ _).setCell _ _ (fun _ => rfl)) (by rw [← hV]; exact blk_set hb 1 (V 6)) undef⟩
       case hdone =>
        intro L V X hall hJ
        rw [HJX.out] at hJ
        obtain ⟨s9, k9, v9, h1, h2, h3, h4, h5, h6⟩ := hJ.done (hall 4 (by decide)) (hall 6 (by decide)) (hall 8 (by decide))
        have hx9 : nameR R.l j = .ok s9 k9 := by rw [← HR1.out]; exact h1
        have hsz := nameR_size HL.out HN6.out.rd.lt hx9
        rw [show List.range 9 = [0, 1, 2, 3, 4, 5, 6, 7, 8] from rfl]
        simp only [putF, dstO, List.getElem?_toArray, List.getElem?_cons_zero, List.getElem?_cons_succ, Option.bind_some, Act.put, List.setIfInBounds_toArray, List.set_cons_zero, List.set_cons_succ]
        have HRZ : Hid (r = (if isF R.l k9 [44] then gensR gn R.l (k9 + 1) ls (ts ++ [s9]) else (needR R.l k9 [62]).bind fun _ j => .ok ⟨ls, (ts ++ [s9])⟩ j)) := by show _ = _; rw [HE6.out, hx9]; rfl
        have HEND : Hid (N2 9 (fun va vb => .cells #[va, vb] 50 (0, 0)) R w1 b d X k9 ls (ts ++ [s9]) (.slice oa ls.length oc) v9) := HN6.out.pushB hrb hbw h2 h3 h4 h5 h6 hsz hlt8
        clear hJ hall h1 h2 h3 h4 h5 h6 hx9 hsz
        go_wp2_with fail
        go_meet
        case rel => exact ⟨k9, _, _, _, _, HRZ.out, HEND.out⟩
     case rest =>
      obtain ⟨jn, la, lb, va, vb, hrn, hls⟩ := hcut
      obtain ⟨w9, rfl⟩ : ∃ w9 : World, w9 = wc := ⟨_, rfl⟩
      obtain ⟨a1, c1, rfl⟩ := owns_slice hls.oa
      obtain ⟨a2, c2, rfl⟩ := owns_slice hls.ob
      have HST9 := Lib.hid hls
      have HRN := Lib.hid hrn
      clear hls hrn
      have p0 := HKP.out w9 HST9.out.st
      go_wp2_with fail
      cases hc : isF R.l jn [44] with
      | true =>
       have HC := Lib.hid hc
       clear hc
       refine (is_yes R HL.out ⟨#[44]⟩ _ jn d HST9.out.rd (by decide) HC.out).mono ?_
       rintro e wa ⟨rfl, hra, sa⟩
       have HSTA := Lib.hid (HST9.out.read hrb (by omega) hra sa)
       have HRE9 : Hid (r = gensR gn R.l (jn + 1) la lb) := by show _ = _; rw [HRN.out, HC.out, if_pos rfl]
       clear hra sa p0
       go_wp2_with fail
       go_roundg gn
       case rel => exact ⟨by omega, jn + 1, la, lb, _, _, HRE9.out, HSTA.out⟩
       case measure => omega
      | false =>
       have HC := Lib.hid hc
       clear hc
       refine (is_no R HL.out ⟨#[44]⟩ _ jn d HST9.out.rd (by decide) HC.out).mono ?_
       rintro e wa ⟨rfl, hra, sa⟩
       have HSTA := Lib.hid (HST9.out.read hrb (by omega) hra sa)
       have HRE9 : Hid (r = (needR R.l jn [62]).bind fun _ j => .ok ⟨la, lb⟩ j) := by show _ = _; rw [HRN.out, HC.out, if_neg (by decide)]
       clear hra sa p0
       have p0 := HKP.out wa HSTA.out.st
       go_wp2_with fail
       refine (need_any R HL.out wa.heap.size ⟨#[62]⟩ _ jn d (HSTA.out.rd.quiet ((Step.refl _ _).alloc _)) (by decide) (blk_cell (blk_new _ _) 0 _ rfl)).mono ?_
       rintro e wb hp
       have hp2 : PPost R d UnitV (needR R.l jn [62]) _ e wb := hp
       cases hn : needR R.l jn [62] with
       | out => exact (needR_out hn).elim
       | err c ln col =>
        rw [hn] at hp2
        obtain ⟨rfl, sb⟩ := hp2
        exact ⟨rfl, PPost.of_err (c := c) (ln := ln) (col := col) (by rw [HRE9.out, hn]; rfl) rfl (HBK.out _ (HSTA.out.err (((Step.refl (· = R.rb) _).alloc _).trans sb)))⟩
       | ok u2 jz =>
        have HNB := Lib.hid hn
        rw [hn] at hp2
        obtain ⟨⟨v, rfl, rfl⟩, hrb2, sb⟩ := hp2
        have HSTB := Lib.hid (HSTA.out.read hrb (by omega) hrb2 (((Step.refl (· = R.rb) _).alloc _).trans sb))
        have HRF : Hid (r = .ok ⟨la, lb⟩ jz) := by show _ = _; rw [HRE9.out, HNB.out]; rfl
        clear hn hrb2 sb p0 hp
        have q0 := blk_cell HSTB.out.blk 0 _ rfl
        have q1 := blk_cell HSTB.out.blk 1 _ rfl
        obtain ⟨⟨d0, d1⟩, z0, z1⟩ := blk2 (HKN.out wb HSTB.out.st)
        have HNA := Lib.hid HSTB.out.names
        go_wp2_with fail
        refine bodyPost_ret (v := .agg #[.slice a1 la.length c1, .slice a2 lb.length c2]) (by simp [results, Try.results39, go_sem, d0, d1]) rfl ?_
        have hs2 : Step (· = w.heap.size + 1) wb ((wb.setCell ⟨w.heap.size + 1, 0, none⟩ (.slice a1 la.length c1)).setCell ⟨w.heap.size + 1, 1, none⟩ (.slice a2 lb.length c2)) := ((Step.refl (· = w.heap.size + 1) _).setCell _ _ (fun _ => rfl)).setCell _ _ (fun _ => rfl)
        exact PPost.of_ok HRF.out rfl ⟨_, _, rfl, namesQ_ok.mono _ _ (fun q _ hq => by omega) (namesQ_ok.step _ _ hs2 (fun q hq e => by omega) HNA.out.1), namesQ_ok.mono _ _ (fun q _ hq => by omega) (namesQ_ok.step _ _ hs2 (fun q hq e => by omega) HNA.out.2)⟩ (HSTB.out.rd.step hs2 (fun q hq e => by omega)) ((HBK.out _ HSTB.out.st).then hs2 (fun q hq e => by omega))
theorem opt_post (R : Rdr) (hl : LOk R.l) (w : World) (i d : Nat) (h : RdAt R w i d) :
  Calls Try.prog 77 #[.agg #[.pointer (some ⟨R.rb, 0, none⟩)]] w (PPost R d StrV (.ok (optF R.l i) (optI R.l i)) w) :=
 (opt_any R hl w i d h).mono fun _ _ hp => ⟨⟨_, hp.1, rfl⟩, hp.2⟩
theorem optF_size {R : Rdr} (hl : LOk R.l) {i : Nat} (hi : i < R.l.length) : (optF R.l i).size ≤ 9223372036854775807 := by
 unfold optF
 split
 ·exact toB_size (hl.text _ (List.mem_of_getElem? (tokA_get hi)))
 ·decide
structure AJ (R : Rdr) (i0 d : Nat) (w1 : World) (zc : Array Value) (nc : ByteArray → Array Value) (T : Nat) (r1 : Res ByteArray) (ic ib il iz : Nat) (vals : List (Option Value)) (L : Nat → Bool) (V : Nat → Value) (X : World) : Prop where
 det : ∀ (i : Nat) v, vals[i]? = some (some v) → L i = true → V i = v
 vc : L ic = true → ∃ s k, r1 = .ok s k ∧ V ic = .string s
 vb : L ib = true → ∃ s k, r1 = .ok s k ∧ V ib = .agg (nc s)
 vl : L il = true → ∃ b, V il = .pointer (some ⟨b, 0, none⟩) ∧ w1.heap.size ≤ b ∧ (L iz = false → X.heap[b]? = some (.cells zc T (0, 0))) ∧ (L iz = true → ∃ s k, r1 = .ok s k ∧ X.heap[b]? = some (.cells (nc s) T (0, 0)))
 rd : ∃ i, RdAt R X i d ∧ cond (L ic) (∃ s, r1 = .ok s i) (i = i0)
 st : Step (· = R.rb) w1 X
 qb : L ib = true → L ic = true
 qz : L iz = true → L ib = true ∧ L il = true
 qc : L ic = true → L 2 = true
theorem updL_up {L : Nat → Bool} (i : Nat) {k : Nat} (h : L k = true) : updL L i k = true := by
 by_cases e : k = i
 ·rw [e]; exact updL_eq _ _
 ·rw [updL_ne _ e]; exact h
section
variable {R : Rdr} {i0 d : Nat} {w1 : World} {zc : Array Value} {nc : ByteArray → Array Value} {T : Nat} {r1 : Res ByteArray} {ic ib il iz : Nat} {vals : List (Option Value)} {L : Nat → Bool} {V : Nat → Value} {X X' : World}
theorem AJ.zero (hs : Step (fun _ => False) w1 X) (hr : RdAt R w1 i0 d) : AJ R i0 d w1 zc nc T r1 ic ib il iz vals (fun _ => false) V X :=
 ⟨fun _ _ _ h => (nomatch h), (fun h => nomatch h), (fun h => nomatch h), (fun h => nomatch h), ⟨i0, hr.quiet hs, rfl⟩, hs.mono (fun _ _ h => h.elim), (fun h => nomatch h), (fun h => nomatch h), (fun h => nomatch h)⟩
theorem AJ.up (h : AJ R i0 d w1 zc nc T r1 ic ib il iz vals L V X) (i : Nat) {v : Value} (hv : vals[i]? = some (some v)) (h1 : i ≠ ic) (h2 : i ≠ ib) (h3 : i ≠ il) (h4 : i ≠ iz) : AJ R i0 d w1 zc nc T r1 ic ib il iz vals (updL L i) (updV V i v) X := by
 refine ⟨det_up h.det i v (fun u hu => by rw [hv] at hu; cases hu; rfl), ?_, ?_, ?_, ?_, h.st, ?_, ?_, fun e => updL_up i (h.qc (by rw [updL_ne _ (Ne.symm h1)] at e; exact e))⟩
 ·rw [updL_ne _ (Ne.symm h1), updV_ne _ _ (Ne.symm h1)]; exact h.vc
 ·rw [updL_ne _ (Ne.symm h2), updV_ne _ _ (Ne.symm h2)]; exact h.vb
 ·rw [updL_ne _ (Ne.symm h3), updV_ne _ _ (Ne.symm h3), updL_ne _ (Ne.symm h4)]; exact h.vl
 ·rw [updL_ne _ (Ne.symm h1)]; exact h.rd
 ·rw [updL_ne _ (Ne.symm h2), updL_ne _ (Ne.symm h1)]; exact h.qb
 ·rw [updL_ne _ (Ne.symm h4), updL_ne _ (Ne.symm h2), updL_ne _ (Ne.symm h3)]; exact h.qz
theorem AJ.move (h : AJ R i0 d w1 zc nc T r1 ic ib il iz vals L V X) (hs : Step (fun _ => False) X X') : AJ R i0 d w1 zc nc T r1 ic ib il iz vals L V X' := by
 refine ⟨h.det, h.vc, h.vb, ?_, ?_, h.st.trans (hs.mono (fun _ _ h => h.elim)), h.qb, h.qz, h.qc⟩
 ·intro e
  obtain ⟨b, h1, h2, h3, h4⟩ := h.vl e
  refine ⟨b, h1, h2, fun e2 => hs.keep (h3 e2) (fun h => h), fun e2 => ?_⟩
  obtain ⟨s, k, h5, h6⟩ := h4 e2
  exact ⟨s, k, h5, hs.keep h6 (fun h => h)⟩
 ·obtain ⟨i, h1, h2⟩ := h.rd
  exact ⟨i, h1.quiet hs, h2⟩
theorem AJ.noZ (h : AJ R i0 d w1 zc nc T r1 ic ib il iz vals L V X) (hL : L ic = false) : L iz = false := by
 cases e : L iz with
 | false => rfl
 | true => rw [h.qb (h.qz e).1] at hL; cases hL
theorem AJ.call (hne : ic ≠ ib ∧ ic ≠ il ∧ ic ≠ iz) (hw : R.rb < w1.heap.size) (h : AJ R i0 d w1 zc nc T r1 ic ib il iz vals L V X) (hL : L ic = false) (h2 : L 2 = true) (hvals : vals[ic]? = some none) (hs : Step (· = R.rb) X X') {k : Nat} (hr : RdAt R X' k d) {s : ByteArray} (hx : r1 = .ok s k) :
  AJ R i0 d w1 zc nc T r1 ic ib il iz vals (updL L ic) (updV V ic (.string s)) X' := by
 have hZ := h.noZ hL
 obtain ⟨n1, n2, n3⟩ := hne
 refine ⟨det_up h.det ic _ (fun u hu => by rw [hvals] at hu; cases hu), fun _ => ⟨s, k, hx, updV_eq _ _ _⟩, ?_, ?_, ⟨k, hr, by rw [updL_eq]; exact ⟨s, hx⟩⟩, h.st.trans hs, fun _ => updL_eq _ _, ?_, fun _ => updL_up ic h2⟩
 ·rw [updL_ne _ (Ne.symm n1), updV_ne _ _ (Ne.symm n1)]; exact h.vb
 ·rw [updL_ne _ (Ne.symm n2), updV_ne _ _ (Ne.symm n2), updL_ne _ (Ne.symm n3)]
  intro e
  obtain ⟨b, h1, h2, h3, h4⟩ := h.vl e
  exact ⟨b, h1, h2, fun e2 => hs.keep (h3 e2) (by omega), fun e2 => by rw [hZ] at e2; cases e2⟩
 ·rw [updL_ne _ (Ne.symm n3), hZ]; intro e; cases e
theorem AJ.build (hne : ic ≠ ib ∧ ib ≠ il ∧ ib ≠ iz) (h : AJ R i0 d w1 zc nc T r1 ic ib il iz vals L V X) (hC : L ic = true) (hL : L ib = false) (hvals : vals[ib]? = some none) {s : ByteArray} (hs : V ic = .string s) :
  AJ R i0 d w1 zc nc T r1 ic ib il iz vals (updL L ib) (updV V ib (.agg (nc s))) X := by
 obtain ⟨n1, n2, n3⟩ := hne
 refine ⟨det_up h.det ib _ (fun u hu => by rw [hvals] at hu; cases hu), ?_, ?_, ?_, ?_, h.st, ?_, ?_, fun _ => updL_up ib (h.qc hC)⟩
 ·rw [updL_ne _ n1, updV_ne _ _ n1]; exact h.vc
 ·intro _
  obtain ⟨s', k, h1, h2⟩ := h.vc hC
  rw [hs] at h2
  cases h2
  exact ⟨s, k, h1, updV_eq _ _ _⟩
 ·rw [updL_ne _ (Ne.symm n2), updV_ne _ _ (Ne.symm n2), updL_ne _ (Ne.symm n3)]; exact h.vl
 ·rw [updL_ne _ n1]; exact h.rd
 ·intro _; rw [updL_ne _ n1]; exact hC
 ·rw [updL_ne _ (Ne.symm n3)]
  intro e
  obtain ⟨h1, h2⟩ := h.qz e
  rw [hL] at h1; cases h1
theorem AJ.alloc (hne : ic ≠ il ∧ ib ≠ il ∧ il ≠ iz) (h : AJ R i0 d w1 zc nc T r1 ic ib il iz vals L V X) (hL : L il = false) (hvals : vals[il]? = some none) :
  AJ R i0 d w1 zc nc T r1 ic ib il iz vals (updL L il) (updV V il (.pointer (some ⟨X.heap.size, 0, none⟩))) (X.alloc (.cells zc T)) := by
 obtain ⟨n1, n2, n3⟩ := hne
 have hZ : L iz = false := by
  cases e : L iz with
  | false => rfl
  | true => rw [(h.qz e).2] at hL; cases hL
 have hs : Step (fun _ => False) X (X.alloc (.cells zc T)) := (Step.refl _ _).alloc _
 refine ⟨det_up h.det il _ (fun u hu => by rw [hvals] at hu; cases hu), ?_, ?_, ?_, ?_, h.st.alloc _, ?_, ?_, fun e => updL_up il (h.qc (by rw [updL_ne _ n1] at e; exact e))⟩
 ·rw [updL_ne _ n1, updV_ne _ _ n1]; exact h.vc
 ·rw [updL_ne _ n2, updV_ne _ _ n2]; exact h.vb
 ·intro _
  refine ⟨X.heap.size, updV_eq _ _ _, h.st.size, fun _ => blk_new _ _, fun e => ?_⟩
  rw [updL_ne _ (Ne.symm n3), hZ] at e; cases e
 ·rw [updL_ne _ n1]
  obtain ⟨i, h1, h2⟩ := h.rd
  exact ⟨i, h1.quiet hs, h2⟩
 ·rw [updL_ne _ n2, updL_ne _ n1]; exact h.qb
 ·rw [updL_ne _ (Ne.symm n3), hZ]; intro e; cases e
theorem AJ.put (hne : ic ≠ iz ∧ ib ≠ iz ∧ il ≠ iz) (hw : R.rb < w1.heap.size) (h : AJ R i0 d w1 zc nc T r1 ic ib il iz vals L V X) (hB : L ib = true) (hA : L il = true) (hvals : ∀ u, vals[iz]? = some (some u) → False) {s : ByteArray} {k : Nat} (hx : r1 = .ok s k) {b : Nat} (hp : V il = .pointer (some ⟨b, 0, none⟩)) (hs : Step (· = b) X X')
  (hb : X'.heap[b]? = some (.cells (nc s) T (0, 0))) (v : Value) : AJ R i0 d w1 zc nc T r1 ic ib il iz vals (updL L iz) (updV V iz v) X' := by
 obtain ⟨n1, n2, n3⟩ := hne
 obtain ⟨b', h1, h2, -, -⟩ := h.vl hA
 rw [hp] at h1
 cases h1
 refine ⟨det_up h.det iz _ (fun u hu => (hvals u hu).elim), ?_, ?_, ?_, ?_, h.st.then hs (fun q hq e => by omega), ?_, ?_, fun e => updL_up iz (h.qc (by rw [updL_ne _ n1] at e; exact e))⟩
 ·rw [updL_ne _ n1, updV_ne _ _ n1]; exact h.vc
 ·rw [updL_ne _ n2, updV_ne _ _ n2]; exact h.vb
 ·intro _
  rw [updV_ne _ _ n3]
  exact ⟨b, hp, h2, fun e => (by rw [updL_eq] at e; cases e), fun _ => ⟨s, k, hx, hb⟩⟩
 ·rw [updL_ne _ n1]
  obtain ⟨i, h3, h4⟩ := h.rd
  exact ⟨i, h3.step hs (fun q hq e => by omega), h4⟩
 ·rw [updL_ne _ n2, updL_ne _ n1]; exact h.qb
 ·intro _; rw [updL_ne _ n2, updL_ne _ n3]; exact ⟨hB, hA⟩
theorem AJ.done (h : AJ R i0 d w1 zc nc T r1 ic ib il iz vals L V X) (hC : L ic = true) (hA : L il = true) (hZ : L iz = true) :
  ∃ s k b, r1 = .ok s k ∧ V il = .pointer (some ⟨b, 0, none⟩) ∧ RdAt R X k d ∧ w1.heap.size ≤ b ∧ X.heap[b]? = some (.cells (nc s) T (0, 0)) ∧ Step (· = R.rb) w1 X := by
 obtain ⟨b, h1, h2, -, h3⟩ := h.vl hA
 obtain ⟨s, k, h4, h5⟩ := h3 hZ
 obtain ⟨i, h6, h7⟩ := h.rd
 rw [hC] at h7
 obtain ⟨s', h8⟩ : ∃ s, r1 = .ok s i := h7
 rw [h4] at h8
 cases h8
 exact ⟨s, k, b, h4, h1, h6, h2, h5, h.st⟩
end
end Go.Proofs.Ytppekkbaoimpgaa
