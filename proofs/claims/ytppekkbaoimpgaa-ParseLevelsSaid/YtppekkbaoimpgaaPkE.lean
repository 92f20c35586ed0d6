/- LevB, ExA, Lis, Blk, BlB, Let -/
import Derived.Test.YtppekkbaoimpgaaPkD
set_option maxRecDepth 100000
set_option maxHeartbeats 8000000
namespace Go.Proofs.Ytppekkbaoimpgaa
open Go.RowKit
structure LvJ8 (R : Rdr) (j1 j2 d bx bp bq : Nat) (w4 : World) (s : ByteArray) (n : Nat) (tl tc : Int) (xc : List Value) (y : Ex) (L : Nat → Bool) (V : Nat → Value) (X : World) : Prop where
 p0 : L 0 = true → V 0 = .string s
 p1 : L 1 = true → V 1 = .agg xc.toArray
 p2 : L 2 = true → V 2 = .agg #[.pointer (some ⟨R.rb, 0, none⟩)]
 p3 : L 3 = true → V 3 = .int .i64 n
 p4 : L 4 = true → V 4 = .int .i64 ((n : Int) + 1)
 p5 : L 5 = true → ∃ cs : List Value, V 5 = .agg cs.toArray ∧ ExP X (fun q => w4.heap.size ≤ q) y cs
 p6 : L 6 = true → ∃ (g : Nat) (cs : List Value), V 6 = .slice (some ⟨g, 0, none⟩) 2 2 ∧ w4.heap.size ≤ g ∧ ExP X (fun q => w4.heap.size ≤ q) y cs ∧ X.heap[g]? = some (.cells (xc ++ cs).toArray 29 (0, 0))
 p7 : L 7 = true → V 7 = .agg #[.int .i64 tl, .int .i64 tc]
 p8 : L 8 = true → ∃ g : Nat, V 6 = .slice (some ⟨g, 0, none⟩) 2 2 ∧ V 8 = .agg #[.int .i64 14, .string s, .int .u64 0, .bool false, .slice (some ⟨g, 0, none⟩) 2 2, .slice none 0 0, .slice none 0 0, .int .i64 tl, .int .i64 tc]
 st : Step (fun q => q = R.rb ∨ q = bx) w4 X
 rd : RdAt R X (if L 5 then j2 else j1) d
 x0 : L 9 = false → X.heap[bx]? = some (.cells xc.toArray 29 (0, 0))
 x1 : L 9 = true → ∃ g : Nat, V 6 = .slice (some ⟨g, 0, none⟩) 2 2 ∧ X.heap[bx]? = some (.cells #[.int .i64 14, .string s, .int .u64 0, .bool false, .slice (some ⟨g, 0, none⟩) 2 2, .slice none 0 0, .slice none 0 0, .int .i64 tl, .int .i64 tc] 29 (0, 0))
 bp0 : X.cell? ⟨bp, 0, none⟩ = some (.pointer (some ⟨R.rb, 0, none⟩))
 bq0 : X.heap[bq]? = some (.cells #[.int .i64 tl, .int .i64 tc] 27 (0, 0))
 q6 : L 6 = true → L 1 = true ∧ L 5 = true
 q8 : L 8 = true → L 6 = true
 q9 : L 9 = true → L 1 = true ∧ L 5 = true ∧ L 6 = true ∧ L 7 = true ∧ L 8 = true
structure LvSt (R : Rdr) (w1 w3 : World) (bx d : Nat) (X : World) (i' : Nat) (x : Ex) (cs : List Value) : Prop where
 rd : RdAt R X i' d
 blk : X.heap[bx]? = some (.cells cs.toArray 29 (0, 0))
 ex : ExP X (fun q => w1.heap.size ≤ q ∧ q ≠ bx) x cs
 st : Step (fun q => q = R.rb ∨ q = bx) w3 X
theorem LvSt.quiet {R : Rdr} {w1 w3 : World} {bx d : Nat} {X X' : World} {i' : Nat} {x : Ex} {cs : List Value} (h : LvSt R w1 w3 bx d X i' x cs) (hs : Step (fun _ => False) X X') : LvSt R w1 w3 bx d X' i' x cs :=
 ⟨h.rd.quiet hs, hs.keep h.blk (fun h => h), ExP.step hs (fun _ _ h => h) _ _ h.ex, h.st.trans (hs.mono (fun _ _ h => h.elim))⟩
theorem LvSt.read {R : Rdr} {w1 w3 : World} {bx d : Nat} {X X' : World} {i' i2 : Nat} {x : Ex} {cs : List Value} (h : LvSt R w1 w3 bx d X i' x cs) (hb : R.rb ≠ bx) (hw : R.rb < w1.heap.size) (hr : RdAt R X' i2 d) (hs : Step (· = R.rb) X X') : LvSt R w1 w3 bx d X' i2 x cs :=
 ⟨hr, hs.keep h.blk (fun e => hb e.symm), ExP.step hs (fun q hq e => by have := hq.1; omega) _ _ h.ex, h.st.trans (hs.mono (fun _ _ e => .inl e))⟩
theorem XNONE (s : ByteArray) (tl tc : Int) (g : Nat) : ∀ u ∈ [Value.int .i64 14, .string s, .int .u64 0, .bool false, .slice (some ⟨g, 0, none⟩) 2 2, .slice none 0 0, .slice none 0 0, .int .i64 tl, .int .i64 tc], u.oneCell' = true := by
 intro u hu
 simp at hu
 rcases hu with rfl | rfl | rfl | rfl | rfl | rfl | rfl | rfl | rfl <;> rfl
theorem level_step (f : Nat) (ih : ∀ f', f' < f → LevelOk f' ∧ UnaryOk f') : LevelOk f := by
 intro R w i d n hl h hd hn hno
 obtain ⟨f, rfl⟩ : ∃ f', f = f' + 1 := by
  cases f with
  | zero => exact absurd (by rw [levelR]) hno
  | succ f => exact ⟨f, rfl⟩
 have HL := Lib.hid hl
 have H0 := Lib.hid h
 have IH := Lib.hid ih
 obtain ⟨r, hr⟩ : ∃ r, r = levelR (f + 1) R.l i d n := ⟨_, rfl⟩
 have HRR := Lib.hid hr
 rw [← hr] at hno ⊢
 have HNO := Lib.hid hno
 have hrlt := blk_lt h.blk
 obtain ⟨w1, hw1⟩ : ∃ w1 : World, w1 = (w.alloc (.cells #[.pointer (some ⟨R.rb, 0, none⟩)] 45)).alloc (.cells #[.int .i64 0, .string ⟨#[]⟩, .int .u64 0, .bool false, .slice none 0 0, .slice none 0 0, .slice none 0 0, .int .i64 0, .int .i64 0] 29) := ⟨_, rfl⟩
 have HS1 : Hid (Step (fun _ => False) w w1) := by show Step _ _ _; rw [hw1]; exact ((Step.refl _ _).alloc _).alloc _
 have HP1 : Hid (w1.heap[w.heap.size]? = some (.cells #[.pointer (some ⟨R.rb, 0, none⟩)] 45 (0, 0))) := by show _ = _; rw [hw1]; exact blk_alloc (blk_new _ _)
 have HN1 : Hid (w1.heap[w.heap.size + 1]? = some (.cells #[.int .i64 0, .string ⟨#[]⟩, .int .u64 0, .bool false, .slice none 0 0, .slice none 0 0, .slice none 0 0, .int .i64 0, .int .i64 0] 29 (0, 0))) := by show _ = _; rw [hw1]; exact blk_new2 _ _ _
 have HW1 := Lib.hid hw1
 have H1 := Lib.hid (h.quiet HS1.out)
 have hn1 := blk_lt HN1.out
 have HKP : Hid (∀ X : World, Step (· = R.rb) w1 X → X.cell? ⟨w.heap.size, 0, none⟩ = some (.pointer (some ⟨R.rb, 0, none⟩))) := by
  show ∀ X, _
  intro X hX
  exact blk_cell (hX.keep HP1.out (by omega)) 0 _ rfl
 clear ih hl h hno hr hw1
 go_enter Try.func15, Try.ntmps15
 go_upto_region 1 with fail
 rw [← HW1.out]
 obtain ⟨b5, hb5⟩ : ∃ b5, ((n : Int) == 5) = b5 := ⟨_, rfl⟩
 have HB5 : Hid ((n == 5) = b5) := (kindN n 5 5 rfl).symm.trans hb5
 go_wp2_with fail
 refine (levels_any w1).mono ?_
 rintro e w2 ⟨⟨g0, g1, g2, g3, g4, rfl, -⟩, h2⟩
 have H2 := Lib.hid (H1.out.quiet h2)
 have HS2 : Hid (Step (· = R.rb) w1 w2) := h2.mono (fun _ _ h => h.elim)
 have HN2 := Lib.hid (h2.keep HN1.out (fun h => h))
 have p0 := HKP.out w2 HS2.out
 have hz2 := h2.size
 clear h2
 cases b5 with
 | true =>
  have hn5 : n = 5 := by simpa using HB5.out
  have HR2 : Hid (r = unaryR f R.l i d) := by show _ = _; rw [HRR.out, levelR, if_pos hn5]
  clear hn5
  go_wp2_with fail
  cases hx : unaryR f R.l i d with
  | out => exact absurd (by rw [HR2.out, hx]) HNO.out
  | err c ln col =>
   have HX := Lib.hid hx
   clear hx
   refine ((IH.out f (Nat.lt_succ_self f)).2 R _ i d HL.out H2.out hd (by rw [HX.out]; intro h; cases h)).mono ?_
   rintro e wq hp
   rw [HX.out] at hp
   obtain ⟨rfl, sq⟩ := hp
   refine ⟨rfl, ?_⟩
   rw [HR2.out, HX.out]
   exact ⟨rfl, ((HS1.out.mono (fun _ _ h => h.elim)).trans HS2.out).trans sq⟩
  | ok y jx =>
   have HX := Lib.hid hx
   clear hx
   refine ((IH.out f (Nat.lt_succ_self f)).2 R _ i d HL.out H2.out hd (by rw [HX.out]; intro h; cases h)).mono ?_
   rintro e wx hp
   rw [HX.out] at hp
   obtain ⟨⟨v, rfl, cs, rfl, hy⟩, hrx, hsx⟩ := hp
   have HY := Lib.hid hy
   have HONE := Lib.hid hy.one
   obtain ⟨k0, nm0, v0, mu0, a1, n1, c1, a2, n2, c2, a3, n3, c3, l0, c0, rfl⟩ := hy.parts
   have HRX := Lib.hid hrx
   have HSX := Lib.hid hsx
   have HNX := Lib.hid (hsx.keep HN2.out (by omega))
   clear hy hrx hsx p0
   go_wp2_with (refine wpList_store_part (w := wx) rfl 29 (.tmp 4) (.tmp 13) rfl (w.heap.size + 1) 0 29 _ [.int .i64 k0, .string nm0, .int .u64 v0, .bool mu0, .slice a1 n1 c1, .slice a2 n2 c2, .slice a3 n3 c3, .int .i64 l0, .int .i64 c0] rfl rfl HNX.out Try.sizeExpr (Nat.le_of_eq rfl) HONE.out ?_
                intro w6 hb6 hst6)
   have hb6' : w6.heap[w.heap.size + 1]? = some (.cells [Value.int .i64 k0, .string nm0, .int .u64 v0, .bool mu0, .slice a1 n1 c1, .slice a2 n2 c2, .slice a3 n3 c3, .int .i64 l0, .int .i64 c0].toArray 29 (0, 0)) := hb6
   refine bodyPost_ret (results_cellB rfl _ (w.heap.size + 1) 29 _ _ rfl hb6' Try.underlying29 rfl Try.sizeExpr) rfl ?_
   rw [HR2.out, HX.out]
   have hz1 := HS1.out.size
   refine ⟨⟨_, rfl, _, rfl, ExP.mono (fun q _ hq => by omega) _ _ (ExP.step hst6 (fun q hq e => by omega) _ _ HY.out)⟩, HRX.out.step hst6 (fun q hq e => by omega), ?_⟩
   exact (((HS1.out.mono (fun _ _ h => h.elim)).trans HS2.out).trans HSX.out).then hst6 (fun q hq e => by omega)
 | false =>
  have hn5 : n ≠ 5 := by
   intro e
   have h3 := HB5.out
   rw [e] at h3; cases h3
  have hn4 : n < 5 := by omega
  have HR2 : Hid (r = (levelR f R.l i d (n + 1)).bind fun x j => rowR f R.l j d n x) := by show _ = _; rw [HRR.out, levelR, if_neg hn5]
  have R1 : IntKind.i64.wrap ((n : Int) + 1) = (n : Int) + 1 := IntWalk.i64_in _ (by omega)
  clear hn5
  go_wp2_with fail
  have HLV : Hid (∀ X i' f', f' < f + 1 → RdAt R X i' d → levelR f' R.l i' d (n + 1) ≠ .out → Calls Try.prog 15 #[.agg #[.pointer (some ⟨R.rb, 0, none⟩)], .int .i64 ((n : Int) + 1)] X (PPost R d (ExV X.heap.size) (levelR f' R.l i' d (n + 1)) X)) := by
   show ∀ X i' f', _
   intro X i' f' hf hX hno
   exact (IH.out f' hf).1 R X i' d (n + 1) HL.out hX hd (by omega) hno
  cases hx : levelR f R.l i d (n + 1) with
  | out => exact absurd (by rw [HR2.out, hx]; rfl) HNO.out
  | err c ln col =>
   have HX := Lib.hid hx
   clear hx
   refine (HLV.out _ i f (Nat.lt_succ_self f) H2.out (by rw [HX.out]; intro h; cases h)).mono ?_
   rintro e wq hp
   rw [HX.out] at hp
   obtain ⟨rfl, sq⟩ := hp
   refine ⟨rfl, ?_⟩
   rw [HR2.out, HX.out]
   exact ⟨rfl, ((HS1.out.mono (fun _ _ h => h.elim)).trans HS2.out).trans sq⟩
  | ok x jx =>
   have HX := Lib.hid hx
   clear hx
   refine (HLV.out _ i f (Nat.lt_succ_self f) H2.out (by rw [HX.out]; intro h; cases h)).mono ?_
   rintro e wx hp
   rw [HX.out] at hp
   obtain ⟨⟨v, rfl, cs, rfl, hy⟩, hrx, hsx⟩ := hp
   have HY := Lib.hid hy
   obtain ⟨k0, nm0, v0, mu0, a1, n1, c1, a2, n2, c2, a3, n3, c3, l0, c0, rfl⟩ := hy.parts
   have HRX := Lib.hid hrx
   have HSX : Hid (Step (· = R.rb) w1 wx) := HS2.out.trans hsx
   have HR3 : Hid (r = rowR f R.l jx d n x) := by show _ = _; rw [HR2.out, HX.out]; rfl
   have hzx := hsx.size
   obtain ⟨w3, hw3⟩ : ∃ w3 : World, w3 = wx.alloc (.cells #[.int .i64 k0, .string nm0, .int .u64 v0, .bool mu0, .slice a1 n1 c1, .slice a2 n2 c2, .slice a3 n3 c3, .int .i64 l0, .int .i64 c0] 29) := ⟨_, rfl⟩
   have HS3 : Hid (Step (fun _ => False) wx w3) := by show Step _ _ _; rw [hw3]; exact (Step.refl _ _).alloc _
   have HB3 : Hid (w3.heap[wx.heap.size]? = some (.cells #[.int .i64 k0, .string nm0, .int .u64 v0, .bool mu0, .slice a1 n1 c1, .slice a2 n2 c2, .slice a3 n3 c3, .int .i64 l0, .int .i64 c0] 29 (0, 0))) := by show _ = _; rw [hw3]; exact blk_new _ _
   have HS13 : Hid (Step (· = R.rb) w1 w3) := HSX.out.trans (HS3.out.mono (fun _ _ h => h.elim))
   have HW3 := Lib.hid hw3
   clear hy hrx hsx p0 hw3
   have hxb := blk_lt HB3.out
   have hz3 := HS3.out.size
   have HEX3 : Hid (ExP w3 (fun q => w1.heap.size ≤ q ∧ q ≠ wx.heap.size) x [.int .i64 k0, .string nm0, .int .u64 v0, .bool mu0, .slice a1 n1 c1, .slice a2 n2 c2, .slice a3 n3 c3, .int .i64 l0, .int .i64 c0]) := ExP.step HS3.out (fun _ _ h => h) _ _ (ExP.mono (fun q hq hh => ⟨by omega, by omega⟩) _ _ HY.out)
   have HLS0 : Hid (LvSt R w1 w3 wx.heap.size d w3 jx x [.int .i64 k0, .string nm0, .int .u64 v0, .bool mu0, .slice a1 n1 c1, .slice a2 n2 c2, .slice a3 n3 c3, .int .i64 l0, .int .i64 c0]) := ⟨HRX.out.quiet HS3.out, HB3.out, HEX3.out, Step.refl _ _⟩
   go_upto_block 0 with fail
   rw [← HW3.out]
   obtain ⟨bx, hbx⟩ : ∃ bx, bx = wx.heap.size := ⟨_, rfl⟩
   rw [← hbx] at HLS0 hxb ⊢
   have hbx1 : w1.heap.size ≤ bx := by omega
   have HP3 := Lib.hid (HS13.out.keep HP1.out (by omega))
   have HN3 := Lib.hid (HS13.out.keep HN1.out (by omega))
   have HKX : Hid (∀ X : World, Step (fun q => q = R.rb ∨ q = bx) w3 X → X.cell? ⟨w.heap.size, 0, none⟩ = some (.pointer (some ⟨R.rb, 0, none⟩)) ∧ X.heap[w.heap.size + 1]? = some (.cells #[.int .i64 0, .string ⟨#[]⟩, .int .u64 0, .bool false, .slice none 0 0, .slice none 0 0, .slice none 0 0, .int .i64 0, .int .i64 0] 29 (0, 0))) := by
    show ∀ X, _
    intro X hX
    exact ⟨blk_cell (hX.keep HP3.out (by omega)) 0 _ rfl, hX.keep HN3.out (by omega)⟩
   have HS03 : Hid (Step (· = R.rb) w w3) := (HS1.out.mono (fun _ _ h => h.elim)).trans HS13.out
   clear hbx
   go_wp2_with fail
   go_loopg [6, 7] f (fun gg s6 s7 wr => gg ≤ f ∧ ∃ (i' : Nat) (x : Ex) (cs : List Value), r = rowR gg R.l i' d n x ∧ LvSt R w1 w3 bx d wr i' x cs)
   case atStart => exact ⟨Nat.le_refl _, jx, x, _, HR3.out, HLS0.out⟩
   case round =>
    obtain ⟨hgf, i', x, cs, hrq, hst⟩ := hrel
    have HRQ := Lib.hid hrq
    obtain ⟨gn, rfl⟩ : ∃ gn, gk = gn + 1 := by
     cases gk with
     | zero => exact absurd hrq (by rw [rowR]; exact HNO.out)
     | succ gn => exact ⟨gn, rfl⟩
    obtain ⟨k0, nm0, v0, mu0, a1, n1, c1, a2, n2, c2, a3, n3, c3, l0, c0, rfl⟩ := hst.ex.parts
    have HST := Lib.hid hst
    obtain ⟨p0, -⟩ := HKX.out wr hst.st
    obtain ⟨tk, htk⟩ : ∃ tk, tk = tokA R.l i' := ⟨_, rfl⟩
    have HTK := Lib.hid htk
    have HAT := Lib.hid (at_at R wr i' d tk hst.rd (by rw [htk]; exact hst.rd.tok))
    clear hrq hst htk
    go_upto_region 4 with fail
    go_wp2_with fail
    refine HAT.out.mono ?_
    rintro e w4 ⟨rfl, h4⟩
    have HST4 := Lib.hid (HST.out.quiet h4)
    obtain ⟨w5, hw5⟩ : ∃ w5 : World, w5 = w4.alloc (.cells #[.int .i64 tk.line, .int .i64 tk.col] 27) := ⟨_, rfl⟩
    have HS5 : Hid (Step (fun _ => False) w4 w5) := by show Step _ _ _; rw [hw5]; exact (Step.refl _ _).alloc _
    have HQ5 : Hid (w5.heap[w4.heap.size]? = some (.cells #[.int .i64 tk.line, .int .i64 tk.col] 27 (0, 0))) := by show _ = _; rw [hw5]; exact blk_new _ _
    have HST5 := Lib.hid (HST4.out.quiet HS5.out)
    have hz4 := HST4.out.st.size
    have HW5 := Lib.hid hw5
    clear h4 hw5 p0
    obtain ⟨p0, -⟩ := HKX.out w5 HST5.out.st
    go_upto_region 5 with fail
    rw [← HW5.out]
    go_wp2_with fail
    refine (op_any R HL.out w5 i' d n HST5.out.rd hn4).mono ?_
    rintro e w6 ⟨rfl, hr6, h6⟩
    cases ho : opF R.l i' n with
    | none =>
     rw [ho] at hr6
     have HR6 : Hid (RdAt R w6 i' d) := hr6
     have HST6 := Lib.hid (HST5.out.read (by omega) (by omega) HR6.out h6)
     have HRE : Hid (r = .ok x i') := by show _ = _; rw [HRQ.out, rowR, ho]
     have HONE := Lib.hid HST6.out.ex.one
     have HLD : Hid (∀ (jj : Nat) v, [Value.int .i64 k0, .string nm0, .int .u64 v0, .bool mu0, .slice a1 n1 c1, .slice a2 n2 c2, .slice a3 n3 c3, .int .i64 l0, .int .i64 c0][jj]? = some v → w6.cell? ⟨bx, 0 + jj, none⟩ = some v) := by
      show ∀ jj v, _
      intro jj v hv
      rw [Nat.zero_add]; exact blk_cell HST6.out.blk jj v (by simpa using hv)
     have HN6 := Lib.hid (HKX.out w6 HST6.out.st).2
     clear hr6 h6 ho p0
     rw [show opS none = (⟨#[]⟩ : ByteArray) from rfl]
     go_wp2_with (first
      | (refine wpList_load_whole rfl 29 (.tmp 5) rfl bx 0 rfl [.int .i64 k0, .string nm0, .int .u64 v0, .bool mu0, .slice a1 n1 c1, .slice a2 n2 c2, .slice a3 n3 c3, .int .i64 l0, .int .i64 c0] _ HLD.out Try.underlying29 rfl Try.sizeExpr ?_)
      | (refine wpList_store_part (w := w6) rfl 29 (.tmp 4) (.tmp 26) rfl (w.heap.size + 1) 0 29 _ [.int .i64 k0, .string nm0, .int .u64 v0, .bool mu0, .slice a1 n1 c1, .slice a2 n2 c2, .slice a3 n3 c3, .int .i64 l0, .int .i64 c0] rfl rfl HN6.out Try.sizeExpr (Nat.le_of_eq rfl) HONE.out ?_
         intro w7 hb7 hst7))
     have hb7' : w7.heap[w.heap.size + 1]? = some (.cells [Value.int .i64 k0, .string nm0, .int .u64 v0, .bool mu0, .slice a1 n1 c1, .slice a2 n2 c2, .slice a3 n3 c3, .int .i64 l0, .int .i64 c0].toArray 29 (0, 0)) := hb7
     refine bodyPost_ret (results_cellB rfl _ (w.heap.size + 1) 29 _ _ rfl hb7' Try.underlying29 rfl Try.sizeExpr) rfl ?_
     rw [HRE.out]
     have hz1 := HS1.out.size
     refine ⟨⟨_, rfl, _, rfl, ExP.mono (fun q _ hq => by have := hq.1; omega) _ _ (ExP.step hst7 (fun q hq e => by have := hq.1; omega) _ _ HST6.out.ex)⟩, HST6.out.rd.step hst7 (fun q hq e => by omega), ?_⟩
     exact (HS03.out.then HST6.out.st (fun q hq e => by omega)).then hst7 (fun q hq e => by omega)
    | some s =>
     rw [ho] at hr6
     have HR6 : Hid (RdAt R w6 (i' + 1) d) := hr6
     have HST6 := Lib.hid (HST5.out.read (by omega) (by omega) HR6.out h6)
     have HQ6 := Lib.hid (h6.keep HQ5.out (by omega))
     have HRE : Hid (r = (levelR gn R.l (i' + 1) d (n + 1)).bind fun y j => if n = 2 then .ok (exMk 14 (toB s) 0 false [x, y] [] [] tk) j else rowR gn R.l j d n (exMk 14 (toB s) 0 false [x, y] [] [] tk)) := by show _ = _; rw [HRQ.out, rowR, ho, HTK.out]
     obtain ⟨sB, hsB⟩ : ∃ sB, sB = toB s := ⟨_, rfl⟩
     have hpos : 0 < sB.size ∧ sB.size ≤ 9223372036854775807 := by
      have hm := List.mem_of_find?_eq_some ho
      rw [hsB]
      show 0 < s.toArray.size ∧ s.toArray.size ≤ _
      rcases (show n = 0 ∨ n = 1 ∨ n = 2 ∨ n = 3 ∨ n = 4 by omega) with e | e | e | e | e <;> subst e <;> simp [opsL] at hm <;> (rcases hm with rfl | rfl) <;> decide
     have HPOS := Lib.hid hpos.2
     have he := toList_ne sB hpos.1
     have he' := isEmpty_no sB hpos.1
     have HSB := Lib.hid hsB
     have hx6 : opS (some s) = sB := hsB.symm
     rw [hx6]
     rw [← hsB] at HRE
     obtain ⟨p0, -⟩ := HKX.out w6 HST6.out.st
     clear hr6 h6 ho hsB hx6 hpos
     have hz5 := HS5.out.size
     have hz46 := HST6.out.st.size
     have hq6 := blk_lt HQ6.out
     have hxs := blk_lt HST6.out.blk
     go_upto_region 8 with fail
     have HZ8 : Hid (∀ (j2 : Nat) (y : Ex) V, LvJ8 R (i' + 1) j2 d bx w.heap.size w4.heap.size w6 sB n tk.line tk.col [.int .i64 k0, .string nm0, .int .u64 v0, .bool mu0, .slice a1 n1 c1, .slice a2 n2 c2, .slice a3 n3 c3, .int .i64 l0, .int .i64 c0] y (fun _ => false) V w6.drew) := by
      show ∀ j2 y V, _
      intro j2 y V
      have hs : Step (fun _ => False) w6 w6.drew := (Step.refl _ _).drew
      exact ⟨(fun h => nomatch h), (fun h => nomatch h), (fun h => nomatch h), (fun h => nomatch h), (fun h => nomatch h), (fun h => nomatch h), (fun h => nomatch h), (fun h => nomatch h), (fun h => nomatch h), hs.mono (fun _ _ h => h.elim), HST6.out.rd.quiet hs, fun _ => hs.keep HST6.out.blk (fun h => h), (fun h => nomatch h), hs.cell (HKX.out w6 HST6.out.st).1 (fun h => h), hs.keep HQ6.out (fun h => h), (fun h => nomatch h), (fun h => nomatch h), (fun h => nomatch h)⟩
     cases hx : levelR gn R.l (i' + 1) d (n + 1) with
     | out => exact absurd (by rw [HRE.out, hx]; rfl) HNO.out
     | err c ln col =>
      have HX := Lib.hid hx
      clear hx
      obtain ⟨j2, -⟩ : ∃ j2 : Nat, j2 = 0 := ⟨_, rfl⟩
      obtain ⟨y, -⟩ : ∃ y : Ex, y = x := ⟨_, rfl⟩
      have HCAL : Hid (∀ X, RdAt R X (i' + 1) d → Calls Try.prog 15 #[.agg #[.pointer (some ⟨R.rb, 0, none⟩)], .int .i64 ((n : Int) + 1)] X fun e wq => e = .panicked [{ v := .iface 89 (.agg #[.int .i64 c, .int .i64 ln, .int .i64 col]), recovered := false }] ∧ Step (· = R.rb) X wq) := by
       show ∀ X, _
       intro X hX
       have h9 := HLV.out X (i' + 1) gn (by omega) hX (by rw [HX.out]; intro h; cases h)
       rw [HX.out] at h9
       exact h9
      have HPAN : Hid (∀ X wq : World, Step (fun q => q = R.rb ∨ q = bx) w6 X → Step (· = R.rb) X wq → PPost R d (ExV w.heap.size) r w (.panicked [{ v := .iface 89 (.agg #[.int .i64 c, .int .i64 ln, .int .i64 col]), recovered := false }]) wq) := by
       show ∀ X wq, _
       intro X wq h1 h2
       rw [HRE.out, HX.out]
       exact ⟨rfl, (HS03.out.then (HST6.out.st.trans h1) (fun q hq e => by omega)).trans h2⟩
      refine wp_region_relyD (by kernel_rfl) (fun L V X => LvJ8 R (i' + 1) j2 d bx w.heap.size w4.heap.size w6 sB n tk.line tk.col [.int .i64 k0, .string nm0, .int .u64 v0, .bool mu0, .slice a1 n1 c1, .slice a2 n2 c2, .slice a3 n3 c3, .int .i64 l0, .int .i64 c0] y L V X ∧ L 5 = false) 10 rfl (by kernel_rfl) (by kernel_rfl) (by kernel_rfl) (by kernel_rfl) ?h0 ?hs ?hdone
      case h0 => exact ⟨HZ8.out _ _ _, rfl⟩
      case hs =>
       refine ⟨?_, ?_, ?_, ?_, ?_, ?_, ?_, ?_, ?_, ?_, trivial⟩
       ·intro L V X a ev evo hdf hL hdep hJ
        have o7 := evo 7 rfl
        change a.tmps[7]?.getD undef = .string sB at o7
        go_simp
        exact ⟨_, rfl, { hJ.1 with p0 := fun _ => rfl }, hJ.2⟩
       ·intro L V X a ev evo hdf hL hdep hJ
        have o5 := evo 5 rfl
        change a.tmps[5]?.getD undef = .pointer (some ⟨bx, 0, none⟩) at o5
        have h9 : L 9 = false := by
         cases e : L 9 with
         | false => rfl
         | true => exact absurd (hJ.1.q9 e).1 (by rw [hL]; decide)
        have hb := hJ.1.x0 h9
        refine wp_load_mid 29 (.tmp 5) rfl bx 0 (by rw [evalTmp]; exact o5) [.int .i64 k0, .string nm0, .int .u64 v0, .bool mu0, .slice a1 n1 c1, .slice a2 n2 c2, .slice a3 n3 c3, .int .i64 l0, .int .i64 c0] _ (fun jj v hv => by rw [Nat.zero_add]; exact blk_cell hb jj v (by simpa using hv)) Try.underlying29 rfl Try.sizeExpr ?_
        exact ⟨_, rfl, { hJ.1 with p1 := fun _ => rfl, q6 := fun e => absurd (hJ.1.q6 e).1 (by rw [hL]; decide), q9 := fun e => absurd (show L 9 = true from e) (by rw [h9]; decide) }, hJ.2⟩
       ·intro L V X a ev evo hdf hL hdep hJ
        have o2 := evo 2 rfl
        change a.tmps[2]?.getD undef = .pointer (some ⟨w.heap.size, 0, none⟩) at o2
        have p9 := hJ.1.bp0
        go_simp
        exact ⟨_, rfl, { hJ.1 with p2 := fun _ => rfl }, hJ.2⟩
       ·intro L V X a ev evo hdf hL hdep hJ
        have o1 := evo 1 rfl
        change a.tmps[1]?.getD undef = .int .i64 (n : Int) at o1
        go_simp
        exact ⟨_, rfl, { hJ.1 with p3 := fun _ => rfl }, hJ.2⟩
       ·intro L V X a ev evo hdf hL hdep hJ
        have e30 := (ev 3 30 rfl (hdep 3 rfl)).trans (hJ.1.p3 (hdep 3 rfl))
        go_simp
        exact ⟨_, rfl, { hJ.1 with p4 := fun _ => rfl }, hJ.2⟩
       ·intro L V X a ev evo hdf hL hdep hJ
        have e29 := (ev 2 29 rfl (hdep 2 rfl)).trans (hJ.1.p2 (hdep 2 rfl))
        have e31 := (ev 4 31 rfl (hdep 4 rfl)).trans (hJ.1.p4 (hdep 4 rfl))
        have hrd := hJ.1.rd
        rw [hL, if_neg (by decide)] at hrd
        have h6 : L 6 = false := by
         cases e : L 6 with
         | false => rfl
         | true => exact absurd (hJ.1.q6 e).2 (by rw [hL]; decide)
        have h9 : L 9 = false := by
         cases e : L 9 with
         | false => rfl
         | true => exact absurd (hJ.1.q9 e).2.1 (by rw [hL]; decide)
        have h8 : L 8 = false := by
         cases e : L 8 with
         | false => rfl
         | true => exact absurd (hJ.1.q8 e) (by rw [h6]; decide)
        go_simp
        refine (HCAL.out X hrd).mono ?_
        rintro e wq ⟨rfl, hs⟩
        exact ⟨hdf, HPAN.out X wq hJ.1.st hs⟩
       ·intro L V X a ev evo hdf hL hdep hJ
        exact absurd hJ.2 (by rw [show L 5 = true from hdep 5 rfl]; decide)
       ·intro L V X a ev evo hdf hL hdep hJ
        have o6 := evo 6 rfl
        change a.tmps[6]?.getD undef = .pointer (some ⟨w4.heap.size, 0, none⟩) at o6
        have q0 := blk_cell hJ.1.bq0 0 _ rfl
        have q1 := blk_cell hJ.1.bq0 1 _ rfl
        go_simp
        have h9 : L 9 = false := by
         cases e : L 9 with
         | false => rfl
         | true => exact absurd (hJ.1.q9 e).2.2.2.1 (by rw [hL]; decide)
        exact ⟨_, rfl, { hJ.1 with p7 := fun _ => rfl, q9 := fun e => absurd (show L 9 = true from e) (by rw [h9]; decide) }, hJ.2⟩
       ·intro L V X a ev evo hdf hL hdep hJ
        exact absurd hJ.2 (by rw [show L 5 = true from (hJ.1.q6 (hdep 6 rfl)).2]; decide)
       ·intro L V X a ev evo hdf hL hdep hJ
        exact absurd hJ.2 (by rw [show L 5 = true from (hJ.1.q6 (hJ.1.q8 (hdep 8 rfl))).2]; decide)
      case hdone =>
       intro L V X hall hJ
       exact absurd hJ.2 (by rw [hall 5 (by decide)]; decide)
     | ok y j2 =>
      have HX := Lib.hid hx
      clear hx
      have HCAL : Hid (∀ X, RdAt R X (i' + 1) d → Calls Try.prog 15 #[.agg #[.pointer (some ⟨R.rb, 0, none⟩)], .int .i64 ((n : Int) + 1)] X fun e wq => (∃ v, e = .returned v ∧ ∃ cs : List Value, v = .agg cs.toArray ∧ ExP wq (fun q => X.heap.size ≤ q) y cs) ∧ RdAt R wq j2 d ∧ Step (· = R.rb) X wq) := by
       show ∀ X, _
       intro X hX
       have h9 := HLV.out X (i' + 1) gn (by omega) hX (by rw [HX.out]; intro h; cases h)
       rw [HX.out] at h9
       exact h9
      have HRN : Hid (r = if n = 2 then .ok (exMk 14 sB 0 false [x, y] [] [] tk) j2 else rowR gn R.l j2 d n (exMk 14 sB 0 false [x, y] [] [] tk)) := by show _ = _; rw [HRE.out, HX.out]; rfl
      go_cut [] (fun wx => ∃ g : Nat, LvSt R w1 w3 bx d wx j2 (exMk 14 sB 0 false [x, y] [] [] tk) [.int .i64 14, .string sB, .int .u64 0, .bool false, .slice (some ⟨g, 0, none⟩) 2 2, .slice none 0 0, .slice none 0 0, .int .i64 tk.line, .int .i64 tk.col])
      case first =>
       refine wp_region_relyD (by kernel_rfl) (LvJ8 R (i' + 1) j2 d bx w.heap.size w4.heap.size w6 sB n tk.line tk.col [.int .i64 k0, .string nm0, .int .u64 v0, .bool mu0, .slice a1 n1 c1, .slice a2 n2 c2, .slice a3 n3 c3, .int .i64 l0, .int .i64 c0] y) 10 rfl (by kernel_rfl) (by kernel_rfl) (by kernel_rfl) (by kernel_rfl) ?h0 ?hs ?hdone
       case h0 => exact HZ8.out _ _ _
       case hs =>
        refine ⟨?_, ?_, ?_, ?_, ?_, ?_, ?_, ?_, ?_, ?_, trivial⟩
        ·intro L V X a ev evo hdf hL hdep hJ
         have o7 := evo 7 rfl
         change a.tmps[7]?.getD undef = .string sB at o7
         go_simp
         exact ⟨_, rfl, { hJ with p0 := fun _ => rfl }⟩
        ·intro L V X a ev evo hdf hL hdep hJ
         have o5 := evo 5 rfl
         change a.tmps[5]?.getD undef = .pointer (some ⟨bx, 0, none⟩) at o5
         have h9 : L 9 = false := by
          cases e : L 9 with
          | false => rfl
          | true => exact absurd (hJ.q9 e).1 (by rw [hL]; decide)
         have hb := hJ.x0 h9
         refine wp_load_mid 29 (.tmp 5) rfl bx 0 (by rw [evalTmp]; exact o5) [.int .i64 k0, .string nm0, .int .u64 v0, .bool mu0, .slice a1 n1 c1, .slice a2 n2 c2, .slice a3 n3 c3, .int .i64 l0, .int .i64 c0] _ (fun jj v hv => by rw [Nat.zero_add]; exact blk_cell hb jj v (by simpa using hv)) Try.underlying29 rfl Try.sizeExpr ?_
         exact ⟨_, rfl, { hJ with p1 := fun _ => rfl, q6 := fun e => absurd (hJ.q6 e).1 (by rw [hL]; decide), q9 := fun e => absurd (show L 9 = true from e) (by rw [h9]; decide) }⟩
        ·intro L V X a ev evo hdf hL hdep hJ
         have o2 := evo 2 rfl
         change a.tmps[2]?.getD undef = .pointer (some ⟨w.heap.size, 0, none⟩) at o2
         have p9 := hJ.bp0
         go_simp
         exact ⟨_, rfl, { hJ with p2 := fun _ => rfl }⟩
        ·intro L V X a ev evo hdf hL hdep hJ
         have o1 := evo 1 rfl
         change a.tmps[1]?.getD undef = .int .i64 (n : Int) at o1
         go_simp
         exact ⟨_, rfl, { hJ with p3 := fun _ => rfl }⟩
        ·intro L V X a ev evo hdf hL hdep hJ
         have e30 := (ev 3 30 rfl (hdep 3 rfl)).trans (hJ.p3 (hdep 3 rfl))
         go_simp
         exact ⟨_, rfl, { hJ with p4 := fun _ => rfl }⟩
        ·intro L V X a ev evo hdf hL hdep hJ
         have e29 := (ev 2 29 rfl (hdep 2 rfl)).trans (hJ.p2 (hdep 2 rfl))
         have e31 := (ev 4 31 rfl (hdep 4 rfl)).trans (hJ.p4 (hdep 4 rfl))
         have hrd := hJ.rd
         rw [hL, if_neg (by decide)] at hrd
         have h6 : L 6 = false := by
          cases e : L 6 with
          | false => rfl
          | true => exact absurd (hJ.q6 e).2 (by rw [hL]; decide)
         have h9 : L 9 = false := by
          cases e : L 9 with
          | false => rfl
          | true => exact absurd (hJ.q9 e).2.1 (by rw [hL]; decide)
         have h8 : L 8 = false := by
          cases e : L 8 with
          | false => rfl
          | true => exact absurd (hJ.q8 e) (by rw [h6]; decide)
         go_simp
         refine (HCAL.out X hrd).mono ?_
         rintro e wq ⟨⟨v, rfl, cs, rfl, hy⟩, hr, hs⟩
         have hzz := hJ.st.size
         refine ⟨_, rfl, { hJ with p5 := fun _ => ⟨cs, rfl, ExP.mono (fun q _ hq => by omega) _ _ hy⟩, p6 := fun e => absurd (show L 6 = true from e) (by rw [h6]; decide), p8 := fun e => absurd (show L 8 = true from e) (by rw [h8]; decide), st := hJ.st.trans (hs.mono (fun _ _ e => .inl e)), rd := hr, x0 := fun e => hs.keep (hJ.x0 e) (by omega), x1 := fun e => absurd (show L 9 = true from e) (by rw [h9]; decide), bp0 := hs.cell hJ.bp0 (fun e => by have e2 : w.heap.size = R.rb := e; omega), bq0 := hs.keep hJ.bq0 (by omega), q6 := fun e => absurd (show L 6 = true from e) (by rw [h6]; decide), q8 := fun e => absurd (show L 8 = true from e) (by rw [h8]; decide), q9 := fun e => absurd (show L 9 = true from e) (by rw [h9]; decide) }⟩
        ·intro L V X a ev evo hdf hL hdep hJ
         have e28 := (ev 1 28 rfl (hdep 1 rfl)).trans (hJ.p1 (hdep 1 rfl))
         obtain ⟨cs, y1, y2⟩ := hJ.p5 (hdep 5 rfl)
         obtain ⟨k5, nm5, v5, mu5, b1, m1, d1, b2, m2, d2, b3, m3, d3, l5, c5, rfl⟩ := y2.parts
         have e32 := (ev 5 32 rfl (hdep 5 rfl)).trans y1
         have hs : Step (fun _ => False) X (X.alloc (.cells #[.int .i64 k0, .string nm0, .int .u64 v0, .bool mu0, .slice a1 n1 c1, .slice a2 n2 c2, .slice a3 n3 c3, .int .i64 l0, .int .i64 c0, .int .i64 k5, .string nm5, .int .u64 v5, .bool mu5, .slice b1 m1 d1, .slice b2 m2 d2, .slice b3 m3 d3, .int .i64 l5, .int .i64 c5] 29)) := (Step.refl _ _).alloc _
         have h8 : L 8 = false := by
          cases e : L 8 with
          | false => rfl
          | true => exact absurd (hJ.q8 e) (by rw [hL]; decide)
         have h9 : L 9 = false := by
          cases e : L 9 with
          | false => rfl
          | true => exact absurd (hJ.q9 e).2.2.1 (by rw [hL]; decide)
         go_simp
         refine ⟨_, rfl, { hJ with p5 := fun e => ⟨_, y1, ExP.step hs (fun _ _ h => h) _ _ y2⟩, p6 := fun _ => ⟨X.heap.size, _, rfl, hJ.st.size, ExP.step hs (fun _ _ h => h) _ _ y2, blk_new _ _⟩, p8 := fun e => absurd (show L 8 = true from e) (by rw [h8]; decide), st := hJ.st.alloc _, rd := hJ.rd.quiet hs, x0 := fun e => hs.keep (hJ.x0 e) (fun h => h), x1 := fun e => absurd (show L 9 = true from e) (by rw [h9]; decide), bp0 := hs.cell hJ.bp0 (fun h => h), bq0 := hs.keep hJ.bq0 (fun h => h), q6 := fun _ => ⟨hdep 1 rfl, hdep 5 rfl⟩, q8 := fun e => absurd (show L 8 = true from e) (by rw [h8]; decide), q9 := fun e => absurd (show L 9 = true from e) (by rw [h9]; decide) }⟩
        ·intro L V X a ev evo hdf hL hdep hJ
         have o6 := evo 6 rfl
         change a.tmps[6]?.getD undef = .pointer (some ⟨w4.heap.size, 0, none⟩) at o6
         have q0 := blk_cell hJ.bq0 0 _ rfl
         have q1 := blk_cell hJ.bq0 1 _ rfl
         go_simp
         have h9 : L 9 = false := by
          cases e : L 9 with
          | false => rfl
          | true => exact absurd (hJ.q9 e).2.2.2.1 (by rw [hL]; decide)
         exact ⟨_, rfl, { hJ with p7 := fun _ => rfl, q9 := fun e => absurd (show L 9 = true from e) (by rw [h9]; decide) }⟩
        ·intro L V X a ev evo hdf hL hdep hJ
         have e27 := (ev 0 27 rfl (hdep 0 rfl)).trans (hJ.p0 (hdep 0 rfl))
         have e34 := (ev 7 34 rfl (hdep 7 rfl)).trans (hJ.p7 (hdep 7 rfl))
         obtain ⟨g, cs, c1, -⟩ := hJ.p6 (hdep 6 rfl)
         have e33 := (ev 6 33 rfl (hdep 6 rfl)).trans c1
         go_simp
         have h9 : L 9 = false := by
          cases e : L 9 with
          | false => rfl
          | true => exact absurd (hJ.q9 e).2.2.2.2 (by rw [hL]; decide)
         exact ⟨_, rfl, { hJ with p8 := fun _ => ⟨g, c1, rfl⟩, q8 := fun _ => hdep 6 rfl, q9 := fun e => absurd (show L 9 = true from e) (by rw [h9]; decide) }⟩
        ·intro L V X a ev evo hdf hL hdep hJ
         have o5 := evo 5 rfl
         change a.tmps[5]?.getD undef = .pointer (some ⟨bx, 0, none⟩) at o5
         obtain ⟨g, g1, g2⟩ := hJ.p8 (hdep 8 rfl)
         have e35 := (ev 8 35 rfl (hdep 8 rfl)).trans g2
         have hb := hJ.x0 hL
         have h6 := hJ.q8 (hdep 8 rfl)
         have hbs := blk_lt hb
         refine wp_store_part 29 (.tmp 5) (.tmp 35) rfl bx 0 29 _ [.int .i64 14, .string sB, .int .u64 0, .bool false, .slice (some ⟨g, 0, none⟩) 2 2, .slice none 0 0, .slice none 0 0, .int .i64 tk.line, .int .i64 tk.col] (by rw [evalTmp]; exact o5) (by rw [evalTmp]; exact e35) hb Try.sizeExpr (Nat.le_of_eq rfl) (XNONE sB tk.line tk.col g) ?_
         intro w9 hb9 hs9
         have hbb : w9.heap[bx]? = some (.cells #[.int .i64 14, .string sB, .int .u64 0, .bool false, .slice (some ⟨g, 0, none⟩) 2 2, .slice none 0 0, .slice none 0 0, .int .i64 tk.line, .int .i64 tk.col] 29 (0, 0)) := hb9
         refine ⟨undef, rfl, { hJ with p5 := fun e => ?_, p6 := fun e => ?_, st := hJ.st.trans (hs9.mono (fun _ _ e => .inr e)), rd := hJ.rd.step hs9 (fun q hq e => by omega), x0 := (fun e => by cases (show true = false from e)), x1 := fun _ => ⟨g, g1, hbb⟩, bp0 := hs9.cell hJ.bp0 (fun e => by have e2 : w.heap.size = bx := e; omega), bq0 := hs9.keep hJ.bq0 (by omega), q9 := fun _ => ⟨(hJ.q6 h6).1, (hJ.q6 h6).2, h6, hdep 7 rfl, hdep 8 rfl⟩ }⟩
         ·obtain ⟨cs, c1, c2⟩ := hJ.p5 e
          exact ⟨cs, c1, ExP.step hs9 (fun q hq e => by omega) _ _ c2⟩
         ·obtain ⟨g', cs, c1, c2, c3, c4⟩ := hJ.p6 e
          exact ⟨g', cs, c1, c2, ExP.step hs9 (fun q hq e => by omega) _ _ c3, hs9.keep c4 (by omega)⟩
       case hdone =>
        intro L V X hall hJ
        obtain ⟨g, c1, c2⟩ := hJ.x1 (hall 9 (by decide))
        obtain ⟨g', cs, d1, d2, d3, d4⟩ := hJ.p6 (hall 6 (by decide))
        rw [c1] at d1
        cases d1
        have hrd := hJ.rd
        rw [hall 5 (by decide), if_pos rfl] at hrd
        have hst := hJ.st
        have HEND : Hid (LvSt R w1 w3 bx d X j2 (exMk 14 sB 0 false [x, y] [] [] tk) [.int .i64 14, .string sB, .int .u64 0, .bool false, .slice (some ⟨g, 0, none⟩) 2 2, .slice none 0 0, .slice none 0 0, .int .i64 tk.line, .int .i64 tk.col]) := by
         refine ⟨hrd, c2, ?_, HST6.out.st.trans hst⟩
         have hex := ExP.step hst (fun q hq e => by have := hq.1.1; have := hq.1.2; omega) _ _ (ExP.mono (P' := fun q => (w1.heap.size ≤ q ∧ q ≠ bx) ∧ q < w6.heap.size) (fun q h7 h8 => ⟨h8, h7⟩) _ _ HST6.out.ex)
         rw [exMk, ExP]
         refine ⟨_, _, _, _, [], rfl, HPOS.out, (fun _ h => nomatch h), ?_, RowP.new d4 (by decide) (by omega), RowP.nil _ _ _, by rw [StsP], RowP.nil _ _ _⟩
         rw [ExsP]
         refine ⟨_, _, rfl, ExP.mono (fun q _ hq => hq.1) _ _ hex, ?_⟩
         exact ExsP.single (ExP.mono (fun q _ hq => by omega) _ _ d3)
        rw [show List.range 10 = [0, 1, 2, 3, 4, 5, 6, 7, 8, 9] from rfl]
        simp only [putF, dstO, List.getElem?_toArray, List.getElem?_cons_zero, List.getElem?_cons_succ, Option.bind_some, Act.put, List.setIfInBounds_toArray, List.set_cons_zero, List.set_cons_succ]
        clear hJ hall
        go_wp2_with fail
        go_meet
        case rel => exact ⟨g, HEND.out⟩
      case rest =>
       obtain ⟨g, hls⟩ := hcut
       obtain ⟨w8, rfl⟩ : ∃ w8 : World, w8 = wc := ⟨_, rfl⟩
       have HST8 := Lib.hid hls
       obtain ⟨b2, hb2⟩ : ∃ b2, ((n : Int) == 2) = b2 := ⟨_, rfl⟩
       have HB2 : Hid ((n == 2) = b2) := (kindN n 2 2 rfl).symm.trans hb2
       clear hls p0
       cases b2 with
       | false =>
        have hn2 : n ≠ 2 := by
         intro e
         have h3 := HB2.out
         rw [e] at h3; cases h3
        have HRF : Hid (r = rowR gn R.l j2 d n (exMk 14 sB 0 false [x, y] [] [] tk)) := by show _ = _; rw [HRN.out, if_neg hn2]
        clear hn2
        go_wp2_with fail
        go_roundg gn
        case rel => exact ⟨by omega, j2, _, _, HRF.out, HST8.out⟩
        case measure => omega
       | true =>
        have hn2 : n = 2 := by simpa using HB2.out
        have HRF : Hid (r = .ok (exMk 14 sB 0 false [x, y] [] [] tk) j2) := by show _ = _; rw [HRN.out, if_pos hn2]
        clear hn2
        have HONE := Lib.hid HST8.out.ex.one
        have HLD : Hid (∀ (jj : Nat) v, [Value.int .i64 14, .string sB, .int .u64 0, .bool false, .slice (some ⟨g, 0, none⟩) 2 2, .slice none 0 0, .slice none 0 0, .int .i64 tk.line, .int .i64 tk.col][jj]? = some v → w8.cell? ⟨bx, 0 + jj, none⟩ = some v) := by
         show ∀ jj v, _
         intro jj v hv
         rw [Nat.zero_add]; exact blk_cell HST8.out.blk jj v (by simpa using hv)
        have HN8 := Lib.hid (HKX.out w8 HST8.out.st).2
        go_wp2_with (first
         | (refine wpList_load_whole rfl 29 (.tmp 5) rfl bx 0 rfl [.int .i64 14, .string sB, .int .u64 0, .bool false, .slice (some ⟨g, 0, none⟩) 2 2, .slice none 0 0, .slice none 0 0, .int .i64 tk.line, .int .i64 tk.col] _ HLD.out Try.underlying29 rfl Try.sizeExpr ?_)
         | (refine wpList_store_part (w := w8) rfl 29 (.tmp 4) (.tmp 38) rfl (w.heap.size + 1) 0 29 _ [.int .i64 14, .string sB, .int .u64 0, .bool false, .slice (some ⟨g, 0, none⟩) 2 2, .slice none 0 0, .slice none 0 0, .int .i64 tk.line, .int .i64 tk.col] rfl rfl HN8.out Try.sizeExpr (Nat.le_of_eq rfl) HONE.out ?_
            intro w9 hb9 hst9))
        have hb9' : w9.heap[w.heap.size + 1]? = some (.cells [Value.int .i64 14, .string sB, .int .u64 0, .bool false, .slice (some ⟨g, 0, none⟩) 2 2, .slice none 0 0, .slice none 0 0, .int .i64 tk.line, .int .i64 tk.col].toArray 29 (0, 0)) := hb9
        refine bodyPost_ret (results_cellB rfl _ (w.heap.size + 1) 29 _ _ rfl hb9' Try.underlying29 rfl Try.sizeExpr) rfl ?_
        rw [HRF.out]
        have hz1 := HS1.out.size
        refine ⟨⟨_, rfl, _, rfl, ExP.mono (fun q _ hq => by have := hq.1; omega) _ _ (ExP.step hst9 (fun q hq e => by have := hq.1; omega) _ _ HST8.out.ex)⟩, HST8.out.rd.step hst9 (fun q hq e => by omega), ?_⟩
        exact (HS03.out.then HST8.out.st (fun q hq e => by omega)).then hst9 (fun q hq e => by omega)
theorem expr_any (f : Nat) (ih : LevelOk f) (R : Rdr) (w : World) (i d : Nat) (hl : LOk R.l) (h : RdAt R w i d) (hd : d ≤ 40) (hno : levelR f R.l i d 0 ≠ .out) :
  Calls Try.prog 10 #[.agg #[.pointer (some ⟨R.rb, 0, none⟩)]] w (PPost R d (ExV w.heap.size) (levelR f R.l i d 0) w) := by
 obtain ⟨w1, hw1⟩ : ∃ w1 : World, w1 = (w.alloc (.cells #[.pointer (some ⟨R.rb, 0, none⟩)] 45)).alloc (.cells #[.int .i64 0, .string ⟨#[]⟩, .int .u64 0, .bool false, .slice none 0 0, .slice none 0 0, .slice none 0 0, .int .i64 0, .int .i64 0] 29) := ⟨_, rfl⟩
 have HS1 : Hid (Step (fun _ => False) w w1) := by show Step _ _ _; rw [hw1]; exact ((Step.refl _ _).alloc _).alloc _
 have HP1 : Hid (w1.heap[w.heap.size]? = some (.cells #[.pointer (some ⟨R.rb, 0, none⟩)] 45 (0, 0))) := by show _ = _; rw [hw1]; exact blk_alloc (blk_new _ _)
 have HN1 : Hid (w1.heap[w.heap.size + 1]? = some (.cells #[.int .i64 0, .string ⟨#[]⟩, .int .u64 0, .bool false, .slice none 0 0, .slice none 0 0, .slice none 0 0, .int .i64 0, .int .i64 0] 29 (0, 0))) := by show _ = _; rw [hw1]; exact blk_new2 _ _ _
 have HW1 := Lib.hid hw1
 have H1 := Lib.hid (h.quiet HS1.out)
 have hn1 := blk_lt HN1.out
 have hrlt := blk_lt h.blk
 have p0 := blk_cell HP1.out 0 _ rfl
 have HC := Lib.hid (ih R w1 i d 0 hl H1.out hd (by omega) hno)
 obtain ⟨r, hr⟩ : ∃ r, r = levelR f R.l i d 0 := ⟨_, rfl⟩
 rw [← hr] at HC hno ⊢
 have HNO := Lib.hid hno
 clear ih hl h hno hr hw1
 go_enter Try.func10, Try.ntmps10
 go_upto_region 1 with fail
 rw [← HW1.out]
 go_wp2_with fail
 have hc2 : Calls Try.prog 15 #[.agg #[.pointer (some ⟨R.rb, 0, none⟩)], .int .i64 0] w1 (PPost R d (ExV w1.heap.size) r w1) := HC.out
 refine hc2.mono ?_
 clear hc2
 rintro e wx hp
 cases r with
 | out => exact absurd rfl HNO.out
 | err c ln col =>
  obtain ⟨rfl, sq⟩ := hp
  exact ⟨rfl, rfl, (HS1.out.mono (fun _ _ h => h.elim)).trans sq⟩
 | ok y jx =>
  obtain ⟨⟨v, rfl, cs, rfl, hy⟩, hrx, hsx⟩ := hp
  have HY := Lib.hid hy
  have HONE := Lib.hid hy.one
  obtain ⟨k0, nm0, v0, mu0, a1, n1, c1, a2, n2, c2, a3, n3, c3, l0, c0, rfl⟩ := hy.parts
  have HRX := Lib.hid hrx
  have HSX := Lib.hid hsx
  have HNX := Lib.hid (hsx.keep HN1.out (by omega))
  clear hy hrx hsx p0
  go_wp2_with (refine wpList_store_part (w := wx) rfl 29 (.tmp 2) (.tmp 4) rfl (w.heap.size + 1) 0 29 _ [.int .i64 k0, .string nm0, .int .u64 v0, .bool mu0, .slice a1 n1 c1, .slice a2 n2 c2, .slice a3 n3 c3, .int .i64 l0, .int .i64 c0] rfl rfl HNX.out Try.sizeExpr (Nat.le_of_eq rfl) HONE.out ?_
               intro w6 hb6 hst6)
  have hb6' : w6.heap[w.heap.size + 1]? = some (.cells [Value.int .i64 k0, .string nm0, .int .u64 v0, .bool mu0, .slice a1 n1 c1, .slice a2 n2 c2, .slice a3 n3 c3, .int .i64 l0, .int .i64 c0].toArray 29 (0, 0)) := hb6
  refine bodyPost_ret (results_cellB rfl _ (w.heap.size + 1) 29 _ _ rfl hb6' Try.underlying29 rfl Try.sizeExpr) rfl ?_
  have hz1 := HS1.out.size
  refine ⟨⟨_, rfl, _, rfl, ExP.mono (fun q _ hq => by omega) _ _ (ExP.step hst6 (fun q hq e => by omega) _ _ HY.out)⟩, HRX.out.step hst6 (fun q hq e => by omega), ?_⟩
  exact ((HS1.out.mono (fun _ _ h => h.elim)).trans HSX.out).then hst6 (fun q hq e => by omega)
theorem one_step (f : Nat) (ih : LevelOk f) : OneOk (f + 1) := by
 intro R w i d hl h hd hno
 have HL := Lib.hid hl
 have HEX : Hid (∀ X j, RdAt R X j d → levelR f R.l j d 0 ≠ .out → Calls Try.prog 10 #[.agg #[.pointer (some ⟨R.rb, 0, none⟩)]] X (PPost R d (ExV X.heap.size) (levelR f R.l j d 0) X)) := fun X j hX hn => expr_any f ih R X j d hl hX hd hn
 obtain ⟨r, hr⟩ : ∃ r, r = oneR (f + 1) R.l i d := ⟨_, rfl⟩
 have HRR : Hid (r = (needR R.l i [40]).bind fun _ j => (levelR f R.l j d 0).bind fun x j => (needR R.l j [41]).bind fun _ j => .ok x j) := by show _ = _; rw [hr, oneR]
 rw [← hr] at hno ⊢
 have HNO := Lib.hid hno
 obtain ⟨w1, hw1⟩ : ∃ w1 : World, w1 = w.alloc (.cells #[.pointer (some ⟨R.rb, 0, none⟩)] 45) := ⟨_, rfl⟩
 have HS1 : Hid (Step (fun _ => False) w w1) := by show Step _ _ _; rw [hw1]; exact (Step.refl _ _).alloc _
 have HP1 : Hid (w1.heap[w.heap.size]? = some (.cells #[.pointer (some ⟨R.rb, 0, none⟩)] 45 (0, 0))) := by show _ = _; rw [hw1]; exact blk_new _ _
 have HW1 := Lib.hid hw1
 have H1 := Lib.hid (h.quiet HS1.out)
 have hn1 := blk_lt HP1.out
 have hrlt := blk_lt h.blk
 have HKP : Hid (∀ X : World, Step (· = R.rb) w1 X → X.cell? ⟨w.heap.size, 0, none⟩ = some (.pointer (some ⟨R.rb, 0, none⟩))) := by
  show ∀ X, _
  intro X hX
  exact blk_cell (hX.keep HP1.out (by omega)) 0 _ rfl
 have p0 := HKP.out w1 (Step.refl _ _)
 clear ih hl h hno hr hw1
 go_enter Try.func73, Try.ntmps73
 go_upto_region 1 with fail
 rw [← HW1.out]
 go_wp2_with fail
 refine (need_any R HL.out w1.heap.size ⟨#[40]⟩ _ i d (H1.out.quiet ((Step.refl _ _).alloc _)) (by decide) (blk_cell (blk_new _ _) 0 _ rfl)).mono ?_
 rintro e w2 hp
 have hp2 : PPost R d UnitV (needR R.l i [40]) _ e w2 := hp
 cases hn : needR R.l i [40] with
 | out => exact (needR_out hn).elim
 | err c ln col =>
  rw [hn] at hp2
  obtain ⟨rfl, s2⟩ := hp2
  refine ⟨rfl, ?_⟩
  rw [HRR.out, hn]
  exact ⟨rfl, (HS1.out.mono (fun _ _ h => h.elim)).trans (((Step.refl (· = R.rb) _).alloc _).trans s2)⟩
 | ok u j =>
  have HN := Lib.hid hn
  rw [hn] at hp2
  obtain ⟨⟨v, rfl, rfl⟩, hr2, s2⟩ := hp2
  have H2 := Lib.hid hr2
  have HS2 : Hid (Step (· = R.rb) w1 w2) := ((Step.refl (· = R.rb) _).alloc _).trans s2
  clear hn hr2 s2 p0 hp
  have p0 := HKP.out w2 HS2.out
  go_wp2_with fail
  cases hx : levelR f R.l j d 0 with
  | out => exact absurd (by rw [HRR.out, HN.out, Res.bind_ok, hx]; rfl) HNO.out
  | err c ln col =>
   have HX := Lib.hid hx
   clear hx
   refine (HEX.out _ j H2.out (by rw [HX.out]; intro h; cases h)).mono ?_
   rintro e wq hp
   rw [HX.out] at hp
   obtain ⟨rfl, sq⟩ := hp
   refine ⟨rfl, ?_⟩
   rw [HRR.out, HN.out, Res.bind_ok, HX.out]
   exact ⟨rfl, ((HS1.out.mono (fun _ _ h => h.elim)).trans HS2.out).trans sq⟩
  | ok x jx =>
   have HX := Lib.hid hx
   clear hx
   refine (HEX.out _ j H2.out (by rw [HX.out]; intro h; cases h)).mono ?_
   rintro e wx hp
   rw [HX.out] at hp
   obtain ⟨⟨v, rfl, cs, rfl, hy⟩, hrx, hsx⟩ := hp
   have HY := Lib.hid hy
   have HONE := Lib.hid hy.one
   obtain ⟨k0, nm0, v0, mu0, a1, n1, c1, a2, n2, c2, a3, n3, c3, l0, c0, rfl⟩ := hy.parts
   have HRX := Lib.hid hrx
   have HSX := Lib.hid (HS2.out.trans hsx)
   obtain ⟨w3, hw3⟩ : ∃ w3 : World, w3 = wx.alloc (.cells #[.int .i64 k0, .string nm0, .int .u64 v0, .bool mu0, .slice a1 n1 c1, .slice a2 n2 c2, .slice a3 n3 c3, .int .i64 l0, .int .i64 c0] 29) := ⟨_, rfl⟩
   have HS3 : Hid (Step (fun _ => False) wx w3) := by show Step _ _ _; rw [hw3]; exact (Step.refl _ _).alloc _
   have HB3 : Hid (w3.heap[wx.heap.size]? = some (.cells #[.int .i64 k0, .string nm0, .int .u64 v0, .bool mu0, .slice a1 n1 c1, .slice a2 n2 c2, .slice a3 n3 c3, .int .i64 l0, .int .i64 c0] 29 (0, 0))) := by show _ = _; rw [hw3]; exact blk_new _ _
   have HW3 := Lib.hid hw3
   have H3 := Lib.hid (HRX.out.quiet HS3.out)
   have HS13 : Hid (Step (· = R.rb) w1 w3) := HSX.out.trans (HS3.out.mono (fun _ _ h => h.elim))
   have hz2 := HS2.out.size
   have hzx := hsx.size
   clear hy hrx hsx hw3 p0
   have p0 := HKP.out w3 HS13.out
   go_upto_region 3 with fail
   rw [← HW3.out]
   go_wp2_with fail
   refine (need_any R HL.out w3.heap.size ⟨#[41]⟩ _ jx d (H3.out.quiet ((Step.refl _ _).alloc _)) (by decide) (blk_cell (blk_new _ _) 0 _ rfl)).mono ?_
   rintro e w4 hp
   have hp2 : PPost R d UnitV (needR R.l jx [41]) _ e w4 := hp
   cases hn : needR R.l jx [41] with
   | out => exact (needR_out hn).elim
   | err c ln col =>
    rw [hn] at hp2
    obtain ⟨rfl, s4⟩ := hp2
    refine ⟨rfl, ?_⟩
    rw [HRR.out, HN.out, Res.bind_ok, HX.out, Res.bind_ok, hn]
    exact ⟨rfl, ((HS1.out.mono (fun _ _ h => h.elim)).trans HS13.out).trans (((Step.refl (· = R.rb) _).alloc _).trans s4)⟩
   | ok u2 j4 =>
    have HN4 := Lib.hid hn
    rw [hn] at hp2
    obtain ⟨⟨v, rfl, rfl⟩, hr4, s4⟩ := hp2
    have H4 := Lib.hid hr4
    have HS34 : Hid (Step (· = R.rb) w3 w4) := ((Step.refl (· = R.rb) _).alloc _).trans s4
    have HB4 := Lib.hid (HS34.out.keep HB3.out (by omega))
    have HLD : Hid (∀ (jj : Nat) v, [Value.int .i64 k0, .string nm0, .int .u64 v0, .bool mu0, .slice a1 n1 c1, .slice a2 n2 c2, .slice a3 n3 c3, .int .i64 l0, .int .i64 c0][jj]? = some v → w4.cell? ⟨wx.heap.size, 0 + jj, none⟩ = some v) := by
     show ∀ jj v, _
     intro jj v hv
     rw [Nat.zero_add]; exact blk_cell HB4.out jj v (by simpa using hv)
    clear hn hr4 s4 p0 hp
    go_wp2_with (refine wpList_load_whole rfl 29 (.tmp 3) rfl wx.heap.size 0 rfl [.int .i64 k0, .string nm0, .int .u64 v0, .bool mu0, .slice a1 n1 c1, .slice a2 n2 c2, .slice a3 n3 c3, .int .i64 l0, .int .i64 c0] _ HLD.out Try.underlying29 rfl Try.sizeExpr ?_)
    go_ret
    rw [HRR.out, HN.out, Res.bind_ok, HX.out, Res.bind_ok, HN4.out]
    have hz1 := HS1.out.size
    have hz34 := HS34.out.size
    have hz3 := blk_lt HB3.out
    have hal : Step (fun _ => False) w4 (w4.alloc (.cells #[.int .i64 k0, .string nm0, .int .u64 v0, .bool mu0, .slice a1 n1 c1, .slice a2 n2 c2, .slice a3 n3 c3, .int .i64 l0, .int .i64 c0] 29)) := (Step.refl _ _).alloc _
    have hx4 : Step (· = R.rb) wx (w4.alloc (.cells #[.int .i64 k0, .string nm0, .int .u64 v0, .bool mu0, .slice a1 n1 c1, .slice a2 n2 c2, .slice a3 n3 c3, .int .i64 l0, .int .i64 c0] 29)) := ((HS3.out.mono (fun _ _ h => h.elim)).trans HS34.out).trans (hal.mono (fun _ _ h => h.elim))
    refine ⟨⟨_, rfl, _, RowP.new (blk_new _ _) (by decide) (by omega), ExsP.single (ExP.mono (fun q _ hq => by omega) _ _ (ExP.step hx4 (fun q hq e => by omega) _ _ HY.out))⟩, H4.out.quiet hal, ?_⟩
    exact (((HS1.out.mono (fun _ _ h => h.elim)).trans HS13.out).trans HS34.out).trans (hal.mono (fun _ _ h => h.elim))
theorem Try.infoExpr : (Try.prog.info? 29).map (fun i => (i.zero, i.size, i.bytes)) = some (some (.agg #[.int .i64 0, .string ⟨#[]⟩, .int .u64 0, .bool false, .slice none 0 0, .slice none 0 0, .slice none 0 0, .int .i64 0, .int .i64 0]), 9, 128) := by kernel_rfl
structure LiSt (R : Rdr) (w1 : World) (d : Nat) (X : World) (i' : Nat) (acc : List Ex) (va : Value) (xs : List Value) : Prop where
 rd : RdAt R X i' d
 ow : X.ownsRow w1.heap.size 29 9 va acc.length xs
 el : ExsP X (fun q => w1.heap.size ≤ q ∧ va.ownBlock ≠ some q) acc xs
 few : acc.length ≤ 8
 st : Step (· = R.rb) w1 X
theorem LiSt.read {R : Rdr} {w1 : World} {d : Nat} {X X' : World} {i' i2 : Nat} {acc : List Ex} {va : Value} {xs : List Value} (h : LiSt R w1 d X i' acc va xs) (hw : R.rb < w1.heap.size) (hr : RdAt R X' i2 d) (hs : Step (· = R.rb) X X') : LiSt R w1 d X' i2 acc va xs :=
 ⟨hr, hs.owns h.ow (fun _ _ h => by omega), ExsP.step hs (fun q hq e => by have := hq.1; omega) _ _ h.el, h.few, h.st.trans hs⟩
theorem LiSt.push {R : Rdr} {w1 : World} {d : Nat} {X X2 X3 : World} {i' i2 : Nat} {acc : List Ex} {va v9 : Value} {xs cs : List Value} {x : Ex} (h : LiSt R w1 d X i' acc va xs) (hw : R.rb < w1.heap.size) (hr : RdAt R X2 i2 d) (hs : Step (· = R.rb) X X2) (hx : ExP X2 (fun q => X.heap.size ≤ q) x cs)
  (hown : X3.ownsRow w1.heap.size 29 9 v9 (acc.length + 1) (xs ++ cs)) (hgrow : X2.grownBy X3 va.ownBlock) (hat : v9.ownBlock = va.ownBlock ∨ v9.ownBlock = some X2.heap.size) (hlt : acc.length < 8) : LiSt R w1 d X3 i2 (acc ++ [x]) v9 (xs ++ cs) := by
 have h2 := h.read hw hr hs
 have h3 : Step (fun q => va.ownBlock = some q) X2 X3 := grown_step hgrow
 have ho : ∀ q, va.ownBlock = some q → w1.heap.size ≤ q ∧ q < X.heap.size := fun q hq => h.ow.lt q hq
 have hlen : (acc ++ [x]).length = acc.length + 1 := by simp
 have hnew : ∀ q, q < X2.heap.size → va.ownBlock ≠ some q → v9.ownBlock ≠ some q := by
  intro q hq hn e
  rcases hat with h7 | h7
  ·exact hn (by rw [← h7]; exact e)
  ·rw [h7] at e
   have e2 : X2.heap.size = q := Option.some.inj e
   omega
 refine ⟨h2.rd.step h3 (fun q hq e => by have := (ho q e).1; omega), by rw [hlen]; exact hown, ExsP.snoc ?_ ?_, by rw [hlen]; omega, h2.st.then h3 (fun q hq e => by have := (ho q e).1; omega)⟩
 ·have h5 := ExsP.mono (P' := fun q => (w1.heap.size ≤ q ∧ va.ownBlock ≠ some q) ∧ q < X2.heap.size) (fun q h7 h8 => ⟨h8, h7⟩) _ _ h2.el
  have h6 := ExsP.step h3 (fun q hq e => hq.1.2 e) _ _ h5
  exact ExsP.mono (fun q _ hq => ⟨hq.1.1, hnew q hq.2 hq.1.2⟩) _ _ h6
 ·have h5 := ExP.mono (P' := fun q => X.heap.size ≤ q ∧ q < X2.heap.size) (fun q h7 h8 => ⟨h8, h7⟩) _ _ hx
  have h6 := ExP.step h3 (fun q hq e => by have := (ho q e).2; omega) _ _ h5
  refine ExP.mono (fun q _ hq => ⟨by have := h.st.size; omega, hnew q hq.2 (fun e => by have := (ho q e).2; omega)⟩) _ _ h6
theorem list_step (f : Nat) (ih : ∀ f', f' < f → LevelOk f') : ListOk f := by
 intro R w i d hl h hd hno
 obtain ⟨f, rfl⟩ : ∃ f', f = f' + 1 := by
  cases f with
  | zero => exact absurd (by rw [listR]) hno
  | succ f => exact ⟨f, rfl⟩
 have HL := Lib.hid hl
 have HEX : Hid (∀ f' X j, f' < f + 1 → RdAt R X j d → levelR f' R.l j d 0 ≠ .out → Calls Try.prog 10 #[.agg #[.pointer (some ⟨R.rb, 0, none⟩)]] X (PPost R d (ExV X.heap.size) (levelR f' R.l j d 0) X)) := fun f' X j hf hX hn => expr_any f' (ih f' hf) R X j d hl hX hd hn
 obtain ⟨r, hr⟩ : ∃ r, r = listR (f + 1) R.l i d := ⟨_, rfl⟩
 have HRR : Hid (r = if isF R.l i [41] then .ok [] (i + 1) else moreR f R.l i d []) := by show _ = _; rw [hr, listR]
 rw [← hr] at hno ⊢
 have HNO := Lib.hid hno
 obtain ⟨w1, hw1⟩ : ∃ w1 : World, w1 = w.alloc (.cells #[.pointer (some ⟨R.rb, 0, none⟩)] 45) := ⟨_, rfl⟩
 have HS1 : Hid (Step (fun _ => False) w w1) := by show Step _ _ _; rw [hw1]; exact (Step.refl _ _).alloc _
 have HP1 : Hid (w1.heap[w.heap.size]? = some (.cells #[.pointer (some ⟨R.rb, 0, none⟩)] 45 (0, 0))) := by show _ = _; rw [hw1]; exact blk_new _ _
 have HW1 := Lib.hid hw1
 have H1 := Lib.hid (h.quiet HS1.out)
 have hn1 := blk_lt HP1.out
 have hrlt := blk_lt h.blk
 have HKP : Hid (∀ X : World, Step (· = R.rb) w1 X → X.cell? ⟨w.heap.size, 0, none⟩ = some (.pointer (some ⟨R.rb, 0, none⟩))) := by
  show ∀ X, _
  intro X hX
  exact blk_cell (hX.keep HP1.out (by omega)) 0 _ rfl
 obtain ⟨i0, hi0, hz0, hz1, hz2⟩ := info_parts Try.infoExpr
 have HI := Lib.hid hi0
 have HZ0 := Lib.hid hz0
 have HZ1 := Lib.hid hz1
 have HZ2 := Lib.hid hz2
 have p0 := HKP.out w1 (Step.refl _ _)
 clear ih hl h hno hr hw1 hi0 hz0 hz1 hz2
 go_enter Try.func56, Try.ntmps56
 go_upto_region 1 with fail
 rw [← HW1.out]
 go_wp2_with fail
 cases hb : isF R.l i [41] with
 | true =>
  have HB := Lib.hid hb
  clear hb
  refine (is_yes R HL.out ⟨#[41]⟩ _ i d H1.out (by decide) HB.out).mono ?_
  rintro e w2 ⟨rfl, hr2, h2⟩
  have HR2 := Lib.hid hr2
  have HS2 := Lib.hid h2
  clear hr2 h2 p0
  go_wp2_with fail
  go_ret
  rw [HRR.out, HB.out, if_pos rfl]
  exact ⟨⟨_, rfl, [], RowP.nil _ _ _, by rw [ExsP]⟩, HR2.out, (HS1.out.mono (fun _ _ h => h.elim)).trans HS2.out⟩
 | false =>
  have HB := Lib.hid hb
  have HRA : Hid (r = moreR f R.l i d []) := by show _ = _; rw [HRR.out, hb, if_neg (by decide)]
  clear hb
  refine (is_no R HL.out ⟨#[41]⟩ _ i d H1.out (by decide) HB.out).mono ?_
  rintro e w2 ⟨rfl, hr2, h2⟩
  have HR2 := Lib.hid hr2
  have HS2 := Lib.hid h2
  clear hr2 h2 p0
  go_wp2_with fail
  go_loopg [3] f (fun gg s3 wr => gg ≤ f ∧ ∃ (i' : Nat) (acc : List Ex) (xs : List Value), r = moreR gg R.l i' d acc ∧ LiSt R w1 d wr i' acc s3 xs)
  case atStart => exact ⟨Nat.le_refl _, i, [], [], HRA.out, HR2.out, World.ownsRow_nil _ _ _ _, by rw [ExsP], by simp, HS2.out⟩
  case round =>
   obtain ⟨hgf, i', acc, xs, hrq, hst⟩ := hrel
   obtain ⟨gn, rfl⟩ : ∃ gn, gk = gn + 1 := by
    cases gk with
    | zero => exact absurd hrq (by rw [moreR]; exact HNO.out)
    | succ gn => exact ⟨gn, rfl⟩
   have HEQ : Hid (r = (roomR acc.length 8 R.l i').bind fun _ i => (levelR gn R.l i d 0).bind fun x j => if isF R.l j [44] then moreR gn R.l (j + 1) d (acc ++ [x]) else (needR R.l j [41]).bind fun _ j => .ok (acc ++ [x]) j) := by show _ = _; rw [hrq, moreR]
   obtain ⟨oa, oc, rfl⟩ := owns_slice hst.ow
   have HST := Lib.hid hst
   have p0 := HKP.out wr hst.st
   have hfew := hst.few
   clear hrq hst
   go_wp2_with fail
   refine (room_any R wr acc.length 8 i' d HST.out.rd).mono ?_
   rintro e w3 hp
   cases hn : roomR acc.length 8 R.l i' with
   | out => exact (roomR_out hn).elim
   | err c ln col =>
    rw [hn] at hp
    obtain ⟨rfl, s3⟩ := hp
    refine ⟨rfl, ?_⟩
    rw [HEQ.out, hn]
    exact ⟨rfl, ((HS1.out.mono (fun _ _ h => h.elim)).trans HST.out.st).trans s3⟩
   | ok u j =>
    have hji : j = i' ∧ acc.length < 8 := by
     unfold roomR at hn
     split at hn
     ·cases hn
     ·cases hn; exact ⟨rfl, by omega⟩
    obtain ⟨rfl, hlt8⟩ := hji
    have HN := Lib.hid hn
    rw [hn] at hp
    obtain ⟨⟨v, rfl, rfl⟩, hr3, s3⟩ := hp
    have HST3 := Lib.hid (HST.out.read (by omega) hr3 s3)
    have HE3 : Hid (r = (levelR gn R.l j d 0).bind fun x j => if isF R.l j [44] then moreR gn R.l (j + 1) d (acc ++ [x]) else (needR R.l j [41]).bind fun _ j => .ok (acc ++ [x]) j) := by show _ = _; rw [HEQ.out, HN.out]; rfl
    clear hn hr3 s3 p0
    have p0 := HKP.out w3 HST3.out.st
    go_wp2_with fail
    cases hx : levelR gn R.l j d 0 with
    | out => exact absurd (by rw [HE3.out, hx]; rfl) HNO.out
    | err c ln col =>
     have HX := Lib.hid hx
     clear hx
     refine (HEX.out gn _ j (by omega) HST3.out.rd (by rw [HX.out]; intro h; cases h)).mono ?_
     rintro e wq hp
     rw [HX.out] at hp
     obtain ⟨rfl, sq⟩ := hp
     refine ⟨rfl, ?_⟩
     rw [HE3.out, HX.out]
     exact ⟨rfl, ((HS1.out.mono (fun _ _ h => h.elim)).trans HST3.out.st).trans sq⟩
    | ok x jx =>
     have HX := Lib.hid hx
     clear hx
     refine (HEX.out gn _ j (by omega) HST3.out.rd (by rw [HX.out]; intro h; cases h)).mono ?_
     rintro e wx hp
     rw [HX.out] at hp
     obtain ⟨⟨v, rfl, cs, rfl, hy⟩, hrx, hsx⟩ := hp
     have HY := Lib.hid hy
     have HONE := Lib.hid hy.one
     obtain ⟨k0, nm0, v0, mu0, a1, n1, c1, a2, n2, c2, a3, n3, c3, l0, c0, rfl⟩ := hy.parts
     have HRX := Lib.hid hrx
     have HSX := Lib.hid hsx
     have HE5 : Hid (r = if isF R.l jx [44] then moreR gn R.l (jx + 1) d (acc ++ [x]) else (needR R.l jx [41]).bind fun _ j => .ok (acc ++ [x]) j) := by show _ = _; rw [HE3.out, HX.out]; rfl
     obtain ⟨w4, hw4⟩ : ∃ w4 : World, w4 = wx.alloc (.cells #[.int .i64 k0, .string nm0, .int .u64 v0, .bool mu0, .slice a1 n1 c1, .slice a2 n2 c2, .slice a3 n3 c3, .int .i64 l0, .int .i64 c0] 29) := ⟨_, rfl⟩
     have HS4 : Hid (Step (fun _ => False) wx w4) := by show Step _ _ _; rw [hw4]; exact (Step.refl _ _).alloc _
     have HS34 : Hid (Step (· = R.rb) w3 w4) := hsx.trans (HS4.out.mono (fun _ _ h => h.elim))
     have HOW4 : Hid ((wx.alloc (.cells #[.int .i64 k0, .string nm0, .int .u64 v0, .bool mu0, .slice a1 n1 c1, .slice a2 n2 c2, .slice a3 n3 c3, .int .i64 l0, .int .i64 c0] 29)).ownsRow w1.heap.size 29 9 (.slice oa acc.length oc) acc.length xs) := by show World.ownsRow _ _ _ _ _ _ _; rw [← hw4]; exact HS34.out.owns HST3.out.ow (fun q hq e => by omega)
     have HROW4 : Hid (Row (wx.alloc (.cells #[.int .i64 k0, .string nm0, .int .u64 v0, .bool mu0, .slice a1 n1 c1, .slice a2 n2 c2, .slice a3 n3 c3, .int .i64 l0, .int .i64 c0] 29)) (wx.heap.size + 1) (.slice (some ⟨wx.heap.size, 0, none⟩) 1 1) 1 [.int .i64 k0, .string nm0, .int .u64 v0, .bool mu0, .slice a1 n1 c1, .slice a2 n2 c2, .slice a3 n3 c3, .int .i64 l0, .int .i64 c0]) := Row.new (blk_new _ _) (by decide)
     have HLE4 : Hid (w1.heap.size ≤ (wx.alloc (.cells #[.int .i64 k0, .string nm0, .int .u64 v0, .bool mu0, .slice a1 n1 c1, .slice a2 n2 c2, .slice a3 n3 c3, .int .i64 l0, .int .i64 c0] 29)).heap.size) := by show _ ≤ _; rw [← hw4]; exact Nat.le_trans HST3.out.st.size HS34.out.size
     have HR4 := Lib.hid (hrx.quiet HS4.out)
     have HY4 : Hid (ExP w4 (fun q => w3.heap.size ≤ q) x [.int .i64 k0, .string nm0, .int .u64 v0, .bool mu0, .slice a1 n1 c1, .slice a2 n2 c2, .slice a3 n3 c3, .int .i64 l0, .int .i64 c0]) := ExP.step HS4.out (fun _ _ h => h) _ _ hy
     have HW4 := Lib.hid hw4
     clear hy hrx hsx p0 hw4
     go_upto_region 6 with (refine wpList_append_row _ rfl (wx.heap.size + 1) (.tmp 12) (.tmp 15) 23 rfl w1.heap.size 29 i0 (.agg #[.int .i64 0, .string ⟨#[]⟩, .int .u64 0, .bool false, .slice none 0 0, .slice none 0 0, .slice none 0 0, .int .i64 0, .int .i64 0]) 9 128 Try.underlying23 HI.out HZ0.out HZ1.out HZ2.out rfl (by decide) _ _ _ (by simp [Act.eval]) HOW4.out _ 1 _ (by simp [Act.eval]) HROW4.out rfl HONE.out (by unfold maxLen; omega) (by omega) HLE4.out ?_
                            intro v9 w9 hown9 hgrow9 hat9)
     rw [← HW4.out] at hgrow9 hat9
     have HST9 := Lib.hid (HST3.out.push (by omega) HR4.out HS34.out HY4.out hown9 hgrow9 hat9 hlt8)
     clear hown9 hgrow9 hat9
     have p0 := HKP.out w9 HST9.out.st
     go_wp2_with fail
     cases hc : isF R.l jx [44] with
     | true =>
      have HC := Lib.hid hc
      clear hc
      refine (is_yes R HL.out ⟨#[44]⟩ _ jx d HST9.out.rd (by decide) HC.out).mono ?_
      rintro e w6 ⟨rfl, hr6, s6⟩
      have HST6 := Lib.hid (HST9.out.read (by omega) hr6 s6)
      have HR6 : Hid (r = moreR gn R.l (jx + 1) d (acc ++ [x])) := by show _ = _; rw [HE5.out, HC.out, if_pos rfl]
      clear hr6 s6 p0
      go_wp2_with fail
      go_roundg gn
      case rel => exact ⟨by omega, jx + 1, acc ++ [x], _, HR6.out, HST6.out⟩
      case measure => omega
     | false =>
      have HC := Lib.hid hc
      clear hc
      refine (is_no R HL.out ⟨#[44]⟩ _ jx d HST9.out.rd (by decide) HC.out).mono ?_
      rintro e w6 ⟨rfl, hr6, s6⟩
      have HST6 := Lib.hid (HST9.out.read (by omega) hr6 s6)
      have HR6 : Hid (r = (needR R.l jx [41]).bind fun _ j => .ok (acc ++ [x]) j) := by show _ = _; rw [HE5.out, HC.out, if_neg (by decide)]
      clear hr6 s6 p0
      have p0 := HKP.out w6 HST6.out.st
      go_wp2_with fail
      refine (need_any R HL.out w6.heap.size ⟨#[41]⟩ _ jx d (HST6.out.rd.quiet ((Step.refl _ _).alloc _)) (by decide) (blk_cell (blk_new _ _) 0 _ rfl)).mono ?_
      rintro e w7 hp
      have hp2 : PPost R d UnitV (needR R.l jx [41]) _ e w7 := hp
      cases hn : needR R.l jx [41] with
      | out => exact (needR_out hn).elim
      | err c ln col =>
       rw [hn] at hp2
       obtain ⟨rfl, s7⟩ := hp2
       refine ⟨rfl, ?_⟩
       rw [HR6.out, hn]
       exact ⟨rfl, ((HS1.out.mono (fun _ _ h => h.elim)).trans HST6.out.st).trans (((Step.refl (· = R.rb) _).alloc _).trans s7)⟩
      | ok u j2 =>
       have HN7 := Lib.hid hn
       rw [hn] at hp2
       obtain ⟨⟨v, rfl, rfl⟩, hr7, s7⟩ := hp2
       have HST7 := Lib.hid (HST6.out.read (by omega) hr7 (((Step.refl (· = R.rb) _).alloc _).trans s7))
       clear hn hr7 s7 p0 hp
       go_wp2_with fail
       go_ret
       rw [HR6.out, HN7.out]
       have hz := HS1.out.size
       refine ⟨⟨_, rfl, _, RowP.of_owns HST7.out.ow (fun q hq => ?_), ExsP.mono (fun q _ hq => by have := hq.1; omega) _ _ HST7.out.el⟩, HST7.out.rd, (HS1.out.mono (fun _ _ h => h.elim)).trans HST7.out.st⟩
       have := (HST7.out.ow.lt q hq).1; omega
theorem Try.sizeStmt : (Try.prog.info? 67).map (·.size) = some 17 := by kernel_rfl
theorem Try.infoStmt : (Try.prog.info? 67).map (fun i => (i.zero, i.size, i.bytes)) = some (some (.agg #[.int .i64 0, .string ⟨#[]⟩, .int .i64 0, .string ⟨#[]⟩, .string ⟨#[]⟩, .bool false, .slice none 0 0, .slice none 0 0, .int .i64 0, .int .i64 0, .slice none 0 0, .slice none 0 0, .slice none 0 0, .slice none 0 0, .bool false, .int .i64 0, .int .i64 0]), 17, 256) := by kernel_rfl
theorem StEl (a : St) : ElOk (fun w P cs => StP w P a cs) := ⟨fun _ _ _ _ cs hs hP h => StP.step hs hP a cs h, fun _ _ _ cs hp h => StP.mono hp a cs h⟩
def blockB (f : Nat) (l : List Tok) (i d : Nat) : Res (List St) := (needR l i [123]).bind fun _ j => stmtsR f l j d []
theorem blockR_succ (f : Nat) (l : List Tok) (i d : Nat) : blockR (f + 1) l i d = if d = 40 then failR 2 l i else blockB f l i (d + 1) := by
 rw [blockR]; rfl
def StsLeft (n0 bt : Nat) (w' : World) (a : List St) : Prop := ∃ (v : Value) (xs : List Value), w'.heap[bt]? = some (.cells #[v] 25 (0, 0)) ∧ RowP w' (fun k => n0 ≤ k) v a.length xs ∧ StsP w' (fun k => n0 ≤ k) a xs
structure BlSt (R : Rdr) (w : World) (bt d : Nat) (X : World) (i' : Nat) (acc : List St) (va : Value) (xs : List Value) : Prop where
 rd : RdAt R X i' d
 blk : X.heap[bt]? = some (.cells #[va] 25 (0, 0))
 ow : X.ownsRow w.heap.size 67 17 va acc.length xs
 el : StsP X (fun q => w.heap.size ≤ q ∧ va.ownBlock ≠ some q) acc xs
 st : Step (fun q => q = R.rb ∨ q = bt) w X
theorem BlSt.read {R : Rdr} {w : World} {bt d : Nat} {X X' : World} {i' i2 : Nat} {acc : List St} {va : Value} {xs : List Value} (h : BlSt R w bt d X i' acc va xs) (hw : R.rb < w.heap.size) (hb : R.rb ≠ bt) (hr : RdAt R X' i2 d) (hs : Step (· = R.rb) X X') : BlSt R w bt d X' i2 acc va xs :=
 ⟨hr, hs.keep h.blk (fun e => hb e.symm), hs.owns h.ow (fun _ _ h => by omega), StsP.step hs (fun q hq e => by have := hq.1; omega) _ _ h.el, h.st.trans (hs.mono (fun _ _ e => .inl e))⟩
theorem block1_any (R : Rdr) (f : Nat) (ih : ∀ f', f' < f → StmtOk f') (hf : f ≤ 1000000) (bp bt : Nat) (w : World) (i d : Nat) (hl : LOk R.l) (h : RdAt R w i d) (hd : d ≤ 40) (hbp : w.heap[bp]? = some (.cells #[.pointer (some ⟨R.rb, 0, none⟩)] 45 (0, 0)))
  (hbt : w.heap[bt]? = some (.cells #[.slice none 0 0] 25 (0, 0))) (hb1 : R.rb < bp) (hb2 : bp < bt) (hno : blockB f R.l i d ≠ .out) :
  Calls Try.prog 63 #[.pointer (some ⟨bp, 0, none⟩), .pointer (some ⟨bt, 0, none⟩)] w (CloPost R d bt (StsLeft w.heap.size bt) (blockB f R.l i d) w) := by
 have HL := Lib.hid hl
 have H0 := Lib.hid h
 have IH := Lib.hid ih
 obtain ⟨r, hr⟩ : ∃ r, r = blockB f R.l i d := ⟨_, rfl⟩
 have HRR : Hid (r = (needR R.l i [123]).bind fun _ j => stmtsR f R.l j d []) := by show _ = _; rw [hr]; rfl
 rw [← hr] at hno ⊢
 have HNO := Lib.hid hno
 have hbtl := blk_lt hbt
 have HBT := Lib.hid hbt
 have HKP : Hid (∀ X : World, Step (fun q => q = R.rb ∨ q = bt) w X → X.cell? ⟨bp, 0, none⟩ = some (.pointer (some ⟨R.rb, 0, none⟩))) := by
  show ∀ X, _
  intro X hX
  exact blk_cell (hX.keep hbp (by omega)) 0 _ rfl
 obtain ⟨j0, hj0, hy0, hy1, hy2⟩ := info_parts Try.infoStmt
 have HJ := Lib.hid hj0
 have HY0 := Lib.hid hy0
 have HY1 := Lib.hid hy1
 have HY2 := Lib.hid hy2
 have p0 := HKP.out w (Step.refl _ _)
 clear ih hl h hbp hbt hr hno hj0 hy0 hy1 hy2
 go_enter Try.func63, Try.ntmps63
 go_wp2_with fail
 refine (need_any R HL.out w.heap.size ⟨#[123]⟩ _ i d (H0.out.quiet ((Step.refl _ _).alloc _)) (by decide) (blk_cell (blk_new _ _) 0 _ rfl)).mono ?_
 rintro e w2 hp
 have hp2 : PPost R d UnitV (needR R.l i [123]) _ e w2 := hp
 cases hn : needR R.l i [123] with
 | out => exact (needR_out hn).elim
 | err c ln col =>
  rw [hn] at hp2
  obtain ⟨rfl, s2⟩ := hp2
  refine ⟨rfl, CloPost.of_err (c := c) (ln := ln) (col := col) (by rw [HRR.out, hn]; rfl) rfl ?_⟩
  exact (((Step.refl (· = R.rb) _).alloc _).trans s2).mono (fun _ _ e => .inl e)
 | ok u j =>
  have HN := Lib.hid hn
  rw [hn] at hp2
  obtain ⟨⟨v, rfl, rfl⟩, hr2, s2⟩ := hp2
  have HS2 : Hid (Step (· = R.rb) w w2) := ((Step.refl (· = R.rb) _).alloc _).trans s2
  have HR2 := Lib.hid hr2
  have HRA : Hid (r = stmtsR f R.l j d []) := by show _ = _; rw [HRR.out, HN.out]; rfl
  have HBT2 := Lib.hid (HS2.out.keep HBT.out (by omega))
  clear hn hr2 s2 p0 hp
  go_wp2_with fail
  go_loopg [] f (fun gg wr => gg ≤ f ∧ ∃ (i' : Nat) (acc : List St) (va : Value) (xs : List Value), r = stmtsR gg R.l i' d acc ∧ acc.length + gg ≤ f ∧ BlSt R w bt d wr i' acc va xs)
  case atStart => exact ⟨Nat.le_refl _, j, [], .slice none 0 0, [], HRA.out, by simp, HR2.out, HBT2.out, World.ownsRow_nil _ _ _ _, by rw [StsP], HS2.out.mono (fun _ _ e => .inl e)⟩
  case round =>
   obtain ⟨hgf, i', acc, va, xs, hrq, hal, hst⟩ := hrel
   obtain ⟨gn, rfl⟩ : ∃ gn, gk = gn + 1 := by
    cases gk with
    | zero => exact absurd hrq (by rw [stmtsR]; exact HNO.out)
    | succ gn => exact ⟨gn, rfl⟩
   have HEQ : Hid (r = if isF R.l i' [125] then .ok acc (i' + 1) else (stmtR gn R.l i' d).bind fun s j => stmtsR gn R.l j d (acc ++ [s])) := by show _ = _; rw [hrq, stmtsR]
   obtain ⟨oa, oc, rfl⟩ := owns_slice hst.ow
   have HST := Lib.hid hst
   have p0 := HKP.out wr hst.st
   clear hrq hst
   go_wp2_with fail
   cases hb : isF R.l i' [125] with
   | true =>
    have HB := Lib.hid hb
    clear hb
    refine (is_yes R HL.out ⟨#[125]⟩ _ i' d HST.out.rd (by decide) HB.out).mono ?_
    rintro e w3 ⟨rfl, hr3, h3⟩
    have HST3 := Lib.hid (HST.out.read (by omega) (by omega) hr3 h3)
    clear hr3 h3 p0
    go_wp2_with fail
    refine bodyPost_end (results_none rfl _ _ _) rfl ?_
    refine CloPost.of_ok (a := acc) (j := i' + 1) (by rw [HEQ.out, HB.out, if_pos rfl]) rfl ⟨_, xs, HST3.out.blk, RowP.of_owns HST3.out.ow (fun q hq => (HST3.out.ow.lt q hq).1), StsP.mono (fun q _ hq => hq.1) _ _ HST3.out.el⟩ HST3.out.rd HST3.out.st
   | false =>
    have HB := Lib.hid hb
    clear hb
    refine (is_no R HL.out ⟨#[125]⟩ _ i' d HST.out.rd (by decide) HB.out).mono ?_
    rintro e w3 ⟨rfl, hr3, h3⟩
    obtain ⟨w4, rfl⟩ : ∃ w4 : World, w4 = w3 := ⟨_, rfl⟩
    have HST4 := Lib.hid (HST.out.read (by omega) (by omega) hr3 h3)
    have HE4 : Hid (r = (stmtR gn R.l i' d).bind fun s j => stmtsR gn R.l j d (acc ++ [s])) := by show _ = _; rw [HEQ.out, HB.out, if_neg (by decide)]
    clear hr3 h3 p0
    have HPX : Hid (∀ X : World, Step (fun q => q = R.rb ∨ q = bt ∨ (Value.slice oa acc.length oc).ownBlock = some q) w4 X → X.cell? ⟨bp, 0, none⟩ = some (.pointer (some ⟨R.rb, 0, none⟩))) := by
     show ∀ X, _
     intro X hX
     refine hX.cell (HKP.out w4 HST4.out.st) (fun e => ?_)
     have e2 : bp = R.rb ∨ bp = bt ∨ (Value.slice oa acc.length oc).ownBlock = some bp := e
     rcases e2 with e2 | e2 | e2
     ·omega
     ·omega
     ·have := (HST4.out.ow.lt _ e2).1; omega
    have HO : Hid (AppOk R w4 2 4 5 6 7 8 bt w.heap.size 17 acc.length (.slice oa acc.length oc) xs [Value.int .i64 0, .string ⟨#[]⟩, .int .i64 0, .string ⟨#[]⟩, .string ⟨#[]⟩, .bool false, .slice none 0 0, .slice none 0 0, .int .i64 0, .int .i64 0, .slice none 0 0, .slice none 0 0, .slice none 0 0, .slice none 0 0, .bool false, .int .i64 0, .int .i64 0]) :=
     ⟨by decide, by decide, by decide, by decide, by decide, by decide, by decide, by decide, by decide, by omega, hbtl, HST4.out.st.size, fun q hq => HST4.out.ow.lt q hq, HST4.out.el.len, rfl⟩
    have ZONE : Hid (∀ u ∈ [Value.int .i64 0, .string ⟨#[]⟩, .int .i64 0, .string ⟨#[]⟩, .string ⟨#[]⟩, .bool false, .slice none 0 0, .slice none 0 0, .int .i64 0, .int .i64 0, .slice none 0 0, .slice none 0 0, .slice none 0 0, .slice none 0 0, .bool false, .int .i64 0, .int .i64 0], u.oneCell' = true) := by
     show ∀ u ∈ _, _
     intro u hu
     simp at hu
     rcases hu with rfl | rfl | rfl | rfl | rfl | rfl | rfl | rfl | rfl | rfl | rfl | rfl | rfl | rfl | rfl | rfl | rfl <;> rfl
    have hacl : acc.length ≤ 1000000 := by omega
    go_upto_region 2 with fail
    cases hx : stmtR gn R.l i' d with
    | out => exact absurd (by rw [HE4.out, hx]; rfl) HNO.out
    | err c ln col =>
     have HX := Lib.hid hx
     clear hx
     obtain ⟨sx, -⟩ : ∃ sx : St, sx = stMk 0 noB noTy [] [] [] [] false noTok := ⟨_, rfl⟩
     obtain ⟨j2, -⟩ : ∃ j2 : Nat, j2 = 0 := ⟨_, rfl⟩
     have HE : Hid (ElOk (fun w P cs => StP w P sx cs)) := StEl sx
     have HZERO : Hid (∀ V, AppB R i' j2 d w4 2 4 5 6 7 8 bt (fun v => .cells #[v] 25 (0, 0)) w.heap.size 67 17 acc.length (.slice oa acc.length oc) xs [Value.int .i64 0, .string ⟨#[]⟩, .int .i64 0, .string ⟨#[]⟩, .string ⟨#[]⟩, .bool false, .slice none 0 0, .slice none 0 0, .int .i64 0, .int .i64 0, .slice none 0 0, .slice none 0 0, .slice none 0 0, .slice none 0 0, .bool false, .int .i64 0, .int .i64 0] (fun w P cs => StP w P sx cs) [some (.slice oa acc.length oc), some (.agg #[.pointer (some ⟨R.rb, 0, none⟩)]), none, some (.int .i64 (acc.length : Int)), none, none, none, none, none] (fun _ => false) V w4.drew) := fun V => AppB.zero ((Step.refl _ _).drew) HST4.out.rd HST4.out.ow HST4.out.blk
     have HCAL : Hid (∀ X, RdAt R X i' d → Calls Try.prog 64 #[.agg #[.pointer (some ⟨R.rb, 0, none⟩)]] X fun e wq => e = .panicked [{ v := .iface 89 (.agg #[.int .i64 c, .int .i64 ln, .int .i64 col]), recovered := false }] ∧ Step (· = R.rb) X wq) := by
      show ∀ X, _
      intro X hX
      have h9 := IH.out gn (by omega) R X i' d HL.out hX hd (by rw [HX.out]; intro h; cases h)
      rw [HX.out] at h9
      exact h9
     have HPAN : Hid (∀ X wq : World, Step (fun q => q = R.rb ∨ q = bt ∨ (Value.slice oa acc.length oc).ownBlock = some q) w4 X → Step (· = R.rb) X wq → CloPost R d bt (StsLeft w.heap.size bt) r w (.panicked [{ v := .iface 89 (.agg #[.int .i64 c, .int .i64 ln, .int .i64 col]), recovered := false }]) wq) := by
      show ∀ X wq, _
      intro X wq h1 h2
      refine CloPost.of_err (c := c) (ln := ln) (col := col) (by rw [HE4.out, HX.out]; rfl) rfl (HST4.out.st.then (h1.trans (h2.mono (fun _ _ e => .inl e))) (fun q hq e => ?_))
      rcases e with e | e | e
      ·exact .inl e
      ·exact .inr e
      ·have := (HST4.out.ow.lt _ e).1; omega
     refine wp_region_relyD (by kernel_rfl) (fun L V X => AppB R i' j2 d w4 2 4 5 6 7 8 bt (fun v => .cells #[v] 25 (0, 0)) w.heap.size 67 17 acc.length (.slice oa acc.length oc) xs [Value.int .i64 0, .string ⟨#[]⟩, .int .i64 0, .string ⟨#[]⟩, .string ⟨#[]⟩, .bool false, .slice none 0 0, .slice none 0 0, .int .i64 0, .int .i64 0, .slice none 0 0, .slice none 0 0, .slice none 0 0, .slice none 0 0, .bool false, .int .i64 0, .int .i64 0] (fun w P cs => StP w P sx cs) [some (.slice oa acc.length oc), some (.agg #[.pointer (some ⟨R.rb, 0, none⟩)]), none, some (.int .i64 (acc.length : Int)), none, none, none, none, none] L V X ∧ L 2 = false) 9 rfl (by kernel_rfl) (by kernel_rfl) (by kernel_rfl) (by kernel_rfl) ?h0 ?hs ?hdone
     case h0 => exact ⟨HZERO.out _, rfl⟩
     case hs =>
      refine ⟨?_, ?_, ?_, ?_, ?_, ?_, ?_, ?_, ?_, trivial⟩
      ·intro L V X a ev evo hdf hL hdep hJ
       have o1 := evo 1 rfl
       change a.tmps[1]?.getD undef = .pointer (some ⟨bt, 0, none⟩) at o1
       have hZ := (hJ.1.noZ (hJ.1.noA (by decide) hL)).1
       have hb := hJ.1.blk
       rw [hZ, if_neg (by decide)] at hb
       have q0 : X.cell? ⟨bt, 0, none⟩ = some (.slice oa acc.length oc) := blk_cell hb 0 _ rfl
       go_simp
       exact ⟨_, rfl, ⟨hJ.1.up 0 (by decide) (by decide) (by decide) (by decide) (by decide) (by decide) rfl, by rw [updL_ne _ (by decide)]; exact hJ.2⟩⟩
      ·intro L V X a ev evo hdf hL hdep hJ
       have o0 := evo 0 rfl
       change a.tmps[0]?.getD undef = .pointer (some ⟨bp, 0, none⟩) at o0
       have p0 := HPX.out X hJ.1.st
       go_simp
       exact ⟨_, rfl, ⟨hJ.1.up 1 (by decide) (by decide) (by decide) (by decide) (by decide) (by decide) rfl, by rw [updL_ne _ (by decide)]; exact hJ.2⟩⟩
      ·intro L V X a ev evo hdf hL hdep hJ
       have e11 := (ev 1 11 rfl (hdep 1 rfl)).trans (hJ.1.det 1 _ rfl (hdep 1 rfl))
       have hrd := hJ.1.rd
       rw [hL, if_neg (by decide)] at hrd
       go_simp
       refine (HCAL.out X hrd).mono ?_
       rintro e wq ⟨rfl, hs⟩
       exact ⟨hdf, HPAN.out X wq hJ.1.st hs⟩
      ·intro L V X a ev evo hdf hL hdep hJ
       have e10 := (ev 0 10 rfl (hdep 0 rfl)).trans (hJ.1.det 0 _ rfl (hdep 0 rfl))
       go_simp
       exact ⟨_, rfl, ⟨hJ.1.up 3 (by decide) (by decide) (by decide) (by decide) (by decide) (by decide) rfl, by rw [updL_ne _ (by decide)]; exact hJ.2⟩⟩
      ·intro L V X a ev evo hdf hL hdep hJ
       have hu := hJ.1.build HE.out HO.out hL rfl
       go_simp
       exact ⟨_, rfl, ⟨hu, by rw [updL_ne _ (by decide)]; exact hJ.2⟩⟩
      ·intro L V X a ev evo hdf hL hdep hJ
       have e10 := (ev 0 10 rfl (hdep 0 rfl)).trans (hJ.1.det 0 _ rfl (hdep 0 rfl))
       exact absurd hJ.2 (by rw [hdep 2 rfl]; decide)
      ·intro L V X a ev evo hdf hL hdep hJ
       have e13 := (ev 3 13 rfl (hdep 3 rfl)).trans (hJ.1.det 3 _ rfl (hdep 3 rfl))
       exact absurd hJ.2 (by rw [hdep 2 rfl]; decide)
      ·intro L V X a ev evo hdf hL hdep hJ
       exact absurd hJ.2 (by rw [hdep 2 rfl]; decide)
      ·intro L V X a ev evo hdf hL hdep hJ
       have o1 := evo 1 rfl
       change a.tmps[1]?.getD undef = .pointer (some ⟨bt, 0, none⟩) at o1
       exact absurd hJ.2 (by rw [hdep 2 rfl]; decide)
     case hdone =>
      intro L V X hall hJ
      exact absurd hJ.2 (by rw [hall 2 (by decide)]; decide)
    | ok sx j2 =>
     have HX := Lib.hid hx
     clear hx
     have HE : Hid (ElOk (fun w P cs => StP w P sx cs)) := StEl sx
     have HZERO : Hid (∀ V, AppB R i' j2 d w4 2 4 5 6 7 8 bt (fun v => .cells #[v] 25 (0, 0)) w.heap.size 67 17 acc.length (.slice oa acc.length oc) xs [Value.int .i64 0, .string ⟨#[]⟩, .int .i64 0, .string ⟨#[]⟩, .string ⟨#[]⟩, .bool false, .slice none 0 0, .slice none 0 0, .int .i64 0, .int .i64 0, .slice none 0 0, .slice none 0 0, .slice none 0 0, .slice none 0 0, .bool false, .int .i64 0, .int .i64 0] (fun w P cs => StP w P sx cs) [some (.slice oa acc.length oc), some (.agg #[.pointer (some ⟨R.rb, 0, none⟩)]), none, some (.int .i64 (acc.length : Int)), none, none, none, none, none] (fun _ => false) V w4.drew) := fun V => AppB.zero ((Step.refl _ _).drew) HST4.out.rd HST4.out.ow HST4.out.blk
     have HCAL : Hid (∀ X, RdAt R X i' d → Calls Try.prog 64 #[.agg #[.pointer (some ⟨R.rb, 0, none⟩)]] X fun e wq => (∃ v, e = .returned v ∧ ∃ cs : List Value, v = .agg cs.toArray ∧ StP wq (fun q => X.heap.size ≤ q) sx cs) ∧ RdAt R wq j2 d ∧ Step (· = R.rb) X wq) := by
      show ∀ X, _
      intro X hX
      have h9 := IH.out gn (by omega) R X i' d HL.out hX hd (by rw [HX.out]; intro h; cases h)
      rw [HX.out] at h9
      exact h9
     have HR8 : Hid (r = stmtsR gn R.l j2 d (acc ++ [sx])) := by show _ = _; rw [HE4.out, HX.out]; rfl
     have HEND : Hid (∀ (g9 c9 : Nat) (cs9 : List Value) (X : World), RdAt R X j2 d → X.heap[bt]? = some (.cells #[.slice (some ⟨g9, 0, none⟩) (acc.length + 1) c9] 25 (0, 0)) → X.ownsRow w.heap.size 67 17 (.slice (some ⟨g9, 0, none⟩) (acc.length + 1) c9) (acc.length + 1) (xs ++ cs9) → StP X (fun q => w4.heap.size ≤ q ∧ q ≠ g9) sx cs9 → ((Value.slice oa acc.length oc).ownBlock = some g9 ∨ w4.heap.size ≤ g9) → Step (fun q => q = R.rb ∨ q = bt ∨ (Value.slice oa acc.length oc).ownBlock = some q) w4 X →
       ∃ (va2 : Value) (xs2 : List Value), BlSt R w bt d X j2 (acc ++ [sx]) va2 xs2) := by
      show ∀ g9 c9 cs9 X, _
      intro g9 c9 cs9 X h1 h2 h3 h4 h5 h6
      have hlen : (acc ++ [sx]).length = acc.length + 1 := by simp
      refine ⟨.slice (some ⟨g9, 0, none⟩) (acc.length + 1) c9, xs ++ cs9, h1, h2, by rw [hlen]; exact h3, StsP.snoc ?_ ?_, HST4.out.st.then h6 (fun q hq e => ?_)⟩
      ·refine StsP.mono ?_ _ _ (StsP.step h6 ?_ _ _ (StsP.mono (P' := fun q => (w.heap.size ≤ q ∧ (Value.slice oa acc.length oc).ownBlock ≠ some q) ∧ q < w4.heap.size) (fun q h7 h8 => ⟨h8, h7⟩) _ _ HST4.out.el))
       ·intro q _ hq
        refine ⟨hq.1.1, fun e => ?_⟩
        have e2 : g9 = q := Option.some.inj e
        rcases h5 with h5 | h5
        ·exact hq.1.2 (by rw [← e2]; exact h5)
        ·have := hq.2; omega
       ·intro q hq e
        rcases e with e | e | e
        ·have := hq.1.1; omega
        ·have := hq.1.1; omega
        ·exact hq.1.2 e
      ·exact StP.mono (fun q _ hq => ⟨Nat.le_trans HST4.out.st.size hq.1, fun e => hq.2 (Option.some.inj e).symm⟩) _ _ h4
      ·rcases e with e | e | e
       ·exact .inl e
       ·exact .inr e
       ·have := (HST4.out.ow.lt _ e).1; omega
     refine wp_region_relyD (by kernel_rfl) (AppB R i' j2 d w4 2 4 5 6 7 8 bt (fun v => .cells #[v] 25 (0, 0)) w.heap.size 67 17 acc.length (.slice oa acc.length oc) xs [Value.int .i64 0, .string ⟨#[]⟩, .int .i64 0, .string ⟨#[]⟩, .string ⟨#[]⟩, .bool false, .slice none 0 0, .slice none 0 0, .int .i64 0, .int .i64 0, .slice none 0 0, .slice none 0 0, .slice none 0 0, .slice none 0 0, .bool false, .int .i64 0, .int .i64 0] (fun w P cs => StP w P sx cs) [some (.slice oa acc.length oc), some (.agg #[.pointer (some ⟨R.rb, 0, none⟩)]), none, some (.int .i64 (acc.length : Int)), none, none, none, none, none]) 9 rfl (by kernel_rfl) (by kernel_rfl) (by kernel_rfl) (by kernel_rfl) ?h0 ?hs ?hdone
     case h0 => exact HZERO.out _
     case hs =>
      refine ⟨?_, ?_, ?_, ?_, ?_, ?_, ?_, ?_, ?_, trivial⟩
      ·intro L V X a ev evo hdf hL hdep hJ
       have o1 := evo 1 rfl
       change a.tmps[1]?.getD undef = .pointer (some ⟨bt, 0, none⟩) at o1
       have hZ := (hJ.noZ (hJ.noA (by decide) hL)).1
       have hb := hJ.blk
       rw [hZ, if_neg (by decide)] at hb
       have q0 : X.cell? ⟨bt, 0, none⟩ = some (.slice oa acc.length oc) := blk_cell hb 0 _ rfl
       go_simp
       exact ⟨_, rfl, hJ.up 0 (by decide) (by decide) (by decide) (by decide) (by decide) (by decide) rfl⟩
      ·intro L V X a ev evo hdf hL hdep hJ
       have o0 := evo 0 rfl
       change a.tmps[0]?.getD undef = .pointer (some ⟨bp, 0, none⟩) at o0
       have p0 := HPX.out X hJ.st
       go_simp
       exact ⟨_, rfl, hJ.up 1 (by decide) (by decide) (by decide) (by decide) (by decide) (by decide) rfl⟩
      ·intro L V X a ev evo hdf hL hdep hJ
       have e11 := (ev 1 11 rfl (hdep 1 rfl)).trans (hJ.det 1 _ rfl (hdep 1 rfl))
       have hrd := hJ.rd
       rw [hL, if_neg (by decide)] at hrd
       go_simp
       refine (HCAL.out X hrd).mono ?_
       rintro e wq ⟨⟨v, rfl, cs, rfl, hty⟩, hr, hs⟩
       exact ⟨_, rfl, hJ.call HE.out HO.out hL rfl hs hr hty⟩
      ·intro L V X a ev evo hdf hL hdep hJ
       have e10 := (ev 0 10 rfl (hdep 0 rfl)).trans (hJ.det 0 _ rfl (hdep 0 rfl))
       go_simp
       exact ⟨_, rfl, hJ.up 3 (by decide) (by decide) (by decide) (by decide) (by decide) (by decide) rfl⟩
      ·intro L V X a ev evo hdf hL hdep hJ
       have hu := hJ.build HE.out HO.out hL rfl
       go_simp
       exact ⟨_, rfl, hu⟩
      ·intro L V X a ev evo hdf hL hdep hJ
       have e10 := (ev 0 10 rfl (hdep 0 rfl)).trans (hJ.det 0 _ rfl (hdep 0 rfl))
       have e14 := ev 4 14 rfl (hdep 4 rfl)
       obtain ⟨zb, z1, z2, z3⟩ := hJ.bl (hdep 4 rfl) hL
       have hall : ∀ i, i < 5 → L i = true := by
        intro i hi
        rcases (show i = 0 ∨ i = 1 ∨ i = 2 ∨ i = 3 ∨ i = 4 by omega) with rfl | rfl | rfl | rfl | rfl
        ·exact hdep 0 rfl
        ·exact hdep 1 rfl
        ·exact hdep 2 rfl
        ·exact hdep 3 rfl
        ·exact hdep 4 rfl
       refine wp_append_row _ X.heap.size (.tmp 10) (.tmp 14) 25 rfl w.heap.size 67 j0 (.agg #[.int .i64 0, .string ⟨#[]⟩, .int .i64 0, .string ⟨#[]⟩, .string ⟨#[]⟩, .bool false, .slice none 0 0, .slice none 0 0, .int .i64 0, .int .i64 0, .slice none 0 0, .slice none 0 0, .slice none 0 0, .slice none 0 0, .bool false, .int .i64 0, .int .i64 0]) 17 256 Try.underlying25 HJ.out HY0.out HY1.out HY2.out rfl (by decide) _ _ _ (by rw [evalTmp]; exact e10) (hJ.old hL) (V 4) 1 _ (by rw [evalTmp]; exact e14) (by rw [z1]; exact (Row.new z3 (by decide)).mono (blk_lt z3)) rfl ZONE.out (by unfold maxLen; omega) (by omega) (Nat.le_trans HO.out.bw hJ.st.size) ?_
       intro v8 w8 hown8 hgrow8 hat8
       exact ⟨v8, rfl, hJ.app HE.out HO.out hL hall rfl hown8 hgrow8 hat8⟩
      ·intro L V X a ev evo hdf hL hdep hJ
       have e13 := (ev 3 13 rfl (hdep 3 rfl)).trans (hJ.det 3 _ rfl (hdep 3 rfl))
       have e15 := ev 5 15 rfl (hdep 5 rfl)
       obtain ⟨g, c, hV, -⟩ := hJ.new (hdep 5 rfl)
       rw [hV] at e15
       have hi0 : (0 : Int) ≤ (acc.length : Int) := by omega
       have hi1 : (acc.length : Int) < ((acc.length + 1 : Nat) : Int) := by omega
       have hi2 : (acc.length : Int) < (acc.length : Int) + 1 := by omega
       have hu := hJ.index HO.out (hdep 5 rfl) rfl hV
       go_simp
       exact ⟨_, rfl, hu⟩
      ·intro L V X a ev evo hdf hL hdep hJ
       have h8 := hdep 5 rfl
       have h9 := hdep 6 rfl
       have h5 := hdep 2 rfl
       obtain ⟨g, c, hV, -, ys, hown, -⟩ := hJ.new h8
       have ep := (ev 6 16 rfl h9).trans ((hJ.ix h9).2 g c hV)
       obtain ⟨cs, c1, c2⟩ := hJ.el h5
       have ec := (ev 2 12 rfl h5).trans c1
       rw [hV] at hown
       obtain ⟨g', c', cur, hg', -, hcur, hsz⟩ := owns_cells hown (by omega)
       cases hg'
       have hcl : cs.length = 17 := StP.len c2
       refine wp_store_part 67 (.tmp 16) (.tmp 12) rfl g (acc.length * 17) 67 cur cs (by rw [evalTmp]; exact ep) (by rw [evalTmp]; exact ec) hcur (by rw [hcl]; exact Try.sizeStmt) (by omega) (StP.one c2) ?_
       intro w6 hb6 hs6
       exact ⟨undef, rfl, hJ.put HE.out HO.out h8 (fun u hu => by cases hu) hV c1 hcl hcur hb6 hs6⟩
      ·intro L V X a ev evo hdf hL hdep hJ
       have o1 := evo 1 rfl
       change a.tmps[1]?.getD undef = .pointer (some ⟨bt, 0, none⟩) at o1
       have h8 := hdep 5 rfl
       have ev8 := ev 5 15 rfl h8
       obtain ⟨g, c, hV, -⟩ := hJ.new h8
       rw [hV] at ev8
       have hb := hJ.blk
       rw [hL, if_neg (by decide)] at hb
       have q5 := blk_cell hb 0 _ rfl
       have z5 := blk_free hb 0
       have hu := hJ.last (X' := X.setCell ⟨bt, 0, none⟩ (.slice (some ⟨g, 0, none⟩) (acc.length + 1) c)) HE.out HO.out h8 (fun u hu => by cases hu) (by rw [hV]; exact blk_set hb 0 _) ((Step.refl _ _).setCell _ _ (fun _ => rfl))
       go_simp
       exact ⟨undef, hu⟩
     case hdone =>
      intro L V X hall hJ
      obtain ⟨g9, c9, cs9, hrd9, hbl9, hown9, hel9, hgg9, hst9, hgb9⟩ := hJ.done ⟨hall 2 (by decide), hall 5 (by decide), hall 7 (by decide), hall 8 (by decide)⟩
      rw [show List.range 9 = [0, 1, 2, 3, 4, 5, 6, 7, 8] from rfl]
      simp only [putF, dstO, List.getElem?_toArray, List.getElem?_cons_zero, List.getElem?_cons_succ, Option.bind_some, Act.put, List.setIfInBounds_toArray, List.set_cons_zero, List.set_cons_succ]
      clear hJ hall
      obtain ⟨va2, xs2, hls⟩ := HEND.out g9 c9 cs9 X hrd9 hbl9 hown9 hel9 hgg9 hst9
      have HST8 := Lib.hid hls
      clear hls hrd9 hbl9 hown9 hel9 hgg9 hst9
      have hlen : (acc ++ [sx]).length = acc.length + 1 := by simp
      have hal2 : (acc ++ [sx]).length + gn ≤ f := by omega
      go_wp2_with fail
      go_roundg gn
      case rel => exact ⟨by omega, j2, acc ++ [sx], va2, xs2, HR8.out, hal2, HST8.out⟩
      case measure => omega
theorem enters_block1 : Enters 63 := fun xs w => by go_simp
theorem block_step (f : Nat) (ih : ∀ f', f' < f → StmtOk f') (hf : f ≤ 1000000) : BlockOk (f + 1) := by
 intro R w i d hl h hd hno
 have hmf : ∀ (fn : Fn) (first cap : Array Value) (w : World), (Instr.makeFunc fn first cap).run Try.prog w = .ok (.func fn first cap) w := fun _ _ _ _ => rfl
 have HL := Lib.hid hl
 have H0 := Lib.hid h
 have HNO := Lib.hid hno
 obtain ⟨r, hr⟩ : ∃ r, r = blockR (f + 1) R.l i d := ⟨_, rfl⟩
 have HRR := Lib.hid hr
 rw [← hr]
 have hrlt := blk_lt h.blk
 obtain ⟨w3, hw3⟩ : ∃ w3 : World, w3 = (w.alloc (.cells #[.pointer (some ⟨R.rb, 0, none⟩)] 45)).alloc (.cells #[.slice none 0 0] 25) := ⟨_, rfl⟩
 have HS3 : Hid (Step (fun _ => False) w w3) := by show Step _ _ _; rw [hw3]; exact ((Step.refl _ _).alloc _).alloc _
 have HP3 : Hid (w3.heap[w.heap.size]? = some (.cells #[.pointer (some ⟨R.rb, 0, none⟩)] 45 (0, 0))) := by show _ = _; rw [hw3]; exact blk_alloc (blk_new _ _)
 have HB3 : Hid (w3.heap[w.heap.size + 1]? = some (.cells #[.slice none 0 0] 25 (0, 0))) := by show _ = _; rw [hw3]; exact blk_new2 _ _ _
 have HW3 := Lib.hid hw3
 have H3 := Lib.hid (h.quiet HS3.out)
 have hlt3 := blk_lt HB3.out
 have p0 : w3.cell? ⟨w.heap.size, 0, none⟩ = some (.pointer (some ⟨R.rb, 0, none⟩)) := blk_cell HP3.out 0 _ rfl
 obtain ⟨t, ht⟩ : ∃ t, t = tokA R.l i := ⟨_, rfl⟩
 have HT := Lib.hid ht
 obtain ⟨bt, hbt⟩ : ∃ bt, bt = w.heap.size + 1 := ⟨_, rfl⟩
 have HBTE := Lib.hid hbt
 have hbt0 : w.heap.size < bt := by omega
 have hbt1 : bt < w3.heap.size := by omega
 rw [← hbt] at HB3
 have HIH := Lib.hid ih
 clear ih hl h hno hr hw3 ht hbt
 go_enter Try.func46, Try.ntmps46
 go_upto_region 2 with fail
 rw [← HW3.out, ← HBTE.out]
 go_wp2_with fail
 by_cases h40 : d = 40
 ·refine (deep_limit R _ [.pointer (some ⟨w.heap.size, 0, none⟩), .pointer (some ⟨bt, 0, none⟩)] w3 i d t H3.out (by rw [HT.out]; exact H3.out.tok) h40).mono ?_
  rintro e w4 ⟨rfl, h4⟩
  refine ⟨rfl, ?_⟩
  rw [HRR.out, blockR_succ, if_pos h40, failR, ← HT.out]
  exact ⟨rfl, (HS3.out.trans h4).mono (fun _ _ h => h.elim)⟩
 ·have HRB : Hid (r = blockB f R.l i (d + 1)) := by show _ = _; rw [HRR.out, blockR_succ, if_neg h40]
  have hnb : blockB f R.l i (d + 1) ≠ .out := fun e => HNO.out (by rw [← HRR.out, HRB.out, e])
  have HCLO : Hid (∀ X, RdAt R X i (d + 1) → Step (· = R.rb) w3 X → Calls Try.prog 63 #[.pointer (some ⟨w.heap.size, 0, none⟩), .pointer (some ⟨bt, 0, none⟩)] X (CloPost R (d + 1) bt (StsLeft X.heap.size bt) (blockB f R.l i (d + 1)) X)) := by
   show ∀ X, _
   intro X hX hs
   exact block1_any R f HIH.out hf w.heap.size bt X i (d + 1) HL.out hX (by omega) (hs.keep HP3.out (by omega)) (hs.keep HB3.out (by omega)) (by omega) (by omega) hnb
  have hd40 : d < 40 := by omega
  cases hb : blockB f R.l i (d + 1) with
  | out => exact absurd hb hnb
  | err c ln col =>
   have HB := Lib.hid hb
   clear hb
   refine (deep_err R _ [.pointer (some ⟨w.heap.size, 0, none⟩), .pointer (some ⟨bt, 0, none⟩)] w3 i d (Q := fun X => Step (fun k => k = R.rb ∨ k = bt) w3 X) (hk := enters_block1) (h := H3.out) (hd := hd40) (hby := fun X hX hs => ?_) (es := [{ v := .iface 89 (.agg #[.int .i64 c, .int .i64 ln, .int .i64 col]), recovered := false }])).mono ?_
   ·refine (HCLO.out X hX hs).mono ?_
    intro e X2 hp
    rw [HB.out] at hp
    exact ⟨hp.1, (hs.mono (fun _ _ e => .inl e)).trans hp.2⟩
   ·rintro e w4 ⟨rfl, h4⟩
    refine ⟨rfl, ?_⟩
    rw [HRB.out, HB.out]
    exact ⟨rfl, (HS3.out.mono (fun _ _ h => h.elim)).then h4 (fun q hq e => by omega)⟩
  | ok a j =>
   have HB := Lib.hid hb
   clear hb
   refine (deep_ok R _ [.pointer (some ⟨w.heap.size, 0, none⟩), .pointer (some ⟨bt, 0, none⟩)] w3 i d (fun i' X => i' = j ∧ StsLeft w3.heap.size bt X a ∧ Step (fun k => k = R.rb ∨ k = bt) w3 X) enters_block1 H3.out hd40 (fun X hX hs => ?_)).mono ?_
   ·refine (HCLO.out X hX hs).mono ?_
    intro e X2 hp
    rw [HB.out] at hp
    obtain ⟨he, ⟨v, xs, hc, hrw, hts⟩, hr, hs2⟩ := hp
    have hz := hs.size
    exact ⟨he, j, hr, rfl, ⟨v, xs, hc, hrw.mono (fun k _ hk => by omega), StsP.mono (fun k _ hk => by omega) _ _ hts⟩, (hs.mono (fun _ _ e => .inl e)).trans hs2⟩
   ·rintro e w4 ⟨rfl, i', X, ⟨rfl, ⟨v, xs, hc, hrw, hts⟩, hsx⟩, hr4, hs4⟩
    have hb4 := hs4.keep hc (by omega)
    have hrw4 := hrw.step hs4 (fun k hk e => by omega)
    have hts4 := StsP.step hs4 (fun k hk e => by omega) _ _ hts
    obtain ⟨av, cv, rfl, -⟩ := id hrw4
    have HR4 := Lib.hid hr4
    have HRW := Lib.hid hrw4
    have HTS := Lib.hid hts4
    have HS34 : Hid (Step (fun k => k = R.rb ∨ k = bt) w3 w4) := hsx.trans (hs4.mono (fun _ _ e => .inl e))
    have q0 := blk_cell hb4 0 _ rfl
    clear hc hrw hts hsx hr4 hs4 hb4 hrw4 hts4 p0
    go_wp2_with fail
    go_ret
    rw [HRB.out, HB.out]
    have hz3 := HS3.out.size
    refine ⟨⟨_, rfl, xs, HRW.out.mono (fun k _ hk => by omega), StsP.mono (fun k _ hk => by omega) _ _ HTS.out⟩, HR4.out, ?_⟩
    exact (HS3.out.mono (fun _ _ h => h.elim)).then HS34.out (fun q hq e => by omega)
/- What let leaves in its statement. -/
def LetLeft (n0 bt : Nat) (t : Tok) (w' : World) (a : ByteArray × Ty × List Ex) : Prop := ∃ (ct xe : List Value) (ve : Value), w'.heap[bt]? = some (.cells ([Value.int .i64 1, .string a.1] ++ ct ++ [Value.slice none 0 0, ve, .slice none 0 0, .slice none 0 0, .bool false, .int .i64 t.line, .int .i64 t.col]).toArray 67 (0, 0)) ∧
 a.1.size ≤ 9223372036854775807 ∧ TyP w' (fun k => n0 ≤ k) a.2.1 ct ∧ ExsP w' (fun k => n0 ≤ k) a.2.2 xe ∧ RowP w' (fun k => n0 ≤ k) ve a.2.2.length xe
def LetOk (f : Nat) : Prop := ∀ (R : Rdr) (w : World) (i d bt : Nat) (t : Tok), LOk R.l → RdAt R w i d → d ≤ 40 → R.rb < bt → w.heap[bt]? = some (.cells #[.int .i64 0, .string noB, .int .i64 0, .string noB, .string noB, .bool false, .slice none 0 0, .slice none 0 0, .int .i64 0, .int .i64 0, .slice none 0 0, .slice none 0 0, .slice none 0 0, .slice none 0 0, .bool false, .int .i64 t.line, .int .i64 t.col] 67 (0, 0)) → letR f R.l i d ≠ .out →
 Calls Try.prog 79 #[.agg #[.pointer (some ⟨R.rb, 0, none⟩)], .pointer (some ⟨bt, 0, none⟩)] w (CloPost R d bt (LetLeft w.heap.size bt t) (letR f R.l i d) w)
theorem noTyP (w : World) (P : Nat → Prop) : TyP w P noTy [.int .i64 0, .string noB, .string noB, .bool false, .slice none 0 0, .slice none 0 0, .int .i64 0, .int .i64 0] := by
 rw [noTy, TyP]
 exact ⟨_, _, [], rfl, by decide, by decide, (fun _ h => nomatch h), RowP.nil _ _ _, by rw [TysP], RowP.nil _ _ _⟩
theorem let_step (f : Nat) (ih : LevelOk f) : LetOk (f + 1) := by
 intro R w i d bt t hl h hd hrb hbt hno
 have HL := Lib.hid hl
 have HEX : Hid (∀ X j, RdAt R X j d → levelR f R.l j d 0 ≠ .out → Calls Try.prog 10 #[.agg #[.pointer (some ⟨R.rb, 0, none⟩)]] X (PPost R d (ExV X.heap.size) (levelR f R.l j d 0) X)) := fun X j hX hn => expr_any f ih R X j d hl hX hd hn
 obtain ⟨r, hr⟩ : ∃ r, r = letR (f + 1) R.l i d := ⟨_, rfl⟩
 have HRR : Hid (r = (nameR R.l i).bind fun n j => (if isF R.l j [58] then typR f R.l (j + 1) d else .ok noTy j).bind fun ty j =>
  (if isF R.l j [61] then (levelR f R.l (j + 1) d 0).bind fun x j => .ok [x] j else .ok [] j).bind fun e j => (needR R.l j [59]).bind fun _ j => .ok (n, ty, e) j) := by show _ = _; rw [hr, letR]
 rw [← hr] at hno ⊢
 have HNO := Lib.hid hno
 have hbtl := blk_lt hbt
 obtain ⟨w1, hw1⟩ : ∃ w1 : World, w1 = w.alloc (.cells #[.pointer (some ⟨R.rb, 0, none⟩)] 45) := ⟨_, rfl⟩
 have HS1 : Hid (Step (fun _ => False) w w1) := by show Step _ _ _; rw [hw1]; exact (Step.refl _ _).alloc _
 have HP1 : Hid (w1.heap[w.heap.size]? = some (.cells #[.pointer (some ⟨R.rb, 0, none⟩)] 45 (0, 0))) := by show _ = _; rw [hw1]; exact blk_new _ _
 have HBT1 := Lib.hid (HS1.out.keep hbt (fun h => h))
 have HW1 := Lib.hid hw1
 have H1 := Lib.hid (h.quiet HS1.out)
 have hn1 := blk_lt HP1.out
 have HKP : Hid (∀ X : World, Step (fun q => q = R.rb ∨ q = bt) w1 X → X.cell? ⟨w.heap.size, 0, none⟩ = some (.pointer (some ⟨R.rb, 0, none⟩))) := by
  show ∀ X, _
  intro X hX
  exact blk_cell (hX.keep HP1.out (by omega)) 0 _ rfl
 have p0 := HKP.out w1 (Step.refl _ _)
 clear ih hl h hno hr hw1 hbt
 go_enter Try.func79, Try.ntmps79
 go_upto_region 1 with fail
 rw [← HW1.out]
 go_wp2_with fail
 cases hn : nameR R.l i with
 | out => exact (nameR_out hn).elim
 | err c ln col =>
  have HN := Lib.hid hn
  clear hn
  refine (name_any R HL.out _ i d H1.out).mono ?_
  rintro e wq hp
  rw [HN.out] at hp
  obtain ⟨rfl, sq⟩ := hp
  refine ⟨rfl, CloPost.of_err (c := c) (ln := ln) (col := col) (by rw [HRR.out, HN.out]; rfl) rfl ?_⟩
  exact ((HS1.out.mono (fun _ _ h => h.elim)).trans sq).mono (fun _ _ e => .inl e)
 | ok nm j =>
  have HN := Lib.hid hn
  have HNS := Lib.hid (nameR_size HL.out H1.out.lt hn)
  clear hn
  refine (name_any R HL.out _ i d H1.out).mono ?_
  rintro e w2 hp
  rw [HN.out] at hp
  obtain ⟨⟨v, rfl, rfl⟩, hr2, s2⟩ := hp
  have HR2 := Lib.hid hr2
  have HS2 := Lib.hid s2
  have HBT2 := Lib.hid (s2.keep HBT1.out (by omega))
  have HRA : Hid (r = (if isF R.l j [58] then typR f R.l (j + 1) d else .ok noTy j).bind fun ty j =>
   (if isF R.l j [61] then (levelR f R.l (j + 1) d 0).bind fun x j => .ok [x] j else .ok [] j).bind fun e j => (needR R.l j [59]).bind fun _ j => .ok (nm, ty, e) j) := by show _ = _; rw [HRR.out, HN.out]; rfl
  have bt0 := blk_cell HBT2.out 0 _ rfl
  have bz0 := blk_free HBT2.out 0
  have bt1 := blk_cell HBT2.out 1 _ rfl
  have bz1 := blk_free HBT2.out 1
  obtain ⟨w3, hw3⟩ : ∃ w3 : World, w3 = (w2.setCell ⟨bt, 0, none⟩ (.int .i64 1)).setCell ⟨bt, 1, none⟩ (.string nm) := ⟨_, rfl⟩
  have HS3 : Hid (Step (· = bt) w2 w3) := by show Step _ _ _; rw [hw3]; exact ((Step.refl (· = bt) _).setCell _ _ (fun _ => rfl)).setCell _ _ (fun _ => rfl)
  have HBT3 : Hid (w3.heap[bt]? = some (.cells #[.int .i64 1, .string nm, .int .i64 0, .string noB, .string noB, .bool false, .slice none 0 0, .slice none 0 0, .int .i64 0, .int .i64 0, .slice none 0 0, .slice none 0 0, .slice none 0 0, .slice none 0 0, .bool false, .int .i64 t.line, .int .i64 t.col] 67 (0, 0))) := by show _ = _; rw [hw3]; exact blk_set (blk_set HBT2.out 0 (.int .i64 1)) 1 (.string nm)
  have HS13 : Hid (Step (fun q => q = R.rb ∨ q = bt) w1 w3) := (HS2.out.mono (fun _ _ e => .inl e)).trans (HS3.out.mono (fun _ _ e => .inr e))
  have HR3 := Lib.hid (HR2.out.step HS3.out (fun k hk e => by omega))
  clear hr2 s2 p0
  go_upto_region 2 with fail
  rw [← hw3]
  clear hw3 bt0 bz0 bt1 bz1
  have p0 := HKP.out w3 HS13.out
  obtain ⟨b1, hb1⟩ : ∃ b1, b1 = isF R.l j [58] := ⟨_, rfl⟩
  obtain ⟨j1, hj1⟩ : ∃ j1, j1 = takeI R.l j [58] := ⟨_, rfl⟩
  have HI1 : Hid (Calls Try.prog 36 #[.pointer (some ⟨R.rb, 0, none⟩), .string ⟨#[58]⟩] w3 fun e w' => e = .returned (.bool b1) ∧ RdAt R w' j1 d ∧ Step (· = R.rb) w3 w') := by
   show Calls _ _ _ _ _
   rw [hb1, hj1]; exact is_any R HL.out ⟨#[58]⟩ w3 j d HR3.out (by decide)
  have HB1 := Lib.hid hb1
  have HJ1 := Lib.hid hj1
  clear hb1 hj1
  go_wp2_with fail
  refine HI1.out.mono ?_
  rintro e w4 ⟨rfl, hr4, h4⟩
  have HR4 := Lib.hid hr4
  have HS14 : Hid (Step (fun q => q = R.rb ∨ q = bt) w1 w4) := HS13.out.trans (h4.mono (fun _ _ e => .inl e))
  have HBT4 : Hid (w4.heap[bt]? = some (.cells #[.int .i64 1, .string nm, .int .i64 0, .string noB, .string noB, .bool false, .slice none 0 0, .slice none 0 0, .int .i64 0, .int .i64 0, .slice none 0 0, .slice none 0 0, .slice none 0 0, .slice none 0 0, .bool false, .int .i64 t.line, .int .i64 t.col] 67 (0, 0))) := h4.keep HBT3.out (by omega)
  clear hr4 h4 p0
  have p0 := HKP.out w4 HS14.out
  have hz1 := HS1.out.size
  go_upto_if 15 with fail
  go_cut [] (fun wx => ∃ (ty : Ty) (jt : Nat) (ct : List Value), r = ((if isF R.l jt [61] then (levelR f R.l (jt + 1) d 0).bind fun x j => .ok [x] j else .ok [] jt).bind fun e j => (needR R.l j [59]).bind fun _ j => .ok (nm, ty, e) j) ∧ TyP wx (fun q => w.heap.size ≤ q) ty ct ∧
   wx.heap[bt]? = some (.cells ([Value.int .i64 1, .string nm] ++ ct ++ [Value.slice none 0 0, .slice none 0 0, .slice none 0 0, .slice none 0 0, .bool false, .int .i64 t.line, .int .i64 t.col]).toArray 67 (0, 0)) ∧ RdAt R wx jt d ∧ Step (fun q => q = R.rb ∨ q = bt) w1 wx)
  case first =>
   cases b1 with
   | false =>
    have hj : j1 = j := by rw [HJ1.out, takeI, ← HB1.out, if_neg (by decide)]
    have HRB : Hid (r = ((if isF R.l j1 [61] then (levelR f R.l (j1 + 1) d 0).bind fun x j => .ok [x] j else .ok [] j1).bind fun e j => (needR R.l j [59]).bind fun _ j => .ok (nm, noTy, e) j)) := by show _ = _; rw [HRA.out, ← HB1.out, if_neg (by decide), hj]; rfl
    clear hj
    go_wp2_with fail
    go_meet
    case rel => exact ⟨noTy, j1, _, HRB.out, noTyP _ _, HBT4.out, HR4.out, HS14.out⟩
   | true =>
    have hj : j1 = j + 1 := by rw [HJ1.out, takeI, ← HB1.out, if_pos rfl]
    have HRB : Hid (r = (typR f R.l j1 d).bind fun ty j => (if isF R.l j [61] then (levelR f R.l (j + 1) d 0).bind fun x j => .ok [x] j else .ok [] j).bind fun e j => (needR R.l j [59]).bind fun _ j => .ok (nm, ty, e) j) := by show _ = _; rw [HRA.out, ← HB1.out, if_pos rfl, hj]
    clear hj
    go_wp2_with fail
    cases hx : typR f R.l j1 d with
    | out => exact absurd (by rw [HRB.out, hx]; rfl) HNO.out
    | err c ln col =>
     have HX := Lib.hid hx
     clear hx
     refine ((typ_all f).1 R _ j1 d HL.out HR4.out hd (by rw [HX.out]; intro h; cases h)).mono ?_
     rintro e wq hp
     rw [HX.out] at hp
     obtain ⟨rfl, sq⟩ := hp
     refine ⟨rfl, CloPost.of_err (c := c) (ln := ln) (col := col) (by rw [HRB.out, HX.out]; rfl) rfl ?_⟩
     exact ((HS1.out.mono (fun _ _ h => h.elim)).trans HS14.out).trans (sq.mono (fun _ _ e => .inl e))
    | ok ty jt =>
     have HX := Lib.hid hx
     clear hx
     refine ((typ_all f).1 R _ j1 d HL.out HR4.out hd (by rw [HX.out]; intro h; cases h)).mono ?_
     rintro e wx hp
     rw [HX.out] at hp
     obtain ⟨⟨v, rfl, ct, rfl, hty⟩, hrx, hsx⟩ := hp
     have HTY := Lib.hid hty
     have HONE := Lib.hid hty.one
     obtain ⟨k0, nm0, lf0, mu0, a1, n1, c1, a2, n2, c2, l0, c0, rfl⟩ := hty.parts
     have HRX := Lib.hid hrx
     have HSX := Lib.hid hsx
     have HBTX := Lib.hid (hsx.keep HBT4.out (by omega))
     have HRC : Hid (r = ((if isF R.l jt [61] then (levelR f R.l (jt + 1) d 0).bind fun x j => .ok [x] j else .ok [] jt).bind fun e j => (needR R.l j [59]).bind fun _ j => .ok (nm, ty, e) j)) := by show _ = _; rw [HRB.out, HX.out]; rfl
     have hz4 := HS14.out.size
     clear hty hrx hsx p0
     go_wp2_with (refine wpList_store_part (w := wx) rfl 54 (.tmp 20) (.tmp 18) rfl bt 2 67 _ [.int .i64 k0, .string nm0, .string lf0, .bool mu0, .slice a1 n1 c1, .slice a2 n2 c2, .int .i64 l0, .int .i64 c0] rfl rfl HBTX.out Try.sizeWType (show 2 + 8 ≤ 17 by decide) HONE.out ?_
                  intro w6 hb6 hst6)
     have HB6 := Lib.hid hb6
     have HS6 := Lib.hid hst6
     clear hb6 hst6
     go_meet
     case rel => exact ⟨ty, jt, [.int .i64 k0, .string nm0, .string lf0, .bool mu0, .slice a1 n1 c1, .slice a2 n2 c2, .int .i64 l0, .int .i64 c0], HRC.out, TyP.mono (fun q _ hq => by omega) _ _ (TyP.step HS6.out (fun q hq e => by omega) _ _ HTY.out), HB6.out, HRX.out.step HS6.out (fun k hk e => by omega), (HS14.out.trans (HSX.out.mono (fun _ _ e => .inl e))).trans (HS6.out.mono (fun _ _ e => .inr e))⟩
  case rest =>
   obtain ⟨ty, jt, ct, hr5, hty5, hb5, hrd5, hs5⟩ := hcut
   obtain ⟨w5, rfl⟩ : ∃ w5 : World, w5 = wc := ⟨_, rfl⟩
   obtain ⟨k0, nm0, lf0, mu0, a1, n1, c1, a2, n2, c2, l0, c0, rfl⟩ := hty5.parts
   have HR5 := Lib.hid hr5
   have HTY5 := Lib.hid hty5
   have HBT5 : Hid (w5.heap[bt]? = some (.cells #[.int .i64 1, .string nm, .int .i64 k0, .string nm0, .string lf0, .bool mu0, .slice a1 n1 c1, .slice a2 n2 c2, .int .i64 l0, .int .i64 c0, .slice none 0 0, .slice none 0 0, .slice none 0 0, .slice none 0 0, .bool false, .int .i64 t.line, .int .i64 t.col] 67 (0, 0))) := hb5
   have HRD5 := Lib.hid hrd5
   have HS15 := Lib.hid hs5
   clear hr5 hty5 hb5 hrd5 hs5 p0
   have p0 := HKP.out w5 HS15.out
   obtain ⟨b2, hb2⟩ : ∃ b2, b2 = isF R.l jt [61] := ⟨_, rfl⟩
   obtain ⟨j2, hj2⟩ : ∃ j2, j2 = takeI R.l jt [61] := ⟨_, rfl⟩
   have HI2 : Hid (Calls Try.prog 36 #[.pointer (some ⟨R.rb, 0, none⟩), .string ⟨#[61]⟩] w5 fun e w' => e = .returned (.bool b2) ∧ RdAt R w' j2 d ∧ Step (· = R.rb) w5 w') := by
    show Calls _ _ _ _ _
    rw [hb2, hj2]; exact is_any R HL.out ⟨#[61]⟩ w5 jt d HRD5.out (by decide)
   have HB2 := Lib.hid hb2
   have HJ2 := Lib.hid hj2
   clear hb2 hj2
   go_wp2_with fail
   refine HI2.out.mono ?_
   rintro e w6 ⟨rfl, hr6, h6⟩
   have HR6 := Lib.hid hr6
   have HS16 : Hid (Step (fun q => q = R.rb ∨ q = bt) w1 w6) := HS15.out.trans (h6.mono (fun _ _ e => .inl e))
   have HBT6 : Hid (w6.heap[bt]? = some (.cells #[.int .i64 1, .string nm, .int .i64 k0, .string nm0, .string lf0, .bool mu0, .slice a1 n1 c1, .slice a2 n2 c2, .int .i64 l0, .int .i64 c0, .slice none 0 0, .slice none 0 0, .slice none 0 0, .slice none 0 0, .bool false, .int .i64 t.line, .int .i64 t.col] 67 (0, 0))) := h6.keep HBT5.out (by omega)
   have HTY6 : Hid (TyP w6 (fun q => w.heap.size ≤ q) ty [.int .i64 k0, .string nm0, .string lf0, .bool mu0, .slice a1 n1 c1, .slice a2 n2 c2, .int .i64 l0, .int .i64 c0]) := TyP.step h6 (fun q hq e => by omega) _ _ HTY5.out
   clear hr6 h6 p0
   have p0 := HKP.out w6 HS16.out
   go_upto_if 23 with fail
   go_cut [] (fun wx => ∃ (el : List Ex) (je : Nat) (ae : Option Addr) (ce : Nat) (xe : List Value), r = ((needR R.l je [59]).bind fun _ j => .ok (nm, ty, el) j) ∧ TyP wx (fun q => w.heap.size ≤ q) ty [.int .i64 k0, .string nm0, .string lf0, .bool mu0, .slice a1 n1 c1, .slice a2 n2 c2, .int .i64 l0, .int .i64 c0] ∧ ExsP wx (fun q => w.heap.size ≤ q) el xe ∧ RowP wx (fun q => w.heap.size ≤ q) (.slice ae el.length ce) el.length xe ∧
    wx.heap[bt]? = some (.cells #[.int .i64 1, .string nm, .int .i64 k0, .string nm0, .string lf0, .bool mu0, .slice a1 n1 c1, .slice a2 n2 c2, .int .i64 l0, .int .i64 c0, .slice none 0 0, .slice ae el.length ce, .slice none 0 0, .slice none 0 0, .bool false, .int .i64 t.line, .int .i64 t.col] 67 (0, 0)) ∧ RdAt R wx je d ∧ Step (fun q => q = R.rb ∨ q = bt) w1 wx)
   case first =>
    cases b2 with
    | false =>
     have hj : j2 = jt := by rw [HJ2.out, takeI, ← HB2.out, if_neg (by decide)]
     have HRB : Hid (r = ((needR R.l j2 [59]).bind fun _ j => .ok (nm, ty, []) j)) := by show _ = _; rw [HR5.out, ← HB2.out, if_neg (by decide), hj]; rfl
     clear hj
     go_wp2_with fail
     go_meet
     case rel => exact ⟨[], j2, none, 0, [], HRB.out, HTY6.out, by rw [ExsP], RowP.nil _ _ _, HBT6.out, HR6.out, HS16.out⟩
    | true =>
     have hj : j2 = jt + 1 := by rw [HJ2.out, takeI, ← HB2.out, if_pos rfl]
     have HRB : Hid (r = (levelR f R.l j2 d 0).bind fun x j => (needR R.l j [59]).bind fun _ j => .ok (nm, ty, [x]) j) := by
      show _ = _
      rw [HR5.out, ← HB2.out, if_pos rfl, hj]
      cases levelR f R.l (jt + 1) d 0 <;> rfl
     clear hj
     go_wp2_with fail
     cases hx : levelR f R.l j2 d 0 with
     | out => exact absurd (by rw [HRB.out, hx]; rfl) HNO.out
     | err c ln col =>
      have HX := Lib.hid hx
      clear hx
      refine (HEX.out _ j2 HR6.out (by rw [HX.out]; intro h; cases h)).mono ?_
      rintro e wq hp
      rw [HX.out] at hp
      obtain ⟨rfl, sq⟩ := hp
      refine ⟨rfl, CloPost.of_err (c := c) (ln := ln) (col := col) (by rw [HRB.out, HX.out]; rfl) rfl ?_⟩
      exact ((HS1.out.mono (fun _ _ h => h.elim)).trans HS16.out).trans (sq.mono (fun _ _ e => .inl e))
     | ok x jx =>
      have HX := Lib.hid hx
      clear hx
      refine (HEX.out _ j2 HR6.out (by rw [HX.out]; intro h; cases h)).mono ?_
      rintro e wx hp
      rw [HX.out] at hp
      obtain ⟨⟨v, rfl, cs, rfl, hy⟩, hrx, hsx⟩ := hp
      have HY := Lib.hid hy
      obtain ⟨k5, nm5, v5, mu5, b1, m1, d1, b2, m2, d2, b3, m3, d3, l5, c5, rfl⟩ := hy.parts
      have HRX := Lib.hid hrx
      have HSX := Lib.hid hsx
      have HRC : Hid (r = ((needR R.l jx [59]).bind fun _ j => .ok (nm, ty, [x]) j)) := by show _ = _; rw [HRB.out, HX.out]; rfl
      obtain ⟨w7, hw7⟩ : ∃ w7 : World, w7 = wx.alloc (.cells #[.int .i64 k5, .string nm5, .int .u64 v5, .bool mu5, .slice b1 m1 d1, .slice b2 m2 d2, .slice b3 m3 d3, .int .i64 l5, .int .i64 c5] 29) := ⟨_, rfl⟩
      have HS7 : Hid (Step (fun _ => False) wx w7) := by show Step _ _ _; rw [hw7]; exact (Step.refl _ _).alloc _
      have HK7 : Hid (w7.heap[wx.heap.size]? = some (.cells #[.int .i64 k5, .string nm5, .int .u64 v5, .bool mu5, .slice b1 m1 d1, .slice b2 m2 d2, .slice b3 m3 d3, .int .i64 l5, .int .i64 c5] 29 (0, 0))) := by show _ = _; rw [hw7]; exact blk_new _ _
      have hbt7 := HS7.out.keep (HSX.out.keep HBT6.out (by omega)) (fun h => h)
      have bt11 := blk_cell hbt7 11 _ rfl
      have bz11 := blk_free hbt7 11
      have hz6 := HS16.out.size
      have hzx := HSX.out.size
      obtain ⟨w8, hw8⟩ : ∃ w8 : World, w8 = w7.setCell ⟨bt, 11, none⟩ (.slice (some ⟨wx.heap.size, 0, none⟩) 1 1) := ⟨_, rfl⟩
      have HS8 : Hid (Step (· = bt) w7 w8) := by show Step _ _ _; rw [hw8]; exact (Step.refl _ _).setCell _ _ (fun _ => rfl)
      have HBT8 : Hid (w8.heap[bt]? = some (.cells #[.int .i64 1, .string nm, .int .i64 k0, .string nm0, .string lf0, .bool mu0, .slice a1 n1 c1, .slice a2 n2 c2, .int .i64 l0, .int .i64 c0, .slice none 0 0, .slice (some ⟨wx.heap.size, 0, none⟩) 1 1, .slice none 0 0, .slice none 0 0, .bool false, .int .i64 t.line, .int .i64 t.col] 67 (0, 0))) := by show _ = _; rw [hw8]; exact blk_set hbt7 11 _
      have HK8 := Lib.hid (HS8.out.keep HK7.out (by omega))
      rw [hw7] at bt11 bz11
      clear hbt7 hy hrx hsx p0
      go_wp2_with fail
      rw [← hw7, ← hw8]
      clear bt11 bz11 hw7 hw8
      have hs68 : Step (fun q => q = R.rb ∨ q = bt) wx w8 := (HS7.out.mono (fun _ _ h => h.elim)).trans (HS8.out.mono (fun _ _ e => .inr e))
      have hs66 : Step (fun q => q = R.rb ∨ q = bt) w6 w8 := (HSX.out.mono (fun _ _ e => .inl e)).trans hs68
      go_meet
      case rel => exact ⟨[x], jx, _, 1, [.int .i64 k5, .string nm5, .int .u64 v5, .bool mu5, .slice b1 m1 d1, .slice b2 m2 d2, .slice b3 m3 d3, .int .i64 l5, .int .i64 c5], HRC.out, TyP.step hs66 (fun q hq e => by omega) _ _ HTY6.out, ExsP.single (ExP.mono (fun q _ hq => by omega) _ _ (ExP.step hs68 (fun q hq e => by omega) _ _ HY.out)), RowP.new HK8.out (by simp) (by omega), HBT8.out, (HRX.out.quiet HS7.out).step HS8.out (fun q hq e => by omega), HS16.out.trans hs66⟩
   case rest =>
    obtain ⟨el, je, ae, ce, xe, hr7, hty7, hex7, hrw7, hb7, hrd7, hs7⟩ := hcut
    obtain ⟨w7, rfl⟩ : ∃ w7 : World, w7 = wc := ⟨_, rfl⟩
    have HR7 := Lib.hid hr7
    have HTY7 := Lib.hid hty7
    have HEX7 := Lib.hid hex7
    have HRW7 := Lib.hid hrw7
    have HBT7 := Lib.hid hb7
    have HRD7 := Lib.hid hrd7
    have HS17 := Lib.hid hs7
    clear hr7 hty7 hex7 hrw7 hb7 hrd7 hs7 p0
    have p0 := HKP.out w7 HS17.out
    go_wp2_with fail
    refine (need_any R HL.out w7.heap.size ⟨#[59]⟩ _ je d (HRD7.out.quiet ((Step.refl _ _).alloc _)) (by decide) (blk_cell (blk_new _ _) 0 _ rfl)).mono ?_
    rintro e w8 hp
    have hp2 : PPost R d UnitV (needR R.l je [59]) _ e w8 := hp
    cases hn : needR R.l je [59] with
    | out => exact (needR_out hn).elim
    | err c ln col =>
     rw [hn] at hp2
     obtain ⟨rfl, s8⟩ := hp2
     refine ⟨rfl, CloPost.of_err (c := c) (ln := ln) (col := col) (by rw [HR7.out, hn]; rfl) rfl ?_⟩
     exact ((HS1.out.mono (fun _ _ h => h.elim)).trans HS17.out).trans ((((Step.refl (· = R.rb) _).alloc _).trans s8).mono (fun _ _ e => .inl e))
    | ok u j8 =>
     have HN8 := Lib.hid hn
     rw [hn] at hp2
     obtain ⟨⟨v, rfl, rfl⟩, hr8, s8⟩ := hp2
     have HR8 := Lib.hid hr8
     have HS78 : Hid (Step (· = R.rb) w7 w8) := ((Step.refl (· = R.rb) _).alloc _).trans s8
     clear hn hr8 s8 p0 hp
     go_wp2_with fail
     refine bodyPost_end (results_none rfl _ _ _) rfl ?_
     refine CloPost.of_ok (a := (nm, ty, el)) (j := j8) (by rw [HR7.out, HN8.out]; rfl) rfl ⟨[.int .i64 k0, .string nm0, .string lf0, .bool mu0, .slice a1 n1 c1, .slice a2 n2 c2, .int .i64 l0, .int .i64 c0], xe, _, HS78.out.keep HBT7.out (by omega), HNS.out, TyP.step HS78.out (fun q hq e => by omega) _ _ HTY7.out, ExsP.step HS78.out (fun q hq e => by omega) _ _ HEX7.out, HRW7.out.step HS78.out (fun q hq e => by omega)⟩ HR8.out (((HS1.out.mono (fun _ _ h => h.elim)).trans HS17.out).trans (HS78.out.mono (fun _ _ e => .inl e)))
end Go.Proofs.Ytppekkbaoimpgaa
