/- Bnd, Whe, Par, Hed -/
import Derived.Test.YtppekkbaoimpgaaPkI
set_option maxRecDepth 100000
set_option maxHeartbeats 8000000
namespace Go.Proofs.Ytppekkbaoimpgaa
open Go.RowKit
theorem Try.sizeBound : (Try.prog.info? 110).map (·.size) = some 5 := by kernel_rfl
def BdV (n0 : Nat) (w' : World) (a : Bd) (v : Value) : Prop := ElQ BdP w' (fun k => n0 ≤ k) a v
theorem bound_any (f : Nat) (R : Rdr) (w : World) (i d : Nat) (hl : LOk R.l) (h : RdAt R w i d) (hno : boundR f R.l i ≠ .out) :
  Calls Try.prog 62 #[.agg #[.pointer (some ⟨R.rb, 0, none⟩)]] w (PPost R d (BdV w.heap.size) (boundR f R.l i) w) := by
 have HL := Lib.hid hl
 obtain ⟨r, hr⟩ : ∃ r, r = boundR f R.l i := ⟨_, rfl⟩
 obtain ⟨tk, htk⟩ : ∃ tk, tk = tokA R.l i := ⟨_, rfl⟩
 have HRR : Hid (r = (if (optF R.l i).size = 0 then (nameR R.l (optI R.l i)).bind fun n j => .ok (n, true) j else .ok (optF R.l i, false) (optI R.l i)).bind fun p j => (needR R.l j [58]).bind fun _ j => (traitsR f R.l j p.2 [] []).bind fun q j => .ok ⟨p.1, q.1, q.2, tk.line, tk.col⟩ j) := by show _ = _; rw [hr, boundR, ← htk]
 rw [← hr] at hno ⊢
 have HNO := Lib.hid hno
 have hrlt := blk_lt h.blk
 obtain ⟨w1, hw1⟩ : ∃ w1 : World, w1 = (w.alloc (.cells #[.pointer (some ⟨R.rb, 0, none⟩)] 45)).alloc (.cells #[.string ⟨#[]⟩, .slice none 0 0, .slice none 0 0, .int .i64 0, .int .i64 0] 110) := ⟨_, rfl⟩
 have HS1 : Hid (Step (fun _ => False) w w1) := by show Step _ _ _; rw [hw1]; exact ((Step.refl _ _).alloc _).alloc _
 have HP1 : Hid (w1.heap[w.heap.size]? = some (.cells #[.pointer (some ⟨R.rb, 0, none⟩)] 45 (0, 0))) := by show _ = _; rw [hw1]; exact blk_alloc (blk_new _ _)
 have HN1 : Hid (w1.heap[w.heap.size + 1]? = some (.cells #[.string ⟨#[]⟩, .slice none 0 0, .slice none 0 0, .int .i64 0, .int .i64 0] 110 (0, 0))) := by show _ = _; rw [hw1]; exact blk_new2 _ _ _
 have HW1 := Lib.hid hw1
 have H1 := Lib.hid (h.quiet HS1.out)
 have HT := Lib.hid (show R.l[i]? = some tk by rw [htk]; exact h.tok)
 have HOZ := Lib.hid (optF_size hl h.lt)
 obtain ⟨i0, hi0, hz0, hz1, hz2⟩ := info_parts Try.infoString
 have HI := Lib.hid hi0
 have HZ0 := Lib.hid hz0
 have HZ1 := Lib.hid hz1
 have HZ2 := Lib.hid hz2
 have hn1 := blk_lt HN1.out
 have HKP0 : Hid (∀ X : World, Step (· = R.rb) w1 X → X.cell? ⟨w.heap.size, 0, none⟩ = some (.pointer (some ⟨R.rb, 0, none⟩))) := by
  show ∀ X, _
  intro X hX
  exact blk_cell (hX.keep HP1.out (by omega)) 0 _ rfl
 clear hl h hno hr hw1 hi0 hz0 hz1 hz2 htk
 go_enter Try.func62, Try.ntmps62
 go_upto_region 1 with fail
 rw [← HW1.out]
 obtain ⟨Jx, hJx⟩ : ∃ Jx : (Nat → Bool) → (Nat → Value) → World → Prop, Jx = AJ R i d w1 #[.string ⟨#[]⟩, .slice none 0 0, .slice none 0 0, .int .i64 0, .int .i64 0] (fun s => #[.string s, .slice none 0 0, .slice none 0 0, .int .i64 tk.line, .int .i64 tk.col]) 110 (.ok (optF R.l i) (optI R.l i)) 4 5 6 7 [some (.pointer (some ⟨w.heap.size, 0, none⟩)), some (.pointer (some ⟨R.rb, 0, none⟩)), some (.agg #[.int .i64 tk.line, .int .i64 tk.col]), some (.agg #[.pointer (some ⟨R.rb, 0, none⟩)]), none, none, none, none] := ⟨_, rfl⟩
 have HJX := Lib.hid hJx
 clear hJx
 go_cut [3] (fun s3 wx => ∃ b : Nat, s3 = .pointer (some ⟨b, 0, none⟩) ∧ RdAt R wx (optI R.l i) d ∧ w1.heap.size ≤ b ∧ wx.heap[b]? = some (.cells #[.string (optF R.l i), .slice none 0 0, .slice none 0 0, .int .i64 tk.line, .int .i64 tk.col] 110 (0, 0)) ∧ Step (· = R.rb) w1 wx)
 case first =>
  refine wp_region_relyD (by kernel_rfl) Jx 8 rfl (by kernel_rfl) (by kernel_rfl) (by kernel_rfl) (by kernel_rfl) ?h0 ?hs ?hdone
  case h0 => rw [HJX.out]; exact AJ.zero ((Step.refl _ _).drew) H1.out
  case hs =>
   refine ⟨?_, ?_, ?_, ?_, ?_, ?_, ?_, ?_, trivial⟩
   ·intro L V X a ev evo hdf hL hdep hJ
    rw [HJX.out] at hJ
    have o1 := evo 1 rfl
    change a.tmps[1]?.getD undef = .pointer (some ⟨w.heap.size, 0, none⟩) at o1
    go_simp
    exact ⟨_, rfl, by rw [HJX.out]; exact hJ.up 0 rfl (by decide) (by decide) (by decide) (by decide)⟩
   ·intro L V X a ev evo hdf hL hdep hJ
    rw [HJX.out] at hJ
    have e5 := (ev 0 5 rfl (hdep 0 rfl)).trans (hJ.det 0 _ rfl (hdep 0 rfl))
    have p0 := HKP0.out X hJ.st
    go_simp
    exact ⟨_, rfl, by rw [HJX.out]; exact hJ.up 1 rfl (by decide) (by decide) (by decide) (by decide)⟩
   ·intro L V X a ev evo hdf hL hdep hJ
    rw [HJX.out] at hJ
    have e6 := (ev 1 6 rfl (hdep 1 rfl)).trans (hJ.det 1 _ rfl (hdep 1 rfl))
    have h4 : L 4 = false := by
     cases e : L 4 with
     | false => rfl
     | true => exact absurd (hJ.qc e) (by rw [hL]; decide)
    obtain ⟨i9, y1, y2⟩ := hJ.rd
    rw [h4] at y2
    have y3 : i9 = i := y2
    subst y3
    go_simp
    refine (at_at R X i9 d tk y1 HT.out).mono ?_
    rintro e wq ⟨rfl, hs⟩
    exact ⟨_, rfl, by rw [HJX.out]; exact (hJ.move hs).up 2 rfl (by decide) (by decide) (by decide) (by decide)⟩
   ·intro L V X a ev evo hdf hL hdep hJ
    rw [HJX.out] at hJ
    have o1 := evo 1 rfl
    change a.tmps[1]?.getD undef = .pointer (some ⟨w.heap.size, 0, none⟩) at o1
    have p0 := HKP0.out X hJ.st
    go_simp
    exact ⟨_, rfl, by rw [HJX.out]; exact hJ.up 3 rfl (by decide) (by decide) (by decide) (by decide)⟩
   ·intro L V X a ev evo hdf hL hdep hJ
    rw [HJX.out] at hJ
    have e8 := (ev 3 8 rfl (hdep 3 rfl)).trans (hJ.det 3 _ rfl (hdep 3 rfl))
    obtain ⟨i9, y1, y2⟩ := hJ.rd
    rw [hL] at y2
    have y3 : i9 = i := y2
    subst y3
    go_simp
    refine (opt_post R HL.out X i9 d y1).mono ?_
    rintro e wq ⟨⟨v, rfl, rfl⟩, hr, hs⟩
    exact ⟨_, rfl, by rw [HJX.out]; exact hJ.call (by decide) (by omega) hL (hdep 2 rfl) rfl hs hr rfl⟩
   ·intro L V X a ev evo hdf hL hdep hJ
    rw [HJX.out] at hJ
    have e7 := (ev 2 7 rfl (hdep 2 rfl)).trans (hJ.det 2 _ rfl (hdep 2 rfl))
    obtain ⟨s9, k9, y1, y2⟩ := hJ.vc (hdep 4 rfl)
    have e9 := (ev 4 9 rfl (hdep 4 rfl)).trans y2
    go_simp
    exact ⟨_, rfl, by rw [HJX.out]; exact hJ.build (by decide) (hdep 4 rfl) hL rfl y2⟩
   ·intro L V X a ev evo hdf hL hdep hJ
    rw [HJX.out] at hJ
    go_simp
    exact ⟨_, rfl, by rw [HJX.out]; exact hJ.alloc (by decide) hL rfl⟩
   ·intro L V X a ev evo hdf hL hdep hJ
    rw [HJX.out] at hJ
    obtain ⟨b9, y1, y2, y3, -⟩ := hJ.vl (hdep 6 rfl)
    obtain ⟨s9, k9, y4, y5⟩ := hJ.vb (hdep 5 rfl)
    have e3 := (ev 6 3 rfl (hdep 6 rfl)).trans y1
    have e10 := (ev 5 10 rfl (hdep 5 rfl)).trans y5
    refine wp_store_part 110 (.tmp 3) (.tmp 10) rfl b9 0 110 _ [.string s9, .slice none 0 0, .slice none 0 0, .int .i64 tk.line, .int .i64 tk.col] (by rw [evalTmp]; exact e3) (by rw [evalTmp]; exact e10) (y3 hL) Try.sizeBound (Nat.le_of_eq rfl) (oneCells rfl) ?_
    intro w9 hb9 hs9
    exact ⟨undef, rfl, by rw [HJX.out]; exact hJ.put (by decide) (by omega) (hdep 5 rfl) (hdep 6 rfl) (fun u hu => by cases hu) y4 y1 hs9 hb9 undef⟩
  case hdone =>
   intro L V X hall hJ
   rw [HJX.out] at hJ
   obtain ⟨s9, k9, b9, h1, h2, h3, h4, h5, h6⟩ := hJ.done (hall 4 (by decide)) (hall 6 (by decide)) (hall 7 (by decide))
   cases h1
   have HD3 := Lib.hid h3
   have HD5 := Lib.hid h5
   have HD6 := Lib.hid h6
   rw [show List.range 8 = [0, 1, 2, 3, 4, 5, 6, 7] from rfl]
   simp only [putF, dstO, List.getElem?_toArray, List.getElem?_cons_zero, List.getElem?_cons_succ, Option.bind_some, Act.put, List.setIfInBounds_toArray, List.set_cons_zero, List.set_cons_succ, h2]
   clear hJ hall h2 h3 h5 h6
   go_wp2_with fail
   go_meet
   case rel => exact ⟨b9, rfl, HD3.out, h4, HD5.out, HD6.out⟩
 case rest =>
  obtain ⟨b, rfl, hr1, hb1, hblk, hs1⟩ := hcut
  obtain ⟨v0, rfl⟩ : ∃ v0 : World, v0 = wc := ⟨_, rfl⟩
  have HR1 := Lib.hid hr1
  have HB1 := Lib.hid hblk
  have HS01 := Lib.hid hs1
  have hbv := blk_lt hblk
  have hsz1 := HS1.out.size
  have hrb : R.rb < b := by omega
  clear hr1 hblk hs1
  obtain ⟨on, hon⟩ : ∃ on, on = optF R.l i := ⟨_, rfl⟩
  obtain ⟨oi, hoi⟩ : ∃ oi, oi = optI R.l i := ⟨_, rfl⟩
  rw [← hon] at HB1 HRR HOZ
  rw [← hoi] at HR1 HRR
  obtain ⟨pl, hpl⟩ : ∃ pl, pl = (on.size == 0) := ⟨_, rfl⟩
  have HPL := Lib.hid hpl
  clear hon hoi hpl
  go_upto_region 2 with fail
  go_cut [4] (fun s4 wx => s4 = .bool pl ∧ v0 = wx)
  case first =>
   have q0 := blk_cell HB1.out 0 _ rfl
   by_cases hz : on.size = 0
   ·have hpl : pl = true := by rw [HPL.out, hz]; rfl
    have hon : on = ⟨#[]⟩ := by
     obtain ⟨a⟩ := on
     have h2 : a.size = 0 := hz
     rw [Array.eq_empty_of_size_eq_zero h2]
    rw [hon] at q0
    go_wp2_with fail
    go_meet
    case rel => exact ⟨by rw [hpl], rfl⟩
   ·have hpl : pl = false := by rw [HPL.out]; simpa using hz
    have he := toList_ne on (by omega)
    have he' := isEmpty_no on (by omega)
    go_wp2_with fail
    go_meet
    case rel => exact ⟨by rw [hpl], rfl⟩
  case rest =>
   obtain ⟨rfl, hwx⟩ := hcut
   subst hwx
   go_upto_if 14 with fail
   go_cut [] (fun wx => ∃ (nm : ByteArray) (jn : Nat), r = ((needR R.l jn [58]).bind fun _ j => (traitsR f R.l j pl [] []).bind fun q j => .ok ⟨nm, q.1, q.2, tk.line, tk.col⟩ j) ∧ nm.size ≤ 9223372036854775807 ∧ RdAt R wx jn d ∧ wx.heap[b]? = some (.cells #[.string nm, .slice none 0 0, .slice none 0 0, .int .i64 tk.line, .int .i64 tk.col] 110 (0, 0)) ∧ Step (fun q => q = R.rb ∨ q = b) v0 wx)
   case first =>
    cases pl with
    | false =>
     have hz : ¬ on.size = 0 := by simpa using HPL.out.symm
     have HRA : Hid (r = ((needR R.l oi [58]).bind fun _ j => (traitsR f R.l j false [] []).bind fun q j => .ok ⟨on, q.1, q.2, tk.line, tk.col⟩ j)) := by show _ = _; rw [HRR.out, if_neg hz]; rfl
     go_wp2_with fail
     go_meet
     case rel => exact ⟨on, oi, HRA.out, HOZ.out, HR1.out, HB1.out, Step.refl _ _⟩
    | true =>
     have hz : on.size = 0 := by simpa using HPL.out.symm
     have HRA : Hid (r = ((nameR R.l oi).bind fun n j => .ok (n, true) j).bind fun p j => (needR R.l j [58]).bind fun _ j => (traitsR f R.l j p.2 [] []).bind fun q j => .ok ⟨p.1, q.1, q.2, tk.line, tk.col⟩ j) := by show _ = _; rw [HRR.out, if_pos hz]
     have p0 := HKP0.out v0 HS01.out
     go_wp2_with fail
     refine (name_any R HL.out _ oi d HR1.out).mono ?_
     rintro e w7 hp
     have hp2 : PPost R d StrV (nameR R.l oi) _ e w7 := hp
     cases hn : nameR R.l oi with
     | out => exact (nameR_out hn).elim
     | err c ln col =>
      rw [hn] at hp2
      obtain ⟨rfl, hs⟩ := hp2
      exact ⟨rfl, PPost.of_err (c := c) (ln := ln) (col := col) (by rw [HRA.out, hn]; rfl) rfl (((HS1.out.mono (fun _ _ h => h.elim)).trans HS01.out).trans hs)⟩
     | ok nm j =>
      have HN := Lib.hid hn
      have HNS := Lib.hid (nameR_size HL.out HR1.out.lt hn)
      rw [hn] at hp2
      obtain ⟨⟨v, rfl, rfl⟩, hr, hs⟩ := hp2
      have HR7 := Lib.hid hr
      have HS7 := Lib.hid hs
      have HB7 := Lib.hid (hs.keep HB1.out (by omega))
      have HRB : Hid (r = ((needR R.l j [58]).bind fun _ j => (traitsR f R.l j true [] []).bind fun q j => .ok ⟨nm, q.1, q.2, tk.line, tk.col⟩ j)) := by show _ = _; rw [HRA.out, HN.out]; rfl
      clear hn hr hs hp p0
      have bt0 := blk_cell HB7.out 0 _ rfl
      have bz0 := blk_free HB7.out 0
      have HS8 : Hid (Step (· = b) w7 (w7.setCell ⟨b, 0, none⟩ (.string nm))) := (Step.refl (· = b) _).setCell _ _ (fun _ => rfl)
      have HB8 : Hid ((w7.setCell ⟨b, 0, none⟩ (.string nm)).heap[b]? = some (.cells #[.string nm, .slice none 0 0, .slice none 0 0, .int .i64 tk.line, .int .i64 tk.col] 110 (0, 0))) := blk_set HB7.out 0 (.string nm)
      go_wp2_with fail
      go_meet
      case rel => exact ⟨nm, j, HRB.out, HNS.out, HR7.out.step HS8.out (fun q hq e => by omega), HB8.out, (HS7.out.mono (fun _ _ e => .inl e)).trans (HS8.out.mono (fun _ _ e => .inr e))⟩
   case rest =>
    obtain ⟨nm, jn, hrn, hnz, hr2, hblk2, hs2⟩ := hcut
    obtain ⟨v1, rfl⟩ : ∃ v1 : World, v1 = wc := ⟨_, rfl⟩
    have HRN := Lib.hid hrn
    have HNZ := Lib.hid hnz
    have HS12 := Lib.hid hs2
    have hbw : b < v1.heap.size := blk_lt hblk2
    have hszv := hs2.size
    have HST1 : Hid (N2 9 (fun va vb => .cells #[.string nm, va, vb, .int .i64 tk.line, .int .i64 tk.col] 110 (0, 0)) R v1 b d v1 jn [] [] (.slice none 0 0) (.slice none 0 0)) := ⟨hr2, hblk2, World.ownsRow_nil _ _ _ _, World.ownsRow_nil _ _ _ _, (fun _ h => nomatch h), (fun _ h => nomatch h), (fun _ h => nomatch h), by simp, Step.refl _ _⟩
    clear hrn hnz hr2 hblk2 hs2
    have HBV : Hid (∀ X : World, Step (fun q => q = R.rb ∨ q = b) v1 X → Step (· = R.rb) w1 X) := by
     show ∀ X, _
     intro X hX
     exact (HS01.out.then HS12.out (fun q hq e => by omega)).then hX (fun q hq e => by omega)
    have HBK : Hid (∀ X : World, Step (fun q => q = R.rb ∨ q = b) v1 X → Step (· = R.rb) w X) := by
     show ∀ X, _
     intro X hX
     exact (HS1.out.mono (fun _ _ h => h.elim)).trans (HBV.out X hX)
    have HKP : Hid (∀ X : World, Step (fun q => q = R.rb ∨ q = b) v1 X → X.cell? ⟨w.heap.size, 0, none⟩ = some (.pointer (some ⟨R.rb, 0, none⟩))) := by
     show ∀ X, _
     intro X hX
     exact HKP0.out X (HBV.out X hX)
    have HKN : Hid (∀ X : World, Step (fun q => q = R.rb ∨ q = b) v1 X → X.heap[w.heap.size + 1]? = some (.cells #[.string ⟨#[]⟩, .slice none 0 0, .slice none 0 0, .int .i64 0, .int .i64 0] 110 (0, 0))) := by
     show ∀ X, _
     intro X hX
     exact (HBV.out X hX).keep HN1.out (by omega)
    have p0 := HKP.out v1 (Step.refl _ _)
    go_wp2_with fail
    refine (need_any R HL.out v1.heap.size ⟨#[58]⟩ _ jn d (HST1.out.rd.quiet ((Step.refl _ _).alloc _)) (by decide) (blk_cell (blk_new _ _) 0 _ rfl)).mono ?_
    rintro e w2 hp
    have hp2 : PPost R d UnitV (needR R.l jn [58]) _ e w2 := hp
    cases hn : needR R.l jn [58] with
    | out => exact (needR_out hn).elim
    | err c ln col =>
     rw [hn] at hp2
     obtain ⟨rfl, sb⟩ := hp2
     exact ⟨rfl, PPost.of_err (c := c) (ln := ln) (col := col) (by rw [HRN.out, hn]; rfl) rfl (HBK.out _ (HST1.out.err (((Step.refl (· = R.rb) _).alloc _).trans sb)))⟩
    | ok u2 jy =>
     have HNB := Lib.hid hn
     rw [hn] at hp2
     obtain ⟨⟨v, rfl, rfl⟩, hrb2, sb⟩ := hp2
     have HST2 := Lib.hid (HST1.out.read hrb (by omega) hrb2 (((Step.refl (· = R.rb) _).alloc _).trans sb))
     have HRE : Hid (r = ((traitsR f R.l jy pl [] []).bind fun q j => .ok ⟨nm, q.1, q.2, tk.line, tk.col⟩ j)) := by show _ = _; rw [HRN.out, HNB.out]; rfl
     clear hn hrb2 sb p0 hp
     go_wp2_with fail
     go_loopg [] f (fun gg wr => gg ≤ f ∧ ∃ (i' : Nat) (ts ls : List ByteArray) (vt vl : Value), r = ((traitsR gg R.l i' pl ts ls).bind fun q j => .ok ⟨nm, q.1, q.2, tk.line, tk.col⟩ j) ∧ N2 9 (fun va vb => .cells #[.string nm, va, vb, .int .i64 tk.line, .int .i64 tk.col] 110 (0, 0)) R v1 b d wr i' ts ls vt vl)
     case atStart => exact ⟨Nat.le_refl _, jy, [], [], _, _, HRE.out, HST2.out⟩
     case round =>
      obtain ⟨hgf, i', ts, ls, vt, vl, hrq, hst⟩ := hrel
      obtain ⟨gn, rfl⟩ : ∃ gn, gk = gn + 1 := by
       cases gk with
       | zero => exact absurd hrq (by rw [traitsR]; exact HNO.out)
       | succ gn => exact ⟨gn, rfl⟩
      have HEQ : Hid (r = ((roomR (ls.length + ts.length) 8 R.l i').bind fun _ i => (if pl = true ∧ ls.length = 0 ∧ (tokA R.l i).kind ≠ 2 then (nameR R.l i).bind fun x j => .ok (ts ++ [x], ls) j else (lifeR R.l i).bind fun x j => .ok (ts, ls ++ [x]) j).bind fun q j => if isF R.l j [43] then traitsR gn R.l (j + 1) pl q.1 q.2 else .ok q j).bind fun q j => .ok ⟨nm, q.1, q.2, tk.line, tk.col⟩ j) := by show _ = _; rw [hrq, traitsR]
      obtain ⟨oa, oc, rfl⟩ := owns_slice hst.oa
      obtain ⟨pa, pc, rfl⟩ := owns_slice hst.ob
      have HST := Lib.hid hst
      have p0 := HKP.out wr hst.st
      have q1 := blk_cell hst.blk 1 _ rfl
      have q2 := blk_cell hst.blk 2 _ rfl
      have hfew := hst.few
      have R1 : IntKind.i64.wrap ((ls.length : Int) + (ts.length : Int)) = ((ls.length + ts.length : Nat) : Int) := by rw [show ((ls.length : Int) + (ts.length : Int)) = ((ls.length + ts.length : Nat) : Int) by omega]; exact IntWalk.i64_in _ (by omega)
      clear hrq hst
      go_wp2_with fail
      clear R1
      refine (room_any R wr (ls.length + ts.length) 8 i' d HST.out.rd).mono ?_
      rintro e w3 hp
      cases hn : roomR (ls.length + ts.length) 8 R.l i' with
      | out => exact (roomR_out hn).elim
      | err c ln col =>
       rw [hn] at hp
       obtain ⟨rfl, s3⟩ := hp
       exact ⟨rfl, PPost.of_err (c := c) (ln := ln) (col := col) (by rw [HEQ.out, hn]; rfl) rfl (HBK.out _ (HST.out.err s3))⟩
      | ok u j =>
       have hji : j = i' ∧ ls.length + ts.length < 8 := by
        unfold roomR at hn
        split at hn
        ·cases hn
        ·cases hn; exact ⟨rfl, by omega⟩
       obtain ⟨rfl, hlt8⟩ := hji
       have HN := Lib.hid hn
       rw [hn] at hp
       obtain ⟨⟨v, rfl, rfl⟩, hr3, s3⟩ := hp
       have HST3 := Lib.hid (HST.out.read hrb (by omega) hr3 s3)
       obtain ⟨tj, htj⟩ : ∃ tj, tj = tokA R.l j := ⟨_, rfl⟩
       have HE3 : Hid (r = ((if pl = true ∧ ls.length = 0 ∧ tj.kind ≠ 2 then (nameR R.l j).bind fun x j => .ok (ts ++ [x], ls) j else (lifeR R.l j).bind fun x j => .ok (ts, ls ++ [x]) j).bind fun q j => if isF R.l j [43] then traitsR gn R.l (j + 1) pl q.1 q.2 else .ok q j).bind fun q j => .ok ⟨nm, q.1, q.2, tk.line, tk.col⟩ j) := by show _ = _; rw [HEQ.out, HN.out, htj]; rfl
       clear hn hr3 s3 p0 q1 q2
       have HTK : Hid (R.l[j]? = some tj) := by show _ = _; rw [htj]; exact HST3.out.rd.tok
       obtain ⟨cb, hcb⟩ : ∃ cb, cb = (pl && ls.length == 0 && tj.kind != 2) := ⟨_, rfl⟩
       have HCB := Lib.hid hcb
       have hfd0 : ∀ (a0 a1 a2 a3 a4 : Value) (w : World), (Instr.field 73 (.agg #[a0, a1, a2, a3, a4]) 0).run Try.prog w = .ok a0 w := fun _ _ _ _ _ _ => by kernel_rfl
       clear htj hcb
       go_upto_region 7 with fail
       go_cut [45] (fun s45 wx => s45 = .bool cb ∧ Step (fun _ => False) w3 wx)
       case first =>
        have p0 := HKP.out w3 HST3.out.st
        have q2 := blk_cell HST3.out.blk 2 _ rfl
        obtain ⟨b0, hb0⟩ : ∃ b0, ((ls.length : Int) == 0) = b0 := ⟨_, rfl⟩
        have HB0 : Hid ((ls.length == 0) = b0) := (kindN ls.length 0 0 rfl).symm.trans hb0
        cases pl with
        | false =>
         have HC2 : Hid (cb = false) := by show _ = _; rw [HCB.out]; rfl
         go_wp2_with fail
         go_meet
         case rel => exact ⟨by rw [HC2.out], Step.refl _ _⟩
        | true =>
         cases b0 with
         | false =>
          have HC2 : Hid (cb = false) := by show _ = _; rw [HCB.out, HB0.out]; rfl
          go_wp2_with fail
          go_meet
          case rel => exact ⟨by rw [HC2.out], Step.refl _ _⟩
         | true =>
          obtain ⟨b2, hb2⟩ : ∃ b2, ((tj.kind : Int) != 2) = b2 := ⟨_, rfl⟩
          have HC2 : Hid (cb = b2) := by
           show _ = _
           rw [HCB.out, HB0.out, ← hb2, bne, bne, kindN tj.kind 2 2 rfl]; rfl
          go_wp2_with fail
          refine (peek_at R _ j d tj HST3.out.rd HTK.out).mono ?_
          rintro e w4 ⟨rfl, h4⟩
          have HS4 := Lib.hid h4
          clear h4 p0
          go_wp2_with fail
          go_meet
          case rel => exact ⟨by rw [HC2.out], HS4.out⟩
       case rest =>
        obtain ⟨rfl, hs4⟩ := hcut
        obtain ⟨w6, rfl⟩ : ∃ w6 : World, w6 = wc := ⟨_, rfl⟩
        have HN6 := Lib.hid (HST3.out.quiet hs4)
        clear hs4
        go_upto_if 45 with fail
        go_cut [] (fun wx => ∃ (jn : Nat) (la lb : List ByteArray) (va vb : Value), r = ((if isF R.l jn [43] then traitsR gn R.l (jn + 1) pl la lb else .ok (la, lb) jn).bind fun q j => .ok ⟨nm, q.1, q.2, tk.line, tk.col⟩ j) ∧ N2 9 (fun va vb => .cells #[.string nm, va, vb, .int .i64 tk.line, .int .i64 tk.col] 110 (0, 0)) R v1 b d wx jn la lb va vb)
        case first =>
         cases cb with
         | true =>
          have hc : pl = true ∧ ls.length = 0 ∧ tj.kind ≠ 2 := by
           have h9 := HCB.out.symm
           simp at h9
           exact ⟨h9.1.1, by rw [h9.1.2]; rfl, h9.2⟩
          have HE6 : Hid (r = (((nameR R.l j).bind fun x j => .ok (ts ++ [x], ls) j).bind fun q j => if isF R.l j [43] then traitsR gn R.l (j + 1) pl q.1 q.2 else .ok q j).bind fun q j => .ok ⟨nm, q.1, q.2, tk.line, tk.col⟩ j) := by show _ = _; rw [HE3.out, if_pos hc]
          clear hc
          have p0 := HKP.out w6 HN6.out.st
          go_upto_region 8 with fail
          obtain ⟨r1, hr1⟩ : ∃ r1, r1 = nameR R.l j := ⟨_, rfl⟩
          have HR1 := Lib.hid hr1
          have HRN : Hid (r1 ≠ .out) := by show _ ≠ _; rw [hr1]; exact fun e => nameR_out e
          have HRE : Hid (r = ((r1.bind fun x j => .ok (ts ++ [x], ls) j).bind fun q j => if isF R.l j [43] then traitsR gn R.l (j + 1) pl q.1 q.2 else .ok q j).bind fun q j => .ok ⟨nm, q.1, q.2, tk.line, tk.col⟩ j) := by show _ = _; rw [HE6.out, hr1]
          have HOK : Hid (NOk R b w6 v1.heap.size (.slice oa ts.length oc) 1 4 5 6 8) := ⟨by decide, by decide, hrb, hbw, HN6.out.st.size, fun q hq => HN6.out.oa.lt q hq⟩
          have HPX : Hid (∀ X : World, Step (fun q => q = R.rb ∨ q = b ∨ (Value.slice oa ts.length oc).ownBlock = some q) w6 X → X.cell? ⟨w.heap.size, 0, none⟩ = some (.pointer (some ⟨R.rb, 0, none⟩))) := by
           show ∀ X, _
           intro X hX
           refine hX.cell (HKP.out w6 HN6.out.st) (fun e => ?_)
           have e2 : w.heap.size = R.rb ∨ w.heap.size = b ∨ (Value.slice oa ts.length oc).ownBlock = some w.heap.size := e
           rcases e2 with e2 | e2 | e2
           ·omega
           ·omega
           ·have := (HOK.out.own _ e2).1; omega
          obtain ⟨Jx, hJx⟩ : ∃ Jx : (Nat → Bool) → (Nat → Value) → World → Prop, Jx = NJ R j d b w6 (fun v => .cells #[.string nm, v, .slice pa ls.length pc, .int .i64 tk.line, .int .i64 tk.col] 110 (0, 0)) v1.heap.size 9 (.slice oa ts.length oc) ts.length (ts.map .string) r1 1 4 5 6 8 [some (.pointer (some ⟨b, 1, none⟩)), some (.slice oa ts.length oc), some (.pointer (some ⟨w.heap.size, 0, none⟩)), some (.pointer (some ⟨R.rb, 0, none⟩)), none, none, none, some (.pointer (some ⟨b, 1, none⟩)), none] := ⟨_, rfl⟩
          have HJX := Lib.hid hJx
          have HZ0J : Hid (∀ V, Jx (fun _ => false) V w6.drew) := by
           show ∀ V, _
           intro V
           rw [hJx]
           exact NJ.zero ((Step.refl _ _).drew) HN6.out.rd HN6.out.oa HN6.out.blk
          have HWB : Hid (∀ X : World, Step (fun q => q = R.rb ∨ q = b ∨ (Value.slice oa ts.length oc).ownBlock = some q) w6 X → Step (fun q => q = R.rb ∨ q = b) v1 X) := by
           show ∀ X, _
           intro X hX
           refine HN6.out.st.then hX (fun q hq e => ?_)
           rcases e with e | e | e
           ·exact .inl e
           ·exact .inr e
           ·have := (HOK.out.own _ e).1; omega
          clear hr1 hJx p0
          refine wp_region_relyD (by kernel_rfl) Jx 9 rfl (by kernel_rfl) (by kernel_rfl) (by kernel_rfl) (by kernel_rfl) ?h0 ?hs ?hdone
          case h0 => exact HZ0J.out _
          case hs =>
           refine ⟨?_, ?_, ?_, ?_, ?_, ?_, ?_, ?_, ?_, trivial⟩
           ·intro L V X a ev evo hdf hL hdep hJ
            rw [HJX.out] at hJ
            have o3 := evo 3 rfl
            change a.tmps[3]?.getD undef = .pointer (some ⟨b, 0, none⟩) at o3
            go_simp
            exact ⟨_, rfl, by rw [HJX.out]; exact hJ.up 0 rfl (by decide) (by decide) (by decide) (by decide)⟩
           ·intro L V X a ev evo hdf hL hdep hJ
            rw [HJX.out] at hJ
            have e46 := (ev 0 46 rfl (hdep 0 rfl)).trans (hJ.det 0 _ rfl (hdep 0 rfl))
            have hA : L 6 = false := by
             cases e : L 6 with
             | false => rfl
             | true => rw [hJ.ql e] at hL; cases hL
            have hb := hJ.blk
            rw [hJ.noZ hA] at hb
            have q1 : X.cell? ⟨b, 1, none⟩ = some (.slice oa ts.length oc) := blk_cell hb 1 _ rfl
            go_simp
            exact ⟨_, rfl, by rw [HJX.out]; exact hJ.up 1 rfl (by decide) (by decide) (by decide) (by decide)⟩
           ·intro L V X a ev evo hdf hL hdep hJ
            rw [HJX.out] at hJ
            have o1 := evo 1 rfl
            change a.tmps[1]?.getD undef = .pointer (some ⟨w.heap.size, 0, none⟩) at o1
            go_simp
            exact ⟨_, rfl, by rw [HJX.out]; exact hJ.up 2 rfl (by decide) (by decide) (by decide) (by decide)⟩
           ·intro L V X a ev evo hdf hL hdep hJ
            rw [HJX.out] at hJ
            have e48 := (ev 2 48 rfl (hdep 2 rfl)).trans (hJ.det 2 _ rfl (hdep 2 rfl))
            have p0 := HPX.out X hJ.st
            go_simp
            exact ⟨_, rfl, by rw [HJX.out]; exact hJ.up 3 rfl (by decide) (by decide) (by decide) (by decide)⟩
           ·intro L V X a ev evo hdf hL hdep hJ
            rw [HJX.out] at hJ
            have e49 := (ev 3 49 rfl (hdep 3 rfl)).trans (hJ.det 3 _ rfl (hdep 3 rfl))
            obtain ⟨i9, y1, y2⟩ := hJ.rd
            rw [hL] at y2
            have y3 : i9 = j := y2
            subst y3
            go_simp
            refine (name_any R HL.out X i9 d y1).mono ?_
            intro e wq hp
            rw [← HR1.out] at hp
            cases hx : r1 with
            | out => exact absurd hx HRN.out
            | err cc ln col =>
             rw [hx] at hp
             obtain ⟨rfl, hs⟩ := hp
             exact ⟨hdf, PPost.of_err (c := cc) (ln := ln) (col := col) (by rw [HRE.out, hx]; rfl) rfl (HBK.out _ ((HWB.out X hJ.st).trans (hs.mono (fun _ _ e => .inl e))))⟩
            | ok s9 k9 =>
             have hx0 := hx
             rw [hx] at hp
             obtain ⟨⟨v, rfl, rfl⟩, hr, hs⟩ := hp
             exact ⟨_, rfl, by rw [HJX.out]; exact hJ.call HOK.out hL rfl hs hr hx0⟩
           ·intro L V X a ev evo hdf hL hdep hJ
            rw [HJX.out] at hJ
            obtain ⟨s9, k9, y1, y2⟩ := hJ.vc (hdep 4 rfl)
            have e50 := (ev 4 50 rfl (hdep 4 rfl)).trans y2
            go_simp
            exact ⟨_, rfl, by rw [HJX.out]; exact hJ.build HOK.out hL (hdep 4 rfl) rfl y2⟩
           ·intro L V X a ev evo hdf hL hdep hJ
            rw [HJX.out] at hJ
            have e47 := (ev 1 47 rfl (hdep 1 rfl)).trans (hJ.det 1 _ rfl (hdep 1 rfl))
            have e51 := ev 5 51 rfl (hdep 5 rfl)
            obtain ⟨s9, k9, g9, y1, y2, y3, y4⟩ := hJ.vb (hdep 5 rfl) hL
            have hon := hJ.own hL
            have hwz := Nat.le_trans HOK.out.bw hJ.st.size
            have hfw := HN6.out.few
            refine wp_append_row _ (g9 + 1) (.tmp 47) (.tmp 51) 24 rfl v1.heap.size 9 i0 (.string ⟨#[]⟩) 1 16 Try.underlying24 HI.out HZ0.out HZ1.out HZ2.out rfl (by decide) (.slice oa ts.length oc) ts.length (ts.map .string) (by rw [evalTmp]; exact e47) hon (V 5) 1 [.string s9] (by rw [evalTmp]; exact e51) (by rw [y2]; exact Row.new y4 (by decide)) rfl (oneCells rfl) (by unfold maxLen; omega) (by omega) hwz ?_
            intro v8 w8 hown8 hgrow8 hat8
            exact ⟨v8, rfl, by rw [HJX.out]; exact hJ.app HOK.out hL (hdep 5 rfl) (hdep 1 rfl) rfl y1 hown8 hgrow8 hat8⟩
           ·intro L V X a ev evo hdf hL hdep hJ
            rw [HJX.out] at hJ
            have o3 := evo 3 rfl
            change a.tmps[3]?.getD undef = .pointer (some ⟨b, 0, none⟩) at o3
            go_simp
            exact ⟨_, rfl, by rw [HJX.out]; exact hJ.up 7 rfl (by decide) (by decide) (by decide) (by decide)⟩
           ·intro L V X a ev evo hdf hL hdep hJ
            rw [HJX.out] at hJ
            have e53 := (ev 7 53 rfl (hdep 7 rfl)).trans (hJ.det 7 _ rfl (hdep 7 rfl))
            obtain ⟨s9, k9, y1, y2, y3⟩ := hJ.va (hdep 6 rfl)
            obtain ⟨a9, c9, hV⟩ := owns_slice y2
            have e52 := (ev 6 52 rfl (hdep 6 rfl)).trans hV
            have hb := hJ.blk
            rw [hL] at hb
            have ecell : ∃ v, X.cell? ⟨b, 1, none⟩ = some v := ⟨_, blk_cell hb 1 _ rfl⟩
            obtain ⟨vc, hvc⟩ := ecell
            have hfz : X.frozen? ⟨b, 1, none⟩ = false := blk_free hb 1
            go_simp
            exact ⟨undef, by rw [HJX.out]; exact hJ.put HOK.out (hdep 6 rfl) (fun u hu => by cases hu) ((Step.refl _ _).setCell _ _ (fun _ => rfl)) (by rw [← hV]; exact blk_set hb 1 (V 6)) undef⟩
          case hdone =>
           intro L V X hall hJ
           rw [HJX.out] at hJ
           obtain ⟨s9, k9, v9, h1, h2, h3, h4, h5, h6⟩ := hJ.done (hall 4 (by decide)) (hall 6 (by decide)) (hall 8 (by decide))
           have hx9 : nameR R.l j = .ok s9 k9 := by rw [← HR1.out]; exact h1
           have hsz := nameR_size HL.out HN6.out.rd.lt hx9
           rw [show List.range 9 = [0, 1, 2, 3, 4, 5, 6, 7, 8] from rfl]
           simp only [putF, dstO, List.getElem?_toArray, List.getElem?_cons_zero, List.getElem?_cons_succ, Option.bind_some, Act.put, List.setIfInBounds_toArray, List.set_cons_zero, List.set_cons_succ]
           have HRZ : Hid (r = ((if isF R.l k9 [43] then traitsR gn R.l (k9 + 1) pl (ts ++ [s9]) ls else .ok ((ts ++ [s9]), ls) k9).bind fun q j => .ok ⟨nm, q.1, q.2, tk.line, tk.col⟩ j)) := by show _ = _; rw [HE6.out, hx9]; rfl
           have HEND : Hid (N2 9 (fun va vb => .cells #[.string nm, va, vb, .int .i64 tk.line, .int .i64 tk.col] 110 (0, 0)) R v1 b d X k9 (ts ++ [s9]) ls v9 (.slice pa ls.length pc)) := HN6.out.pushA hrb hbw h2 h3 h4 h5 h6 hsz (by omega)
           clear hJ hall h1 h2 h3 h4 h5 h6 hx9 hsz
           go_wp2_with fail
           go_meet
           case rel => exact ⟨k9, _, _, _, _, HRZ.out, HEND.out⟩
         | false =>
          have hc : ¬ (pl = true ∧ ls.length = 0 ∧ tj.kind ≠ 2) := by
           intro hc
           have h9 := HCB.out
           rw [hc.1, hc.2.1] at h9
           simp at h9
           exact hc.2.2 h9
          have HE6 : Hid (r = (((lifeR R.l j).bind fun x j => .ok (ts, ls ++ [x]) j).bind fun q j => if isF R.l j [43] then traitsR gn R.l (j + 1) pl q.1 q.2 else .ok q j).bind fun q j => .ok ⟨nm, q.1, q.2, tk.line, tk.col⟩ j) := by show _ = _; rw [HE3.out, if_neg hc]
          clear hc
          have p0 := HKP.out w6 HN6.out.st
          go_upto_region 9 with fail
          obtain ⟨r1, hr1⟩ : ∃ r1, r1 = lifeR R.l j := ⟨_, rfl⟩
          have HR1 := Lib.hid hr1
          have HRN : Hid (r1 ≠ .out) := by show _ ≠ _; rw [hr1]; exact fun e => lifeR_out e
          have HRE : Hid (r = ((r1.bind fun x j => .ok (ts, ls ++ [x]) j).bind fun q j => if isF R.l j [43] then traitsR gn R.l (j + 1) pl q.1 q.2 else .ok q j).bind fun q j => .ok ⟨nm, q.1, q.2, tk.line, tk.col⟩ j) := by show _ = _; rw [HE6.out, hr1]
          have HOK : Hid (NOk R b w6 v1.heap.size (.slice pa ls.length pc) 1 3 4 5 7) := ⟨by decide, by decide, hrb, hbw, HN6.out.st.size, fun q hq => HN6.out.ob.lt q hq⟩
          have HPX : Hid (∀ X : World, Step (fun q => q = R.rb ∨ q = b ∨ (Value.slice pa ls.length pc).ownBlock = some q) w6 X → X.cell? ⟨w.heap.size, 0, none⟩ = some (.pointer (some ⟨R.rb, 0, none⟩))) := by
           show ∀ X, _
           intro X hX
           refine hX.cell (HKP.out w6 HN6.out.st) (fun e => ?_)
           have e2 : w.heap.size = R.rb ∨ w.heap.size = b ∨ (Value.slice pa ls.length pc).ownBlock = some w.heap.size := e
           rcases e2 with e2 | e2 | e2
           ·omega
           ·omega
           ·have := (HOK.out.own _ e2).1; omega
          obtain ⟨Jx, hJx⟩ : ∃ Jx : (Nat → Bool) → (Nat → Value) → World → Prop, Jx = NJ R j d b w6 (fun v => .cells #[.string nm, .slice oa ts.length oc, v, .int .i64 tk.line, .int .i64 tk.col] 110 (0, 0)) v1.heap.size 9 (.slice pa ls.length pc) ls.length (ls.map .string) r1 1 3 4 5 7 [some (.pointer (some ⟨b, 2, none⟩)), some (.slice pa ls.length pc), some (.agg #[.pointer (some ⟨R.rb, 0, none⟩)]), none, none, none, some (.pointer (some ⟨b, 2, none⟩)), none] := ⟨_, rfl⟩
          have HJX := Lib.hid hJx
          have HZ0J : Hid (∀ V, Jx (fun _ => false) V w6.drew) := by
           show ∀ V, _
           intro V
           rw [hJx]
           exact NJ.zero ((Step.refl _ _).drew) HN6.out.rd HN6.out.ob HN6.out.blk
          have HWB : Hid (∀ X : World, Step (fun q => q = R.rb ∨ q = b ∨ (Value.slice pa ls.length pc).ownBlock = some q) w6 X → Step (fun q => q = R.rb ∨ q = b) v1 X) := by
           show ∀ X, _
           intro X hX
           refine HN6.out.st.then hX (fun q hq e => ?_)
           rcases e with e | e | e
           ·exact .inl e
           ·exact .inr e
           ·have := (HOK.out.own _ e).1; omega
          clear hr1 hJx p0
          refine wp_region_relyD (by kernel_rfl) Jx 8 rfl (by kernel_rfl) (by kernel_rfl) (by kernel_rfl) (by kernel_rfl) ?h0 ?hs ?hdone
          case h0 => exact HZ0J.out _
          case hs =>
           refine ⟨?_, ?_, ?_, ?_, ?_, ?_, ?_, ?_, trivial⟩
           ·intro L V X a ev evo hdf hL hdep hJ
            rw [HJX.out] at hJ
            have o3 := evo 3 rfl
            change a.tmps[3]?.getD undef = .pointer (some ⟨b, 0, none⟩) at o3
            go_simp
            exact ⟨_, rfl, by rw [HJX.out]; exact hJ.up 0 rfl (by decide) (by decide) (by decide) (by decide)⟩
           ·intro L V X a ev evo hdf hL hdep hJ
            rw [HJX.out] at hJ
            have e54 := (ev 0 54 rfl (hdep 0 rfl)).trans (hJ.det 0 _ rfl (hdep 0 rfl))
            have hA : L 5 = false := by
             cases e : L 5 with
             | false => rfl
             | true => rw [hJ.ql e] at hL; cases hL
            have hb := hJ.blk
            rw [hJ.noZ hA] at hb
            have q2 : X.cell? ⟨b, 2, none⟩ = some (.slice pa ls.length pc) := blk_cell hb 2 _ rfl
            go_simp
            exact ⟨_, rfl, by rw [HJX.out]; exact hJ.up 1 rfl (by decide) (by decide) (by decide) (by decide)⟩
           ·intro L V X a ev evo hdf hL hdep hJ
            rw [HJX.out] at hJ
            have o1 := evo 1 rfl
            change a.tmps[1]?.getD undef = .pointer (some ⟨w.heap.size, 0, none⟩) at o1
            have p0 := HPX.out X hJ.st
            go_simp
            exact ⟨_, rfl, by rw [HJX.out]; exact hJ.up 2 rfl (by decide) (by decide) (by decide) (by decide)⟩
           ·intro L V X a ev evo hdf hL hdep hJ
            rw [HJX.out] at hJ
            have e56 := (ev 2 56 rfl (hdep 2 rfl)).trans (hJ.det 2 _ rfl (hdep 2 rfl))
            obtain ⟨i9, y1, y2⟩ := hJ.rd
            rw [hL] at y2
            have y3 : i9 = j := y2
            subst y3
            go_simp
            refine (life_any R HL.out X i9 d y1).mono ?_
            intro e wq hp
            rw [← HR1.out] at hp
            cases hx : r1 with
            | out => exact absurd hx HRN.out
            | err cc ln col =>
             rw [hx] at hp
             obtain ⟨rfl, hs⟩ := hp
             exact ⟨hdf, PPost.of_err (c := cc) (ln := ln) (col := col) (by rw [HRE.out, hx]; rfl) rfl (HBK.out _ ((HWB.out X hJ.st).trans (hs.mono (fun _ _ e => .inl e))))⟩
            | ok s9 k9 =>
             have hx0 := hx
             rw [hx] at hp
             obtain ⟨⟨v, rfl, rfl⟩, hr, hs⟩ := hp
             exact ⟨_, rfl, by rw [HJX.out]; exact hJ.call HOK.out hL rfl hs hr hx0⟩
           ·intro L V X a ev evo hdf hL hdep hJ
            rw [HJX.out] at hJ
            obtain ⟨s9, k9, y1, y2⟩ := hJ.vc (hdep 3 rfl)
            have e57 := (ev 3 57 rfl (hdep 3 rfl)).trans y2
            go_simp
            exact ⟨_, rfl, by rw [HJX.out]; exact hJ.build HOK.out hL (hdep 3 rfl) rfl y2⟩
           ·intro L V X a ev evo hdf hL hdep hJ
            rw [HJX.out] at hJ
            have e55 := (ev 1 55 rfl (hdep 1 rfl)).trans (hJ.det 1 _ rfl (hdep 1 rfl))
            have e58 := ev 4 58 rfl (hdep 4 rfl)
            obtain ⟨s9, k9, g9, y1, y2, y3, y4⟩ := hJ.vb (hdep 4 rfl) hL
            have hon := hJ.own hL
            have hwz := Nat.le_trans HOK.out.bw hJ.st.size
            have hfw := HN6.out.few
            refine wp_append_row _ (g9 + 1) (.tmp 55) (.tmp 58) 24 rfl v1.heap.size 9 i0 (.string ⟨#[]⟩) 1 16 Try.underlying24 HI.out HZ0.out HZ1.out HZ2.out rfl (by decide) (.slice pa ls.length pc) ls.length (ls.map .string) (by rw [evalTmp]; exact e55) hon (V 4) 1 [.string s9] (by rw [evalTmp]; exact e58) (by rw [y2]; exact Row.new y4 (by decide)) rfl (oneCells rfl) (by unfold maxLen; omega) (by omega) hwz ?_
            intro v8 w8 hown8 hgrow8 hat8
            exact ⟨v8, rfl, by rw [HJX.out]; exact hJ.app HOK.out hL (hdep 4 rfl) (hdep 1 rfl) rfl y1 hown8 hgrow8 hat8⟩
           ·intro L V X a ev evo hdf hL hdep hJ
            rw [HJX.out] at hJ
            have o3 := evo 3 rfl
            change a.tmps[3]?.getD undef = .pointer (some ⟨b, 0, none⟩) at o3
            go_simp
            exact ⟨_, rfl, by rw [HJX.out]; exact hJ.up 6 rfl (by decide) (by decide) (by decide) (by decide)⟩
           ·intro L V X a ev evo hdf hL hdep hJ
            rw [HJX.out] at hJ
            have e60 := (ev 6 60 rfl (hdep 6 rfl)).trans (hJ.det 6 _ rfl (hdep 6 rfl))
            obtain ⟨s9, k9, y1, y2, y3⟩ := hJ.va (hdep 5 rfl)
            obtain ⟨a9, c9, hV⟩ := owns_slice y2
            have e59 := (ev 5 59 rfl (hdep 5 rfl)).trans hV
            have hb := hJ.blk
            rw [hL] at hb
            have ecell : ∃ v, X.cell? ⟨b, 2, none⟩ = some v := ⟨_, blk_cell hb 2 _ rfl⟩
            obtain ⟨vc, hvc⟩ := ecell
            have hfz : X.frozen? ⟨b, 2, none⟩ = false := blk_free hb 2
            go_simp
            exact ⟨undef, by rw [HJX.out]; exact hJ.put HOK.out (hdep 5 rfl) (fun u hu => by cases hu) ((Step.refl _ _).setCell _ _ (fun _ => rfl)) (by rw [← hV]; exact blk_set hb 2 (V 5)) undef⟩
          case hdone =>
           intro L V X hall hJ
           rw [HJX.out] at hJ
           obtain ⟨s9, k9, v9, h1, h2, h3, h4, h5, h6⟩ := hJ.done (hall 3 (by decide)) (hall 5 (by decide)) (hall 7 (by decide))
           have hx9 : lifeR R.l j = .ok s9 k9 := by rw [← HR1.out]; exact h1
           have hsz := lifeR_size HL.out HN6.out.rd.lt hx9
           rw [show List.range 8 = [0, 1, 2, 3, 4, 5, 6, 7] from rfl]
           simp only [putF, dstO, List.getElem?_toArray, List.getElem?_cons_zero, List.getElem?_cons_succ, Option.bind_some, Act.put, List.setIfInBounds_toArray, List.set_cons_zero, List.set_cons_succ]
           have HRZ : Hid (r = ((if isF R.l k9 [43] then traitsR gn R.l (k9 + 1) pl ts (ls ++ [s9]) else .ok (ts, (ls ++ [s9])) k9).bind fun q j => .ok ⟨nm, q.1, q.2, tk.line, tk.col⟩ j)) := by show _ = _; rw [HE6.out, hx9]; rfl
           have HEND : Hid (N2 9 (fun va vb => .cells #[.string nm, va, vb, .int .i64 tk.line, .int .i64 tk.col] 110 (0, 0)) R v1 b d X k9 ts (ls ++ [s9]) (.slice oa ts.length oc) v9) := HN6.out.pushB hrb hbw h2 h3 h4 h5 h6 hsz (by omega)
           clear hJ hall h1 h2 h3 h4 h5 h6 hx9 hsz
           go_wp2_with fail
           go_meet
           case rel => exact ⟨k9, _, _, _, _, HRZ.out, HEND.out⟩
        case rest =>
         obtain ⟨jn, la, lb, va, vb, hrn, hls⟩ := hcut
         obtain ⟨w9, rfl⟩ : ∃ w9 : World, w9 = wc := ⟨_, rfl⟩
         obtain ⟨a1, c1, rfl⟩ := owns_slice hls.oa
         obtain ⟨a2, c2, rfl⟩ := owns_slice hls.ob
         have HST9 := Lib.hid hls
         have HRN9 := Lib.hid hrn
         clear hls hrn
         have p0 := HKP.out w9 HST9.out.st
         go_wp2_with fail
         cases hc : isF R.l jn [43] with
         | true =>
          have HC := Lib.hid hc
          clear hc
          refine (is_yes R HL.out ⟨#[43]⟩ _ jn d HST9.out.rd (by decide) HC.out).mono ?_
          rintro e wa ⟨rfl, hra, sa⟩
          have HSTA := Lib.hid (HST9.out.read hrb (by omega) hra sa)
          have HRE9 : Hid (r = ((traitsR gn R.l (jn + 1) pl la lb).bind fun q j => .ok ⟨nm, q.1, q.2, tk.line, tk.col⟩ j)) := by show _ = _; rw [HRN9.out, HC.out, if_pos rfl]
          clear hra sa p0
          go_wp2_with fail
          go_roundg gn
          case rel => exact ⟨by omega, jn + 1, la, lb, _, _, HRE9.out, HSTA.out⟩
          case measure => omega
         | false =>
          have HC := Lib.hid hc
          clear hc
          refine (is_no R HL.out ⟨#[43]⟩ _ jn d HST9.out.rd (by decide) HC.out).mono ?_
          rintro e wa ⟨rfl, hra, sa⟩
          have HSTA := Lib.hid (HST9.out.read hrb (by omega) hra sa)
          have HRF : Hid (r = .ok ⟨nm, la, lb, tk.line, tk.col⟩ jn) := by show _ = _; rw [HRN9.out, HC.out, if_neg (by decide)]; rfl
          clear hra sa p0
          have HNA := Lib.hid HSTA.out.names
          have HLD : Hid (∀ (jj : Nat) v, [Value.string nm, .slice a1 la.length c1, .slice a2 lb.length c2, .int .i64 tk.line, .int .i64 tk.col][jj]? = some v → wa.cell? ⟨b, 0 + jj, none⟩ = some v) := by
           show ∀ jj v, _
           intro jj v hv
           rw [Nat.zero_add]; exact blk_cell HSTA.out.blk jj v (by simpa using hv)
          have HONE : Hid (∀ u ∈ [Value.string nm, .slice a1 la.length c1, .slice a2 lb.length c2, .int .i64 tk.line, .int .i64 tk.col], u.oneCell' = true) := oneCells rfl
          have HNX := Lib.hid (HKN.out wa HSTA.out.st)
          go_wp2_with (first
           | (refine wpList_load_whole rfl 110 (.tmp 3) rfl b 0 rfl [Value.string nm, .slice a1 la.length c1, .slice a2 lb.length c2, .int .i64 tk.line, .int .i64 tk.col] _ HLD.out Try.underlying110 rfl Try.sizeBound ?_)
           | (refine wpList_store_part (w := wa) rfl 110 (.tmp 2) (.tmp 65) rfl (w.heap.size + 1) 0 110 _ [Value.string nm, .slice a1 la.length c1, .slice a2 lb.length c2, .int .i64 tk.line, .int .i64 tk.col] rfl rfl HNX.out Try.sizeBound (Nat.le_of_eq rfl) HONE.out ?_
              intro wR hbR hstR))
          have hbR' : wR.heap[w.heap.size + 1]? = some (.cells [Value.string nm, .slice a1 la.length c1, .slice a2 lb.length c2, .int .i64 tk.line, .int .i64 tk.col].toArray 110 (0, 0)) := hbR
          refine bodyPost_ret (results_cellB rfl _ (w.heap.size + 1) 110 _ _ rfl hbR' Try.underlying110 rfl Try.sizeBound) rfl ?_
          exact PPost.of_ok HRF.out rfl ⟨_, rfl, _, _, rfl, HNZ.out, namesQ_ok.mono _ _ (fun q _ hq => by omega) (namesQ_ok.step _ _ hstR (fun q hq e => by omega) HNA.out.1), namesQ_ok.mono _ _ (fun q _ hq => by omega) (namesQ_ok.step _ _ hstR (fun q hq e => by omega) HNA.out.2)⟩ (HSTA.out.rd.step hstR (fun q hq e => by omega)) ((HBK.out _ HSTA.out.st).then hstR (fun q hq e => by omega))
theorem Try.infoBound : (Try.prog.info? 110).map (fun i => (i.zero, i.size, i.bytes)) = some (some (.agg #[.string ⟨#[]⟩, .slice none 0 0, .slice none 0 0, .int .i64 0, .int .i64 0]), 5, 80) := by kernel_rfl
def BdsV (n0 : Nat) (w' : World) (a : List Bd) (v : Value) : Prop := LsQ BdP w' (fun k => n0 ≤ k) a v
theorem where_any (f : Nat) (R : Rdr) (w : World) (i d : Nat) (hl : LOk R.l) (h : RdAt R w i d) (hno : whereR f R.l i ≠ .out) :
  Calls Try.prog 44 #[.agg #[.pointer (some ⟨R.rb, 0, none⟩)]] w (PPost R d (BdsV w.heap.size) (whereR f R.l i) w) := by
 have HL := Lib.hid hl
 obtain ⟨r, hr⟩ : ∃ r, r = whereR f R.l i := ⟨_, rfl⟩
 have HRR : Hid (r = if isF R.l i [119, 104, 101, 114, 101] then wheresR f R.l (i + 1) [] else .ok [] i) := by show _ = _; rw [hr, whereR]
 rw [← hr] at hno ⊢
 have HNO := Lib.hid hno
 obtain ⟨i0, hi0, hz0, hz1, hz2⟩ := info_parts Try.infoBound
 have HI := Lib.hid hi0
 have HZ0 := Lib.hid hz0
 have HZ1 := Lib.hid hz1
 have HZ2 := Lib.hid hz2
 obtain ⟨w1, hw1⟩ : ∃ w1 : World, w1 = w.alloc (.cells #[.pointer (some ⟨R.rb, 0, none⟩)] 45) := ⟨_, rfl⟩
 have HS1 : Hid (Step (fun _ => False) w w1) := by show Step _ _ _; rw [hw1]; exact (Step.refl _ _).alloc _
 have HP1 : Hid (w1.heap[w.heap.size]? = some (.cells #[.pointer (some ⟨R.rb, 0, none⟩)] 45 (0, 0))) := by show _ = _; rw [hw1]; exact blk_new _ _
 have HW1 := Lib.hid hw1
 have H1 := Lib.hid (h.quiet HS1.out)
 have hn1 := blk_lt HP1.out
 have hrlt := blk_lt h.blk
 have hwz : R.rb < w1.heap.size := by omega
 have HKP : Hid (∀ X : World, Step (· = R.rb) w1 X → X.cell? ⟨w.heap.size, 0, none⟩ = some (.pointer (some ⟨R.rb, 0, none⟩))) := by
  show ∀ X, _
  intro X hX
  exact blk_cell (hX.keep HP1.out (by omega)) 0 _ rfl
 have HBK : Hid (∀ X : World, Step (· = R.rb) w1 X → Step (· = R.rb) w X) := by
  show ∀ X, _
  intro X hX
  exact (HS1.out.mono (fun _ _ h => h.elim)).trans hX
 clear hw1
 have p0 := HKP.out w1 (Step.refl _ _)
 clear hl h hno hr hi0 hz0 hz1 hz2
 go_enter Try.func44, Try.ntmps44
 go_upto_region 2 with fail
 rw [← HW1.out]
 go_wp2_with fail
 cases hb : isF R.l i [119, 104, 101, 114, 101] with
 | false =>
  have HB := Lib.hid hb
  clear hb
  refine (is_no R HL.out ⟨#[119, 104, 101, 114, 101]⟩ _ i d H1.out (by decide) HB.out).mono ?_
  rintro e w2 ⟨rfl, hr2, h2⟩
  have HRE : Hid (r = .ok [] i) := by show _ = _; rw [HRR.out, HB.out, if_neg (by decide)]
  have HR2 := Lib.hid hr2
  have HS2 := Lib.hid h2
  clear hr2 h2 p0
  go_wp2_with fail
  go_ret
  exact PPost.of_ok HRE.out rfl (LsQ.nil _ _) HR2.out (HBK.out _ HS2.out)
 | true =>
  have HB := Lib.hid hb
  clear hb
  refine (is_yes R HL.out ⟨#[119, 104, 101, 114, 101]⟩ _ i d H1.out (by decide) HB.out).mono ?_
  rintro e w2 ⟨rfl, hr2, h2⟩
  have HRE : Hid (r = wheresR f R.l (i + 1) []) := by show _ = _; rw [HRR.out, HB.out, if_pos rfl]
  have HR2 := Lib.hid hr2
  have HS2 := Lib.hid h2
  clear hr2 h2 p0
  go_wp2_with fail
  go_loopg [3] f (fun gg s3 wr => gg ≤ f ∧ ∃ (i' : Nat) (acc : List Bd) (xs : List Value), r = wheresR gg R.l i' acc ∧ LqSt BdP 110 5 R w1 d wr i' acc s3 xs)
  case atStart => exact ⟨Nat.le_refl _, i + 1, [], [], HRE.out, HR2.out, World.ownsRow_nil _ _ _ _, rfl, HS2.out⟩
  case round =>
   obtain ⟨hgf, i', acc, xs, hrq, hst⟩ := hrel
   obtain ⟨gn, rfl⟩ : ∃ gn, gk = gn + 1 := by
    cases gk with
    | zero => exact absurd hrq (by rw [wheresR]; exact HNO.out)
    | succ gn => exact ⟨gn, rfl⟩
   have HEQ : Hid (r = (roomR acc.length 16 R.l i').bind fun _ i => (boundR gn R.l i).bind fun x j => if isF R.l j [44] then wheresR gn R.l (j + 1) (acc ++ [x]) else .ok (acc ++ [x]) j) := by show _ = _; rw [hrq, wheresR]
   obtain ⟨oa, oc, rfl⟩ := owns_slice hst.ow
   have HST := Lib.hid hst
   have p0 := HKP.out wr hst.st
   clear hrq hst
   go_wp2_with fail
   refine (room_any R wr acc.length 16 i' d HST.out.rd).mono ?_
   rintro e w3 hp
   cases hn : roomR acc.length 16 R.l i' with
   | out => exact (roomR_out hn).elim
   | err c ln col =>
    rw [hn] at hp
    obtain ⟨rfl, s3⟩ := hp
    exact ⟨rfl, PPost.of_err (c := c) (ln := ln) (col := col) (by rw [HEQ.out, hn]; rfl) rfl (HBK.out _ (HST.out.st.trans s3))⟩
   | ok u j3 =>
    have hji : j3 = i' ∧ acc.length < 16 := by
     unfold roomR at hn
     split at hn
     ·cases hn
     ·cases hn; exact ⟨rfl, by omega⟩
    obtain ⟨hj3, hlt⟩ := hji
    have HN3 := Lib.hid hn
    rw [hn] at hp
    obtain ⟨⟨v, rfl, rfl⟩, hr3, s3⟩ := hp
    have HST3 := Lib.hid (HST.out.read bdP_ok hwz hr3 s3)
    have HE3 : Hid (r = (boundR gn R.l j3).bind fun x j => if isF R.l j [44] then wheresR gn R.l (j + 1) (acc ++ [x]) else .ok (acc ++ [x]) j) := by show _ = _; rw [HEQ.out, HN3.out]; rfl
    clear hn hr3 s3 p0 hj3
    have p0 := HKP.out w3 HST3.out.st
    go_wp2_with fail
    refine (bound_any gn R w3 j3 d HL.out HST3.out.rd (fun e => HNO.out (by rw [HE3.out, e]; rfl))).mono ?_
    rintro e wx hp
    have hp2 : PPost R d (BdV w3.heap.size) (boundR gn R.l j3) _ e wx := hp
    cases hx : boundR gn R.l j3 with
    | out => exact absurd (by rw [HE3.out, hx]; rfl) HNO.out
    | err c ln col =>
     rw [hx] at hp2
     obtain ⟨rfl, sq⟩ := hp2
     exact ⟨rfl, PPost.of_err (c := c) (ln := ln) (col := col) (by rw [HE3.out, hx]; rfl) rfl (HBK.out _ (HST3.out.st.trans sq))⟩
    | ok x jx =>
     have HX := Lib.hid hx
     rw [hx] at hp2
     obtain ⟨⟨v, rfl, cs, rfl, hy⟩, hrx, hsx⟩ := hp2
     have HCL := Lib.hid (bdP_ok.len _ _ hy)
     have HONE := Lib.hid (bdP_ok.one _ _ hy)
     have HE5 : Hid (r = if isF R.l jx [44] then wheresR gn R.l (jx + 1) (acc ++ [x]) else .ok (acc ++ [x]) jx) := by show _ = _; rw [HE3.out, HX.out]; rfl
     obtain ⟨w4, hw4⟩ : ∃ w4 : World, w4 = wx.alloc (.cells cs.toArray 110) := ⟨_, rfl⟩
     have HS4 : Hid (Step (fun _ => False) wx w4) := by show Step _ _ _; rw [hw4]; exact (Step.refl _ _).alloc _
     have HST4 := Lib.hid ((HST3.out.read bdP_ok hwz hrx hsx).quiet bdP_ok HS4.out)
     have HY4 : Hid (BdP w4 (fun q => w3.heap.size ≤ q) x cs) := bdP_ok.step _ _ HS4.out (fun _ _ h => h) hy
     have HOW4 : Hid ((wx.alloc (.cells cs.toArray 110)).ownsRow w1.heap.size 110 5 (.slice oa acc.length oc) acc.length xs) := by show World.ownsRow _ _ _ _ _ _ _; rw [← hw4]; exact HST4.out.ow
     have HROW4 : Hid (Row (wx.alloc (.cells cs.toArray 110)) (wx.heap.size + 1) (.slice (some ⟨wx.heap.size, 0, none⟩) 1 1) 1 cs) := Row.new (blk_new _ _) (by decide)
     have HLE4 : Hid (w1.heap.size ≤ (wx.alloc (.cells cs.toArray 110)).heap.size) := by show _ ≤ _; rw [← hw4]; exact HST4.out.st.size
     have HW4 := Lib.hid hw4
     have HLT := Lib.hid hlt
     have hC1 : i0.size = cs.length := by rw [HCL.out]; exact HZ1.out
     have hC2 : (Value.agg #[.string ⟨#[]⟩, .slice none 0 0, .slice none 0 0, .int .i64 0, .int .i64 0]).cells.size = cs.length := by rw [HCL.out]; rfl
     have hC3 : 0 < cs.length := by rw [HCL.out]; decide
     have hC4 : cs.length ≤ 16777216 := by rw [HCL.out]; decide
     have hC5 : cs.length = 1 * 5 := by rw [HCL.out]
     have HC := Lib.hid (And.intro hC1 (And.intro hC2 (And.intro hC3 (And.intro hC4 hC5))))
     clear hx hp hy hrx hsx p0 hw4 hlt hC1 hC2 hC3 hC4 hC5
     go_upto_region 6 with (first
      | (refine wpList_slice_one rfl 55 (.tmp 15) rfl 110 i0 (.agg #[.string ⟨#[]⟩, .slice none 0 0, .slice none 0 0, .int .i64 0, .int .i64 0]) cs rfl Try.underlying55 HI.out HZ0.out HC.out.1 HC.out.2.1 HC.out.2.2.1 HC.out.2.2.2.1 ?_)
      | (refine wpList_append_row _ rfl (wx.heap.size + 1) (.tmp 13) (.tmp 16) 55 rfl w1.heap.size 110 i0 (.agg #[.string ⟨#[]⟩, .slice none 0 0, .slice none 0 0, .int .i64 0, .int .i64 0]) 5 80 Try.underlying55 HI.out HZ0.out HZ1.out HZ2.out rfl (by decide) _ _ _ (by rfl) HOW4.out _ 1 _ (by rfl) HROW4.out HC.out.2.2.2.2 HONE.out (by have := HLT.out; unfold maxLen; omega) (by have := HLT.out; omega) HLE4.out ?_
         intro v9 w9 hown9 hgrow9 hat9))
     rw [← HW4.out] at hgrow9 hat9
     have HST9 := Lib.hid (HST3.out.push bdP_ok HST4.out HY4.out hown9 hgrow9 hat9 hwz)
     clear hown9 hgrow9 hat9
     have p0 := HKP.out w9 HST9.out.st
     go_wp2_with fail
     cases hc : isF R.l jx [44] with
     | true =>
      have HC9 := Lib.hid hc
      clear hc
      refine (is_yes R HL.out ⟨#[44]⟩ _ jx d HST9.out.rd (by decide) HC9.out).mono ?_
      rintro e w6 ⟨rfl, hr6, s6⟩
      have HST6 := Lib.hid (HST9.out.read bdP_ok hwz hr6 s6)
      have HR6 : Hid (r = wheresR gn R.l (jx + 1) (acc ++ [x])) := by show _ = _; rw [HE5.out, HC9.out, if_pos rfl]
      clear hr6 s6 p0
      go_wp2_with fail
      go_roundg gn
      case rel => exact ⟨by omega, jx + 1, acc ++ [x], _, HR6.out, HST6.out⟩
      case measure => omega
     | false =>
      have HC9 := Lib.hid hc
      clear hc
      refine (is_no R HL.out ⟨#[44]⟩ _ jx d HST9.out.rd (by decide) HC9.out).mono ?_
      rintro e w6 ⟨rfl, hr6, s6⟩
      have HST6 := Lib.hid (HST9.out.read bdP_ok hwz hr6 s6)
      have HR6 : Hid (r = .ok (acc ++ [x]) jx) := by show _ = _; rw [HE5.out, HC9.out, if_neg (by decide)]
      clear hr6 s6 p0
      go_wp2_with fail
      go_ret
      have hsz := HS1.out.size
      exact PPost.of_ok HR6.out rfl ⟨_, RowP.of_owns HST6.out.ow (fun q hq => by have := (HST6.out.ow.lt q hq).1; omega), LsP.mono bdP_ok (fun q _ hq => by have := hq.1; omega) _ _ HST6.out.el⟩ HST6.out.rd (HBK.out _ HST6.out.st)
theorem ret_any (f : Nat) (ih : TypOk f) (R : Rdr) (w : World) (i d : Nat) (hl : LOk R.l) (h : RdAt R w i d) (hd : d ≤ 40) (hno : retR f R.l i d ≠ .out) :
  Calls Try.prog 45 #[.agg #[.pointer (some ⟨R.rb, 0, none⟩)]] w (PPost R d (TyV w.heap.size) (retR f R.l i d) w) := by
 have HL := Lib.hid hl
 have IH := Lib.hid ih
 obtain ⟨r, hr⟩ : ∃ r, r = retR f R.l i d := ⟨_, rfl⟩
 have HRR : Hid (r = if isF R.l i [45, 62] then typR f R.l (i + 1) d else .ok noTy i) := by show _ = _; rw [hr, retR]
 rw [← hr] at hno ⊢
 have HNO := Lib.hid hno
 have hrlt := blk_lt h.blk
 obtain ⟨w1, hw1⟩ : ∃ w1 : World, w1 = (w.alloc (.cells #[.pointer (some ⟨R.rb, 0, none⟩)] 45)).alloc (.cells #[.int .i64 0, .string ⟨#[]⟩, .string ⟨#[]⟩, .bool false, .slice none 0 0, .slice none 0 0, .int .i64 0, .int .i64 0] 54) := ⟨_, rfl⟩
 have HS1 : Hid (Step (fun _ => False) w w1) := by show Step _ _ _; rw [hw1]; exact ((Step.refl _ _).alloc _).alloc _
 have HP1 : Hid (w1.heap[w.heap.size]? = some (.cells #[.pointer (some ⟨R.rb, 0, none⟩)] 45 (0, 0))) := by show _ = _; rw [hw1]; exact blk_alloc (blk_new _ _)
 have HN1 : Hid (w1.heap[w.heap.size + 1]? = some (.cells #[.int .i64 0, .string ⟨#[]⟩, .string ⟨#[]⟩, .bool false, .slice none 0 0, .slice none 0 0, .int .i64 0, .int .i64 0] 54 (0, 0))) := by show _ = _; rw [hw1]; exact blk_new2 _ _ _
 have HW1 := Lib.hid hw1
 have H1 := Lib.hid (h.quiet HS1.out)
 have hn1 := blk_lt HN1.out
 have hsz := HS1.out.size
 have HKP : Hid (∀ X : World, Step (· = R.rb) w1 X → X.cell? ⟨w.heap.size, 0, none⟩ = some (.pointer (some ⟨R.rb, 0, none⟩))) := by
  show ∀ X, _
  intro X hX
  exact blk_cell (hX.keep HP1.out (by omega)) 0 _ rfl
 have p0 := HKP.out w1 (Step.refl _ _)
 clear ih hl h hno hr hw1
 go_enter Try.func45, Try.ntmps45
 go_upto_region 1 with fail
 rw [← HW1.out]
 go_wp2_with fail
 cases hb : isF R.l i [45, 62] with
 | false =>
  have HB := Lib.hid hb
  clear hb
  refine (is_no R HL.out ⟨#[45, 62]⟩ _ i d H1.out (by decide) HB.out).mono ?_
  rintro e w2 ⟨rfl, hr2, h2⟩
  have HRE : Hid (r = .ok noTy i) := by show _ = _; rw [HRR.out, HB.out, if_neg (by decide)]
  have HR2 := Lib.hid hr2
  have HS2 := Lib.hid h2
  have HNX := Lib.hid (h2.keep HN1.out (by omega))
  clear hr2 h2 p0
  go_wp2_with (refine wpList_store_part (w := w2) rfl 54 (.tmp 2) (.tmp 7) rfl (w.heap.size + 1) 0 54 _ [.int .i64 0, .string noB, .string noB, .bool false, .slice none 0 0, .slice none 0 0, .int .i64 0, .int .i64 0] rfl rfl HNX.out Try.sizeWType (Nat.le_of_eq rfl) (oneCells rfl) ?_
               intro wR hbR hstR)
  have hbR' : wR.heap[w.heap.size + 1]? = some (.cells ([.int .i64 0, .string noB, .string noB, .bool false, .slice none 0 0, .slice none 0 0, .int .i64 0, .int .i64 0] : List Value).toArray 54 (0, 0)) := hbR
  refine bodyPost_ret (results_cellB rfl _ (w.heap.size + 1) 54 _ _ rfl hbR' Try.underlying54 rfl Try.sizeWType) rfl ?_
  exact PPost.of_ok HRE.out rfl ⟨_, rfl, noTyP _ _⟩ (HR2.out.step hstR (fun q hq e => by omega)) (((HS1.out.mono (fun _ _ h => h.elim)).trans HS2.out).then hstR (fun q hq e => by omega))
 | true =>
  have HB := Lib.hid hb
  clear hb
  refine (is_yes R HL.out ⟨#[45, 62]⟩ _ i d H1.out (by decide) HB.out).mono ?_
  rintro e w2 ⟨rfl, hr2, h2⟩
  have HRE : Hid (r = typR f R.l (i + 1) d) := by show _ = _; rw [HRR.out, HB.out, if_pos rfl]
  have HR2 := Lib.hid hr2
  have HS2 := Lib.hid h2
  clear hr2 h2 p0
  have p0 := HKP.out w2 HS2.out
  go_wp2_with fail
  refine (IH.out R _ (i + 1) d HL.out HR2.out hd (fun e => HNO.out (by rw [HRE.out, e]))).mono ?_
  rintro e wx hp
  have hp2 : PPost R d (TyV w2.heap.size) (typR f R.l (i + 1) d) _ e wx := hp
  cases hx : typR f R.l (i + 1) d with
  | out => exact absurd (by rw [HRE.out, hx]) HNO.out
  | err c ln col =>
   rw [hx] at hp2
   obtain ⟨rfl, sq⟩ := hp2
   exact ⟨rfl, PPost.of_err (c := c) (ln := ln) (col := col) (by rw [HRE.out, hx]) rfl (((HS1.out.mono (fun _ _ h => h.elim)).trans HS2.out).trans sq)⟩
  | ok ty jx =>
   have HX := Lib.hid hx
   rw [hx] at hp2
   obtain ⟨⟨v, rfl, cs, rfl, hy⟩, hrx, hsx⟩ := hp2
   obtain ⟨tk0, tn0, tl0, tm0, ta1, tn1, tc1, ta2, tn2, tc2, tl1, tc3, rfl⟩ := hy.parts
   have HY := Lib.hid hy
   have HRX := Lib.hid hrx
   have HSX := Lib.hid (HS2.out.trans hsx)
   have HNX := Lib.hid ((HS2.out.trans hsx).keep HN1.out (by omega))
   have hz2 := HS2.out.size
   clear hx hp hy hrx hsx p0
   go_wp2_with (refine wpList_store_part (w := wx) rfl 54 (.tmp 2) (.tmp 9) rfl (w.heap.size + 1) 0 54 _ [.int .i64 tk0, .string tn0, .string tl0, .bool tm0, .slice ta1 tn1 tc1, .slice ta2 tn2 tc2, .int .i64 tl1, .int .i64 tc3] rfl rfl HNX.out Try.sizeWType (Nat.le_of_eq rfl) (oneCells rfl) ?_
                intro wR hbR hstR)
   have hbR' : wR.heap[w.heap.size + 1]? = some (.cells [Value.int .i64 tk0, .string tn0, .string tl0, .bool tm0, .slice ta1 tn1 tc1, .slice ta2 tn2 tc2, .int .i64 tl1, .int .i64 tc3].toArray 54 (0, 0)) := hbR
   refine bodyPost_ret (results_cellB rfl _ (w.heap.size + 1) 54 _ _ rfl hbR' Try.underlying54 rfl Try.sizeWType) rfl ?_
   exact PPost.of_ok (by rw [HRE.out, HX.out]) rfl ⟨_, rfl, TyP.mono (fun q _ hq => by omega) _ _ (TyP.step hstR (fun q hq e => by omega) _ _ HY.out)⟩ (HRX.out.step hstR (fun q hq e => by omega)) (((HS1.out.mono (fun _ _ h => h.elim)).trans HSX.out).then hstR (fun q hq e => by omega))
theorem Try.sizeParam : (Try.prog.info? 105).map (·.size) = some 11 := by kernel_rfl
theorem Try.infoParam : (Try.prog.info? 105).map (fun i => (i.zero, i.size, i.bytes)) = some (some (.agg #[.string ⟨#[]⟩, .int .i64 0, .string ⟨#[]⟩, .string ⟨#[]⟩, .bool false, .slice none 0 0, .slice none 0 0, .int .i64 0, .int .i64 0, .int .i64 0, .int .i64 0]), 11, 144) := by kernel_rfl
def PmsV (n0 : Nat) (w' : World) (a : List Pm) (v : Value) : Prop := LsQ PmP w' (fun k => n0 ≤ k) a v
theorem params_any (f : Nat) (ih : ∀ f', f' < f → TypOk f') (R : Rdr) (w : World) (i d : Nat) (en : ByteArray) (m : Nat) (hl : LOk R.l) (h : RdAt R w i d) (hd : d ≤ 40) (hen : en.size ≤ 100000) (hm : m ≤ 1000) (hno : paramsR f R.l i d en.data.toList m ≠ .out) :
  Calls Try.prog 41 #[.agg #[.pointer (some ⟨R.rb, 0, none⟩)], .string en, .int .i64 m] w (PPost R d (PmsV w.heap.size) (paramsR f R.l i d en.data.toList m) w) := by
 have HL := Lib.hid hl
 have IH := Lib.hid ih
 obtain ⟨el, hel⟩ : ∃ el, el = en.data.toList := ⟨_, rfl⟩
 have HEL := Lib.hid hel
 have HEN := Lib.hid hen
 rw [← hel] at hno ⊢
 obtain ⟨r, hr⟩ : ∃ r, r = paramsR f R.l i d el m := ⟨_, rfl⟩
 have HRR : Hid (r = if isF R.l i el then .ok [] (i + 1) else parsR f R.l i d el m []) := by show _ = _; rw [hr, paramsR]
 rw [← hr] at hno ⊢
 have HNO := Lib.hid hno
 obtain ⟨i0, hi0, hz0, hz1, hz2⟩ := info_parts Try.infoParam
 have HI := Lib.hid hi0
 have HZ0 := Lib.hid hz0
 have HZ1 := Lib.hid hz1
 have HZ2 := Lib.hid hz2
 obtain ⟨w1, hw1⟩ : ∃ w1 : World, w1 = w.alloc (.cells #[.pointer (some ⟨R.rb, 0, none⟩)] 45) := ⟨_, rfl⟩
 have HS1 : Hid (Step (fun _ => False) w w1) := by show Step _ _ _; rw [hw1]; exact (Step.refl _ _).alloc _
 have HP1 : Hid (w1.heap[w.heap.size]? = some (.cells #[.pointer (some ⟨R.rb, 0, none⟩)] 45 (0, 0))) := by show _ = _; rw [hw1]; exact blk_new _ _
 have HW1 := Lib.hid hw1
 have H1 := Lib.hid (h.quiet HS1.out)
 have hn1 := blk_lt HP1.out
 have hrlt := blk_lt h.blk
 have hwz : R.rb < w1.heap.size := by omega
 have HKP : Hid (∀ X : World, Step (· = R.rb) w1 X → X.cell? ⟨w.heap.size, 0, none⟩ = some (.pointer (some ⟨R.rb, 0, none⟩))) := by
  show ∀ X, _
  intro X hX
  exact blk_cell (hX.keep HP1.out (by omega)) 0 _ rfl
 have HBK : Hid (∀ X : World, Step (· = R.rb) w1 X → Step (· = R.rb) w X) := by
  show ∀ X, _
  intro X hX
  exact (HS1.out.mono (fun _ _ h => h.elim)).trans hX
 clear hw1
 have p0 := HKP.out w1 (Step.refl _ _)
 have HIS : Hid (∀ X i, RdAt R X i d → isF R.l i el = true → Calls Try.prog 36 #[.pointer (some ⟨R.rb, 0, none⟩), .string en] X fun e w' => e = .returned (.bool true) ∧ RdAt R w' (i + 1) d ∧ Step (· = R.rb) X w') := by
  show ∀ X i, _
  intro X i hX hb
  exact is_yes R HL.out en X i d hX HEN.out (by rw [← HEL.out]; exact hb)
 have HISN : Hid (∀ X i, RdAt R X i d → isF R.l i el = false → Calls Try.prog 36 #[.pointer (some ⟨R.rb, 0, none⟩), .string en] X fun e w' => e = .returned (.bool false) ∧ RdAt R w' i d ∧ Step (· = R.rb) X w') := by
  show ∀ X i, _
  intro X i hX hb
  exact is_no R HL.out en X i d hX HEN.out (by rw [← HEL.out]; exact hb)
 have HND : Hid (∀ X g i, RdAt R X i d → X.cell? ⟨g, 0, none⟩ = some (.string en) → Calls Try.prog 40 #[.pointer (some ⟨R.rb, 0, none⟩), .slice (some ⟨g, 0, none⟩) 1 1] X (PPost R d UnitV (needR R.l i el) X)) := by
  show ∀ X g i, _
  intro X g i hX hc
  rw [HEL.out]
  exact need_any R HL.out g en X i d hX HEN.out hc
 clear ih hl h hno hr hel hen hi0 hz0 hz1 hz2
 go_enter Try.func41, Try.ntmps41
 go_upto_region 2 with fail
 rw [← HW1.out]
 go_wp2_with fail
 cases hb : isF R.l i el with
 | true =>
  have HB := Lib.hid hb
  clear hb
  refine (HIS.out _ i H1.out HB.out).mono ?_
  rintro e w2 ⟨rfl, hr2, h2⟩
  have HRE : Hid (r = .ok [] (i + 1)) := by show _ = _; rw [HRR.out, HB.out, if_pos rfl]
  have HR2 := Lib.hid hr2
  have HS2 := Lib.hid h2
  clear hr2 h2 p0
  go_wp2_with fail
  go_ret
  exact PPost.of_ok HRE.out rfl (LsQ.nil _ _) HR2.out (HBK.out _ HS2.out)
 | false =>
  have HB := Lib.hid hb
  clear hb
  refine (HISN.out _ i H1.out HB.out).mono ?_
  rintro e w2 ⟨rfl, hr2, h2⟩
  have HRE : Hid (r = parsR f R.l i d el m []) := by show _ = _; rw [HRR.out, HB.out, if_neg (by decide)]
  have HR2 := Lib.hid hr2
  have HS2 := Lib.hid h2
  clear hr2 h2 p0
  go_wp2_with fail
  go_loopg [7] f (fun gg s7 wr => gg ≤ f ∧ ∃ (i' : Nat) (acc : List Pm) (xs : List Value), r = parsR gg R.l i' d el m acc ∧ LqSt PmP 105 11 R w1 d wr i' acc s7 xs)
  case atStart => exact ⟨Nat.le_refl _, i, [], [], HRE.out, HR2.out, World.ownsRow_nil _ _ _ _, rfl, HS2.out⟩
  case round =>
   obtain ⟨hgf, i', acc, xs, hrq, hst⟩ := hrel
   obtain ⟨gn, rfl⟩ : ∃ gn, gk = gn + 1 := by
    cases gk with
    | zero => exact absurd hrq (by rw [parsR]; exact HNO.out)
    | succ gn => exact ⟨gn, rfl⟩
   obtain ⟨tk, htk⟩ : ∃ tk, tk = tokA R.l i' := ⟨_, rfl⟩
   have HEQ : Hid (r = (roomR acc.length m R.l i').bind fun _ i => (nameR R.l i).bind fun n j => (needR R.l j [58]).bind fun _ j => (typR gn R.l j d).bind fun ty j => if isF R.l j [44] then parsR gn R.l (j + 1) d el m (acc ++ [⟨n, ty, (tokA R.l i).line, (tokA R.l i).col⟩]) else (needR R.l j el).bind fun _ j => .ok (acc ++ [⟨n, ty, (tokA R.l i).line, (tokA R.l i).col⟩]) j) := by show _ = _; rw [hrq, parsR]
   obtain ⟨oa, oc, rfl⟩ := owns_slice hst.ow
   have HST := Lib.hid hst
   have p0 := HKP.out wr hst.st
   clear hrq hst
   go_wp2_with fail
   refine (room_any R wr acc.length m i' d HST.out.rd).mono ?_
   rintro e w3 hp
   cases hn : roomR acc.length m R.l i' with
   | out => exact (roomR_out hn).elim
   | err c ln col =>
    rw [hn] at hp
    obtain ⟨rfl, s3⟩ := hp
    exact ⟨rfl, PPost.of_err (c := c) (ln := ln) (col := col) (by rw [HEQ.out, hn]; rfl) rfl (HBK.out _ (HST.out.st.trans s3))⟩
   | ok u j =>
    have hji : j = i' ∧ acc.length < m := by
     unfold roomR at hn
     split at hn
     ·cases hn
     ·cases hn; exact ⟨rfl, by omega⟩
    obtain ⟨rfl, hlt⟩ := hji
    have HN3 := Lib.hid hn
    rw [hn] at hp
    obtain ⟨⟨v, rfl, rfl⟩, hr3, s3⟩ := hp
    have HST3 := Lib.hid (HST.out.read pmP_ok hwz hr3 s3)
    have HE3 : Hid (r = (nameR R.l j).bind fun n k => (needR R.l k [58]).bind fun _ j => (typR gn R.l j d).bind fun ty j => if isF R.l j [44] then parsR gn R.l (j + 1) d el m (acc ++ [⟨n, ty, tk.line, tk.col⟩]) else (needR R.l j el).bind fun _ j => .ok (acc ++ [⟨n, ty, tk.line, tk.col⟩]) j) := by show _ = _; rw [HEQ.out, HN3.out, htk]; rfl
    have HT := Lib.hid (show R.l[j]? = some tk by rw [htk]; exact HST3.out.rd.tok)
    have HW31 := HST3.out.st.size
    clear hn hr3 s3 p0 htk
    obtain ⟨r1, hr1⟩ : ∃ r1, r1 = nameR R.l j := ⟨_, rfl⟩
    have HR1 := Lib.hid hr1
    have HRN : Hid (r1 ≠ .out) := by show _ ≠ _; rw [hr1]; exact fun e => nameR_out e
    have HE4 : Hid (r = r1.bind fun n k => (needR R.l k [58]).bind fun _ j => (typR gn R.l j d).bind fun ty j => if isF R.l j [44] then parsR gn R.l (j + 1) d el m (acc ++ [⟨n, ty, tk.line, tk.col⟩]) else (needR R.l j el).bind fun _ j => .ok (acc ++ [⟨n, ty, tk.line, tk.col⟩]) j) := by show _ = _; rw [HE3.out, hr1]
    obtain ⟨Jx, hJx⟩ : ∃ Jx : (Nat → Bool) → (Nat → Value) → World → Prop, Jx = AJ R j d w3 #[.string ⟨#[]⟩, .int .i64 0, .string ⟨#[]⟩, .string ⟨#[]⟩, .bool false, .slice none 0 0, .slice none 0 0, .int .i64 0, .int .i64 0, .int .i64 0, .int .i64 0] (fun s => #[.string s, .int .i64 0, .string ⟨#[]⟩, .string ⟨#[]⟩, .bool false, .slice none 0 0, .slice none 0 0, .int .i64 0, .int .i64 0, .int .i64 tk.line, .int .i64 tk.col]) 105 r1 5 6 7 8 [some (.pointer (some ⟨w.heap.size, 0, none⟩)), some (.pointer (some ⟨R.rb, 0, none⟩)), some (.agg #[.int .i64 tk.line, .int .i64 tk.col]), some (.pointer (some ⟨w.heap.size, 0, none⟩)), some (.pointer (some ⟨R.rb, 0, none⟩)), none, none, none, none] := ⟨_, rfl⟩
    have HJX := Lib.hid hJx
    clear hJx hr1
    go_upto_region 5 with fail
    go_cut [8] (fun s8 wx => ∃ (nm : ByteArray) (k b : Nat), nameR R.l j = .ok nm k ∧ s8 = .pointer (some ⟨b, 0, none⟩) ∧ RdAt R wx k d ∧ w3.heap.size ≤ b ∧ wx.heap[b]? = some (.cells #[.string nm, .int .i64 0, .string ⟨#[]⟩, .string ⟨#[]⟩, .bool false, .slice none 0 0, .slice none 0 0, .int .i64 0, .int .i64 0, .int .i64 tk.line, .int .i64 tk.col] 105 (0, 0)) ∧ Step (· = R.rb) w3 wx)
    case first =>
     have HP3 : Hid (∀ X : World, Step (· = R.rb) w3 X → X.cell? ⟨w.heap.size, 0, none⟩ = some (.pointer (some ⟨R.rb, 0, none⟩))) := by
      show ∀ X, _
      intro X hX
      exact HKP.out X (HST3.out.st.trans hX)
     refine wp_region_relyD (by kernel_rfl) Jx 9 rfl (by kernel_rfl) (by kernel_rfl) (by kernel_rfl) (by kernel_rfl) ?h0 ?hs ?hdone
     case h0 => rw [HJX.out]; exact AJ.zero ((Step.refl _ _).drew) HST3.out.rd
     case hs =>
      refine ⟨?_, ?_, ?_, ?_, ?_, ?_, ?_, ?_, ?_, trivial⟩
      ·intro L V X a ev evo hdf hL hdep hJ
       rw [HJX.out] at hJ
       have o3 := evo 3 rfl
       change a.tmps[3]?.getD undef = .pointer (some ⟨w.heap.size, 0, none⟩) at o3
       go_simp
       exact ⟨_, rfl, by rw [HJX.out]; exact hJ.up 0 rfl (by decide) (by decide) (by decide) (by decide)⟩
      ·intro L V X a ev evo hdf hL hdep hJ
       rw [HJX.out] at hJ
       have e19 := (ev 0 19 rfl (hdep 0 rfl)).trans (hJ.det 0 _ rfl (hdep 0 rfl))
       have p0 := HP3.out X hJ.st
       go_simp
       exact ⟨_, rfl, by rw [HJX.out]; exact hJ.up 1 rfl (by decide) (by decide) (by decide) (by decide)⟩
      ·intro L V X a ev evo hdf hL hdep hJ
       rw [HJX.out] at hJ
       have e20 := (ev 1 20 rfl (hdep 1 rfl)).trans (hJ.det 1 _ rfl (hdep 1 rfl))
       have h5 : L 5 = false := by
        cases e : L 5 with
        | false => rfl
        | true => exact absurd (hJ.qc e) (by rw [hL]; decide)
       obtain ⟨i9, y1, y2⟩ := hJ.rd
       rw [h5] at y2
       have y3 : i9 = j := y2
       subst y3
       go_simp
       refine (at_at R X i9 d tk y1 HT.out).mono ?_
       rintro e wq ⟨rfl, hs⟩
       exact ⟨_, rfl, by rw [HJX.out]; exact (hJ.move hs).up 2 rfl (by decide) (by decide) (by decide) (by decide)⟩
      ·intro L V X a ev evo hdf hL hdep hJ
       rw [HJX.out] at hJ
       have o3 := evo 3 rfl
       change a.tmps[3]?.getD undef = .pointer (some ⟨w.heap.size, 0, none⟩) at o3
       go_simp
       exact ⟨_, rfl, by rw [HJX.out]; exact hJ.up 3 rfl (by decide) (by decide) (by decide) (by decide)⟩
      ·intro L V X a ev evo hdf hL hdep hJ
       rw [HJX.out] at hJ
       have e22 := (ev 3 22 rfl (hdep 3 rfl)).trans (hJ.det 3 _ rfl (hdep 3 rfl))
       have p0 := HP3.out X hJ.st
       go_simp
       exact ⟨_, rfl, by rw [HJX.out]; exact hJ.up 4 rfl (by decide) (by decide) (by decide) (by decide)⟩
      ·intro L V X a ev evo hdf hL hdep hJ
       rw [HJX.out] at hJ
       have e23 := (ev 4 23 rfl (hdep 4 rfl)).trans (hJ.det 4 _ rfl (hdep 4 rfl))
       obtain ⟨i9, y1, y2⟩ := hJ.rd
       rw [hL] at y2
       have y3 : i9 = j := y2
       subst y3
       go_simp
       refine (name_any R HL.out X i9 d y1).mono ?_
       intro e wq hp
       rw [← HR1.out] at hp
       cases hx : r1 with
       | out => exact absurd hx HRN.out
       | err cc ln col =>
        rw [hx] at hp
        obtain ⟨rfl, hs⟩ := hp
        exact ⟨hdf, PPost.of_err (c := cc) (ln := ln) (col := col) (by rw [HE4.out, hx]; rfl) rfl (HBK.out _ ((HST3.out.st.trans hJ.st).trans hs))⟩
       | ok s9 k9 =>
        have hx0 := hx
        rw [hx] at hp
        obtain ⟨⟨v, rfl, rfl⟩, hr, hs⟩ := hp
        exact ⟨_, rfl, by rw [HJX.out]; exact hJ.call (by decide) (by omega) hL (hdep 2 rfl) rfl hs hr hx0⟩
      ·intro L V X a ev evo hdf hL hdep hJ
       rw [HJX.out] at hJ
       have e21 := (ev 2 21 rfl (hdep 2 rfl)).trans (hJ.det 2 _ rfl (hdep 2 rfl))
       obtain ⟨s9, k9, y1, y2⟩ := hJ.vc (hdep 5 rfl)
       have e24 := (ev 5 24 rfl (hdep 5 rfl)).trans y2
       go_simp
       exact ⟨_, rfl, by rw [HJX.out]; exact hJ.build (by decide) (hdep 5 rfl) hL rfl y2⟩
      ·intro L V X a ev evo hdf hL hdep hJ
       rw [HJX.out] at hJ
       go_simp
       exact ⟨_, rfl, by rw [HJX.out]; exact hJ.alloc (by decide) hL rfl⟩
      ·intro L V X a ev evo hdf hL hdep hJ
       rw [HJX.out] at hJ
       obtain ⟨b9, y1, y2, y3, -⟩ := hJ.vl (hdep 7 rfl)
       obtain ⟨s9, k9, y4, y5⟩ := hJ.vb (hdep 6 rfl)
       have e8 := (ev 7 8 rfl (hdep 7 rfl)).trans y1
       have e25 := (ev 6 25 rfl (hdep 6 rfl)).trans y5
       refine wp_store_part 105 (.tmp 8) (.tmp 25) rfl b9 0 105 _ [.string s9, .int .i64 0, .string ⟨#[]⟩, .string ⟨#[]⟩, .bool false, .slice none 0 0, .slice none 0 0, .int .i64 0, .int .i64 0, .int .i64 tk.line, .int .i64 tk.col] (by rw [evalTmp]; exact e8) (by rw [evalTmp]; exact e25) (y3 hL) Try.sizeParam (Nat.le_of_eq rfl) (oneCells rfl) ?_
       intro w9 hb9 hs9
       exact ⟨undef, rfl, by rw [HJX.out]; exact hJ.put (by decide) (by omega) (hdep 6 rfl) (hdep 7 rfl) (fun u hu => by cases hu) y4 y1 hs9 hb9 undef⟩
     case hdone =>
      intro L V X hall hJ
      rw [HJX.out] at hJ
      obtain ⟨s9, k9, b9, h1, h2, h3, h4, h5, h6⟩ := hJ.done (hall 5 (by decide)) (hall 7 (by decide)) (hall 8 (by decide))
      have HD1 : Hid (nameR R.l j = .ok s9 k9) := by show _ = _; rw [← HR1.out]; exact h1
      have HD3 := Lib.hid h3
      have HD5 := Lib.hid h5
      have HD6 := Lib.hid h6
      rw [show List.range 9 = [0, 1, 2, 3, 4, 5, 6, 7, 8] from rfl]
      simp only [putF, dstO, List.getElem?_toArray, List.getElem?_cons_zero, List.getElem?_cons_succ, Option.bind_some, Act.put, List.setIfInBounds_toArray, List.set_cons_zero, List.set_cons_succ, h2]
      clear hJ hall h1 h2 h3 h5 h6
      go_wp2_with fail
      go_meet
      case rel => exact ⟨s9, k9, b9, HD1.out, rfl, HD3.out, h4, HD5.out, HD6.out⟩
    case rest =>
     obtain ⟨nm, k, b, hnm, rfl, hr5, hb5, hblk5, hs5⟩ := hcut
     obtain ⟨w5, rfl⟩ : ∃ w5 : World, w5 = wc := ⟨_, rfl⟩
     have HNM := Lib.hid hnm
     have HNZ := Lib.hid (nameR_size HL.out HST3.out.rd.lt hnm)
     have HR5 := Lib.hid hr5
     have HB5 := Lib.hid hblk5
     have HS5 := Lib.hid hs5
     have HE5 : Hid (r = (needR R.l k [58]).bind fun _ j => (typR gn R.l j d).bind fun ty j => if isF R.l j [44] then parsR gn R.l (j + 1) d el m (acc ++ [⟨nm, ty, tk.line, tk.col⟩]) else (needR R.l j el).bind fun _ j => .ok (acc ++ [⟨nm, ty, tk.line, tk.col⟩]) j) := by show _ = _; rw [HE3.out, HNM.out]; rfl
     clear hnm hr5 hblk5 hs5
     have p0 := HKP.out w5 (HST3.out.st.trans HS5.out)
     go_wp2_with fail
     refine (need_any R HL.out w5.heap.size ⟨#[58]⟩ _ k d (HR5.out.quiet ((Step.refl _ _).alloc _)) (by decide) (blk_cell (blk_new _ _) 0 _ rfl)).mono ?_
     rintro e w6 hp
     have hp2 : PPost R d UnitV (needR R.l k [58]) _ e w6 := hp
     cases hn : needR R.l k [58] with
     | out => exact (needR_out hn).elim
     | err c ln col =>
      rw [hn] at hp2
      obtain ⟨rfl, sb⟩ := hp2
      exact ⟨rfl, PPost.of_err (c := c) (ln := ln) (col := col) (by rw [HE5.out, hn]; rfl) rfl (HBK.out _ ((HST3.out.st.trans HS5.out).trans (((Step.refl (· = R.rb) _).alloc _).trans sb)))⟩
     | ok u2 k6 =>
      have HN6 := Lib.hid hn
      rw [hn] at hp2
      obtain ⟨⟨v, rfl, rfl⟩, hr6, s6⟩ := hp2
      have HS56 : Hid (Step (· = R.rb) w5 w6) := ((Step.refl (· = R.rb) _).alloc _).trans s6
      have HR6 := Lib.hid hr6
      have HB6 := Lib.hid (HS56.out.keep HB5.out (by omega))
      have HS6 := Lib.hid (HS5.out.trans HS56.out)
      have HE6 : Hid (r = (typR gn R.l k6 d).bind fun ty j => if isF R.l j [44] then parsR gn R.l (j + 1) d el m (acc ++ [⟨nm, ty, tk.line, tk.col⟩]) else (needR R.l j el).bind fun _ j => .ok (acc ++ [⟨nm, ty, tk.line, tk.col⟩]) j) := by show _ = _; rw [HE5.out, HN6.out]; rfl
      clear hn hr6 s6 p0 hp
      have p0 := HKP.out w6 (HST3.out.st.trans HS6.out)
      go_wp2_with fail
      refine (IH.out gn (by omega) R _ k6 d HL.out HR6.out hd (fun e => HNO.out (by rw [HE6.out, e]; rfl))).mono ?_
      rintro e wx hp
      have hp2 : PPost R d (TyV w6.heap.size) (typR gn R.l k6 d) _ e wx := hp
      cases hx : typR gn R.l k6 d with
      | out => exact absurd (by rw [HE6.out, hx]; rfl) HNO.out
      | err c ln col =>
       rw [hx] at hp2
       obtain ⟨rfl, sq⟩ := hp2
       exact ⟨rfl, PPost.of_err (c := c) (ln := ln) (col := col) (by rw [HE6.out, hx]; rfl) rfl (HBK.out _ ((HST3.out.st.trans HS6.out).trans sq))⟩
      | ok ty jx =>
       have HX := Lib.hid hx
       rw [hx] at hp2
       obtain ⟨⟨v, rfl, cs, rfl, hy⟩, hrx, hsx⟩ := hp2
       obtain ⟨tk0, tn0, tl0, tm0, ta1, tn1, tc1, ta2, tn2, tc2, tl1, tc3, rfl⟩ := hy.parts
       have HY := Lib.hid hy
       have HRX := Lib.hid hrx
       have HSX := Lib.hid (HS6.out.trans hsx)
       have HBX := Lib.hid (hsx.keep HB6.out (by omega))
       have HE7 : Hid (r = if isF R.l jx [44] then parsR gn R.l (jx + 1) d el m (acc ++ [⟨nm, ty, tk.line, tk.col⟩]) else (needR R.l jx el).bind fun _ j => .ok (acc ++ [⟨nm, ty, tk.line, tk.col⟩]) j) := by show _ = _; rw [HE6.out, HX.out]; rfl
       have hz5 := HS5.out.size
       have hz6 := HS56.out.size
       have hzx := hsx.size
       have hbx := blk_lt HBX.out
       clear hx hp hy hrx hsx p0
       go_upto_region 8 with (refine wpList_store_part (w := wx) rfl 54 (.tmp 32) (.tmp 31) rfl b 1 105 _ [Value.int .i64 tk0, .string tn0, .string tl0, .bool tm0, .slice ta1 tn1 tc1, .slice ta2 tn2 tc2, .int .i64 tl1, .int .i64 tc3] rfl rfl HBX.out Try.sizeWType (show 1 + 8 ≤ 11 by decide) (oneCells rfl) ?_
                              intro w7 hb7 hst7)
       have HB7 : Hid (w7.heap[b]? = some (.cells #[.string nm, .int .i64 tk0, .string tn0, .string tl0, .bool tm0, .slice ta1 tn1 tc1, .slice ta2 tn2 tc2, .int .i64 tl1, .int .i64 tc3, .int .i64 tk.line, .int .i64 tk.col] 105 (0, 0))) := hb7
       have HS7 : Hid (Step (· = R.rb) w3 w7) := HSX.out.then hst7 (fun q hq e => by omega)
       have HR7 := Lib.hid (HRX.out.step hst7 (fun q hq e => by omega))
       have HY7 : Hid (TyP w7 (fun q => w3.heap.size ≤ q ∧ q ≠ b) ty [Value.int .i64 tk0, .string tn0, .string tl0, .bool tm0, .slice ta1 tn1 tc1, .slice ta2 tn2 tc2, .int .i64 tl1, .int .i64 tc3]) := TyP.mono (fun q _ hq => ⟨by have := hq.1; omega, hq.2⟩) _ _ (TyP.step hst7 (fun q hq e => hq.2 e) _ _ (TyP.mono (P' := fun q => w6.heap.size ≤ q ∧ q ≠ b) (fun q _ hq => ⟨hq, by have := blk_lt HB6.out; omega⟩) _ _ HY.out))
       clear hb7 hst7
       have HLD : Hid (∀ (jj : Nat) v, [Value.string nm, .int .i64 tk0, .string tn0, .string tl0, .bool tm0, .slice ta1 tn1 tc1, .slice ta2 tn2 tc2, .int .i64 tl1, .int .i64 tc3, .int .i64 tk.line, .int .i64 tk.col][jj]? = some v → w7.cell? ⟨b, 0 + jj, none⟩ = some v) := by
        show ∀ jj v, _
        intro jj v hv
        rw [Nat.zero_add]; exact blk_cell HB7.out jj v (by simpa using hv)
       obtain ⟨w4, hw4⟩ : ∃ w4 : World, w4 = w7.alloc (.cells [Value.string nm, .int .i64 tk0, .string tn0, .string tl0, .bool tm0, .slice ta1 tn1 tc1, .slice ta2 tn2 tc2, .int .i64 tl1, .int .i64 tc3, .int .i64 tk.line, .int .i64 tk.col].toArray 105) := ⟨_, rfl⟩
       have HS4 : Hid (Step (fun _ => False) w7 w4) := by show Step _ _ _; rw [hw4]; exact (Step.refl _ _).alloc _
       have HST4 := Lib.hid ((HST3.out.read pmP_ok hwz HR7.out HS7.out).quiet pmP_ok HS4.out)
       have HY4 : Hid (PmP w4 (fun q => w3.heap.size ≤ q) ⟨nm, ty, tk.line, tk.col⟩ [Value.string nm, .int .i64 tk0, .string tn0, .string tl0, .bool tm0, .slice ta1 tn1 tc1, .slice ta2 tn2 tc2, .int .i64 tl1, .int .i64 tc3, .int .i64 tk.line, .int .i64 tk.col]) := ⟨[Value.int .i64 tk0, .string tn0, .string tl0, .bool tm0, .slice ta1 tn1 tc1, .slice ta2 tn2 tc2, .int .i64 tl1, .int .i64 tc3], rfl, HNZ.out, TyP.mono (fun q _ hq => hq.1) _ _ (TyP.step HS4.out (fun _ _ h => h) _ _ HY7.out)⟩
       have HOW4 : Hid ((w7.alloc (.cells [Value.string nm, .int .i64 tk0, .string tn0, .string tl0, .bool tm0, .slice ta1 tn1 tc1, .slice ta2 tn2 tc2, .int .i64 tl1, .int .i64 tc3, .int .i64 tk.line, .int .i64 tk.col].toArray 105)).ownsRow w1.heap.size 105 11 (.slice oa acc.length oc) acc.length xs) := by show World.ownsRow _ _ _ _ _ _ _; rw [← hw4]; exact HST4.out.ow
       have HROW4 : Hid (Row (w7.alloc (.cells [Value.string nm, .int .i64 tk0, .string tn0, .string tl0, .bool tm0, .slice ta1 tn1 tc1, .slice ta2 tn2 tc2, .int .i64 tl1, .int .i64 tc3, .int .i64 tk.line, .int .i64 tk.col].toArray 105)) (w7.heap.size + 1) (.slice (some ⟨w7.heap.size, 0, none⟩) 1 1) 1 [Value.string nm, .int .i64 tk0, .string tn0, .string tl0, .bool tm0, .slice ta1 tn1 tc1, .slice ta2 tn2 tc2, .int .i64 tl1, .int .i64 tc3, .int .i64 tk.line, .int .i64 tk.col]) := Row.new (blk_new _ _) (by decide)
       have HLE4 : Hid (w1.heap.size ≤ (w7.alloc (.cells [Value.string nm, .int .i64 tk0, .string tn0, .string tl0, .bool tm0, .slice ta1 tn1 tc1, .slice ta2 tn2 tc2, .int .i64 tl1, .int .i64 tc3, .int .i64 tk.line, .int .i64 tk.col].toArray 105)).heap.size) := by show _ ≤ _; rw [← hw4]; exact HST4.out.st.size
       have HW4 := Lib.hid hw4
       have HLT := Lib.hid hlt
       have HMM := Lib.hid hm
       have HONE : Hid (∀ u ∈ [Value.string nm, .int .i64 tk0, .string tn0, .string tl0, .bool tm0, .slice ta1 tn1 tc1, .slice ta2 tn2 tc2, .int .i64 tl1, .int .i64 tc3, .int .i64 tk.line, .int .i64 tk.col], u.oneCell' = true) := oneCells rfl
       clear hw4 hlt hm
       go_upto_region 9 with (first
        | (refine wpList_load_whole rfl 105 (.tmp 8) rfl b 0 rfl [Value.string nm, .int .i64 tk0, .string tn0, .string tl0, .bool tm0, .slice ta1 tn1 tc1, .slice ta2 tn2 tc2, .int .i64 tl1, .int .i64 tc3, .int .i64 tk.line, .int .i64 tk.col] _ HLD.out Try.underlying105 rfl Try.sizeParam ?_)
        | (refine wpList_slice_one rfl 51 (.tmp 34) rfl 105 i0 (.agg #[.string ⟨#[]⟩, .int .i64 0, .string ⟨#[]⟩, .string ⟨#[]⟩, .bool false, .slice none 0 0, .slice none 0 0, .int .i64 0, .int .i64 0, .int .i64 0, .int .i64 0]) [Value.string nm, .int .i64 tk0, .string tn0, .string tl0, .bool tm0, .slice ta1 tn1 tc1, .slice ta2 tn2 tc2, .int .i64 tl1, .int .i64 tc3, .int .i64 tk.line, .int .i64 tk.col] rfl Try.underlying51 HI.out HZ0.out HZ1.out rfl (by decide) (by decide) ?_)
        | (refine wpList_append_row _ rfl (w7.heap.size + 1) (.tmp 33) (.tmp 35) 51 rfl w1.heap.size 105 i0 (.agg #[.string ⟨#[]⟩, .int .i64 0, .string ⟨#[]⟩, .string ⟨#[]⟩, .bool false, .slice none 0 0, .slice none 0 0, .int .i64 0, .int .i64 0, .int .i64 0, .int .i64 0]) 11 144 Try.underlying51 HI.out HZ0.out HZ1.out HZ2.out rfl (by decide) _ _ _ (by rfl) HOW4.out _ 1 _ (by rfl) HROW4.out rfl HONE.out (by have := HLT.out; have := HMM.out; unfold maxLen; omega) (by have := HLT.out; have := HMM.out; omega) HLE4.out ?_
           intro v9 w9 hown9 hgrow9 hat9))
       rw [← HW4.out] at hgrow9 hat9
       have HST9 := Lib.hid (HST3.out.push pmP_ok HST4.out HY4.out hown9 hgrow9 hat9 hwz)
       clear hown9 hgrow9 hat9
       have p0 := HKP.out w9 HST9.out.st
       go_wp2_with fail
       cases hc : isF R.l jx [44] with
       | true =>
        have HC9 := Lib.hid hc
        clear hc
        refine (is_yes R HL.out ⟨#[44]⟩ _ jx d HST9.out.rd (by decide) HC9.out).mono ?_
        rintro e w6 ⟨rfl, hr6, s6⟩
        have HST6 := Lib.hid (HST9.out.read pmP_ok hwz hr6 s6)
        have HRZ : Hid (r = parsR gn R.l (jx + 1) d el m (acc ++ [⟨nm, ty, tk.line, tk.col⟩])) := by show _ = _; rw [HE7.out, HC9.out, if_pos rfl]
        clear hr6 s6 p0
        go_wp2_with fail
        go_roundg gn
        case rel => exact ⟨by omega, jx + 1, _, _, HRZ.out, HST6.out⟩
        case measure => omega
       | false =>
        have HC9 := Lib.hid hc
        clear hc
        refine (is_no R HL.out ⟨#[44]⟩ _ jx d HST9.out.rd (by decide) HC9.out).mono ?_
        rintro e wa ⟨rfl, hra, sa⟩
        have HSTA := Lib.hid (HST9.out.read pmP_ok hwz hra sa)
        have HRZ : Hid (r = (needR R.l jx el).bind fun _ j => .ok (acc ++ [⟨nm, ty, tk.line, tk.col⟩]) j) := by show _ = _; rw [HE7.out, HC9.out, if_neg (by decide)]
        clear hra sa p0
        have p0 := HKP.out wa HSTA.out.st
        go_wp2_with fail
        refine (HND.out _ wa.heap.size jx (HSTA.out.rd.quiet ((Step.refl _ _).alloc _)) (blk_cell (blk_new _ _) 0 _ rfl)).mono ?_
        rintro e wb hp
        have hp2 : PPost R d UnitV (needR R.l jx el) _ e wb := hp
        cases hn : needR R.l jx el with
        | out => exact (needR_out hn).elim
        | err c ln col =>
         rw [hn] at hp2
         obtain ⟨rfl, sb⟩ := hp2
         exact ⟨rfl, PPost.of_err (c := c) (ln := ln) (col := col) (by rw [HRZ.out, hn]; rfl) rfl (HBK.out _ (HSTA.out.st.trans (((Step.refl (· = R.rb) _).alloc _).trans sb)))⟩
        | ok u3 jz =>
         have HNB := Lib.hid hn
         rw [hn] at hp2
         obtain ⟨⟨v, rfl, rfl⟩, hrb2, sb⟩ := hp2
         have HSTB := Lib.hid (HSTA.out.read pmP_ok hwz hrb2 (((Step.refl (· = R.rb) _).alloc _).trans sb))
         have HRF : Hid (r = .ok (acc ++ [⟨nm, ty, tk.line, tk.col⟩]) jz) := by show _ = _; rw [HRZ.out, HNB.out]; rfl
         clear hn hrb2 sb p0 hp
         go_wp2_with fail
         go_ret
         have hsz := HS1.out.size
         exact PPost.of_ok HRF.out rfl ⟨_, RowP.of_owns HSTB.out.ow (fun q hq => by have := (HSTB.out.ow.lt q hq).1; omega), LsP.mono pmP_ok (fun q _ hq => by have := hq.1; omega) _ _ HSTB.out.el⟩ HSTB.out.rd (HBK.out _ HSTB.out.st)
theorem head_any (R : Rdr) (w : World) (i d : Nat) (hl : LOk R.l) (h : RdAt R w i d) :
  Calls Try.prog 43 #[.agg #[.pointer (some ⟨R.rb, 0, none⟩)]] w (PPost R d StrV (headR R.l i) w) := by
 have HL := Lib.hid hl
 obtain ⟨r, hr⟩ : ∃ r, r = headR R.l i := ⟨_, rfl⟩
 have HRR : Hid (r = if isF R.l i [105, 110, 116] then .ok ⟨#[105, 110, 116]⟩ (i + 1) else if isF R.l i [98, 111, 111, 108] then .ok ⟨#[98, 111, 111, 108]⟩ (i + 1) else if isF R.l i [102, 54, 52] then .ok ⟨#[102, 54, 52]⟩ (i + 1) else nameR R.l i) := by show _ = _; rw [hr, headR]
 rw [← hr]
 have hrlt := blk_lt h.blk
 obtain ⟨w1, hw1⟩ : ∃ w1 : World, w1 = (w.alloc (.cells #[.pointer (some ⟨R.rb, 0, none⟩)] 45)).alloc (.cells #[.string ⟨#[105, 110, 116]⟩, .string ⟨#[98, 111, 111, 108]⟩, .string ⟨#[102, 54, 52]⟩] 9) := ⟨_, rfl⟩
 have HS1 : Hid (Step (fun _ => False) w w1) := by show Step _ _ _; rw [hw1]; exact ((Step.refl _ _).alloc _).alloc _
 have HP1 : Hid (w1.heap[w.heap.size]? = some (.cells #[.pointer (some ⟨R.rb, 0, none⟩)] 45 (0, 0))) := by show _ = _; rw [hw1]; exact blk_alloc (blk_new _ _)
 have HN1 : Hid (w1.heap[w.heap.size + 1]? = some (.cells #[.string ⟨#[105, 110, 116]⟩, .string ⟨#[98, 111, 111, 108]⟩, .string ⟨#[102, 54, 52]⟩] 9 (0, 0))) := by show _ = _; rw [hw1]; exact blk_new2 _ _ _
 have HW1 := Lib.hid hw1
 have H1 := Lib.hid (h.quiet HS1.out)
 have hn1 := blk_lt HN1.out
 have HBK : Hid (∀ X : World, Step (· = R.rb) w1 X → Step (· = R.rb) w X) := by
  show ∀ X, _
  intro X hX
  exact (HS1.out.mono (fun _ _ h => h.elim)).trans hX
 have HKP : Hid (∀ X : World, Step (· = R.rb) w1 X → X.cell? ⟨w.heap.size, 0, none⟩ = some (.pointer (some ⟨R.rb, 0, none⟩))) := by
  show ∀ X, _
  intro X hX
  exact blk_cell (hX.keep HP1.out (by omega)) 0 _ rfl
 have HKN : Hid (∀ X : World, Step (· = R.rb) w1 X → X.heap[w.heap.size + 1]? = some (.cells #[.string ⟨#[105, 110, 116]⟩, .string ⟨#[98, 111, 111, 108]⟩, .string ⟨#[102, 54, 52]⟩] 9 (0, 0))) := by
  show ∀ X, _
  intro X hX
  exact hX.keep HN1.out (by omega)
 clear hl h hr hw1
 go_enter Try.func43, Try.ntmps43
 go_upto_block 0 with fail
 have hx1 : (w.alloc (.cells #[.pointer (some ⟨R.rb, 0, none⟩)] 45)).alloc (.cells #[.string ⟨#[105, 110, 116]⟩, .string ⟨#[98, 111, 111, 108]⟩, .string ⟨#[102, 54, 52]⟩] 9) = w1 := HW1.out.symm
 rw [hx1]
 clear hx1
 go_wp2_with fail
 go_loopg [4, 7] 3 (fun gg s4 s7 wr => ∃ k : Nat, s7 = .int .i64 k ∧ k ≤ 3 ∧ 3 - k ≤ gg ∧ (1 ≤ k → isF R.l i [105, 110, 116] = false) ∧ (2 ≤ k → isF R.l i [98, 111, 111, 108] = false) ∧ (3 ≤ k → isF R.l i [102, 54, 52] = false) ∧ RdAt R wr i d ∧ Step (· = R.rb) w1 wr)
 case atStart => exact ⟨0, rfl, by omega, by omega, (fun h => by omega), (fun h => by omega), (fun h => by omega), H1.out, Step.refl _ _⟩
 case round =>
  obtain ⟨k, rfl, hk, hgg, hf0, hf1, hf2, hrd, hst⟩ := hrel
  have HR := Lib.hid hrd
  have HST := Lib.hid hst
  have p0 := HKP.out wr hst
  have q0 := blk_cell (HKN.out wr hst) 0 _ rfl
  have q1 := blk_cell (HKN.out wr hst) 1 _ rfl
  have q2 := blk_cell (HKN.out wr hst) 2 _ rfl
  have HF := Lib.hid (And.intro hf0 (And.intro hf1 hf2))
  clear hrd hst hf0 hf1 hf2
  rcases (show k = 0 ∨ k = 1 ∨ k = 2 ∨ k = 3 by omega) with rfl | rfl | rfl | rfl
  ·clear hk
   go_wp2_with fail
   cases hb : isF R.l i [105, 110, 116] with
   | true =>
    have HB := Lib.hid hb
    clear hb
    refine (is_yes R HL.out ⟨#[105, 110, 116]⟩ _ i d HR.out (by decide) HB.out).mono ?_
    rintro e w4 ⟨rfl, hr4, h4⟩
    have HR4 := Lib.hid hr4
    have HS4 := Lib.hid h4
    clear hr4 h4 q0 q1 q2 p0
    go_wp2_with fail
    go_ret
    exact PPost.of_ok (by rw [HRR.out, HB.out, if_pos rfl]) rfl rfl HR4.out (HBK.out _ (HST.out.trans HS4.out))
   | false =>
    have HB := Lib.hid hb
    clear hb
    refine (is_no R HL.out ⟨#[105, 110, 116]⟩ _ i d HR.out (by decide) HB.out).mono ?_
    rintro e w4 ⟨rfl, hr4, h4⟩
    have HR4 := Lib.hid hr4
    have HS4 := Lib.hid h4
    clear hr4 h4 q0 q1 q2 p0
    go_wp2_with fail
    go_roundg (gk - 1)
    case rel => exact ⟨1, rfl, by omega, by omega, (fun _ => HB.out), (fun h => by omega), (fun h => by omega), HR4.out, HST.out.trans HS4.out⟩
    case measure => omega
  ·clear hk
   go_wp2_with fail
   cases hb : isF R.l i [98, 111, 111, 108] with
   | true =>
    have HB := Lib.hid hb
    clear hb
    refine (is_yes R HL.out ⟨#[98, 111, 111, 108]⟩ _ i d HR.out (by decide) HB.out).mono ?_
    rintro e w4 ⟨rfl, hr4, h4⟩
    have HR4 := Lib.hid hr4
    have HS4 := Lib.hid h4
    clear hr4 h4 q0 q1 q2 p0
    go_wp2_with fail
    go_ret
    exact PPost.of_ok (by rw [HRR.out, if_neg (by rw [HF.out.1 (by omega)]; decide), HB.out, if_pos rfl]) rfl rfl HR4.out (HBK.out _ (HST.out.trans HS4.out))
   | false =>
    have HB := Lib.hid hb
    clear hb
    refine (is_no R HL.out ⟨#[98, 111, 111, 108]⟩ _ i d HR.out (by decide) HB.out).mono ?_
    rintro e w4 ⟨rfl, hr4, h4⟩
    have HR4 := Lib.hid hr4
    have HS4 := Lib.hid h4
    clear hr4 h4 q0 q1 q2 p0
    go_wp2_with fail
    go_roundg (gk - 1)
    case rel => exact ⟨2, rfl, by omega, by omega, (fun _ => HF.out.1 (by omega)), (fun _ => HB.out), (fun h => by omega), HR4.out, HST.out.trans HS4.out⟩
    case measure => omega
  ·clear hk
   go_wp2_with fail
   cases hb : isF R.l i [102, 54, 52] with
   | true =>
    have HB := Lib.hid hb
    clear hb
    refine (is_yes R HL.out ⟨#[102, 54, 52]⟩ _ i d HR.out (by decide) HB.out).mono ?_
    rintro e w4 ⟨rfl, hr4, h4⟩
    have HR4 := Lib.hid hr4
    have HS4 := Lib.hid h4
    clear hr4 h4 q0 q1 q2 p0
    go_wp2_with fail
    go_ret
    exact PPost.of_ok (by rw [HRR.out, if_neg (by rw [HF.out.1 (by omega)]; decide), if_neg (by rw [HF.out.2.1 (by omega)]; decide), HB.out, if_pos rfl]) rfl rfl HR4.out (HBK.out _ (HST.out.trans HS4.out))
   | false =>
    have HB := Lib.hid hb
    clear hb
    refine (is_no R HL.out ⟨#[102, 54, 52]⟩ _ i d HR.out (by decide) HB.out).mono ?_
    rintro e w4 ⟨rfl, hr4, h4⟩
    have HR4 := Lib.hid hr4
    have HS4 := Lib.hid h4
    clear hr4 h4 q0 q1 q2 p0
    go_wp2_with fail
    go_roundg (gk - 1)
    case rel => exact ⟨3, rfl, by omega, by omega, (fun _ => HF.out.1 (by omega)), (fun _ => HF.out.2.1 (by omega)), (fun _ => HB.out), HR4.out, HST.out.trans HS4.out⟩
    case measure => omega
  ·clear hk
   have HE : Hid (r = nameR R.l i) := by show _ = _; rw [HRR.out, if_neg (by rw [HF.out.1 (by omega)]; decide), if_neg (by rw [HF.out.2.1 (by omega)]; decide), if_neg (by rw [HF.out.2.2 (by omega)]; decide)]
   clear q0 q1 q2
   go_wp2_with fail
   refine (name_any R HL.out _ i d HR.out).mono ?_
   rintro e w4 hp
   have hp2 : PPost R d StrV (nameR R.l i) _ e w4 := hp
   cases hn : nameR R.l i with
   | out => exact (nameR_out hn).elim
   | err c ln col =>
    rw [hn] at hp2
    obtain ⟨rfl, hs⟩ := hp2
    exact ⟨rfl, PPost.of_err (c := c) (ln := ln) (col := col) (by rw [HE.out, hn]) rfl (HBK.out _ (HST.out.trans hs))⟩
   | ok s j =>
    have HN := Lib.hid hn
    rw [hn] at hp2
    obtain ⟨⟨v, rfl, rfl⟩, hr, hs⟩ := hp2
    have HR4 := Lib.hid hr
    have HS4 := Lib.hid hs
    clear hn hr hs hp p0
    go_wp2_with fail
    go_ret
    exact PPost.of_ok (by rw [HE.out, HN.out]) rfl rfl HR4.out (HBK.out _ (HST.out.trans HS4.out))
end Go.Proofs.Ytppekkbaoimpgaa
