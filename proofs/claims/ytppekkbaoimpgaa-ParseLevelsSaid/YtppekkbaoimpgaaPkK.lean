/- Mth, Mts -/
import Derived.Test.YtppekkbaoimpgaaPkJ
set_option maxRecDepth 100000
set_option maxHeartbeats 8000000
namespace Go.Proofs.Ytppekkbaoimpgaa
open Go.RowKit
theorem Try.sizeMethod : (Try.prog.info? 107).map (·.size) = some 17 := by kernel_rfl
def MtV (n0 : Nat) (w' : World) (a : Mt) (v : Value) : Prop := ElQ MtP w' (fun k => n0 ≤ k) a v
theorem GnQ.parts {w : World} {P : Nat → Prop} {g : Gn} {v : Value} (h : GnQ w P g v) : ∃ (a1 : Option Addr) (c1 : Nat) (a2 : Option Addr) (c2 : Nat), v = .agg #[.slice a1 g.lifes.length c1, .slice a2 g.types.length c2] := by
 obtain ⟨vl, vt, rfl, h1, h2⟩ := h
 obtain ⟨a1, c1, rfl⟩ := h1.parts
 obtain ⟨a2, c2, rfl⟩ := h2.parts
 exact ⟨_, _, _, _, rfl⟩
def agc (v : Value) (k : Nat) : Value := match v with
 | .agg cs => cs.getD k undef
 | _ => undef
def StrE (_ : World) (_ : Nat → Prop) (s : ByteArray) (v : Value) : Prop := v = .string s
theorem strE_ok : AtOk StrE := ⟨fun _ _ _ _ h => h, fun _ _ _ h => h⟩
theorem method_any (f : Nat) (ihB : BlockOk f) (ihT : ∀ f', f' ≤ f → TypOk f') (R : Rdr) (w : World) (i d : Nat) (body : Bool) (hl : LOk R.l) (h : RdAt R w i d) (hd : d ≤ 40) (hno : methodR f R.l i d body ≠ .out) :
  Calls Try.prog 61 #[.agg #[.pointer (some ⟨R.rb, 0, none⟩)], .bool body] w (PPost R d (MtV w.heap.size) (methodR f R.l i d body) w) := by
 have HL := Lib.hid hl
 have IHB := Lib.hid ihB
 have IHT := Lib.hid ihT
 obtain ⟨r, hr⟩ : ∃ r, r = methodR f R.l i d body := ⟨_, rfl⟩
 obtain ⟨tk, htk⟩ : ∃ tk, tk = tokA R.l i := ⟨_, rfl⟩
 have HRR : Hid (r = (needR R.l i [102, 110]).bind fun _ j => (nameR R.l j).bind fun n j => (genR f R.l j).bind fun g j => (if 0 < g.types.length then failR 5 R.l j else .ok () j).bind fun _ j => (needR R.l j [40]).bind fun _ j => (needR R.l (recvR R.l j).2 [115, 101, 108, 102]).bind fun _ k => (if isF R.l k [44] then (if isF R.l (k + 1) [41] then failR 1 R.l (k + 1) else paramsR f R.l (k + 1) d [41] 8) else (needR R.l k [41]).bind fun _ k => .ok [] k).bind fun ps k => (retR f R.l k d).bind fun t k => (whereR f R.l k).bind fun wh k => (if body then blockR f R.l k d else (needR R.l k [59]).bind fun _ k => .ok [] k).bind fun b k => .ok ⟨n, g.lifes, (recvR R.l j).1.1, (recvR R.l j).1.2, ps, t, wh, b, tk.line, tk.col⟩ k) := by show _ = _; rw [hr, methodR, ← htk]
 rw [← hr] at hno ⊢
 have HNO := Lib.hid hno
 have hrlt := blk_lt h.blk
 obtain ⟨w1, hw1⟩ : ∃ w1 : World, w1 = (w.alloc (.cells #[.pointer (some ⟨R.rb, 0, none⟩)] 45)).alloc (.cells #[.string ⟨#[]⟩, .slice none 0 0, .int .i64 0, .string ⟨#[]⟩, .slice none 0 0, .int .i64 0, .string ⟨#[]⟩, .string ⟨#[]⟩, .bool false, .slice none 0 0, .slice none 0 0, .int .i64 0, .int .i64 0, .slice none 0 0, .slice none 0 0, .int .i64 0, .int .i64 0] 107) := ⟨_, rfl⟩
 have HS1 : Hid (Step (fun _ => False) w w1) := by show Step _ _ _; rw [hw1]; exact ((Step.refl _ _).alloc _).alloc _
 have HP1 : Hid (w1.heap[w.heap.size]? = some (.cells #[.pointer (some ⟨R.rb, 0, none⟩)] 45 (0, 0))) := by show _ = _; rw [hw1]; exact blk_alloc (blk_new _ _)
 have HN1 : Hid (w1.heap[w.heap.size + 1]? = some (.cells #[.string ⟨#[]⟩, .slice none 0 0, .int .i64 0, .string ⟨#[]⟩, .slice none 0 0, .int .i64 0, .string ⟨#[]⟩, .string ⟨#[]⟩, .bool false, .slice none 0 0, .slice none 0 0, .int .i64 0, .int .i64 0, .slice none 0 0, .slice none 0 0, .int .i64 0, .int .i64 0] 107 (0, 0))) := by show _ = _; rw [hw1]; exact blk_new2 _ _ _
 have HW1 := Lib.hid hw1
 have H1 := Lib.hid (h.quiet HS1.out)
 have HT := Lib.hid (show R.l[i]? = some tk by rw [htk]; exact h.tok)
 have p0 : w1.cell? ⟨w.heap.size, 0, none⟩ = some (.pointer (some ⟨R.rb, 0, none⟩)) := blk_cell HP1.out 0 _ rfl
 have HAT := Lib.hid (at_at R w1 i d tk H1.out HT.out)
 clear ihB ihT hl h hno hr hw1 htk
 go_enter Try.func61, Try.ntmps61
 go_upto_region 1 with fail
 rw [← HW1.out]
 go_wp2_with fail
 refine HAT.out.mono ?_
 rintro e w2 ⟨rfl, h2⟩
 have HS2 := Lib.hid (HS1.out.trans h2)
 have HP2 := Lib.hid (h2.keep HP1.out (fun h => h))
 have HN2 := Lib.hid (h2.keep HN1.out (fun h => h))
 have hn1 := blk_lt HN2.out
 obtain ⟨v1, hv1⟩ : ∃ v1 : World, v1 = w2.alloc (.cells #[.string noB, .slice none 0 0, .int .i64 1, .string noB, .slice none 0 0, .int .i64 0, .string noB, .string noB, .bool false, .slice none 0 0, .slice none 0 0, .int .i64 0, .int .i64 0, .slice none 0 0, .slice none 0 0, .int .i64 tk.line, .int .i64 tk.col] 107) := ⟨_, rfl⟩
 have HS23 : Hid (Step (fun _ => False) w2 v1) := by show Step _ _ _; rw [hv1]; exact (Step.refl _ _).alloc _
 have HB3 : Hid (v1.heap[w2.heap.size]? = some (.cells #[.string noB, .slice none 0 0, .int .i64 1, .string noB, .slice none 0 0, .int .i64 0, .string noB, .string noB, .bool false, .slice none 0 0, .slice none 0 0, .int .i64 0, .int .i64 0, .slice none 0 0, .slice none 0 0, .int .i64 tk.line, .int .i64 tk.col] 107 (0, 0))) := by show _ = _; rw [hv1]; exact blk_new _ _
 have HS3 := Lib.hid (HS2.out.trans HS23.out)
 have HP3 := Lib.hid (HS23.out.keep HP2.out (fun h => h))
 have HN3 := Lib.hid (HS23.out.keep HN2.out (fun h => h))
 have H3 := Lib.hid (H1.out.quiet (h2.trans HS23.out))
 have HW3 := Lib.hid hv1
 have hbv := blk_lt HB3.out
 clear h2 hv1 p0
 go_upto_region 2 with fail
 have hx3 : w2.alloc (.cells #[.string ⟨#[]⟩, .slice none 0 0, .int .i64 1, .string ⟨#[]⟩, .slice none 0 0, .int .i64 0, .string ⟨#[]⟩, .string ⟨#[]⟩, .bool false, .slice none 0 0, .slice none 0 0, .int .i64 0, .int .i64 0, .slice none 0 0, .slice none 0 0, .int .i64 tk.line, .int .i64 tk.col] 107) = v1 := HW3.out.symm
 rw [hx3]
 clear hx3
 obtain ⟨b, hb⟩ : ∃ b, b = w2.heap.size := ⟨_, rfl⟩
 rw [← hb] at HB3 hbv ⊢
 have hs1 := HS1.out.size
 have hrb : R.rb < b := by omega
 have hbw : w.heap.size + 1 < b := by omega
 have HBK : Hid (∀ X : World, Step (fun q => q = R.rb ∨ q = b) v1 X → Step (· = R.rb) w X) := by
  show ∀ X, _
  intro X hX
  exact (HS3.out.mono (fun _ _ h => h.elim)).then hX (fun q hq e => by omega)
 have HKP : Hid (∀ X : World, Step (fun q => q = R.rb ∨ q = b) v1 X → X.cell? ⟨w.heap.size, 0, none⟩ = some (.pointer (some ⟨R.rb, 0, none⟩))) := by
  show ∀ X, _
  intro X hX
  exact blk_cell (hX.keep HP3.out (by omega)) 0 _ rfl
 have HKN : Hid (∀ X : World, Step (fun q => q = R.rb ∨ q = b) v1 X → X.heap[w.heap.size + 1]? = some (.cells #[.string ⟨#[]⟩, .slice none 0 0, .int .i64 0, .string ⟨#[]⟩, .slice none 0 0, .int .i64 0, .string ⟨#[]⟩, .string ⟨#[]⟩, .bool false, .slice none 0 0, .slice none 0 0, .int .i64 0, .int .i64 0, .slice none 0 0, .slice none 0 0, .int .i64 0, .int .i64 0] 107 (0, 0))) := by
  show ∀ X, _
  intro X hX
  exact hX.keep HN3.out (by omega)
 have hsz3 := HS3.out.size
 obtain ⟨I0, hI0, -, hsv0⟩ := Sv.keep (R := R) (w1 := v1) (b := b) (d := d) (I := fun _ => True) (X := v1) (i := i) (o := .cells #[.string noB, .slice none 0 0, .int .i64 1, .string noB, .slice none 0 0, .int .i64 0, .string noB, .string noB, .bool false, .slice none 0 0, .slice none 0 0, .int .i64 0, .int .i64 0, .slice none 0 0, .slice none 0 0, .int .i64 tk.line, .int .i64 tk.col] 107 (0, 0)) ⟨H3.out, HB3.out, Step.refl _ _, trivial⟩ Stab.yes Stab.yes trivial
 have HI0 := Lib.hid hI0
 have HSV0 := Lib.hid hsv0
 clear hb hs1 hI0 hsv0
 have p0 := HKP.out v1 (Step.refl _ _)
 go_wp2_with fail
 refine (need_any R HL.out v1.heap.size ⟨#[102, 110]⟩ _ i d (HSV0.out.rd.quiet ((Step.refl _ _).alloc _)) (by decide) (blk_cell (blk_new _ _) 0 _ rfl)).mono ?_
 rintro e v21 hp
 have hp2 : PPost R d UnitV (needR R.l i [102, 110]) _ e v21 := hp
 cases hn : needR R.l i [102, 110] with
 | out => exact (needR_out hn).elim
 | err c ln col =>
  rw [hn] at hp2
  obtain ⟨rfl, hs⟩ := hp2
  refine ⟨rfl, PPost.of_err (c := c) (ln := ln) (col := col) (by rw [HRR.out, hn]; rfl) rfl (HBK.out _ (HSV0.out.err (((Step.refl (· = R.rb) _).alloc _).trans hs)))⟩
 | ok u21 j21 =>
  have HN21 := Lib.hid hn
  rw [hn] at hp2
  obtain ⟨⟨v, rfl, rfl⟩, hr, hs⟩ := hp2
  have HSV21 := Lib.hid (HSV0.out.read HI0.out hrb hr (((Step.refl (· = R.rb) _).alloc _).trans hs))
  clear hn hr hs hp p0
  have HE22 : Hid (r = (nameR R.l j21).bind fun n j => (genR f R.l j).bind fun g j => (if 0 < g.types.length then failR 5 R.l j else .ok () j).bind fun _ j => (needR R.l j [40]).bind fun _ j => (needR R.l (recvR R.l j).2 [115, 101, 108, 102]).bind fun _ k => (if isF R.l k [44] then (if isF R.l (k + 1) [41] then failR 1 R.l (k + 1) else paramsR f R.l (k + 1) d [41] 8) else (needR R.l k [41]).bind fun _ k => .ok [] k).bind fun ps k => (retR f R.l k d).bind fun t k => (whereR f R.l k).bind fun wh k => (if body then blockR f R.l k d else (needR R.l k [59]).bind fun _ k => .ok [] k).bind fun b k => .ok ⟨n, g.lifes, (recvR R.l j).1.1, (recvR R.l j).1.2, ps, t, wh, b, tk.line, tk.col⟩ k) := by show _ = _; rw [HRR.out, HN21.out]; rfl
  have p0 := HKP.out v21 HSV21.out.st
  go_wp2_with fail
  refine (name_any R HL.out _ j21 d HSV21.out.rd).mono ?_
  rintro e v23 hp
  have hp2 : PPost R d StrV (nameR R.l j21) _ e v23 := hp
  cases hn : nameR R.l j21 with
  | out => exact (nameR_out hn).elim
  | err c ln col =>
   rw [hn] at hp2
   obtain ⟨rfl, hs⟩ := hp2
   refine ⟨rfl, PPost.of_err (c := c) (ln := ln) (col := col) (by rw [HE22.out, hn]; rfl) rfl (HBK.out _ (HSV21.out.err hs))⟩
  | ok s23 j23 =>
   have HN23 := Lib.hid hn
   have HNS23 := Lib.hid (nameR_size HL.out HSV21.out.rd.lt hn)
   rw [hn] at hp2
   obtain ⟨⟨v, rfl, rfl⟩, hr, hs⟩ := hp2
   have HSV23 := Lib.hid (HSV21.out.read HI0.out hrb hr hs)
   clear hn hr hs hp p0
   have HE24 : Hid (r = (genR f R.l j23).bind fun g j => (if 0 < g.types.length then failR 5 R.l j else .ok () j).bind fun _ j => (needR R.l j [40]).bind fun _ j => (needR R.l (recvR R.l j).2 [115, 101, 108, 102]).bind fun _ k => (if isF R.l k [44] then (if isF R.l (k + 1) [41] then failR 1 R.l (k + 1) else paramsR f R.l (k + 1) d [41] 8) else (needR R.l k [41]).bind fun _ k => .ok [] k).bind fun ps k => (retR f R.l k d).bind fun t k => (whereR f R.l k).bind fun wh k => (if body then blockR f R.l k d else (needR R.l k [59]).bind fun _ k => .ok [] k).bind fun b k => .ok ⟨s23, g.lifes, (recvR R.l j).1.1, (recvR R.l j).1.2, ps, t, wh, b, tk.line, tk.col⟩ k) := by show _ = _; rw [HE22.out, HN23.out]; rfl
   have p0 := HKP.out v23 HSV23.out.st
   have bt0 := blk_cell HSV23.out.blk 0 _ rfl
   have bz0 := blk_free HSV23.out.blk 0
   obtain ⟨v25, hv25⟩ : ∃ v25 : World, v25 = (v23.setCell ⟨b, 0, none⟩ (.string s23)) := ⟨_, rfl⟩
   have HSV25 : Hid (Sv R v1 b d I0 v25 j23 (.cells #[.string s23, .slice none 0 0, .int .i64 1, .string noB, .slice none 0 0, .int .i64 0, .string noB, .string noB, .bool false, .slice none 0 0, .slice none 0 0, .int .i64 0, .int .i64 0, .slice none 0 0, .slice none 0 0, .int .i64 tk.line, .int .i64 tk.col] 107 (0, 0))) := by show Sv _ _ _ _ _ _ _ _; rw [hv25]; exact (HSV23.out.set HI0.out hrb 0 (.string s23))
   go_upto_region 4 with fail
   rw [← hv25]
   clear hv25 p0 bt0 bz0
   have p0 := HKP.out v25 HSV25.out.st
   go_wp2_with fail
   refine (gen_any f R _ j23 d HL.out HSV25.out.rd (fun e => HNO.out (by rw [HE24.out, e]; rfl))).mono ?_
   rintro e v26 hp
   have hp2 : PPost R d (GnV v25.heap.size) (genR f R.l j23) _ e v26 := hp
   cases hn : genR f R.l j23 with
   | out => exact absurd (by rw [HE24.out, hn]; rfl) HNO.out
   | err c ln col =>
    rw [hn] at hp2
    obtain ⟨rfl, hs⟩ := hp2
    refine ⟨rfl, PPost.of_err (c := c) (ln := ln) (col := col) (by rw [HE24.out, hn]; rfl) rfl (HBK.out _ (HSV25.out.err hs))⟩
   | ok a26 j26 =>
    have HN26 := Lib.hid hn
    rw [hn] at hp2
    obtain ⟨⟨v, rfl, hv⟩, hr, hs⟩ := hp2
    obtain ⟨ga1, gc1, ga2, gc2, rfl⟩ := GnQ.parts hv
    obtain ⟨I26, hI26, hF26, hsv26⟩ := HSV25.out.got gnQ_ok HI0.out hrb (by omega) hr hs (At := GnQ) hv
    have HI26 := Lib.hid hI26
    have HF26 := Lib.hid hF26
    have HSV26 := Lib.hid hsv26
    clear hn hr hs hp hv hI26 hF26 hsv26 p0
    have HE27 : Hid (r = (if 0 < a26.types.length then failR 5 R.l j26 else .ok () j26).bind fun _ j => (needR R.l j [40]).bind fun _ j => (needR R.l (recvR R.l j).2 [115, 101, 108, 102]).bind fun _ k => (if isF R.l k [44] then (if isF R.l (k + 1) [41] then failR 1 R.l (k + 1) else paramsR f R.l (k + 1) d [41] 8) else (needR R.l k [41]).bind fun _ k => .ok [] k).bind fun ps k => (retR f R.l k d).bind fun t k => (whereR f R.l k).bind fun wh k => (if body then blockR f R.l k d else (needR R.l k [59]).bind fun _ k => .ok [] k).bind fun b k => .ok ⟨s23, a26.lifes, (recvR R.l j).1.1, (recvR R.l j).1.2, ps, t, wh, b, tk.line, tk.col⟩ k) := by show _ = _; rw [HE24.out, HN26.out]; rfl
    have p0 := HKP.out v26 HSV26.out.st
    obtain ⟨gb, hgb⟩ : ∃ gb, gb = v26.heap.size := ⟨_, rfl⟩
    obtain ⟨w28, hw28⟩ : ∃ w28 : World, w28 = v26.alloc (.cells #[.slice ga1 a26.lifes.length gc1, .slice ga2 a26.types.length gc2] 50) := ⟨_, rfl⟩
    have HGS : Hid (Step (fun _ => False) v26 w28) := by show Step _ _ _; rw [hw28]; exact (Step.refl _ _).alloc _
    have HGB : Hid (w28.heap[gb]? = some (.cells #[.slice ga1 a26.lifes.length gc1, .slice ga2 a26.types.length gc2] 50 (0, 0))) := by show _ = _; rw [hw28, hgb]; exact blk_new _ _
    have HSV28 := Lib.hid (HSV26.out.quiet HI26.out HGS.out)
    have hgge : v1.heap.size ≤ gb := by rw [hgb]; exact HSV26.out.st.size
    go_upto_region 5 with fail
    rw [← hw28, ← hgb]
    clear hw28 hgb p0
    have p0 := HKP.out w28 HSV28.out.st
    obtain ⟨nt, hnt⟩ : ∃ nt, nt = a26.types.length := ⟨_, rfl⟩
    have HNT := Lib.hid hnt
    have g0 := blk_cell HGB.out 0 _ rfl
    have g1 := blk_cell HGB.out 1 _ rfl
    rw [← hnt] at g1
    clear hnt
    by_cases hnt0 : nt = 0
    case neg =>
     have e1 : decide ((0 : Int) < (nt : Int)) = true := decide_eq_true (by omega)
     have e2 : decide (0 < nt) = true := decide_eq_true (by omega)
     have hnp : 0 < nt := by omega
     have hfa : r = failR 5 R.l j26 := by rw [HE27.out, if_pos (by rw [← HNT.out]; omega)]; rfl
     have HFA := Lib.hid hfa
     obtain ⟨tf, htf⟩ : ∃ tf, tf = tokA R.l j26 := ⟨_, rfl⟩
     have HTF := Lib.hid (show R.l[j26]? = some tf by rw [htf]; exact HSV28.out.rd.tok)
     have HTG := Lib.hid htf
     clear hfa htf hnt0
     go_wp2_with fail
     refine (fail_at R 5 _ j26 d tf HSV28.out.rd HTF.out).mono ?_
     rintro e wf ⟨rfl, hs⟩
     exact ⟨rfl, PPost.of_err (c := 5) (ln := tf.line) (col := tf.col) (by rw [HFA.out, failR, ← HTG.out]) rfl (HBK.out _ (HSV28.out.err (hs.mono (fun _ _ h => h.elim))))⟩
    case pos =>
     have HE29 : Hid (r = (needR R.l j26 [40]).bind fun _ j => (needR R.l (recvR R.l j).2 [115, 101, 108, 102]).bind fun _ k => (if isF R.l k [44] then (if isF R.l (k + 1) [41] then failR 1 R.l (k + 1) else paramsR f R.l (k + 1) d [41] 8) else (needR R.l k [41]).bind fun _ k => .ok [] k).bind fun ps k => (retR f R.l k d).bind fun t k => (whereR f R.l k).bind fun wh k => (if body then blockR f R.l k d else (needR R.l k [59]).bind fun _ k => .ok [] k).bind fun b k => .ok ⟨s23, a26.lifes, (recvR R.l j).1.1, (recvR R.l j).1.2, ps, t, wh, b, tk.line, tk.col⟩ k) := by show _ = _; rw [HE27.out, if_neg (by rw [← HNT.out, hnt0]; decide)]; rfl
     rw [hnt0] at g1
     clear hnt0
     have bt1 := blk_cell HSV28.out.blk 1 _ rfl
     have bz1 := blk_free HSV28.out.blk 1
     obtain ⟨v30, hv30⟩ : ∃ v30 : World, v30 = (w28.setCell ⟨b, 1, none⟩ (.slice ga1 a26.lifes.length gc1)) := ⟨_, rfl⟩
     have HSV30 : Hid (Sv R v1 b d I26 v30 j26 (.cells #[.string s23, .slice ga1 a26.lifes.length gc1, .int .i64 1, .string noB, .slice none 0 0, .int .i64 0, .string noB, .string noB, .bool false, .slice none 0 0, .slice none 0 0, .int .i64 0, .int .i64 0, .slice none 0 0, .slice none 0 0, .int .i64 tk.line, .int .i64 tk.col] 107 (0, 0))) := by show Sv _ _ _ _ _ _ _ _; rw [hv30]; exact (HSV28.out.set HI26.out hrb 1 (.slice ga1 a26.lifes.length gc1))
     go_upto_region 8 with fail
     rw [← hv30]
     clear hv30 p0 bt1 bz1
     have p0 := HKP.out v30 HSV30.out.st
     clear g0 g1
     go_wp2_with fail
     refine (need_any R HL.out v30.heap.size ⟨#[40]⟩ _ j26 d (HSV30.out.rd.quiet ((Step.refl _ _).alloc _)) (by decide) (blk_cell (blk_new _ _) 0 _ rfl)).mono ?_
     rintro e v31 hp
     have hp2 : PPost R d UnitV (needR R.l j26 [40]) _ e v31 := hp
     cases hn : needR R.l j26 [40] with
     | out => exact (needR_out hn).elim
     | err c ln col =>
      rw [hn] at hp2
      obtain ⟨rfl, hs⟩ := hp2
      refine ⟨rfl, PPost.of_err (c := c) (ln := ln) (col := col) (by rw [HE29.out, hn]; rfl) rfl (HBK.out _ (HSV30.out.err (((Step.refl (· = R.rb) _).alloc _).trans hs)))⟩
     | ok u31 j31 =>
      have HN31 := Lib.hid hn
      rw [hn] at hp2
      obtain ⟨⟨v, rfl, rfl⟩, hr, hs⟩ := hp2
      have HSV31 := Lib.hid (HSV30.out.read HI26.out hrb hr (((Step.refl (· = R.rb) _).alloc _).trans hs))
      clear hn hr hs hp p0
      have HE32 : Hid (r = (needR R.l (recvR R.l j31).2 [115, 101, 108, 102]).bind fun _ k => (if isF R.l k [44] then (if isF R.l (k + 1) [41] then failR 1 R.l (k + 1) else paramsR f R.l (k + 1) d [41] 8) else (needR R.l k [41]).bind fun _ k => .ok [] k).bind fun ps k => (retR f R.l k d).bind fun t k => (whereR f R.l k).bind fun wh k => (if body then blockR f R.l k d else (needR R.l k [59]).bind fun _ k => .ok [] k).bind fun b k => .ok ⟨s23, a26.lifes, (recvR R.l j31).1.1, (recvR R.l j31).1.2, ps, t, wh, b, tk.line, tk.col⟩ k) := by show _ = _; rw [HE29.out, HN31.out]; rfl
      have p0 := HKP.out v31 HSV31.out.st
      go_wp2_with fail
      obtain ⟨bq, hbq⟩ : ∃ bq, bq = isF R.l j31 [38] := ⟨_, rfl⟩
      obtain ⟨jq, hjq⟩ : ∃ jq, jq = takeI R.l j31 [38] := ⟨_, rfl⟩
      have HBQ := Lib.hid hbq
      have HJQ := Lib.hid hjq
      have HIQ : Hid (Calls Try.prog 36 #[.pointer (some ⟨R.rb, 0, none⟩), .string ⟨#[38]⟩] v31 fun e w' => e = .returned (.bool bq) ∧ RdAt R w' jq d ∧ Step (· = R.rb) v31 w') := by
       show Calls _ _ _ _ _
       rw [hbq, hjq]; exact is_any R HL.out ⟨#[38]⟩ v31 j31 d HSV31.out.rd (by decide)
      clear hbq hjq
      refine HIQ.out.mono ?_
      rintro e v33 ⟨rfl, hr, hs⟩
      have HSV33 := Lib.hid (HSV31.out.read HI26.out hrb hr hs)
      clear hr hs p0
      have p0 := HKP.out v33 HSV33.out.st
      go_upto_if 37 with fail
      go_cut [] (fun wx => ∃ (rc : Int) (lf : ByteArray) (jn : Nat), recvR R.l j31 = ((rc, lf), jn) ∧ lf.size ≤ 9223372036854775807 ∧ Sv R v1 b d I26 wx jn (.cells #[.string s23, .slice ga1 a26.lifes.length gc1, .int .i64 rc, .string lf, .slice none 0 0, .int .i64 0, .string noB, .string noB, .bool false, .slice none 0 0, .slice none 0 0, .int .i64 0, .int .i64 0, .slice none 0 0, .slice none 0 0, .int .i64 tk.line, .int .i64 tk.col] 107 (0, 0)))
      case first =>
       cases bq with
       | false =>
        have hj : jq = j31 := by rw [HJQ.out, takeI, ← HBQ.out, if_neg (by decide)]
        have HRC : Hid (recvR R.l j31 = ((1, noB), jq)) := by show _ = _; rw [recvR, ← HBQ.out, if_neg (by decide), hj]
        go_wp2_with fail
        go_meet
        case rel => exact ⟨1, noB, jq, HRC.out, by decide, HSV33.out⟩
       | true =>
        have hj : jq = j31 + 1 := by rw [HJQ.out, takeI, ← HBQ.out, if_pos rfl]
        obtain ⟨lf, hlf⟩ : ∃ lf, lf = optF R.l jq := ⟨_, rfl⟩
        obtain ⟨jo, hjo⟩ : ∃ jo, jo = optI R.l jq := ⟨_, rfl⟩
        have HRC : Hid (recvR R.l j31 = ((if isF R.l jo [109, 117, 116] then 3 else 2, lf), takeI R.l jo [109, 117, 116])) := by show _ = _; rw [recvR, ← HBQ.out, if_pos rfl, ← hj, ← hlf, ← hjo]
        have HLF : Hid (lf.size ≤ 9223372036854775807) := by show _ ≤ _; rw [hlf]; exact optF_size HL.out HSV33.out.rd.lt
        have HOP := Lib.hid (opt_any R HL.out v33 jq d HSV33.out.rd)
        rw [← hlf, ← hjo] at HOP
        clear hj hlf hjo
        go_wp2_with fail
        refine HOP.out.mono ?_
        rintro e v34 ⟨rfl, hr, hs⟩
        have HSV34 := Lib.hid (HSV33.out.read HI26.out hrb hr hs)
        clear hr hs p0
        have p0 := HKP.out v34 HSV34.out.st
        have bt2 := blk_cell HSV34.out.blk 2 _ rfl
        have bz2 := blk_free HSV34.out.blk 2
        have bt3 := blk_cell HSV34.out.blk 3 _ rfl
        have bz3 := blk_free HSV34.out.blk 3
        obtain ⟨v35, hv35⟩ : ∃ v35 : World, v35 = ((v34.setCell ⟨b, 2, none⟩ (.int .i64 2)).setCell ⟨b, 3, none⟩ (.string lf)) := ⟨_, rfl⟩
        have HSV35 : Hid (Sv R v1 b d I26 v35 jo (.cells #[.string s23, .slice ga1 a26.lifes.length gc1, .int .i64 2, .string lf, .slice none 0 0, .int .i64 0, .string noB, .string noB, .bool false, .slice none 0 0, .slice none 0 0, .int .i64 0, .int .i64 0, .slice none 0 0, .slice none 0 0, .int .i64 tk.line, .int .i64 tk.col] 107 (0, 0))) := by show Sv _ _ _ _ _ _ _ _; rw [hv35]; exact ((HSV34.out.set HI26.out hrb 2 (.int .i64 2)).set HI26.out hrb 3 (.string lf))
        go_upto_region 11 with fail
        rw [← hv35]
        clear hv35 p0 bt2 bz2 bt3 bz3
        have p0 := HKP.out v35 HSV35.out.st
        go_wp2_with fail
        cases hb : isF R.l jo [109, 117, 116] with
        | true =>
         have HB := Lib.hid hb
         clear hb
         refine (is_yes R HL.out ⟨#[109, 117, 116]⟩ _ jo d HSV35.out.rd (by decide) HB.out).mono ?_
         rintro e v36 ⟨rfl, hr, hs⟩
         have HSV36 := Lib.hid (HSV35.out.read HI26.out hrb hr hs)
         clear hr hs p0
         have HRD : Hid (recvR R.l j31 = ((3, lf), (jo + 1))) := by show _ = _; rw [HRC.out, HB.out, takeI, HB.out]; rfl
         have bt2 := blk_cell HSV36.out.blk 2 _ rfl
         have bz2 := blk_free HSV36.out.blk 2
         have HSV37 : Hid (Sv R v1 b d I26 (v36.setCell ⟨b, 2, none⟩ (.int .i64 3)) (jo + 1) (.cells #[.string s23, .slice ga1 a26.lifes.length gc1, .int .i64 3, .string lf, .slice none 0 0, .int .i64 0, .string noB, .string noB, .bool false, .slice none 0 0, .slice none 0 0, .int .i64 0, .int .i64 0, .slice none 0 0, .slice none 0 0, .int .i64 tk.line, .int .i64 tk.col] 107 (0, 0))) := HSV36.out.set HI26.out hrb 2 (.int .i64 3)
         go_wp2_with fail
         go_meet
         case rel => exact ⟨3, lf, (jo + 1), HRD.out, HLF.out, HSV37.out⟩
        | false =>
         have HB := Lib.hid hb
         clear hb
         refine (is_no R HL.out ⟨#[109, 117, 116]⟩ _ jo d HSV35.out.rd (by decide) HB.out).mono ?_
         rintro e v38 ⟨rfl, hr, hs⟩
         have HSV38 := Lib.hid (HSV35.out.read HI26.out hrb hr hs)
         clear hr hs p0
         have HRD : Hid (recvR R.l j31 = ((2, lf), jo)) := by show _ = _; rw [HRC.out, HB.out, takeI, HB.out]; rfl
         go_wp2_with fail
         go_meet
         case rel => exact ⟨2, lf, jo, HRD.out, HLF.out, HSV38.out⟩
      case rest =>
       obtain ⟨rc, lf, jn, hrc, hlf, hsv⟩ := hcut
       obtain ⟨w39, rfl⟩ : ∃ w39 : World, w39 = wc := ⟨_, rfl⟩
       have HRC := Lib.hid hrc
       have HLF := Lib.hid hlf
       have HSV39 := Lib.hid hsv
       clear hrc hlf hsv p0
       have HE40 : Hid (r = (needR R.l jn [115, 101, 108, 102]).bind fun _ k => (if isF R.l k [44] then (if isF R.l (k + 1) [41] then failR 1 R.l (k + 1) else paramsR f R.l (k + 1) d [41] 8) else (needR R.l k [41]).bind fun _ k => .ok [] k).bind fun ps k => (retR f R.l k d).bind fun t k => (whereR f R.l k).bind fun wh k => (if body then blockR f R.l k d else (needR R.l k [59]).bind fun _ k => .ok [] k).bind fun b k => .ok ⟨s23, a26.lifes, rc, lf, ps, t, wh, b, tk.line, tk.col⟩ k) := by show _ = _; rw [HE32.out, HRC.out]
       have p0 := HKP.out w39 HSV39.out.st
       go_wp2_with fail
       refine (need_any R HL.out w39.heap.size ⟨#[115, 101, 108, 102]⟩ _ jn d (HSV39.out.rd.quiet ((Step.refl _ _).alloc _)) (by decide) (blk_cell (blk_new _ _) 0 _ rfl)).mono ?_
       rintro e v41 hp
       have hp2 : PPost R d UnitV (needR R.l jn [115, 101, 108, 102]) _ e v41 := hp
       cases hn : needR R.l jn [115, 101, 108, 102] with
       | out => exact (needR_out hn).elim
       | err c ln col =>
        rw [hn] at hp2
        obtain ⟨rfl, hs⟩ := hp2
        refine ⟨rfl, PPost.of_err (c := c) (ln := ln) (col := col) (by rw [HE40.out, hn]; rfl) rfl (HBK.out _ (HSV39.out.err (((Step.refl (· = R.rb) _).alloc _).trans hs)))⟩
       | ok u41 j41 =>
        have HN41 := Lib.hid hn
        rw [hn] at hp2
        obtain ⟨⟨v, rfl, rfl⟩, hr, hs⟩ := hp2
        have HSV41 := Lib.hid (HSV39.out.read HI26.out hrb hr (((Step.refl (· = R.rb) _).alloc _).trans hs))
        clear hn hr hs hp p0
        have HE42 : Hid (r = (if isF R.l j41 [44] then (if isF R.l (j41 + 1) [41] then failR 1 R.l (j41 + 1) else paramsR f R.l (j41 + 1) d [41] 8) else (needR R.l j41 [41]).bind fun _ k => .ok [] k).bind fun ps k => (retR f R.l k d).bind fun t k => (whereR f R.l k).bind fun wh k => (if body then blockR f R.l k d else (needR R.l k [59]).bind fun _ k => .ok [] k).bind fun b k => .ok ⟨s23, a26.lifes, rc, lf, ps, t, wh, b, tk.line, tk.col⟩ k) := by show _ = _; rw [HE40.out, HN41.out]; rfl
        have p0 := HKP.out v41 HSV41.out.st
        go_wp2_with fail
        obtain ⟨br, hbr⟩ : ∃ br, br = isF R.l j41 [44] := ⟨_, rfl⟩
        obtain ⟨jr, hjr⟩ : ∃ jr, jr = takeI R.l j41 [44] := ⟨_, rfl⟩
        have HBR := Lib.hid hbr
        have HJR := Lib.hid hjr
        have HIR : Hid (Calls Try.prog 36 #[.pointer (some ⟨R.rb, 0, none⟩), .string ⟨#[44]⟩] v41 fun e w' => e = .returned (.bool br) ∧ RdAt R w' jr d ∧ Step (· = R.rb) v41 w') := by
         show Calls _ _ _ _ _
         rw [hbr, hjr]; exact is_any R HL.out ⟨#[44]⟩ v41 j41 d HSV41.out.rd (by decide)
        clear hbr hjr
        refine HIR.out.mono ?_
        rintro e v43 ⟨rfl, hr, hs⟩
        have HSV43 := Lib.hid (HSV41.out.read HI26.out hrb hr hs)
        clear hr hs p0
        have p0 := HKP.out v43 HSV43.out.st
        go_upto_if 52 with fail
        go_cut [] (fun wx => ∃ (ps : List Pm) (va : Value) (jn : Nat) (I' : World → Prop), r = ((retR f R.l jn d).bind fun t k => (whereR f R.l k).bind fun wh k => (if body then blockR f R.l k d else (needR R.l k [59]).bind fun _ k => .ok [] k).bind fun b k => .ok ⟨s23, a26.lifes, rc, lf, ps, t, wh, b, tk.line, tk.col⟩ k) ∧ Stab R b v1.heap.size I' ∧ (∀ Y, I' Y → I26 Y ∧ LsQ PmP Y (fun q => v1.heap.size ≤ q) ps va) ∧ Sv R v1 b d I' wx jn (.cells #[.string s23, .slice ga1 a26.lifes.length gc1, .int .i64 rc, .string lf, va, .int .i64 0, .string noB, .string noB, .bool false, .slice none 0 0, .slice none 0 0, .int .i64 0, .int .i64 0, .slice none 0 0, .slice none 0 0, .int .i64 tk.line, .int .i64 tk.col] 107 (0, 0)))
        case first =>
         cases br with
         | false =>
          have hj : jr = j41 := by rw [HJR.out, takeI, ← HBR.out, if_neg (by decide)]
          have HE44 : Hid (r = ((needR R.l jr [41]).bind fun _ k => .ok [] k).bind fun ps k => (retR f R.l k d).bind fun t k => (whereR f R.l k).bind fun wh k => (if body then blockR f R.l k d else (needR R.l k [59]).bind fun _ k => .ok [] k).bind fun b k => .ok ⟨s23, a26.lifes, rc, lf, ps, t, wh, b, tk.line, tk.col⟩ k) := by show _ = _; rw [HE42.out, ← HBR.out, if_neg (by decide), hj]
          clear hj
          go_wp2_with fail
          refine (need_any R HL.out v43.heap.size ⟨#[41]⟩ _ jr d (HSV43.out.rd.quiet ((Step.refl _ _).alloc _)) (by decide) (blk_cell (blk_new _ _) 0 _ rfl)).mono ?_
          rintro e v45 hp
          have hp2 : PPost R d UnitV (needR R.l jr [41]) _ e v45 := hp
          cases hn : needR R.l jr [41] with
          | out => exact (needR_out hn).elim
          | err c ln col =>
           rw [hn] at hp2
           obtain ⟨rfl, hs⟩ := hp2
           refine ⟨rfl, PPost.of_err (c := c) (ln := ln) (col := col) (by rw [HE44.out, hn]; rfl) rfl (HBK.out _ (HSV43.out.err (((Step.refl (· = R.rb) _).alloc _).trans hs)))⟩
          | ok u45 j45 =>
           have HN45 := Lib.hid hn
           rw [hn] at hp2
           obtain ⟨⟨v, rfl, rfl⟩, hr, hs⟩ := hp2
           have HSV45 := Lib.hid (HSV43.out.read HI26.out hrb hr (((Step.refl (· = R.rb) _).alloc _).trans hs))
           clear hn hr hs hp p0
           have HE46 : Hid (r = (retR f R.l j45 d).bind fun t k => (whereR f R.l k).bind fun wh k => (if body then blockR f R.l k d else (needR R.l k [59]).bind fun _ k => .ok [] k).bind fun b k => .ok ⟨s23, a26.lifes, rc, lf, [], t, wh, b, tk.line, tk.col⟩ k) := by show _ = _; rw [HE44.out, HN45.out]; rfl
           have p0 := HKP.out v45 HSV45.out.st
           obtain ⟨I47, hI47, hF47, hsv47⟩ := HSV45.out.keep HI26.out (J := fun X => LsQ PmP X (fun q => v1.heap.size ≤ q) ([] : List Pm) (.slice none 0 0)) (Stab.at (lsQ_ok pmP_ok) hrb (by omega) _ _) (LsQ.nil _ _)
           have HI47 := Lib.hid hI47
           have HF47 := Lib.hid hF47
           have HSV47 := Lib.hid hsv47
           clear hI47 hF47 hsv47
           go_wp2_with fail
           go_meet
           case rel => exact ⟨[], _, j45, _, HE46.out, HI47.out, HF47.out, HSV47.out⟩
         | true =>
          have hj : jr = j41 + 1 := by rw [HJR.out, takeI, ← HBR.out, if_pos rfl]
          have HE48 : Hid (r = (if isF R.l jr [41] then failR 1 R.l jr else paramsR f R.l jr d [41] 8).bind fun ps k => (retR f R.l k d).bind fun t k => (whereR f R.l k).bind fun wh k => (if body then blockR f R.l k d else (needR R.l k [59]).bind fun _ k => .ok [] k).bind fun b k => .ok ⟨s23, a26.lifes, rc, lf, ps, t, wh, b, tk.line, tk.col⟩ k) := by show _ = _; rw [HE42.out, ← HBR.out, if_pos rfl, hj]
          clear hj
          go_wp2_with fail
          cases hb49 : isF R.l jr [41] with
          | true =>
           have HB49 := Lib.hid hb49
           clear hb49
           refine (sees_any R ⟨#[41]⟩ _ jr d HSV43.out.rd (by decide) true HB49.out).mono ?_
           rintro e v50 ⟨rfl, hs⟩
           have HSV50 := Lib.hid (HSV43.out.quiet HI26.out hs)
           clear hs p0
           have HE51 : Hid (r = (failR 1 R.l jr).bind fun ps k => (retR f R.l k d).bind fun t k => (whereR f R.l k).bind fun wh k => (if body then blockR f R.l k d else (needR R.l k [59]).bind fun _ k => .ok [] k).bind fun b k => .ok ⟨s23, a26.lifes, rc, lf, ps, t, wh, b, tk.line, tk.col⟩ k) := by show _ = _; rw [HE48.out, HB49.out, if_pos rfl]
           have p0 := HKP.out v50 HSV50.out.st
           obtain ⟨tf, htf⟩ : ∃ tf, tf = tokA R.l jr := ⟨_, rfl⟩
           have HTF := Lib.hid (show R.l[jr]? = some tf by rw [htf]; exact HSV50.out.rd.tok)
           have HTG := Lib.hid htf
           clear htf
           go_wp2_with fail
           refine (fail_at R 1 _ jr d tf HSV50.out.rd HTF.out).mono ?_
           rintro e wf ⟨rfl, hs⟩
           exact ⟨rfl, PPost.of_err (c := 1) (ln := tf.line) (col := tf.col) (by rw [HE51.out, failR, ← HTG.out]; rfl) rfl (HBK.out _ (HSV50.out.err (hs.mono (fun _ _ h => h.elim))))⟩
          | false =>
           have HB49 := Lib.hid hb49
           clear hb49
           refine (sees_any R ⟨#[41]⟩ _ jr d HSV43.out.rd (by decide) false HB49.out).mono ?_
           rintro e v52 ⟨rfl, hs⟩
           have HSV52 := Lib.hid (HSV43.out.quiet HI26.out hs)
           clear hs p0
           have HE53 : Hid (r = (paramsR f R.l jr d [41] 8).bind fun ps k => (retR f R.l k d).bind fun t k => (whereR f R.l k).bind fun wh k => (if body then blockR f R.l k d else (needR R.l k [59]).bind fun _ k => .ok [] k).bind fun b k => .ok ⟨s23, a26.lifes, rc, lf, ps, t, wh, b, tk.line, tk.col⟩ k) := by show _ = _; rw [HE48.out, HB49.out, if_neg (by decide)]
           have p0 := HKP.out v52 HSV52.out.st
           go_wp2_with fail
           refine (params_any f (fun f' hf => IHT.out f' (by omega)) R _ jr d ⟨#[41]⟩ 8 HL.out HSV52.out.rd hd (by decide) (by decide) (fun e => HNO.out (by rw [HE53.out]; exact congrArg (fun q => Res.bind q _) e))).mono ?_
           rintro e v54 hp
           have hp2 : PPost R d (PmsV v52.heap.size) (paramsR f R.l jr d [41] 8) _ e v54 := hp
           cases hn : paramsR f R.l jr d [41] 8 with
           | out => exact absurd (by rw [HE53.out, hn]; rfl) HNO.out
           | err c ln col =>
            rw [hn] at hp2
            obtain ⟨rfl, hs⟩ := hp2
            refine ⟨rfl, PPost.of_err (c := c) (ln := ln) (col := col) (by rw [HE53.out, hn]; rfl) rfl (HBK.out _ (HSV52.out.err hs))⟩
           | ok a54 j54 =>
            have HN54 := Lib.hid hn
            rw [hn] at hp2
            obtain ⟨⟨v, rfl, hv⟩, hr, hs⟩ := hp2
            obtain ⟨la54, lc54, rfl⟩ := LsQ.parts hv
            obtain ⟨I54, hI54, hF54, hsv54⟩ := HSV52.out.got (lsQ_ok pmP_ok) HI26.out hrb (by omega) hr hs (At := (LsQ PmP)) hv
            have HI54 := Lib.hid hI54
            have HF54 := Lib.hid hF54
            have HSV54 := Lib.hid hsv54
            clear hn hr hs hp hv hI54 hF54 hsv54 p0
            have HE55 : Hid (r = (retR f R.l j54 d).bind fun t k => (whereR f R.l k).bind fun wh k => (if body then blockR f R.l k d else (needR R.l k [59]).bind fun _ k => .ok [] k).bind fun b k => .ok ⟨s23, a26.lifes, rc, lf, a54, t, wh, b, tk.line, tk.col⟩ k) := by show _ = _; rw [HE53.out, HN54.out]; rfl
            have p0 := HKP.out v54 HSV54.out.st
            have bt4 := blk_cell HSV54.out.blk 4 _ rfl
            have bz4 := blk_free HSV54.out.blk 4
            have HSV56 : Hid (Sv R v1 b d I54 (v54.setCell ⟨b, 4, none⟩ (.slice la54 a54.length lc54)) j54 (.cells #[.string s23, .slice ga1 a26.lifes.length gc1, .int .i64 rc, .string lf, .slice la54 a54.length lc54, .int .i64 0, .string noB, .string noB, .bool false, .slice none 0 0, .slice none 0 0, .int .i64 0, .int .i64 0, .slice none 0 0, .slice none 0 0, .int .i64 tk.line, .int .i64 tk.col] 107 (0, 0))) := HSV54.out.set HI54.out hrb 4 (.slice la54 a54.length lc54)
            go_wp2_with fail
            go_meet
            case rel => exact ⟨a54, _, j54, _, HE55.out, HI54.out, HF54.out, HSV56.out⟩
        case rest =>
         obtain ⟨ps, va, jm, I57, hre, hI57, hF57, hsv⟩ := hcut
         obtain ⟨w57, rfl⟩ : ∃ w57 : World, w57 = wc := ⟨_, rfl⟩
         obtain ⟨pa, pc, rfl⟩ := LsQ.parts (hF57 _ hsv.inv).2
         have HE57 := Lib.hid hre
         have HI57 := Lib.hid hI57
         have HF57 := Lib.hid hF57
         have HSV57 := Lib.hid hsv
         clear hre hI57 hF57 hsv p0
         have p0 := HKP.out w57 HSV57.out.st
         go_upto_region 19 with fail
         clear p0
         have HFL : Hid (StbAll R b v1.heap.size [(fun _ u => u = (.agg #[.pointer (some ⟨R.rb, 0, none⟩)])), (fun X u => ∃ a j, retR f R.l jm d = .ok a j ∧ TyQ X (fun q => v1.heap.size ≤ q) a u), (fun _ u => u = (.agg #[.pointer (some ⟨R.rb, 0, none⟩)])), (fun X u => ∃ a j c k, retR f R.l jm d = .ok a j ∧ whereR f R.l j = .ok c k ∧ (LsQ BdP) X (fun q => v1.heap.size ≤ q) c u), (fun _ u => u = (.pointer (some ⟨b, 5, none⟩))), Tru, (fun _ u => u = (.pointer (some ⟨b, 13, none⟩))), Tru]) := (StbAll.cons (Stb.const _) (StbAll.cons (Stb.ex fun _ => Stb.ex fun _ => Stb.and (Stb.at tyQ_ok hrb (by omega) _)) (StbAll.cons (Stb.const _) (StbAll.cons (Stb.ex fun _ => Stb.ex fun _ => Stb.ex fun _ => Stb.ex fun _ => Stb.and (Stb.and (Stb.at (lsQ_ok bdP_ok) hrb (by omega) _))) (StbAll.cons (Stb.const _) (StbAll.cons Stb.tru (StbAll.cons (Stb.const _) (StbAll.cons Stb.tru StbAll.nil))))))))
         go_cut [] (fun wx => ∃ (a : Ty) (j : Nat) (c : List Bd) (k : Nat) (u1 : Value) (u3 : Value), retR f R.l jm d = .ok a j ∧ whereR f R.l j = .ok c k ∧ Sv R v1 b d I57 wx k (.cells #[.string s23, .slice ga1 a26.lifes.length gc1, .int .i64 rc, .string lf, .slice pa ps.length pc, agc (u1) 0, agc (u1) 1, agc (u1) 2, agc (u1) 3, agc (u1) 4, agc (u1) 5, agc (u1) 6, agc (u1) 7, u3, .slice none 0 0, .int .i64 tk.line, .int .i64 tk.col] 107 (0, 0)) ∧ TyQ wx (fun q => v1.heap.size ≤ q) a u1 ∧ (LsQ BdP) wx (fun q => v1.heap.size ≤ q) c u3)
         case first =>
          obtain ⟨Jx, hJx⟩ : ∃ Jx : (Nat → Bool) → (Nat → Value) → World → Prop, Jx = RJ R v1 b d I57 (fun (L : Nat → Bool) (ix : Nat) => cond (L 3) (∃ a j c, retR f R.l jm d = .ok a j ∧ whereR f R.l j = .ok c ix) (cond (L 1) (∃ a, retR f R.l jm d = .ok a ix) (ix = jm))) (fun (L : Nat → Bool) (V : Nat → Value) => Obj.cells #[.string s23, .slice ga1 a26.lifes.length gc1, .int .i64 rc, .string lf, .slice pa ps.length pc, cond (L 5) (agc (V 1) 0) (.int .i64 0), cond (L 5) (agc (V 1) 1) (.string noB), cond (L 5) (agc (V 1) 2) (.string noB), cond (L 5) (agc (V 1) 3) (.bool false), cond (L 5) (agc (V 1) 4) (.slice none 0 0), cond (L 5) (agc (V 1) 5) (.slice none 0 0), cond (L 5) (agc (V 1) 6) (.int .i64 0), cond (L 5) (agc (V 1) 7) (.int .i64 0), cond (L 7) (V 3) (.slice none 0 0), .slice none 0 0, .int .i64 tk.line, .int .i64 tk.col] 107 (0, 0)) [(fun _ u => u = (.agg #[.pointer (some ⟨R.rb, 0, none⟩)])), (fun X u => ∃ a j, retR f R.l jm d = .ok a j ∧ TyQ X (fun q => v1.heap.size ≤ q) a u), (fun _ u => u = (.agg #[.pointer (some ⟨R.rb, 0, none⟩)])), (fun X u => ∃ a j c k, retR f R.l jm d = .ok a j ∧ whereR f R.l j = .ok c k ∧ (LsQ BdP) X (fun q => v1.heap.size ≤ q) c u), (fun _ u => u = (.pointer (some ⟨b, 5, none⟩))), Tru, (fun _ u => u = (.pointer (some ⟨b, 13, none⟩))), Tru] [(3, 1), (5, 1), (7, 3)] := ⟨_, rfl⟩
          have HJX := Lib.hid hJx
          clear hJx
          refine wp_region_relyD (by kernel_rfl) (Jx) 8 rfl (by kernel_rfl) (by kernel_rfl) (by kernel_rfl) (by kernel_rfl) ?h0 ?hs ?hdone
          case h0 => rw [HJX.out]; exact RJ.zero HI57.out HSV57.out ((Step.refl _ _).drew) rfl
          case hs =>
           refine ⟨?_, ?_, ?_, ?_, ?_, ?_, ?_, ?_, trivial⟩
           ·intro L V X a ev evo hdf hL hdep hJ
            rw [HJX.out] at hJ
            have o2 := evo 2 rfl
            change a.tmps[2]?.getD undef = .pointer (some ⟨w.heap.size, 0, none⟩) at o2
            obtain ⟨i9, hv9, -⟩ := id hJ.sv
            have p0 := HKP.out X hv9.st
            clear hv9
            go_simp
            exact ⟨_, rfl, by rw [HJX.out]; exact hJ.up 0 _ rfl (np rfl) rfl rfl⟩
           ·intro L V X a ev evo hdf hL hdep hJ
            rw [HJX.out] at hJ
            have e66 := (ev 0 66 rfl (hdep 0 rfl)).trans (hJ.fs 0 (hdep 0 rfl))
            obtain ⟨i9, hv9, hr9⟩ := id hJ.sv
            rw [hJ.false_of 3 1 (by decide) hL, hL] at hr9
            have hr9 : i9 = jm := hr9
            rw [hr9] at hv9
            clear hr9
            go_simp
            refine (ret_any f (IHT.out f (Nat.le_refl _)) R X jm d HL.out hv9.rd hd (fun e => HNO.out (by rw [HE57.out, e]; rfl))).mono ?_
            intro e wq hp
            cases hx : retR f R.l jm d with
            | out => exact absurd hx (fun e => HNO.out (by rw [HE57.out, e]; rfl))
            | err cc ln col =>
             rw [hx] at hp
             obtain ⟨rfl, hs⟩ := hp
             exact ⟨hdf, PPost.of_err (c := cc) (ln := ln) (col := col) (by rw [HE57.out, hx]; rfl) rfl (HBK.out _ (hv9.err hs))⟩
            | ok c9 k9 =>
             rw [hx] at hp
             obtain ⟨⟨v, rfl, hv⟩, hr, hs⟩ := hp
             exact ⟨_, rfl, by rw [HJX.out]; exact hJ.call HI57.out HFL.out hrb 1 v hr hs ⟨_, _, hx, tyQ_ok.mono _ _ (fun q _ hq => by have := hv9.st.size; omega) (show TyQ _ _ _ _ from hv)⟩ (np rfl) (by have e5 := hJ.false_of 5 1 (by decide) hL; change Obj.cells #[.string s23, .slice ga1 a26.lifes.length gc1, .int .i64 rc, .string lf, .slice pa ps.length pc, cond (L 5) (agc (_) 0) (.int .i64 0), cond (L 5) (agc (_) 1) (.string noB), cond (L 5) (agc (_) 2) (.string noB), cond (L 5) (agc (_) 3) (.bool false), cond (L 5) (agc (_) 4) (.slice none 0 0), cond (L 5) (agc (_) 5) (.slice none 0 0), cond (L 5) (agc (_) 6) (.int .i64 0), cond (L 5) (agc (_) 7) (.int .i64 0), cond (L 7) (V 3) (.slice none 0 0), .slice none 0 0, .int .i64 tk.line, .int .i64 tk.col] 107 (0, 0) = Obj.cells #[.string s23, .slice ga1 a26.lifes.length gc1, .int .i64 rc, .string lf, .slice pa ps.length pc, cond (L 5) (agc (V 1) 0) (.int .i64 0), cond (L 5) (agc (V 1) 1) (.string noB), cond (L 5) (agc (V 1) 2) (.string noB), cond (L 5) (agc (V 1) 3) (.bool false), cond (L 5) (agc (V 1) 4) (.slice none 0 0), cond (L 5) (agc (V 1) 5) (.slice none 0 0), cond (L 5) (agc (V 1) 6) (.int .i64 0), cond (L 5) (agc (V 1) 7) (.int .i64 0), cond (L 7) (V 3) (.slice none 0 0), .slice none 0 0, .int .i64 tk.line, .int .i64 tk.col] 107 (0, 0); rw [e5]; rfl) (by show cond (L 3) _ _; rw [hJ.false_of 3 1 (by decide) hL]; exact ⟨_, hx⟩)⟩
           ·intro L V X a ev evo hdf hL hdep hJ
            rw [HJX.out] at hJ
            have o2 := evo 2 rfl
            change a.tmps[2]?.getD undef = .pointer (some ⟨w.heap.size, 0, none⟩) at o2
            obtain ⟨i9, hv9, -⟩ := id hJ.sv
            have p0 := HKP.out X hv9.st
            clear hv9
            go_simp
            exact ⟨_, rfl, by rw [HJX.out]; exact hJ.up 2 _ rfl (np rfl) rfl rfl⟩
           ·intro L V X a ev evo hdf hL hdep hJ
            rw [HJX.out] at hJ
            have e68 := (ev 2 68 rfl (hdep 2 rfl)).trans (hJ.fs 2 (hdep 2 rfl))
            obtain ⟨i9, hv9, hr9⟩ := id hJ.sv
            rw [hL, hdep 1 rfl] at hr9
            obtain ⟨a9, h9⟩ : ∃ a, retR f R.l jm d = .ok a i9 := hr9
            go_simp
            refine (where_any f R X i9 d HL.out hv9.rd (fun e => HNO.out (by rw [HE57.out, h9, Res.bind_ok]; rw [e]; rfl))).mono ?_
            intro e wq hp
            cases hx : whereR f R.l i9 with
            | out => exact absurd hx (fun e => HNO.out (by rw [HE57.out, h9, Res.bind_ok]; rw [e]; rfl))
            | err cc ln col =>
             rw [hx] at hp
             obtain ⟨rfl, hs⟩ := hp
             exact ⟨hdf, PPost.of_err (c := cc) (ln := ln) (col := col) (by rw [HE57.out, h9, Res.bind_ok]; rw [hx]; rfl) rfl (HBK.out _ (hv9.err hs))⟩
            | ok c9 k9 =>
             rw [hx] at hp
             obtain ⟨⟨v, rfl, hv⟩, hr, hs⟩ := hp
             exact ⟨_, rfl, by rw [HJX.out]; exact hJ.call HI57.out HFL.out hrb 3 v hr hs ⟨_, _, _, _, h9, hx, (lsQ_ok bdP_ok).mono _ _ (fun q _ hq => by have := hv9.st.size; omega) (show (LsQ BdP) _ _ _ _ from hv)⟩ (mc ⟨fun _ => hdep 1 rfl, (mc ⟨nd (by decide), (mc ⟨nd (by decide), (fun _ h => nomatch h)⟩)⟩)⟩) (by have e7 := hJ.false_of 7 3 (by decide) hL; change Obj.cells #[.string s23, .slice ga1 a26.lifes.length gc1, .int .i64 rc, .string lf, .slice pa ps.length pc, cond (L 5) (agc (V 1) 0) (.int .i64 0), cond (L 5) (agc (V 1) 1) (.string noB), cond (L 5) (agc (V 1) 2) (.string noB), cond (L 5) (agc (V 1) 3) (.bool false), cond (L 5) (agc (V 1) 4) (.slice none 0 0), cond (L 5) (agc (V 1) 5) (.slice none 0 0), cond (L 5) (agc (V 1) 6) (.int .i64 0), cond (L 5) (agc (V 1) 7) (.int .i64 0), cond (L 7) (_) (.slice none 0 0), .slice none 0 0, .int .i64 tk.line, .int .i64 tk.col] 107 (0, 0) = Obj.cells #[.string s23, .slice ga1 a26.lifes.length gc1, .int .i64 rc, .string lf, .slice pa ps.length pc, cond (L 5) (agc (V 1) 0) (.int .i64 0), cond (L 5) (agc (V 1) 1) (.string noB), cond (L 5) (agc (V 1) 2) (.string noB), cond (L 5) (agc (V 1) 3) (.bool false), cond (L 5) (agc (V 1) 4) (.slice none 0 0), cond (L 5) (agc (V 1) 5) (.slice none 0 0), cond (L 5) (agc (V 1) 6) (.int .i64 0), cond (L 5) (agc (V 1) 7) (.int .i64 0), cond (L 7) (V 3) (.slice none 0 0), .slice none 0 0, .int .i64 tk.line, .int .i64 tk.col] 107 (0, 0); rw [e7]; rfl) ⟨_, _, _, h9, hx⟩⟩
           ·intro L V X a ev evo hdf hL hdep hJ
            rw [HJX.out] at hJ
            have o5 := evo 5 rfl
            change a.tmps[5]?.getD undef = .pointer (some ⟨b, 0, none⟩) at o5
            go_simp
            exact ⟨_, rfl, by rw [HJX.out]; exact hJ.up 4 _ rfl (np rfl) rfl rfl⟩
           ·intro L V X a ev evo hdf hL hdep hJ
            rw [HJX.out] at hJ
            have e70 := (ev 4 70 rfl (hdep 4 rfl)).trans (hJ.fs 4 (hdep 4 rfl))
            obtain ⟨i9, hv9, -⟩ := id hJ.sv
            have hb9 := hv9.blk
            obtain ⟨a8, j8, h8, ct8, h6, h7⟩ := hJ.fs 1 (hdep 1 rfl)
            obtain ⟨tk0, tn0, tl0, tm0, ta1, tn1, tc1, ta2, tn2, tc2, tl1, tc3, hct⟩ := TyP.parts h7
            rw [hct] at h6
            have hV : V 1 = .agg #[.int .i64 tk0, .string tn0, .string tl0, .bool tm0, .slice ta1 tn1 tc1, .slice ta2 tn2 tc2, .int .i64 tl1, .int .i64 tc3] := h6
            have e67 := (ev 1 67 rfl (hdep 1 rfl)).trans hV
            refine wp_store_part 54 (.tmp 70) (.tmp 67) rfl b 5 107 _ [.int .i64 tk0, .string tn0, .string tl0, .bool tm0, .slice ta1 tn1 tc1, .slice ta2 tn2 tc2, .int .i64 tl1, .int .i64 tc3] (by rw [evalTmp]; exact e70) (by rw [evalTmp]; exact e67) hb9 Try.sizeWType (show 5 + 8 ≤ 17 by decide) (oneCells rfl) ?_
            intro w9 hb8 hs8
            exact ⟨undef, rfl, by rw [HJX.out]; exact hJ.put HI57.out HFL.out hrb 5 undef hs8 (by rw [hb8]; show _ = some (Obj.cells #[.string s23, .slice ga1 a26.lifes.length gc1, .int .i64 rc, .string lf, .slice pa ps.length pc, cond (updL L 5 5) (agc (V 1) 0) (.int .i64 0), cond (updL L 5 5) (agc (V 1) 1) (.string noB), cond (updL L 5 5) (agc (V 1) 2) (.string noB), cond (updL L 5 5) (agc (V 1) 3) (.bool false), cond (updL L 5 5) (agc (V 1) 4) (.slice none 0 0), cond (updL L 5 5) (agc (V 1) 5) (.slice none 0 0), cond (updL L 5 5) (agc (V 1) 6) (.int .i64 0), cond (updL L 5 5) (agc (V 1) 7) (.int .i64 0), cond (updL L 5 7) (V 3) (.slice none 0 0), .slice none 0 0, .int .i64 tk.line, .int .i64 tk.col] 107 (0, 0)); rw [hV]; rfl) rfl (mc ⟨nd (by decide), (mc ⟨fun _ => hdep 1 rfl, (mc ⟨nd (by decide), (fun _ h => nomatch h)⟩)⟩)⟩) rfl⟩
           ·intro L V X a ev evo hdf hL hdep hJ
            rw [HJX.out] at hJ
            have o5 := evo 5 rfl
            change a.tmps[5]?.getD undef = .pointer (some ⟨b, 0, none⟩) at o5
            go_simp
            exact ⟨_, rfl, by rw [HJX.out]; exact hJ.up 6 _ rfl (np rfl) rfl rfl⟩
           ·intro L V X a ev evo hdf hL hdep hJ
            rw [HJX.out] at hJ
            have e71 := (ev 6 71 rfl (hdep 6 rfl)).trans (hJ.fs 6 (hdep 6 rfl))
            obtain ⟨i9, hv9, -⟩ := id hJ.sv
            have hb9 := hv9.blk
            obtain ⟨a8, j8, c8, k8, h8, h7, xs8, hr8, -⟩ := hJ.fs 3 (hdep 3 rfl)
            obtain ⟨g8, n8, hV⟩ := hr8.parts
            have e69 := (ev 3 69 rfl (hdep 3 rfl)).trans hV
            have ecell : ∃ v, X.cell? ⟨b, 13, none⟩ = some v := ⟨_, blk_cell hb9 13 _ rfl⟩
            obtain ⟨vc, hvc⟩ := ecell
            have hfz := blk_free hb9 13
            have hx : (X.setCell ⟨b, 13, none⟩ (V 3)).heap[b]? = _ := blk_set hb9 13 (V 3)
            rw [hV] at hx
            have hxx := hx
            go_simp
            exact ⟨undef, by rw [HJX.out]; exact hJ.put HI57.out HFL.out hrb 7 undef ((Step.refl _ _).setCell _ _ (fun _ => rfl)) (by rw [← hV]; exact blk_set hb9 13 (V 3)) rfl (mc ⟨nd (by decide), (mc ⟨nd (by decide), (mc ⟨fun _ => hdep 3 rfl, (fun _ h => nomatch h)⟩)⟩)⟩) rfl⟩
          case hdone =>
           intro L V X hall hJ
           rw [HJX.out] at hJ
           obtain ⟨i9, hv9, hr9⟩ := hJ.sv
           rw [hall 3 (by decide)] at hr9
           obtain ⟨a9, j9, c9, h91, h92⟩ : ∃ a j c, retR f R.l jm d = .ok a j ∧ whereR f R.l j = .ok c i9 := hr9
           have f1 := hJ.fs 1 (hall 1 (by decide))
           obtain ⟨a8, j8, h81, g1⟩ := f1
           rw [h91] at h81
           cases h81
           have f3 := hJ.fs 3 (hall 3 (by decide))
           obtain ⟨a8, j8, c8, k8, h81, h82, g3⟩ := f3
           rw [h91] at h81
           cases h81
           rw [h92] at h82
           cases h82
           have hv9 : Sv R v1 b d I57 X i9 (Obj.cells #[.string s23, .slice ga1 a26.lifes.length gc1, .int .i64 rc, .string lf, .slice pa ps.length pc, agc (V 1) 0, agc (V 1) 1, agc (V 1) 2, agc (V 1) 3, agc (V 1) 4, agc (V 1) 5, agc (V 1) 6, agc (V 1) 7, V 3, .slice none 0 0, .int .i64 tk.line, .int .i64 tk.col] 107 (0, 0)) := by
            have h := hv9
            rw [hall 5 (by decide), hall 7 (by decide)] at h
            exact h
           have HEND := Lib.hid hv9
           have HG1 := Lib.hid g1
           have HG3 := Lib.hid g3
           have H91 := Lib.hid h91
           have H92 := Lib.hid h92
           rw [show List.range 8 = [0, 1, 2, 3, 4, 5, 6, 7] from rfl]
           simp only [putF, dstO, List.getElem?_toArray, List.getElem?_cons_zero, List.getElem?_cons_succ, Option.bind_some, Act.put, List.setIfInBounds_toArray, List.set_cons_zero, List.set_cons_succ]
           clear hJ hall hv9 h91 h92 g1 g3
           go_wp2_with fail
           go_meet
           case rel => exact ⟨a9, j9, c9, i9, V 1, V 3, H91.out, H92.out, HEND.out, HG1.out, HG3.out⟩
         case rest =>
          obtain ⟨a58, j58, c58, k58, u1, u3, hn1, hn2, hsv, hg1, hg3⟩ := hcut
          obtain ⟨w58, rfl⟩ : ∃ w58 : World, w58 = wc := ⟨_, rfl⟩
          obtain ⟨ct, rfl, hty⟩ := hg1
          obtain ⟨tk0, tn0, tl0, tm0, ta1, tn1, tc1, ta2, tn2, tc2, tl1, tc3, rfl⟩ := hty.parts
          obtain ⟨wa, wc9, rfl⟩ := LsQ.parts hg3
          have hg1 : TyQ _ _ _ _ := ⟨_, rfl, hty⟩
          have HSVx : Hid (Sv R v1 b d I57 w58 k58 (.cells #[.string s23, .slice ga1 a26.lifes.length gc1, .int .i64 rc, .string lf, .slice pa ps.length pc, .int .i64 tk0, .string tn0, .string tl0, .bool tm0, .slice ta1 tn1 tc1, .slice ta2 tn2 tc2, .int .i64 tl1, .int .i64 tc3, .slice wa c58.length wc9, .slice none 0 0, .int .i64 tk.line, .int .i64 tk.col] 107 (0, 0))) := hsv
          have HN1 := Lib.hid hn1
          have HN2 := Lib.hid hn2
          obtain ⟨I58, hI58, hF58, hsv58⟩ := HSVx.out.keep HI57.out (J := fun X => TyQ X (fun q => v1.heap.size ≤ q) a58 (.agg #[.int .i64 tk0, .string tn0, .string tl0, .bool tm0, .slice ta1 tn1 tc1, .slice ta2 tn2 tc2, .int .i64 tl1, .int .i64 tc3]) ∧ LsQ BdP X (fun q => v1.heap.size ≤ q) c58 (.slice wa c58.length wc9)) (Stab.and (Stab.at tyQ_ok hrb (by omega) _ _) (Stab.at (lsQ_ok bdP_ok) hrb (by omega) _ _)) (⟨hg1, hg3⟩)
          have HI58 := Lib.hid hI58
          have HF58 := Lib.hid hF58
          have HSV58 := Lib.hid hsv58
          clear hI58 hF58 hsv58
          clear hn1 hn2 hsv hg1 hg3 hty
          have HE59 : Hid (r = (if body then blockR f R.l k58 d else (needR R.l k58 [59]).bind fun _ k => .ok [] k).bind fun b k => .ok ⟨s23, a26.lifes, rc, lf, ps, a58, c58, b, tk.line, tk.col⟩ k) := by show _ = _; rw [HE57.out, HN1.out, Res.bind_ok]; rw [HN2.out]; rfl
          have p0 := HKP.out w58 HSV58.out.st
          cases body with
          | true =>
           have HE60 : Hid (r = (blockR f R.l k58 d).bind fun b k => .ok ⟨s23, a26.lifes, rc, lf, ps, a58, c58, b, tk.line, tk.col⟩ k) := by show _ = _; exact HE59.out
           go_wp2_with fail
           refine (IHB.out R _ k58 d HL.out HSV58.out.rd hd (fun e => HNO.out (by rw [HE60.out, e]; rfl))).mono ?_
           rintro e v61 hp
           have hp2 : PPost R d (StsV w58.heap.size) (blockR f R.l k58 d) _ e v61 := hp
           cases hn : blockR f R.l k58 d with
           | out => exact absurd (by rw [HE60.out, hn]; rfl) HNO.out
           | err c ln col =>
            rw [hn] at hp2
            obtain ⟨rfl, hs⟩ := hp2
            refine ⟨rfl, PPost.of_err (c := c) (ln := ln) (col := col) (by rw [HE60.out, hn]; rfl) rfl (HBK.out _ (HSV58.out.err hs))⟩
           | ok a61 j61 =>
            have HN61 := Lib.hid hn
            rw [hn] at hp2
            obtain ⟨⟨v, rfl, hv⟩, hr, hs⟩ := hp2
            obtain ⟨la61, lc61, rfl⟩ := StsQ.parts hv
            obtain ⟨I61, hI61, hF61, hsv61⟩ := HSV58.out.got stsQ_ok HI58.out hrb (by omega) hr hs (At := StsQ) hv
            have HI61 := Lib.hid hI61
            have HF61 := Lib.hid hF61
            have HSV61 := Lib.hid hsv61
            clear hn hr hs hp hv hI61 hF61 hsv61 p0
            have HE62 : Hid (r = .ok ⟨s23, a26.lifes, rc, lf, ps, a58, c58, a61, tk.line, tk.col⟩ j61) := by show _ = _; rw [HE60.out, HN61.out]; rfl
            have p0 := HKP.out v61 HSV61.out.st
            have bt14 := blk_cell HSV61.out.blk 14 _ rfl
            have bz14 := blk_free HSV61.out.blk 14
            obtain ⟨v63, hv63⟩ : ∃ v63 : World, v63 = (v61.setCell ⟨b, 14, none⟩ (.slice la61 a61.length lc61)) := ⟨_, rfl⟩
            have HSV63 : Hid (Sv R v1 b d I61 v63 j61 (.cells #[.string s23, .slice ga1 a26.lifes.length gc1, .int .i64 rc, .string lf, .slice pa ps.length pc, .int .i64 tk0, .string tn0, .string tl0, .bool tm0, .slice ta1 tn1 tc1, .slice ta2 tn2 tc2, .int .i64 tl1, .int .i64 tc3, .slice wa c58.length wc9, .slice la61 a61.length lc61, .int .i64 tk.line, .int .i64 tk.col] 107 (0, 0))) := by show Sv _ _ _ _ _ _ _ _; rw [hv63]; exact (HSV61.out.set HI61.out hrb 14 (.slice la61 a61.length lc61))
            go_upto_region 23 with fail
            rw [← hv63]
            clear hv63 p0 bt14 bz14
            have p0 := HKP.out v63 HSV63.out.st
            have HLD : Hid (∀ (jj : Nat) v, [Value.string s23, .slice ga1 a26.lifes.length gc1, .int .i64 rc, .string lf, .slice pa ps.length pc, .int .i64 tk0, .string tn0, .string tl0, .bool tm0, .slice ta1 tn1 tc1, .slice ta2 tn2 tc2, .int .i64 tl1, .int .i64 tc3, .slice wa c58.length wc9, .slice la61 a61.length lc61, .int .i64 tk.line, .int .i64 tk.col][jj]? = some v → v63.cell? ⟨b, 0 + jj, none⟩ = some v) := by
             show ∀ jj v, _
             intro jj v hv
             rw [Nat.zero_add]; exact blk_cell HSV63.out.blk jj v (by simpa using hv)
            have HONE : Hid (∀ u ∈ [Value.string s23, .slice ga1 a26.lifes.length gc1, .int .i64 rc, .string lf, .slice pa ps.length pc, .int .i64 tk0, .string tn0, .string tl0, .bool tm0, .slice ta1 tn1 tc1, .slice ta2 tn2 tc2, .int .i64 tl1, .int .i64 tc3, .slice wa c58.length wc9, .slice la61 a61.length lc61, .int .i64 tk.line, .int .i64 tk.col], u.oneCell' = true) := oneCells rfl
            have HNX := Lib.hid (HKN.out v63 HSV63.out.st)
            obtain ⟨ct9, hct9, hty9⟩ := (HF58.out _ (HF61.out _ HSV63.out.inv).1).2.1
            obtain rfl : ct9 = [Value.int .i64 tk0, .string tn0, .string tl0, .bool tm0, .slice ta1 tn1 tc1, .slice ta2 tn2 tc2, .int .i64 tl1, .int .i64 tc3] := by simpa using hct9.symm
            obtain ⟨vl9, vt9, hgv, hgn, -⟩ := (HF26.out _ (HF57.out _ (HF58.out _ (HF61.out _ HSV63.out.inv).1).1).1).2
            obtain ⟨rfl, rfl⟩ : vl9 = .slice ga1 a26.lifes.length gc1 ∧ vt9 = .slice ga2 a26.types.length gc2 := by simpa using hgv.symm
            have HEX : Hid (MtP v63 (fun q => v1.heap.size ≤ q) ⟨s23, a26.lifes, rc, lf, ps, a58, c58, a61, tk.line, tk.col⟩ [.string s23, .slice ga1 a26.lifes.length gc1, .int .i64 rc, .string lf, .slice pa ps.length pc, .int .i64 tk0, .string tn0, .string tl0, .bool tm0, .slice ta1 tn1 tc1, .slice ta2 tn2 tc2, .int .i64 tl1, .int .i64 tc3, .slice wa c58.length wc9, .slice la61 a61.length lc61, .int .i64 tk.line, .int .i64 tk.col]) := ⟨[.int .i64 tk0, .string tn0, .string tl0, .bool tm0, .slice ta1 tn1 tc1, .slice ta2 tn2 tc2, .int .i64 tl1, .int .i64 tc3], _, _, _, _, rfl, HNS23.out, HLF.out, hgn, (HF57.out _ (HF58.out _ (HF61.out _ HSV63.out.inv).1).1).2, hty9, (HF58.out _ (HF61.out _ HSV63.out.inv).1).2.2, (HF61.out _ HSV63.out.inv).2⟩
            clear p0 hty9 hgn hgv hct9
            go_wp2_with (first
             | (refine wpList_load_whole rfl 107 (.tmp 5) rfl b 0 rfl [Value.string s23, .slice ga1 a26.lifes.length gc1, .int .i64 rc, .string lf, .slice pa ps.length pc, .int .i64 tk0, .string tn0, .string tl0, .bool tm0, .slice ta1 tn1 tc1, .slice ta2 tn2 tc2, .int .i64 tl1, .int .i64 tc3, .slice wa c58.length wc9, .slice la61 a61.length lc61, .int .i64 tk.line, .int .i64 tk.col] _ HLD.out Try.underlying107 rfl Try.sizeMethod ?_)
             | (refine wpList_store_part (w := v63) rfl 107 (.tmp 4) (.tmp 80) rfl (w.heap.size + 1) 0 107 _ [Value.string s23, .slice ga1 a26.lifes.length gc1, .int .i64 rc, .string lf, .slice pa ps.length pc, .int .i64 tk0, .string tn0, .string tl0, .bool tm0, .slice ta1 tn1 tc1, .slice ta2 tn2 tc2, .int .i64 tl1, .int .i64 tc3, .slice wa c58.length wc9, .slice la61 a61.length lc61, .int .i64 tk.line, .int .i64 tk.col] rfl rfl HNX.out Try.sizeMethod (Nat.le_of_eq rfl) HONE.out ?_
                intro wR hbR hstR))
            have hbR' : wR.heap[w.heap.size + 1]? = some (.cells [Value.string s23, .slice ga1 a26.lifes.length gc1, .int .i64 rc, .string lf, .slice pa ps.length pc, .int .i64 tk0, .string tn0, .string tl0, .bool tm0, .slice ta1 tn1 tc1, .slice ta2 tn2 tc2, .int .i64 tl1, .int .i64 tc3, .slice wa c58.length wc9, .slice la61 a61.length lc61, .int .i64 tk.line, .int .i64 tk.col].toArray 107 (0, 0)) := hbR
            refine bodyPost_ret (results_cellB rfl _ (w.heap.size + 1) 107 _ _ rfl hbR' Try.underlying107 rfl Try.sizeMethod) rfl ?_
            refine PPost.of_ok (a := ⟨s23, a26.lifes, rc, lf, ps, a58, c58, a61, tk.line, tk.col⟩) (j := j61) HE62.out rfl ⟨_, rfl, mtP_ok.mono _ _ (fun q _ hq => by omega) (mtP_ok.step _ _ hstR (fun q hq e => by omega) HEX.out)⟩ (HSV63.out.rd.step hstR (fun q hq e => by omega)) ((HBK.out _ HSV63.out.st).then hstR (fun q hq e => by omega))
          | false =>
           have HE64 : Hid (r = ((needR R.l k58 [59]).bind fun _ k => .ok [] k).bind fun b k => .ok ⟨s23, a26.lifes, rc, lf, ps, a58, c58, b, tk.line, tk.col⟩ k) := by show _ = _; exact HE59.out
           go_wp2_with fail
           refine (need_any R HL.out w58.heap.size ⟨#[59]⟩ _ k58 d (HSV58.out.rd.quiet ((Step.refl _ _).alloc _)) (by decide) (blk_cell (blk_new _ _) 0 _ rfl)).mono ?_
           rintro e v65 hp
           have hp2 : PPost R d UnitV (needR R.l k58 [59]) _ e v65 := hp
           cases hn : needR R.l k58 [59] with
           | out => exact (needR_out hn).elim
           | err c ln col =>
            rw [hn] at hp2
            obtain ⟨rfl, hs⟩ := hp2
            refine ⟨rfl, PPost.of_err (c := c) (ln := ln) (col := col) (by rw [HE64.out, hn]; rfl) rfl (HBK.out _ (HSV58.out.err (((Step.refl (· = R.rb) _).alloc _).trans hs)))⟩
           | ok u65 j65 =>
            have HN65 := Lib.hid hn
            rw [hn] at hp2
            obtain ⟨⟨v, rfl, rfl⟩, hr, hs⟩ := hp2
            have HSV65 := Lib.hid (HSV58.out.read HI58.out hrb hr (((Step.refl (· = R.rb) _).alloc _).trans hs))
            clear hn hr hs hp p0
            have HE66 : Hid (r = .ok ⟨s23, a26.lifes, rc, lf, ps, a58, c58, [], tk.line, tk.col⟩ j65) := by show _ = _; rw [HE64.out, HN65.out]; rfl
            have p0 := HKP.out v65 HSV65.out.st
            go_upto_region 23 with fail
            have HLD : Hid (∀ (jj : Nat) v, [Value.string s23, .slice ga1 a26.lifes.length gc1, .int .i64 rc, .string lf, .slice pa ps.length pc, .int .i64 tk0, .string tn0, .string tl0, .bool tm0, .slice ta1 tn1 tc1, .slice ta2 tn2 tc2, .int .i64 tl1, .int .i64 tc3, .slice wa c58.length wc9, .slice none 0 0, .int .i64 tk.line, .int .i64 tk.col][jj]? = some v → v65.cell? ⟨b, 0 + jj, none⟩ = some v) := by
             show ∀ jj v, _
             intro jj v hv
             rw [Nat.zero_add]; exact blk_cell HSV65.out.blk jj v (by simpa using hv)
            have HONE : Hid (∀ u ∈ [Value.string s23, .slice ga1 a26.lifes.length gc1, .int .i64 rc, .string lf, .slice pa ps.length pc, .int .i64 tk0, .string tn0, .string tl0, .bool tm0, .slice ta1 tn1 tc1, .slice ta2 tn2 tc2, .int .i64 tl1, .int .i64 tc3, .slice wa c58.length wc9, .slice none 0 0, .int .i64 tk.line, .int .i64 tk.col], u.oneCell' = true) := oneCells rfl
            have HNX := Lib.hid (HKN.out v65 HSV65.out.st)
            obtain ⟨ct9, hct9, hty9⟩ := (HF58.out _ HSV65.out.inv).2.1
            obtain rfl : ct9 = [Value.int .i64 tk0, .string tn0, .string tl0, .bool tm0, .slice ta1 tn1 tc1, .slice ta2 tn2 tc2, .int .i64 tl1, .int .i64 tc3] := by simpa using hct9.symm
            obtain ⟨vl9, vt9, hgv, hgn, -⟩ := (HF26.out _ (HF57.out _ (HF58.out _ HSV65.out.inv).1).1).2
            obtain ⟨rfl, rfl⟩ : vl9 = .slice ga1 a26.lifes.length gc1 ∧ vt9 = .slice ga2 a26.types.length gc2 := by simpa using hgv.symm
            have HEX : Hid (MtP v65 (fun q => v1.heap.size ≤ q) ⟨s23, a26.lifes, rc, lf, ps, a58, c58, [], tk.line, tk.col⟩ [.string s23, .slice ga1 a26.lifes.length gc1, .int .i64 rc, .string lf, .slice pa ps.length pc, .int .i64 tk0, .string tn0, .string tl0, .bool tm0, .slice ta1 tn1 tc1, .slice ta2 tn2 tc2, .int .i64 tl1, .int .i64 tc3, .slice wa c58.length wc9, .slice none 0 0, .int .i64 tk.line, .int .i64 tk.col]) := ⟨[.int .i64 tk0, .string tn0, .string tl0, .bool tm0, .slice ta1 tn1 tc1, .slice ta2 tn2 tc2, .int .i64 tl1, .int .i64 tc3], _, _, _, _, rfl, HNS23.out, HLF.out, hgn, (HF57.out _ (HF58.out _ HSV65.out.inv).1).2, hty9, (HF58.out _ HSV65.out.inv).2.2, StsQ.nil _ _⟩
            clear p0 hty9 hgn hgv hct9
            go_wp2_with (first
             | (refine wpList_load_whole rfl 107 (.tmp 5) rfl b 0 rfl [Value.string s23, .slice ga1 a26.lifes.length gc1, .int .i64 rc, .string lf, .slice pa ps.length pc, .int .i64 tk0, .string tn0, .string tl0, .bool tm0, .slice ta1 tn1 tc1, .slice ta2 tn2 tc2, .int .i64 tl1, .int .i64 tc3, .slice wa c58.length wc9, .slice none 0 0, .int .i64 tk.line, .int .i64 tk.col] _ HLD.out Try.underlying107 rfl Try.sizeMethod ?_)
             | (refine wpList_store_part (w := v65) rfl 107 (.tmp 4) (.tmp 80) rfl (w.heap.size + 1) 0 107 _ [Value.string s23, .slice ga1 a26.lifes.length gc1, .int .i64 rc, .string lf, .slice pa ps.length pc, .int .i64 tk0, .string tn0, .string tl0, .bool tm0, .slice ta1 tn1 tc1, .slice ta2 tn2 tc2, .int .i64 tl1, .int .i64 tc3, .slice wa c58.length wc9, .slice none 0 0, .int .i64 tk.line, .int .i64 tk.col] rfl rfl HNX.out Try.sizeMethod (Nat.le_of_eq rfl) HONE.out ?_
                intro wR hbR hstR))
            have hbR' : wR.heap[w.heap.size + 1]? = some (.cells [Value.string s23, .slice ga1 a26.lifes.length gc1, .int .i64 rc, .string lf, .slice pa ps.length pc, .int .i64 tk0, .string tn0, .string tl0, .bool tm0, .slice ta1 tn1 tc1, .slice ta2 tn2 tc2, .int .i64 tl1, .int .i64 tc3, .slice wa c58.length wc9, .slice none 0 0, .int .i64 tk.line, .int .i64 tk.col].toArray 107 (0, 0)) := hbR
            refine bodyPost_ret (results_cellB rfl _ (w.heap.size + 1) 107 _ _ rfl hbR' Try.underlying107 rfl Try.sizeMethod) rfl ?_
            refine PPost.of_ok (a := ⟨s23, a26.lifes, rc, lf, ps, a58, c58, [], tk.line, tk.col⟩) (j := j65) HE66.out rfl ⟨_, rfl, mtP_ok.mono _ _ (fun q _ hq => by omega) (mtP_ok.step _ _ hstR (fun q hq e => by omega) HEX.out)⟩ (HSV65.out.rd.step hstR (fun q hq e => by omega)) ((HBK.out _ HSV65.out.st).then hstR (fun q hq e => by omega))
theorem Try.infoMethod : (Try.prog.info? 107).map (fun i => (i.zero, i.size, i.bytes)) = some (some (.agg #[.string ⟨#[]⟩, .slice none 0 0, .int .i64 0, .string ⟨#[]⟩, .slice none 0 0, .int .i64 0, .string ⟨#[]⟩, .string ⟨#[]⟩, .bool false, .slice none 0 0, .slice none 0 0, .int .i64 0, .int .i64 0, .slice none 0 0, .slice none 0 0, .int .i64 0, .int .i64 0]), 17, 264) := by kernel_rfl
def MtsV (n0 : Nat) (w' : World) (a : List Mt) (v : Value) : Prop := LsQ MtP w' (fun k => n0 ≤ k) a v
theorem methods_any (f : Nat) (ihB : ∀ f', f' ≤ f → BlockOk f') (ihT : ∀ f', f' ≤ f → TypOk f') (R : Rdr) (w : World) (i d : Nat) (body : Bool) (hl : LOk R.l) (h : RdAt R w i d) (hd : d ≤ 40) (hno : methodsR f R.l i d body ≠ .out) :
  Calls Try.prog 42 #[.agg #[.pointer (some ⟨R.rb, 0, none⟩)], .bool body] w (PPost R d (MtsV w.heap.size) (methodsR f R.l i d body) w) := by
 have HL := Lib.hid hl
 have IHB := Lib.hid ihB
 have IHT := Lib.hid ihT
 obtain ⟨r, hr⟩ : ∃ r, r = methodsR f R.l i d body := ⟨_, rfl⟩
 have HRR : Hid (r = (needR R.l i [123]).bind fun _ j => methsR f R.l j d body []) := by show _ = _; rw [hr, methodsR]
 rw [← hr] at hno ⊢
 have HNO := Lib.hid hno
 obtain ⟨i0, hi0, hz0, hz1, hz2⟩ := info_parts Try.infoMethod
 have HI := Lib.hid hi0
 have HZ0 := Lib.hid hz0
 have HZ1 := Lib.hid hz1
 have HZ2 := Lib.hid hz2
 obtain ⟨w1, hw1⟩ : ∃ w1 : World, w1 = w.alloc (.cells #[.pointer (some ⟨R.rb, 0, none⟩)] 45) := ⟨_, rfl⟩
 have HS1 : Hid (Step (fun _ => False) w w1) := by show Step _ _ _; rw [hw1]; exact (Step.refl _ _).alloc _
 have HP1 : Hid (w1.heap[w.heap.size]? = some (.cells #[.pointer (some ⟨R.rb, 0, none⟩)] 45 (0, 0))) := by show _ = _; rw [hw1]; exact blk_new _ _
 have HW1 := Lib.hid hw1
 have H1 := Lib.hid (h.quiet HS1.out)
 have hn1 := blk_lt HP1.out
 have hrlt := blk_lt h.blk
 have hwz : R.rb < w1.heap.size := by omega
 have HKP : Hid (∀ X : World, Step (· = R.rb) w1 X → X.cell? ⟨w.heap.size, 0, none⟩ = some (.pointer (some ⟨R.rb, 0, none⟩))) := by
  show ∀ X, _
  intro X hX
  exact blk_cell (hX.keep HP1.out (by omega)) 0 _ rfl
 have HBK : Hid (∀ X : World, Step (· = R.rb) w1 X → Step (· = R.rb) w X) := by
  show ∀ X, _
  intro X hX
  exact (HS1.out.mono (fun _ _ h => h.elim)).trans hX
 clear hw1
 have p0 := HKP.out w1 (Step.refl _ _)
 clear ihB ihT hl h hno hr hi0 hz0 hz1 hz2
 go_enter Try.func42, Try.ntmps42
 go_upto_region 2 with fail
 rw [← HW1.out]
 go_wp2_with fail
 refine (need_any R HL.out w1.heap.size ⟨#[123]⟩ _ i d (H1.out.quiet ((Step.refl _ _).alloc _)) (by decide) (blk_cell (blk_new _ _) 0 _ rfl)).mono ?_
 rintro e w2 hp
 have hp2 : PPost R d UnitV (needR R.l i [123]) _ e w2 := hp
 cases hn : needR R.l i [123] with
 | out => exact (needR_out hn).elim
 | err c ln col =>
  rw [hn] at hp2
  obtain ⟨rfl, sb⟩ := hp2
  exact ⟨rfl, PPost.of_err (c := c) (ln := ln) (col := col) (by rw [HRR.out, hn]; rfl) rfl (HBK.out _ (((Step.refl (· = R.rb) _).alloc _).trans sb))⟩
 | ok u2 i2 =>
  have HN2 := Lib.hid hn
  rw [hn] at hp2
  obtain ⟨⟨v, rfl, rfl⟩, hr2, s2⟩ := hp2
  have HR2 := Lib.hid hr2
  have HS2 : Hid (Step (· = R.rb) w1 w2) := ((Step.refl (· = R.rb) _).alloc _).trans s2
  have HRE : Hid (r = methsR f R.l i2 d body []) := by show _ = _; rw [HRR.out, HN2.out]; rfl
  clear hn hr2 s2 p0 hp
  go_wp2_with fail
  go_loopg [5] f (fun gg s5 wr => gg ≤ f ∧ ∃ (i' : Nat) (acc : List Mt) (xs : List Value), r = methsR gg R.l i' d body acc ∧ LqSt MtP 107 17 R w1 d wr i' acc s5 xs)
  case atStart => exact ⟨Nat.le_refl _, i2, [], [], HRE.out, HR2.out, World.ownsRow_nil _ _ _ _, rfl, HS2.out⟩
  case round =>
   obtain ⟨hgf, i', acc, xs, hrq, hst⟩ := hrel
   obtain ⟨gn, rfl⟩ : ∃ gn, gk = gn + 1 := by
    cases gk with
    | zero => exact absurd hrq (by rw [methsR]; exact HNO.out)
    | succ gn => exact ⟨gn, rfl⟩
   have HEQ : Hid (r = if isF R.l i' [125] then .ok acc (i' + 1) else (roomR acc.length 12 R.l i').bind fun _ i => (methodR gn R.l i d body).bind fun x j => methsR gn R.l j d body (acc ++ [x])) := by show _ = _; rw [hrq, methsR]
   obtain ⟨oa, oc, rfl⟩ := owns_slice hst.ow
   have HST := Lib.hid hst
   have p0 := HKP.out wr hst.st
   clear hrq hst
   go_wp2_with fail
   cases hb : isF R.l i' [125] with
   | true =>
    have HB := Lib.hid hb
    clear hb
    refine (is_yes R HL.out ⟨#[125]⟩ _ i' d HST.out.rd (by decide) HB.out).mono ?_
    rintro e w6 ⟨rfl, hr6, s6⟩
    have HST6 := Lib.hid (HST.out.read mtP_ok hwz hr6 s6)
    have HR6 : Hid (r = .ok acc (i' + 1)) := by show _ = _; rw [HEQ.out, HB.out, if_pos rfl]
    clear hr6 s6 p0
    go_wp2_with fail
    go_ret
    have hsz := HS1.out.size
    exact PPost.of_ok HR6.out rfl ⟨_, RowP.of_owns HST6.out.ow (fun q hq => by have := (HST6.out.ow.lt q hq).1; omega), LsP.mono mtP_ok (fun q _ hq => by have := hq.1; omega) _ _ HST6.out.el⟩ HST6.out.rd (HBK.out _ HST6.out.st)
   | false =>
    have HB := Lib.hid hb
    clear hb
    refine (is_no R HL.out ⟨#[125]⟩ _ i' d HST.out.rd (by decide) HB.out).mono ?_
    rintro e wq ⟨rfl, hr6, s6⟩
    have HSTQ := Lib.hid (HST.out.read mtP_ok hwz hr6 s6)
    have HEQ2 : Hid (r = (roomR acc.length 12 R.l i').bind fun _ i => (methodR gn R.l i d body).bind fun x j => methsR gn R.l j d body (acc ++ [x])) := by show _ = _; rw [HEQ.out, HB.out, if_neg (by decide)]
    clear hr6 s6 p0
    have p0 := HKP.out wq HSTQ.out.st
    go_wp2_with fail
    refine (room_any R wq acc.length 12 i' d HSTQ.out.rd).mono ?_
    rintro e w3 hp
    cases hn : roomR acc.length 12 R.l i' with
    | out => exact (roomR_out hn).elim
    | err c ln col =>
     rw [hn] at hp
     obtain ⟨rfl, s3⟩ := hp
     exact ⟨rfl, PPost.of_err (c := c) (ln := ln) (col := col) (by rw [HEQ2.out, hn]; rfl) rfl (HBK.out _ (HSTQ.out.st.trans s3))⟩
    | ok u j3 =>
     have hji : j3 = i' ∧ acc.length < 12 := by
      unfold roomR at hn
      split at hn
      ·cases hn
      ·cases hn; exact ⟨rfl, by omega⟩
     obtain ⟨hj3, hlt⟩ := hji
     have HN3 := Lib.hid hn
     rw [hn] at hp
     obtain ⟨⟨v, rfl, rfl⟩, hr3, s3⟩ := hp
     have HST3 := Lib.hid (HSTQ.out.read mtP_ok hwz hr3 s3)
     have HE3 : Hid (r = (methodR gn R.l j3 d body).bind fun x j => methsR gn R.l j d body (acc ++ [x])) := by show _ = _; rw [HEQ2.out, HN3.out]; rfl
     clear hn hr3 s3 p0 hj3
     have p0 := HKP.out w3 HST3.out.st
     go_wp2_with fail
     refine (method_any gn (IHB.out gn (by omega)) (fun f' hf => IHT.out f' (by omega)) R w3 j3 d body HL.out HST3.out.rd hd (fun e => HNO.out (by rw [HE3.out, e]; rfl))).mono ?_
     rintro e wx hp
     have hp2 : PPost R d (MtV w3.heap.size) (methodR gn R.l j3 d body) _ e wx := hp
     cases hx : methodR gn R.l j3 d body with
     | out => exact absurd (by rw [HE3.out, hx]; rfl) HNO.out
     | err c ln col =>
      rw [hx] at hp2
      obtain ⟨rfl, sq⟩ := hp2
      exact ⟨rfl, PPost.of_err (c := c) (ln := ln) (col := col) (by rw [HE3.out, hx]; rfl) rfl (HBK.out _ (HST3.out.st.trans sq))⟩
     | ok x jx =>
      have HX := Lib.hid hx
      rw [hx] at hp2
      obtain ⟨⟨v, rfl, cs, rfl, hy⟩, hrx, hsx⟩ := hp2
      have HCL := Lib.hid (mtP_ok.len _ _ hy)
      have HONE := Lib.hid (mtP_ok.one _ _ hy)
      have HE5 : Hid (r = methsR gn R.l jx d body (acc ++ [x])) := by show _ = _; rw [HE3.out, HX.out]; rfl
      obtain ⟨w4, hw4⟩ : ∃ w4 : World, w4 = wx.alloc (.cells cs.toArray 107) := ⟨_, rfl⟩
      have HS4 : Hid (Step (fun _ => False) wx w4) := by show Step _ _ _; rw [hw4]; exact (Step.refl _ _).alloc _
      have HST4 := Lib.hid ((HST3.out.read mtP_ok hwz hrx hsx).quiet mtP_ok HS4.out)
      have HY4 : Hid (MtP w4 (fun q => w3.heap.size ≤ q) x cs) := mtP_ok.step _ _ HS4.out (fun _ _ h => h) hy
      have HOW4 : Hid ((wx.alloc (.cells cs.toArray 107)).ownsRow w1.heap.size 107 17 (.slice oa acc.length oc) acc.length xs) := by show World.ownsRow _ _ _ _ _ _ _; rw [← hw4]; exact HST4.out.ow
      have HROW4 : Hid (Row (wx.alloc (.cells cs.toArray 107)) (wx.heap.size + 1) (.slice (some ⟨wx.heap.size, 0, none⟩) 1 1) 1 cs) := Row.new (blk_new _ _) (by decide)
      have HLE4 : Hid (w1.heap.size ≤ (wx.alloc (.cells cs.toArray 107)).heap.size) := by show _ ≤ _; rw [← hw4]; exact HST4.out.st.size
      have HW4 := Lib.hid hw4
      have HLT := Lib.hid hlt
      have hC1 : i0.size = cs.length := by rw [HCL.out]; exact HZ1.out
      have hC2 : (Value.agg #[.string ⟨#[]⟩, .slice none 0 0, .int .i64 0, .string ⟨#[]⟩, .slice none 0 0, .int .i64 0, .string ⟨#[]⟩, .string ⟨#[]⟩, .bool false, .slice none 0 0, .slice none 0 0, .int .i64 0, .int .i64 0, .slice none 0 0, .slice none 0 0, .int .i64 0, .int .i64 0]).cells.size = cs.length := by rw [HCL.out]; rfl
      have hC3 : 0 < cs.length := by rw [HCL.out]; decide
      have hC4 : cs.length ≤ 16777216 := by rw [HCL.out]; decide
      have hC5 : cs.length = 1 * 17 := by rw [HCL.out]
      have HC := Lib.hid (And.intro hC1 (And.intro hC2 (And.intro hC3 (And.intro hC4 hC5))))
      clear hx hp hy hrx hsx p0 hw4 hlt hC1 hC2 hC3 hC4 hC5
      go_wp2_with (first
       | (refine wpList_slice_one rfl 56 (.tmp 21) rfl 107 i0 (.agg #[.string ⟨#[]⟩, .slice none 0 0, .int .i64 0, .string ⟨#[]⟩, .slice none 0 0, .int .i64 0, .string ⟨#[]⟩, .string ⟨#[]⟩, .bool false, .slice none 0 0, .slice none 0 0, .int .i64 0, .int .i64 0, .slice none 0 0, .slice none 0 0, .int .i64 0, .int .i64 0]) cs rfl Try.underlying56 HI.out HZ0.out HC.out.1 HC.out.2.1 HC.out.2.2.1 HC.out.2.2.2.1 ?_)
       | (refine wpList_append_row _ rfl (wx.heap.size + 1) (.tmp 18) (.tmp 22) 56 rfl w1.heap.size 107 i0 (.agg #[.string ⟨#[]⟩, .slice none 0 0, .int .i64 0, .string ⟨#[]⟩, .slice none 0 0, .int .i64 0, .string ⟨#[]⟩, .string ⟨#[]⟩, .bool false, .slice none 0 0, .slice none 0 0, .int .i64 0, .int .i64 0, .slice none 0 0, .slice none 0 0, .int .i64 0, .int .i64 0]) 17 264 Try.underlying56 HI.out HZ0.out HZ1.out HZ2.out rfl (by decide) _ _ _ (by rfl) HOW4.out _ 1 _ (by rfl) HROW4.out HC.out.2.2.2.2 HONE.out (by have := HLT.out; unfold maxLen; omega) (by have := HLT.out; omega) HLE4.out ?_
          intro v9 w9 hown9 hgrow9 hat9))
      rw [← HW4.out] at hgrow9 hat9
      have HST9 := Lib.hid (HST3.out.push mtP_ok HST4.out HY4.out hown9 hgrow9 hat9 hwz)
      clear hown9 hgrow9 hat9
      have p0 := HKP.out w9 HST9.out.st
      go_roundg gn
      case rel => exact ⟨by omega, jx, acc ++ [x], _, HE5.out, HST9.out⟩
      case measure => omega
end Go.Proofs.Ytppekkbaoimpgaa
