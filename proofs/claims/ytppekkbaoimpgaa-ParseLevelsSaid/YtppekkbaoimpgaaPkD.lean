/- TyC, UnA, UnB, LevA -/
import Derived.Test.YtppekkbaoimpgaaPkC
import Derived.Deep.RegionHeld3
set_option maxRecDepth 100000
set_option maxHeartbeats 8000000
namespace Go.Proofs.Ytppekkbaoimpgaa
open Go.RowKit
theorem Try.infoString : (Try.prog.info? 9).map (fun i => (i.zero, i.size, i.bytes)) = some (some (.string ⟨#[]⟩), 1, 16) := by kernel_rfl
theorem Try.infoWType : (Try.prog.info? 54).map (fun i => (i.zero, i.size, i.bytes)) = some (some (.agg #[.int .i64 0, .string ⟨#[]⟩, .string ⟨#[]⟩, .bool false, .slice none 0 0, .slice none 0 0, .int .i64 0, .int .i64 0]), 8, 112) := by kernel_rfl
theorem owns_stay {w w' : World} {base : Nat} {e : TypeId} {size : Nat} {v : Value} {n : Nat} {xs : List Value} {S : Nat → Prop} (h : w.ownsRow base e size v n xs) (hs : Step S w w') (hn : ∀ q, v.ownBlock = some q → ¬ S q) : w'.ownsRow base e size v n xs := by
 refine ⟨h.1, ?_⟩
 rcases h.2 with hz | ⟨g, cap, cur, rfl, hb, hgg, rest⟩
 ·exact .inl hz
 ·exact .inr ⟨g, cap, cur, rfl, hb, hs.keep hgg (hn g rfl), rest⟩
structure ArgSt (R : Rdr) (w1 : World) (bt : Nat) (k : Int) (nm : ByteArray) (t : Tok) (d : Nat) (X : World) (i' : Nat) (ls : List ByteArray) (ts : List Ty) (vl va : Value) (xs : List Value) : Prop where
 rd : RdAt R X i' d
 blk : X.heap[bt]? = some (.cells #[.int .i64 k, .string nm, .string noB, .bool false, vl, va, .int .i64 t.line, .int .i64 t.col] 54 (0, 0))
 ol : X.ownsRow w1.heap.size 9 1 vl ls.length (ls.map .string)
 oa : X.ownsRow w1.heap.size 54 8 va ts.length xs
 el : TysP X (fun q => w1.heap.size ≤ q ∧ va.ownBlock ≠ some q ∧ vl.ownBlock ≠ some q) ts xs
 ne : ∀ q, vl.ownBlock = some q → va.ownBlock ≠ some q
 sz : ∀ s ∈ ls, s.size ≤ 9223372036854775807
 few : ls.length + ts.length ≤ 9
 st : Step (fun k => k = R.rb ∨ k = bt) w1 X
theorem ArgSt.quiet {R : Rdr} {w1 : World} {bt : Nat} {k : Int} {nm : ByteArray} {t : Tok} {d : Nat} {X X' : World} {i' : Nat} {ls : List ByteArray} {ts : List Ty} {vl va : Value} {xs : List Value} (h : ArgSt R w1 bt k nm t d X i' ls ts vl va xs) (hs : Step (fun _ => False) X X') : ArgSt R w1 bt k nm t d X' i' ls ts vl va xs :=
 ⟨h.rd.quiet hs, hs.keep h.blk (fun h => h), hs.owns h.ol (fun _ _ h => h), hs.owns h.oa (fun _ _ h => h), TysP.step hs (fun _ _ h => h) _ _ h.el, h.ne, h.sz, h.few, h.st.trans (hs.mono (fun _ _ h => h.elim))⟩
/- The reader goes on: what was made stays. -/
theorem ArgSt.read {R : Rdr} {w1 : World} {bt : Nat} {k : Int} {nm : ByteArray} {t : Tok} {d : Nat} {X X' : World} {i' i2 : Nat} {ls : List ByteArray} {ts : List Ty} {vl va : Value} {xs : List Value} (h : ArgSt R w1 bt k nm t d X i' ls ts vl va xs) (hrb : R.rb < bt) (hw : R.rb < w1.heap.size) (hr : RdAt R X' i2 d) (hs : Step (· = R.rb) X X') : ArgSt R w1 bt k nm t d X' i2 ls ts vl va xs :=
 ⟨hr, hs.keep h.blk (by omega), hs.owns h.ol (fun _ _ h => by omega), hs.owns h.oa (fun _ _ h => by omega), TysP.step hs (fun _ hk h => by have := hk.1; omega) _ _ h.el, h.ne, h.sz, h.few, h.st.trans (hs.mono (fun _ _ e => .inl e))⟩
/- A lifetime is put behind the others. -/
theorem ArgSt.pushL {R : Rdr} {w1 : World} {bt : Nat} {k : Int} {nm : ByteArray} {t : Tok} {d : Nat} {X X2 X3 : World} {i' : Nat} {ls : List ByteArray} {ts : List Ty} {vl va v9 : Value} {xs : List Value} {s : ByteArray} (h : ArgSt R w1 bt k nm t d X i' ls ts vl va xs) (hrb : R.rb < bt) (hbt : bt < w1.heap.size) (h2 : Step (fun _ => False) X X2)
  (hown : X3.ownsRow w1.heap.size 9 1 v9 (ls.length + 1) (ls.map .string ++ [.string s])) (hgrow : X2.grownBy X3 vl.ownBlock) (hat : v9.ownBlock = vl.ownBlock ∨ v9.ownBlock = some X2.heap.size) (hs : s.size ≤ 9223372036854775807) (hlt : ls.length + ts.length < 8) :
  ArgSt R w1 bt k nm t d (X3.setCell ⟨bt, 4, none⟩ v9) i' (ls ++ [s]) ts v9 va xs := by
 have h3 : Step (fun q => vl.ownBlock = some q) X2 X3 := grown_step hgrow
 have h4 : Step (· = bt) X3 (X3.setCell ⟨bt, 4, none⟩ v9) := (Step.refl _ _).setCell _ _ (fun _ => rfl)
 have ho : ∀ q, vl.ownBlock = some q → w1.heap.size ≤ q ∧ q < X.heap.size := fun q hq => h.ol.lt q hq
 have hlen : (ls ++ [s]).length = ls.length + 1 := by simp
 have hb3 := h3.keep (h2.keep h.blk (fun h => h)) (fun e => by have := (ho bt e).1; omega)
 refine ⟨((h.rd.quiet h2).step h3 (fun q hq e => by have := (ho q e).1; omega)).step h4 (fun q hq e => by omega), blk_set hb3 4 v9, ?_, ?_, ?_, ?_, ?_, by rw [hlen]; omega, ?_⟩
 ·rw [hlen, List.map_append]
  exact owns_stay hown h4 (fun q hq e => by have := (hown.lt q hq).1; omega)
 ·refine owns_stay (owns_stay (h2.owns h.oa (fun _ _ h => h)) h3 (fun q hq e => h.ne q e hq)) h4 (fun q hq e => by have := (h.oa.lt q hq).1; omega)
 ·have h5 := TysP.mono (P' := fun q => (w1.heap.size ≤ q ∧ va.ownBlock ≠ some q ∧ vl.ownBlock ≠ some q) ∧ q < X.heap.size) (fun q h7 h8 => ⟨h8, h7⟩) _ _ h.el
  have h6 := TysP.step h4 (fun q hq e => by have := hq.1.1; omega) _ _ (TysP.step h3 (fun q hq e => hq.1.2.2 e) _ _ (TysP.step h2 (fun _ _ h => h) _ _ h5))
  refine TysP.mono (fun q _ hq => ⟨hq.1.1, hq.1.2.1, fun e => ?_⟩) _ _ h6
  rcases hat with h7 | h7
  ·exact hq.1.2.2 (by rw [← h7]; exact e)
  ·rw [h7] at e
   have e2 : X2.heap.size = q := Option.some.inj e
   have := h2.size
   have := hq.2
   omega
 ·intro q hq e
  rcases hat with h7 | h7
  ·exact h.ne q (by rw [← h7]; exact hq) e
  ·rw [h7] at hq
   have e2 : X2.heap.size = q := Option.some.inj hq
   have := (h.oa.lt q e).2
   have := h2.size
   omega
 ·intro x hx
  rcases List.mem_append.1 hx with hx | hx
  ·exact h.sz x hx
  ·rw [List.mem_singleton.1 hx]; exact hs
 ·refine ((h.st.trans (h2.mono (fun _ _ h => h.elim))).then h3 (fun q hq e => by have := (ho q e).1; omega)).trans (h4.mono (fun _ _ e => .inr e))
theorem args_step (f : Nat) (ih : ∀ f', f' < f → TypOk f') : ArgsOk f := by
 intro R w i d bt k nm t hl h hd hrb hbt hno
 have HL := Lib.hid hl
 have H0 := Lib.hid h
 have HNO := Lib.hid hno
 have IH := Lib.hid ih
 obtain ⟨r, hr⟩ : ∃ r, r = argsF f R.l i d := ⟨_, rfl⟩
 have HRR := Lib.hid hr
 rw [← hr] at hno ⊢
 have HNO := Lib.hid hno
 have hbl := blk_lt hbt
 obtain ⟨w1, hw1⟩ : ∃ w1 : World, w1 = w.alloc (.cells #[.pointer (some ⟨R.rb, 0, none⟩)] 45) := ⟨_, rfl⟩
 have HS1 : Hid (Step (fun _ => False) w w1) := by show Step _ _ _; rw [hw1]; exact (Step.refl _ _).alloc _
 have HP1 : Hid (w1.heap[w.heap.size]? = some (.cells #[.pointer (some ⟨R.rb, 0, none⟩)] 45 (0, 0))) := by show _ = _; rw [hw1]; exact blk_new _ _
 have HBT1 := Lib.hid (HS1.out.keep hbt (fun h => h))
 have HW1 := Lib.hid hw1
 have H1 := Lib.hid (h.quiet HS1.out)
 have hw1s := blk_lt HP1.out
 have HKP : Hid (∀ X : World, Step (fun k => k = R.rb ∨ k = bt) w1 X → X.cell? ⟨w.heap.size, 0, none⟩ = some (.pointer (some ⟨R.rb, 0, none⟩))) := by
  show ∀ X, _
  intro X hX
  exact blk_cell (hX.keep HP1.out (by omega)) 0 _ rfl
 have p0 := HKP.out w1 (Step.refl _ _)
 obtain ⟨i0, hi0, hz0, hz1, hz2⟩ := info_parts Try.infoString
 have HI := Lib.hid hi0
 have HZ0 := Lib.hid hz0
 have HZ1 := Lib.hid hz1
 have HZ2 := Lib.hid hz2
 obtain ⟨j0, hj0, hy0, hy1, hy2⟩ := info_parts Try.infoWType
 have HJ := Lib.hid hj0
 have HY0 := Lib.hid hy0
 have HY1 := Lib.hid hy1
 have HY2 := Lib.hid hy2
 clear ih hl h hno hr hbt hw1 hi0 hz0 hz1 hz2 hj0 hy0 hy1 hy2
 go_enter Try.func78, Try.ntmps78
 go_upto_region 1 with fail
 rw [← HW1.out]
 go_wp2_with fail
 cases hb : isF R.l i [60] with
 | false =>
  have HB := Lib.hid hb
  clear hb
  refine (is_no R HL.out ⟨#[60]⟩ _ i d H1.out (by decide) HB.out).mono ?_
  rintro e w2 ⟨rfl, hr2, h2⟩
  have HR2 := Lib.hid hr2
  have HS2 := Lib.hid h2
  clear hr2 h2 p0
  go_wp2_with fail
  refine bodyPost_ret (results_none rfl _ _ _) rfl ?_
  rw [HRR.out, argsF, HB.out, if_neg (by decide)]
  exact ⟨rfl, ⟨.slice none 0 0, .slice none 0 0, [], HS2.out.keep HBT1.out (by omega), (fun _ h => nomatch h), RowP.nil _ _ _, by rw [TysP], RowP.nil _ _ _⟩, HR2.out, ((HS1.out.mono (fun _ _ h => h.elim)).trans HS2.out).mono (fun _ _ e => .inl e)⟩
 | true =>
  have HB := Lib.hid hb
  have HRA : Hid (r = argsR f R.l (i + 1) d [] []) := by show _ = _; rw [HRR.out, argsF, hb, if_pos rfl]
  clear hb
  refine (is_yes R HL.out ⟨#[60]⟩ _ i d H1.out (by decide) HB.out).mono ?_
  rintro e w2 ⟨rfl, hr2, h2⟩
  have HR2 := Lib.hid hr2
  have HS2 := Lib.hid h2
  have HBT2 := Lib.hid (h2.keep HBT1.out (by omega))
  clear hr2 h2 p0
  go_wp2_with fail
  go_loopg [] f (fun gg wr => gg ≤ f ∧ ∃ (i' : Nat) (ls : List ByteArray) (ts : List Ty) (vl va : Value) (xs : List Value), r = argsR gg R.l i' d ls ts ∧ ArgSt R w1 bt k nm t d wr i' ls ts vl va xs)
  case atStart => exact ⟨Nat.le_refl _, i + 1, [], [], .slice none 0 0, .slice none 0 0, [], HRA.out, HR2.out, HBT2.out, World.ownsRow_nil _ _ _ _, World.ownsRow_nil _ _ _ _, by rw [TysP], (fun _ h => nomatch h), (fun _ h => nomatch h), by simp, HS2.out.mono (fun _ _ e => .inl e)⟩
  case round =>
   obtain ⟨hgf, i', ls, ts, vl, va, xs, hrq, hst⟩ := hrel
   have HRQ := Lib.hid hrq
   have HST := Lib.hid hst
   obtain ⟨gn, rfl⟩ : ∃ gn, gk = gn + 1 := by
    cases gk with
    | zero => exact absurd hrq (by rw [argsR]; exact HNO.out)
    | succ gn => exact ⟨gn, rfl⟩
   obtain ⟨oa1, oc1, rfl⟩ := owns_slice hst.ol
   obtain ⟨oa2, oc2, rfl⟩ := owns_slice hst.oa
   have p0 := HKP.out wr hst.st
   have bt4 := blk_cell hst.blk 4 _ rfl
   have bt5 := blk_cell hst.blk 5 _ rfl
   have hfew := hst.few
   have HEQ : Hid (r = (roomR (ls.length + ts.length) 8 R.l i').bind fun _ i => (if (tokA R.l i).kind = 2 ∧ ts.length = 0 then (lifeR R.l i).bind fun x j => .ok (ls ++ [x], ts) j else (typR gn R.l i d).bind fun x j => .ok (ls, ts ++ [x]) j).bind fun p j => if isF R.l j [44] then argsR gn R.l (j + 1) d p.1 p.2 else (needR R.l j [62]).bind fun _ j => .ok p j) := by
    show _ = _
    rw [HRQ.out, argsR]
   clear hrq hst
   go_upto_region 2 with fail
   go_still_tail 12, (by kernel_rfl)
   change wpList _ _ _ _ _ wr.drew
   have HSTD : Hid (ArgSt R w1 bt k nm t d wr.drew i' ls ts (.slice oa1 ls.length oc1) (.slice oa2 ts.length oc2) xs) := HST.out.quiet ((Step.refl _ _).drew)
   obtain ⟨wd, hwd⟩ : ∃ wd, wd = wr.drew := ⟨_, rfl⟩
   rw [← hwd] at HSTD ⊢
   have HX0 : Hid (Step (fun _ => False) wr wd) := by show Step _ _ _; rw [hwd]; exact (Step.refl _ _).drew
   clear hwd p0 bt4 bt5
   have p0 := HKP.out wd HSTD.out.st
   have bt4 := blk_cell HSTD.out.blk 4 _ rfl
   have bt5 := blk_cell HSTD.out.blk 5 _ rfl
   have el1 : IntKind.i64.wrap ((ls.length : Int) + (ts.length : Int)) = ((ls.length + ts.length : Nat) : Int) := by
    rw [show ((ls.length : Int) + (ts.length : Int)) = ((ls.length + ts.length : Nat) : Int) by omega]
    exact IntWalk.i64_in _ (by omega)
   go_wp2_with fail
   have hrm : Calls Try.prog 28 #[.agg #[.pointer (some ⟨R.rb, 0, none⟩)], .int .i64 ((ls.length : Int) + (ts.length : Int)), .int .i64 8] wd (PPost R d UnitV (roomR (ls.length + ts.length) 8 R.l i') wd) := room_any R wd (ls.length + ts.length) 8 i' d HSTD.out.rd
   have HRM := Lib.hid hrm
   clear hrm
   refine HRM.out.mono ?_
   rintro e w3 hp
   cases hn : roomR (ls.length + ts.length) 8 R.l i' with
   | out => exact (roomR_out hn).elim
   | err c ln col =>
    rw [hn] at hp
    obtain ⟨rfl, s3⟩ := hp
    refine ⟨rfl, ?_⟩
    rw [HEQ.out, hn]
    exact ⟨rfl, ((HS1.out.mono (fun _ _ h => h.elim)).trans (HSTD.out.st)).trans (s3.mono (fun _ _ e => .inl e))⟩
   | ok u j =>
    have hji : j = i' ∧ ls.length + ts.length < 8 := by
     unfold roomR at hn
     split at hn
     ·cases hn
     ·cases hn; exact ⟨rfl, by omega⟩
    obtain ⟨rfl, hlt8⟩ := hji
    have HN := Lib.hid hn
    rw [hn] at hp
    obtain ⟨⟨v, rfl, rfl⟩, hr3, s3⟩ := hp
    have HST3 := Lib.hid (HSTD.out.read hrb (by omega) hr3 s3)
    have HE3 : Hid (r = (if (tokA R.l j).kind = 2 ∧ ts.length = 0 then (lifeR R.l j).bind fun x j => .ok (ls ++ [x], ts) j else (typR gn R.l j d).bind fun x j => .ok (ls, ts ++ [x]) j).bind fun p j => if isF R.l j [44] then argsR gn R.l (j + 1) d p.1 p.2 else (needR R.l j [62]).bind fun _ j => .ok p j) := by
     show _ = _
     rw [HEQ.out, HN.out]; rfl
    clear hn hr3 s3 p0 bt4 bt5
    have p0 := HKP.out w3 HST3.out.st
    have bt5 := blk_cell HST3.out.blk 5 _ rfl
    have hfd0 : ∀ (a0 a1 a2 a3 a4 : Value) (w : World), (Instr.field 73 (.agg #[a0, a1, a2, a3, a4]) 0).run Try.prog w = .ok a0 w := fun _ _ _ _ _ _ => by kernel_rfl
    obtain ⟨tk, htk⟩ : ∃ tk, tk = tokA R.l j := ⟨_, rfl⟩
    have HTK := Lib.hid htk
    have HPK := Lib.hid (peek_at R w3 j d tk HST3.out.rd (by rw [htk]; exact HST3.out.rd.tok))
    clear htk
    obtain ⟨bz, hbz⟩ : ∃ bz, ((ts.length : Int) == 0) = bz := ⟨_, rfl⟩
    obtain ⟨bk, hbk⟩ : ∃ bk, ((tk.kind : Int) == 2) = bk := ⟨_, rfl⟩
    have HBZ := Lib.hid hbz
    have HBK := Lib.hid hbk
    go_upto_region 3 with fail
    go_cut [33] (fun s33 wx => s33 = .bool (bk && bz) ∧ ArgSt R w1 bt k nm t d wx j ls ts (.slice oa1 ls.length oc1) (.slice oa2 ts.length oc2) xs)
    case first =>
     go_wp2_with fail
     refine HPK.out.mono ?_
     rintro e w4 ⟨rfl, s4⟩
     have HST4 := Lib.hid (HST3.out.quiet s4)
     clear s4 p0 bt5
     have p0 := HKP.out w4 HST4.out.st
     have bt5 := blk_cell HST4.out.blk 5 _ rfl
     cases bk with
     | false =>
      go_wp2_with fail
      go_meet
      case rel => exact ⟨rfl, HST4.out⟩
     | true =>
      go_wp2_with fail
      go_meet
      case rel => exact ⟨rfl, HST4.out⟩
    case rest =>
     obtain ⟨rfl, hst4⟩ := hcut
     obtain ⟨w4, rfl⟩ : ∃ w4 : World, w4 = wc := ⟨_, rfl⟩
     have HST4 := Lib.hid hst4
     have HCN : Hid ((bk && bz) = decide ((tokA R.l j).kind = 2 ∧ ts.length = 0)) := by
      show _ = _
      rw [← HBK.out, ← HBZ.out, HTK.out, kindN _ 2 2 rfl, kindN _ 0 0 rfl, Bool.eq_iff_iff]
      simp
     obtain ⟨bc, hbc⟩ : ∃ bc, bc = (bk && bz) := ⟨_, rfl⟩
     rw [← hbc] at HCN ⊢
     clear hst4 hbc hbz hbk p0 bt5
     go_upto_if 33 with fail
     go_cut [] (fun wx => ∃ (i2 : Nat) (ls2 : List ByteArray) (ts2 : List Ty) (vl2 va2 : Value) (xs2 : List Value), r = (if isF R.l i2 [44] then argsR gn R.l (i2 + 1) d ls2 ts2 else (needR R.l i2 [62]).bind fun _ j => .ok (ls2, ts2) j) ∧ ArgSt R w1 bt k nm t d wx i2 ls2 ts2 vl2 va2 xs2)
     case first =>
      cases bc with
      | true =>
       obtain ⟨hk2, hz2⟩ := of_decide_eq_true HCN.out.symm
       have HLF : Hid (lifeR R.l j = .ok (toB (tokA R.l j).text) (j + 1)) := by show _ = _; unfold lifeR; rw [if_pos hk2]
       obtain ⟨s, hs⟩ : ∃ s, s = toB (tokA R.l j).text := ⟨_, rfl⟩
       have HSS : Hid (s.size ≤ 9223372036854775807) := by show _ ≤ _; rw [hs]; exact tok_size HL.out HST4.out.rd.lt
       rw [← hs] at HLF
       have HE4 : Hid (r = (if isF R.l (j + 1) [44] then argsR gn R.l (j + 1 + 1) d (ls ++ [s]) ts else (needR R.l (j + 1) [62]).bind fun _ j => .ok (ls ++ [s], ts) j)) := by
        show _ = _
        rw [HE3.out, if_pos ⟨hk2, hz2⟩, HLF.out]; rfl
       clear hk2 hz2 hs
       have HLIFE : Hid (∀ X, RdAt R X j d → Calls Try.prog 59 #[.agg #[.pointer (some ⟨R.rb, 0, none⟩)]] X fun e w' => e = .returned (.string s) ∧ RdAt R w' (j + 1) d ∧ Step (· = R.rb) X w') := by
        show ∀ X, _
        intro X hX
        refine (life_any R HL.out X j d hX).mono ?_
        intro e w' hp
        rw [HLF.out] at hp
        obtain ⟨⟨v, he, hv⟩, h1, h2⟩ := hp
        exact ⟨by rw [he, hv], h1, h2⟩
       have p0 := HKP.out w4 HST4.out.st
       have bt4 := blk_cell HST4.out.blk 4 _ rfl
       go_upto_region 4 with fail
       first
       | (go_region_law (first
           | (refine step_append_row _ rfl (w8.heap.size + 1) (.tmp 38) (.tmp 41) 24 rfl w1.heap.size 9 i0 (.string ⟨#[]⟩) 1 16 Try.underlying24 HI.out HZ0.out HZ1.out HZ2.out rfl (by decide) _ _ _ (by simp [Act.eval]) HOL9.out _ 1 _ (by simp [Act.eval]) HROW9.out rfl HONE9.out (by unfold maxLen; omega) (by omega) HLE9.out ?_
              intro v9 w9 hown9 hgrow9 hat9
              obtain ⟨a9, c9, rfl⟩ := owns_slice hown9
              have HEND : Hid (ArgSt R w1 bt k nm t d (w9.setCell ⟨bt, 4, none⟩ (.slice a9 (ls.length + 1) c9)) (j + 1) (ls ++ [s]) ts (.slice a9 (ls.length + 1) c9) (.slice oa2 ts.length oc2) xs) := HST8.out.pushL hrb (by omega) ((Step.refl _ _).alloc _) hown9 hgrow9 hat9 HSS.out hlt8
              have hbb := (grown_step hgrow9).keep (blk_alloc (o' := .cells #[.string s] 9) HST8.out.blk) (fun e => by have := (HST8.out.ol.lt _ e).1; omega)
              have bt4' := blk_cell hbb 4 _ rfl
              have bz4' := blk_free hbb 4
              clear hbb hown9 hgrow9 hat9)
           | (go_simp
              go_at_call 59
              refine (HLIFE.out _ (HST4.out.rd.quiet ((Step.refl _ _).drew))).mono ?_
              rintro e8 w8 ⟨rfl, hr8, hs8⟩
              have HST8 := Lib.hid ((HST4.out.quiet ((Step.refl _ _).drew)).read hrb (by omega) hr8 hs8)
              have HOL9 : Hid ((w8.alloc (.cells #[.string s] 9)).ownsRow w1.heap.size 9 1 (.slice oa1 ls.length oc1) ls.length (ls.map .string)) := HST8.out.ol.alloc _
              have HROW9 : Hid (Row (w8.alloc (.cells #[.string s] 9)) (w8.heap.size + 1) (.slice (some ⟨w8.heap.size, 0, none⟩) 1 1) 1 [.string s]) := Row.new (blk_new _ _) (by decide)
              have HONE9 : Hid (∀ u ∈ [Value.string s], u.oneCell' = true) := by
               show ∀ u ∈ _, _
               intro u hu
               simp at hu
               subst hu; rfl
              have HLE9 : Hid (w1.heap.size ≤ (w8.alloc (.cells #[.string s] 9)).heap.size) := by
               show _ ≤ _
               have := HST8.out.st.size
               simp; omega
              have bt48 := blk_cell HST8.out.blk 4 _ rfl
              have bt49 := blk_cell (blk_alloc (o' := .cells #[.string s] 9) HST8.out.blk) 4 _ rfl
              clear hr8 hs8)))
       | fail
       all_goals (
        clear p0 bt4
        go_wp2_with fail
        go_meet
        case rel => exact ⟨j + 1, ls ++ [s], ts, _, _, xs, HE4.out, HEND.out⟩)
      | false =>
       have hcn : ¬ ((tokA R.l j).kind = 2 ∧ ts.length = 0) := of_decide_eq_false HCN.out.symm
       have HE4 : Hid (r = (typR gn R.l j d).bind fun x i2 => if isF R.l i2 [44] then argsR gn R.l (i2 + 1) d ls (ts ++ [x]) else (needR R.l i2 [62]).bind fun _ j => .ok (ls, ts ++ [x]) j) := by
        show _ = _
        rw [HE3.out, if_neg hcn]
        cases typR gn R.l j d <;> rfl
       clear hcn
       have HPX : Hid (∀ X : World, Step (fun q => q = R.rb ∨ q = bt ∨ (Value.slice oa2 ts.length oc2).ownBlock = some q) w4 X → X.cell? ⟨w.heap.size, 0, none⟩ = some (.pointer (some ⟨R.rb, 0, none⟩))) := by
        show ∀ X, _
        intro X hX
        refine hX.cell (HKP.out w4 HST4.out.st) (fun e => ?_)
        have e2 : w.heap.size = R.rb ∨ w.heap.size = bt ∨ (Value.slice oa2 ts.length oc2).ownBlock = some w.heap.size := e
        rcases e2 with e2 | e2 | e2
        ·omega
        ·omega
        ·have := (HST4.out.oa.lt _ e2).1; omega
       obtain ⟨zsT, hzsT⟩ : ∃ zsT, zsT = [Value.int .i64 0, .string ⟨#[]⟩, .string ⟨#[]⟩, .bool false, .slice none 0 0, .slice none 0 0, .int .i64 0, .int .i64 0] := ⟨_, rfl⟩
       have HO : Hid (AppOk R w4 5 7 8 9 10 13 bt w1.heap.size 8 ts.length (.slice oa2 ts.length oc2) xs zsT) := by
        show AppOk _ _ _ _ _ _ _ _ _ _ _ _ _ _ _
        refine ⟨by decide, by decide, by decide, by decide, by decide, by decide, by decide, by decide, by decide, hrb, by omega, HST4.out.st.size, fun q hq => HST4.out.oa.lt q hq, HST4.out.el.len, by rw [hzsT]; rfl⟩
       subst hzsT
       have ZONE : Hid (∀ u ∈ [Value.int .i64 0, .string ⟨#[]⟩, .string ⟨#[]⟩, .bool false, .slice none 0 0, .slice none 0 0, .int .i64 0, .int .i64 0], u.oneCell' = true) := by
        show ∀ u ∈ _, _
        intro u hu
        simp at hu
        rcases hu with rfl | rfl | rfl | rfl | rfl | rfl | rfl | rfl <;> rfl
       have hlts : ts.length ≤ 9 := by omega
       cases hx : typR gn R.l j d with
       | out => exact absurd (by rw [HE4.out, hx]; rfl) HNO.out
       | err c ln col =>
        have HX := Lib.hid hx
        clear hx
        obtain ⟨ty, -⟩ : ∃ ty : Ty, ty = noTy := ⟨_, rfl⟩
        obtain ⟨j2, -⟩ : ∃ j2, j2 = j := ⟨_, rfl⟩
        have HE : Hid (ElOk (fun w P cs => TyP w P ty cs)) := TyEl ty
        have HZERO : Hid (∀ V, AppB R j j2 d w4 5 7 8 9 10 13 bt (fun v => .cells #[.int .i64 k, .string nm, .string noB, .bool false, .slice oa1 ls.length oc1, v, .int .i64 t.line, .int .i64 t.col] 54 (0, 0)) w1.heap.size 54 8 ts.length (.slice oa2 ts.length oc2) xs [Value.int .i64 0, .string ⟨#[]⟩, .string ⟨#[]⟩, .bool false, .slice none 0 0, .slice none 0 0, .int .i64 0, .int .i64 0] (fun w P cs => TyP w P ty cs) [some (.pointer (some ⟨bt, 0, none⟩)), some (.pointer (some ⟨bt, 0, none⟩)), some (.pointer (some ⟨bt, 5, none⟩)), some (.slice oa2 ts.length oc2), some (.agg #[.pointer (some ⟨R.rb, 0, none⟩)]), none, some (.int .i64 (ts.length : Int)), none, none, none, none, some (.pointer (some ⟨bt, 0, none⟩)), some (.pointer (some ⟨bt, 5, none⟩)), none] (fun _ => false) V w4.drew) := fun V => AppB.zero ((Step.refl _ _).drew) HST4.out.rd HST4.out.oa HST4.out.blk
        have HCAL : Hid (∀ X, RdAt R X j d → Calls Try.prog 60 #[.agg #[.pointer (some ⟨R.rb, 0, none⟩)]] X fun e wq => e = .panicked [{ v := .iface 89 (.agg #[.int .i64 c, .int .i64 ln, .int .i64 col]), recovered := false }] ∧ Step (· = R.rb) X wq) := by
         show ∀ X, _
         intro X hX
         have h9 := IH.out gn (by omega) R X j d HL.out hX hd (by rw [HX.out]; intro h; cases h)
         rw [HX.out] at h9
         exact h9
        have HPAN : Hid (∀ X wq : World, Step (fun q => q = R.rb ∨ q = bt ∨ (Value.slice oa2 ts.length oc2).ownBlock = some q) w4 X → Step (· = R.rb) X wq → ArgPost R d bt k nm t r w (.panicked [{ v := .iface 89 (.agg #[.int .i64 c, .int .i64 ln, .int .i64 col]), recovered := false }]) wq) := by
         show ∀ X wq, _
         intro X wq h1 h2
         rw [HE4.out, HX.out]
         refine ⟨rfl, ((HS1.out.mono (fun _ _ h => h.elim)).trans HST4.out.st).then (h1.trans (h2.mono (fun _ _ e => .inl e))) (fun q hq e => ?_)⟩
         rcases e with e | e | e
         ·exact .inl e
         ·exact .inr e
         ·have := (HST4.out.oa.lt _ e).1; have := HS1.out.size; omega
        go_upto_region 5 with fail
        refine wp_region_relyD (by kernel_rfl) (fun L V X => AppB R j j2 d w4 5 7 8 9 10 13 bt (fun v => .cells #[.int .i64 k, .string nm, .string noB, .bool false, .slice oa1 ls.length oc1, v, .int .i64 t.line, .int .i64 t.col] 54 (0, 0)) w1.heap.size 54 8 ts.length (.slice oa2 ts.length oc2) xs [Value.int .i64 0, .string ⟨#[]⟩, .string ⟨#[]⟩, .bool false, .slice none 0 0, .slice none 0 0, .int .i64 0, .int .i64 0] (fun w P cs => TyP w P ty cs) [some (.pointer (some ⟨bt, 0, none⟩)), some (.pointer (some ⟨bt, 0, none⟩)), some (.pointer (some ⟨bt, 5, none⟩)), some (.slice oa2 ts.length oc2), some (.agg #[.pointer (some ⟨R.rb, 0, none⟩)]), none, some (.int .i64 (ts.length : Int)), none, none, none, none, some (.pointer (some ⟨bt, 0, none⟩)), some (.pointer (some ⟨bt, 5, none⟩)), none] L V X ∧ L 5 = false) 14 rfl (by kernel_rfl) (by kernel_rfl) (by kernel_rfl) (by kernel_rfl) ?h0 ?hs ?hdone
        case h0 => exact ⟨HZERO.out _, rfl⟩
        case hs =>
         refine ⟨?_, ?_, ?_, ?_, ?_, ?_, ?_, ?_, ?_, ?_, ?_, ?_, ?_, ?_, trivial⟩
         ·intro L V X a ev evo hdf hL hdep hJ
          have o1 := evo 1 rfl
          change a.tmps[1]?.getD undef = .pointer (some ⟨bt, 0, none⟩) at o1
          go_simp
          exact ⟨_, rfl, ⟨hJ.1.up 0 (by decide) (by decide) (by decide) (by decide) (by decide) (by decide) rfl, by rw [updL_ne _ (by decide)]; exact hJ.2⟩⟩
         ·intro L V X a ev evo hdf hL hdep hJ
          have e45 := (ev 0 45 rfl (hdep 0 rfl)).trans (hJ.1.det 0 _ rfl (hdep 0 rfl))
          go_simp
          exact ⟨_, rfl, ⟨hJ.1.up 1 (by decide) (by decide) (by decide) (by decide) (by decide) (by decide) rfl, by rw [updL_ne _ (by decide)]; exact hJ.2⟩⟩
         ·intro L V X a ev evo hdf hL hdep hJ
          have e46 := (ev 1 46 rfl (hdep 1 rfl)).trans (hJ.1.det 1 _ rfl (hdep 1 rfl))
          go_simp
          exact ⟨_, rfl, ⟨hJ.1.up 2 (by decide) (by decide) (by decide) (by decide) (by decide) (by decide) rfl, by rw [updL_ne _ (by decide)]; exact hJ.2⟩⟩
         ·intro L V X a ev evo hdf hL hdep hJ
          have e47 := (ev 2 47 rfl (hdep 2 rfl)).trans (hJ.1.det 2 _ rfl (hdep 2 rfl))
          have hZ := (hJ.1.noZ (hJ.1.noA (by decide) hL)).1
          have hb := hJ.1.blk
          rw [hZ, if_neg (by decide)] at hb
          have q5 : X.cell? ⟨bt, 5, none⟩ = some (.slice oa2 ts.length oc2) := blk_cell hb 5 _ rfl
          go_simp
          exact ⟨_, rfl, ⟨hJ.1.up 3 (by decide) (by decide) (by decide) (by decide) (by decide) (by decide) rfl, by rw [updL_ne _ (by decide)]; exact hJ.2⟩⟩
         ·intro L V X a ev evo hdf hL hdep hJ
          have o2 := evo 2 rfl
          change a.tmps[2]?.getD undef = .pointer (some ⟨w.heap.size, 0, none⟩) at o2
          have p0 := HPX.out X hJ.1.st
          go_simp
          exact ⟨_, rfl, ⟨hJ.1.up 4 (by decide) (by decide) (by decide) (by decide) (by decide) (by decide) rfl, by rw [updL_ne _ (by decide)]; exact hJ.2⟩⟩
         ·intro L V X a ev evo hdf hL hdep hJ
          have e49 := (ev 4 49 rfl (hdep 4 rfl)).trans (hJ.1.det 4 _ rfl (hdep 4 rfl))
          have hrd := hJ.1.rd
          rw [hL, if_neg (by decide)] at hrd
          go_simp
          refine (HCAL.out X hrd).mono ?_
          rintro e wq ⟨rfl, hs⟩
          exact ⟨hdf, HPAN.out X wq hJ.1.st hs⟩
         ·intro L V X a ev evo hdf hL hdep hJ
          have e48 := (ev 3 48 rfl (hdep 3 rfl)).trans (hJ.1.det 3 _ rfl (hdep 3 rfl))
          go_simp
          exact ⟨_, rfl, ⟨hJ.1.up 6 (by decide) (by decide) (by decide) (by decide) (by decide) (by decide) rfl, by rw [updL_ne _ (by decide)]; exact hJ.2⟩⟩
         ·intro L V X a ev evo hdf hL hdep hJ
          have hu := hJ.1.build HE.out HO.out hL rfl
          go_simp
          exact ⟨_, rfl, ⟨hu, by rw [updL_ne _ (by decide)]; exact hJ.2⟩⟩
         ·intro L V X a ev evo hdf hL hdep hJ
          have e48 := (ev 3 48 rfl (hdep 3 rfl)).trans (hJ.1.det 3 _ rfl (hdep 3 rfl))
          exact absurd hJ.2 (by rw [hdep 5 rfl]; decide)
         ·intro L V X a ev evo hdf hL hdep hJ
          have e51 := (ev 6 51 rfl (hdep 6 rfl)).trans (hJ.1.det 6 _ rfl (hdep 6 rfl))
          exact absurd hJ.2 (by rw [hdep 5 rfl]; decide)
         ·intro L V X a ev evo hdf hL hdep hJ
          exact absurd hJ.2 (by rw [hdep 5 rfl]; decide)
         ·intro L V X a ev evo hdf hL hdep hJ
          have e45 := (ev 0 45 rfl (hdep 0 rfl)).trans (hJ.1.det 0 _ rfl (hdep 0 rfl))
          go_simp
          exact ⟨_, rfl, ⟨hJ.1.up 11 (by decide) (by decide) (by decide) (by decide) (by decide) (by decide) rfl, by rw [updL_ne _ (by decide)]; exact hJ.2⟩⟩
         ·intro L V X a ev evo hdf hL hdep hJ
          have e55 := (ev 11 55 rfl (hdep 11 rfl)).trans (hJ.1.det 11 _ rfl (hdep 11 rfl))
          go_simp
          exact ⟨_, rfl, ⟨hJ.1.up 12 (by decide) (by decide) (by decide) (by decide) (by decide) (by decide) rfl, by rw [updL_ne _ (by decide)]; exact hJ.2⟩⟩
         ·intro L V X a ev evo hdf hL hdep hJ
          have e56 := (ev 12 56 rfl (hdep 12 rfl)).trans (hJ.1.det 12 _ rfl (hdep 12 rfl))
          exact absurd hJ.2 (by rw [hdep 5 rfl]; decide)
        case hdone =>
         intro L V X hall hJ
         exact absurd hJ.2 (by rw [hall 5 (by decide)]; decide)
       | ok ty j2 =>
        have HX := Lib.hid hx
        clear hx
        have HE : Hid (ElOk (fun w P cs => TyP w P ty cs)) := TyEl ty
        have HZERO : Hid (∀ V, AppB R j j2 d w4 5 7 8 9 10 13 bt (fun v => .cells #[.int .i64 k, .string nm, .string noB, .bool false, .slice oa1 ls.length oc1, v, .int .i64 t.line, .int .i64 t.col] 54 (0, 0)) w1.heap.size 54 8 ts.length (.slice oa2 ts.length oc2) xs [Value.int .i64 0, .string ⟨#[]⟩, .string ⟨#[]⟩, .bool false, .slice none 0 0, .slice none 0 0, .int .i64 0, .int .i64 0] (fun w P cs => TyP w P ty cs) [some (.pointer (some ⟨bt, 0, none⟩)), some (.pointer (some ⟨bt, 0, none⟩)), some (.pointer (some ⟨bt, 5, none⟩)), some (.slice oa2 ts.length oc2), some (.agg #[.pointer (some ⟨R.rb, 0, none⟩)]), none, some (.int .i64 (ts.length : Int)), none, none, none, none, some (.pointer (some ⟨bt, 0, none⟩)), some (.pointer (some ⟨bt, 5, none⟩)), none] (fun _ => false) V w4.drew) := fun V => AppB.zero ((Step.refl _ _).drew) HST4.out.rd HST4.out.oa HST4.out.blk
        have HCAL : Hid (∀ X, RdAt R X j d → Calls Try.prog 60 #[.agg #[.pointer (some ⟨R.rb, 0, none⟩)]] X fun e wq => (∃ v, e = .returned v ∧ ∃ cs : List Value, v = .agg cs.toArray ∧ TyP wq (fun q => X.heap.size ≤ q) ty cs) ∧ RdAt R wq j2 d ∧ Step (· = R.rb) X wq) := by
         show ∀ X, _
         intro X hX
         have h9 := IH.out gn (by omega) R X j d HL.out hX hd (by rw [HX.out]; intro h; cases h)
         rw [HX.out] at h9
         exact h9
        have HEND : Hid (∀ (g9 c9 : Nat) (cs9 : List Value) (X : World), RdAt R X j2 d → X.heap[bt]? = some (.cells #[.int .i64 k, .string nm, .string noB, .bool false, .slice oa1 ls.length oc1, .slice (some ⟨g9, 0, none⟩) (ts.length + 1) c9, .int .i64 t.line, .int .i64 t.col] 54 (0, 0)) → X.ownsRow w1.heap.size 54 8 (.slice (some ⟨g9, 0, none⟩) (ts.length + 1) c9) (ts.length + 1) (xs ++ cs9) → TyP X (fun q => w4.heap.size ≤ q ∧ q ≠ g9) ty cs9 → ((Value.slice oa2 ts.length oc2).ownBlock = some g9 ∨ w4.heap.size ≤ g9) → Step (fun q => q = R.rb ∨ q = bt ∨ (Value.slice oa2 ts.length oc2).ownBlock = some q) w4 X →
          ∃ (i2 : Nat) (ls2 : List ByteArray) (ts2 : List Ty) (vl2 va2 : Value) (xs2 : List Value), r = (if isF R.l i2 [44] then argsR gn R.l (i2 + 1) d ls2 ts2 else (needR R.l i2 [62]).bind fun _ j => .ok (ls2, ts2) j) ∧ ArgSt R w1 bt k nm t d X i2 ls2 ts2 vl2 va2 xs2) := by
         show ∀ g9 c9 cs9 X, _
         intro g9 c9 cs9 X h1 h2 h3 h4 h5 h6
         have hol := HST4.out.ol
         have hne := HST4.out.ne
         have hg9 : ∀ q, (Value.slice oa1 ls.length oc1).ownBlock = some q → q ≠ g9 := by
          intro q hq e
          subst e
          rcases h5 with h5 | h5
          ·exact hne q hq h5
          ·have := (hol.lt q hq).2; omega
         have hlen : (ts ++ [ty]).length = ts.length + 1 := by simp
         refine ⟨j2, ls, ts ++ [ty], .slice oa1 ls.length oc1, .slice (some ⟨g9, 0, none⟩) (ts.length + 1) c9, xs ++ cs9, by rw [HE4.out, HX.out]; rfl, h1, h2, owns_stay hol h6 (fun q hq e => ?_), by rw [hlen]; exact h3, TysP.snoc ?_ ?_, fun q hq e => ?_, HST4.out.sz, by rw [hlen]; omega, HST4.out.st.then h6 (fun q hq e => ?_)⟩
         ·have h7 := (hol.lt q hq).1
          rcases e with e | e | e
          ·omega
          ·omega
          ·exact hne q hq e
         ·refine TysP.mono ?_ _ _ (TysP.step h6 ?_ _ _ (TysP.mono (P' := fun q => (w1.heap.size ≤ q ∧ (Value.slice oa2 ts.length oc2).ownBlock ≠ some q ∧ (Value.slice oa1 ls.length oc1).ownBlock ≠ some q) ∧ q < w4.heap.size) (fun q h7 h8 => ⟨h8, h7⟩) _ _ HST4.out.el))
          ·intro q _ hq
           refine ⟨hq.1.1, fun e => ?_, hq.1.2.2⟩
           have e2 : g9 = q := Option.some.inj e
           rcases h5 with h5 | h5
           ·exact hq.1.2.1 (by rw [← e2]; exact h5)
           ·have := hq.2; omega
          ·intro q hq e
           rcases e with e | e | e
           ·have := hq.1.1; omega
           ·have := hq.1.1; omega
           ·exact hq.1.2.1 e
         ·refine TyP.mono (fun q _ hq => ⟨Nat.le_trans HST4.out.st.size hq.1, fun e => hq.2 (Option.some.inj e).symm, fun e => ?_⟩) _ _ h4
          have := (hol.lt q e).2
          have := hq.1
          omega
         ·exact hg9 q hq (Option.some.inj e).symm
         ·rcases e with e | e | e
          ·exact .inl e
          ·exact .inr e
          ·have := (HST4.out.oa.lt _ e).1; omega
        go_upto_region 5 with fail
        refine wp_region_relyD (by kernel_rfl) (AppB R j j2 d w4 5 7 8 9 10 13 bt (fun v => .cells #[.int .i64 k, .string nm, .string noB, .bool false, .slice oa1 ls.length oc1, v, .int .i64 t.line, .int .i64 t.col] 54 (0, 0)) w1.heap.size 54 8 ts.length (.slice oa2 ts.length oc2) xs [Value.int .i64 0, .string ⟨#[]⟩, .string ⟨#[]⟩, .bool false, .slice none 0 0, .slice none 0 0, .int .i64 0, .int .i64 0] (fun w P cs => TyP w P ty cs) [some (.pointer (some ⟨bt, 0, none⟩)), some (.pointer (some ⟨bt, 0, none⟩)), some (.pointer (some ⟨bt, 5, none⟩)), some (.slice oa2 ts.length oc2), some (.agg #[.pointer (some ⟨R.rb, 0, none⟩)]), none, some (.int .i64 (ts.length : Int)), none, none, none, none, some (.pointer (some ⟨bt, 0, none⟩)), some (.pointer (some ⟨bt, 5, none⟩)), none]) 14 rfl (by kernel_rfl) (by kernel_rfl) (by kernel_rfl) (by kernel_rfl) ?h0 ?hs ?hdone
        case h0 => exact HZERO.out _
        case hs =>
         refine ⟨?_, ?_, ?_, ?_, ?_, ?_, ?_, ?_, ?_, ?_, ?_, ?_, ?_, ?_, trivial⟩
         ·intro L V X a ev evo hdf hL hdep hJ
          have o1 := evo 1 rfl
          change a.tmps[1]?.getD undef = .pointer (some ⟨bt, 0, none⟩) at o1
          go_simp
          exact ⟨_, rfl, hJ.up 0 (by decide) (by decide) (by decide) (by decide) (by decide) (by decide) rfl⟩
         ·intro L V X a ev evo hdf hL hdep hJ
          have e45 := (ev 0 45 rfl (hdep 0 rfl)).trans (hJ.det 0 _ rfl (hdep 0 rfl))
          go_simp
          exact ⟨_, rfl, hJ.up 1 (by decide) (by decide) (by decide) (by decide) (by decide) (by decide) rfl⟩
         ·intro L V X a ev evo hdf hL hdep hJ
          have e46 := (ev 1 46 rfl (hdep 1 rfl)).trans (hJ.det 1 _ rfl (hdep 1 rfl))
          go_simp
          exact ⟨_, rfl, hJ.up 2 (by decide) (by decide) (by decide) (by decide) (by decide) (by decide) rfl⟩
         ·intro L V X a ev evo hdf hL hdep hJ
          have e47 := (ev 2 47 rfl (hdep 2 rfl)).trans (hJ.det 2 _ rfl (hdep 2 rfl))
          have hZ := (hJ.noZ (hJ.noA (by decide) hL)).1
          have hb := hJ.blk
          rw [hZ, if_neg (by decide)] at hb
          have q5 : X.cell? ⟨bt, 5, none⟩ = some (.slice oa2 ts.length oc2) := blk_cell hb 5 _ rfl
          go_simp
          exact ⟨_, rfl, hJ.up 3 (by decide) (by decide) (by decide) (by decide) (by decide) (by decide) rfl⟩
         ·intro L V X a ev evo hdf hL hdep hJ
          have o2 := evo 2 rfl
          change a.tmps[2]?.getD undef = .pointer (some ⟨w.heap.size, 0, none⟩) at o2
          have p0 := HPX.out X hJ.st
          go_simp
          exact ⟨_, rfl, hJ.up 4 (by decide) (by decide) (by decide) (by decide) (by decide) (by decide) rfl⟩
         ·intro L V X a ev evo hdf hL hdep hJ
          have e49 := (ev 4 49 rfl (hdep 4 rfl)).trans (hJ.det 4 _ rfl (hdep 4 rfl))
          have hrd := hJ.rd
          rw [hL, if_neg (by decide)] at hrd
          go_simp
          refine (HCAL.out X hrd).mono ?_
          rintro e wq ⟨⟨v, rfl, cs, rfl, hty⟩, hr, hs⟩
          exact ⟨_, rfl, hJ.call HE.out HO.out hL rfl hs hr hty⟩
         ·intro L V X a ev evo hdf hL hdep hJ
          have e48 := (ev 3 48 rfl (hdep 3 rfl)).trans (hJ.det 3 _ rfl (hdep 3 rfl))
          go_simp
          exact ⟨_, rfl, hJ.up 6 (by decide) (by decide) (by decide) (by decide) (by decide) (by decide) rfl⟩
         ·intro L V X a ev evo hdf hL hdep hJ
          have hu := hJ.build HE.out HO.out hL rfl
          go_simp
          exact ⟨_, rfl, hu⟩
         ·intro L V X a ev evo hdf hL hdep hJ
          have e48 := (ev 3 48 rfl (hdep 3 rfl)).trans (hJ.det 3 _ rfl (hdep 3 rfl))
          have e52 := ev 7 52 rfl (hdep 7 rfl)
          obtain ⟨zb, z1, z2, z3⟩ := hJ.bl (hdep 7 rfl) hL
          have hall : ∀ i, i < 8 → L i = true := by
           intro i hi
           rcases (show i = 0 ∨ i = 1 ∨ i = 2 ∨ i = 3 ∨ i = 4 ∨ i = 5 ∨ i = 6 ∨ i = 7 by omega) with rfl | rfl | rfl | rfl | rfl | rfl | rfl | rfl
           ·exact hdep 0 rfl
           ·exact hdep 1 rfl
           ·exact hdep 2 rfl
           ·exact hdep 3 rfl
           ·exact hdep 4 rfl
           ·exact hdep 5 rfl
           ·exact hdep 6 rfl
           ·exact hdep 7 rfl
          refine wp_append_row _ X.heap.size (.tmp 48) (.tmp 52) 52 rfl w1.heap.size 54 j0 (.agg #[.int .i64 0, .string ⟨#[]⟩, .string ⟨#[]⟩, .bool false, .slice none 0 0, .slice none 0 0, .int .i64 0, .int .i64 0]) 8 112 Try.underlying52 HJ.out HY0.out HY1.out HY2.out rfl (by decide) _ _ _ (by rw [evalTmp]; exact e48) (hJ.old hL) (V 7) 1 _ (by rw [evalTmp]; exact e52) (by rw [z1]; exact (Row.new z3 (by decide)).mono (blk_lt z3)) rfl ZONE.out (by unfold maxLen; omega) (by omega) (Nat.le_trans HO.out.bw hJ.st.size) ?_
          intro v8 w8 hown8 hgrow8 hat8
          exact ⟨v8, rfl, hJ.app HE.out HO.out hL hall rfl hown8 hgrow8 hat8⟩
         ·intro L V X a ev evo hdf hL hdep hJ
          have e51 := (ev 6 51 rfl (hdep 6 rfl)).trans (hJ.det 6 _ rfl (hdep 6 rfl))
          have e53 := ev 8 53 rfl (hdep 8 rfl)
          obtain ⟨g, c, hV, -⟩ := hJ.new (hdep 8 rfl)
          rw [hV] at e53
          have hi0 : (0 : Int) ≤ (ts.length : Int) := by omega
          have hi1 : (ts.length : Int) < ((ts.length + 1 : Nat) : Int) := by omega
          have hi2 : (ts.length : Int) < (ts.length : Int) + 1 := by omega
          have hu := hJ.index HO.out (hdep 8 rfl) rfl hV
          go_simp
          exact ⟨_, rfl, hu⟩
         ·intro L V X a ev evo hdf hL hdep hJ
          have h8 := hdep 8 rfl
          have h9 := hdep 9 rfl
          have h5 := hdep 5 rfl
          obtain ⟨g, c, hV, -, ys, hown, -⟩ := hJ.new h8
          have ep := (ev 9 54 rfl h9).trans ((hJ.ix h9).2 g c hV)
          obtain ⟨cs, c1, c2⟩ := hJ.el h5
          have ec := (ev 5 50 rfl h5).trans c1
          rw [hV] at hown
          obtain ⟨g', c', cur, hg', -, hcur, hsz⟩ := owns_cells hown (by omega)
          cases hg'
          have hcl : cs.length = 8 := TyP.len c2
          refine wp_store_part 54 (.tmp 54) (.tmp 50) rfl g (ts.length * 8) 54 cur cs (by rw [evalTmp]; exact ep) (by rw [evalTmp]; exact ec) hcur (by rw [hcl]; exact Try.sizeWType) (by omega) (TyP.one c2) ?_
          intro w6 hb6 hs6
          exact ⟨undef, rfl, hJ.put HE.out HO.out h8 (fun u hu => by cases hu) hV c1 hcl hcur hb6 hs6⟩
         ·intro L V X a ev evo hdf hL hdep hJ
          have e45 := (ev 0 45 rfl (hdep 0 rfl)).trans (hJ.det 0 _ rfl (hdep 0 rfl))
          go_simp
          exact ⟨_, rfl, hJ.up 11 (by decide) (by decide) (by decide) (by decide) (by decide) (by decide) rfl⟩
         ·intro L V X a ev evo hdf hL hdep hJ
          have e55 := (ev 11 55 rfl (hdep 11 rfl)).trans (hJ.det 11 _ rfl (hdep 11 rfl))
          go_simp
          exact ⟨_, rfl, hJ.up 12 (by decide) (by decide) (by decide) (by decide) (by decide) (by decide) rfl⟩
         ·intro L V X a ev evo hdf hL hdep hJ
          have e56 := (ev 12 56 rfl (hdep 12 rfl)).trans (hJ.det 12 _ rfl (hdep 12 rfl))
          have h8 := hdep 8 rfl
          have ev8 := ev 8 53 rfl h8
          obtain ⟨g, c, hV, -⟩ := hJ.new h8
          rw [hV] at ev8
          have hb := hJ.blk
          rw [hL, if_neg (by decide)] at hb
          have q5 := blk_cell hb 5 _ rfl
          have z5 := blk_free hb 5
          have hu := hJ.last (X' := X.setCell ⟨bt, 5, none⟩ (.slice (some ⟨g, 0, none⟩) (ts.length + 1) c)) HE.out HO.out h8 (fun u hu => by cases hu) (by rw [hV]; exact blk_set hb 5 _) ((Step.refl _ _).setCell _ _ (fun _ => rfl))
          go_simp
          exact ⟨undef, hu⟩
        case hdone =>
         intro L V X hall hJ
         obtain ⟨g9, c9, cs9, hrd9, hbl9, hown9, hel9, hgg9, hst9, hgb9⟩ := hJ.done ⟨hall 5 (by decide), hall 8 (by decide), hall 10 (by decide), hall 13 (by decide)⟩
         rw [show List.range 14 = [0, 1, 2, 3, 4, 5, 6, 7, 8, 9, 10, 11, 12, 13] from rfl]
         simp only [putF, dstO, List.getElem?_toArray, List.getElem?_cons_zero, List.getElem?_cons_succ, Option.bind_some, Act.put, List.setIfInBounds_toArray, List.set_cons_zero, List.set_cons_succ]
         clear hJ hall
         go_wp2_with fail
         go_meet
         case rel => exact HEND.out g9 c9 cs9 X hrd9 hbl9 hown9 hel9 hgg9 hst9
     case rest =>
      obtain ⟨i2, ls2, ts2, vl2, va2, xs2, hr5, hst5⟩ := hcut
      obtain ⟨w5, rfl⟩ : ∃ w5 : World, w5 = wc := ⟨_, rfl⟩
      have HR5 := Lib.hid hr5
      have HST5 := Lib.hid hst5
      clear hr5 hst5
      have p0 := HKP.out w5 HST5.out.st
      go_wp2_with fail
      cases hc : isF R.l i2 [44] with
      | true =>
       have HC := Lib.hid hc
       clear hc
       refine (is_yes R HL.out ⟨#[44]⟩ _ i2 d HST5.out.rd (by decide) HC.out).mono ?_
       rintro e w6 ⟨rfl, hr6, s6⟩
       have HST6 := Lib.hid (HST5.out.read hrb (by omega) hr6 s6)
       have HR6 : Hid (r = argsR gn R.l (i2 + 1) d ls2 ts2) := by show _ = _; rw [HR5.out, HC.out, if_pos rfl]
       clear hr6 s6 p0
       go_wp2_with fail
       go_roundg gn
       case rel => exact ⟨by omega, i2 + 1, ls2, ts2, vl2, va2, xs2, HR6.out, HST6.out⟩
       case measure => omega
      | false =>
       have HC := Lib.hid hc
       clear hc
       refine (is_no R HL.out ⟨#[44]⟩ _ i2 d HST5.out.rd (by decide) HC.out).mono ?_
       rintro e w6 ⟨rfl, hr6, s6⟩
       have HST6 := Lib.hid (HST5.out.read hrb (by omega) hr6 s6)
       have HR6 : Hid (r = (needR R.l i2 [62]).bind fun _ j => .ok (ls2, ts2) j) := by show _ = _; rw [HR5.out, HC.out, if_neg (by decide)]
       clear hr6 s6 p0
       have p0 := HKP.out w6 HST6.out.st
       go_wp2_with fail
       refine (need_any R HL.out w6.heap.size ⟨#[62]⟩ _ i2 d (HST6.out.rd.quiet ((Step.refl _ _).alloc _)) (by decide) (blk_cell (blk_new _ _) 0 _ rfl)).mono ?_
       rintro e w7 hp
       have hp2 : PPost R d UnitV (needR R.l i2 [62]) _ e w7 := hp
       cases hn : needR R.l i2 [62] with
       | out => exact (needR_out hn).elim
       | err c ln col =>
        rw [hn] at hp2
        obtain ⟨rfl, s7⟩ := hp2
        refine ⟨rfl, ?_⟩
        rw [HR6.out, hn]
        exact ⟨rfl, ((HS1.out.mono (fun _ _ h => h.elim)).trans HST6.out.st).trans ((((Step.refl (· = R.rb) _).alloc _).trans s7).mono (fun _ _ e => .inl e))⟩
       | ok u j2 =>
        have HN7 := Lib.hid hn
        rw [hn] at hp2
        obtain ⟨⟨v, rfl, rfl⟩, hr7, s7⟩ := hp2
        have HST7 := Lib.hid (HST6.out.read hrb (by omega) hr7 (((Step.refl (· = R.rb) _).alloc _).trans s7))
        clear hn hr7 s7 p0 hp
        go_wp2_with fail
        refine bodyPost_ret (results_none rfl _ _ _) rfl ?_
        rw [HR6.out, HN7.out]
        have hz := HS1.out.size
        refine ⟨rfl, ⟨vl2, va2, xs2, HST7.out.blk, HST7.out.sz, RowP.of_owns HST7.out.ol (fun q hq => ?_), TysP.mono (fun q _ hq => by omega) _ _ HST7.out.el, RowP.of_owns HST7.out.oa (fun q hq => ?_)⟩, HST7.out.rd, (HS1.out.mono (fun _ _ h => h.elim)).trans HST7.out.st⟩
        ·have := (HST7.out.ol.lt q hq).1; omega
        ·have := (HST7.out.oa.lt q hq).1; omega
theorem typ_all : ∀ f, TypOk f ∧ ArgsOk f := by
 intro f
 induction f using Nat.strongRecOn with
 | ind f ih =>
  have ha : ArgsOk f := args_step f (fun f' hf => (ih f' hf).1)
  cases f with
  | zero => exact ⟨fun R w i d _ _ _ hno => absurd (by rw [typR]) hno, ha⟩
  | succ f => exact ⟨typ_step f (ih f (Nat.lt_succ_self f)).1 (ih f (Nat.lt_succ_self f)).2, ha⟩
def ExV (n0 : Nat) (w' : World) (a : Ex) (v : Value) : Prop := ∃ cs : List Value, v = .agg cs.toArray ∧ ExP w' (fun k => n0 ≤ k) a cs
def ExsV (n0 : Nat) (w' : World) (l : List Ex) (v : Value) : Prop := ∃ xs : List Value, RowP w' (fun k => n0 ≤ k) v l.length xs ∧ ExsP w' (fun k => n0 ≤ k) l xs
def StsV (n0 : Nat) (w' : World) (l : List St) (v : Value) : Prop := ∃ xs : List Value, RowP w' (fun k => n0 ≤ k) v l.length xs ∧ StsP w' (fun k => n0 ≤ k) l xs
def StV (n0 : Nat) (w' : World) (a : St) (v : Value) : Prop := ∃ cs : List Value, v = .agg cs.toArray ∧ StP w' (fun k => n0 ≤ k) a cs
def LevelOk (f : Nat) : Prop := ∀ (R : Rdr) (w : World) (i d n : Nat), LOk R.l → RdAt R w i d → d ≤ 40 → n ≤ 5 → levelR f R.l i d n ≠ .out →
 Calls Try.prog 15 #[.agg #[.pointer (some ⟨R.rb, 0, none⟩)], .int .i64 (n : Int)] w (PPost R d (ExV w.heap.size) (levelR f R.l i d n) w)
def UnaryOk (f : Nat) : Prop := ∀ (R : Rdr) (w : World) (i d : Nat), LOk R.l → RdAt R w i d → d ≤ 40 → unaryR f R.l i d ≠ .out →
 Calls Try.prog 24 #[.agg #[.pointer (some ⟨R.rb, 0, none⟩)]] w (PPost R d (ExV w.heap.size) (unaryR f R.l i d) w)
def PostOk (f : Nat) : Prop := ∀ (R : Rdr) (w : World) (i d : Nat), LOk R.l → RdAt R w i d → d ≤ 40 → postR f R.l i d ≠ .out →
 Calls Try.prog 37 #[.agg #[.pointer (some ⟨R.rb, 0, none⟩)]] w (PPost R d (ExV w.heap.size) (postR f R.l i d) w)
def ListOk (f : Nat) : Prop := ∀ (R : Rdr) (w : World) (i d : Nat), LOk R.l → RdAt R w i d → d ≤ 40 → listR f R.l i d ≠ .out →
 Calls Try.prog 56 #[.agg #[.pointer (some ⟨R.rb, 0, none⟩)]] w (PPost R d (ExsV w.heap.size) (listR f R.l i d) w)
def OneOk (f : Nat) : Prop := ∀ (R : Rdr) (w : World) (i d : Nat), LOk R.l → RdAt R w i d → d ≤ 40 → oneR f R.l i d ≠ .out →
 Calls Try.prog 73 #[.agg #[.pointer (some ⟨R.rb, 0, none⟩)]] w (PPost R d (fun w' a v => ExsV w.heap.size w' [a] v) (oneR f R.l i d) w)
def PrimOk (f : Nat) : Prop := ∀ (R : Rdr) (w : World) (i d : Nat), LOk R.l → RdAt R w i d → d ≤ 40 → primR f R.l i d ≠ .out →
 Calls Try.prog 55 #[.agg #[.pointer (some ⟨R.rb, 0, none⟩)]] w (PPost R d (ExV w.heap.size) (primR f R.l i d) w)
def BlockOk (f : Nat) : Prop := ∀ (R : Rdr) (w : World) (i d : Nat), LOk R.l → RdAt R w i d → d ≤ 40 → blockR f R.l i d ≠ .out →
 Calls Try.prog 46 #[.agg #[.pointer (some ⟨R.rb, 0, none⟩)]] w (PPost R d (StsV w.heap.size) (blockR f R.l i d) w)
def StmtOk (f : Nat) : Prop := ∀ (R : Rdr) (w : World) (i d : Nat), LOk R.l → RdAt R w i d → d ≤ 40 → stmtR f R.l i d ≠ .out →
 Calls Try.prog 64 #[.agg #[.pointer (some ⟨R.rb, 0, none⟩)]] w (PPost R d (StV w.heap.size) (stmtR f R.l i d) w)
theorem ExP.parts {w : World} {P : Nat → Prop} {x : Ex} {cs : List Value} (h : ExP w P x cs) : ∃ (k : Int) (nm : ByteArray) (v : Int) (m : Bool) (a1 : Option Addr) (n1 c1 : Nat) (a2 : Option Addr) (n2 c2 : Nat) (a3 : Option Addr) (n3 c3 : Nat) (l c : Int),
  cs = [.int .i64 k, .string nm, .int .u64 v, .bool m, .slice a1 n1 c1, .slice a2 n2 c2, .slice a3 n3 c3, .int .i64 l, .int .i64 c] := by
 obtain ⟨k, name, v, m, args, names, body, l, c⟩ := x
 rw [ExP] at h
 obtain ⟨_, _, _, _, _, rfl, _, _, _, ⟨_, _, rfl, _⟩, ⟨_, _, rfl, _⟩, _, ⟨_, _, rfl, _⟩⟩ := h
 exact ⟨_, _, _, _, _, _, _, _, _, _, _, _, _, _, _, rfl⟩
theorem ExsP.single {w : World} {P : Nat → Prop} {x : Ex} {cs : List Value} (h : ExP w P x cs) : ExsP w P [x] cs := by
 rw [ExsP]; exact ⟨cs, [], (List.append_nil _).symm, h, by rw [ExsP]⟩
theorem Try.sizeExpr : (Try.prog.info? 29).map (·.size) = some 9 := by kernel_rfl
def unaryB (f : Nat) (l : List Tok) (i d : Nat) : Res Ex :=
 if isF l i [45] then (unaryR f l (i + 1) d).bind fun y j => .ok (exMk 15 (toB [45]) 0 false [y] [] [] (tokA l i)) j
 else if isF l i [33] then (unaryR f l (i + 1) d).bind fun y j => .ok (exMk 15 (toB [33]) 0 false [y] [] [] (tokA l i)) j
 else if isF l i [42] then (unaryR f l (i + 1) d).bind fun y j => .ok (exMk 7 noB 0 false [y] [] [] (tokA l i)) j
 else if isF l i [38] then (unaryR f l (takeI l (i + 1) [109, 117, 116]) d).bind fun y j => .ok (exMk 8 noB 0 (isF l (i + 1) [109, 117, 116]) [y] [] [] (tokA l i)) j
 else postR f l i d
theorem unaryR_succ (f : Nat) (l : List Tok) (i d : Nat) : unaryR (f + 1) l i d = if d = 40 then failR 2 l i else unaryB f l i (d + 1) := by
 rw [unaryR]; rfl
def ExLeft (n0 bt : Nat) (w' : World) (a : Ex) : Prop := ∃ cs : List Value, w'.heap[bt]? = some (.cells cs.toArray 29 (0, 0)) ∧ ExP w' (fun k => n0 ≤ k) a cs
theorem unary1_any (R : Rdr) (f : Nat) (ih : UnaryOk f) (ihp : PostOk f) (bp bt : Nat) (w : World) (i d : Nat) (t : Tok) (hl : LOk R.l) (h : RdAt R w i d) (hd : d ≤ 40) (hbp : w.heap[bp]? = some (.cells #[.pointer (some ⟨R.rb, 0, none⟩)] 45 (0, 0)))
  (hbt : w.heap[bt]? = some (.cells #[.int .i64 0, .string noB, .int .u64 0, .bool false, .slice none 0 0, .slice none 0 0, .slice none 0 0, .int .i64 t.line, .int .i64 t.col] 29 (0, 0))) (hb1 : R.rb < bp) (hb2 : bp < bt) (ht : t = tokA R.l i) (hno : unaryB f R.l i d ≠ .out) :
  Calls Try.prog 35 #[.pointer (some ⟨bp, 0, none⟩), .pointer (some ⟨bt, 0, none⟩)] w (CloPost R d bt (ExLeft w.heap.size bt) (unaryB f R.l i d) w) := by
 have HL := Lib.hid hl
 have H0 := Lib.hid h
 have HT := Lib.hid ht
 have IH := Lib.hid ih
 have IHP := Lib.hid ihp
 obtain ⟨r, hr⟩ : ∃ r, r = unaryB f R.l i d := ⟨_, rfl⟩
 have HRR := Lib.hid hr
 rw [← hr] at hno ⊢
 have HNO := Lib.hid hno
 have hil := h.lt
 have hbtl := blk_lt hbt
 have HKB : Hid (∀ X : World, Step (· = R.rb) w X → X.cell? ⟨bp, 0, none⟩ = some (.pointer (some ⟨R.rb, 0, none⟩)) ∧ X.heap[bt]? = some (.cells #[.int .i64 0, .string noB, .int .u64 0, .bool false, .slice none 0 0, .slice none 0 0, .slice none 0 0, .int .i64 t.line, .int .i64 t.col] 29 (0, 0))) := by
  show ∀ X, _
  intro X hX
  exact ⟨blk_cell (hX.keep hbp (by omega)) 0 _ rfl, hX.keep hbt (by omega)⟩
 obtain ⟨p0, -⟩ := HKB.out w (Step.refl _ _)
 clear ih ihp hl h hbp hbt hr hno ht
 go_enter Try.func35, Try.ntmps35
 go_wp2_with fail
 cases hb0 : isF R.l i [45] with
 | true =>
  have HB0 := Lib.hid hb0
  clear hb0
  refine (is_yes R HL.out ⟨#[45]⟩ _ i d H0.out (by decide) HB0.out).mono ?_
  rintro e wy ⟨rfl, hry, hsy⟩
  have HRY := Lib.hid hry
  have HSY : Hid (Step (· = R.rb) w wy) := (Step.refl _ _).trans hsy
  clear hry hsy p0
  obtain ⟨p0, hbt⟩ := HKB.out wy HSY.out
  have HBTX := Lib.hid hbt
  clear hbt
  have bt0 := blk_cell HBTX.out 0 _ rfl
  have bz0 := blk_free HBTX.out 0
  have bt1 := blk_cell HBTX.out 1 _ rfl
  have bz1 := blk_free HBTX.out 1
  obtain ⟨w4, hw4⟩ : ∃ w4 : World, w4 = ((wy.setCell ⟨bt, 0, none⟩ (.int .i64 15)).setCell ⟨bt, 1, none⟩ (.string ⟨#[45]⟩)) := ⟨_, rfl⟩
  have HS4 : Hid (Step (· = bt) wy w4) := by show Step _ _ _; rw [hw4]; exact (((Step.refl (· = bt) _).setCell _ _ (fun _ => rfl)).setCell _ _ (fun _ => rfl))
  have HBT4 : Hid (w4.heap[bt]? = some (.cells #[.int .i64 15, .string ⟨#[45]⟩, .int .u64 0, .bool false, .slice none 0 0, .slice none 0 0, .slice none 0 0, .int .i64 t.line, .int .i64 t.col] 29 (0, 0))) := by show _ = _; rw [hw4]; exact (blk_set (blk_set HBTX.out 0 (.int .i64 15)) 1 (.string ⟨#[45]⟩))
  have HS04 : Hid (Step (fun k => k = R.rb ∨ k = bt) w w4) := (HSY.out.mono (fun _ _ e => .inl e)).trans (HS4.out.mono (fun _ _ e => .inr e))
  have HR4 := Lib.hid (HRY.out.step HS4.out (fun k hk e => by omega))
  have p4 : w4.cell? ⟨bp, 0, none⟩ = some (.pointer (some ⟨R.rb, 0, none⟩)) := HS4.out.cell p0 (fun e => by have e2 : bp = bt := e; omega)
  go_upto_region 9 with fail
  rw [← hw4]
  clear p0 hw4 bt0 bz0 bt1 bz1
  have p0 := p4
  clear p4
  go_wp2_with fail
  cases hx : unaryR f R.l (i + 1) d with
  | out =>
   have HX := Lib.hid hx
   exact absurd (by rw [HRR.out]; unfold unaryB; simp only [HB0.out, HX.out, if_true, Res.bind_out]) HNO.out
  | err c ln col =>
   have HX := Lib.hid hx
   clear hx
   refine (IH.out R _ (i + 1) d HL.out HR4.out hd (by rw [HX.out]; intro h; cases h)).mono ?_
   rintro e wq hp
   rw [HX.out] at hp
   obtain ⟨rfl, sq⟩ := hp
   refine ⟨rfl, CloPost.of_err (c := c) (ln := ln) (col := col) (by rw [HRR.out]; unfold unaryB; simp only [HB0.out, HX.out, if_true, Res.bind_err]) rfl ?_⟩
   exact HS04.out.trans (sq.mono (fun _ _ e => .inl e))
  | ok y jx =>
   have HX := Lib.hid hx
   clear hx
   refine (IH.out R _ (i + 1) d HL.out HR4.out hd (by rw [HX.out]; intro h; cases h)).mono ?_
   rintro e wx hp
   rw [HX.out] at hp
   obtain ⟨⟨v, rfl, cs, rfl, hy⟩, hrx, hsx⟩ := hp
   have HY := Lib.hid hy
   obtain ⟨k0, nm0, v0, mu0, a1, n1, c1, a2, n2, c2, a3, n3, c3, l0, c0, rfl⟩ := hy.parts
   have HRX := Lib.hid hrx
   have HSX := Lib.hid hsx
   obtain ⟨w5, hw5⟩ : ∃ w5 : World, w5 = wx.alloc (.cells #[.int .i64 k0, .string nm0, .int .u64 v0, .bool mu0, .slice a1 n1 c1, .slice a2 n2 c2, .slice a3 n3 c3, .int .i64 l0, .int .i64 c0] 29) := ⟨_, rfl⟩
   have HS5 : Hid (Step (fun _ => False) wx w5) := by show Step _ _ _; rw [hw5]; exact (Step.refl _ _).alloc _
   have HK5 : Hid (w5.heap[wx.heap.size]? = some (.cells #[.int .i64 k0, .string nm0, .int .u64 v0, .bool mu0, .slice a1 n1 c1, .slice a2 n2 c2, .slice a3 n3 c3, .int .i64 l0, .int .i64 c0] 29 (0, 0))) := by show _ = _; rw [hw5]; exact blk_new _ _
   have hbt5 := HS5.out.keep (HSX.out.keep HBT4.out (by omega)) (fun h => h)
   have bt4 := blk_cell hbt5 4 _ rfl
   have bz4 := blk_free hbt5 4
   have hxz := HSX.out.size
   have hxy := HS04.out.size
   obtain ⟨w6, hw6⟩ : ∃ w6 : World, w6 = w5.setCell ⟨bt, 4, none⟩ (.slice (some ⟨wx.heap.size, 0, none⟩) 1 1) := ⟨_, rfl⟩
   have HS6 : Hid (Step (· = bt) w5 w6) := by show Step _ _ _; rw [hw6]; exact (Step.refl _ _).setCell _ _ (fun _ => rfl)
   have HBT6 : Hid (w6.heap[bt]? = some (.cells #[.int .i64 15, .string ⟨#[45]⟩, .int .u64 0, .bool false, .slice (some ⟨wx.heap.size, 0, none⟩) 1 1, .slice none 0 0, .slice none 0 0, .int .i64 t.line, .int .i64 t.col] 29 (0, 0))) := by show _ = _; rw [hw6]; exact blk_set hbt5 4 _
   have HK6 := Lib.hid (HS6.out.keep HK5.out (by omega))
   rw [hw5] at bt4 bz4
   clear hbt5 hy hrx hsx p0
   go_wp2_with fail
   rw [← hw5, ← hw6]
   clear bt4 bz4 hw5 hw6
   refine bodyPost_end (results_none rfl _ _ _) rfl ?_
   have hsx2 : Step (fun k => k = R.rb ∨ k = bt) wx w6 := (HS5.out.mono (fun _ _ h => h.elim)).trans (HS6.out.mono (fun _ _ e => .inr e))
   refine CloPost.of_ok (a := exMk 15 (toB [45]) 0 false [y] [] [] (tokA R.l i)) (j := jx) (by rw [HRR.out]; unfold unaryB; simp only [HB0.out, HX.out, if_true, Res.bind_ok]) rfl ⟨_, HBT6.out, ?_⟩ ((HRX.out.quiet HS5.out).step HS6.out (fun k hk e => by omega)) (HS04.out.trans ((HSX.out.mono (fun _ _ e => .inl e)).trans hsx2))
   rw [exMk, ExP, ← HT.out]
   exact ⟨_, _, _, _, [], rfl, by decide, (fun _ h => nomatch h), ExsP.single (ExP.mono (fun k _ hk => by omega) _ _ (ExP.step hsx2 (fun k hk e => by omega) _ _ HY.out)), RowP.new HK6.out (by decide) (by omega), RowP.nil _ _ _, by rw [StsP], RowP.nil _ _ _⟩
 | false =>
  have HB0 := Lib.hid hb0
  clear hb0
  refine (is_no R HL.out ⟨#[45]⟩ _ i d H0.out (by decide) HB0.out).mono ?_
  rintro e wn0 ⟨rfl, hrn, hsn⟩
  have HRN0 := Lib.hid hrn
  have HSN0 : Hid (Step (· = R.rb) w wn0) := (Step.refl _ _).trans hsn
  clear hrn hsn p0
  obtain ⟨p0, -⟩ := HKB.out wn0 HSN0.out
  go_wp2_with fail
  cases hb1 : isF R.l i [33] with
  | true =>
   have HB1 := Lib.hid hb1
   clear hb1
   refine (is_yes R HL.out ⟨#[33]⟩ _ i d HRN0.out (by decide) HB1.out).mono ?_
   rintro e wy ⟨rfl, hry, hsy⟩
   have HRY := Lib.hid hry
   have HSY : Hid (Step (· = R.rb) w wy) := HSN0.out.trans hsy
   clear hry hsy p0
   obtain ⟨p0, hbt⟩ := HKB.out wy HSY.out
   have HBTX := Lib.hid hbt
   clear hbt
   have bt0 := blk_cell HBTX.out 0 _ rfl
   have bz0 := blk_free HBTX.out 0
   have bt1 := blk_cell HBTX.out 1 _ rfl
   have bz1 := blk_free HBTX.out 1
   obtain ⟨w4, hw4⟩ : ∃ w4 : World, w4 = ((wy.setCell ⟨bt, 0, none⟩ (.int .i64 15)).setCell ⟨bt, 1, none⟩ (.string ⟨#[33]⟩)) := ⟨_, rfl⟩
   have HS4 : Hid (Step (· = bt) wy w4) := by show Step _ _ _; rw [hw4]; exact (((Step.refl (· = bt) _).setCell _ _ (fun _ => rfl)).setCell _ _ (fun _ => rfl))
   have HBT4 : Hid (w4.heap[bt]? = some (.cells #[.int .i64 15, .string ⟨#[33]⟩, .int .u64 0, .bool false, .slice none 0 0, .slice none 0 0, .slice none 0 0, .int .i64 t.line, .int .i64 t.col] 29 (0, 0))) := by show _ = _; rw [hw4]; exact (blk_set (blk_set HBTX.out 0 (.int .i64 15)) 1 (.string ⟨#[33]⟩))
   have HS04 : Hid (Step (fun k => k = R.rb ∨ k = bt) w w4) := (HSY.out.mono (fun _ _ e => .inl e)).trans (HS4.out.mono (fun _ _ e => .inr e))
   have HR4 := Lib.hid (HRY.out.step HS4.out (fun k hk e => by omega))
   have p4 : w4.cell? ⟨bp, 0, none⟩ = some (.pointer (some ⟨R.rb, 0, none⟩)) := HS4.out.cell p0 (fun e => by have e2 : bp = bt := e; omega)
   go_upto_region 9 with fail
   rw [← hw4]
   clear p0 hw4 bt0 bz0 bt1 bz1
   have p0 := p4
   clear p4
   go_wp2_with fail
   cases hx : unaryR f R.l (i + 1) d with
   | out =>
    have HX := Lib.hid hx
    exact absurd (by rw [HRR.out]; unfold unaryB; simp only [HB0.out, HB1.out, HX.out, Bool.false_eq_true, if_false, if_true, Res.bind_out]) HNO.out
   | err c ln col =>
    have HX := Lib.hid hx
    clear hx
    refine (IH.out R _ (i + 1) d HL.out HR4.out hd (by rw [HX.out]; intro h; cases h)).mono ?_
    rintro e wq hp
    rw [HX.out] at hp
    obtain ⟨rfl, sq⟩ := hp
    refine ⟨rfl, CloPost.of_err (c := c) (ln := ln) (col := col) (by rw [HRR.out]; unfold unaryB; simp only [HB0.out, HB1.out, HX.out, Bool.false_eq_true, if_false, if_true, Res.bind_err]) rfl ?_⟩
    exact HS04.out.trans (sq.mono (fun _ _ e => .inl e))
   | ok y jx =>
    have HX := Lib.hid hx
    clear hx
    refine (IH.out R _ (i + 1) d HL.out HR4.out hd (by rw [HX.out]; intro h; cases h)).mono ?_
    rintro e wx hp
    rw [HX.out] at hp
    obtain ⟨⟨v, rfl, cs, rfl, hy⟩, hrx, hsx⟩ := hp
    have HY := Lib.hid hy
    obtain ⟨k0, nm0, v0, mu0, a1, n1, c1, a2, n2, c2, a3, n3, c3, l0, c0, rfl⟩ := hy.parts
    have HRX := Lib.hid hrx
    have HSX := Lib.hid hsx
    obtain ⟨w5, hw5⟩ : ∃ w5 : World, w5 = wx.alloc (.cells #[.int .i64 k0, .string nm0, .int .u64 v0, .bool mu0, .slice a1 n1 c1, .slice a2 n2 c2, .slice a3 n3 c3, .int .i64 l0, .int .i64 c0] 29) := ⟨_, rfl⟩
    have HS5 : Hid (Step (fun _ => False) wx w5) := by show Step _ _ _; rw [hw5]; exact (Step.refl _ _).alloc _
    have HK5 : Hid (w5.heap[wx.heap.size]? = some (.cells #[.int .i64 k0, .string nm0, .int .u64 v0, .bool mu0, .slice a1 n1 c1, .slice a2 n2 c2, .slice a3 n3 c3, .int .i64 l0, .int .i64 c0] 29 (0, 0))) := by show _ = _; rw [hw5]; exact blk_new _ _
    have hbt5 := HS5.out.keep (HSX.out.keep HBT4.out (by omega)) (fun h => h)
    have bt4 := blk_cell hbt5 4 _ rfl
    have bz4 := blk_free hbt5 4
    have hxz := HSX.out.size
    have hxy := HS04.out.size
    obtain ⟨w6, hw6⟩ : ∃ w6 : World, w6 = w5.setCell ⟨bt, 4, none⟩ (.slice (some ⟨wx.heap.size, 0, none⟩) 1 1) := ⟨_, rfl⟩
    have HS6 : Hid (Step (· = bt) w5 w6) := by show Step _ _ _; rw [hw6]; exact (Step.refl _ _).setCell _ _ (fun _ => rfl)
    have HBT6 : Hid (w6.heap[bt]? = some (.cells #[.int .i64 15, .string ⟨#[33]⟩, .int .u64 0, .bool false, .slice (some ⟨wx.heap.size, 0, none⟩) 1 1, .slice none 0 0, .slice none 0 0, .int .i64 t.line, .int .i64 t.col] 29 (0, 0))) := by show _ = _; rw [hw6]; exact blk_set hbt5 4 _
    have HK6 := Lib.hid (HS6.out.keep HK5.out (by omega))
    rw [hw5] at bt4 bz4
    clear hbt5 hy hrx hsx p0
    go_wp2_with fail
    rw [← hw5, ← hw6]
    clear bt4 bz4 hw5 hw6
    refine bodyPost_end (results_none rfl _ _ _) rfl ?_
    have hsx2 : Step (fun k => k = R.rb ∨ k = bt) wx w6 := (HS5.out.mono (fun _ _ h => h.elim)).trans (HS6.out.mono (fun _ _ e => .inr e))
    refine CloPost.of_ok (a := exMk 15 (toB [33]) 0 false [y] [] [] (tokA R.l i)) (j := jx) (by rw [HRR.out]; unfold unaryB; simp only [HB0.out, HB1.out, HX.out, Bool.false_eq_true, if_false, if_true, Res.bind_ok]) rfl ⟨_, HBT6.out, ?_⟩ ((HRX.out.quiet HS5.out).step HS6.out (fun k hk e => by omega)) (HS04.out.trans ((HSX.out.mono (fun _ _ e => .inl e)).trans hsx2))
    rw [exMk, ExP, ← HT.out]
    exact ⟨_, _, _, _, [], rfl, by decide, (fun _ h => nomatch h), ExsP.single (ExP.mono (fun k _ hk => by omega) _ _ (ExP.step hsx2 (fun k hk e => by omega) _ _ HY.out)), RowP.new HK6.out (by decide) (by omega), RowP.nil _ _ _, by rw [StsP], RowP.nil _ _ _⟩
  | false =>
   have HB1 := Lib.hid hb1
   clear hb1
   refine (is_no R HL.out ⟨#[33]⟩ _ i d HRN0.out (by decide) HB1.out).mono ?_
   rintro e wn1 ⟨rfl, hrn, hsn⟩
   have HRN1 := Lib.hid hrn
   have HSN1 : Hid (Step (· = R.rb) w wn1) := HSN0.out.trans hsn
   clear hrn hsn p0
   obtain ⟨p0, -⟩ := HKB.out wn1 HSN1.out
   go_wp2_with fail
   cases hb2 : isF R.l i [42] with
   | true =>
    have HB2 := Lib.hid hb2
    clear hb2
    refine (is_yes R HL.out ⟨#[42]⟩ _ i d HRN1.out (by decide) HB2.out).mono ?_
    rintro e wy ⟨rfl, hry, hsy⟩
    have HRY := Lib.hid hry
    have HSY : Hid (Step (· = R.rb) w wy) := HSN1.out.trans hsy
    clear hry hsy p0
    obtain ⟨p0, hbt⟩ := HKB.out wy HSY.out
    have HBTX := Lib.hid hbt
    clear hbt
    have bt0 := blk_cell HBTX.out 0 _ rfl
    have bz0 := blk_free HBTX.out 0
    obtain ⟨w4, hw4⟩ : ∃ w4 : World, w4 = (wy.setCell ⟨bt, 0, none⟩ (.int .i64 7)) := ⟨_, rfl⟩
    have HS4 : Hid (Step (· = bt) wy w4) := by show Step _ _ _; rw [hw4]; exact ((Step.refl (· = bt) _).setCell _ _ (fun _ => rfl))
    have HBT4 : Hid (w4.heap[bt]? = some (.cells #[.int .i64 7, .string noB, .int .u64 0, .bool false, .slice none 0 0, .slice none 0 0, .slice none 0 0, .int .i64 t.line, .int .i64 t.col] 29 (0, 0))) := by show _ = _; rw [hw4]; exact (blk_set HBTX.out 0 (.int .i64 7))
    have HS04 : Hid (Step (fun k => k = R.rb ∨ k = bt) w w4) := (HSY.out.mono (fun _ _ e => .inl e)).trans (HS4.out.mono (fun _ _ e => .inr e))
    have HR4 := Lib.hid (HRY.out.step HS4.out (fun k hk e => by omega))
    have p4 : w4.cell? ⟨bp, 0, none⟩ = some (.pointer (some ⟨R.rb, 0, none⟩)) := HS4.out.cell p0 (fun e => by have e2 : bp = bt := e; omega)
    go_upto_region 9 with fail
    rw [← hw4]
    clear p0 hw4 bt0 bz0
    have p0 := p4
    clear p4
    go_wp2_with fail
    cases hx : unaryR f R.l (i + 1) d with
    | out =>
     have HX := Lib.hid hx
     exact absurd (by rw [HRR.out]; unfold unaryB; simp only [HB0.out, HB1.out, HB2.out, HX.out, Bool.false_eq_true, if_false, if_true, Res.bind_out]) HNO.out
    | err c ln col =>
     have HX := Lib.hid hx
     clear hx
     refine (IH.out R _ (i + 1) d HL.out HR4.out hd (by rw [HX.out]; intro h; cases h)).mono ?_
     rintro e wq hp
     rw [HX.out] at hp
     obtain ⟨rfl, sq⟩ := hp
     refine ⟨rfl, CloPost.of_err (c := c) (ln := ln) (col := col) (by rw [HRR.out]; unfold unaryB; simp only [HB0.out, HB1.out, HB2.out, HX.out, Bool.false_eq_true, if_false, if_true, Res.bind_err]) rfl ?_⟩
     exact HS04.out.trans (sq.mono (fun _ _ e => .inl e))
    | ok y jx =>
     have HX := Lib.hid hx
     clear hx
     refine (IH.out R _ (i + 1) d HL.out HR4.out hd (by rw [HX.out]; intro h; cases h)).mono ?_
     rintro e wx hp
     rw [HX.out] at hp
     obtain ⟨⟨v, rfl, cs, rfl, hy⟩, hrx, hsx⟩ := hp
     have HY := Lib.hid hy
     obtain ⟨k0, nm0, v0, mu0, a1, n1, c1, a2, n2, c2, a3, n3, c3, l0, c0, rfl⟩ := hy.parts
     have HRX := Lib.hid hrx
     have HSX := Lib.hid hsx
     obtain ⟨w5, hw5⟩ : ∃ w5 : World, w5 = wx.alloc (.cells #[.int .i64 k0, .string nm0, .int .u64 v0, .bool mu0, .slice a1 n1 c1, .slice a2 n2 c2, .slice a3 n3 c3, .int .i64 l0, .int .i64 c0] 29) := ⟨_, rfl⟩
     have HS5 : Hid (Step (fun _ => False) wx w5) := by show Step _ _ _; rw [hw5]; exact (Step.refl _ _).alloc _
     have HK5 : Hid (w5.heap[wx.heap.size]? = some (.cells #[.int .i64 k0, .string nm0, .int .u64 v0, .bool mu0, .slice a1 n1 c1, .slice a2 n2 c2, .slice a3 n3 c3, .int .i64 l0, .int .i64 c0] 29 (0, 0))) := by show _ = _; rw [hw5]; exact blk_new _ _
     have hbt5 := HS5.out.keep (HSX.out.keep HBT4.out (by omega)) (fun h => h)
     have bt4 := blk_cell hbt5 4 _ rfl
     have bz4 := blk_free hbt5 4
     have hxz := HSX.out.size
     have hxy := HS04.out.size
     obtain ⟨w6, hw6⟩ : ∃ w6 : World, w6 = w5.setCell ⟨bt, 4, none⟩ (.slice (some ⟨wx.heap.size, 0, none⟩) 1 1) := ⟨_, rfl⟩
     have HS6 : Hid (Step (· = bt) w5 w6) := by show Step _ _ _; rw [hw6]; exact (Step.refl _ _).setCell _ _ (fun _ => rfl)
     have HBT6 : Hid (w6.heap[bt]? = some (.cells #[.int .i64 7, .string noB, .int .u64 0, .bool false, .slice (some ⟨wx.heap.size, 0, none⟩) 1 1, .slice none 0 0, .slice none 0 0, .int .i64 t.line, .int .i64 t.col] 29 (0, 0))) := by show _ = _; rw [hw6]; exact blk_set hbt5 4 _
     have HK6 := Lib.hid (HS6.out.keep HK5.out (by omega))
     rw [hw5] at bt4 bz4
     clear hbt5 hy hrx hsx p0
     go_wp2_with fail
     rw [← hw5, ← hw6]
     clear bt4 bz4 hw5 hw6
     refine bodyPost_end (results_none rfl _ _ _) rfl ?_
     have hsx2 : Step (fun k => k = R.rb ∨ k = bt) wx w6 := (HS5.out.mono (fun _ _ h => h.elim)).trans (HS6.out.mono (fun _ _ e => .inr e))
     refine CloPost.of_ok (a := exMk 7 noB 0 false [y] [] [] (tokA R.l i)) (j := jx) (by rw [HRR.out]; unfold unaryB; simp only [HB0.out, HB1.out, HB2.out, HX.out, Bool.false_eq_true, if_false, if_true, Res.bind_ok]) rfl ⟨_, HBT6.out, ?_⟩ ((HRX.out.quiet HS5.out).step HS6.out (fun k hk e => by omega)) (HS04.out.trans ((HSX.out.mono (fun _ _ e => .inl e)).trans hsx2))
     rw [exMk, ExP, ← HT.out]
     exact ⟨_, _, _, _, [], rfl, by decide, (fun _ h => nomatch h), ExsP.single (ExP.mono (fun k _ hk => by omega) _ _ (ExP.step hsx2 (fun k hk e => by omega) _ _ HY.out)), RowP.new HK6.out (by decide) (by omega), RowP.nil _ _ _, by rw [StsP], RowP.nil _ _ _⟩
   | false =>
    have HB2 := Lib.hid hb2
    clear hb2
    refine (is_no R HL.out ⟨#[42]⟩ _ i d HRN1.out (by decide) HB2.out).mono ?_
    rintro e wn2 ⟨rfl, hrn, hsn⟩
    have HRN2 := Lib.hid hrn
    have HSN2 : Hid (Step (· = R.rb) w wn2) := HSN1.out.trans hsn
    clear hrn hsn p0
    obtain ⟨p0, -⟩ := HKB.out wn2 HSN2.out
    go_wp2_with fail
    cases hb3 : isF R.l i [38] with
    | true =>
     have HB3 := Lib.hid hb3
     clear hb3
     refine (is_yes R HL.out ⟨#[38]⟩ _ i d HRN2.out (by decide) HB3.out).mono ?_
     rintro e wy ⟨rfl, hry, hsy⟩
     have HRY := Lib.hid hry
     have HSY : Hid (Step (· = R.rb) w wy) := HSN2.out.trans hsy
     clear hry hsy p0
     obtain ⟨p0, hbt⟩ := HKB.out wy HSY.out
     have HBTX := Lib.hid hbt
     clear hbt
     obtain ⟨mb, hmb⟩ : ∃ mb, mb = isF R.l (i + 1) [109, 117, 116] := ⟨_, rfl⟩
     obtain ⟨mj, hmj⟩ : ∃ mj, mj = takeI R.l (i + 1) [109, 117, 116] := ⟨_, rfl⟩
     have HIS := Lib.hid (is_any R HL.out ⟨#[109, 117, 116]⟩ wy (i + 1) d HRY.out (by decide))
     have HEQ : Hid (r = (unaryR f R.l mj d).bind fun y j => .ok (exMk 8 noB 0 mb [y] [] [] (tokA R.l i)) j) := by
      show _ = _
      rw [HRR.out, hmj, hmb]; unfold unaryB; simp only [HB0.out, HB1.out, HB2.out, HB3.out, Bool.false_eq_true, if_false, if_true]
     have HIS2 : Hid (Calls Try.prog 36 #[.pointer (some ⟨R.rb, 0, none⟩), .string ⟨#[109, 117, 116]⟩] wy fun e w' => e = .returned (.bool mb) ∧ RdAt R w' mj d ∧ Step (· = R.rb) wy w') := by
      show Calls _ _ _ _ _
      rw [hmb, hmj]; exact HIS.out
     clear hmb hmj
     go_wp2_with fail
     refine HIS2.out.mono ?_
     rintro e w3 ⟨rfl, hr3, hs3⟩
     have HRZ := Lib.hid hr3
     have HSZ : Hid (Step (· = R.rb) w w3) := HSY.out.trans hs3
     clear hr3 hs3 p0
     obtain ⟨p0, hbt⟩ := HKB.out w3 HSZ.out
     have HBTZ := Lib.hid hbt
     clear hbt
     have bt0 := blk_cell HBTZ.out 0 _ rfl
     have bz0 := blk_free HBTZ.out 0
     have bt3 := blk_cell HBTZ.out 3 _ rfl
     have bz3 := blk_free HBTZ.out 3
     obtain ⟨w4, hw4⟩ : ∃ w4 : World, w4 = ((w3.setCell ⟨bt, 0, none⟩ (.int .i64 8)).setCell ⟨bt, 3, none⟩ (.bool mb)) := ⟨_, rfl⟩
     have HS4 : Hid (Step (· = bt) w3 w4) := by show Step _ _ _; rw [hw4]; exact (((Step.refl (· = bt) _).setCell _ _ (fun _ => rfl)).setCell _ _ (fun _ => rfl))
     have HBT4 : Hid (w4.heap[bt]? = some (.cells #[.int .i64 8, .string noB, .int .u64 0, .bool mb, .slice none 0 0, .slice none 0 0, .slice none 0 0, .int .i64 t.line, .int .i64 t.col] 29 (0, 0))) := by show _ = _; rw [hw4]; exact (blk_set (blk_set HBTZ.out 0 (.int .i64 8)) 3 (.bool mb))
     have HS04 : Hid (Step (fun k => k = R.rb ∨ k = bt) w w4) := (HSZ.out.mono (fun _ _ e => .inl e)).trans (HS4.out.mono (fun _ _ e => .inr e))
     have HR4 := Lib.hid (HRZ.out.step HS4.out (fun k hk e => by omega))
     have p4 : w4.cell? ⟨bp, 0, none⟩ = some (.pointer (some ⟨R.rb, 0, none⟩)) := HS4.out.cell p0 (fun e => by have e2 : bp = bt := e; omega)
     go_upto_region 9 with fail
     rw [← hw4]
     clear p0 hw4 bt0 bz0 bt3 bz3
     have p0 := p4
     clear p4
     go_wp2_with fail
     cases hx : unaryR f R.l mj d with
     | out =>
      have HX := Lib.hid hx
      exact absurd (by rw [HEQ.out]; simp only [HX.out, Res.bind_out]) HNO.out
     | err c ln col =>
      have HX := Lib.hid hx
      clear hx
      refine (IH.out R _ mj d HL.out HR4.out hd (by rw [HX.out]; intro h; cases h)).mono ?_
      rintro e wq hp
      rw [HX.out] at hp
      obtain ⟨rfl, sq⟩ := hp
      refine ⟨rfl, CloPost.of_err (c := c) (ln := ln) (col := col) (by rw [HEQ.out]; simp only [HX.out, Res.bind_err]) rfl ?_⟩
      exact HS04.out.trans (sq.mono (fun _ _ e => .inl e))
     | ok y jx =>
      have HX := Lib.hid hx
      clear hx
      refine (IH.out R _ mj d HL.out HR4.out hd (by rw [HX.out]; intro h; cases h)).mono ?_
      rintro e wx hp
      rw [HX.out] at hp
      obtain ⟨⟨v, rfl, cs, rfl, hy⟩, hrx, hsx⟩ := hp
      have HY := Lib.hid hy
      obtain ⟨k0, nm0, v0, mu0, a1, n1, c1, a2, n2, c2, a3, n3, c3, l0, c0, rfl⟩ := hy.parts
      have HRX := Lib.hid hrx
      have HSX := Lib.hid hsx
      obtain ⟨w5, hw5⟩ : ∃ w5 : World, w5 = wx.alloc (.cells #[.int .i64 k0, .string nm0, .int .u64 v0, .bool mu0, .slice a1 n1 c1, .slice a2 n2 c2, .slice a3 n3 c3, .int .i64 l0, .int .i64 c0] 29) := ⟨_, rfl⟩
      have HS5 : Hid (Step (fun _ => False) wx w5) := by show Step _ _ _; rw [hw5]; exact (Step.refl _ _).alloc _
      have HK5 : Hid (w5.heap[wx.heap.size]? = some (.cells #[.int .i64 k0, .string nm0, .int .u64 v0, .bool mu0, .slice a1 n1 c1, .slice a2 n2 c2, .slice a3 n3 c3, .int .i64 l0, .int .i64 c0] 29 (0, 0))) := by show _ = _; rw [hw5]; exact blk_new _ _
      have hbt5 := HS5.out.keep (HSX.out.keep HBT4.out (by omega)) (fun h => h)
      have bt4 := blk_cell hbt5 4 _ rfl
      have bz4 := blk_free hbt5 4
      have hxz := HSX.out.size
      have hxy := HS04.out.size
      obtain ⟨w6, hw6⟩ : ∃ w6 : World, w6 = w5.setCell ⟨bt, 4, none⟩ (.slice (some ⟨wx.heap.size, 0, none⟩) 1 1) := ⟨_, rfl⟩
      have HS6 : Hid (Step (· = bt) w5 w6) := by show Step _ _ _; rw [hw6]; exact (Step.refl _ _).setCell _ _ (fun _ => rfl)
      have HBT6 : Hid (w6.heap[bt]? = some (.cells #[.int .i64 8, .string noB, .int .u64 0, .bool mb, .slice (some ⟨wx.heap.size, 0, none⟩) 1 1, .slice none 0 0, .slice none 0 0, .int .i64 t.line, .int .i64 t.col] 29 (0, 0))) := by show _ = _; rw [hw6]; exact blk_set hbt5 4 _
      have HK6 := Lib.hid (HS6.out.keep HK5.out (by omega))
      rw [hw5] at bt4 bz4
      clear hbt5 hy hrx hsx p0
      go_wp2_with fail
      rw [← hw5, ← hw6]
      clear bt4 bz4 hw5 hw6
      refine bodyPost_end (results_none rfl _ _ _) rfl ?_
      have hsx2 : Step (fun k => k = R.rb ∨ k = bt) wx w6 := (HS5.out.mono (fun _ _ h => h.elim)).trans (HS6.out.mono (fun _ _ e => .inr e))
      refine CloPost.of_ok (a := exMk 8 noB 0 mb [y] [] [] (tokA R.l i)) (j := jx) (by rw [HEQ.out]; simp only [HX.out, Res.bind_ok]) rfl ⟨_, HBT6.out, ?_⟩ ((HRX.out.quiet HS5.out).step HS6.out (fun k hk e => by omega)) (HS04.out.trans ((HSX.out.mono (fun _ _ e => .inl e)).trans hsx2))
      rw [exMk, ExP, ← HT.out]
      exact ⟨_, _, _, _, [], rfl, by decide, (fun _ h => nomatch h), ExsP.single (ExP.mono (fun k _ hk => by omega) _ _ (ExP.step hsx2 (fun k hk e => by omega) _ _ HY.out)), RowP.new HK6.out (by decide) (by omega), RowP.nil _ _ _, by rw [StsP], RowP.nil _ _ _⟩
    | false =>
     have HB3 := Lib.hid hb3
     clear hb3
     refine (is_no R HL.out ⟨#[38]⟩ _ i d HRN2.out (by decide) HB3.out).mono ?_
     rintro e wn3 ⟨rfl, hrn, hsn⟩
     have HRN3 := Lib.hid hrn
     have HSN3 : Hid (Step (· = R.rb) w wn3) := HSN2.out.trans hsn
     clear hrn hsn p0
     obtain ⟨p0, -⟩ := HKB.out wn3 HSN3.out
     go_wp2_with fail
     cases hx : postR f R.l i d with
     | out =>
      have HX := Lib.hid hx
      exact absurd (by rw [HRR.out]; unfold unaryB; simp only [HB0.out, HB1.out, HB2.out, HB3.out, HX.out, Bool.false_eq_true, if_false]) HNO.out
     | err c ln col =>
      have HX := Lib.hid hx
      clear hx
      refine (IHP.out R _ i d HL.out HRN3.out hd (by rw [HX.out]; intro h; cases h)).mono ?_
      rintro e wq hp
      rw [HX.out] at hp
      obtain ⟨rfl, sq⟩ := hp
      refine ⟨rfl, CloPost.of_err (c := c) (ln := ln) (col := col) (by rw [HRR.out]; unfold unaryB; simp only [HB0.out, HB1.out, HB2.out, HB3.out, HX.out, Bool.false_eq_true, if_false]) rfl ?_⟩
      exact (HSN3.out.trans sq).mono (fun _ _ e => .inl e)
     | ok y jx =>
      have HX := Lib.hid hx
      clear hx
      refine (IHP.out R _ i d HL.out HRN3.out hd (by rw [HX.out]; intro h; cases h)).mono ?_
      rintro e wx hp
      rw [HX.out] at hp
      obtain ⟨⟨v, rfl, cs, rfl, hy⟩, hrx, hsx⟩ := hp
      have HY := Lib.hid hy
      have HONE := Lib.hid hy.one
      obtain ⟨k0, nm0, v0, mu0, a1, n1, c1, a2, n2, c2, a3, n3, c3, l0, c0, rfl⟩ := hy.parts
      have HRX := Lib.hid hrx
      have HSX : Hid (Step (· = R.rb) w wx) := HSN3.out.trans hsx
      have hnz := HSN3.out.size
      obtain ⟨-, hbt⟩ := HKB.out wx HSX.out
      have HBTX := Lib.hid hbt
      clear hy hrx hsx p0 hbt
      go_wp2_with (refine wpList_store_part (w := wx) rfl 29 (.tmp 1) (.tmp 3) rfl bt 0 29 _ [.int .i64 k0, .string nm0, .int .u64 v0, .bool mu0, .slice a1 n1 c1, .slice a2 n2 c2, .slice a3 n3 c3, .int .i64 l0, .int .i64 c0] rfl rfl HBTX.out Try.sizeExpr (Nat.le_of_eq rfl) HONE.out ?_
                   intro w6 hb6 hst6)
      have hb6' : w6.heap[bt]? = some (.cells [Value.int .i64 k0, .string nm0, .int .u64 v0, .bool mu0, .slice a1 n1 c1, .slice a2 n2 c2, .slice a3 n3 c3, .int .i64 l0, .int .i64 c0].toArray 29 (0, 0)) := hb6
      have HB6 := Lib.hid hb6'
      have HS6 := Lib.hid hst6
      clear hb6 hb6' hst6
      refine bodyPost_ret (results_none rfl _ _ _) rfl ?_
      refine CloPost.of_ok (a := y) (j := jx) (by rw [HRR.out]; unfold unaryB; simp only [HB0.out, HB1.out, HB2.out, HB3.out, HX.out, Bool.false_eq_true, if_false]) rfl ⟨_, HB6.out, ?_⟩ (HRX.out.step HS6.out (fun k hk e => by omega)) ((HSX.out.mono (fun _ _ e => .inl e)).trans (HS6.out.mono (fun _ _ e => .inr e)))
      exact ExP.mono (fun k _ hk => by omega) _ _ (ExP.step HS6.out (fun k hk e => by omega) _ _ HY.out)
theorem enters_unary1 : Enters 35 := fun xs w => by go_simp
theorem unary_step (f : Nat) (ih : UnaryOk f) (iha : PostOk f) : UnaryOk (f + 1) := by
 intro R w i d hl h hd hno
 have hmf : ∀ (fn : Fn) (first cap : Array Value) (w : World), (Instr.makeFunc fn first cap).run Try.prog w = .ok (.func fn first cap) w := fun _ _ _ _ => rfl
 have HL := Lib.hid hl
 have H0 := Lib.hid h
 have HNO := Lib.hid hno
 obtain ⟨r, hr⟩ : ∃ r, r = unaryR (f + 1) R.l i d := ⟨_, rfl⟩
 have HRR := Lib.hid hr
 rw [← hr]
 obtain ⟨t, ht⟩ : ∃ t, t = tokA R.l i := ⟨_, rfl⟩
 have HT := Lib.hid ht
 have hrlt := blk_lt h.blk
 obtain ⟨w1, hw1⟩ : ∃ w1 : World, w1 = (w.alloc (.cells #[.pointer (some ⟨R.rb, 0, none⟩)] 45)).alloc (.cells #[.int .i64 0, .string ⟨#[]⟩, .int .u64 0, .bool false, .slice none 0 0, .slice none 0 0, .slice none 0 0, .int .i64 0, .int .i64 0] 29) := ⟨_, rfl⟩
 have HS1 : Hid (Step (fun _ => False) w w1) := by show Step _ _ _; rw [hw1]; exact ((Step.refl _ _).alloc _).alloc _
 have HP1 : Hid (w1.heap[w.heap.size]? = some (.cells #[.pointer (some ⟨R.rb, 0, none⟩)] 45 (0, 0))) := by show _ = _; rw [hw1]; exact blk_alloc (blk_new _ _)
 have HN1 : Hid (w1.heap[w.heap.size + 1]? = some (.cells #[.int .i64 0, .string ⟨#[]⟩, .int .u64 0, .bool false, .slice none 0 0, .slice none 0 0, .slice none 0 0, .int .i64 0, .int .i64 0] 29 (0, 0))) := by show _ = _; rw [hw1]; exact blk_new2 _ _ _
 have HW1 := Lib.hid hw1
 have H1 := Lib.hid (h.quiet HS1.out)
 have p0 : w1.cell? ⟨w.heap.size, 0, none⟩ = some (.pointer (some ⟨R.rb, 0, none⟩)) := blk_cell HP1.out 0 _ rfl
 have HAT := Lib.hid (at_at R w1 i d t H1.out (by rw [ht]; exact H1.out.tok))
 clear hl h hno hr hw1 ht
 go_enter Try.func24, Try.ntmps24
 go_upto_region 1 with fail
 rw [← HW1.out]
 go_wp2_with fail
 refine HAT.out.mono ?_
 rintro e w2 ⟨rfl, h2⟩
 have HS2 := Lib.hid (HS1.out.trans h2)
 have HP2 := Lib.hid (h2.keep HP1.out (fun h => h))
 have HN2 := Lib.hid (h2.keep HN1.out (fun h => h))
 have hn1 := blk_lt HN2.out
 obtain ⟨w3, hw3⟩ : ∃ w3 : World, w3 = w2.alloc (.cells #[.int .i64 0, .string noB, .int .u64 0, .bool false, .slice none 0 0, .slice none 0 0, .slice none 0 0, .int .i64 t.line, .int .i64 t.col] 29) := ⟨_, rfl⟩
 have HS23 : Hid (Step (fun _ => False) w2 w3) := by show Step _ _ _; rw [hw3]; exact (Step.refl _ _).alloc _
 have HB3 : Hid (w3.heap[w2.heap.size]? = some (.cells #[.int .i64 0, .string noB, .int .u64 0, .bool false, .slice none 0 0, .slice none 0 0, .slice none 0 0, .int .i64 t.line, .int .i64 t.col] 29 (0, 0))) := by show _ = _; rw [hw3]; exact blk_new _ _
 have HS3 := Lib.hid (HS2.out.trans HS23.out)
 have HP3 := Lib.hid (HS23.out.keep HP2.out (fun h => h))
 have HN3 := Lib.hid (HS23.out.keep HN2.out (fun h => h))
 have H3 := Lib.hid (H0.out.quiet HS3.out)
 have HW3 := Lib.hid hw3
 clear h2 hw3 p0
 have p0 : w3.cell? ⟨w.heap.size, 0, none⟩ = some (.pointer (some ⟨R.rb, 0, none⟩)) := blk_cell HP3.out 0 _ rfl
 go_upto_region 2 with fail
 have hx3 : w2.alloc (.cells #[.int .i64 0, .string ⟨#[]⟩, .int .u64 0, .bool false, .slice none 0 0, .slice none 0 0, .slice none 0 0, .int .i64 t.line, .int .i64 t.col] 29) = w3 := HW3.out.symm
 rw [hx3]
 clear hx3
 go_wp2_with fail
 by_cases h40 : d = 40
 ·refine (deep_limit R _ [.pointer (some ⟨w.heap.size, 0, none⟩), .pointer (some ⟨w2.heap.size, 0, none⟩)] w3 i d t H3.out (by rw [HT.out]; exact H3.out.tok) h40).mono ?_
  rintro e w4 ⟨rfl, h4⟩
  refine ⟨rfl, ?_⟩
  rw [HRR.out, unaryR_succ, if_pos h40, failR, ← HT.out]
  exact ⟨rfl, (HS3.out.trans h4).mono (fun _ _ h => h.elim)⟩
 ·have HRB : Hid (r = unaryB f R.l i (d + 1)) := by show _ = _; rw [HRR.out, unaryR_succ, if_neg h40]
  have hnb : unaryB f R.l i (d + 1) ≠ .out := fun e => HNO.out (by rw [← HRR.out, HRB.out, e])
  have HCLO : Hid (∀ X, RdAt R X i (d + 1) → Step (· = R.rb) w3 X → Calls Try.prog 35 #[.pointer (some ⟨w.heap.size, 0, none⟩), .pointer (some ⟨w2.heap.size, 0, none⟩)] X (CloPost R (d + 1) w2.heap.size (ExLeft X.heap.size w2.heap.size) (unaryB f R.l i (d + 1)) X)) := by
   show ∀ X, _
   intro X hX hs
   exact unary1_any R f ih iha w.heap.size w2.heap.size X i (d + 1) t HL.out hX (by omega) (hs.keep HP3.out (by omega)) (hs.keep HB3.out (by omega)) (by omega) (by omega) HT.out hnb
  have hd40 : d < 40 := by omega
  cases hb : unaryB f R.l i (d + 1) with
  | out => exact absurd hb hnb
  | err c ln col =>
   have HB := Lib.hid hb
   clear hb
   refine (deep_err R _ [.pointer (some ⟨w.heap.size, 0, none⟩), .pointer (some ⟨w2.heap.size, 0, none⟩)] w3 i d (Q := fun X => Step (fun k => k = R.rb ∨ k = w2.heap.size) w3 X) (hk := enters_unary1) (h := H3.out) (hd := hd40) (hby := fun X hX hs => ?_) (es := [{ v := .iface 89 (.agg #[.int .i64 c, .int .i64 ln, .int .i64 col]), recovered := false }])).mono ?_
   ·refine (HCLO.out X hX hs).mono ?_
    intro e X2 hp
    rw [HB.out] at hp
    exact ⟨hp.1, (hs.mono (fun _ _ e => .inl e)).trans hp.2⟩
   ·rintro e w4 ⟨rfl, h4⟩
    refine ⟨rfl, ?_⟩
    rw [HRB.out, HB.out]
    exact ⟨rfl, (HS3.out.mono (fun _ _ h => h.elim)).then h4 (fun q hq e => by omega)⟩
  | ok ty j =>
   have HB := Lib.hid hb
   clear hb
   refine (deep_ok R _ [.pointer (some ⟨w.heap.size, 0, none⟩), .pointer (some ⟨w2.heap.size, 0, none⟩)] w3 i d (fun i' X => i' = j ∧ ExLeft w3.heap.size w2.heap.size X ty ∧ Step (fun k => k = R.rb ∨ k = w2.heap.size) w3 X) enters_unary1 H3.out hd40 (fun X hX hs => ?_)).mono ?_
   ·refine (HCLO.out X hX hs).mono ?_
    intro e X2 hp
    rw [HB.out] at hp
    obtain ⟨he, ⟨cs, hc, ht⟩, hr, hs2⟩ := hp
    exact ⟨he, j, hr, rfl, ⟨cs, hc, ExP.mono (fun k _ hk => by have := hs.size; omega) _ _ ht⟩, (hs.mono (fun _ _ e => .inl e)).trans hs2⟩
   ·rintro e w4 ⟨rfl, i', X, ⟨rfl, ⟨cs, hc, hty⟩, hsx⟩, hr4, hs4⟩
    have hlt3 := blk_lt HB3.out
    have hb4 := hs4.keep hc (by omega)
    have hty4 := ExP.step hs4 (fun k hk e => by omega) _ _ hty
    have hs34 : Step (fun k => k = R.rb ∨ k = w2.heap.size) w3 w4 := hsx.trans (hs4.mono (fun _ _ e => .inl e))
    obtain ⟨k0, nm0, v0, mu0, a1, n1, c1, a2, n2, c2, a3, n3, c3, l0, c0, rfl⟩ := hty4.parts
    have HR4 := Lib.hid hr4
    have HTY := Lib.hid hty4
    have HS34 := Lib.hid hs34
    have HB4 := Lib.hid hb4
    have HN4 := Lib.hid (hs34.keep HN3.out (by omega))
    have HLD : Hid (∀ (jj : Nat) v, [Value.int .i64 k0, .string nm0, .int .u64 v0, .bool mu0, .slice a1 n1 c1, .slice a2 n2 c2, .slice a3 n3 c3, .int .i64 l0, .int .i64 c0][jj]? = some v → w4.cell? ⟨w2.heap.size, 0 + jj, none⟩ = some v) := by
     show ∀ jj v, _
     intro jj v hv
     rw [Nat.zero_add]; exact blk_cell HB4.out jj v (by simpa using hv)
    have HONE := Lib.hid (ExP.one hty4)
    have hsz3 := HS23.out.size
    clear hc hty hsx hr4 hs4 hb4 hty4 hs34 p0
    go_wp2_with (first
     | (refine wpList_load_whole rfl 29 (.tmp 3) rfl w2.heap.size 0 rfl [.int .i64 k0, .string nm0, .int .u64 v0, .bool mu0, .slice a1 n1 c1, .slice a2 n2 c2, .slice a3 n3 c3, .int .i64 l0, .int .i64 c0] _ HLD.out Try.underlying29 rfl Try.sizeExpr ?_)
     | (refine wpList_store_part (w := w4) rfl 29 (.tmp 2) (.tmp 12) rfl (w.heap.size + 1) 0 29 _ [.int .i64 k0, .string nm0, .int .u64 v0, .bool mu0, .slice a1 n1 c1, .slice a2 n2 c2, .slice a3 n3 c3, .int .i64 l0, .int .i64 c0] rfl rfl HN4.out Try.sizeExpr (Nat.le_of_eq rfl) HONE.out ?_
        intro w5 hb5 hst5))
    have hb5' : w5.heap[w.heap.size + 1]? = some (.cells [Value.int .i64 k0, .string nm0, .int .u64 v0, .bool mu0, .slice a1 n1 c1, .slice a2 n2 c2, .slice a3 n3 c3, .int .i64 l0, .int .i64 c0].toArray 29 (0, 0)) := hb5
    refine bodyPost_ret (results_cellB rfl _ (w.heap.size + 1) 29 _ _ rfl hb5' Try.underlying29 rfl Try.sizeExpr) rfl ?_
    rw [HRB.out, HB.out]
    refine ⟨⟨_, rfl, _, rfl, ExP.mono (fun k _ hk => by have := HS3.out.size; omega) _ _ (ExP.step hst5 (fun k hk e => by omega) _ _ HTY.out)⟩, HR4.out.step hst5 (fun k hk e => by omega), ?_⟩
    have hs04 : Step (· = R.rb) w w4 := (HS3.out.mono (fun _ _ h => h.elim)).then HS34.out (fun q hq e => by omega)
    exact hs04.then hst5 (fun q hq e => by omega)
theorem blk_at (w : World) (o : Obj) (k : Nat) (h : k = w.heap.size) : (w.alloc o).heap[k]? = some o := by subst h; exact blk_new w o
theorem Try.sizeLevels : (Try.prog.info? 77).map (·.size) = some 5 := by kernel_rfl
theorem levels_any (w : World) : Calls Try.prog 23 #[] w fun e w' => (∃ g0 g1 g2 g3 g4 : Nat, e = .returned (.agg #[.slice (some ⟨g0, 0, none⟩) 1 1, .slice (some ⟨g1, 0, none⟩) 1 1, .slice (some ⟨g2, 0, none⟩) 2 2, .slice (some ⟨g3, 0, none⟩) 2 2, .slice (some ⟨g4, 0, none⟩) 2 2]) ∧
  w'.cell? ⟨g0, 0, none⟩ = some (.string ⟨#[124]⟩) ∧ w'.cell? ⟨g1, 0, none⟩ = some (.string ⟨#[38, 38]⟩) ∧ w'.cell? ⟨g2, 0, none⟩ = some (.string ⟨#[61, 61]⟩) ∧ w'.cell? ⟨g2, 1, none⟩ = some (.string ⟨#[60]⟩) ∧ w'.cell? ⟨g3, 0, none⟩ = some (.string ⟨#[43]⟩) ∧ w'.cell? ⟨g3, 1, none⟩ = some (.string ⟨#[45]⟩) ∧ w'.cell? ⟨g4, 0, none⟩ = some (.string ⟨#[42]⟩) ∧ w'.cell? ⟨g4, 1, none⟩ = some (.string ⟨#[47]⟩) ∧ w.heap.size ≤ g0 ∧ w.heap.size ≤ g1 ∧ w.heap.size ≤ g2 ∧ w.heap.size ≤ g3 ∧ w.heap.size ≤ g4) ∧ Step (fun _ => False) w w' := by
 go_enter Try.func23, Try.ntmps23
 go_wp2
 refine bodyPost_ret (results_cellB rfl _ w.heap.size 77 [.slice (some ⟨w.heap.size + 1, 0, none⟩) 1 1, .slice (some ⟨w.heap.size + 1 + 1, 0, none⟩) 1 1, .slice (some ⟨w.heap.size + 1 + 1 + 1, 0, none⟩) 2 2, .slice (some ⟨w.heap.size + 1 + 1 + 1 + 1, 0, none⟩) 2 2, .slice (some ⟨w.heap.size + 1 + 1 + 1 + 1 + 1, 0, none⟩) 2 2] _ rfl (blk_alloc (blk_alloc (blk_alloc (blk_alloc (blk_alloc (blk_new _ _)))))) Try.underlying77 rfl Try.sizeLevels) rfl ?_
 exact ⟨⟨_, _, _, _, _, rfl, blk_cell (blk_alloc (blk_alloc (blk_alloc (blk_alloc (blk_at _ _ _ (by simp)))))) 0 _ rfl, blk_cell (blk_alloc (blk_alloc (blk_alloc (blk_at _ _ _ (by simp))))) 0 _ rfl, blk_cell (blk_alloc (blk_alloc (blk_at _ _ _ (by simp)))) 0 _ rfl, blk_cell (blk_alloc (blk_alloc (blk_at _ _ _ (by simp)))) 1 _ rfl, blk_cell (blk_alloc (blk_at _ _ _ (by simp))) 0 _ rfl, blk_cell (blk_alloc (blk_at _ _ _ (by simp))) 1 _ rfl, blk_cell (blk_at _ _ _ (by simp)) 0 _ rfl, blk_cell (blk_at _ _ _ (by simp)) 1 _ rfl, by omega, by omega, by omega, by omega, by omega⟩, ((((((Step.refl _ _).alloc _).alloc _).alloc _).alloc _).alloc _).alloc _⟩
def opS (o : Option (List UInt8)) : ByteArray := match o with | some s => toB s | none => noB
def opI (o : Option (List UInt8)) (i : Nat) : Nat := match o with | some _ => i + 1 | none => i
def OpPost (R : Rdr) (i d n : Nat) (w : World) (e : Ending) (w' : World) : Prop := e = .returned (.string (opS (opF R.l i n))) ∧ RdAt R w' (opI (opF R.l i n) i) d ∧ Step (· = R.rb) w w'
theorem op_any (R : Rdr) (hl : LOk R.l) (w : World) (i d n : Nat) (h : RdAt R w i d) (hn : n < 5) :
  Calls Try.prog 26 #[.agg #[.pointer (some ⟨R.rb, 0, none⟩)], .int .i64 (n : Int)] w (OpPost R i d n w) := by
 have HL := Lib.hid hl
 obtain ⟨w1, hw1⟩ : ∃ w1 : World, w1 = w.alloc (.cells #[.pointer (some ⟨R.rb, 0, none⟩)] 45) := ⟨_, rfl⟩
 have HS1 : Hid (Step (fun _ => False) w w1) := by show Step _ _ _; rw [hw1]; exact (Step.refl _ _).alloc _
 have HP1 : Hid (w1.heap[w.heap.size]? = some (.cells #[.pointer (some ⟨R.rb, 0, none⟩)] 45 (0, 0))) := by show _ = _; rw [hw1]; exact blk_new _ _
 have HW1 := Lib.hid hw1
 have H1 := Lib.hid (h.quiet HS1.out)
 have hrw := blk_lt h.blk
 have HKP : Hid (∀ X : World, Step (· = R.rb) w1 X → X.cell? ⟨w.heap.size, 0, none⟩ = some (.pointer (some ⟨R.rb, 0, none⟩))) := by
  show ∀ X, _
  intro X hX
  exact blk_cell (hX.keep HP1.out (by omega)) 0 _ rfl
 clear h hl hw1
 rcases (show n = 0 ∨ n = 1 ∨ n = 2 ∨ n = 3 ∨ n = 4 by omega) with rfl | rfl | rfl | rfl | rfl
 ·clear hn
  go_enter Try.func26, Try.ntmps26
  go_upto_region 1 with fail
  rw [← HW1.out]
  go_wp2_with fail
  refine (levels_any w1).mono ?_
  rintro e w2 ⟨⟨g0, g1, g2, g3, g4, rfl, hc⟩, h2⟩
  have H2 := Lib.hid (H1.out.quiet h2)
  have HC := Lib.hid hc
  have HS2 := Lib.hid h2
  have hs12 := HS1.out.size
  have HGN0 : Hid (g0 = R.rb → False) := by
   show _ → _
   have := HC.out.2.2.2.2.2.2.2.2.1
   omega
  have HGN1 : Hid (g1 = R.rb → False) := by
   show _ → _
   have := HC.out.2.2.2.2.2.2.2.2.2.1
   omega
  have HGN2 : Hid (g2 = R.rb → False) := by
   show _ → _
   have := HC.out.2.2.2.2.2.2.2.2.2.2.1
   omega
  have HGN3 : Hid (g3 = R.rb → False) := by
   show _ → _
   have := HC.out.2.2.2.2.2.2.2.2.2.2.2.1
   omega
  have HGN4 : Hid (g4 = R.rb → False) := by
   show _ → _
   have := HC.out.2.2.2.2.2.2.2.2.2.2.2.2
   omega
  have hix : ∀ (a0 a1 a2 a3 a4 : Value) (w : World), (Instr.index 77 (.agg #[a0, a1, a2, a3, a4]) (.int .i64 0)).run Try.prog w = .ok a0 w := fun _ _ _ _ _ _ => by kernel_rfl
  clear hc h2
  go_wp2_with fail
  go_loopg [6, 11] 1 (fun gg s6 s11 wr => ∃ k : Nat, s11 = .int .i64 k ∧ k ≤ 1 ∧ 1 - k ≤ gg ∧ ((opsL 0).drop k).find? (isF R.l i) = opF R.l i 0 ∧ RdAt R wr i d ∧ Step (· = R.rb) w2 wr)
  case atStart => exact ⟨0, rfl, Nat.zero_le _, by omega, rfl, H2.out, Step.refl _ _⟩
  case round =>
   obtain ⟨k, rfl, hk, hgg, hfd, hr, hst⟩ := hrel
   have HFD := Lib.hid hfd
   have HR := Lib.hid hr
   have HST := Lib.hid hst
   have HS12 : Hid (Step (· = R.rb) w1 wr) := (HS2.out.mono (fun _ _ h => h.elim)).trans hst
   have p0 := HKP.out wr HS12.out
   clear hfd hr hst
   rcases (show k = 0 ∨ k = 1 by omega) with rfl | rfl
   ·have f0 : wr.cell? ⟨g0, 0, none⟩ = some (.string ⟨#[124]⟩) := HST.out.cell (HC.out.1) (fun e => HGN0.out e)
    go_wp2_with fail
    cases hb : isF R.l i [124] with
    | true =>
     have HB := Lib.hid hb
     clear hb
     refine (is_yes R HL.out ⟨#[124]⟩ _ i d HR.out (by decide) HB.out).mono ?_
     rintro e w4 ⟨rfl, hr4, h4⟩
     have HR4 := Lib.hid hr4
     have HS4 := Lib.hid h4
     clear hr4 h4 f0 p0
     go_wp2_with fail
     go_ret
     have ho : opF R.l i 0 = some [124] := by
      rw [← HFD.out]; simp [opsL, HB.out]
     unfold OpPost
     rw [ho]
     exact ⟨rfl, HR4.out, ((HS1.out.mono (fun _ _ h => h.elim)).trans HS12.out).trans HS4.out⟩
    | false =>
     have HB := Lib.hid hb
     clear hb
     refine (is_no R HL.out ⟨#[124]⟩ _ i d HR.out (by decide) HB.out).mono ?_
     rintro e w4 ⟨rfl, hr4, h4⟩
     have HR4 := Lib.hid hr4
     have HS4 := Lib.hid h4
     have HFD2 : Hid (((opsL 0).drop 1).find? (isF R.l i) = opF R.l i 0) := by
      show _ = _
      rw [← HFD.out]; simp [opsL, HB.out]
     clear hr4 h4 f0 p0
     go_wp2_with fail
     go_roundg (gk - 1)
     case rel => exact ⟨1, rfl, by omega, by omega, HFD2.out, HR4.out, HST.out.trans HS4.out⟩
     case measure => omega
   ·clear p0
    go_wp2_with fail
    go_ret
    have ho : opF R.l i 0 = none := by rw [← HFD.out]; rfl
    unfold OpPost
    rw [ho]
    exact ⟨rfl, HR.out, (HS1.out.mono (fun _ _ h => h.elim)).trans HS12.out⟩
 ·clear hn
  go_enter Try.func26, Try.ntmps26
  go_upto_region 1 with fail
  rw [← HW1.out]
  go_wp2_with fail
  refine (levels_any w1).mono ?_
  rintro e w2 ⟨⟨g0, g1, g2, g3, g4, rfl, hc⟩, h2⟩
  have H2 := Lib.hid (H1.out.quiet h2)
  have HC := Lib.hid hc
  have HS2 := Lib.hid h2
  have hs12 := HS1.out.size
  have HGN0 : Hid (g0 = R.rb → False) := by
   show _ → _
   have := HC.out.2.2.2.2.2.2.2.2.1
   omega
  have HGN1 : Hid (g1 = R.rb → False) := by
   show _ → _
   have := HC.out.2.2.2.2.2.2.2.2.2.1
   omega
  have HGN2 : Hid (g2 = R.rb → False) := by
   show _ → _
   have := HC.out.2.2.2.2.2.2.2.2.2.2.1
   omega
  have HGN3 : Hid (g3 = R.rb → False) := by
   show _ → _
   have := HC.out.2.2.2.2.2.2.2.2.2.2.2.1
   omega
  have HGN4 : Hid (g4 = R.rb → False) := by
   show _ → _
   have := HC.out.2.2.2.2.2.2.2.2.2.2.2.2
   omega
  have hix : ∀ (a0 a1 a2 a3 a4 : Value) (w : World), (Instr.index 77 (.agg #[a0, a1, a2, a3, a4]) (.int .i64 1)).run Try.prog w = .ok a1 w := fun _ _ _ _ _ _ => by kernel_rfl
  clear hc h2
  go_wp2_with fail
  go_loopg [6, 11] 1 (fun gg s6 s11 wr => ∃ k : Nat, s11 = .int .i64 k ∧ k ≤ 1 ∧ 1 - k ≤ gg ∧ ((opsL 1).drop k).find? (isF R.l i) = opF R.l i 1 ∧ RdAt R wr i d ∧ Step (· = R.rb) w2 wr)
  case atStart => exact ⟨0, rfl, Nat.zero_le _, by omega, rfl, H2.out, Step.refl _ _⟩
  case round =>
   obtain ⟨k, rfl, hk, hgg, hfd, hr, hst⟩ := hrel
   have HFD := Lib.hid hfd
   have HR := Lib.hid hr
   have HST := Lib.hid hst
   have HS12 : Hid (Step (· = R.rb) w1 wr) := (HS2.out.mono (fun _ _ h => h.elim)).trans hst
   have p0 := HKP.out wr HS12.out
   clear hfd hr hst
   rcases (show k = 0 ∨ k = 1 by omega) with rfl | rfl
   ·have f0 : wr.cell? ⟨g1, 0, none⟩ = some (.string ⟨#[38, 38]⟩) := HST.out.cell (HC.out.2.1) (fun e => HGN1.out e)
    go_wp2_with fail
    cases hb : isF R.l i [38, 38] with
    | true =>
     have HB := Lib.hid hb
     clear hb
     refine (is_yes R HL.out ⟨#[38, 38]⟩ _ i d HR.out (by decide) HB.out).mono ?_
     rintro e w4 ⟨rfl, hr4, h4⟩
     have HR4 := Lib.hid hr4
     have HS4 := Lib.hid h4
     clear hr4 h4 f0 p0
     go_wp2_with fail
     go_ret
     have ho : opF R.l i 1 = some [38, 38] := by
      rw [← HFD.out]; simp [opsL, HB.out]
     unfold OpPost
     rw [ho]
     exact ⟨rfl, HR4.out, ((HS1.out.mono (fun _ _ h => h.elim)).trans HS12.out).trans HS4.out⟩
    | false =>
     have HB := Lib.hid hb
     clear hb
     refine (is_no R HL.out ⟨#[38, 38]⟩ _ i d HR.out (by decide) HB.out).mono ?_
     rintro e w4 ⟨rfl, hr4, h4⟩
     have HR4 := Lib.hid hr4
     have HS4 := Lib.hid h4
     have HFD2 : Hid (((opsL 1).drop 1).find? (isF R.l i) = opF R.l i 1) := by
      show _ = _
      rw [← HFD.out]; simp [opsL, HB.out]
     clear hr4 h4 f0 p0
     go_wp2_with fail
     go_roundg (gk - 1)
     case rel => exact ⟨1, rfl, by omega, by omega, HFD2.out, HR4.out, HST.out.trans HS4.out⟩
     case measure => omega
   ·clear p0
    go_wp2_with fail
    go_ret
    have ho : opF R.l i 1 = none := by rw [← HFD.out]; rfl
    unfold OpPost
    rw [ho]
    exact ⟨rfl, HR.out, (HS1.out.mono (fun _ _ h => h.elim)).trans HS12.out⟩
 ·clear hn
  go_enter Try.func26, Try.ntmps26
  go_upto_region 1 with fail
  rw [← HW1.out]
  go_wp2_with fail
  refine (levels_any w1).mono ?_
  rintro e w2 ⟨⟨g0, g1, g2, g3, g4, rfl, hc⟩, h2⟩
  have H2 := Lib.hid (H1.out.quiet h2)
  have HC := Lib.hid hc
  have HS2 := Lib.hid h2
  have hs12 := HS1.out.size
  have HGN0 : Hid (g0 = R.rb → False) := by
   show _ → _
   have := HC.out.2.2.2.2.2.2.2.2.1
   omega
  have HGN1 : Hid (g1 = R.rb → False) := by
   show _ → _
   have := HC.out.2.2.2.2.2.2.2.2.2.1
   omega
  have HGN2 : Hid (g2 = R.rb → False) := by
   show _ → _
   have := HC.out.2.2.2.2.2.2.2.2.2.2.1
   omega
  have HGN3 : Hid (g3 = R.rb → False) := by
   show _ → _
   have := HC.out.2.2.2.2.2.2.2.2.2.2.2.1
   omega
  have HGN4 : Hid (g4 = R.rb → False) := by
   show _ → _
   have := HC.out.2.2.2.2.2.2.2.2.2.2.2.2
   omega
  have hix : ∀ (a0 a1 a2 a3 a4 : Value) (w : World), (Instr.index 77 (.agg #[a0, a1, a2, a3, a4]) (.int .i64 2)).run Try.prog w = .ok a2 w := fun _ _ _ _ _ _ => by kernel_rfl
  clear hc h2
  go_wp2_with fail
  go_loopg [6, 11] 2 (fun gg s6 s11 wr => ∃ k : Nat, s11 = .int .i64 k ∧ k ≤ 2 ∧ 2 - k ≤ gg ∧ ((opsL 2).drop k).find? (isF R.l i) = opF R.l i 2 ∧ RdAt R wr i d ∧ Step (· = R.rb) w2 wr)
  case atStart => exact ⟨0, rfl, Nat.zero_le _, by omega, rfl, H2.out, Step.refl _ _⟩
  case round =>
   obtain ⟨k, rfl, hk, hgg, hfd, hr, hst⟩ := hrel
   have HFD := Lib.hid hfd
   have HR := Lib.hid hr
   have HST := Lib.hid hst
   have HS12 : Hid (Step (· = R.rb) w1 wr) := (HS2.out.mono (fun _ _ h => h.elim)).trans hst
   have p0 := HKP.out wr HS12.out
   clear hfd hr hst
   rcases (show k = 0 ∨ k = 1 ∨ k = 2 by omega) with rfl | rfl | rfl
   ·have f0 : wr.cell? ⟨g2, 0, none⟩ = some (.string ⟨#[61, 61]⟩) := HST.out.cell (HC.out.2.2.1) (fun e => HGN2.out e)
    go_wp2_with fail
    cases hb : isF R.l i [61, 61] with
    | true =>
     have HB := Lib.hid hb
     clear hb
     refine (is_yes R HL.out ⟨#[61, 61]⟩ _ i d HR.out (by decide) HB.out).mono ?_
     rintro e w4 ⟨rfl, hr4, h4⟩
     have HR4 := Lib.hid hr4
     have HS4 := Lib.hid h4
     clear hr4 h4 f0 p0
     go_wp2_with fail
     go_ret
     have ho : opF R.l i 2 = some [61, 61] := by
      rw [← HFD.out]; simp [opsL, HB.out]
     unfold OpPost
     rw [ho]
     exact ⟨rfl, HR4.out, ((HS1.out.mono (fun _ _ h => h.elim)).trans HS12.out).trans HS4.out⟩
    | false =>
     have HB := Lib.hid hb
     clear hb
     refine (is_no R HL.out ⟨#[61, 61]⟩ _ i d HR.out (by decide) HB.out).mono ?_
     rintro e w4 ⟨rfl, hr4, h4⟩
     have HR4 := Lib.hid hr4
     have HS4 := Lib.hid h4
     have HFD2 : Hid (((opsL 2).drop 1).find? (isF R.l i) = opF R.l i 2) := by
      show _ = _
      rw [← HFD.out]; simp [opsL, HB.out]
     clear hr4 h4 f0 p0
     go_wp2_with fail
     go_roundg (gk - 1)
     case rel => exact ⟨1, rfl, by omega, by omega, HFD2.out, HR4.out, HST.out.trans HS4.out⟩
     case measure => omega
   ·have f0 : wr.cell? ⟨g2, 1, none⟩ = some (.string ⟨#[60]⟩) := HST.out.cell (HC.out.2.2.2.1) (fun e => HGN2.out e)
    go_wp2_with fail
    cases hb : isF R.l i [60] with
    | true =>
     have HB := Lib.hid hb
     clear hb
     refine (is_yes R HL.out ⟨#[60]⟩ _ i d HR.out (by decide) HB.out).mono ?_
     rintro e w4 ⟨rfl, hr4, h4⟩
     have HR4 := Lib.hid hr4
     have HS4 := Lib.hid h4
     clear hr4 h4 f0 p0
     go_wp2_with fail
     go_ret
     have ho : opF R.l i 2 = some [60] := by
      rw [← HFD.out]; simp [opsL, HB.out]
     unfold OpPost
     rw [ho]
     exact ⟨rfl, HR4.out, ((HS1.out.mono (fun _ _ h => h.elim)).trans HS12.out).trans HS4.out⟩
    | false =>
     have HB := Lib.hid hb
     clear hb
     refine (is_no R HL.out ⟨#[60]⟩ _ i d HR.out (by decide) HB.out).mono ?_
     rintro e w4 ⟨rfl, hr4, h4⟩
     have HR4 := Lib.hid hr4
     have HS4 := Lib.hid h4
     have HFD2 : Hid (((opsL 2).drop 2).find? (isF R.l i) = opF R.l i 2) := by
      show _ = _
      rw [← HFD.out]; simp [opsL, HB.out]
     clear hr4 h4 f0 p0
     go_wp2_with fail
     go_roundg (gk - 1)
     case rel => exact ⟨2, rfl, by omega, by omega, HFD2.out, HR4.out, HST.out.trans HS4.out⟩
     case measure => omega
   ·clear p0
    go_wp2_with fail
    go_ret
    have ho : opF R.l i 2 = none := by rw [← HFD.out]; rfl
    unfold OpPost
    rw [ho]
    exact ⟨rfl, HR.out, (HS1.out.mono (fun _ _ h => h.elim)).trans HS12.out⟩
 ·clear hn
  go_enter Try.func26, Try.ntmps26
  go_upto_region 1 with fail
  rw [← HW1.out]
  go_wp2_with fail
  refine (levels_any w1).mono ?_
  rintro e w2 ⟨⟨g0, g1, g2, g3, g4, rfl, hc⟩, h2⟩
  have H2 := Lib.hid (H1.out.quiet h2)
  have HC := Lib.hid hc
  have HS2 := Lib.hid h2
  have hs12 := HS1.out.size
  have HGN0 : Hid (g0 = R.rb → False) := by
   show _ → _
   have := HC.out.2.2.2.2.2.2.2.2.1
   omega
  have HGN1 : Hid (g1 = R.rb → False) := by
   show _ → _
   have := HC.out.2.2.2.2.2.2.2.2.2.1
   omega
  have HGN2 : Hid (g2 = R.rb → False) := by
   show _ → _
   have := HC.out.2.2.2.2.2.2.2.2.2.2.1
   omega
  have HGN3 : Hid (g3 = R.rb → False) := by
   show _ → _
   have := HC.out.2.2.2.2.2.2.2.2.2.2.2.1
   omega
  have HGN4 : Hid (g4 = R.rb → False) := by
   show _ → _
   have := HC.out.2.2.2.2.2.2.2.2.2.2.2.2
   omega
  have hix : ∀ (a0 a1 a2 a3 a4 : Value) (w : World), (Instr.index 77 (.agg #[a0, a1, a2, a3, a4]) (.int .i64 3)).run Try.prog w = .ok a3 w := fun _ _ _ _ _ _ => by kernel_rfl
  clear hc h2
  go_wp2_with fail
  go_loopg [6, 11] 2 (fun gg s6 s11 wr => ∃ k : Nat, s11 = .int .i64 k ∧ k ≤ 2 ∧ 2 - k ≤ gg ∧ ((opsL 3).drop k).find? (isF R.l i) = opF R.l i 3 ∧ RdAt R wr i d ∧ Step (· = R.rb) w2 wr)
  case atStart => exact ⟨0, rfl, Nat.zero_le _, by omega, rfl, H2.out, Step.refl _ _⟩
  case round =>
   obtain ⟨k, rfl, hk, hgg, hfd, hr, hst⟩ := hrel
   have HFD := Lib.hid hfd
   have HR := Lib.hid hr
   have HST := Lib.hid hst
   have HS12 : Hid (Step (· = R.rb) w1 wr) := (HS2.out.mono (fun _ _ h => h.elim)).trans hst
   have p0 := HKP.out wr HS12.out
   clear hfd hr hst
   rcases (show k = 0 ∨ k = 1 ∨ k = 2 by omega) with rfl | rfl | rfl
   ·have f0 : wr.cell? ⟨g3, 0, none⟩ = some (.string ⟨#[43]⟩) := HST.out.cell (HC.out.2.2.2.2.1) (fun e => HGN3.out e)
    go_wp2_with fail
    cases hb : isF R.l i [43] with
    | true =>
     have HB := Lib.hid hb
     clear hb
     refine (is_yes R HL.out ⟨#[43]⟩ _ i d HR.out (by decide) HB.out).mono ?_
     rintro e w4 ⟨rfl, hr4, h4⟩
     have HR4 := Lib.hid hr4
     have HS4 := Lib.hid h4
     clear hr4 h4 f0 p0
     go_wp2_with fail
     go_ret
     have ho : opF R.l i 3 = some [43] := by
      rw [← HFD.out]; simp [opsL, HB.out]
     unfold OpPost
     rw [ho]
     exact ⟨rfl, HR4.out, ((HS1.out.mono (fun _ _ h => h.elim)).trans HS12.out).trans HS4.out⟩
    | false =>
     have HB := Lib.hid hb
     clear hb
     refine (is_no R HL.out ⟨#[43]⟩ _ i d HR.out (by decide) HB.out).mono ?_
     rintro e w4 ⟨rfl, hr4, h4⟩
     have HR4 := Lib.hid hr4
     have HS4 := Lib.hid h4
     have HFD2 : Hid (((opsL 3).drop 1).find? (isF R.l i) = opF R.l i 3) := by
      show _ = _
      rw [← HFD.out]; simp [opsL, HB.out]
     clear hr4 h4 f0 p0
     go_wp2_with fail
     go_roundg (gk - 1)
     case rel => exact ⟨1, rfl, by omega, by omega, HFD2.out, HR4.out, HST.out.trans HS4.out⟩
     case measure => omega
   ·have f0 : wr.cell? ⟨g3, 1, none⟩ = some (.string ⟨#[45]⟩) := HST.out.cell (HC.out.2.2.2.2.2.1) (fun e => HGN3.out e)
    go_wp2_with fail
    cases hb : isF R.l i [45] with
    | true =>
     have HB := Lib.hid hb
     clear hb
     refine (is_yes R HL.out ⟨#[45]⟩ _ i d HR.out (by decide) HB.out).mono ?_
     rintro e w4 ⟨rfl, hr4, h4⟩
     have HR4 := Lib.hid hr4
     have HS4 := Lib.hid h4
     clear hr4 h4 f0 p0
     go_wp2_with fail
     go_ret
     have ho : opF R.l i 3 = some [45] := by
      rw [← HFD.out]; simp [opsL, HB.out]
     unfold OpPost
     rw [ho]
     exact ⟨rfl, HR4.out, ((HS1.out.mono (fun _ _ h => h.elim)).trans HS12.out).trans HS4.out⟩
    | false =>
     have HB := Lib.hid hb
     clear hb
     refine (is_no R HL.out ⟨#[45]⟩ _ i d HR.out (by decide) HB.out).mono ?_
     rintro e w4 ⟨rfl, hr4, h4⟩
     have HR4 := Lib.hid hr4
     have HS4 := Lib.hid h4
     have HFD2 : Hid (((opsL 3).drop 2).find? (isF R.l i) = opF R.l i 3) := by
      show _ = _
      rw [← HFD.out]; simp [opsL, HB.out]
     clear hr4 h4 f0 p0
     go_wp2_with fail
     go_roundg (gk - 1)
     case rel => exact ⟨2, rfl, by omega, by omega, HFD2.out, HR4.out, HST.out.trans HS4.out⟩
     case measure => omega
   ·clear p0
    go_wp2_with fail
    go_ret
    have ho : opF R.l i 3 = none := by rw [← HFD.out]; rfl
    unfold OpPost
    rw [ho]
    exact ⟨rfl, HR.out, (HS1.out.mono (fun _ _ h => h.elim)).trans HS12.out⟩
 ·clear hn
  go_enter Try.func26, Try.ntmps26
  go_upto_region 1 with fail
  rw [← HW1.out]
  go_wp2_with fail
  refine (levels_any w1).mono ?_
  rintro e w2 ⟨⟨g0, g1, g2, g3, g4, rfl, hc⟩, h2⟩
  have H2 := Lib.hid (H1.out.quiet h2)
  have HC := Lib.hid hc
  have HS2 := Lib.hid h2
  have hs12 := HS1.out.size
  have HGN0 : Hid (g0 = R.rb → False) := by
   show _ → _
   have := HC.out.2.2.2.2.2.2.2.2.1
   omega
  have HGN1 : Hid (g1 = R.rb → False) := by
   show _ → _
   have := HC.out.2.2.2.2.2.2.2.2.2.1
   omega
  have HGN2 : Hid (g2 = R.rb → False) := by
   show _ → _
   have := HC.out.2.2.2.2.2.2.2.2.2.2.1
   omega
  have HGN3 : Hid (g3 = R.rb → False) := by
   show _ → _
   have := HC.out.2.2.2.2.2.2.2.2.2.2.2.1
   omega
  have HGN4 : Hid (g4 = R.rb → False) := by
   show _ → _
   have := HC.out.2.2.2.2.2.2.2.2.2.2.2.2
   omega
  have hix : ∀ (a0 a1 a2 a3 a4 : Value) (w : World), (Instr.index 77 (.agg #[a0, a1, a2, a3, a4]) (.int .i64 4)).run Try.prog w = .ok a4 w := fun _ _ _ _ _ _ => by kernel_rfl
  clear hc h2
  go_wp2_with fail
  go_loopg [6, 11] 2 (fun gg s6 s11 wr => ∃ k : Nat, s11 = .int .i64 k ∧ k ≤ 2 ∧ 2 - k ≤ gg ∧ ((opsL 4).drop k).find? (isF R.l i) = opF R.l i 4 ∧ RdAt R wr i d ∧ Step (· = R.rb) w2 wr)
  case atStart => exact ⟨0, rfl, Nat.zero_le _, by omega, rfl, H2.out, Step.refl _ _⟩
  case round =>
   obtain ⟨k, rfl, hk, hgg, hfd, hr, hst⟩ := hrel
   have HFD := Lib.hid hfd
   have HR := Lib.hid hr
   have HST := Lib.hid hst
   have HS12 : Hid (Step (· = R.rb) w1 wr) := (HS2.out.mono (fun _ _ h => h.elim)).trans hst
   have p0 := HKP.out wr HS12.out
   clear hfd hr hst
   rcases (show k = 0 ∨ k = 1 ∨ k = 2 by omega) with rfl | rfl | rfl
   ·have f0 : wr.cell? ⟨g4, 0, none⟩ = some (.string ⟨#[42]⟩) := HST.out.cell (HC.out.2.2.2.2.2.2.1) (fun e => HGN4.out e)
    go_wp2_with fail
    cases hb : isF R.l i [42] with
    | true =>
     have HB := Lib.hid hb
     clear hb
     refine (is_yes R HL.out ⟨#[42]⟩ _ i d HR.out (by decide) HB.out).mono ?_
     rintro e w4 ⟨rfl, hr4, h4⟩
     have HR4 := Lib.hid hr4
     have HS4 := Lib.hid h4
     clear hr4 h4 f0 p0
     go_wp2_with fail
     go_ret
     have ho : opF R.l i 4 = some [42] := by
      rw [← HFD.out]; simp [opsL, HB.out]
     unfold OpPost
     rw [ho]
     exact ⟨rfl, HR4.out, ((HS1.out.mono (fun _ _ h => h.elim)).trans HS12.out).trans HS4.out⟩
    | false =>
     have HB := Lib.hid hb
     clear hb
     refine (is_no R HL.out ⟨#[42]⟩ _ i d HR.out (by decide) HB.out).mono ?_
     rintro e w4 ⟨rfl, hr4, h4⟩
     have HR4 := Lib.hid hr4
     have HS4 := Lib.hid h4
     have HFD2 : Hid (((opsL 4).drop 1).find? (isF R.l i) = opF R.l i 4) := by
      show _ = _
      rw [← HFD.out]; simp [opsL, HB.out]
     clear hr4 h4 f0 p0
     go_wp2_with fail
     go_roundg (gk - 1)
     case rel => exact ⟨1, rfl, by omega, by omega, HFD2.out, HR4.out, HST.out.trans HS4.out⟩
     case measure => omega
   ·have f0 : wr.cell? ⟨g4, 1, none⟩ = some (.string ⟨#[47]⟩) := HST.out.cell (HC.out.2.2.2.2.2.2.2.1) (fun e => HGN4.out e)
    go_wp2_with fail
    cases hb : isF R.l i [47] with
    | true =>
     have HB := Lib.hid hb
     clear hb
     refine (is_yes R HL.out ⟨#[47]⟩ _ i d HR.out (by decide) HB.out).mono ?_
     rintro e w4 ⟨rfl, hr4, h4⟩
     have HR4 := Lib.hid hr4
     have HS4 := Lib.hid h4
     clear hr4 h4 f0 p0
     go_wp2_with fail
     go_ret
     have ho : opF R.l i 4 = some [47] := by
      rw [← HFD.out]; simp [opsL, HB.out]
     unfold OpPost
     rw [ho]
     exact ⟨rfl, HR4.out, ((HS1.out.mono (fun _ _ h => h.elim)).trans HS12.out).trans HS4.out⟩
    | false =>
     have HB := Lib.hid hb
     clear hb
     refine (is_no R HL.out ⟨#[47]⟩ _ i d HR.out (by decide) HB.out).mono ?_
     rintro e w4 ⟨rfl, hr4, h4⟩
     have HR4 := Lib.hid hr4
     have HS4 := Lib.hid h4
     have HFD2 : Hid (((opsL 4).drop 2).find? (isF R.l i) = opF R.l i 4) := by
      show _ = _
      rw [← HFD.out]; simp [opsL, HB.out]
     clear hr4 h4 f0 p0
     go_wp2_with fail
     go_roundg (gk - 1)
     case rel => exact ⟨2, rfl, by omega, by omega, HFD2.out, HR4.out, HST.out.trans HS4.out⟩
     case measure => omega
   ·clear p0
    go_wp2_with fail
    go_ret
    have ho : opF R.l i 4 = none := by rw [← HFD.out]; rfl
    unfold OpPost
    rw [ho]
    exact ⟨rfl, HR.out, (HS1.out.mono (fun _ _ h => h.elim)).trans HS12.out⟩
end Go.Proofs.Ytppekkbaoimpgaa
