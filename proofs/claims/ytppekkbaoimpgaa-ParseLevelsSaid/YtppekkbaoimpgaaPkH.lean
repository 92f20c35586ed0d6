/- Stm -/
import Derived.Test.YtppekkbaoimpgaaPkG
set_option maxRecDepth 100000
set_option maxHeartbeats 8000000
namespace Go.Proofs.Ytppekkbaoimpgaa
open Go.RowKit
theorem StP.mk {w : World} {P : Nat → Prop} {k : Int} {nm : ByteArray} {ty : Ty} {pl el : List Ex} {bs ls : List St} {ot : Bool} {l c : Int} {ct : List Value} {vp ve vb vl : Value} (h1 : nm.size ≤ 9223372036854775807) (ht : TyP w P ty ct) (hp : ExsQ w P pl vp) (he : ExsQ w P el ve) (hb : StsQ w P bs vb) (hl : StsQ w P ls vl) :
  StP w P (.mk k nm ty pl el bs ls ot l c) ([.int .i64 k, .string nm] ++ ct ++ [vp, ve, vb, vl, .bool ot, .int .i64 l, .int .i64 c]) := by
 obtain ⟨xp, p1, p2⟩ := hp
 obtain ⟨xe, e1, e2⟩ := he
 obtain ⟨xb, b1, b2⟩ := hb
 obtain ⟨xl, l1, l2⟩ := hl
 rw [StP]
 exact ⟨ct, vp, ve, vb, vl, xp, xe, xb, xl, rfl, h1, ht, p2, p1, e2, e1, b2, b1, l2, l1⟩
theorem stmt_step (f : Nat) (ihE : LevelOk f) (ihB : BlockOk f) (ihL : LetOk f) (ihS : SetOk f) : StmtOk (f + 1) := by
 intro R w i d hl h hd hno
 have HL := Lib.hid hl
 have IHE := Lib.hid ihE
 have IHB := Lib.hid ihB
 have IHL := Lib.hid ihL
 have IHS := Lib.hid ihS
 obtain ⟨r, hr⟩ : ∃ r, r = stmtR (f + 1) R.l i d := ⟨_, rfl⟩
 obtain ⟨tk, htk⟩ : ∃ tk, tk = tokA R.l i := ⟨_, rfl⟩
 have HRR : Hid (r = if isF R.l i [108, 101, 116] then (letR f R.l (i + 1) d).bind fun p j => .ok (stMk 1 p.1 p.2.1 [] p.2.2 [] [] false tk) j else if isF R.l i [105, 102] then (levelR f R.l (i + 1) d 0).bind fun x j => (blockR f R.l j d).bind fun b j => if isF R.l j [101, 108, 115, 101] then (blockR f R.l (j + 1) d).bind fun c j => .ok (stMk 4 noB noTy [] [x] b c true tk) j else .ok (stMk 4 noB noTy [] [x] b [] false tk) j else if isF R.l i [119, 104, 105, 108, 101] then (levelR f R.l (i + 1) d 0).bind fun x j => (blockR f R.l j d).bind fun b j => .ok (stMk 5 noB noTy [] [x] b [] false tk) j else if isF R.l i [114, 101, 116, 117, 114, 110] then (if isF R.l (i + 1) [59] then .ok [] (i + 1) else (levelR f R.l (i + 1) d 0).bind fun x j => .ok [x] j).bind fun e j => (needR R.l j [59]).bind fun _ j => .ok (stMk 6 noB noTy [] e [] [] false tk) j else if isF R.l i [97, 98, 111, 114, 116] then (needR R.l (i + 1) [59]).bind fun _ j => .ok (stMk 7 noB noTy [] [] [] [] false tk) j else if isF R.l i [123] then (blockR f R.l i d).bind fun b j => .ok (stMk 8 noB noTy [] [] b [] false tk) j else (setR f R.l i d).bind fun p j => .ok (stMk (if p.1.length = 0 then 3 else 2) noB noTy p.1 [p.2] [] [] false tk) j) := by show _ = _; rw [hr, stmtR, ← htk]
 rw [← hr] at hno ⊢
 have HNO := Lib.hid hno
 have hrlt := blk_lt h.blk
 obtain ⟨w1, hw1⟩ : ∃ w1 : World, w1 = (w.alloc (.cells #[.pointer (some ⟨R.rb, 0, none⟩)] 45)).alloc (.cells #[.int .i64 0, .string ⟨#[]⟩, .int .i64 0, .string ⟨#[]⟩, .string ⟨#[]⟩, .bool false, .slice none 0 0, .slice none 0 0, .int .i64 0, .int .i64 0, .slice none 0 0, .slice none 0 0, .slice none 0 0, .slice none 0 0, .bool false, .int .i64 0, .int .i64 0] 67) := ⟨_, rfl⟩
 have HS1 : Hid (Step (fun _ => False) w w1) := by show Step _ _ _; rw [hw1]; exact ((Step.refl _ _).alloc _).alloc _
 have HP1 : Hid (w1.heap[w.heap.size]? = some (.cells #[.pointer (some ⟨R.rb, 0, none⟩)] 45 (0, 0))) := by show _ = _; rw [hw1]; exact blk_alloc (blk_new _ _)
 have HN1 : Hid (w1.heap[w.heap.size + 1]? = some (.cells #[.int .i64 0, .string ⟨#[]⟩, .int .i64 0, .string ⟨#[]⟩, .string ⟨#[]⟩, .bool false, .slice none 0 0, .slice none 0 0, .int .i64 0, .int .i64 0, .slice none 0 0, .slice none 0 0, .slice none 0 0, .slice none 0 0, .bool false, .int .i64 0, .int .i64 0] 67 (0, 0))) := by show _ = _; rw [hw1]; exact blk_new2 _ _ _
 have HW1 := Lib.hid hw1
 have H1 := Lib.hid (h.quiet HS1.out)
 have HT := Lib.hid (show R.l[i]? = some tk by rw [htk]; exact h.tok)
 have p0 : w1.cell? ⟨w.heap.size, 0, none⟩ = some (.pointer (some ⟨R.rb, 0, none⟩)) := blk_cell HP1.out 0 _ rfl
 have HAT := Lib.hid (at_at R w1 i d tk H1.out HT.out)
 clear ihE ihB ihL ihS hl h hno hr hw1 htk
 go_enter Try.func64, Try.ntmps64
 go_upto_region 1 with fail
 rw [← HW1.out]
 go_wp2_with fail
 refine HAT.out.mono ?_
 rintro e w2 ⟨rfl, h2⟩
 have HS2 := Lib.hid (HS1.out.trans h2)
 have HP2 := Lib.hid (h2.keep HP1.out (fun h => h))
 have HN2 := Lib.hid (h2.keep HN1.out (fun h => h))
 have hn1 := blk_lt HN2.out
 obtain ⟨v1, hv1⟩ : ∃ v1 : World, v1 = w2.alloc (.cells #[.int .i64 0, .string noB, .int .i64 0, .string noB, .string noB, .bool false, .slice none 0 0, .slice none 0 0, .int .i64 0, .int .i64 0, .slice none 0 0, .slice none 0 0, .slice none 0 0, .slice none 0 0, .bool false, .int .i64 tk.line, .int .i64 tk.col] 67) := ⟨_, rfl⟩
 have HS23 : Hid (Step (fun _ => False) w2 v1) := by show Step _ _ _; rw [hv1]; exact (Step.refl _ _).alloc _
 have HB3 : Hid (v1.heap[w2.heap.size]? = some (.cells #[.int .i64 0, .string noB, .int .i64 0, .string noB, .string noB, .bool false, .slice none 0 0, .slice none 0 0, .int .i64 0, .int .i64 0, .slice none 0 0, .slice none 0 0, .slice none 0 0, .slice none 0 0, .bool false, .int .i64 tk.line, .int .i64 tk.col] 67 (0, 0))) := by show _ = _; rw [hv1]; exact blk_new _ _
 have HS3 := Lib.hid (HS2.out.trans HS23.out)
 have HP3 := Lib.hid (HS23.out.keep HP2.out (fun h => h))
 have HN3 := Lib.hid (HS23.out.keep HN2.out (fun h => h))
 have H3 := Lib.hid (H1.out.quiet (h2.trans HS23.out))
 have HW3 := Lib.hid hv1
 have hbv := blk_lt HB3.out
 clear h2 hv1 p0
 go_upto_region 3 with fail
 have hx3 : w2.alloc (.cells #[.int .i64 0, .string ⟨#[]⟩, .int .i64 0, .string ⟨#[]⟩, .string ⟨#[]⟩, .bool false, .slice none 0 0, .slice none 0 0, .int .i64 0, .int .i64 0, .slice none 0 0, .slice none 0 0, .slice none 0 0, .slice none 0 0, .bool false, .int .i64 tk.line, .int .i64 tk.col] 67) = v1 := HW3.out.symm
 rw [hx3]
 clear hx3
 obtain ⟨b, hb⟩ : ∃ b, b = w2.heap.size := ⟨_, rfl⟩
 rw [← hb] at HB3 hbv ⊢
 have hs1 := HS1.out.size
 have hrb : R.rb < b := by omega
 have hbw : w.heap.size + 1 < b := by omega
 have HBK : Hid (∀ X : World, Step (fun q => q = R.rb ∨ q = b) v1 X → Step (· = R.rb) w X) := by
  show ∀ X, _
  intro X hX
  exact (HS3.out.mono (fun _ _ h => h.elim)).then hX (fun q hq e => by omega)
 have HKP : Hid (∀ X : World, Step (fun q => q = R.rb ∨ q = b) v1 X → X.cell? ⟨w.heap.size, 0, none⟩ = some (.pointer (some ⟨R.rb, 0, none⟩))) := by
  show ∀ X, _
  intro X hX
  exact blk_cell (hX.keep HP3.out (by omega)) 0 _ rfl
 have HKN : Hid (∀ X : World, Step (fun q => q = R.rb ∨ q = b) v1 X → X.heap[w.heap.size + 1]? = some (.cells #[.int .i64 0, .string ⟨#[]⟩, .int .i64 0, .string ⟨#[]⟩, .string ⟨#[]⟩, .bool false, .slice none 0 0, .slice none 0 0, .int .i64 0, .int .i64 0, .slice none 0 0, .slice none 0 0, .slice none 0 0, .slice none 0 0, .bool false, .int .i64 0, .int .i64 0] 67 (0, 0))) := by
  show ∀ X, _
  intro X hX
  exact hX.keep HN3.out (by omega)
 have hsz3 := HS3.out.size
 obtain ⟨I0, hI0, -, hsv0⟩ := Sv.keep (R := R) (w1 := v1) (b := b) (d := d) (I := fun _ => True) (X := v1) (i := i) (o := .cells #[.int .i64 0, .string noB, .int .i64 0, .string noB, .string noB, .bool false, .slice none 0 0, .slice none 0 0, .int .i64 0, .int .i64 0, .slice none 0 0, .slice none 0 0, .slice none 0 0, .slice none 0 0, .bool false, .int .i64 tk.line, .int .i64 tk.col] 67 (0, 0)) ⟨H3.out, HB3.out, Step.refl _ _, trivial⟩ Stab.yes Stab.yes trivial
 have HI0 := Lib.hid hI0
 have HSV0 := Lib.hid hsv0
 clear hb hs1 hI0 hsv0
 have p0 := HKP.out v1 (Step.refl _ _)
 go_wp2_with fail
 cases hb21 : isF R.l i [108, 101, 116] with
 | true =>
  have HB21 := Lib.hid hb21
  clear hb21
  refine (is_yes R HL.out ⟨#[108, 101, 116]⟩ _ i d HSV0.out.rd (by decide) HB21.out).mono ?_
  rintro e v22 ⟨rfl, hr, hs⟩
  have HSV22 := Lib.hid (HSV0.out.read HI0.out hrb hr hs)
  clear hr hs p0
  have HE23 : Hid (r = (letR f R.l (i + 1) d).bind fun p j => .ok (stMk 1 p.1 p.2.1 [] p.2.2 [] [] false tk) j) := by show _ = _; rw [HRR.out, HB21.out, if_pos rfl]
  have p0 := HKP.out v22 HSV22.out.st
  go_wp2_with fail
  refine (IHL.out R _ (i + 1) d b tk HL.out HSV22.out.rd hd hrb HSV22.out.blk (fun e => HNO.out (by rw [HE23.out, e]; rfl))).mono ?_
  rintro e v24 hp
  have hp2 : CloPost R d b (LetLeft v22.heap.size b tk) (letR f R.l (i + 1) d) _ e v24 := hp
  cases hn : letR f R.l (i + 1) d with
  | out => exact absurd (by rw [HE23.out, hn]; rfl) HNO.out
  | err c ln col =>
   rw [hn] at hp2
   obtain ⟨rfl, hs⟩ := hp2
   exact ⟨rfl, PPost.of_err (c := c) (ln := ln) (col := col) (by rw [HE23.out, hn]; rfl) rfl (HBK.out _ (HSV22.out.st.trans hs))⟩
  | ok p24 j24 =>
   have HN24 := Lib.hid hn
   rw [hn] at hp2
   obtain ⟨rfl, hleft, hr, hs⟩ := hp2
   obtain ⟨ct, xe, ve, hblk, hz1, hty, hxe, hre⟩ := hleft
   obtain ⟨sa, sc, rfl⟩ := hre.parts
   obtain ⟨tk0, tn0, tl0, tm0, ta1, tn1, tc1, ta2, tn2, tc2, tl1, tc3, rfl⟩ := hty.parts
   have HNZ := Lib.hid hz1
   have HTQ : Hid (TyQ _ _ _ _) := ⟨_, rfl, hty⟩
   have HXQ : Hid (ExsQ _ _ _ _) := ⟨_, hre, hxe⟩
   clear hz1 hty hxe hre
   have HSVx : Hid (Sv R v1 b d I0 v24 j24 (.cells #[.int .i64 1, .string p24.1, .int .i64 tk0, .string tn0, .string tl0, .bool tm0, .slice ta1 tn1 tc1, .slice ta2 tn2 tc2, .int .i64 tl1, .int .i64 tc3, .slice none 0 0, .slice sa p24.2.2.length sc, .slice none 0 0, .slice none 0 0, .bool false, .int .i64 tk.line, .int .i64 tk.col] 67 (0, 0))) := HSV22.out.write HI0.out hr hblk hs
   have hsz := HSV22.out.st.size
   obtain ⟨I24, hI24, hF24, hsv24⟩ := HSVx.out.keep HI0.out (J := fun X => TyQ X (fun q => v1.heap.size ≤ q) p24.2.1 (.agg #[.int .i64 tk0, .string tn0, .string tl0, .bool tm0, .slice ta1 tn1 tc1, .slice ta2 tn2 tc2, .int .i64 tl1, .int .i64 tc3]) ∧ ExsQ X (fun q => v1.heap.size ≤ q) p24.2.2 (.slice sa p24.2.2.length sc)) (Stab.and (Stab.at tyQ_ok hrb (by omega) _ _) (Stab.at exsQ_ok hrb (by omega) _ _)) (⟨tyQ_ok.mono _ _ (fun q _ hq => by omega) HTQ.out, exsQ_ok.mono _ _ (fun q _ hq => by omega) HXQ.out⟩)
   have HI24 := Lib.hid hI24
   have HF24 := Lib.hid hF24
   have HSV24 := Lib.hid hsv24
   clear hI24 hF24 hsv24
   clear hn hr hs hp hblk p0
   have HE25 : Hid (r = .ok (stMk 1 p24.1 p24.2.1 [] p24.2.2 [] [] false tk) j24) := by show _ = _; rw [HE23.out, HN24.out]; rfl
   have p0 := HKP.out v24 HSV24.out.st
   go_upto_region 22 with fail
   obtain ⟨ct9, hct, hty⟩ := (HF24.out _ HSV24.out.inv).2.1
   obtain rfl : ct9 = [Value.int .i64 tk0, .string tn0, .string tl0, .bool tm0, .slice ta1 tn1 tc1, .slice ta2 tn2 tc2, .int .i64 tl1, .int .i64 tc3] := by simpa using hct.symm
   have HLD : Hid (∀ (jj : Nat) v, [Value.int .i64 1, .string p24.1, .int .i64 tk0, .string tn0, .string tl0, .bool tm0, .slice ta1 tn1 tc1, .slice ta2 tn2 tc2, .int .i64 tl1, .int .i64 tc3, .slice none 0 0, .slice sa p24.2.2.length sc, .slice none 0 0, .slice none 0 0, .bool false, .int .i64 tk.line, .int .i64 tk.col][jj]? = some v → v24.cell? ⟨b, 0 + jj, none⟩ = some v) := by
    show ∀ jj v, _
    intro jj v hv
    rw [Nat.zero_add]; exact blk_cell HSV24.out.blk jj v (by simpa using hv)
   have HONE : Hid (∀ u ∈ [Value.int .i64 1, .string p24.1, .int .i64 tk0, .string tn0, .string tl0, .bool tm0, .slice ta1 tn1 tc1, .slice ta2 tn2 tc2, .int .i64 tl1, .int .i64 tc3, .slice none 0 0, .slice sa p24.2.2.length sc, .slice none 0 0, .slice none 0 0, .bool false, .int .i64 tk.line, .int .i64 tk.col], u.oneCell' = true) := oneCells rfl
   have HNX := Lib.hid (HKN.out v24 HSV24.out.st)
   have HEX : Hid (StP v24 (fun q => v1.heap.size ≤ q) (stMk 1 p24.1 p24.2.1 [] p24.2.2 [] [] false tk) [.int .i64 1, .string p24.1, .int .i64 tk0, .string tn0, .string tl0, .bool tm0, .slice ta1 tn1 tc1, .slice ta2 tn2 tc2, .int .i64 tl1, .int .i64 tc3, .slice none 0 0, .slice sa p24.2.2.length sc, .slice none 0 0, .slice none 0 0, .bool false, .int .i64 tk.line, .int .i64 tk.col]) := StP.mk HNZ.out hty (ExsQ.nil _ _) (HF24.out _ HSV24.out.inv).2.2 (StsQ.nil _ _) (StsQ.nil _ _)
   clear p0
   go_wp2_with (first
    | (refine wpList_load_whole rfl 67 (.tmp 3) rfl b 0 rfl [Value.int .i64 1, .string p24.1, .int .i64 tk0, .string tn0, .string tl0, .bool tm0, .slice ta1 tn1 tc1, .slice ta2 tn2 tc2, .int .i64 tl1, .int .i64 tc3, .slice none 0 0, .slice sa p24.2.2.length sc, .slice none 0 0, .slice none 0 0, .bool false, .int .i64 tk.line, .int .i64 tk.col] _ HLD.out Try.underlying67 rfl Try.sizeStmt ?_)
    | (refine wpList_store_part (w := v24) rfl 67 (.tmp 2) (.tmp 83) rfl (w.heap.size + 1) 0 67 _ [Value.int .i64 1, .string p24.1, .int .i64 tk0, .string tn0, .string tl0, .bool tm0, .slice ta1 tn1 tc1, .slice ta2 tn2 tc2, .int .i64 tl1, .int .i64 tc3, .slice none 0 0, .slice sa p24.2.2.length sc, .slice none 0 0, .slice none 0 0, .bool false, .int .i64 tk.line, .int .i64 tk.col] rfl rfl HNX.out Try.sizeStmt (Nat.le_of_eq rfl) HONE.out ?_
       intro wR hbR hstR))
   have hbR' : wR.heap[w.heap.size + 1]? = some (.cells [Value.int .i64 1, .string p24.1, .int .i64 tk0, .string tn0, .string tl0, .bool tm0, .slice ta1 tn1 tc1, .slice ta2 tn2 tc2, .int .i64 tl1, .int .i64 tc3, .slice none 0 0, .slice sa p24.2.2.length sc, .slice none 0 0, .slice none 0 0, .bool false, .int .i64 tk.line, .int .i64 tk.col].toArray 67 (0, 0)) := hbR
   refine bodyPost_ret (results_cellB rfl _ (w.heap.size + 1) 67 _ _ rfl hbR' Try.underlying67 rfl Try.sizeStmt) rfl ?_
   refine PPost.of_ok (a := stMk 1 p24.1 p24.2.1 [] p24.2.2 [] [] false tk) (j := j24) HE25.out rfl ⟨_, rfl, StP.mono (fun q _ hq => by omega) _ _ (StP.step hstR (fun q hq e => by omega) _ _ HEX.out)⟩ (HSV24.out.rd.step hstR (fun q hq e => by omega)) ((HBK.out _ HSV24.out.st).then hstR (fun q hq e => by omega))
 | false =>
  have HB21 := Lib.hid hb21
  clear hb21
  refine (is_no R HL.out ⟨#[108, 101, 116]⟩ _ i d HSV0.out.rd (by decide) HB21.out).mono ?_
  rintro e v26 ⟨rfl, hr, hs⟩
  have HSV26 := Lib.hid (HSV0.out.read HI0.out hrb hr hs)
  clear hr hs p0
  have HE27 : Hid (r = if isF R.l i [105, 102] then (levelR f R.l (i + 1) d 0).bind fun x j => (blockR f R.l j d).bind fun b j => if isF R.l j [101, 108, 115, 101] then (blockR f R.l (j + 1) d).bind fun c j => .ok (stMk 4 noB noTy [] [x] b c true tk) j else .ok (stMk 4 noB noTy [] [x] b [] false tk) j else if isF R.l i [119, 104, 105, 108, 101] then (levelR f R.l (i + 1) d 0).bind fun x j => (blockR f R.l j d).bind fun b j => .ok (stMk 5 noB noTy [] [x] b [] false tk) j else if isF R.l i [114, 101, 116, 117, 114, 110] then (if isF R.l (i + 1) [59] then .ok [] (i + 1) else (levelR f R.l (i + 1) d 0).bind fun x j => .ok [x] j).bind fun e j => (needR R.l j [59]).bind fun _ j => .ok (stMk 6 noB noTy [] e [] [] false tk) j else if isF R.l i [97, 98, 111, 114, 116] then (needR R.l (i + 1) [59]).bind fun _ j => .ok (stMk 7 noB noTy [] [] [] [] false tk) j else if isF R.l i [123] then (blockR f R.l i d).bind fun b j => .ok (stMk 8 noB noTy [] [] b [] false tk) j else (setR f R.l i d).bind fun p j => .ok (stMk (if p.1.length = 0 then 3 else 2) noB noTy p.1 [p.2] [] [] false tk) j) := by show _ = _; rw [HRR.out, HB21.out, if_neg (by decide)]
  have p0 := HKP.out v26 HSV26.out.st
  go_wp2_with fail
  cases hb28 : isF R.l i [105, 102] with
  | true =>
   have HB28 := Lib.hid hb28
   clear hb28
   refine (is_yes R HL.out ⟨#[105, 102]⟩ _ i d HSV26.out.rd (by decide) HB28.out).mono ?_
   rintro e v29 ⟨rfl, hr, hs⟩
   have HSV29 := Lib.hid (HSV26.out.read HI0.out hrb hr hs)
   clear hr hs p0
   have HE30 : Hid (r = (levelR f R.l (i + 1) d 0).bind fun x j => (blockR f R.l j d).bind fun b j => if isF R.l j [101, 108, 115, 101] then (blockR f R.l (j + 1) d).bind fun c j => .ok (stMk 4 noB noTy [] [x] b c true tk) j else .ok (stMk 4 noB noTy [] [x] b [] false tk) j) := by show _ = _; rw [HE27.out, HB28.out, if_pos rfl]
   have p0 := HKP.out v29 HSV29.out.st
   go_upto_region 6 with fail
   clear p0
   have HFL : Hid (StbAll R b v1.heap.size [(fun _ u => u = (.agg #[.pointer (some ⟨R.rb, 0, none⟩)])), (fun X u => ∃ a j, levelR f R.l (i + 1) d 0 = .ok a j ∧ ExQ X (fun q => v1.heap.size ≤ q) a u), (fun X u => ∃ a j, levelR f R.l (i + 1) d 0 = .ok a j ∧ ExsQ X (fun q => v1.heap.size ≤ q) [a] u), (fun _ u => u = (.agg #[.pointer (some ⟨R.rb, 0, none⟩)])), (fun X u => ∃ a j c k, levelR f R.l (i + 1) d 0 = .ok a j ∧ blockR f R.l j d = .ok c k ∧ StsQ X (fun q => v1.heap.size ≤ q) c u), (fun _ u => u = (.pointer (some ⟨b, 0, none⟩))), Tru, (fun _ u => u = (.pointer (some ⟨b, 11, none⟩))), Tru, (fun _ u => u = (.pointer (some ⟨b, 12, none⟩))), Tru]) := (StbAll.cons (Stb.const _) (StbAll.cons (Stb.ex fun _ => Stb.ex fun _ => Stb.and (Stb.at exQ_ok hrb (by omega) _)) (StbAll.cons (Stb.ex fun _ => Stb.ex fun _ => Stb.and (Stb.at exsQ_ok hrb (by omega) _)) (StbAll.cons (Stb.const _) (StbAll.cons (Stb.ex fun _ => Stb.ex fun _ => Stb.ex fun _ => Stb.ex fun _ => Stb.and (Stb.and (Stb.at stsQ_ok hrb (by omega) _))) (StbAll.cons (Stb.const _) (StbAll.cons Stb.tru (StbAll.cons (Stb.const _) (StbAll.cons Stb.tru (StbAll.cons (Stb.const _) (StbAll.cons Stb.tru StbAll.nil)))))))))))
   go_cut [] (fun wx => ∃ (a : Ex) (j : Nat) (c : List St) (k : Nat) (u2 : Value) (u4 : Value), levelR f R.l (i + 1) d 0 = .ok a j ∧ blockR f R.l j d = .ok c k ∧ Sv R v1 b d I0 wx k (.cells #[.int .i64 4, .string noB, .int .i64 0, .string noB, .string noB, .bool false, .slice none 0 0, .slice none 0 0, .int .i64 0, .int .i64 0, .slice none 0 0, u2, u4, .slice none 0 0, .bool false, .int .i64 tk.line, .int .i64 tk.col] 67 (0, 0)) ∧ ExsQ wx (fun q => v1.heap.size ≤ q) [a] u2 ∧ StsQ wx (fun q => v1.heap.size ≤ q) c u4)
   case first =>
    obtain ⟨Jx, hJx⟩ : ∃ Jx : (Nat → Bool) → (Nat → Value) → World → Prop, Jx = RJ R v1 b d I0 (fun (L : Nat → Bool) (ix : Nat) => cond (L 4) (∃ a j c, levelR f R.l (i + 1) d 0 = .ok a j ∧ blockR f R.l j d = .ok c ix) (cond (L 1) (∃ a, levelR f R.l (i + 1) d 0 = .ok a ix) (ix = (i + 1)))) (fun (L : Nat → Bool) (V : Nat → Value) => Obj.cells #[cond (L 6) (.int .i64 4) (.int .i64 0), .string noB, .int .i64 0, .string noB, .string noB, .bool false, .slice none 0 0, .slice none 0 0, .int .i64 0, .int .i64 0, .slice none 0 0, cond (L 8) (V 2) (.slice none 0 0), cond (L 10) (V 4) (.slice none 0 0), .slice none 0 0, .bool false, .int .i64 tk.line, .int .i64 tk.col] 67 (0, 0)) [(fun _ u => u = (.agg #[.pointer (some ⟨R.rb, 0, none⟩)])), (fun X u => ∃ a j, levelR f R.l (i + 1) d 0 = .ok a j ∧ ExQ X (fun q => v1.heap.size ≤ q) a u), (fun X u => ∃ a j, levelR f R.l (i + 1) d 0 = .ok a j ∧ ExsQ X (fun q => v1.heap.size ≤ q) [a] u), (fun _ u => u = (.agg #[.pointer (some ⟨R.rb, 0, none⟩)])), (fun X u => ∃ a j c k, levelR f R.l (i + 1) d 0 = .ok a j ∧ blockR f R.l j d = .ok c k ∧ StsQ X (fun q => v1.heap.size ≤ q) c u), (fun _ u => u = (.pointer (some ⟨b, 0, none⟩))), Tru, (fun _ u => u = (.pointer (some ⟨b, 11, none⟩))), Tru, (fun _ u => u = (.pointer (some ⟨b, 12, none⟩))), Tru] [(4, 1), (8, 2), (10, 4)] := ⟨_, rfl⟩
    have HJX := Lib.hid hJx
    clear hJx
    refine wp_region_relyD (by kernel_rfl) (Jx) 11 rfl (by kernel_rfl) (by kernel_rfl) (by kernel_rfl) (by kernel_rfl) ?h0 ?hs ?hdone
    case h0 => rw [HJX.out]; exact RJ.zero HI0.out HSV29.out ((Step.refl _ _).drew) rfl
    case hs =>
     refine ⟨?_, ?_, ?_, ?_, ?_, ?_, ?_, ?_, ?_, ?_, ?_, trivial⟩
     ·intro L V X a ev evo hdf hL hdep hJ
      rw [HJX.out] at hJ
      have o1 := evo 1 rfl
      change a.tmps[1]?.getD undef = .pointer (some ⟨w.heap.size, 0, none⟩) at o1
      obtain ⟨i9, hv9, -⟩ := id hJ.sv
      have p0 := HKP.out X hv9.st
      clear hv9
      go_simp
      exact ⟨_, rfl, by rw [HJX.out]; exact hJ.up 0 _ rfl (np rfl) rfl rfl⟩
     ·intro L V X a ev evo hdf hL hdep hJ
      rw [HJX.out] at hJ
      have e20 := (ev 0 20 rfl (hdep 0 rfl)).trans (hJ.fs 0 (hdep 0 rfl))
      obtain ⟨i9, hv9, hr9⟩ := id hJ.sv
      rw [hJ.false_of 4 1 (by decide) hL, hL] at hr9
      have hr9 : i9 = (i + 1) := hr9
      subst hr9
      go_simp
      refine (expr_any f IHE.out R X (i + 1) d HL.out hv9.rd hd (fun e => HNO.out (by rw [HE30.out, e]; rfl))).mono ?_
      intro e wq hp
      cases hx : levelR f R.l (i + 1) d 0 with
      | out => exact absurd hx (fun e => HNO.out (by rw [HE30.out, e]; rfl))
      | err cc ln col =>
       rw [hx] at hp
       obtain ⟨rfl, hs⟩ := hp
       exact ⟨hdf, PPost.of_err (c := cc) (ln := ln) (col := col) (by rw [HE30.out, hx]; rfl) rfl (HBK.out _ (hv9.err hs))⟩
      | ok c9 k9 =>
       rw [hx] at hp
       obtain ⟨⟨v, rfl, hv⟩, hr, hs⟩ := hp
       exact ⟨_, rfl, by rw [HJX.out]; exact hJ.call HI0.out HFL.out hrb 1 v hr hs ⟨_, _, hx, exQ_ok.mono _ _ (fun q _ hq => by have := hv9.st.size; omega) (show ExQ _ _ _ _ from hv)⟩ (np rfl) rfl (by show cond (L 4) _ _; rw [hJ.false_of 4 1 (by decide) hL]; exact ⟨_, hx⟩)⟩
     ·intro L V X a ev evo hdf hL hdep hJ
      rw [HJX.out] at hJ
      obtain ⟨a9, j9, h9, cs9, hV9, hx9⟩ := hJ.fs 1 (hdep 1 rfl)
      obtain ⟨i9, hv9, -⟩ := id hJ.sv
      obtain ⟨k0, nm0, v0, mu0, a1, n1, c1, a2, n2, c2, a3, n3, c3, l0, c0, rfl⟩ := hx9.parts
      have e21 := (ev 1 21 rfl (hdep 1 rfl)).trans hV9
      go_simp
      exact ⟨_, rfl, by rw [HJX.out]; exact (hJ.quiet HI0.out HFL.out ((Step.refl _ _).alloc _)).up 2 _ ⟨a9, j9, h9, ExsQ.single (ExP.step ((Step.refl (fun _ => False) _).alloc _) (fun _ _ h => h) _ _ hx9) (blk_new _ _) hv9.st.size⟩ (np rfl) (by have e8 := hJ.false_of 8 2 (by decide) hL; change Obj.cells #[cond (L 6) (.int .i64 4) (.int .i64 0), .string noB, .int .i64 0, .string noB, .string noB, .bool false, .slice none 0 0, .slice none 0 0, .int .i64 0, .int .i64 0, .slice none 0 0, cond (L 8) (_) (.slice none 0 0), cond (L 10) (V 4) (.slice none 0 0), .slice none 0 0, .bool false, .int .i64 tk.line, .int .i64 tk.col] 67 (0, 0) = Obj.cells #[cond (L 6) (.int .i64 4) (.int .i64 0), .string noB, .int .i64 0, .string noB, .string noB, .bool false, .slice none 0 0, .slice none 0 0, .int .i64 0, .int .i64 0, .slice none 0 0, cond (L 8) (V 2) (.slice none 0 0), cond (L 10) (V 4) (.slice none 0 0), .slice none 0 0, .bool false, .int .i64 tk.line, .int .i64 tk.col] 67 (0, 0); rw [e8]; rfl) rfl⟩
     ·intro L V X a ev evo hdf hL hdep hJ
      rw [HJX.out] at hJ
      have o1 := evo 1 rfl
      change a.tmps[1]?.getD undef = .pointer (some ⟨w.heap.size, 0, none⟩) at o1
      obtain ⟨i9, hv9, -⟩ := id hJ.sv
      have p0 := HKP.out X hv9.st
      clear hv9
      go_simp
      exact ⟨_, rfl, by rw [HJX.out]; exact hJ.up 3 _ rfl (np rfl) rfl rfl⟩
     ·intro L V X a ev evo hdf hL hdep hJ
      rw [HJX.out] at hJ
      have e23 := (ev 3 23 rfl (hdep 3 rfl)).trans (hJ.fs 3 (hdep 3 rfl))
      obtain ⟨i9, hv9, hr9⟩ := id hJ.sv
      rw [hL, hdep 1 rfl] at hr9
      obtain ⟨a9, h9⟩ : ∃ a, levelR f R.l (i + 1) d 0 = .ok a i9 := hr9
      go_simp
      refine (IHB.out R X i9 d HL.out hv9.rd hd (fun e => HNO.out (by rw [HE30.out, h9, Res.bind_ok]; rw [e]; rfl))).mono ?_
      intro e wq hp
      cases hx : blockR f R.l i9 d with
      | out => exact absurd hx (fun e => HNO.out (by rw [HE30.out, h9, Res.bind_ok]; rw [e]; rfl))
      | err cc ln col =>
       rw [hx] at hp
       obtain ⟨rfl, hs⟩ := hp
       exact ⟨hdf, PPost.of_err (c := cc) (ln := ln) (col := col) (by rw [HE30.out, h9, Res.bind_ok]; rw [hx]; rfl) rfl (HBK.out _ (hv9.err hs))⟩
      | ok c9 k9 =>
       rw [hx] at hp
       obtain ⟨⟨v, rfl, hv⟩, hr, hs⟩ := hp
       exact ⟨_, rfl, by rw [HJX.out]; exact hJ.call HI0.out HFL.out hrb 4 v hr hs ⟨_, _, _, _, h9, hx, stsQ_ok.mono _ _ (fun q _ hq => by have := hv9.st.size; omega) (show StsQ _ _ _ _ from hv)⟩ (mc ⟨fun _ => hdep 1 rfl, (mc ⟨nd (by decide), (mc ⟨nd (by decide), (fun _ h => nomatch h)⟩)⟩)⟩) (by have e10 := hJ.false_of 10 4 (by decide) hL; change Obj.cells #[cond (L 6) (.int .i64 4) (.int .i64 0), .string noB, .int .i64 0, .string noB, .string noB, .bool false, .slice none 0 0, .slice none 0 0, .int .i64 0, .int .i64 0, .slice none 0 0, cond (L 8) (V 2) (.slice none 0 0), cond (L 10) (_) (.slice none 0 0), .slice none 0 0, .bool false, .int .i64 tk.line, .int .i64 tk.col] 67 (0, 0) = Obj.cells #[cond (L 6) (.int .i64 4) (.int .i64 0), .string noB, .int .i64 0, .string noB, .string noB, .bool false, .slice none 0 0, .slice none 0 0, .int .i64 0, .int .i64 0, .slice none 0 0, cond (L 8) (V 2) (.slice none 0 0), cond (L 10) (V 4) (.slice none 0 0), .slice none 0 0, .bool false, .int .i64 tk.line, .int .i64 tk.col] 67 (0, 0); rw [e10]; rfl) ⟨_, _, _, h9, hx⟩⟩
     ·intro L V X a ev evo hdf hL hdep hJ
      rw [HJX.out] at hJ
      have o3 := evo 3 rfl
      change a.tmps[3]?.getD undef = .pointer (some ⟨b, 0, none⟩) at o3
      go_simp
      exact ⟨_, rfl, by rw [HJX.out]; exact hJ.up 5 _ rfl (np rfl) rfl rfl⟩
     ·intro L V X a ev evo hdf hL hdep hJ
      rw [HJX.out] at hJ
      have e25 := (ev 5 25 rfl (hdep 5 rfl)).trans (hJ.fs 5 (hdep 5 rfl))
      obtain ⟨i9, hv9, -⟩ := id hJ.sv
      have hb9 := hv9.blk
      have ecell : ∃ v, X.cell? ⟨b, 0, none⟩ = some v := ⟨_, blk_cell hb9 0 _ rfl⟩
      obtain ⟨vc, hvc⟩ := ecell
      have hfz := blk_free hb9 0
      go_simp
      exact ⟨undef, by rw [HJX.out]; exact hJ.put HI0.out HFL.out hrb 6 undef ((Step.refl _ _).setCell _ _ (fun _ => rfl)) (blk_set hb9 0 (.int .i64 4)) rfl (np rfl) rfl⟩
     ·intro L V X a ev evo hdf hL hdep hJ
      rw [HJX.out] at hJ
      have o3 := evo 3 rfl
      change a.tmps[3]?.getD undef = .pointer (some ⟨b, 0, none⟩) at o3
      go_simp
      exact ⟨_, rfl, by rw [HJX.out]; exact hJ.up 7 _ rfl (np rfl) rfl rfl⟩
     ·intro L V X a ev evo hdf hL hdep hJ
      rw [HJX.out] at hJ
      have e26 := (ev 7 26 rfl (hdep 7 rfl)).trans (hJ.fs 7 (hdep 7 rfl))
      obtain ⟨i9, hv9, -⟩ := id hJ.sv
      have hb9 := hv9.blk
      obtain ⟨a8, j8, h8, xs8, hr8, -⟩ := hJ.fs 2 (hdep 2 rfl)
      obtain ⟨g8, n8, hV⟩ := hr8.parts
      have hV : V 2 = .slice g8 1 n8 := hV
      have e22 := (ev 2 22 rfl (hdep 2 rfl)).trans hV
      have ecell : ∃ v, X.cell? ⟨b, 11, none⟩ = some v := ⟨_, blk_cell hb9 11 _ rfl⟩
      obtain ⟨vc, hvc⟩ := ecell
      have hfz := blk_free hb9 11
      have hx : (X.setCell ⟨b, 11, none⟩ (V 2)).heap[b]? = _ := blk_set hb9 11 (V 2)
      rw [hV] at hx
      have hxx := hx
      go_simp
      exact ⟨undef, by rw [HJX.out]; exact hJ.put HI0.out HFL.out hrb 8 undef ((Step.refl _ _).setCell _ _ (fun _ => rfl)) (by rw [← hV]; exact blk_set hb9 11 (V 2)) rfl (mc ⟨nd (by decide), (mc ⟨fun _ => hdep 2 rfl, (mc ⟨nd (by decide), (fun _ h => nomatch h)⟩)⟩)⟩) rfl⟩
     ·intro L V X a ev evo hdf hL hdep hJ
      rw [HJX.out] at hJ
      have o3 := evo 3 rfl
      change a.tmps[3]?.getD undef = .pointer (some ⟨b, 0, none⟩) at o3
      go_simp
      exact ⟨_, rfl, by rw [HJX.out]; exact hJ.up 9 _ rfl (np rfl) rfl rfl⟩
     ·intro L V X a ev evo hdf hL hdep hJ
      rw [HJX.out] at hJ
      have e27 := (ev 9 27 rfl (hdep 9 rfl)).trans (hJ.fs 9 (hdep 9 rfl))
      obtain ⟨i9, hv9, -⟩ := id hJ.sv
      have hb9 := hv9.blk
      obtain ⟨a8, j8, c8, k8, h8, h7, xs8, hr8, -⟩ := hJ.fs 4 (hdep 4 rfl)
      obtain ⟨g8, n8, hV⟩ := hr8.parts
      have e24 := (ev 4 24 rfl (hdep 4 rfl)).trans hV
      have ecell : ∃ v, X.cell? ⟨b, 12, none⟩ = some v := ⟨_, blk_cell hb9 12 _ rfl⟩
      obtain ⟨vc, hvc⟩ := ecell
      have hfz := blk_free hb9 12
      have hx : (X.setCell ⟨b, 12, none⟩ (V 4)).heap[b]? = _ := blk_set hb9 12 (V 4)
      rw [hV] at hx
      have hxx := hx
      go_simp
      exact ⟨undef, by rw [HJX.out]; exact hJ.put HI0.out HFL.out hrb 10 undef ((Step.refl _ _).setCell _ _ (fun _ => rfl)) (by rw [← hV]; exact blk_set hb9 12 (V 4)) rfl (mc ⟨nd (by decide), (mc ⟨nd (by decide), (mc ⟨fun _ => hdep 4 rfl, (fun _ h => nomatch h)⟩)⟩)⟩) rfl⟩
    case hdone =>
     intro L V X hall hJ
     rw [HJX.out] at hJ
     obtain ⟨i9, hv9, hr9⟩ := hJ.sv
     rw [hall 4 (by decide)] at hr9
     obtain ⟨a9, j9, c9, h91, h92⟩ : ∃ a j c, levelR f R.l (i + 1) d 0 = .ok a j ∧ blockR f R.l j d = .ok c i9 := hr9
     have f2 := hJ.fs 2 (hall 2 (by decide))
     obtain ⟨a8, j8, h81, g2⟩ := f2
     rw [h91] at h81
     cases h81
     have f4 := hJ.fs 4 (hall 4 (by decide))
     obtain ⟨a8, j8, c8, k8, h81, h82, g4⟩ := f4
     rw [h91] at h81
     cases h81
     rw [h92] at h82
     cases h82
     have hv9 : Sv R v1 b d I0 X i9 (Obj.cells #[.int .i64 4, .string noB, .int .i64 0, .string noB, .string noB, .bool false, .slice none 0 0, .slice none 0 0, .int .i64 0, .int .i64 0, .slice none 0 0, V 2, V 4, .slice none 0 0, .bool false, .int .i64 tk.line, .int .i64 tk.col] 67 (0, 0)) := by
      have h := hv9
      rw [hall 6 (by decide), hall 8 (by decide), hall 10 (by decide)] at h
      exact h
     have HEND := Lib.hid hv9
     have HG2 := Lib.hid g2
     have HG4 := Lib.hid g4
     have H91 := Lib.hid h91
     have H92 := Lib.hid h92
     rw [show List.range 11 = [0, 1, 2, 3, 4, 5, 6, 7, 8, 9, 10] from rfl]
     simp only [putF, dstO, List.getElem?_toArray, List.getElem?_cons_zero, List.getElem?_cons_succ, Option.bind_some, Act.put, List.setIfInBounds_toArray, List.set_cons_zero, List.set_cons_succ]
     clear hJ hall hv9 h91 h92 g2 g4
     go_wp2_with fail
     go_meet
     case rel => exact ⟨a9, j9, c9, i9, V 2, V 4, H91.out, H92.out, HEND.out, HG2.out, HG4.out⟩
   case rest =>
    obtain ⟨a31, j31, c31, k31, u2, u4, hn1, hn2, hsv, hg2, hg4⟩ := hcut
    obtain ⟨w31, rfl⟩ : ∃ w31 : World, w31 = wc := ⟨_, rfl⟩
    obtain ⟨ea, ec, rfl⟩ := ExsQ.parts hg2
    obtain ⟨ba, bc, rfl⟩ := StsQ.parts hg4
    have HSVx := Lib.hid hsv
    have HN1 := Lib.hid hn1
    have HN2 := Lib.hid hn2
    obtain ⟨I31, hI31, hF31, hsv31⟩ := HSVx.out.keep HI0.out (J := fun X => ExsQ X (fun q => v1.heap.size ≤ q) [a31] (.slice ea 1 ec) ∧ StsQ X (fun q => v1.heap.size ≤ q) c31 (.slice ba c31.length bc)) (Stab.and (Stab.at exsQ_ok hrb (by omega) _ _) (Stab.at stsQ_ok hrb (by omega) _ _)) (⟨hg2, hg4⟩)
    have HI31 := Lib.hid hI31
    have HF31 := Lib.hid hF31
    have HSV31 := Lib.hid hsv31
    clear hI31 hF31 hsv31
    clear hn1 hn2 hsv hg2 hg4
    have HE32 : Hid (r = if isF R.l k31 [101, 108, 115, 101] then (blockR f R.l (k31 + 1) d).bind fun c j => .ok (stMk 4 noB noTy [] [a31] c31 c true tk) j else .ok (stMk 4 noB noTy [] [a31] c31 [] false tk) k31) := by show _ = _; rw [HE30.out, HN1.out, Res.bind_ok]; rw [HN2.out]; rfl
    have p0 := HKP.out w31 HSV31.out.st
    go_wp2_with fail
    cases hb33 : isF R.l k31 [101, 108, 115, 101] with
    | true =>
     have HB33 := Lib.hid hb33
     clear hb33
     refine (is_yes R HL.out ⟨#[101, 108, 115, 101]⟩ _ k31 d HSV31.out.rd (by decide) HB33.out).mono ?_
     rintro e v34 ⟨rfl, hr, hs⟩
     have HSV34 := Lib.hid (HSV31.out.read HI31.out hrb hr hs)
     clear hr hs p0
     have HE35 : Hid (r = (blockR f R.l (k31 + 1) d).bind fun c j => .ok (stMk 4 noB noTy [] [a31] c31 c true tk) j) := by show _ = _; rw [HE32.out, HB33.out, if_pos rfl]
     have p0 := HKP.out v34 HSV34.out.st
     have bt14 := blk_cell HSV34.out.blk 14 _ rfl
     have bz14 := blk_free HSV34.out.blk 14
     obtain ⟨v36, hv36⟩ : ∃ v36 : World, v36 = (v34.setCell ⟨b, 14, none⟩ (.bool true)) := ⟨_, rfl⟩
     have HSV36 : Hid (Sv R v1 b d I31 v36 (k31 + 1) (.cells #[.int .i64 4, .string noB, .int .i64 0, .string noB, .string noB, .bool false, .slice none 0 0, .slice none 0 0, .int .i64 0, .int .i64 0, .slice none 0 0, .slice ea 1 ec, .slice ba c31.length bc, .slice none 0 0, .bool true, .int .i64 tk.line, .int .i64 tk.col] 67 (0, 0))) := by show Sv _ _ _ _ _ _ _ _; rw [hv36]; exact (HSV34.out.set HI31.out hrb 14 (.bool true))
     go_upto_region 9 with fail
     rw [← hv36]
     clear hv36 p0 bt14 bz14
     have p0 := HKP.out v36 HSV36.out.st
     go_wp2_with fail
     refine (IHB.out R _ (k31 + 1) d HL.out HSV36.out.rd hd (fun e => HNO.out (by rw [HE35.out, e]; rfl))).mono ?_
     rintro e v37 hp
     have hp2 : PPost R d (StsV v36.heap.size) (blockR f R.l (k31 + 1) d) _ e v37 := hp
     cases hn : blockR f R.l (k31 + 1) d with
     | out => exact absurd (by rw [HE35.out, hn]; rfl) HNO.out
     | err c ln col =>
      rw [hn] at hp2
      obtain ⟨rfl, hs⟩ := hp2
      refine ⟨rfl, PPost.of_err (c := c) (ln := ln) (col := col) (by rw [HE35.out, hn]; rfl) rfl (HBK.out _ (HSV36.out.err hs))⟩
     | ok a37 j37 =>
      have HN37 := Lib.hid hn
      rw [hn] at hp2
      obtain ⟨⟨v, rfl, hv⟩, hr, hs⟩ := hp2
      obtain ⟨la, lc, rfl⟩ := StsQ.parts hv
      obtain ⟨I37, hI37, hF37, hsv37⟩ := HSV36.out.got stsQ_ok HI31.out hrb (by omega) hr hs (At := StsQ) hv
      have HI37 := Lib.hid hI37
      have HF37 := Lib.hid hF37
      have HSV37 := Lib.hid hsv37
      clear hn hr hs hp hv hI37 hF37 hsv37 p0
      have HE38 : Hid (r = .ok (stMk 4 noB noTy [] [a31] c31 a37 true tk) j37) := by show _ = _; rw [HE35.out, HN37.out]; rfl
      have p0 := HKP.out v37 HSV37.out.st
      have bt13 := blk_cell HSV37.out.blk 13 _ rfl
      have bz13 := blk_free HSV37.out.blk 13
      obtain ⟨v39, hv39⟩ : ∃ v39 : World, v39 = (v37.setCell ⟨b, 13, none⟩ (.slice la a37.length lc)) := ⟨_, rfl⟩
      have HSV39 : Hid (Sv R v1 b d I37 v39 j37 (.cells #[.int .i64 4, .string noB, .int .i64 0, .string noB, .string noB, .bool false, .slice none 0 0, .slice none 0 0, .int .i64 0, .int .i64 0, .slice none 0 0, .slice ea 1 ec, .slice ba c31.length bc, .slice la a37.length lc, .bool true, .int .i64 tk.line, .int .i64 tk.col] 67 (0, 0))) := by show Sv _ _ _ _ _ _ _ _; rw [hv39]; exact (HSV37.out.set HI37.out hrb 13 (.slice la a37.length lc))
      go_upto_region 22 with fail
      rw [← hv39]
      clear hv39 p0 bt13 bz13
      have p0 := HKP.out v39 HSV39.out.st
      have HLD : Hid (∀ (jj : Nat) v, [Value.int .i64 4, .string noB, .int .i64 0, .string noB, .string noB, .bool false, .slice none 0 0, .slice none 0 0, .int .i64 0, .int .i64 0, .slice none 0 0, .slice ea 1 ec, .slice ba c31.length bc, .slice la a37.length lc, .bool true, .int .i64 tk.line, .int .i64 tk.col][jj]? = some v → v39.cell? ⟨b, 0 + jj, none⟩ = some v) := by
       show ∀ jj v, _
       intro jj v hv
       rw [Nat.zero_add]; exact blk_cell HSV39.out.blk jj v (by simpa using hv)
      have HONE : Hid (∀ u ∈ [Value.int .i64 4, .string noB, .int .i64 0, .string noB, .string noB, .bool false, .slice none 0 0, .slice none 0 0, .int .i64 0, .int .i64 0, .slice none 0 0, .slice ea 1 ec, .slice ba c31.length bc, .slice la a37.length lc, .bool true, .int .i64 tk.line, .int .i64 tk.col], u.oneCell' = true) := oneCells rfl
      have HNX := Lib.hid (HKN.out v39 HSV39.out.st)
      have HEX : Hid (StP v39 (fun q => v1.heap.size ≤ q) (stMk 4 noB noTy [] [a31] c31 a37 true tk) [.int .i64 4, .string noB, .int .i64 0, .string noB, .string noB, .bool false, .slice none 0 0, .slice none 0 0, .int .i64 0, .int .i64 0, .slice none 0 0, .slice ea 1 ec, .slice ba c31.length bc, .slice la a37.length lc, .bool true, .int .i64 tk.line, .int .i64 tk.col]) := StP.mk (by decide) (noTyP _ _) (ExsQ.nil _ _) (HF31.out _ (HF37.out _ HSV39.out.inv).1).2.1 (HF31.out _ (HF37.out _ HSV39.out.inv).1).2.2 (HF37.out _ HSV39.out.inv).2
      clear p0
      go_wp2_with (first
       | (refine wpList_load_whole rfl 67 (.tmp 3) rfl b 0 rfl [Value.int .i64 4, .string noB, .int .i64 0, .string noB, .string noB, .bool false, .slice none 0 0, .slice none 0 0, .int .i64 0, .int .i64 0, .slice none 0 0, .slice ea 1 ec, .slice ba c31.length bc, .slice la a37.length lc, .bool true, .int .i64 tk.line, .int .i64 tk.col] _ HLD.out Try.underlying67 rfl Try.sizeStmt ?_)
       | (refine wpList_store_part (w := v39) rfl 67 (.tmp 2) (.tmp 83) rfl (w.heap.size + 1) 0 67 _ [Value.int .i64 4, .string noB, .int .i64 0, .string noB, .string noB, .bool false, .slice none 0 0, .slice none 0 0, .int .i64 0, .int .i64 0, .slice none 0 0, .slice ea 1 ec, .slice ba c31.length bc, .slice la a37.length lc, .bool true, .int .i64 tk.line, .int .i64 tk.col] rfl rfl HNX.out Try.sizeStmt (Nat.le_of_eq rfl) HONE.out ?_
          intro wR hbR hstR))
      have hbR' : wR.heap[w.heap.size + 1]? = some (.cells [Value.int .i64 4, .string noB, .int .i64 0, .string noB, .string noB, .bool false, .slice none 0 0, .slice none 0 0, .int .i64 0, .int .i64 0, .slice none 0 0, .slice ea 1 ec, .slice ba c31.length bc, .slice la a37.length lc, .bool true, .int .i64 tk.line, .int .i64 tk.col].toArray 67 (0, 0)) := hbR
      refine bodyPost_ret (results_cellB rfl _ (w.heap.size + 1) 67 _ _ rfl hbR' Try.underlying67 rfl Try.sizeStmt) rfl ?_
      refine PPost.of_ok (a := stMk 4 noB noTy [] [a31] c31 a37 true tk) (j := j37) HE38.out rfl ⟨_, rfl, StP.mono (fun q _ hq => by omega) _ _ (StP.step hstR (fun q hq e => by omega) _ _ HEX.out)⟩ (HSV39.out.rd.step hstR (fun q hq e => by omega)) ((HBK.out _ HSV39.out.st).then hstR (fun q hq e => by omega))
    | false =>
     have HB33 := Lib.hid hb33
     clear hb33
     refine (is_no R HL.out ⟨#[101, 108, 115, 101]⟩ _ k31 d HSV31.out.rd (by decide) HB33.out).mono ?_
     rintro e v40 ⟨rfl, hr, hs⟩
     have HSV40 := Lib.hid (HSV31.out.read HI31.out hrb hr hs)
     clear hr hs p0
     have HE41 : Hid (r = .ok (stMk 4 noB noTy [] [a31] c31 [] false tk) k31) := by show _ = _; rw [HE32.out, HB33.out, if_neg (by decide)]
     have p0 := HKP.out v40 HSV40.out.st
     have bt14 := blk_cell HSV40.out.blk 14 _ rfl
     have bz14 := blk_free HSV40.out.blk 14
     obtain ⟨v42, hv42⟩ : ∃ v42 : World, v42 = (v40.setCell ⟨b, 14, none⟩ (.bool false)) := ⟨_, rfl⟩
     have HSV42 : Hid (Sv R v1 b d I31 v42 k31 (.cells #[.int .i64 4, .string noB, .int .i64 0, .string noB, .string noB, .bool false, .slice none 0 0, .slice none 0 0, .int .i64 0, .int .i64 0, .slice none 0 0, .slice ea 1 ec, .slice ba c31.length bc, .slice none 0 0, .bool false, .int .i64 tk.line, .int .i64 tk.col] 67 (0, 0))) := by show Sv _ _ _ _ _ _ _ _; rw [hv42]; exact (HSV40.out.set HI31.out hrb 14 (.bool false))
     go_upto_region 22 with fail
     rw [← hv42]
     clear hv42 p0 bt14 bz14
     have p0 := HKP.out v42 HSV42.out.st
     have HLD : Hid (∀ (jj : Nat) v, [Value.int .i64 4, .string noB, .int .i64 0, .string noB, .string noB, .bool false, .slice none 0 0, .slice none 0 0, .int .i64 0, .int .i64 0, .slice none 0 0, .slice ea 1 ec, .slice ba c31.length bc, .slice none 0 0, .bool false, .int .i64 tk.line, .int .i64 tk.col][jj]? = some v → v42.cell? ⟨b, 0 + jj, none⟩ = some v) := by
      show ∀ jj v, _
      intro jj v hv
      rw [Nat.zero_add]; exact blk_cell HSV42.out.blk jj v (by simpa using hv)
     have HONE : Hid (∀ u ∈ [Value.int .i64 4, .string noB, .int .i64 0, .string noB, .string noB, .bool false, .slice none 0 0, .slice none 0 0, .int .i64 0, .int .i64 0, .slice none 0 0, .slice ea 1 ec, .slice ba c31.length bc, .slice none 0 0, .bool false, .int .i64 tk.line, .int .i64 tk.col], u.oneCell' = true) := oneCells rfl
     have HNX := Lib.hid (HKN.out v42 HSV42.out.st)
     have HEX : Hid (StP v42 (fun q => v1.heap.size ≤ q) (stMk 4 noB noTy [] [a31] c31 [] false tk) [.int .i64 4, .string noB, .int .i64 0, .string noB, .string noB, .bool false, .slice none 0 0, .slice none 0 0, .int .i64 0, .int .i64 0, .slice none 0 0, .slice ea 1 ec, .slice ba c31.length bc, .slice none 0 0, .bool false, .int .i64 tk.line, .int .i64 tk.col]) := StP.mk (by decide) (noTyP _ _) (ExsQ.nil _ _) (HF31.out _ HSV42.out.inv).2.1 (HF31.out _ HSV42.out.inv).2.2 (StsQ.nil _ _)
     clear p0
     go_wp2_with (first
      | (refine wpList_load_whole rfl 67 (.tmp 3) rfl b 0 rfl [Value.int .i64 4, .string noB, .int .i64 0, .string noB, .string noB, .bool false, .slice none 0 0, .slice none 0 0, .int .i64 0, .int .i64 0, .slice none 0 0, .slice ea 1 ec, .slice ba c31.length bc, .slice none 0 0, .bool false, .int .i64 tk.line, .int .i64 tk.col] _ HLD.out Try.underlying67 rfl Try.sizeStmt ?_)
      | (refine wpList_store_part (w := v42) rfl 67 (.tmp 2) (.tmp 83) rfl (w.heap.size + 1) 0 67 _ [Value.int .i64 4, .string noB, .int .i64 0, .string noB, .string noB, .bool false, .slice none 0 0, .slice none 0 0, .int .i64 0, .int .i64 0, .slice none 0 0, .slice ea 1 ec, .slice ba c31.length bc, .slice none 0 0, .bool false, .int .i64 tk.line, .int .i64 tk.col] rfl rfl HNX.out Try.sizeStmt (Nat.le_of_eq rfl) HONE.out ?_
         intro wR hbR hstR))
     have hbR' : wR.heap[w.heap.size + 1]? = some (.cells [Value.int .i64 4, .string noB, .int .i64 0, .string noB, .string noB, .bool false, .slice none 0 0, .slice none 0 0, .int .i64 0, .int .i64 0, .slice none 0 0, .slice ea 1 ec, .slice ba c31.length bc, .slice none 0 0, .bool false, .int .i64 tk.line, .int .i64 tk.col].toArray 67 (0, 0)) := hbR
     refine bodyPost_ret (results_cellB rfl _ (w.heap.size + 1) 67 _ _ rfl hbR' Try.underlying67 rfl Try.sizeStmt) rfl ?_
     refine PPost.of_ok (a := stMk 4 noB noTy [] [a31] c31 [] false tk) (j := k31) HE41.out rfl ⟨_, rfl, StP.mono (fun q _ hq => by omega) _ _ (StP.step hstR (fun q hq e => by omega) _ _ HEX.out)⟩ (HSV42.out.rd.step hstR (fun q hq e => by omega)) ((HBK.out _ HSV42.out.st).then hstR (fun q hq e => by omega))
  | false =>
   have HB28 := Lib.hid hb28
   clear hb28
   refine (is_no R HL.out ⟨#[105, 102]⟩ _ i d HSV26.out.rd (by decide) HB28.out).mono ?_
   rintro e v43 ⟨rfl, hr, hs⟩
   have HSV43 := Lib.hid (HSV26.out.read HI0.out hrb hr hs)
   clear hr hs p0
   have HE44 : Hid (r = if isF R.l i [119, 104, 105, 108, 101] then (levelR f R.l (i + 1) d 0).bind fun x j => (blockR f R.l j d).bind fun b j => .ok (stMk 5 noB noTy [] [x] b [] false tk) j else if isF R.l i [114, 101, 116, 117, 114, 110] then (if isF R.l (i + 1) [59] then .ok [] (i + 1) else (levelR f R.l (i + 1) d 0).bind fun x j => .ok [x] j).bind fun e j => (needR R.l j [59]).bind fun _ j => .ok (stMk 6 noB noTy [] e [] [] false tk) j else if isF R.l i [97, 98, 111, 114, 116] then (needR R.l (i + 1) [59]).bind fun _ j => .ok (stMk 7 noB noTy [] [] [] [] false tk) j else if isF R.l i [123] then (blockR f R.l i d).bind fun b j => .ok (stMk 8 noB noTy [] [] b [] false tk) j else (setR f R.l i d).bind fun p j => .ok (stMk (if p.1.length = 0 then 3 else 2) noB noTy p.1 [p.2] [] [] false tk) j) := by show _ = _; rw [HE27.out, HB28.out, if_neg (by decide)]
   have p0 := HKP.out v43 HSV43.out.st
   go_wp2_with fail
   cases hb45 : isF R.l i [119, 104, 105, 108, 101] with
   | true =>
    have HB45 := Lib.hid hb45
    clear hb45
    refine (is_yes R HL.out ⟨#[119, 104, 105, 108, 101]⟩ _ i d HSV43.out.rd (by decide) HB45.out).mono ?_
    rintro e v46 ⟨rfl, hr, hs⟩
    have HSV46 := Lib.hid (HSV43.out.read HI0.out hrb hr hs)
    clear hr hs p0
    have HE47 : Hid (r = (levelR f R.l (i + 1) d 0).bind fun x j => (blockR f R.l j d).bind fun b j => .ok (stMk 5 noB noTy [] [x] b [] false tk) j) := by show _ = _; rw [HE44.out, HB45.out, if_pos rfl]
    have p0 := HKP.out v46 HSV46.out.st
    go_upto_region 11 with fail
    clear p0
    have HFL : Hid (StbAll R b v1.heap.size [(fun _ u => u = (.agg #[.pointer (some ⟨R.rb, 0, none⟩)])), (fun X u => ∃ a j, levelR f R.l (i + 1) d 0 = .ok a j ∧ ExQ X (fun q => v1.heap.size ≤ q) a u), (fun X u => ∃ a j, levelR f R.l (i + 1) d 0 = .ok a j ∧ ExsQ X (fun q => v1.heap.size ≤ q) [a] u), (fun _ u => u = (.agg #[.pointer (some ⟨R.rb, 0, none⟩)])), (fun X u => ∃ a j c k, levelR f R.l (i + 1) d 0 = .ok a j ∧ blockR f R.l j d = .ok c k ∧ StsQ X (fun q => v1.heap.size ≤ q) c u), (fun _ u => u = (.pointer (some ⟨b, 0, none⟩))), Tru, (fun _ u => u = (.pointer (some ⟨b, 11, none⟩))), Tru, (fun _ u => u = (.pointer (some ⟨b, 12, none⟩))), Tru]) := (StbAll.cons (Stb.const _) (StbAll.cons (Stb.ex fun _ => Stb.ex fun _ => Stb.and (Stb.at exQ_ok hrb (by omega) _)) (StbAll.cons (Stb.ex fun _ => Stb.ex fun _ => Stb.and (Stb.at exsQ_ok hrb (by omega) _)) (StbAll.cons (Stb.const _) (StbAll.cons (Stb.ex fun _ => Stb.ex fun _ => Stb.ex fun _ => Stb.ex fun _ => Stb.and (Stb.and (Stb.at stsQ_ok hrb (by omega) _))) (StbAll.cons (Stb.const _) (StbAll.cons Stb.tru (StbAll.cons (Stb.const _) (StbAll.cons Stb.tru (StbAll.cons (Stb.const _) (StbAll.cons Stb.tru StbAll.nil)))))))))))
    obtain ⟨Jx, hJx⟩ : ∃ Jx : (Nat → Bool) → (Nat → Value) → World → Prop, Jx = RJ R v1 b d I0 (fun (L : Nat → Bool) (ix : Nat) => cond (L 4) (∃ a j c, levelR f R.l (i + 1) d 0 = .ok a j ∧ blockR f R.l j d = .ok c ix) (cond (L 1) (∃ a, levelR f R.l (i + 1) d 0 = .ok a ix) (ix = (i + 1)))) (fun (L : Nat → Bool) (V : Nat → Value) => Obj.cells #[cond (L 6) (.int .i64 5) (.int .i64 0), .string noB, .int .i64 0, .string noB, .string noB, .bool false, .slice none 0 0, .slice none 0 0, .int .i64 0, .int .i64 0, .slice none 0 0, cond (L 8) (V 2) (.slice none 0 0), cond (L 10) (V 4) (.slice none 0 0), .slice none 0 0, .bool false, .int .i64 tk.line, .int .i64 tk.col] 67 (0, 0)) [(fun _ u => u = (.agg #[.pointer (some ⟨R.rb, 0, none⟩)])), (fun X u => ∃ a j, levelR f R.l (i + 1) d 0 = .ok a j ∧ ExQ X (fun q => v1.heap.size ≤ q) a u), (fun X u => ∃ a j, levelR f R.l (i + 1) d 0 = .ok a j ∧ ExsQ X (fun q => v1.heap.size ≤ q) [a] u), (fun _ u => u = (.agg #[.pointer (some ⟨R.rb, 0, none⟩)])), (fun X u => ∃ a j c k, levelR f R.l (i + 1) d 0 = .ok a j ∧ blockR f R.l j d = .ok c k ∧ StsQ X (fun q => v1.heap.size ≤ q) c u), (fun _ u => u = (.pointer (some ⟨b, 0, none⟩))), Tru, (fun _ u => u = (.pointer (some ⟨b, 11, none⟩))), Tru, (fun _ u => u = (.pointer (some ⟨b, 12, none⟩))), Tru] [(4, 1), (8, 2), (10, 4)] := ⟨_, rfl⟩
    have HJX := Lib.hid hJx
    clear hJx
    refine wp_region_relyD (by kernel_rfl) (Jx) 11 rfl (by kernel_rfl) (by kernel_rfl) (by kernel_rfl) (by kernel_rfl) ?h0 ?hs ?hdone
    case h0 => rw [HJX.out]; exact RJ.zero HI0.out HSV46.out ((Step.refl _ _).drew) rfl
    case hs =>
     refine ⟨?_, ?_, ?_, ?_, ?_, ?_, ?_, ?_, ?_, ?_, ?_, trivial⟩
     ·intro L V X a ev evo hdf hL hdep hJ
      rw [HJX.out] at hJ
      have o1 := evo 1 rfl
      change a.tmps[1]?.getD undef = .pointer (some ⟨w.heap.size, 0, none⟩) at o1
      obtain ⟨i9, hv9, -⟩ := id hJ.sv
      have p0 := HKP.out X hv9.st
      clear hv9
      go_simp
      exact ⟨_, rfl, by rw [HJX.out]; exact hJ.up 0 _ rfl (np rfl) rfl rfl⟩
     ·intro L V X a ev evo hdf hL hdep hJ
      rw [HJX.out] at hJ
      have e41 := (ev 0 41 rfl (hdep 0 rfl)).trans (hJ.fs 0 (hdep 0 rfl))
      obtain ⟨i9, hv9, hr9⟩ := id hJ.sv
      rw [hJ.false_of 4 1 (by decide) hL, hL] at hr9
      have hr9 : i9 = (i + 1) := hr9
      subst hr9
      go_simp
      refine (expr_any f IHE.out R X (i + 1) d HL.out hv9.rd hd (fun e => HNO.out (by rw [HE47.out, e]; rfl))).mono ?_
      intro e wq hp
      cases hx : levelR f R.l (i + 1) d 0 with
      | out => exact absurd hx (fun e => HNO.out (by rw [HE47.out, e]; rfl))
      | err cc ln col =>
       rw [hx] at hp
       obtain ⟨rfl, hs⟩ := hp
       exact ⟨hdf, PPost.of_err (c := cc) (ln := ln) (col := col) (by rw [HE47.out, hx]; rfl) rfl (HBK.out _ (hv9.err hs))⟩
      | ok c9 k9 =>
       rw [hx] at hp
       obtain ⟨⟨v, rfl, hv⟩, hr, hs⟩ := hp
       exact ⟨_, rfl, by rw [HJX.out]; exact hJ.call HI0.out HFL.out hrb 1 v hr hs ⟨_, _, hx, exQ_ok.mono _ _ (fun q _ hq => by have := hv9.st.size; omega) (show ExQ _ _ _ _ from hv)⟩ (np rfl) rfl (by show cond (L 4) _ _; rw [hJ.false_of 4 1 (by decide) hL]; exact ⟨_, hx⟩)⟩
     ·intro L V X a ev evo hdf hL hdep hJ
      rw [HJX.out] at hJ
      obtain ⟨a9, j9, h9, cs9, hV9, hx9⟩ := hJ.fs 1 (hdep 1 rfl)
      obtain ⟨i9, hv9, -⟩ := id hJ.sv
      obtain ⟨k0, nm0, v0, mu0, a1, n1, c1, a2, n2, c2, a3, n3, c3, l0, c0, rfl⟩ := hx9.parts
      have e42 := (ev 1 42 rfl (hdep 1 rfl)).trans hV9
      go_simp
      exact ⟨_, rfl, by rw [HJX.out]; exact (hJ.quiet HI0.out HFL.out ((Step.refl _ _).alloc _)).up 2 _ ⟨a9, j9, h9, ExsQ.single (ExP.step ((Step.refl (fun _ => False) _).alloc _) (fun _ _ h => h) _ _ hx9) (blk_new _ _) hv9.st.size⟩ (np rfl) (by have e8 := hJ.false_of 8 2 (by decide) hL; change Obj.cells #[cond (L 6) (.int .i64 5) (.int .i64 0), .string noB, .int .i64 0, .string noB, .string noB, .bool false, .slice none 0 0, .slice none 0 0, .int .i64 0, .int .i64 0, .slice none 0 0, cond (L 8) (_) (.slice none 0 0), cond (L 10) (V 4) (.slice none 0 0), .slice none 0 0, .bool false, .int .i64 tk.line, .int .i64 tk.col] 67 (0, 0) = Obj.cells #[cond (L 6) (.int .i64 5) (.int .i64 0), .string noB, .int .i64 0, .string noB, .string noB, .bool false, .slice none 0 0, .slice none 0 0, .int .i64 0, .int .i64 0, .slice none 0 0, cond (L 8) (V 2) (.slice none 0 0), cond (L 10) (V 4) (.slice none 0 0), .slice none 0 0, .bool false, .int .i64 tk.line, .int .i64 tk.col] 67 (0, 0); rw [e8]; rfl) rfl⟩
     ·intro L V X a ev evo hdf hL hdep hJ
      rw [HJX.out] at hJ
      have o1 := evo 1 rfl
      change a.tmps[1]?.getD undef = .pointer (some ⟨w.heap.size, 0, none⟩) at o1
      obtain ⟨i9, hv9, -⟩ := id hJ.sv
      have p0 := HKP.out X hv9.st
      clear hv9
      go_simp
      exact ⟨_, rfl, by rw [HJX.out]; exact hJ.up 3 _ rfl (np rfl) rfl rfl⟩
     ·intro L V X a ev evo hdf hL hdep hJ
      rw [HJX.out] at hJ
      have e44 := (ev 3 44 rfl (hdep 3 rfl)).trans (hJ.fs 3 (hdep 3 rfl))
      obtain ⟨i9, hv9, hr9⟩ := id hJ.sv
      rw [hL, hdep 1 rfl] at hr9
      obtain ⟨a9, h9⟩ : ∃ a, levelR f R.l (i + 1) d 0 = .ok a i9 := hr9
      go_simp
      refine (IHB.out R X i9 d HL.out hv9.rd hd (fun e => HNO.out (by rw [HE47.out, h9, Res.bind_ok]; rw [e]; rfl))).mono ?_
      intro e wq hp
      cases hx : blockR f R.l i9 d with
      | out => exact absurd hx (fun e => HNO.out (by rw [HE47.out, h9, Res.bind_ok]; rw [e]; rfl))
      | err cc ln col =>
       rw [hx] at hp
       obtain ⟨rfl, hs⟩ := hp
       exact ⟨hdf, PPost.of_err (c := cc) (ln := ln) (col := col) (by rw [HE47.out, h9, Res.bind_ok]; rw [hx]; rfl) rfl (HBK.out _ (hv9.err hs))⟩
      | ok c9 k9 =>
       rw [hx] at hp
       obtain ⟨⟨v, rfl, hv⟩, hr, hs⟩ := hp
       exact ⟨_, rfl, by rw [HJX.out]; exact hJ.call HI0.out HFL.out hrb 4 v hr hs ⟨_, _, _, _, h9, hx, stsQ_ok.mono _ _ (fun q _ hq => by have := hv9.st.size; omega) (show StsQ _ _ _ _ from hv)⟩ (mc ⟨fun _ => hdep 1 rfl, (mc ⟨nd (by decide), (mc ⟨nd (by decide), (fun _ h => nomatch h)⟩)⟩)⟩) (by have e10 := hJ.false_of 10 4 (by decide) hL; change Obj.cells #[cond (L 6) (.int .i64 5) (.int .i64 0), .string noB, .int .i64 0, .string noB, .string noB, .bool false, .slice none 0 0, .slice none 0 0, .int .i64 0, .int .i64 0, .slice none 0 0, cond (L 8) (V 2) (.slice none 0 0), cond (L 10) (_) (.slice none 0 0), .slice none 0 0, .bool false, .int .i64 tk.line, .int .i64 tk.col] 67 (0, 0) = Obj.cells #[cond (L 6) (.int .i64 5) (.int .i64 0), .string noB, .int .i64 0, .string noB, .string noB, .bool false, .slice none 0 0, .slice none 0 0, .int .i64 0, .int .i64 0, .slice none 0 0, cond (L 8) (V 2) (.slice none 0 0), cond (L 10) (V 4) (.slice none 0 0), .slice none 0 0, .bool false, .int .i64 tk.line, .int .i64 tk.col] 67 (0, 0); rw [e10]; rfl) ⟨_, _, _, h9, hx⟩⟩
     ·intro L V X a ev evo hdf hL hdep hJ
      rw [HJX.out] at hJ
      have o3 := evo 3 rfl
      change a.tmps[3]?.getD undef = .pointer (some ⟨b, 0, none⟩) at o3
      go_simp
      exact ⟨_, rfl, by rw [HJX.out]; exact hJ.up 5 _ rfl (np rfl) rfl rfl⟩
     ·intro L V X a ev evo hdf hL hdep hJ
      rw [HJX.out] at hJ
      have e46 := (ev 5 46 rfl (hdep 5 rfl)).trans (hJ.fs 5 (hdep 5 rfl))
      obtain ⟨i9, hv9, -⟩ := id hJ.sv
      have hb9 := hv9.blk
      have ecell : ∃ v, X.cell? ⟨b, 0, none⟩ = some v := ⟨_, blk_cell hb9 0 _ rfl⟩
      obtain ⟨vc, hvc⟩ := ecell
      have hfz := blk_free hb9 0
      go_simp
      exact ⟨undef, by rw [HJX.out]; exact hJ.put HI0.out HFL.out hrb 6 undef ((Step.refl _ _).setCell _ _ (fun _ => rfl)) (blk_set hb9 0 (.int .i64 5)) rfl (np rfl) rfl⟩
     ·intro L V X a ev evo hdf hL hdep hJ
      rw [HJX.out] at hJ
      have o3 := evo 3 rfl
      change a.tmps[3]?.getD undef = .pointer (some ⟨b, 0, none⟩) at o3
      go_simp
      exact ⟨_, rfl, by rw [HJX.out]; exact hJ.up 7 _ rfl (np rfl) rfl rfl⟩
     ·intro L V X a ev evo hdf hL hdep hJ
      rw [HJX.out] at hJ
      have e47 := (ev 7 47 rfl (hdep 7 rfl)).trans (hJ.fs 7 (hdep 7 rfl))
      obtain ⟨i9, hv9, -⟩ := id hJ.sv
      have hb9 := hv9.blk
      obtain ⟨a8, j8, h8, xs8, hr8, -⟩ := hJ.fs 2 (hdep 2 rfl)
      obtain ⟨g8, n8, hV⟩ := hr8.parts
      have hV : V 2 = .slice g8 1 n8 := hV
      have e43 := (ev 2 43 rfl (hdep 2 rfl)).trans hV
      have ecell : ∃ v, X.cell? ⟨b, 11, none⟩ = some v := ⟨_, blk_cell hb9 11 _ rfl⟩
      obtain ⟨vc, hvc⟩ := ecell
      have hfz := blk_free hb9 11
      have hx : (X.setCell ⟨b, 11, none⟩ (V 2)).heap[b]? = _ := blk_set hb9 11 (V 2)
      rw [hV] at hx
      have hxx := hx
      go_simp
      exact ⟨undef, by rw [HJX.out]; exact hJ.put HI0.out HFL.out hrb 8 undef ((Step.refl _ _).setCell _ _ (fun _ => rfl)) (by rw [← hV]; exact blk_set hb9 11 (V 2)) rfl (mc ⟨nd (by decide), (mc ⟨fun _ => hdep 2 rfl, (mc ⟨nd (by decide), (fun _ h => nomatch h)⟩)⟩)⟩) rfl⟩
     ·intro L V X a ev evo hdf hL hdep hJ
      rw [HJX.out] at hJ
      have o3 := evo 3 rfl
      change a.tmps[3]?.getD undef = .pointer (some ⟨b, 0, none⟩) at o3
      go_simp
      exact ⟨_, rfl, by rw [HJX.out]; exact hJ.up 9 _ rfl (np rfl) rfl rfl⟩
     ·intro L V X a ev evo hdf hL hdep hJ
      rw [HJX.out] at hJ
      have e48 := (ev 9 48 rfl (hdep 9 rfl)).trans (hJ.fs 9 (hdep 9 rfl))
      obtain ⟨i9, hv9, -⟩ := id hJ.sv
      have hb9 := hv9.blk
      obtain ⟨a8, j8, c8, k8, h8, h7, xs8, hr8, -⟩ := hJ.fs 4 (hdep 4 rfl)
      obtain ⟨g8, n8, hV⟩ := hr8.parts
      have e45 := (ev 4 45 rfl (hdep 4 rfl)).trans hV
      have ecell : ∃ v, X.cell? ⟨b, 12, none⟩ = some v := ⟨_, blk_cell hb9 12 _ rfl⟩
      obtain ⟨vc, hvc⟩ := ecell
      have hfz := blk_free hb9 12
      have hx : (X.setCell ⟨b, 12, none⟩ (V 4)).heap[b]? = _ := blk_set hb9 12 (V 4)
      rw [hV] at hx
      have hxx := hx
      go_simp
      exact ⟨undef, by rw [HJX.out]; exact hJ.put HI0.out HFL.out hrb 10 undef ((Step.refl _ _).setCell _ _ (fun _ => rfl)) (by rw [← hV]; exact blk_set hb9 12 (V 4)) rfl (mc ⟨nd (by decide), (mc ⟨nd (by decide), (mc ⟨fun _ => hdep 4 rfl, (fun _ h => nomatch h)⟩)⟩)⟩) rfl⟩
    case hdone =>
     intro L V X hall hJ
     rw [HJX.out] at hJ
     obtain ⟨i9, hv9, hr9⟩ := hJ.sv
     rw [hall 4 (by decide)] at hr9
     obtain ⟨a9, j9, c9, h91, h92⟩ : ∃ a j c, levelR f R.l (i + 1) d 0 = .ok a j ∧ blockR f R.l j d = .ok c i9 := hr9
     have f2 := hJ.fs 2 (hall 2 (by decide))
     obtain ⟨a8, j8, h81, g2⟩ := f2
     rw [h91] at h81
     cases h81
     have f4 := hJ.fs 4 (hall 4 (by decide))
     obtain ⟨a8, j8, c8, k8, h81, h82, g4⟩ := f4
     rw [h91] at h81
     cases h81
     rw [h92] at h82
     cases h82
     have hv9 : Sv R v1 b d I0 X i9 (Obj.cells #[.int .i64 5, .string noB, .int .i64 0, .string noB, .string noB, .bool false, .slice none 0 0, .slice none 0 0, .int .i64 0, .int .i64 0, .slice none 0 0, V 2, V 4, .slice none 0 0, .bool false, .int .i64 tk.line, .int .i64 tk.col] 67 (0, 0)) := by
      have h := hv9
      rw [hall 6 (by decide), hall 8 (by decide), hall 10 (by decide)] at h
      exact h
     rw [show List.range 11 = [0, 1, 2, 3, 4, 5, 6, 7, 8, 9, 10] from rfl]
     simp only [putF, dstO, List.getElem?_toArray, List.getElem?_cons_zero, List.getElem?_cons_succ, Option.bind_some, Act.put, List.setIfInBounds_toArray, List.set_cons_zero, List.set_cons_succ]
     obtain ⟨u2, hu2⟩ : ∃ u, u = V 2 := ⟨_, rfl⟩
     rw [← hu2] at hv9 g2 ⊢
     have hg2 := g2
     clear hu2 g2
     obtain ⟨u4, hu4⟩ : ∃ u, u = V 4 := ⟨_, rfl⟩
     rw [← hu4] at hv9 g4 ⊢
     have hg4 := g4
     clear hu4 g4
     obtain ⟨a48, rfl⟩ : ∃ q, q = a9 := ⟨_, rfl⟩
     obtain ⟨j48, rfl⟩ : ∃ q, q = j9 := ⟨_, rfl⟩
     obtain ⟨c48, rfl⟩ : ∃ q, q = c9 := ⟨_, rfl⟩
     obtain ⟨k48, rfl⟩ : ∃ q, q = i9 := ⟨_, rfl⟩
     obtain ⟨w48, rfl⟩ : ∃ q : World, q = X := ⟨_, rfl⟩
     have hn1 := h91
     have hn2 := h92
     have hsv := hv9
     clear hJ hall hv9 h91 h92
     obtain ⟨ea, ec, rfl⟩ := ExsQ.parts hg2
     obtain ⟨ba, bc, rfl⟩ := StsQ.parts hg4
     have HSVx := Lib.hid hsv
     have HN1 := Lib.hid hn1
     have HN2 := Lib.hid hn2
     obtain ⟨I48, hI48, hF48, hsv48⟩ := HSVx.out.keep HI0.out (J := fun X => ExsQ X (fun q => v1.heap.size ≤ q) [a48] (.slice ea 1 ec) ∧ StsQ X (fun q => v1.heap.size ≤ q) c48 (.slice ba c48.length bc)) (Stab.and (Stab.at exsQ_ok hrb (by omega) _ _) (Stab.at stsQ_ok hrb (by omega) _ _)) (⟨hg2, hg4⟩)
     have HI48 := Lib.hid hI48
     have HF48 := Lib.hid hF48
     have HSV48 := Lib.hid hsv48
     clear hI48 hF48 hsv48
     clear hn1 hn2 hsv hg2 hg4
     have HE49 : Hid (r = .ok (stMk 5 noB noTy [] [a48] c48 [] false tk) k48) := by show _ = _; rw [HE47.out, HN1.out, Res.bind_ok]; rw [HN2.out]; rfl
     have p0 := HKP.out w48 HSV48.out.st
     go_upto_region 22 with fail
     have HLD : Hid (∀ (jj : Nat) v, [Value.int .i64 5, .string noB, .int .i64 0, .string noB, .string noB, .bool false, .slice none 0 0, .slice none 0 0, .int .i64 0, .int .i64 0, .slice none 0 0, .slice ea 1 ec, .slice ba c48.length bc, .slice none 0 0, .bool false, .int .i64 tk.line, .int .i64 tk.col][jj]? = some v → w48.cell? ⟨b, 0 + jj, none⟩ = some v) := by
      show ∀ jj v, _
      intro jj v hv
      rw [Nat.zero_add]; exact blk_cell HSV48.out.blk jj v (by simpa using hv)
     have HONE : Hid (∀ u ∈ [Value.int .i64 5, .string noB, .int .i64 0, .string noB, .string noB, .bool false, .slice none 0 0, .slice none 0 0, .int .i64 0, .int .i64 0, .slice none 0 0, .slice ea 1 ec, .slice ba c48.length bc, .slice none 0 0, .bool false, .int .i64 tk.line, .int .i64 tk.col], u.oneCell' = true) := oneCells rfl
     have HNX := Lib.hid (HKN.out w48 HSV48.out.st)
     have HEX : Hid (StP w48 (fun q => v1.heap.size ≤ q) (stMk 5 noB noTy [] [a48] c48 [] false tk) [.int .i64 5, .string noB, .int .i64 0, .string noB, .string noB, .bool false, .slice none 0 0, .slice none 0 0, .int .i64 0, .int .i64 0, .slice none 0 0, .slice ea 1 ec, .slice ba c48.length bc, .slice none 0 0, .bool false, .int .i64 tk.line, .int .i64 tk.col]) := StP.mk (by decide) (noTyP _ _) (ExsQ.nil _ _) (HF48.out _ HSV48.out.inv).2.1 (HF48.out _ HSV48.out.inv).2.2 (StsQ.nil _ _)
     clear p0
     go_wp2_with (first
      | (refine wpList_load_whole rfl 67 (.tmp 3) rfl b 0 rfl [Value.int .i64 5, .string noB, .int .i64 0, .string noB, .string noB, .bool false, .slice none 0 0, .slice none 0 0, .int .i64 0, .int .i64 0, .slice none 0 0, .slice ea 1 ec, .slice ba c48.length bc, .slice none 0 0, .bool false, .int .i64 tk.line, .int .i64 tk.col] _ HLD.out Try.underlying67 rfl Try.sizeStmt ?_)
      | (refine wpList_store_part (w := w48) rfl 67 (.tmp 2) (.tmp 83) rfl (w.heap.size + 1) 0 67 _ [Value.int .i64 5, .string noB, .int .i64 0, .string noB, .string noB, .bool false, .slice none 0 0, .slice none 0 0, .int .i64 0, .int .i64 0, .slice none 0 0, .slice ea 1 ec, .slice ba c48.length bc, .slice none 0 0, .bool false, .int .i64 tk.line, .int .i64 tk.col] rfl rfl HNX.out Try.sizeStmt (Nat.le_of_eq rfl) HONE.out ?_
         intro wR hbR hstR))
     have hbR' : wR.heap[w.heap.size + 1]? = some (.cells [Value.int .i64 5, .string noB, .int .i64 0, .string noB, .string noB, .bool false, .slice none 0 0, .slice none 0 0, .int .i64 0, .int .i64 0, .slice none 0 0, .slice ea 1 ec, .slice ba c48.length bc, .slice none 0 0, .bool false, .int .i64 tk.line, .int .i64 tk.col].toArray 67 (0, 0)) := hbR
     refine bodyPost_ret (results_cellB rfl _ (w.heap.size + 1) 67 _ _ rfl hbR' Try.underlying67 rfl Try.sizeStmt) rfl ?_
     refine PPost.of_ok (a := stMk 5 noB noTy [] [a48] c48 [] false tk) (j := k48) HE49.out rfl ⟨_, rfl, StP.mono (fun q _ hq => by omega) _ _ (StP.step hstR (fun q hq e => by omega) _ _ HEX.out)⟩ (HSV48.out.rd.step hstR (fun q hq e => by omega)) ((HBK.out _ HSV48.out.st).then hstR (fun q hq e => by omega))
   | false =>
    have HB45 := Lib.hid hb45
    clear hb45
    refine (is_no R HL.out ⟨#[119, 104, 105, 108, 101]⟩ _ i d HSV43.out.rd (by decide) HB45.out).mono ?_
    rintro e v50 ⟨rfl, hr, hs⟩
    have HSV50 := Lib.hid (HSV43.out.read HI0.out hrb hr hs)
    clear hr hs p0
    have HE51 : Hid (r = if isF R.l i [114, 101, 116, 117, 114, 110] then (if isF R.l (i + 1) [59] then .ok [] (i + 1) else (levelR f R.l (i + 1) d 0).bind fun x j => .ok [x] j).bind fun e j => (needR R.l j [59]).bind fun _ j => .ok (stMk 6 noB noTy [] e [] [] false tk) j else if isF R.l i [97, 98, 111, 114, 116] then (needR R.l (i + 1) [59]).bind fun _ j => .ok (stMk 7 noB noTy [] [] [] [] false tk) j else if isF R.l i [123] then (blockR f R.l i d).bind fun b j => .ok (stMk 8 noB noTy [] [] b [] false tk) j else (setR f R.l i d).bind fun p j => .ok (stMk (if p.1.length = 0 then 3 else 2) noB noTy p.1 [p.2] [] [] false tk) j) := by show _ = _; rw [HE44.out, HB45.out, if_neg (by decide)]
    have p0 := HKP.out v50 HSV50.out.st
    go_wp2_with fail
    cases hb52 : isF R.l i [114, 101, 116, 117, 114, 110] with
    | true =>
     have HB52 := Lib.hid hb52
     clear hb52
     refine (is_yes R HL.out ⟨#[114, 101, 116, 117, 114, 110]⟩ _ i d HSV50.out.rd (by decide) HB52.out).mono ?_
     rintro e v53 ⟨rfl, hr, hs⟩
     have HSV53 := Lib.hid (HSV50.out.read HI0.out hrb hr hs)
     clear hr hs p0
     have HE54 : Hid (r = (if isF R.l (i + 1) [59] then .ok [] (i + 1) else (levelR f R.l (i + 1) d 0).bind fun x j => .ok [x] j).bind fun e j => (needR R.l j [59]).bind fun _ j => .ok (stMk 6 noB noTy [] e [] [] false tk) j) := by show _ = _; rw [HE51.out, HB52.out, if_pos rfl]
     have p0 := HKP.out v53 HSV53.out.st
     have bt0 := blk_cell HSV53.out.blk 0 _ rfl
     have bz0 := blk_free HSV53.out.blk 0
     obtain ⟨v55, hv55⟩ : ∃ v55 : World, v55 = (v53.setCell ⟨b, 0, none⟩ (.int .i64 6)) := ⟨_, rfl⟩
     have HSV55 : Hid (Sv R v1 b d I0 v55 (i + 1) (.cells #[.int .i64 6, .string noB, .int .i64 0, .string noB, .string noB, .bool false, .slice none 0 0, .slice none 0 0, .int .i64 0, .int .i64 0, .slice none 0 0, .slice none 0 0, .slice none 0 0, .slice none 0 0, .bool false, .int .i64 tk.line, .int .i64 tk.col] 67 (0, 0))) := by show Sv _ _ _ _ _ _ _ _; rw [hv55]; exact (HSV53.out.set HI0.out hrb 0 (.int .i64 6))
     go_upto_region 14 with fail
     rw [← hv55]
     clear hv55 p0 bt0 bz0
     have p0 := HKP.out v55 HSV55.out.st
     go_wp2_with fail
     cases hb56 : isF R.l (i + 1) [59] with
     | true =>
      have HB56 := Lib.hid hb56
      clear hb56
      refine (sees_any R ⟨#[59]⟩ _ (i + 1) d HSV55.out.rd (by decide) true HB56.out).mono ?_
      rintro e v57 ⟨rfl, hs⟩
      have HSV57 := Lib.hid (HSV55.out.quiet HI0.out hs)
      clear hs p0
      have HE58 : Hid (r = (needR R.l (i + 1) [59]).bind fun _ j => .ok (stMk 6 noB noTy [] [] [] [] false tk) j) := by show _ = _; rw [HE54.out, HB56.out, if_pos rfl]; rfl
      have p0 := HKP.out v57 HSV57.out.st
      go_wp2_with fail
      refine (need_any R HL.out v57.heap.size ⟨#[59]⟩ _ (i + 1) d (HSV57.out.rd.quiet ((Step.refl _ _).alloc _)) (by decide) (blk_cell (blk_new _ _) 0 _ rfl)).mono ?_
      rintro e v59 hp
      have hp2 : PPost R d UnitV (needR R.l (i + 1) [59]) _ e v59 := hp
      cases hn : needR R.l (i + 1) [59] with
      | out => exact (needR_out hn).elim
      | err c ln col =>
       rw [hn] at hp2
       obtain ⟨rfl, hs⟩ := hp2
       refine ⟨rfl, PPost.of_err (c := c) (ln := ln) (col := col) (by rw [HE58.out, hn]; rfl) rfl (HBK.out _ (HSV57.out.err (((Step.refl (· = R.rb) _).alloc _).trans hs)))⟩
      | ok u59 j59 =>
       have HN59 := Lib.hid hn
       rw [hn] at hp2
       obtain ⟨⟨v, rfl, rfl⟩, hr, hs⟩ := hp2
       have HSV59 := Lib.hid (HSV57.out.read HI0.out hrb hr (((Step.refl (· = R.rb) _).alloc _).trans hs))
       clear hn hr hs hp p0
       have HE60 : Hid (r = .ok (stMk 6 noB noTy [] [] [] [] false tk) j59) := by show _ = _; rw [HE58.out, HN59.out]; rfl
       have p0 := HKP.out v59 HSV59.out.st
       go_upto_region 22 with fail
       have HLD : Hid (∀ (jj : Nat) v, [Value.int .i64 6, .string noB, .int .i64 0, .string noB, .string noB, .bool false, .slice none 0 0, .slice none 0 0, .int .i64 0, .int .i64 0, .slice none 0 0, .slice none 0 0, .slice none 0 0, .slice none 0 0, .bool false, .int .i64 tk.line, .int .i64 tk.col][jj]? = some v → v59.cell? ⟨b, 0 + jj, none⟩ = some v) := by
        show ∀ jj v, _
        intro jj v hv
        rw [Nat.zero_add]; exact blk_cell HSV59.out.blk jj v (by simpa using hv)
       have HONE : Hid (∀ u ∈ [Value.int .i64 6, .string noB, .int .i64 0, .string noB, .string noB, .bool false, .slice none 0 0, .slice none 0 0, .int .i64 0, .int .i64 0, .slice none 0 0, .slice none 0 0, .slice none 0 0, .slice none 0 0, .bool false, .int .i64 tk.line, .int .i64 tk.col], u.oneCell' = true) := oneCells rfl
       have HNX := Lib.hid (HKN.out v59 HSV59.out.st)
       have HEX : Hid (StP v59 (fun q => v1.heap.size ≤ q) (stMk 6 noB noTy [] [] [] [] false tk) [.int .i64 6, .string noB, .int .i64 0, .string noB, .string noB, .bool false, .slice none 0 0, .slice none 0 0, .int .i64 0, .int .i64 0, .slice none 0 0, .slice none 0 0, .slice none 0 0, .slice none 0 0, .bool false, .int .i64 tk.line, .int .i64 tk.col]) := StP.mk (by decide) (noTyP _ _) (ExsQ.nil _ _) (ExsQ.nil _ _) (StsQ.nil _ _) (StsQ.nil _ _)
       clear p0
       go_wp2_with (first
        | (refine wpList_load_whole rfl 67 (.tmp 3) rfl b 0 rfl [Value.int .i64 6, .string noB, .int .i64 0, .string noB, .string noB, .bool false, .slice none 0 0, .slice none 0 0, .int .i64 0, .int .i64 0, .slice none 0 0, .slice none 0 0, .slice none 0 0, .slice none 0 0, .bool false, .int .i64 tk.line, .int .i64 tk.col] _ HLD.out Try.underlying67 rfl Try.sizeStmt ?_)
        | (refine wpList_store_part (w := v59) rfl 67 (.tmp 2) (.tmp 83) rfl (w.heap.size + 1) 0 67 _ [Value.int .i64 6, .string noB, .int .i64 0, .string noB, .string noB, .bool false, .slice none 0 0, .slice none 0 0, .int .i64 0, .int .i64 0, .slice none 0 0, .slice none 0 0, .slice none 0 0, .slice none 0 0, .bool false, .int .i64 tk.line, .int .i64 tk.col] rfl rfl HNX.out Try.sizeStmt (Nat.le_of_eq rfl) HONE.out ?_
           intro wR hbR hstR))
       have hbR' : wR.heap[w.heap.size + 1]? = some (.cells [Value.int .i64 6, .string noB, .int .i64 0, .string noB, .string noB, .bool false, .slice none 0 0, .slice none 0 0, .int .i64 0, .int .i64 0, .slice none 0 0, .slice none 0 0, .slice none 0 0, .slice none 0 0, .bool false, .int .i64 tk.line, .int .i64 tk.col].toArray 67 (0, 0)) := hbR
       refine bodyPost_ret (results_cellB rfl _ (w.heap.size + 1) 67 _ _ rfl hbR' Try.underlying67 rfl Try.sizeStmt) rfl ?_
       refine PPost.of_ok (a := stMk 6 noB noTy [] [] [] [] false tk) (j := j59) HE60.out rfl ⟨_, rfl, StP.mono (fun q _ hq => by omega) _ _ (StP.step hstR (fun q hq e => by omega) _ _ HEX.out)⟩ (HSV59.out.rd.step hstR (fun q hq e => by omega)) ((HBK.out _ HSV59.out.st).then hstR (fun q hq e => by omega))
     | false =>
      have HB56 := Lib.hid hb56
      clear hb56
      refine (sees_any R ⟨#[59]⟩ _ (i + 1) d HSV55.out.rd (by decide) false HB56.out).mono ?_
      rintro e v61 ⟨rfl, hs⟩
      have HSV61 := Lib.hid (HSV55.out.quiet HI0.out hs)
      clear hs p0
      have HE62 : Hid (r = (levelR f R.l (i + 1) d 0).bind fun x j => (needR R.l j [59]).bind fun _ j => .ok (stMk 6 noB noTy [] [x] [] [] false tk) j) := by show _ = _; rw [HE54.out, HB56.out, if_neg (by decide)]; rw [Res.bind_assoc]; rfl
      have p0 := HKP.out v61 HSV61.out.st
      go_wp2_with fail
      refine (expr_any f IHE.out R _ (i + 1) d HL.out HSV61.out.rd hd (fun e => HNO.out (by rw [HE62.out, e]; rfl))).mono ?_
      rintro e v63 hp
      have hp2 : PPost R d (ExV v61.heap.size) (levelR f R.l (i + 1) d 0) _ e v63 := hp
      cases hn : levelR f R.l (i + 1) d 0 with
      | out => exact absurd (by rw [HE62.out, hn]; rfl) HNO.out
      | err c ln col =>
       rw [hn] at hp2
       obtain ⟨rfl, hs⟩ := hp2
       refine ⟨rfl, PPost.of_err (c := c) (ln := ln) (col := col) (by rw [HE62.out, hn]; rfl) rfl (HBK.out _ (HSV61.out.err hs))⟩
      | ok a63 j63 =>
       have HN63 := Lib.hid hn
       rw [hn] at hp2
       obtain ⟨⟨v, rfl, hv⟩, hr, hs⟩ := hp2
       obtain ⟨cs, rfl, hy⟩ := hv
       obtain ⟨k0, nm0, v0, mu0, a1, n1, c1, a2, n2, c2, a3, n3, c3, l0, c0, rfl⟩ := hy.parts
       have hv : ExQ _ _ _ _ := ⟨_, rfl, hy⟩
       clear hy
       obtain ⟨I63, hI63, hF63, hsv63⟩ := HSV61.out.got exQ_ok HI0.out hrb (by omega) hr hs (At := ExQ) hv
       have HI63 := Lib.hid hI63
       have HF63 := Lib.hid hF63
       have HSV63 := Lib.hid hsv63
       clear hn hr hs hp hv hI63 hF63 hsv63 p0
       have HE64 : Hid (r = (needR R.l j63 [59]).bind fun _ j => .ok (stMk 6 noB noTy [] [a63] [] [] false tk) j) := by show _ = _; rw [HE62.out, HN63.out]; rfl
       have p0 := HKP.out v63 HSV63.out.st
       obtain ⟨w65, hw65⟩ : ∃ w65 : World, w65 = v63.alloc (.cells #[.int .i64 k0, .string nm0, .int .u64 v0, .bool mu0, .slice a1 n1 c1, .slice a2 n2 c2, .slice a3 n3 c3, .int .i64 l0, .int .i64 c0] 29) := ⟨_, rfl⟩
       obtain ⟨I65, hI65, hF65, hsv65⟩ := HSV63.out.slice1 HI63.out hrb (by omega) (t := 29) (cs := [.int .i64 k0, .string nm0, .int .u64 v0, .bool mu0, .slice a1 n1 c1, .slice a2 n2 c2, .slice a3 n3 c3, .int .i64 l0, .int .i64 c0]) (fun Y hY => (HF63.out Y hY).2)
       have HI65 := Lib.hid hI65
       have HF65 := Lib.hid hF65
       have HSV65 : Hid (Sv R v1 b d I65 w65 j63 (.cells #[.int .i64 6, .string noB, .int .i64 0, .string noB, .string noB, .bool false, .slice none 0 0, .slice none 0 0, .int .i64 0, .int .i64 0, .slice none 0 0, .slice none 0 0, .slice none 0 0, .slice none 0 0, .bool false, .int .i64 tk.line, .int .i64 tk.col] 67 (0, 0))) := by show Sv _ _ _ _ _ _ _ _; rw [hw65]; exact hsv65
       clear hI65 hF65 hsv65
       have bt11 := blk_cell HSV65.out.blk 11 _ rfl
       have bz11 := blk_free HSV65.out.blk 11
       rw [hw65] at bt11 bz11
       obtain ⟨v66, hv66⟩ : ∃ v66 : World, v66 = (w65.setCell ⟨b, 11, none⟩ (.slice (some ⟨v63.heap.size, 0, none⟩) 1 1)) := ⟨_, rfl⟩
       have HSV66 : Hid (Sv R v1 b d I65 v66 j63 (.cells #[.int .i64 6, .string noB, .int .i64 0, .string noB, .string noB, .bool false, .slice none 0 0, .slice none 0 0, .int .i64 0, .int .i64 0, .slice none 0 0, .slice (some ⟨v63.heap.size, 0, none⟩) 1 1, .slice none 0 0, .slice none 0 0, .bool false, .int .i64 tk.line, .int .i64 tk.col] 67 (0, 0))) := by show Sv _ _ _ _ _ _ _ _; rw [hv66]; exact (HSV65.out.set HI65.out hrb 11 (.slice (some ⟨v63.heap.size, 0, none⟩) 1 1))
       go_upto_region 16 with fail
       rw [← hw65, ← hv66]
       clear hw65
       clear hv66 p0 bt11 bz11
       have p0 := HKP.out v66 HSV66.out.st
       go_wp2_with fail
       refine (need_any R HL.out v66.heap.size ⟨#[59]⟩ _ j63 d (HSV66.out.rd.quiet ((Step.refl _ _).alloc _)) (by decide) (blk_cell (blk_new _ _) 0 _ rfl)).mono ?_
       rintro e v67 hp
       have hp2 : PPost R d UnitV (needR R.l j63 [59]) _ e v67 := hp
       cases hn : needR R.l j63 [59] with
       | out => exact (needR_out hn).elim
       | err c ln col =>
        rw [hn] at hp2
        obtain ⟨rfl, hs⟩ := hp2
        refine ⟨rfl, PPost.of_err (c := c) (ln := ln) (col := col) (by rw [HE64.out, hn]; rfl) rfl (HBK.out _ (HSV66.out.err (((Step.refl (· = R.rb) _).alloc _).trans hs)))⟩
       | ok u67 j67 =>
        have HN67 := Lib.hid hn
        rw [hn] at hp2
        obtain ⟨⟨v, rfl, rfl⟩, hr, hs⟩ := hp2
        have HSV67 := Lib.hid (HSV66.out.read HI65.out hrb hr (((Step.refl (· = R.rb) _).alloc _).trans hs))
        clear hn hr hs hp p0
        have HE68 : Hid (r = .ok (stMk 6 noB noTy [] [a63] [] [] false tk) j67) := by show _ = _; rw [HE64.out, HN67.out]; rfl
        have p0 := HKP.out v67 HSV67.out.st
        go_upto_region 22 with fail
        have HLD : Hid (∀ (jj : Nat) v, [Value.int .i64 6, .string noB, .int .i64 0, .string noB, .string noB, .bool false, .slice none 0 0, .slice none 0 0, .int .i64 0, .int .i64 0, .slice none 0 0, .slice (some ⟨v63.heap.size, 0, none⟩) 1 1, .slice none 0 0, .slice none 0 0, .bool false, .int .i64 tk.line, .int .i64 tk.col][jj]? = some v → v67.cell? ⟨b, 0 + jj, none⟩ = some v) := by
         show ∀ jj v, _
         intro jj v hv
         rw [Nat.zero_add]; exact blk_cell HSV67.out.blk jj v (by simpa using hv)
        have HONE : Hid (∀ u ∈ [Value.int .i64 6, .string noB, .int .i64 0, .string noB, .string noB, .bool false, .slice none 0 0, .slice none 0 0, .int .i64 0, .int .i64 0, .slice none 0 0, .slice (some ⟨v63.heap.size, 0, none⟩) 1 1, .slice none 0 0, .slice none 0 0, .bool false, .int .i64 tk.line, .int .i64 tk.col], u.oneCell' = true) := oneCells rfl
        have HNX := Lib.hid (HKN.out v67 HSV67.out.st)
        have HEX : Hid (StP v67 (fun q => v1.heap.size ≤ q) (stMk 6 noB noTy [] [a63] [] [] false tk) [.int .i64 6, .string noB, .int .i64 0, .string noB, .string noB, .bool false, .slice none 0 0, .slice none 0 0, .int .i64 0, .int .i64 0, .slice none 0 0, .slice (some ⟨v63.heap.size, 0, none⟩) 1 1, .slice none 0 0, .slice none 0 0, .bool false, .int .i64 tk.line, .int .i64 tk.col]) := StP.mk (by decide) (noTyP _ _) (ExsQ.nil _ _) (HF65.out _ HSV67.out.inv).2 (StsQ.nil _ _) (StsQ.nil _ _)
        clear p0
        go_wp2_with (first
         | (refine wpList_load_whole rfl 67 (.tmp 3) rfl b 0 rfl [Value.int .i64 6, .string noB, .int .i64 0, .string noB, .string noB, .bool false, .slice none 0 0, .slice none 0 0, .int .i64 0, .int .i64 0, .slice none 0 0, .slice (some ⟨v63.heap.size, 0, none⟩) 1 1, .slice none 0 0, .slice none 0 0, .bool false, .int .i64 tk.line, .int .i64 tk.col] _ HLD.out Try.underlying67 rfl Try.sizeStmt ?_)
         | (refine wpList_store_part (w := v67) rfl 67 (.tmp 2) (.tmp 83) rfl (w.heap.size + 1) 0 67 _ [Value.int .i64 6, .string noB, .int .i64 0, .string noB, .string noB, .bool false, .slice none 0 0, .slice none 0 0, .int .i64 0, .int .i64 0, .slice none 0 0, .slice (some ⟨v63.heap.size, 0, none⟩) 1 1, .slice none 0 0, .slice none 0 0, .bool false, .int .i64 tk.line, .int .i64 tk.col] rfl rfl HNX.out Try.sizeStmt (Nat.le_of_eq rfl) HONE.out ?_
            intro wR hbR hstR))
        have hbR' : wR.heap[w.heap.size + 1]? = some (.cells [Value.int .i64 6, .string noB, .int .i64 0, .string noB, .string noB, .bool false, .slice none 0 0, .slice none 0 0, .int .i64 0, .int .i64 0, .slice none 0 0, .slice (some ⟨v63.heap.size, 0, none⟩) 1 1, .slice none 0 0, .slice none 0 0, .bool false, .int .i64 tk.line, .int .i64 tk.col].toArray 67 (0, 0)) := hbR
        refine bodyPost_ret (results_cellB rfl _ (w.heap.size + 1) 67 _ _ rfl hbR' Try.underlying67 rfl Try.sizeStmt) rfl ?_
        refine PPost.of_ok (a := stMk 6 noB noTy [] [a63] [] [] false tk) (j := j67) HE68.out rfl ⟨_, rfl, StP.mono (fun q _ hq => by omega) _ _ (StP.step hstR (fun q hq e => by omega) _ _ HEX.out)⟩ (HSV67.out.rd.step hstR (fun q hq e => by omega)) ((HBK.out _ HSV67.out.st).then hstR (fun q hq e => by omega))
    | false =>
     have HB52 := Lib.hid hb52
     clear hb52
     refine (is_no R HL.out ⟨#[114, 101, 116, 117, 114, 110]⟩ _ i d HSV50.out.rd (by decide) HB52.out).mono ?_
     rintro e v69 ⟨rfl, hr, hs⟩
     have HSV69 := Lib.hid (HSV50.out.read HI0.out hrb hr hs)
     clear hr hs p0
     have HE70 : Hid (r = if isF R.l i [97, 98, 111, 114, 116] then (needR R.l (i + 1) [59]).bind fun _ j => .ok (stMk 7 noB noTy [] [] [] [] false tk) j else if isF R.l i [123] then (blockR f R.l i d).bind fun b j => .ok (stMk 8 noB noTy [] [] b [] false tk) j else (setR f R.l i d).bind fun p j => .ok (stMk (if p.1.length = 0 then 3 else 2) noB noTy p.1 [p.2] [] [] false tk) j) := by show _ = _; rw [HE51.out, HB52.out, if_neg (by decide)]
     have p0 := HKP.out v69 HSV69.out.st
     go_wp2_with fail
     cases hb71 : isF R.l i [97, 98, 111, 114, 116] with
     | true =>
      have HB71 := Lib.hid hb71
      clear hb71
      refine (is_yes R HL.out ⟨#[97, 98, 111, 114, 116]⟩ _ i d HSV69.out.rd (by decide) HB71.out).mono ?_
      rintro e v72 ⟨rfl, hr, hs⟩
      have HSV72 := Lib.hid (HSV69.out.read HI0.out hrb hr hs)
      clear hr hs p0
      have HE73 : Hid (r = (needR R.l (i + 1) [59]).bind fun _ j => .ok (stMk 7 noB noTy [] [] [] [] false tk) j) := by show _ = _; rw [HE70.out, HB71.out, if_pos rfl]
      have p0 := HKP.out v72 HSV72.out.st
      have bt0 := blk_cell HSV72.out.blk 0 _ rfl
      have bz0 := blk_free HSV72.out.blk 0
      obtain ⟨v74, hv74⟩ : ∃ v74 : World, v74 = (v72.setCell ⟨b, 0, none⟩ (.int .i64 7)) := ⟨_, rfl⟩
      have HSV74 : Hid (Sv R v1 b d I0 v74 (i + 1) (.cells #[.int .i64 7, .string noB, .int .i64 0, .string noB, .string noB, .bool false, .slice none 0 0, .slice none 0 0, .int .i64 0, .int .i64 0, .slice none 0 0, .slice none 0 0, .slice none 0 0, .slice none 0 0, .bool false, .int .i64 tk.line, .int .i64 tk.col] 67 (0, 0))) := by show Sv _ _ _ _ _ _ _ _; rw [hv74]; exact (HSV72.out.set HI0.out hrb 0 (.int .i64 7))
      go_upto_region 19 with fail
      rw [← hv74]
      clear hv74 p0 bt0 bz0
      have p0 := HKP.out v74 HSV74.out.st
      go_wp2_with fail
      refine (need_any R HL.out v74.heap.size ⟨#[59]⟩ _ (i + 1) d (HSV74.out.rd.quiet ((Step.refl _ _).alloc _)) (by decide) (blk_cell (blk_new _ _) 0 _ rfl)).mono ?_
      rintro e v75 hp
      have hp2 : PPost R d UnitV (needR R.l (i + 1) [59]) _ e v75 := hp
      cases hn : needR R.l (i + 1) [59] with
      | out => exact (needR_out hn).elim
      | err c ln col =>
       rw [hn] at hp2
       obtain ⟨rfl, hs⟩ := hp2
       refine ⟨rfl, PPost.of_err (c := c) (ln := ln) (col := col) (by rw [HE73.out, hn]; rfl) rfl (HBK.out _ (HSV74.out.err (((Step.refl (· = R.rb) _).alloc _).trans hs)))⟩
      | ok u75 j75 =>
       have HN75 := Lib.hid hn
       rw [hn] at hp2
       obtain ⟨⟨v, rfl, rfl⟩, hr, hs⟩ := hp2
       have HSV75 := Lib.hid (HSV74.out.read HI0.out hrb hr (((Step.refl (· = R.rb) _).alloc _).trans hs))
       clear hn hr hs hp p0
       have HE76 : Hid (r = .ok (stMk 7 noB noTy [] [] [] [] false tk) j75) := by show _ = _; rw [HE73.out, HN75.out]; rfl
       have p0 := HKP.out v75 HSV75.out.st
       go_upto_region 22 with fail
       have HLD : Hid (∀ (jj : Nat) v, [Value.int .i64 7, .string noB, .int .i64 0, .string noB, .string noB, .bool false, .slice none 0 0, .slice none 0 0, .int .i64 0, .int .i64 0, .slice none 0 0, .slice none 0 0, .slice none 0 0, .slice none 0 0, .bool false, .int .i64 tk.line, .int .i64 tk.col][jj]? = some v → v75.cell? ⟨b, 0 + jj, none⟩ = some v) := by
        show ∀ jj v, _
        intro jj v hv
        rw [Nat.zero_add]; exact blk_cell HSV75.out.blk jj v (by simpa using hv)
       have HONE : Hid (∀ u ∈ [Value.int .i64 7, .string noB, .int .i64 0, .string noB, .string noB, .bool false, .slice none 0 0, .slice none 0 0, .int .i64 0, .int .i64 0, .slice none 0 0, .slice none 0 0, .slice none 0 0, .slice none 0 0, .bool false, .int .i64 tk.line, .int .i64 tk.col], u.oneCell' = true) := oneCells rfl
       have HNX := Lib.hid (HKN.out v75 HSV75.out.st)
       have HEX : Hid (StP v75 (fun q => v1.heap.size ≤ q) (stMk 7 noB noTy [] [] [] [] false tk) [.int .i64 7, .string noB, .int .i64 0, .string noB, .string noB, .bool false, .slice none 0 0, .slice none 0 0, .int .i64 0, .int .i64 0, .slice none 0 0, .slice none 0 0, .slice none 0 0, .slice none 0 0, .bool false, .int .i64 tk.line, .int .i64 tk.col]) := StP.mk (by decide) (noTyP _ _) (ExsQ.nil _ _) (ExsQ.nil _ _) (StsQ.nil _ _) (StsQ.nil _ _)
       clear p0
       go_wp2_with (first
        | (refine wpList_load_whole rfl 67 (.tmp 3) rfl b 0 rfl [Value.int .i64 7, .string noB, .int .i64 0, .string noB, .string noB, .bool false, .slice none 0 0, .slice none 0 0, .int .i64 0, .int .i64 0, .slice none 0 0, .slice none 0 0, .slice none 0 0, .slice none 0 0, .bool false, .int .i64 tk.line, .int .i64 tk.col] _ HLD.out Try.underlying67 rfl Try.sizeStmt ?_)
        | (refine wpList_store_part (w := v75) rfl 67 (.tmp 2) (.tmp 83) rfl (w.heap.size + 1) 0 67 _ [Value.int .i64 7, .string noB, .int .i64 0, .string noB, .string noB, .bool false, .slice none 0 0, .slice none 0 0, .int .i64 0, .int .i64 0, .slice none 0 0, .slice none 0 0, .slice none 0 0, .slice none 0 0, .bool false, .int .i64 tk.line, .int .i64 tk.col] rfl rfl HNX.out Try.sizeStmt (Nat.le_of_eq rfl) HONE.out ?_
           intro wR hbR hstR))
       have hbR' : wR.heap[w.heap.size + 1]? = some (.cells [Value.int .i64 7, .string noB, .int .i64 0, .string noB, .string noB, .bool false, .slice none 0 0, .slice none 0 0, .int .i64 0, .int .i64 0, .slice none 0 0, .slice none 0 0, .slice none 0 0, .slice none 0 0, .bool false, .int .i64 tk.line, .int .i64 tk.col].toArray 67 (0, 0)) := hbR
       refine bodyPost_ret (results_cellB rfl _ (w.heap.size + 1) 67 _ _ rfl hbR' Try.underlying67 rfl Try.sizeStmt) rfl ?_
       refine PPost.of_ok (a := stMk 7 noB noTy [] [] [] [] false tk) (j := j75) HE76.out rfl ⟨_, rfl, StP.mono (fun q _ hq => by omega) _ _ (StP.step hstR (fun q hq e => by omega) _ _ HEX.out)⟩ (HSV75.out.rd.step hstR (fun q hq e => by omega)) ((HBK.out _ HSV75.out.st).then hstR (fun q hq e => by omega))
     | false =>
      have HB71 := Lib.hid hb71
      clear hb71
      refine (is_no R HL.out ⟨#[97, 98, 111, 114, 116]⟩ _ i d HSV69.out.rd (by decide) HB71.out).mono ?_
      rintro e v77 ⟨rfl, hr, hs⟩
      have HSV77 := Lib.hid (HSV69.out.read HI0.out hrb hr hs)
      clear hr hs p0
      have HE78 : Hid (r = if isF R.l i [123] then (blockR f R.l i d).bind fun b j => .ok (stMk 8 noB noTy [] [] b [] false tk) j else (setR f R.l i d).bind fun p j => .ok (stMk (if p.1.length = 0 then 3 else 2) noB noTy p.1 [p.2] [] [] false tk) j) := by show _ = _; rw [HE70.out, HB71.out, if_neg (by decide)]
      have p0 := HKP.out v77 HSV77.out.st
      go_wp2_with fail
      cases hb79 : isF R.l i [123] with
      | true =>
       have HB79 := Lib.hid hb79
       clear hb79
       refine (sees_any R ⟨#[123]⟩ _ i d HSV77.out.rd (by decide) true HB79.out).mono ?_
       rintro e v80 ⟨rfl, hs⟩
       have HSV80 := Lib.hid (HSV77.out.quiet HI0.out hs)
       clear hs p0
       have HE81 : Hid (r = (blockR f R.l i d).bind fun b j => .ok (stMk 8 noB noTy [] [] b [] false tk) j) := by show _ = _; rw [HE78.out, HB79.out, if_pos rfl]
       have p0 := HKP.out v80 HSV80.out.st
       go_wp2_with fail
       refine (IHB.out R _ i d HL.out HSV80.out.rd hd (fun e => HNO.out (by rw [HE81.out, e]; rfl))).mono ?_
       rintro e v82 hp
       have hp2 : PPost R d (StsV v80.heap.size) (blockR f R.l i d) _ e v82 := hp
       cases hn : blockR f R.l i d with
       | out => exact absurd (by rw [HE81.out, hn]; rfl) HNO.out
       | err c ln col =>
        rw [hn] at hp2
        obtain ⟨rfl, hs⟩ := hp2
        refine ⟨rfl, PPost.of_err (c := c) (ln := ln) (col := col) (by rw [HE81.out, hn]; rfl) rfl (HBK.out _ (HSV80.out.err hs))⟩
       | ok a82 j82 =>
        have HN82 := Lib.hid hn
        rw [hn] at hp2
        obtain ⟨⟨v, rfl, hv⟩, hr, hs⟩ := hp2
        obtain ⟨la, lc, rfl⟩ := StsQ.parts hv
        obtain ⟨I82, hI82, hF82, hsv82⟩ := HSV80.out.got stsQ_ok HI0.out hrb (by omega) hr hs (At := StsQ) hv
        have HI82 := Lib.hid hI82
        have HF82 := Lib.hid hF82
        have HSV82 := Lib.hid hsv82
        clear hn hr hs hp hv hI82 hF82 hsv82 p0
        have HE83 : Hid (r = .ok (stMk 8 noB noTy [] [] a82 [] false tk) j82) := by show _ = _; rw [HE81.out, HN82.out]; rfl
        have p0 := HKP.out v82 HSV82.out.st
        have bt0 := blk_cell HSV82.out.blk 0 _ rfl
        have bz0 := blk_free HSV82.out.blk 0
        have bt12 := blk_cell HSV82.out.blk 12 _ rfl
        have bz12 := blk_free HSV82.out.blk 12
        obtain ⟨v84, hv84⟩ : ∃ v84 : World, v84 = ((v82.setCell ⟨b, 0, none⟩ (.int .i64 8)).setCell ⟨b, 12, none⟩ (.slice la a82.length lc)) := ⟨_, rfl⟩
        have HSV84 : Hid (Sv R v1 b d I82 v84 j82 (.cells #[.int .i64 8, .string noB, .int .i64 0, .string noB, .string noB, .bool false, .slice none 0 0, .slice none 0 0, .int .i64 0, .int .i64 0, .slice none 0 0, .slice none 0 0, .slice la a82.length lc, .slice none 0 0, .bool false, .int .i64 tk.line, .int .i64 tk.col] 67 (0, 0))) := by show Sv _ _ _ _ _ _ _ _; rw [hv84]; exact ((HSV82.out.set HI82.out hrb 0 (.int .i64 8)).set HI82.out hrb 12 (.slice la a82.length lc))
        go_upto_region 22 with fail
        rw [← hv84]
        clear hv84 p0 bt0 bz0 bt12 bz12
        have p0 := HKP.out v84 HSV84.out.st
        have HLD : Hid (∀ (jj : Nat) v, [Value.int .i64 8, .string noB, .int .i64 0, .string noB, .string noB, .bool false, .slice none 0 0, .slice none 0 0, .int .i64 0, .int .i64 0, .slice none 0 0, .slice none 0 0, .slice la a82.length lc, .slice none 0 0, .bool false, .int .i64 tk.line, .int .i64 tk.col][jj]? = some v → v84.cell? ⟨b, 0 + jj, none⟩ = some v) := by
         show ∀ jj v, _
         intro jj v hv
         rw [Nat.zero_add]; exact blk_cell HSV84.out.blk jj v (by simpa using hv)
        have HONE : Hid (∀ u ∈ [Value.int .i64 8, .string noB, .int .i64 0, .string noB, .string noB, .bool false, .slice none 0 0, .slice none 0 0, .int .i64 0, .int .i64 0, .slice none 0 0, .slice none 0 0, .slice la a82.length lc, .slice none 0 0, .bool false, .int .i64 tk.line, .int .i64 tk.col], u.oneCell' = true) := oneCells rfl
        have HNX := Lib.hid (HKN.out v84 HSV84.out.st)
        have HEX : Hid (StP v84 (fun q => v1.heap.size ≤ q) (stMk 8 noB noTy [] [] a82 [] false tk) [.int .i64 8, .string noB, .int .i64 0, .string noB, .string noB, .bool false, .slice none 0 0, .slice none 0 0, .int .i64 0, .int .i64 0, .slice none 0 0, .slice none 0 0, .slice la a82.length lc, .slice none 0 0, .bool false, .int .i64 tk.line, .int .i64 tk.col]) := StP.mk (by decide) (noTyP _ _) (ExsQ.nil _ _) (ExsQ.nil _ _) (HF82.out _ HSV84.out.inv).2 (StsQ.nil _ _)
        clear p0
        go_wp2_with (first
         | (refine wpList_load_whole rfl 67 (.tmp 3) rfl b 0 rfl [Value.int .i64 8, .string noB, .int .i64 0, .string noB, .string noB, .bool false, .slice none 0 0, .slice none 0 0, .int .i64 0, .int .i64 0, .slice none 0 0, .slice none 0 0, .slice la a82.length lc, .slice none 0 0, .bool false, .int .i64 tk.line, .int .i64 tk.col] _ HLD.out Try.underlying67 rfl Try.sizeStmt ?_)
         | (refine wpList_store_part (w := v84) rfl 67 (.tmp 2) (.tmp 83) rfl (w.heap.size + 1) 0 67 _ [Value.int .i64 8, .string noB, .int .i64 0, .string noB, .string noB, .bool false, .slice none 0 0, .slice none 0 0, .int .i64 0, .int .i64 0, .slice none 0 0, .slice none 0 0, .slice la a82.length lc, .slice none 0 0, .bool false, .int .i64 tk.line, .int .i64 tk.col] rfl rfl HNX.out Try.sizeStmt (Nat.le_of_eq rfl) HONE.out ?_
            intro wR hbR hstR))
        have hbR' : wR.heap[w.heap.size + 1]? = some (.cells [Value.int .i64 8, .string noB, .int .i64 0, .string noB, .string noB, .bool false, .slice none 0 0, .slice none 0 0, .int .i64 0, .int .i64 0, .slice none 0 0, .slice none 0 0, .slice la a82.length lc, .slice none 0 0, .bool false, .int .i64 tk.line, .int .i64 tk.col].toArray 67 (0, 0)) := hbR
        refine bodyPost_ret (results_cellB rfl _ (w.heap.size + 1) 67 _ _ rfl hbR' Try.underlying67 rfl Try.sizeStmt) rfl ?_
        refine PPost.of_ok (a := stMk 8 noB noTy [] [] a82 [] false tk) (j := j82) HE83.out rfl ⟨_, rfl, StP.mono (fun q _ hq => by omega) _ _ (StP.step hstR (fun q hq e => by omega) _ _ HEX.out)⟩ (HSV84.out.rd.step hstR (fun q hq e => by omega)) ((HBK.out _ HSV84.out.st).then hstR (fun q hq e => by omega))
      | false =>
       have HB79 := Lib.hid hb79
       clear hb79
       refine (sees_any R ⟨#[123]⟩ _ i d HSV77.out.rd (by decide) false HB79.out).mono ?_
       rintro e v85 ⟨rfl, hs⟩
       have HSV85 := Lib.hid (HSV77.out.quiet HI0.out hs)
       clear hs p0
       have HE86 : Hid (r = (setR f R.l i d).bind fun p j => .ok (stMk (if p.1.length = 0 then 3 else 2) noB noTy p.1 [p.2] [] [] false tk) j) := by show _ = _; rw [HE78.out, HB79.out, if_neg (by decide)]
       have p0 := HKP.out v85 HSV85.out.st
       go_wp2_with fail
       refine (IHS.out R _ i d b tk HL.out HSV85.out.rd hd hrb HSV85.out.blk (fun e => HNO.out (by rw [HE86.out, e]; rfl))).mono ?_
       rintro e v87 hp
       have hp2 : CloPost R d b (SetLeft v85.heap.size b tk) (setR f R.l i d) _ e v87 := hp
       cases hn : setR f R.l i d with
       | out => exact absurd (by rw [HE86.out, hn]; rfl) HNO.out
       | err c ln col =>
        rw [hn] at hp2
        obtain ⟨rfl, hs⟩ := hp2
        exact ⟨rfl, PPost.of_err (c := c) (ln := ln) (col := col) (by rw [HE86.out, hn]; rfl) rfl (HBK.out _ (HSV85.out.st.trans hs))⟩
       | ok p87 j87 =>
        have HN87 := Lib.hid hn
        rw [hn] at hp2
        obtain ⟨rfl, hleft, hr, hs⟩ := hp2
        obtain ⟨xp, xe, vp, ve, hblk, hxp, hrp, hxe, hre⟩ := hleft
        obtain ⟨sa, sc, rfl⟩ := hre.parts
        obtain ⟨sp, spc, rfl⟩ := hrp.parts
        have HPQ : Hid (ExsQ _ _ p87.1 _) := ⟨_, hrp, hxp⟩
        have HXQ : Hid (ExsQ _ _ [p87.2] _) := ⟨_, hre, hxe⟩
        clear hrp hxp hxe hre
        obtain ⟨kk, hkk⟩ : ∃ kk : Int, kk = (if p87.1.length = 0 then 3 else 2) := ⟨_, rfl⟩
        rw [← hkk] at hblk
        have HKK := Lib.hid hkk
        clear hkk
        have HSVx : Hid (Sv R v1 b d I0 v87 j87 (.cells #[.int .i64 kk, .string noB, .int .i64 0, .string noB, .string noB, .bool false, .slice none 0 0, .slice none 0 0, .int .i64 0, .int .i64 0, .slice sp p87.1.length spc, .slice sa 1 sc, .slice none 0 0, .slice none 0 0, .bool false, .int .i64 tk.line, .int .i64 tk.col] 67 (0, 0))) := HSV85.out.write HI0.out hr hblk hs
        have hsz := HSV85.out.st.size
        obtain ⟨I87, hI87, hF87, hsv87⟩ := HSVx.out.keep HI0.out (J := fun X => ExsQ X (fun q => v1.heap.size ≤ q) p87.1 (.slice sp p87.1.length spc) ∧ ExsQ X (fun q => v1.heap.size ≤ q) [p87.2] (.slice sa 1 sc)) (Stab.and (Stab.at exsQ_ok hrb (by omega) _ _) (Stab.at exsQ_ok hrb (by omega) _ _)) (⟨exsQ_ok.mono _ _ (fun q _ hq => by omega) HPQ.out, exsQ_ok.mono _ _ (fun q _ hq => by omega) HXQ.out⟩)
        have HI87 := Lib.hid hI87
        have HF87 := Lib.hid hF87
        have HSV87 := Lib.hid hsv87
        clear hI87 hF87 hsv87
        clear hn hr hs hp hblk p0
        have HE88 : Hid (r = .ok (stMk kk noB noTy p87.1 [p87.2] [] [] false tk) j87) := by show _ = _; rw [HE86.out, HN87.out]; rw [HKK.out]; rfl
        have p0 := HKP.out v87 HSV87.out.st
        go_upto_region 22 with fail
        have HLD : Hid (∀ (jj : Nat) v, [Value.int .i64 kk, .string noB, .int .i64 0, .string noB, .string noB, .bool false, .slice none 0 0, .slice none 0 0, .int .i64 0, .int .i64 0, .slice sp p87.1.length spc, .slice sa 1 sc, .slice none 0 0, .slice none 0 0, .bool false, .int .i64 tk.line, .int .i64 tk.col][jj]? = some v → v87.cell? ⟨b, 0 + jj, none⟩ = some v) := by
         show ∀ jj v, _
         intro jj v hv
         rw [Nat.zero_add]; exact blk_cell HSV87.out.blk jj v (by simpa using hv)
        have HONE : Hid (∀ u ∈ [Value.int .i64 kk, .string noB, .int .i64 0, .string noB, .string noB, .bool false, .slice none 0 0, .slice none 0 0, .int .i64 0, .int .i64 0, .slice sp p87.1.length spc, .slice sa 1 sc, .slice none 0 0, .slice none 0 0, .bool false, .int .i64 tk.line, .int .i64 tk.col], u.oneCell' = true) := oneCells rfl
        have HNX := Lib.hid (HKN.out v87 HSV87.out.st)
        have HEX : Hid (StP v87 (fun q => v1.heap.size ≤ q) (stMk kk noB noTy p87.1 [p87.2] [] [] false tk) [.int .i64 kk, .string noB, .int .i64 0, .string noB, .string noB, .bool false, .slice none 0 0, .slice none 0 0, .int .i64 0, .int .i64 0, .slice sp p87.1.length spc, .slice sa 1 sc, .slice none 0 0, .slice none 0 0, .bool false, .int .i64 tk.line, .int .i64 tk.col]) := StP.mk (by decide) (noTyP _ _) (HF87.out _ HSV87.out.inv).2.1 (HF87.out _ HSV87.out.inv).2.2 (StsQ.nil _ _) (StsQ.nil _ _)
        clear p0
        go_wp2_with (first
         | (refine wpList_load_whole rfl 67 (.tmp 3) rfl b 0 rfl [Value.int .i64 kk, .string noB, .int .i64 0, .string noB, .string noB, .bool false, .slice none 0 0, .slice none 0 0, .int .i64 0, .int .i64 0, .slice sp p87.1.length spc, .slice sa 1 sc, .slice none 0 0, .slice none 0 0, .bool false, .int .i64 tk.line, .int .i64 tk.col] _ HLD.out Try.underlying67 rfl Try.sizeStmt ?_)
         | (refine wpList_store_part (w := v87) rfl 67 (.tmp 2) (.tmp 83) rfl (w.heap.size + 1) 0 67 _ [Value.int .i64 kk, .string noB, .int .i64 0, .string noB, .string noB, .bool false, .slice none 0 0, .slice none 0 0, .int .i64 0, .int .i64 0, .slice sp p87.1.length spc, .slice sa 1 sc, .slice none 0 0, .slice none 0 0, .bool false, .int .i64 tk.line, .int .i64 tk.col] rfl rfl HNX.out Try.sizeStmt (Nat.le_of_eq rfl) HONE.out ?_
            intro wR hbR hstR))
        have hbR' : wR.heap[w.heap.size + 1]? = some (.cells [Value.int .i64 kk, .string noB, .int .i64 0, .string noB, .string noB, .bool false, .slice none 0 0, .slice none 0 0, .int .i64 0, .int .i64 0, .slice sp p87.1.length spc, .slice sa 1 sc, .slice none 0 0, .slice none 0 0, .bool false, .int .i64 tk.line, .int .i64 tk.col].toArray 67 (0, 0)) := hbR
        refine bodyPost_ret (results_cellB rfl _ (w.heap.size + 1) 67 _ _ rfl hbR' Try.underlying67 rfl Try.sizeStmt) rfl ?_
        refine PPost.of_ok (a := stMk kk noB noTy p87.1 [p87.2] [] [] false tk) (j := j87) HE88.out rfl ⟨_, rfl, StP.mono (fun q _ hq => by omega) _ _ (StP.step hstR (fun q hq e => by omega) _ _ HEX.out)⟩ (HSV87.out.rd.step hstR (fun q hq e => by omega)) ((HBK.out _ HSV87.out.st).then hstR (fun q hq e => by omega))
end Go.Proofs.Ytppekkbaoimpgaa
