/- Pri, Rj -/
import Derived.Test.YtppekkbaoimpgaaPkF
set_option maxRecDepth 100000
set_option maxHeartbeats 8000000
namespace Go.Proofs.Ytppekkbaoimpgaa
open Go.RowKit
theorem made_bind {β : Type} (f : Nat) (l : List Tok) (i d : Nat) (g : ByteArray → List ByteArray → List Ex → Nat → Res β) :
  ((nameR l i).bind fun n j => (needR l j [123]).bind fun _ j => if isF l j [125] then g n [] [] (j + 1) else (madeR f l j d [] []).bind fun p j => g n p.1 p.2 j) = (madeF f l i d).bind fun p j => g p.1 p.2.1 p.2.2 j := by
 unfold madeF
 rw [Res.bind_assoc]
 congr 1
 funext n j
 rw [Res.bind_assoc]
 congr 1
 funext _ j
 split
 ·rfl
 ·rw [Res.bind_assoc]; rfl
theorem prim_step (f : Nat) (ihE : LevelOk f) (ihO : OneOk f) (ihI : ListOk f) (ihM : MadeOk f) (ihC : ClosOk f) : PrimOk (f + 1) := by
 intro R w i d hl h hd hno
 have HL := Lib.hid hl
 have IHE := Lib.hid ihE
 have IHO := Lib.hid ihO
 have IHI := Lib.hid ihI
 have IHM := Lib.hid ihM
 have IHC := Lib.hid ihC
 obtain ⟨r, hr⟩ : ∃ r, r = primR (f + 1) R.l i d := ⟨_, rfl⟩
 obtain ⟨tk, htk⟩ : ∃ tk, tk = tokA R.l i := ⟨_, rfl⟩
 have HRR : Hid (r = if tk.kind = 3 then .ok (exMk 1 noB (tk.val) false [] [] [] tk) (i + 1) else if tk.kind = 4 then .ok (exMk 3 noB (tk.val) false [] [] [] tk) (i + 1) else if isF R.l i [116, 114, 117, 101] then .ok (exMk 2 noB (1) false [] [] [] tk) (i + 1) else if isF R.l i [102, 97, 108, 115, 101] then .ok (exMk 2 noB (0) false [] [] [] tk) (i + 1) else if isF R.l i [99, 104, 111, 111, 115, 101] then .ok (exMk 16 noB (0) false [] [] [] tk) (i + 1) else if isF R.l i [66, 111, 120] then (oneR f R.l (i + 1) d).bind fun x j => .ok (exMk 9 noB (0) false [x] [] [] tk) j else if isF R.l i [117, 110, 98, 111, 120] then (oneR f R.l (i + 1) d).bind fun x j => .ok (exMk 10 noB (0) false [x] [] [] tk) j else if isF R.l i [110, 101, 119] then (nameR R.l (i + 1)).bind fun n j => (needR R.l j [123]).bind fun _ j => if isF R.l j [125] then .ok (exMk 11 n (0) false [] [] [] tk) (j + 1) else (madeR f R.l j d [] []).bind fun p j => .ok (exMk 11 n (0) false p.2 p.1 [] tk) j else if isF R.l i [97, 115] then (nameR R.l (i + 1)).bind fun n j => (needR R.l j [124]).bind fun _ j => (if isF R.l j [124] then .ok [] (j + 1) else barsR f R.l j []).bind fun ns j => (blockR f R.l j d).bind fun b j => .ok (exMk 17 n (0) false [] ns b tk) j else if isF R.l i [40] then if isF R.l (i + 1) [41] then .ok (exMk 4 noB (0) false [] [] [] tk) (i + 2) else (levelR f R.l (i + 1) d 0).bind fun x j => (needR R.l j [41]).bind fun _ j => .ok (exMk 18 noB (0) false [x] [] [] tk) j else if isF R.l i [115, 101, 108, 102] then .ok (exMk 5 (toB [115, 101, 108, 102]) (0) false [] [] [] tk) (i + 1) else (nameR R.l i).bind fun n j => if isF R.l j [40] then (listR f R.l (j + 1) d).bind fun al j => .ok (exMk 12 n (0) false al [] [] tk) j else .ok (exMk 5 n (0) false [] [] [] tk) j) := by show _ = _; rw [hr, primR, ← htk]
 rw [← hr] at hno ⊢
 have HNO := Lib.hid hno
 have hrlt := blk_lt h.blk
 obtain ⟨w1, hw1⟩ : ∃ w1 : World, w1 = (w.alloc (.cells #[.pointer (some ⟨R.rb, 0, none⟩)] 45)).alloc (.cells #[.int .i64 0, .string ⟨#[]⟩, .int .u64 0, .bool false, .slice none 0 0, .slice none 0 0, .slice none 0 0, .int .i64 0, .int .i64 0] 29) := ⟨_, rfl⟩
 have HS1 : Hid (Step (fun _ => False) w w1) := by show Step _ _ _; rw [hw1]; exact ((Step.refl _ _).alloc _).alloc _
 have HP1 : Hid (w1.heap[w.heap.size]? = some (.cells #[.pointer (some ⟨R.rb, 0, none⟩)] 45 (0, 0))) := by show _ = _; rw [hw1]; exact blk_alloc (blk_new _ _)
 have HN1 : Hid (w1.heap[w.heap.size + 1]? = some (.cells #[.int .i64 0, .string ⟨#[]⟩, .int .u64 0, .bool false, .slice none 0 0, .slice none 0 0, .slice none 0 0, .int .i64 0, .int .i64 0] 29 (0, 0))) := by show _ = _; rw [hw1]; exact blk_new2 _ _ _
 have HW1 := Lib.hid hw1
 have H1 := Lib.hid (h.quiet HS1.out)
 have HT := Lib.hid (show R.l[i]? = some tk by rw [htk]; exact h.tok)
 have p0 : w1.cell? ⟨w.heap.size, 0, none⟩ = some (.pointer (some ⟨R.rb, 0, none⟩)) := blk_cell HP1.out 0 _ rfl
 have HAT := Lib.hid (at_at R w1 i d tk H1.out HT.out)
 have hfd0 : ∀ (a0 a1 a2 a3 a4 : Value) (w : World), (Instr.field 73 (.agg #[a0, a1, a2, a3, a4]) 0).run Try.prog w = .ok a0 w := fun _ _ _ _ _ _ => by kernel_rfl
 have hfd3 : ∀ (a0 a1 a2 a3 a4 : Value) (w : World), (Instr.field 73 (.agg #[a0, a1, a2, a3, a4]) 3).run Try.prog w = .ok a4 w := fun _ _ _ _ _ _ => by kernel_rfl
 clear ihE ihO ihI ihM ihC hl h hno hr hw1 htk
 go_enter Try.func55, Try.ntmps55
 go_upto_region 1 with fail
 rw [← HW1.out]
 go_wp2_with fail
 refine HAT.out.mono ?_
 rintro e w2 ⟨rfl, h2⟩
 have HS2 := Lib.hid (HS1.out.trans h2)
 have HP2 := Lib.hid (h2.keep HP1.out (fun h => h))
 have HN2 := Lib.hid (h2.keep HN1.out (fun h => h))
 have hn1 := blk_lt HN2.out
 obtain ⟨v1, hv1⟩ : ∃ v1 : World, v1 = w2.alloc (.cells #[.int .i64 0, .string noB, .int .u64 0, .bool false, .slice none 0 0, .slice none 0 0, .slice none 0 0, .int .i64 tk.line, .int .i64 tk.col] 29) := ⟨_, rfl⟩
 have HS23 : Hid (Step (fun _ => False) w2 v1) := by show Step _ _ _; rw [hv1]; exact (Step.refl _ _).alloc _
 have HB3 : Hid (v1.heap[w2.heap.size]? = some (.cells #[.int .i64 0, .string noB, .int .u64 0, .bool false, .slice none 0 0, .slice none 0 0, .slice none 0 0, .int .i64 tk.line, .int .i64 tk.col] 29 (0, 0))) := by show _ = _; rw [hv1]; exact blk_new _ _
 have HS3 := Lib.hid (HS2.out.trans HS23.out)
 have HP3 := Lib.hid (HS23.out.keep HP2.out (fun h => h))
 have HN3 := Lib.hid (HS23.out.keep HN2.out (fun h => h))
 have H3 := Lib.hid (H1.out.quiet (h2.trans HS23.out))
 have HW3 := Lib.hid hv1
 have hbv := blk_lt HB3.out
 clear h2 hv1 p0
 go_upto_region 2 with fail
 have hx3 : w2.alloc (.cells #[.int .i64 0, .string ⟨#[]⟩, .int .u64 0, .bool false, .slice none 0 0, .slice none 0 0, .slice none 0 0, .int .i64 tk.line, .int .i64 tk.col] 29) = v1 := HW3.out.symm
 rw [hx3]
 clear hx3
 obtain ⟨b, hb⟩ : ∃ b, b = w2.heap.size := ⟨_, rfl⟩
 rw [← hb] at HB3 hbv ⊢
 have hs1 := HS1.out.size
 have hrb : R.rb < b := by omega
 have hbw : w.heap.size + 1 < b := by omega
 have HBK : Hid (∀ X : World, Step (fun q => q = R.rb ∨ q = b) v1 X → Step (· = R.rb) w X) := by
  show ∀ X, _
  intro X hX
  exact (HS3.out.mono (fun _ _ h => h.elim)).then hX (fun q hq e => by omega)
 have HKP : Hid (∀ X : World, Step (fun q => q = R.rb ∨ q = b) v1 X → X.cell? ⟨w.heap.size, 0, none⟩ = some (.pointer (some ⟨R.rb, 0, none⟩))) := by
  show ∀ X, _
  intro X hX
  exact blk_cell (hX.keep HP3.out (by omega)) 0 _ rfl
 have HKN : Hid (∀ X : World, Step (fun q => q = R.rb ∨ q = b) v1 X → X.heap[w.heap.size + 1]? = some (.cells #[.int .i64 0, .string ⟨#[]⟩, .int .u64 0, .bool false, .slice none 0 0, .slice none 0 0, .slice none 0 0, .int .i64 0, .int .i64 0] 29 (0, 0))) := by
  show ∀ X, _
  intro X hX
  exact hX.keep HN3.out (by omega)
 have hsz3 := HS3.out.size
 obtain ⟨I0, hI0, -, hsv0⟩ := Sv.keep (R := R) (w1 := v1) (b := b) (d := d) (I := fun _ => True) (X := v1) (i := i) (o := .cells #[.int .i64 0, .string noB, .int .u64 0, .bool false, .slice none 0 0, .slice none 0 0, .slice none 0 0, .int .i64 tk.line, .int .i64 tk.col] 29 (0, 0)) ⟨H3.out, HB3.out, Step.refl _ _, trivial⟩ Stab.yes Stab.yes trivial
 have HI0 := Lib.hid hI0
 have HSV0 := Lib.hid hsv0
 clear hb hs1 hI0 hsv0
 have p0 := HKP.out v1 (Step.refl _ _)
 go_wp2_with fail
 refine (peek_at R _ i d tk HSV0.out.rd HT.out).mono ?_
 rintro e w4 ⟨rfl, h4⟩
 obtain ⟨v2, hv2⟩ : ∃ v2 : World, v2 = w4.alloc (.cells #[.int .i64 tk.kind, .string ⟨tk.text.toArray⟩, .int .i64 tk.line, .int .i64 tk.col, .int .u64 tk.val] 73) := ⟨_, rfl⟩
 have HS24 : Hid (Step (fun _ => False) v1 v2) := by show Step _ _ _; rw [hv2]; exact h4.alloc _
 have HTK : Hid (v2.heap[w4.heap.size]? = some (.cells #[.int .i64 tk.kind, .string ⟨tk.text.toArray⟩, .int .i64 tk.line, .int .i64 tk.col, .int .u64 tk.val] 73 (0, 0))) := by show _ = _; rw [hv2]; exact blk_new _ _
 have HSV2 := Lib.hid (HSV0.out.quiet HI0.out HS24.out)
 have hz4 := h4.size
 clear h4 p0
 go_upto_region 3 with fail
 rw [← hv2]
 have k0 := blk_cell HTK.out 0 _ rfl
 clear hv2
 have p0 := HKP.out v2 HSV2.out.st
 by_cases hk3 : tk.kind = 3
 ·
  have e1 : ((tk.kind : Int) == 3) = true := by rw [kindN tk.kind 3 3 rfl, hk3]; rfl
  have HE21 : Hid (r = .ok (exMk 1 noB (tk.val) false [] [] [] tk) (i + 1)) := by show _ = _; rw [HRR.out, if_pos hk3]
  have HK0 : Hid (tk.kind ≠ 0) := by show _ ≠ _; omega
  go_wp2_with fail
  refine (next_at R HL.out _ i d tk HSV2.out.rd HT.out HK0.out).mono ?_
  rintro e v22 ⟨rfl, hr, hs⟩
  have HSV22 := Lib.hid (HSV2.out.read HI0.out hrb hr hs)
  clear hr hs p0 k0
  have p0 := HKP.out v22 HSV22.out.st
  have bt0 := blk_cell HSV22.out.blk 0 _ rfl
  have bz0 := blk_free HSV22.out.blk 0
  have bt2 := blk_cell HSV22.out.blk 2 _ rfl
  have bz2 := blk_free HSV22.out.blk 2
  obtain ⟨v23, hv23⟩ : ∃ v23 : World, v23 = ((v22.setCell ⟨b, 0, none⟩ (.int .i64 1)).setCell ⟨b, 2, none⟩ (.int .u64 tk.val)) := ⟨_, rfl⟩
  have HSV23 : Hid (Sv R v1 b d I0 v23 (i + 1) (.cells #[.int .i64 1, .string noB, .int .u64 tk.val, .bool false, .slice none 0 0, .slice none 0 0, .slice none 0 0, .int .i64 tk.line, .int .i64 tk.col] 29 (0, 0))) := by show Sv _ _ _ _ _ _ _ _; rw [hv23]; exact ((HSV22.out.set HI0.out hrb 0 (.int .i64 1)).set HI0.out hrb 2 (.int .u64 tk.val))
  go_upto_region 6 with fail
  rw [← hv23]
  clear hv23 p0 bt0 bz0 bt2 bz2
  have p0 := HKP.out v23 HSV23.out.st
  have HLD : Hid (∀ (jj : Nat) v, [Value.int .i64 1, .string noB, .int .u64 tk.val, .bool false, .slice none 0 0, .slice none 0 0, .slice none 0 0, .int .i64 tk.line, .int .i64 tk.col][jj]? = some v → v23.cell? ⟨b, 0 + jj, none⟩ = some v) := by
   show ∀ jj v, _
   intro jj v hv
   rw [Nat.zero_add]; exact blk_cell HSV23.out.blk jj v (by simpa using hv)
  have HONE : Hid (∀ u ∈ [Value.int .i64 1, .string noB, .int .u64 tk.val, .bool false, .slice none 0 0, .slice none 0 0, .slice none 0 0, .int .i64 tk.line, .int .i64 tk.col], u.oneCell' = true) := oneCells rfl
  have HNX := Lib.hid (HKN.out v23 HSV23.out.st)
  have HEX : Hid (ExP v23 (fun q => v1.heap.size ≤ q) (exMk 1 noB tk.val false [] [] [] tk) [.int .i64 1, .string noB, .int .u64 tk.val, .bool false, .slice none 0 0, .slice none 0 0, .slice none 0 0, .int .i64 tk.line, .int .i64 tk.col]) := ExQ.mk (by decide) (ExsQ.nil _ _) (NamesQ.nil _ _) (StsQ.nil _ _)
  clear p0
  go_wp2_with (first
   | (refine wpList_load_whole rfl 29 (.tmp 3) rfl b 0 rfl [Value.int .i64 1, .string noB, .int .u64 tk.val, .bool false, .slice none 0 0, .slice none 0 0, .slice none 0 0, .int .i64 tk.line, .int .i64 tk.col] _ HLD.out Try.underlying29 rfl Try.sizeExpr ?_)
   | (refine wpList_store_part (w := v23) rfl 29 (.tmp 2) (.tmp 22) rfl (w.heap.size + 1) 0 29 _ [Value.int .i64 1, .string noB, .int .u64 tk.val, .bool false, .slice none 0 0, .slice none 0 0, .slice none 0 0, .int .i64 tk.line, .int .i64 tk.col] rfl rfl HNX.out Try.sizeExpr (Nat.le_of_eq rfl) HONE.out ?_
      intro wR hbR hstR))
  have hbR' : wR.heap[w.heap.size + 1]? = some (.cells [Value.int .i64 1, .string noB, .int .u64 tk.val, .bool false, .slice none 0 0, .slice none 0 0, .slice none 0 0, .int .i64 tk.line, .int .i64 tk.col].toArray 29 (0, 0)) := hbR
  refine bodyPost_ret (results_cellB rfl _ (w.heap.size + 1) 29 _ _ rfl hbR' Try.underlying29 rfl Try.sizeExpr) rfl ?_
  refine PPost.of_ok (a := exMk 1 noB tk.val false [] [] [] tk) (j := (i + 1)) HE21.out rfl ⟨_, rfl, ExP.mono (fun q _ hq => by omega) _ _ (ExP.step hstR (fun q hq e => by omega) _ _ HEX.out)⟩ (HSV23.out.rd.step hstR (fun q hq e => by omega)) ((HBK.out _ HSV23.out.st).then hstR (fun q hq e => by omega))
 ·
  have e1 : ((tk.kind : Int) == 3) = false := by rw [kindN tk.kind 3 3 rfl, beq_eq_false_iff_ne.2 hk3]
  have HE24 : Hid (r = if tk.kind = 4 then .ok (exMk 3 noB (tk.val) false [] [] [] tk) (i + 1) else if isF R.l i [116, 114, 117, 101] then .ok (exMk 2 noB (1) false [] [] [] tk) (i + 1) else if isF R.l i [102, 97, 108, 115, 101] then .ok (exMk 2 noB (0) false [] [] [] tk) (i + 1) else if isF R.l i [99, 104, 111, 111, 115, 101] then .ok (exMk 16 noB (0) false [] [] [] tk) (i + 1) else if isF R.l i [66, 111, 120] then (oneR f R.l (i + 1) d).bind fun x j => .ok (exMk 9 noB (0) false [x] [] [] tk) j else if isF R.l i [117, 110, 98, 111, 120] then (oneR f R.l (i + 1) d).bind fun x j => .ok (exMk 10 noB (0) false [x] [] [] tk) j else if isF R.l i [110, 101, 119] then (nameR R.l (i + 1)).bind fun n j => (needR R.l j [123]).bind fun _ j => if isF R.l j [125] then .ok (exMk 11 n (0) false [] [] [] tk) (j + 1) else (madeR f R.l j d [] []).bind fun p j => .ok (exMk 11 n (0) false p.2 p.1 [] tk) j else if isF R.l i [97, 115] then (nameR R.l (i + 1)).bind fun n j => (needR R.l j [124]).bind fun _ j => (if isF R.l j [124] then .ok [] (j + 1) else barsR f R.l j []).bind fun ns j => (blockR f R.l j d).bind fun b j => .ok (exMk 17 n (0) false [] ns b tk) j else if isF R.l i [40] then if isF R.l (i + 1) [41] then .ok (exMk 4 noB (0) false [] [] [] tk) (i + 2) else (levelR f R.l (i + 1) d 0).bind fun x j => (needR R.l j [41]).bind fun _ j => .ok (exMk 18 noB (0) false [x] [] [] tk) j else if isF R.l i [115, 101, 108, 102] then .ok (exMk 5 (toB [115, 101, 108, 102]) (0) false [] [] [] tk) (i + 1) else (nameR R.l i).bind fun n j => if isF R.l j [40] then (listR f R.l (j + 1) d).bind fun al j => .ok (exMk 12 n (0) false al [] [] tk) j else .ok (exMk 5 n (0) false [] [] [] tk) j) := by show _ = _; rw [HRR.out, if_neg hk3]
  by_cases hk4 : tk.kind = 4
  ·
   have e2 : ((tk.kind : Int) == 4) = true := by rw [kindN tk.kind 4 4 rfl, hk4]; rfl
   have HE25 : Hid (r = .ok (exMk 3 noB (tk.val) false [] [] [] tk) (i + 1)) := by show _ = _; rw [HE24.out, if_pos hk4]
   have HK0 : Hid (tk.kind ≠ 0) := by show _ ≠ _; omega
   go_wp2_with fail
   refine (next_at R HL.out _ i d tk HSV2.out.rd HT.out HK0.out).mono ?_
   rintro e v26 ⟨rfl, hr, hs⟩
   have HSV26 := Lib.hid (HSV2.out.read HI0.out hrb hr hs)
   clear hr hs p0 k0
   have p0 := HKP.out v26 HSV26.out.st
   have bt0 := blk_cell HSV26.out.blk 0 _ rfl
   have bz0 := blk_free HSV26.out.blk 0
   have bt2 := blk_cell HSV26.out.blk 2 _ rfl
   have bz2 := blk_free HSV26.out.blk 2
   obtain ⟨v27, hv27⟩ : ∃ v27 : World, v27 = ((v26.setCell ⟨b, 0, none⟩ (.int .i64 3)).setCell ⟨b, 2, none⟩ (.int .u64 tk.val)) := ⟨_, rfl⟩
   have HSV27 : Hid (Sv R v1 b d I0 v27 (i + 1) (.cells #[.int .i64 3, .string noB, .int .u64 tk.val, .bool false, .slice none 0 0, .slice none 0 0, .slice none 0 0, .int .i64 tk.line, .int .i64 tk.col] 29 (0, 0))) := by show Sv _ _ _ _ _ _ _ _; rw [hv27]; exact ((HSV26.out.set HI0.out hrb 0 (.int .i64 3)).set HI0.out hrb 2 (.int .u64 tk.val))
   go_upto_region 9 with fail
   rw [← hv27]
   clear hv27 p0 bt0 bz0 bt2 bz2
   have p0 := HKP.out v27 HSV27.out.st
   have HLD : Hid (∀ (jj : Nat) v, [Value.int .i64 3, .string noB, .int .u64 tk.val, .bool false, .slice none 0 0, .slice none 0 0, .slice none 0 0, .int .i64 tk.line, .int .i64 tk.col][jj]? = some v → v27.cell? ⟨b, 0 + jj, none⟩ = some v) := by
    show ∀ jj v, _
    intro jj v hv
    rw [Nat.zero_add]; exact blk_cell HSV27.out.blk jj v (by simpa using hv)
   have HONE : Hid (∀ u ∈ [Value.int .i64 3, .string noB, .int .u64 tk.val, .bool false, .slice none 0 0, .slice none 0 0, .slice none 0 0, .int .i64 tk.line, .int .i64 tk.col], u.oneCell' = true) := oneCells rfl
   have HNX := Lib.hid (HKN.out v27 HSV27.out.st)
   have HEX : Hid (ExP v27 (fun q => v1.heap.size ≤ q) (exMk 3 noB tk.val false [] [] [] tk) [.int .i64 3, .string noB, .int .u64 tk.val, .bool false, .slice none 0 0, .slice none 0 0, .slice none 0 0, .int .i64 tk.line, .int .i64 tk.col]) := ExQ.mk (by decide) (ExsQ.nil _ _) (NamesQ.nil _ _) (StsQ.nil _ _)
   clear p0
   go_wp2_with (first
    | (refine wpList_load_whole rfl 29 (.tmp 3) rfl b 0 rfl [Value.int .i64 3, .string noB, .int .u64 tk.val, .bool false, .slice none 0 0, .slice none 0 0, .slice none 0 0, .int .i64 tk.line, .int .i64 tk.col] _ HLD.out Try.underlying29 rfl Try.sizeExpr ?_)
    | (refine wpList_store_part (w := v27) rfl 29 (.tmp 2) (.tmp 31) rfl (w.heap.size + 1) 0 29 _ [Value.int .i64 3, .string noB, .int .u64 tk.val, .bool false, .slice none 0 0, .slice none 0 0, .slice none 0 0, .int .i64 tk.line, .int .i64 tk.col] rfl rfl HNX.out Try.sizeExpr (Nat.le_of_eq rfl) HONE.out ?_
       intro wR hbR hstR))
   have hbR' : wR.heap[w.heap.size + 1]? = some (.cells [Value.int .i64 3, .string noB, .int .u64 tk.val, .bool false, .slice none 0 0, .slice none 0 0, .slice none 0 0, .int .i64 tk.line, .int .i64 tk.col].toArray 29 (0, 0)) := hbR
   refine bodyPost_ret (results_cellB rfl _ (w.heap.size + 1) 29 _ _ rfl hbR' Try.underlying29 rfl Try.sizeExpr) rfl ?_
   refine PPost.of_ok (a := exMk 3 noB tk.val false [] [] [] tk) (j := (i + 1)) HE25.out rfl ⟨_, rfl, ExP.mono (fun q _ hq => by omega) _ _ (ExP.step hstR (fun q hq e => by omega) _ _ HEX.out)⟩ (HSV27.out.rd.step hstR (fun q hq e => by omega)) ((HBK.out _ HSV27.out.st).then hstR (fun q hq e => by omega))
  ·
   have e2 : ((tk.kind : Int) == 4) = false := by rw [kindN tk.kind 4 4 rfl, beq_eq_false_iff_ne.2 hk4]
   have HE28 : Hid (r = if isF R.l i [116, 114, 117, 101] then .ok (exMk 2 noB (1) false [] [] [] tk) (i + 1) else if isF R.l i [102, 97, 108, 115, 101] then .ok (exMk 2 noB (0) false [] [] [] tk) (i + 1) else if isF R.l i [99, 104, 111, 111, 115, 101] then .ok (exMk 16 noB (0) false [] [] [] tk) (i + 1) else if isF R.l i [66, 111, 120] then (oneR f R.l (i + 1) d).bind fun x j => .ok (exMk 9 noB (0) false [x] [] [] tk) j else if isF R.l i [117, 110, 98, 111, 120] then (oneR f R.l (i + 1) d).bind fun x j => .ok (exMk 10 noB (0) false [x] [] [] tk) j else if isF R.l i [110, 101, 119] then (nameR R.l (i + 1)).bind fun n j => (needR R.l j [123]).bind fun _ j => if isF R.l j [125] then .ok (exMk 11 n (0) false [] [] [] tk) (j + 1) else (madeR f R.l j d [] []).bind fun p j => .ok (exMk 11 n (0) false p.2 p.1 [] tk) j else if isF R.l i [97, 115] then (nameR R.l (i + 1)).bind fun n j => (needR R.l j [124]).bind fun _ j => (if isF R.l j [124] then .ok [] (j + 1) else barsR f R.l j []).bind fun ns j => (blockR f R.l j d).bind fun b j => .ok (exMk 17 n (0) false [] ns b tk) j else if isF R.l i [40] then if isF R.l (i + 1) [41] then .ok (exMk 4 noB (0) false [] [] [] tk) (i + 2) else (levelR f R.l (i + 1) d 0).bind fun x j => (needR R.l j [41]).bind fun _ j => .ok (exMk 18 noB (0) false [x] [] [] tk) j else if isF R.l i [115, 101, 108, 102] then .ok (exMk 5 (toB [115, 101, 108, 102]) (0) false [] [] [] tk) (i + 1) else (nameR R.l i).bind fun n j => if isF R.l j [40] then (listR f R.l (j + 1) d).bind fun al j => .ok (exMk 12 n (0) false al [] [] tk) j else .ok (exMk 5 n (0) false [] [] [] tk) j) := by show _ = _; rw [HE24.out, if_neg hk4]
   go_wp2_with fail
   clear k0 hk3 hk4 e1 e2
   cases hb29 : isF R.l i [116, 114, 117, 101] with
   | true =>
    have HB29 := Lib.hid hb29
    clear hb29
    refine (is_yes R HL.out ⟨#[116, 114, 117, 101]⟩ _ i d HSV2.out.rd (by decide) HB29.out).mono ?_
    rintro e v30 ⟨rfl, hr, hs⟩
    have HSV30 := Lib.hid (HSV2.out.read HI0.out hrb hr hs)
    clear hr hs p0
    have HE31 : Hid (r = .ok (exMk 2 noB (1) false [] [] [] tk) (i + 1)) := by show _ = _; rw [HE28.out, HB29.out, if_pos rfl]
    have p0 := HKP.out v30 HSV30.out.st
    have bt0 := blk_cell HSV30.out.blk 0 _ rfl
    have bz0 := blk_free HSV30.out.blk 0
    have bt2 := blk_cell HSV30.out.blk 2 _ rfl
    have bz2 := blk_free HSV30.out.blk 2
    obtain ⟨v32, hv32⟩ : ∃ v32 : World, v32 = ((v30.setCell ⟨b, 0, none⟩ (.int .i64 2)).setCell ⟨b, 2, none⟩ (.int .u64 1)) := ⟨_, rfl⟩
    have HSV32 : Hid (Sv R v1 b d I0 v32 (i + 1) (.cells #[.int .i64 2, .string noB, .int .u64 1, .bool false, .slice none 0 0, .slice none 0 0, .slice none 0 0, .int .i64 tk.line, .int .i64 tk.col] 29 (0, 0))) := by show Sv _ _ _ _ _ _ _ _; rw [hv32]; exact ((HSV30.out.set HI0.out hrb 0 (.int .i64 2)).set HI0.out hrb 2 (.int .u64 1))
    go_upto_region 34 with fail
    rw [← hv32]
    clear hv32 p0 bt0 bz0 bt2 bz2
    have p0 := HKP.out v32 HSV32.out.st
    have HLD : Hid (∀ (jj : Nat) v, [Value.int .i64 2, .string noB, .int .u64 1, .bool false, .slice none 0 0, .slice none 0 0, .slice none 0 0, .int .i64 tk.line, .int .i64 tk.col][jj]? = some v → v32.cell? ⟨b, 0 + jj, none⟩ = some v) := by
     show ∀ jj v, _
     intro jj v hv
     rw [Nat.zero_add]; exact blk_cell HSV32.out.blk jj v (by simpa using hv)
    have HONE : Hid (∀ u ∈ [Value.int .i64 2, .string noB, .int .u64 1, .bool false, .slice none 0 0, .slice none 0 0, .slice none 0 0, .int .i64 tk.line, .int .i64 tk.col], u.oneCell' = true) := oneCells rfl
    have HNX := Lib.hid (HKN.out v32 HSV32.out.st)
    have HEX : Hid (ExP v32 (fun q => v1.heap.size ≤ q) (exMk 2 noB (1) false [] [] [] tk) [.int .i64 2, .string noB, .int .u64 1, .bool false, .slice none 0 0, .slice none 0 0, .slice none 0 0, .int .i64 tk.line, .int .i64 tk.col]) := ExQ.mk (by decide) (ExsQ.nil _ _) (NamesQ.nil _ _) (StsQ.nil _ _)
    clear p0
    go_wp2_with (first
     | (refine wpList_load_whole rfl 29 (.tmp 3) rfl b 0 rfl [Value.int .i64 2, .string noB, .int .u64 1, .bool false, .slice none 0 0, .slice none 0 0, .slice none 0 0, .int .i64 tk.line, .int .i64 tk.col] _ HLD.out Try.underlying29 rfl Try.sizeExpr ?_)
     | (refine wpList_store_part (w := v32) rfl 29 (.tmp 2) (.tmp 112) rfl (w.heap.size + 1) 0 29 _ [Value.int .i64 2, .string noB, .int .u64 1, .bool false, .slice none 0 0, .slice none 0 0, .slice none 0 0, .int .i64 tk.line, .int .i64 tk.col] rfl rfl HNX.out Try.sizeExpr (Nat.le_of_eq rfl) HONE.out ?_
        intro wR hbR hstR))
    have hbR' : wR.heap[w.heap.size + 1]? = some (.cells [Value.int .i64 2, .string noB, .int .u64 1, .bool false, .slice none 0 0, .slice none 0 0, .slice none 0 0, .int .i64 tk.line, .int .i64 tk.col].toArray 29 (0, 0)) := hbR
    refine bodyPost_ret (results_cellB rfl _ (w.heap.size + 1) 29 _ _ rfl hbR' Try.underlying29 rfl Try.sizeExpr) rfl ?_
    refine PPost.of_ok (a := exMk 2 noB (1) false [] [] [] tk) (j := (i + 1)) HE31.out rfl ⟨_, rfl, ExP.mono (fun q _ hq => by omega) _ _ (ExP.step hstR (fun q hq e => by omega) _ _ HEX.out)⟩ (HSV32.out.rd.step hstR (fun q hq e => by omega)) ((HBK.out _ HSV32.out.st).then hstR (fun q hq e => by omega))
   | false =>
    have HB29 := Lib.hid hb29
    clear hb29
    refine (is_no R HL.out ⟨#[116, 114, 117, 101]⟩ _ i d HSV2.out.rd (by decide) HB29.out).mono ?_
    rintro e v33 ⟨rfl, hr, hs⟩
    have HSV33 := Lib.hid (HSV2.out.read HI0.out hrb hr hs)
    clear hr hs p0
    have HE34 : Hid (r = if isF R.l i [102, 97, 108, 115, 101] then .ok (exMk 2 noB (0) false [] [] [] tk) (i + 1) else if isF R.l i [99, 104, 111, 111, 115, 101] then .ok (exMk 16 noB (0) false [] [] [] tk) (i + 1) else if isF R.l i [66, 111, 120] then (oneR f R.l (i + 1) d).bind fun x j => .ok (exMk 9 noB (0) false [x] [] [] tk) j else if isF R.l i [117, 110, 98, 111, 120] then (oneR f R.l (i + 1) d).bind fun x j => .ok (exMk 10 noB (0) false [x] [] [] tk) j else if isF R.l i [110, 101, 119] then (nameR R.l (i + 1)).bind fun n j => (needR R.l j [123]).bind fun _ j => if isF R.l j [125] then .ok (exMk 11 n (0) false [] [] [] tk) (j + 1) else (madeR f R.l j d [] []).bind fun p j => .ok (exMk 11 n (0) false p.2 p.1 [] tk) j else if isF R.l i [97, 115] then (nameR R.l (i + 1)).bind fun n j => (needR R.l j [124]).bind fun _ j => (if isF R.l j [124] then .ok [] (j + 1) else barsR f R.l j []).bind fun ns j => (blockR f R.l j d).bind fun b j => .ok (exMk 17 n (0) false [] ns b tk) j else if isF R.l i [40] then if isF R.l (i + 1) [41] then .ok (exMk 4 noB (0) false [] [] [] tk) (i + 2) else (levelR f R.l (i + 1) d 0).bind fun x j => (needR R.l j [41]).bind fun _ j => .ok (exMk 18 noB (0) false [x] [] [] tk) j else if isF R.l i [115, 101, 108, 102] then .ok (exMk 5 (toB [115, 101, 108, 102]) (0) false [] [] [] tk) (i + 1) else (nameR R.l i).bind fun n j => if isF R.l j [40] then (listR f R.l (j + 1) d).bind fun al j => .ok (exMk 12 n (0) false al [] [] tk) j else .ok (exMk 5 n (0) false [] [] [] tk) j) := by show _ = _; rw [HE28.out, HB29.out, if_neg (by decide)]
    have p0 := HKP.out v33 HSV33.out.st
    go_wp2_with fail
    cases hb35 : isF R.l i [102, 97, 108, 115, 101] with
    | true =>
     have HB35 := Lib.hid hb35
     clear hb35
     refine (is_yes R HL.out ⟨#[102, 97, 108, 115, 101]⟩ _ i d HSV33.out.rd (by decide) HB35.out).mono ?_
     rintro e v36 ⟨rfl, hr, hs⟩
     have HSV36 := Lib.hid (HSV33.out.read HI0.out hrb hr hs)
     clear hr hs p0
     have HE37 : Hid (r = .ok (exMk 2 noB (0) false [] [] [] tk) (i + 1)) := by show _ = _; rw [HE34.out, HB35.out, if_pos rfl]
     have p0 := HKP.out v36 HSV36.out.st
     have bt0 := blk_cell HSV36.out.blk 0 _ rfl
     have bz0 := blk_free HSV36.out.blk 0
     obtain ⟨v38, hv38⟩ : ∃ v38 : World, v38 = (v36.setCell ⟨b, 0, none⟩ (.int .i64 2)) := ⟨_, rfl⟩
     have HSV38 : Hid (Sv R v1 b d I0 v38 (i + 1) (.cells #[.int .i64 2, .string noB, .int .u64 0, .bool false, .slice none 0 0, .slice none 0 0, .slice none 0 0, .int .i64 tk.line, .int .i64 tk.col] 29 (0, 0))) := by show Sv _ _ _ _ _ _ _ _; rw [hv38]; exact (HSV36.out.set HI0.out hrb 0 (.int .i64 2))
     go_upto_region 34 with fail
     rw [← hv38]
     clear hv38 p0 bt0 bz0
     have p0 := HKP.out v38 HSV38.out.st
     have HLD : Hid (∀ (jj : Nat) v, [Value.int .i64 2, .string noB, .int .u64 0, .bool false, .slice none 0 0, .slice none 0 0, .slice none 0 0, .int .i64 tk.line, .int .i64 tk.col][jj]? = some v → v38.cell? ⟨b, 0 + jj, none⟩ = some v) := by
      show ∀ jj v, _
      intro jj v hv
      rw [Nat.zero_add]; exact blk_cell HSV38.out.blk jj v (by simpa using hv)
     have HONE : Hid (∀ u ∈ [Value.int .i64 2, .string noB, .int .u64 0, .bool false, .slice none 0 0, .slice none 0 0, .slice none 0 0, .int .i64 tk.line, .int .i64 tk.col], u.oneCell' = true) := oneCells rfl
     have HNX := Lib.hid (HKN.out v38 HSV38.out.st)
     have HEX : Hid (ExP v38 (fun q => v1.heap.size ≤ q) (exMk 2 noB (0) false [] [] [] tk) [.int .i64 2, .string noB, .int .u64 0, .bool false, .slice none 0 0, .slice none 0 0, .slice none 0 0, .int .i64 tk.line, .int .i64 tk.col]) := ExQ.mk (by decide) (ExsQ.nil _ _) (NamesQ.nil _ _) (StsQ.nil _ _)
     clear p0
     go_wp2_with (first
      | (refine wpList_load_whole rfl 29 (.tmp 3) rfl b 0 rfl [Value.int .i64 2, .string noB, .int .u64 0, .bool false, .slice none 0 0, .slice none 0 0, .slice none 0 0, .int .i64 tk.line, .int .i64 tk.col] _ HLD.out Try.underlying29 rfl Try.sizeExpr ?_)
      | (refine wpList_store_part (w := v38) rfl 29 (.tmp 2) (.tmp 112) rfl (w.heap.size + 1) 0 29 _ [Value.int .i64 2, .string noB, .int .u64 0, .bool false, .slice none 0 0, .slice none 0 0, .slice none 0 0, .int .i64 tk.line, .int .i64 tk.col] rfl rfl HNX.out Try.sizeExpr (Nat.le_of_eq rfl) HONE.out ?_
         intro wR hbR hstR))
     have hbR' : wR.heap[w.heap.size + 1]? = some (.cells [Value.int .i64 2, .string noB, .int .u64 0, .bool false, .slice none 0 0, .slice none 0 0, .slice none 0 0, .int .i64 tk.line, .int .i64 tk.col].toArray 29 (0, 0)) := hbR
     refine bodyPost_ret (results_cellB rfl _ (w.heap.size + 1) 29 _ _ rfl hbR' Try.underlying29 rfl Try.sizeExpr) rfl ?_
     refine PPost.of_ok (a := exMk 2 noB (0) false [] [] [] tk) (j := (i + 1)) HE37.out rfl ⟨_, rfl, ExP.mono (fun q _ hq => by omega) _ _ (ExP.step hstR (fun q hq e => by omega) _ _ HEX.out)⟩ (HSV38.out.rd.step hstR (fun q hq e => by omega)) ((HBK.out _ HSV38.out.st).then hstR (fun q hq e => by omega))
    | false =>
     have HB35 := Lib.hid hb35
     clear hb35
     refine (is_no R HL.out ⟨#[102, 97, 108, 115, 101]⟩ _ i d HSV33.out.rd (by decide) HB35.out).mono ?_
     rintro e v39 ⟨rfl, hr, hs⟩
     have HSV39 := Lib.hid (HSV33.out.read HI0.out hrb hr hs)
     clear hr hs p0
     have HE40 : Hid (r = if isF R.l i [99, 104, 111, 111, 115, 101] then .ok (exMk 16 noB (0) false [] [] [] tk) (i + 1) else if isF R.l i [66, 111, 120] then (oneR f R.l (i + 1) d).bind fun x j => .ok (exMk 9 noB (0) false [x] [] [] tk) j else if isF R.l i [117, 110, 98, 111, 120] then (oneR f R.l (i + 1) d).bind fun x j => .ok (exMk 10 noB (0) false [x] [] [] tk) j else if isF R.l i [110, 101, 119] then (nameR R.l (i + 1)).bind fun n j => (needR R.l j [123]).bind fun _ j => if isF R.l j [125] then .ok (exMk 11 n (0) false [] [] [] tk) (j + 1) else (madeR f R.l j d [] []).bind fun p j => .ok (exMk 11 n (0) false p.2 p.1 [] tk) j else if isF R.l i [97, 115] then (nameR R.l (i + 1)).bind fun n j => (needR R.l j [124]).bind fun _ j => (if isF R.l j [124] then .ok [] (j + 1) else barsR f R.l j []).bind fun ns j => (blockR f R.l j d).bind fun b j => .ok (exMk 17 n (0) false [] ns b tk) j else if isF R.l i [40] then if isF R.l (i + 1) [41] then .ok (exMk 4 noB (0) false [] [] [] tk) (i + 2) else (levelR f R.l (i + 1) d 0).bind fun x j => (needR R.l j [41]).bind fun _ j => .ok (exMk 18 noB (0) false [x] [] [] tk) j else if isF R.l i [115, 101, 108, 102] then .ok (exMk 5 (toB [115, 101, 108, 102]) (0) false [] [] [] tk) (i + 1) else (nameR R.l i).bind fun n j => if isF R.l j [40] then (listR f R.l (j + 1) d).bind fun al j => .ok (exMk 12 n (0) false al [] [] tk) j else .ok (exMk 5 n (0) false [] [] [] tk) j) := by show _ = _; rw [HE34.out, HB35.out, if_neg (by decide)]
     have p0 := HKP.out v39 HSV39.out.st
     go_wp2_with fail
     cases hb41 : isF R.l i [99, 104, 111, 111, 115, 101] with
     | true =>
      have HB41 := Lib.hid hb41
      clear hb41
      refine (is_yes R HL.out ⟨#[99, 104, 111, 111, 115, 101]⟩ _ i d HSV39.out.rd (by decide) HB41.out).mono ?_
      rintro e v42 ⟨rfl, hr, hs⟩
      have HSV42 := Lib.hid (HSV39.out.read HI0.out hrb hr hs)
      clear hr hs p0
      have HE43 : Hid (r = .ok (exMk 16 noB (0) false [] [] [] tk) (i + 1)) := by show _ = _; rw [HE40.out, HB41.out, if_pos rfl]
      have p0 := HKP.out v42 HSV42.out.st
      have bt0 := blk_cell HSV42.out.blk 0 _ rfl
      have bz0 := blk_free HSV42.out.blk 0
      obtain ⟨v44, hv44⟩ : ∃ v44 : World, v44 = (v42.setCell ⟨b, 0, none⟩ (.int .i64 16)) := ⟨_, rfl⟩
      have HSV44 : Hid (Sv R v1 b d I0 v44 (i + 1) (.cells #[.int .i64 16, .string noB, .int .u64 0, .bool false, .slice none 0 0, .slice none 0 0, .slice none 0 0, .int .i64 tk.line, .int .i64 tk.col] 29 (0, 0))) := by show Sv _ _ _ _ _ _ _ _; rw [hv44]; exact (HSV42.out.set HI0.out hrb 0 (.int .i64 16))
      go_upto_region 34 with fail
      rw [← hv44]
      clear hv44 p0 bt0 bz0
      have p0 := HKP.out v44 HSV44.out.st
      have HLD : Hid (∀ (jj : Nat) v, [Value.int .i64 16, .string noB, .int .u64 0, .bool false, .slice none 0 0, .slice none 0 0, .slice none 0 0, .int .i64 tk.line, .int .i64 tk.col][jj]? = some v → v44.cell? ⟨b, 0 + jj, none⟩ = some v) := by
       show ∀ jj v, _
       intro jj v hv
       rw [Nat.zero_add]; exact blk_cell HSV44.out.blk jj v (by simpa using hv)
      have HONE : Hid (∀ u ∈ [Value.int .i64 16, .string noB, .int .u64 0, .bool false, .slice none 0 0, .slice none 0 0, .slice none 0 0, .int .i64 tk.line, .int .i64 tk.col], u.oneCell' = true) := oneCells rfl
      have HNX := Lib.hid (HKN.out v44 HSV44.out.st)
      have HEX : Hid (ExP v44 (fun q => v1.heap.size ≤ q) (exMk 16 noB (0) false [] [] [] tk) [.int .i64 16, .string noB, .int .u64 0, .bool false, .slice none 0 0, .slice none 0 0, .slice none 0 0, .int .i64 tk.line, .int .i64 tk.col]) := ExQ.mk (by decide) (ExsQ.nil _ _) (NamesQ.nil _ _) (StsQ.nil _ _)
      clear p0
      go_wp2_with (first
       | (refine wpList_load_whole rfl 29 (.tmp 3) rfl b 0 rfl [Value.int .i64 16, .string noB, .int .u64 0, .bool false, .slice none 0 0, .slice none 0 0, .slice none 0 0, .int .i64 tk.line, .int .i64 tk.col] _ HLD.out Try.underlying29 rfl Try.sizeExpr ?_)
       | (refine wpList_store_part (w := v44) rfl 29 (.tmp 2) (.tmp 112) rfl (w.heap.size + 1) 0 29 _ [Value.int .i64 16, .string noB, .int .u64 0, .bool false, .slice none 0 0, .slice none 0 0, .slice none 0 0, .int .i64 tk.line, .int .i64 tk.col] rfl rfl HNX.out Try.sizeExpr (Nat.le_of_eq rfl) HONE.out ?_
          intro wR hbR hstR))
      have hbR' : wR.heap[w.heap.size + 1]? = some (.cells [Value.int .i64 16, .string noB, .int .u64 0, .bool false, .slice none 0 0, .slice none 0 0, .slice none 0 0, .int .i64 tk.line, .int .i64 tk.col].toArray 29 (0, 0)) := hbR
      refine bodyPost_ret (results_cellB rfl _ (w.heap.size + 1) 29 _ _ rfl hbR' Try.underlying29 rfl Try.sizeExpr) rfl ?_
      refine PPost.of_ok (a := exMk 16 noB (0) false [] [] [] tk) (j := (i + 1)) HE43.out rfl ⟨_, rfl, ExP.mono (fun q _ hq => by omega) _ _ (ExP.step hstR (fun q hq e => by omega) _ _ HEX.out)⟩ (HSV44.out.rd.step hstR (fun q hq e => by omega)) ((HBK.out _ HSV44.out.st).then hstR (fun q hq e => by omega))
     | false =>
      have HB41 := Lib.hid hb41
      clear hb41
      refine (is_no R HL.out ⟨#[99, 104, 111, 111, 115, 101]⟩ _ i d HSV39.out.rd (by decide) HB41.out).mono ?_
      rintro e v45 ⟨rfl, hr, hs⟩
      have HSV45 := Lib.hid (HSV39.out.read HI0.out hrb hr hs)
      clear hr hs p0
      have HE46 : Hid (r = if isF R.l i [66, 111, 120] then (oneR f R.l (i + 1) d).bind fun x j => .ok (exMk 9 noB (0) false [x] [] [] tk) j else if isF R.l i [117, 110, 98, 111, 120] then (oneR f R.l (i + 1) d).bind fun x j => .ok (exMk 10 noB (0) false [x] [] [] tk) j else if isF R.l i [110, 101, 119] then (nameR R.l (i + 1)).bind fun n j => (needR R.l j [123]).bind fun _ j => if isF R.l j [125] then .ok (exMk 11 n (0) false [] [] [] tk) (j + 1) else (madeR f R.l j d [] []).bind fun p j => .ok (exMk 11 n (0) false p.2 p.1 [] tk) j else if isF R.l i [97, 115] then (nameR R.l (i + 1)).bind fun n j => (needR R.l j [124]).bind fun _ j => (if isF R.l j [124] then .ok [] (j + 1) else barsR f R.l j []).bind fun ns j => (blockR f R.l j d).bind fun b j => .ok (exMk 17 n (0) false [] ns b tk) j else if isF R.l i [40] then if isF R.l (i + 1) [41] then .ok (exMk 4 noB (0) false [] [] [] tk) (i + 2) else (levelR f R.l (i + 1) d 0).bind fun x j => (needR R.l j [41]).bind fun _ j => .ok (exMk 18 noB (0) false [x] [] [] tk) j else if isF R.l i [115, 101, 108, 102] then .ok (exMk 5 (toB [115, 101, 108, 102]) (0) false [] [] [] tk) (i + 1) else (nameR R.l i).bind fun n j => if isF R.l j [40] then (listR f R.l (j + 1) d).bind fun al j => .ok (exMk 12 n (0) false al [] [] tk) j else .ok (exMk 5 n (0) false [] [] [] tk) j) := by show _ = _; rw [HE40.out, HB41.out, if_neg (by decide)]
      have p0 := HKP.out v45 HSV45.out.st
      go_wp2_with fail
      cases hb47 : isF R.l i [66, 111, 120] with
      | true =>
       have HB47 := Lib.hid hb47
       clear hb47
       refine (is_yes R HL.out ⟨#[66, 111, 120]⟩ _ i d HSV45.out.rd (by decide) HB47.out).mono ?_
       rintro e v48 ⟨rfl, hr, hs⟩
       have HSV48 := Lib.hid (HSV45.out.read HI0.out hrb hr hs)
       clear hr hs p0
       have HE49 : Hid (r = (oneR f R.l (i + 1) d).bind fun x j => .ok (exMk 9 noB (0) false [x] [] [] tk) j) := by show _ = _; rw [HE46.out, HB47.out, if_pos rfl]
       have p0 := HKP.out v48 HSV48.out.st
       go_wp2_with fail
       refine (IHO.out R _ (i + 1) d HL.out HSV48.out.rd hd (fun e => HNO.out (by rw [HE49.out, e]; rfl))).mono ?_
       rintro e v50 hp
       have hp2 : PPost R d (fun w' a v => ExsV v48.heap.size w' [a] v) (oneR f R.l (i + 1) d) _ e v50 := hp
       cases hn : oneR f R.l (i + 1) d with
       | out => exact absurd (by rw [HE49.out, hn]; rfl) HNO.out
       | err c ln col =>
        rw [hn] at hp2
        obtain ⟨rfl, hs⟩ := hp2
        refine ⟨rfl, PPost.of_err (c := c) (ln := ln) (col := col) (by rw [HE49.out, hn]; rfl) rfl (HBK.out _ (HSV48.out.err hs))⟩
       | ok a50 j50 =>
        have HN50 := Lib.hid hn
        rw [hn] at hp2
        obtain ⟨⟨v, rfl, hv⟩, hr, hs⟩ := hp2
        obtain ⟨sa50, sc50, rfl⟩ := ExsQ.parts hv
        obtain ⟨I50, hI50, hF50, hsv50⟩ := HSV48.out.got ⟨fun a v => exsQ_ok.step [a] v, fun a v => exsQ_ok.mono [a] v⟩ HI0.out hrb (by omega) hr hs (At := (fun w P a v => ExsQ w P [a] v)) hv
        have HI50 := Lib.hid hI50
        have HF50 := Lib.hid hF50
        have HSV50 := Lib.hid hsv50
        clear hn hr hs hp hv hI50 hF50 hsv50 p0
        have HE51 : Hid (r = .ok (exMk 9 noB (0) false [a50] [] [] tk) j50) := by show _ = _; rw [HE49.out, HN50.out]; rfl
        have p0 := HKP.out v50 HSV50.out.st
        have bt0 := blk_cell HSV50.out.blk 0 _ rfl
        have bz0 := blk_free HSV50.out.blk 0
        have bt4 := blk_cell HSV50.out.blk 4 _ rfl
        have bz4 := blk_free HSV50.out.blk 4
        obtain ⟨v52, hv52⟩ : ∃ v52 : World, v52 = ((v50.setCell ⟨b, 0, none⟩ (.int .i64 9)).setCell ⟨b, 4, none⟩ (.slice sa50 1 sc50)) := ⟨_, rfl⟩
        have HSV52 : Hid (Sv R v1 b d I50 v52 j50 (.cells #[.int .i64 9, .string noB, .int .u64 0, .bool false, .slice sa50 1 sc50, .slice none 0 0, .slice none 0 0, .int .i64 tk.line, .int .i64 tk.col] 29 (0, 0))) := by show Sv _ _ _ _ _ _ _ _; rw [hv52]; exact ((HSV50.out.set HI50.out hrb 0 (.int .i64 9)).set HI50.out hrb 4 (.slice sa50 1 sc50))
        go_upto_region 34 with fail
        rw [← hv52]
        clear hv52 p0 bt0 bz0 bt4 bz4
        have p0 := HKP.out v52 HSV52.out.st
        have HLD : Hid (∀ (jj : Nat) v, [Value.int .i64 9, .string noB, .int .u64 0, .bool false, .slice sa50 1 sc50, .slice none 0 0, .slice none 0 0, .int .i64 tk.line, .int .i64 tk.col][jj]? = some v → v52.cell? ⟨b, 0 + jj, none⟩ = some v) := by
         show ∀ jj v, _
         intro jj v hv
         rw [Nat.zero_add]; exact blk_cell HSV52.out.blk jj v (by simpa using hv)
        have HONE : Hid (∀ u ∈ [Value.int .i64 9, .string noB, .int .u64 0, .bool false, .slice sa50 1 sc50, .slice none 0 0, .slice none 0 0, .int .i64 tk.line, .int .i64 tk.col], u.oneCell' = true) := oneCells rfl
        have HNX := Lib.hid (HKN.out v52 HSV52.out.st)
        have HEX : Hid (ExP v52 (fun q => v1.heap.size ≤ q) (exMk 9 noB (0) false [a50] [] [] tk) [.int .i64 9, .string noB, .int .u64 0, .bool false, .slice sa50 1 sc50, .slice none 0 0, .slice none 0 0, .int .i64 tk.line, .int .i64 tk.col]) := ExQ.mk (by decide) (HF50.out _ HSV52.out.inv).2 (NamesQ.nil _ _) (StsQ.nil _ _)
        clear p0
        go_wp2_with (first
         | (refine wpList_load_whole rfl 29 (.tmp 3) rfl b 0 rfl [Value.int .i64 9, .string noB, .int .u64 0, .bool false, .slice sa50 1 sc50, .slice none 0 0, .slice none 0 0, .int .i64 tk.line, .int .i64 tk.col] _ HLD.out Try.underlying29 rfl Try.sizeExpr ?_)
         | (refine wpList_store_part (w := v52) rfl 29 (.tmp 2) (.tmp 112) rfl (w.heap.size + 1) 0 29 _ [Value.int .i64 9, .string noB, .int .u64 0, .bool false, .slice sa50 1 sc50, .slice none 0 0, .slice none 0 0, .int .i64 tk.line, .int .i64 tk.col] rfl rfl HNX.out Try.sizeExpr (Nat.le_of_eq rfl) HONE.out ?_
            intro wR hbR hstR))
        have hbR' : wR.heap[w.heap.size + 1]? = some (.cells [Value.int .i64 9, .string noB, .int .u64 0, .bool false, .slice sa50 1 sc50, .slice none 0 0, .slice none 0 0, .int .i64 tk.line, .int .i64 tk.col].toArray 29 (0, 0)) := hbR
        refine bodyPost_ret (results_cellB rfl _ (w.heap.size + 1) 29 _ _ rfl hbR' Try.underlying29 rfl Try.sizeExpr) rfl ?_
        refine PPost.of_ok (a := exMk 9 noB (0) false [a50] [] [] tk) (j := j50) HE51.out rfl ⟨_, rfl, ExP.mono (fun q _ hq => by omega) _ _ (ExP.step hstR (fun q hq e => by omega) _ _ HEX.out)⟩ (HSV52.out.rd.step hstR (fun q hq e => by omega)) ((HBK.out _ HSV52.out.st).then hstR (fun q hq e => by omega))
      | false =>
       have HB47 := Lib.hid hb47
       clear hb47
       refine (is_no R HL.out ⟨#[66, 111, 120]⟩ _ i d HSV45.out.rd (by decide) HB47.out).mono ?_
       rintro e v53 ⟨rfl, hr, hs⟩
       have HSV53 := Lib.hid (HSV45.out.read HI0.out hrb hr hs)
       clear hr hs p0
       have HE54 : Hid (r = if isF R.l i [117, 110, 98, 111, 120] then (oneR f R.l (i + 1) d).bind fun x j => .ok (exMk 10 noB (0) false [x] [] [] tk) j else if isF R.l i [110, 101, 119] then (nameR R.l (i + 1)).bind fun n j => (needR R.l j [123]).bind fun _ j => if isF R.l j [125] then .ok (exMk 11 n (0) false [] [] [] tk) (j + 1) else (madeR f R.l j d [] []).bind fun p j => .ok (exMk 11 n (0) false p.2 p.1 [] tk) j else if isF R.l i [97, 115] then (nameR R.l (i + 1)).bind fun n j => (needR R.l j [124]).bind fun _ j => (if isF R.l j [124] then .ok [] (j + 1) else barsR f R.l j []).bind fun ns j => (blockR f R.l j d).bind fun b j => .ok (exMk 17 n (0) false [] ns b tk) j else if isF R.l i [40] then if isF R.l (i + 1) [41] then .ok (exMk 4 noB (0) false [] [] [] tk) (i + 2) else (levelR f R.l (i + 1) d 0).bind fun x j => (needR R.l j [41]).bind fun _ j => .ok (exMk 18 noB (0) false [x] [] [] tk) j else if isF R.l i [115, 101, 108, 102] then .ok (exMk 5 (toB [115, 101, 108, 102]) (0) false [] [] [] tk) (i + 1) else (nameR R.l i).bind fun n j => if isF R.l j [40] then (listR f R.l (j + 1) d).bind fun al j => .ok (exMk 12 n (0) false al [] [] tk) j else .ok (exMk 5 n (0) false [] [] [] tk) j) := by show _ = _; rw [HE46.out, HB47.out, if_neg (by decide)]
       have p0 := HKP.out v53 HSV53.out.st
       go_wp2_with fail
       cases hb55 : isF R.l i [117, 110, 98, 111, 120] with
       | true =>
        have HB55 := Lib.hid hb55
        clear hb55
        refine (is_yes R HL.out ⟨#[117, 110, 98, 111, 120]⟩ _ i d HSV53.out.rd (by decide) HB55.out).mono ?_
        rintro e v56 ⟨rfl, hr, hs⟩
        have HSV56 := Lib.hid (HSV53.out.read HI0.out hrb hr hs)
        clear hr hs p0
        have HE57 : Hid (r = (oneR f R.l (i + 1) d).bind fun x j => .ok (exMk 10 noB (0) false [x] [] [] tk) j) := by show _ = _; rw [HE54.out, HB55.out, if_pos rfl]
        have p0 := HKP.out v56 HSV56.out.st
        go_wp2_with fail
        refine (IHO.out R _ (i + 1) d HL.out HSV56.out.rd hd (fun e => HNO.out (by rw [HE57.out, e]; rfl))).mono ?_
        rintro e v58 hp
        have hp2 : PPost R d (fun w' a v => ExsV v56.heap.size w' [a] v) (oneR f R.l (i + 1) d) _ e v58 := hp
        cases hn : oneR f R.l (i + 1) d with
        | out => exact absurd (by rw [HE57.out, hn]; rfl) HNO.out
        | err c ln col =>
         rw [hn] at hp2
         obtain ⟨rfl, hs⟩ := hp2
         refine ⟨rfl, PPost.of_err (c := c) (ln := ln) (col := col) (by rw [HE57.out, hn]; rfl) rfl (HBK.out _ (HSV56.out.err hs))⟩
        | ok a58 j58 =>
         have HN58 := Lib.hid hn
         rw [hn] at hp2
         obtain ⟨⟨v, rfl, hv⟩, hr, hs⟩ := hp2
         obtain ⟨sa58, sc58, rfl⟩ := ExsQ.parts hv
         obtain ⟨I58, hI58, hF58, hsv58⟩ := HSV56.out.got ⟨fun a v => exsQ_ok.step [a] v, fun a v => exsQ_ok.mono [a] v⟩ HI0.out hrb (by omega) hr hs (At := (fun w P a v => ExsQ w P [a] v)) hv
         have HI58 := Lib.hid hI58
         have HF58 := Lib.hid hF58
         have HSV58 := Lib.hid hsv58
         clear hn hr hs hp hv hI58 hF58 hsv58 p0
         have HE59 : Hid (r = .ok (exMk 10 noB (0) false [a58] [] [] tk) j58) := by show _ = _; rw [HE57.out, HN58.out]; rfl
         have p0 := HKP.out v58 HSV58.out.st
         have bt0 := blk_cell HSV58.out.blk 0 _ rfl
         have bz0 := blk_free HSV58.out.blk 0
         have bt4 := blk_cell HSV58.out.blk 4 _ rfl
         have bz4 := blk_free HSV58.out.blk 4
         obtain ⟨v60, hv60⟩ : ∃ v60 : World, v60 = ((v58.setCell ⟨b, 0, none⟩ (.int .i64 10)).setCell ⟨b, 4, none⟩ (.slice sa58 1 sc58)) := ⟨_, rfl⟩
         have HSV60 : Hid (Sv R v1 b d I58 v60 j58 (.cells #[.int .i64 10, .string noB, .int .u64 0, .bool false, .slice sa58 1 sc58, .slice none 0 0, .slice none 0 0, .int .i64 tk.line, .int .i64 tk.col] 29 (0, 0))) := by show Sv _ _ _ _ _ _ _ _; rw [hv60]; exact ((HSV58.out.set HI58.out hrb 0 (.int .i64 10)).set HI58.out hrb 4 (.slice sa58 1 sc58))
         go_upto_region 34 with fail
         rw [← hv60]
         clear hv60 p0 bt0 bz0 bt4 bz4
         have p0 := HKP.out v60 HSV60.out.st
         have HLD : Hid (∀ (jj : Nat) v, [Value.int .i64 10, .string noB, .int .u64 0, .bool false, .slice sa58 1 sc58, .slice none 0 0, .slice none 0 0, .int .i64 tk.line, .int .i64 tk.col][jj]? = some v → v60.cell? ⟨b, 0 + jj, none⟩ = some v) := by
          show ∀ jj v, _
          intro jj v hv
          rw [Nat.zero_add]; exact blk_cell HSV60.out.blk jj v (by simpa using hv)
         have HONE : Hid (∀ u ∈ [Value.int .i64 10, .string noB, .int .u64 0, .bool false, .slice sa58 1 sc58, .slice none 0 0, .slice none 0 0, .int .i64 tk.line, .int .i64 tk.col], u.oneCell' = true) := oneCells rfl
         have HNX := Lib.hid (HKN.out v60 HSV60.out.st)
         have HEX : Hid (ExP v60 (fun q => v1.heap.size ≤ q) (exMk 10 noB (0) false [a58] [] [] tk) [.int .i64 10, .string noB, .int .u64 0, .bool false, .slice sa58 1 sc58, .slice none 0 0, .slice none 0 0, .int .i64 tk.line, .int .i64 tk.col]) := ExQ.mk (by decide) (HF58.out _ HSV60.out.inv).2 (NamesQ.nil _ _) (StsQ.nil _ _)
         clear p0
         go_wp2_with (first
          | (refine wpList_load_whole rfl 29 (.tmp 3) rfl b 0 rfl [Value.int .i64 10, .string noB, .int .u64 0, .bool false, .slice sa58 1 sc58, .slice none 0 0, .slice none 0 0, .int .i64 tk.line, .int .i64 tk.col] _ HLD.out Try.underlying29 rfl Try.sizeExpr ?_)
          | (refine wpList_store_part (w := v60) rfl 29 (.tmp 2) (.tmp 112) rfl (w.heap.size + 1) 0 29 _ [Value.int .i64 10, .string noB, .int .u64 0, .bool false, .slice sa58 1 sc58, .slice none 0 0, .slice none 0 0, .int .i64 tk.line, .int .i64 tk.col] rfl rfl HNX.out Try.sizeExpr (Nat.le_of_eq rfl) HONE.out ?_
             intro wR hbR hstR))
         have hbR' : wR.heap[w.heap.size + 1]? = some (.cells [Value.int .i64 10, .string noB, .int .u64 0, .bool false, .slice sa58 1 sc58, .slice none 0 0, .slice none 0 0, .int .i64 tk.line, .int .i64 tk.col].toArray 29 (0, 0)) := hbR
         refine bodyPost_ret (results_cellB rfl _ (w.heap.size + 1) 29 _ _ rfl hbR' Try.underlying29 rfl Try.sizeExpr) rfl ?_
         refine PPost.of_ok (a := exMk 10 noB (0) false [a58] [] [] tk) (j := j58) HE59.out rfl ⟨_, rfl, ExP.mono (fun q _ hq => by omega) _ _ (ExP.step hstR (fun q hq e => by omega) _ _ HEX.out)⟩ (HSV60.out.rd.step hstR (fun q hq e => by omega)) ((HBK.out _ HSV60.out.st).then hstR (fun q hq e => by omega))
       | false =>
        have HB55 := Lib.hid hb55
        clear hb55
        refine (is_no R HL.out ⟨#[117, 110, 98, 111, 120]⟩ _ i d HSV53.out.rd (by decide) HB55.out).mono ?_
        rintro e v61 ⟨rfl, hr, hs⟩
        have HSV61 := Lib.hid (HSV53.out.read HI0.out hrb hr hs)
        clear hr hs p0
        have HE62 : Hid (r = if isF R.l i [110, 101, 119] then (nameR R.l (i + 1)).bind fun n j => (needR R.l j [123]).bind fun _ j => if isF R.l j [125] then .ok (exMk 11 n (0) false [] [] [] tk) (j + 1) else (madeR f R.l j d [] []).bind fun p j => .ok (exMk 11 n (0) false p.2 p.1 [] tk) j else if isF R.l i [97, 115] then (nameR R.l (i + 1)).bind fun n j => (needR R.l j [124]).bind fun _ j => (if isF R.l j [124] then .ok [] (j + 1) else barsR f R.l j []).bind fun ns j => (blockR f R.l j d).bind fun b j => .ok (exMk 17 n (0) false [] ns b tk) j else if isF R.l i [40] then if isF R.l (i + 1) [41] then .ok (exMk 4 noB (0) false [] [] [] tk) (i + 2) else (levelR f R.l (i + 1) d 0).bind fun x j => (needR R.l j [41]).bind fun _ j => .ok (exMk 18 noB (0) false [x] [] [] tk) j else if isF R.l i [115, 101, 108, 102] then .ok (exMk 5 (toB [115, 101, 108, 102]) (0) false [] [] [] tk) (i + 1) else (nameR R.l i).bind fun n j => if isF R.l j [40] then (listR f R.l (j + 1) d).bind fun al j => .ok (exMk 12 n (0) false al [] [] tk) j else .ok (exMk 5 n (0) false [] [] [] tk) j) := by show _ = _; rw [HE54.out, HB55.out, if_neg (by decide)]
        have p0 := HKP.out v61 HSV61.out.st
        go_wp2_with fail
        cases hb63 : isF R.l i [110, 101, 119] with
        | true =>
         have HB63 := Lib.hid hb63
         clear hb63
         refine (is_yes R HL.out ⟨#[110, 101, 119]⟩ _ i d HSV61.out.rd (by decide) HB63.out).mono ?_
         rintro e v64 ⟨rfl, hr, hs⟩
         have HSV64 := Lib.hid (HSV61.out.read HI0.out hrb hr hs)
         clear hr hs p0
         have HE65 : Hid (r = (nameR R.l (i + 1)).bind fun n j => (needR R.l j [123]).bind fun _ j => if isF R.l j [125] then .ok (exMk 11 n (0) false [] [] [] tk) (j + 1) else (madeR f R.l j d [] []).bind fun p j => .ok (exMk 11 n (0) false p.2 p.1 [] tk) j) := by show _ = _; rw [HE62.out, HB63.out, if_pos rfl]
         have p0 := HKP.out v64 HSV64.out.st
         go_wp2_with fail
         have HE66 : Hid (r = (madeF f R.l (i + 1) d).bind fun p j => .ok (exMk 11 p.1 (0) false p.2.2 p.2.1 [] tk) j) := by show _ = _; exact HE65.out.trans (made_bind f R.l (i + 1) d (fun n ns x j => Res.ok (exMk 11 n (0) false x ns [] tk) j))
         refine (IHM.out R _ (i + 1) d b tk HL.out HSV64.out.rd hd hrb HSV64.out.blk (fun e => HNO.out (by rw [HE66.out, e]; rfl))).mono ?_
         rintro e v67 hp
         have hp2 : CloPost R d b (MadeLeft v64.heap.size b tk) (madeF f R.l (i + 1) d) _ e v67 := hp
         cases hn : madeF f R.l (i + 1) d with
         | out => exact absurd (by rw [HE66.out, hn]; rfl) HNO.out
         | err c ln col =>
          rw [hn] at hp2
          obtain ⟨rfl, hs⟩ := hp2
          exact ⟨rfl, PPost.of_err (c := c) (ln := ln) (col := col) (by rw [HE66.out, hn]; rfl) rfl (HBK.out _ (HSV64.out.st.trans hs))⟩
         | ok p67 j67 =>
          have HN67 := Lib.hid hn
          rw [hn] at hp2
          obtain ⟨rfl, hleft, hr, hs⟩ := hp2
          obtain ⟨xa, vn, va, hblk, hz1, hz2, hrn, hxa, hra⟩ := hleft
          obtain ⟨na, nc, rfl⟩ := hrn.parts
          obtain ⟨aa, ac, rfl⟩ := hra.parts
          have HSVx : Hid (Sv R v1 b d I0 v67 j67 (.cells #[.int .i64 11, .string p67.1, .int .u64 0, .bool false, .slice aa p67.2.2.length ac, .slice na p67.2.1.length nc, .slice none 0 0, .int .i64 tk.line, .int .i64 tk.col] 29 (0, 0))) := HSV64.out.write HI0.out hr hblk hs
          have hsz := HSV64.out.st.size
          have HNZ := Lib.hid hz1
          obtain ⟨I67, hI67, hF67, hsv67⟩ := HSVx.out.keep HI0.out (J := fun X => NamesQ X (fun q => v1.heap.size ≤ q) p67.2.1 (.slice na p67.2.1.length nc) ∧ ExsQ X (fun q => v1.heap.size ≤ q) p67.2.2 (.slice aa p67.2.2.length ac)) (Stab.and (Stab.at namesQ_ok hrb (by omega) _ _) (Stab.at exsQ_ok hrb (by omega) _ _)) ⟨namesQ_ok.mono _ _ (fun q _ hq => by omega) (show NamesQ _ _ _ _ ∧ ExsQ _ _ _ _ from ⟨⟨hz2, hrn⟩, xa, hra, hxa⟩).1, exsQ_ok.mono _ _ (fun q _ hq => by omega) (show NamesQ _ _ _ _ ∧ ExsQ _ _ _ _ from ⟨⟨hz2, hrn⟩, xa, hra, hxa⟩).2⟩
          have HI67 := Lib.hid hI67
          have HF67 := Lib.hid hF67
          have HSV67 := Lib.hid hsv67
          clear hn hr hs hp hblk hz1 hz2 hrn hI67 hF67 hsv67 p0 hxa hra
          have HE68 : Hid (r = .ok (exMk 11 p67.1 (0) false p67.2.2 p67.2.1 [] tk) j67) := by show _ = _; rw [HE66.out, HN67.out]; rfl
          have p0 := HKP.out v67 HSV67.out.st
          go_upto_region 34 with fail
          have HLD : Hid (∀ (jj : Nat) v, [Value.int .i64 11, .string p67.1, .int .u64 0, .bool false, .slice aa p67.2.2.length ac, .slice na p67.2.1.length nc, .slice none 0 0, .int .i64 tk.line, .int .i64 tk.col][jj]? = some v → v67.cell? ⟨b, 0 + jj, none⟩ = some v) := by
           show ∀ jj v, _
           intro jj v hv
           rw [Nat.zero_add]; exact blk_cell HSV67.out.blk jj v (by simpa using hv)
          have HONE : Hid (∀ u ∈ [Value.int .i64 11, .string p67.1, .int .u64 0, .bool false, .slice aa p67.2.2.length ac, .slice na p67.2.1.length nc, .slice none 0 0, .int .i64 tk.line, .int .i64 tk.col], u.oneCell' = true) := oneCells rfl
          have HNX := Lib.hid (HKN.out v67 HSV67.out.st)
          have HEX : Hid (ExP v67 (fun q => v1.heap.size ≤ q) (exMk 11 p67.1 (0) false p67.2.2 p67.2.1 [] tk) [.int .i64 11, .string p67.1, .int .u64 0, .bool false, .slice aa p67.2.2.length ac, .slice na p67.2.1.length nc, .slice none 0 0, .int .i64 tk.line, .int .i64 tk.col]) := ExQ.mk HNZ.out (HF67.out _ HSV67.out.inv).2.2 (HF67.out _ HSV67.out.inv).2.1 (StsQ.nil _ _)
          clear p0
          go_wp2_with (first
           | (refine wpList_load_whole rfl 29 (.tmp 3) rfl b 0 rfl [Value.int .i64 11, .string p67.1, .int .u64 0, .bool false, .slice aa p67.2.2.length ac, .slice na p67.2.1.length nc, .slice none 0 0, .int .i64 tk.line, .int .i64 tk.col] _ HLD.out Try.underlying29 rfl Try.sizeExpr ?_)
           | (refine wpList_store_part (w := v67) rfl 29 (.tmp 2) (.tmp 112) rfl (w.heap.size + 1) 0 29 _ [Value.int .i64 11, .string p67.1, .int .u64 0, .bool false, .slice aa p67.2.2.length ac, .slice na p67.2.1.length nc, .slice none 0 0, .int .i64 tk.line, .int .i64 tk.col] rfl rfl HNX.out Try.sizeExpr (Nat.le_of_eq rfl) HONE.out ?_
              intro wR hbR hstR))
          have hbR' : wR.heap[w.heap.size + 1]? = some (.cells [Value.int .i64 11, .string p67.1, .int .u64 0, .bool false, .slice aa p67.2.2.length ac, .slice na p67.2.1.length nc, .slice none 0 0, .int .i64 tk.line, .int .i64 tk.col].toArray 29 (0, 0)) := hbR
          refine bodyPost_ret (results_cellB rfl _ (w.heap.size + 1) 29 _ _ rfl hbR' Try.underlying29 rfl Try.sizeExpr) rfl ?_
          refine PPost.of_ok (a := exMk 11 p67.1 (0) false p67.2.2 p67.2.1 [] tk) (j := j67) HE68.out rfl ⟨_, rfl, ExP.mono (fun q _ hq => by omega) _ _ (ExP.step hstR (fun q hq e => by omega) _ _ HEX.out)⟩ (HSV67.out.rd.step hstR (fun q hq e => by omega)) ((HBK.out _ HSV67.out.st).then hstR (fun q hq e => by omega))
        | false =>
         have HB63 := Lib.hid hb63
         clear hb63
         refine (is_no R HL.out ⟨#[110, 101, 119]⟩ _ i d HSV61.out.rd (by decide) HB63.out).mono ?_
         rintro e v69 ⟨rfl, hr, hs⟩
         have HSV69 := Lib.hid (HSV61.out.read HI0.out hrb hr hs)
         clear hr hs p0
         have HE70 : Hid (r = if isF R.l i [97, 115] then (nameR R.l (i + 1)).bind fun n j => (needR R.l j [124]).bind fun _ j => (if isF R.l j [124] then .ok [] (j + 1) else barsR f R.l j []).bind fun ns j => (blockR f R.l j d).bind fun b j => .ok (exMk 17 n (0) false [] ns b tk) j else if isF R.l i [40] then if isF R.l (i + 1) [41] then .ok (exMk 4 noB (0) false [] [] [] tk) (i + 2) else (levelR f R.l (i + 1) d 0).bind fun x j => (needR R.l j [41]).bind fun _ j => .ok (exMk 18 noB (0) false [x] [] [] tk) j else if isF R.l i [115, 101, 108, 102] then .ok (exMk 5 (toB [115, 101, 108, 102]) (0) false [] [] [] tk) (i + 1) else (nameR R.l i).bind fun n j => if isF R.l j [40] then (listR f R.l (j + 1) d).bind fun al j => .ok (exMk 12 n (0) false al [] [] tk) j else .ok (exMk 5 n (0) false [] [] [] tk) j) := by show _ = _; rw [HE62.out, HB63.out, if_neg (by decide)]
         have p0 := HKP.out v69 HSV69.out.st
         go_wp2_with fail
         cases hb71 : isF R.l i [97, 115] with
         | true =>
          have HB71 := Lib.hid hb71
          clear hb71
          refine (is_yes R HL.out ⟨#[97, 115]⟩ _ i d HSV69.out.rd (by decide) HB71.out).mono ?_
          rintro e v72 ⟨rfl, hr, hs⟩
          have HSV72 := Lib.hid (HSV69.out.read HI0.out hrb hr hs)
          clear hr hs p0
          have HE73 : Hid (r = (nameR R.l (i + 1)).bind fun n j => (needR R.l j [124]).bind fun _ j => (if isF R.l j [124] then .ok [] (j + 1) else barsR f R.l j []).bind fun ns j => (blockR f R.l j d).bind fun b j => .ok (exMk 17 n (0) false [] ns b tk) j) := by show _ = _; rw [HE70.out, HB71.out, if_pos rfl]
          have p0 := HKP.out v72 HSV72.out.st
          go_wp2_with fail
          have HE74 : Hid (r = (closF f R.l (i + 1) d).bind fun p j => .ok (exMk 17 p.1 (0) false [] p.2.1 p.2.2 tk) j) := by show _ = _; exact HE73.out.trans (clos_bind f R.l (i + 1) d (fun n ns x j => Res.ok (exMk 17 n (0) false [] ns x tk) j))
          refine (IHC.out R _ (i + 1) d b tk HL.out HSV72.out.rd hd hrb HSV72.out.blk (fun e => HNO.out (by rw [HE74.out, e]; rfl))).mono ?_
          rintro e v75 hp
          have hp2 : CloPost R d b (ClosLeft v72.heap.size b tk) (closF f R.l (i + 1) d) _ e v75 := hp
          cases hn : closF f R.l (i + 1) d with
          | out => exact absurd (by rw [HE74.out, hn]; rfl) HNO.out
          | err c ln col =>
           rw [hn] at hp2
           obtain ⟨rfl, hs⟩ := hp2
           exact ⟨rfl, PPost.of_err (c := c) (ln := ln) (col := col) (by rw [HE74.out, hn]; rfl) rfl (HBK.out _ (HSV72.out.st.trans hs))⟩
          | ok p75 j75 =>
           have HN75 := Lib.hid hn
           rw [hn] at hp2
           obtain ⟨rfl, hleft, hr, hs⟩ := hp2
           obtain ⟨xb, vn, vb, hblk, hz1, hz2, hrn, hxb, hrb2⟩ := hleft
           obtain ⟨na, nc, rfl⟩ := hrn.parts
           obtain ⟨aa, ac, rfl⟩ := hrb2.parts
           have HSVx : Hid (Sv R v1 b d I0 v75 j75 (.cells #[.int .i64 17, .string p75.1, .int .u64 0, .bool false, .slice none 0 0, .slice na p75.2.1.length nc, .slice aa p75.2.2.length ac, .int .i64 tk.line, .int .i64 tk.col] 29 (0, 0))) := HSV72.out.write HI0.out hr hblk hs
           have hsz := HSV72.out.st.size
           have HNZ := Lib.hid hz1
           obtain ⟨I75, hI75, hF75, hsv75⟩ := HSVx.out.keep HI0.out (J := fun X => NamesQ X (fun q => v1.heap.size ≤ q) p75.2.1 (.slice na p75.2.1.length nc) ∧ StsQ X (fun q => v1.heap.size ≤ q) p75.2.2 (.slice aa p75.2.2.length ac)) (Stab.and (Stab.at namesQ_ok hrb (by omega) _ _) (Stab.at stsQ_ok hrb (by omega) _ _)) ⟨namesQ_ok.mono _ _ (fun q _ hq => by omega) (show NamesQ _ _ _ _ ∧ StsQ _ _ _ _ from ⟨⟨hz2, hrn⟩, xb, hrb2, hxb⟩).1, stsQ_ok.mono _ _ (fun q _ hq => by omega) (show NamesQ _ _ _ _ ∧ StsQ _ _ _ _ from ⟨⟨hz2, hrn⟩, xb, hrb2, hxb⟩).2⟩
           have HI75 := Lib.hid hI75
           have HF75 := Lib.hid hF75
           have HSV75 := Lib.hid hsv75
           clear hn hr hs hp hblk hz1 hz2 hrn hI75 hF75 hsv75 p0 hxb hrb2
           have HE76 : Hid (r = .ok (exMk 17 p75.1 (0) false [] p75.2.1 p75.2.2 tk) j75) := by show _ = _; rw [HE74.out, HN75.out]; rfl
           have p0 := HKP.out v75 HSV75.out.st
           go_upto_region 34 with fail
           have HLD : Hid (∀ (jj : Nat) v, [Value.int .i64 17, .string p75.1, .int .u64 0, .bool false, .slice none 0 0, .slice na p75.2.1.length nc, .slice aa p75.2.2.length ac, .int .i64 tk.line, .int .i64 tk.col][jj]? = some v → v75.cell? ⟨b, 0 + jj, none⟩ = some v) := by
            show ∀ jj v, _
            intro jj v hv
            rw [Nat.zero_add]; exact blk_cell HSV75.out.blk jj v (by simpa using hv)
           have HONE : Hid (∀ u ∈ [Value.int .i64 17, .string p75.1, .int .u64 0, .bool false, .slice none 0 0, .slice na p75.2.1.length nc, .slice aa p75.2.2.length ac, .int .i64 tk.line, .int .i64 tk.col], u.oneCell' = true) := oneCells rfl
           have HNX := Lib.hid (HKN.out v75 HSV75.out.st)
           have HEX : Hid (ExP v75 (fun q => v1.heap.size ≤ q) (exMk 17 p75.1 (0) false [] p75.2.1 p75.2.2 tk) [.int .i64 17, .string p75.1, .int .u64 0, .bool false, .slice none 0 0, .slice na p75.2.1.length nc, .slice aa p75.2.2.length ac, .int .i64 tk.line, .int .i64 tk.col]) := ExQ.mk HNZ.out (ExsQ.nil _ _) (HF75.out _ HSV75.out.inv).2.1 (HF75.out _ HSV75.out.inv).2.2
           clear p0
           go_wp2_with (first
            | (refine wpList_load_whole rfl 29 (.tmp 3) rfl b 0 rfl [Value.int .i64 17, .string p75.1, .int .u64 0, .bool false, .slice none 0 0, .slice na p75.2.1.length nc, .slice aa p75.2.2.length ac, .int .i64 tk.line, .int .i64 tk.col] _ HLD.out Try.underlying29 rfl Try.sizeExpr ?_)
            | (refine wpList_store_part (w := v75) rfl 29 (.tmp 2) (.tmp 112) rfl (w.heap.size + 1) 0 29 _ [Value.int .i64 17, .string p75.1, .int .u64 0, .bool false, .slice none 0 0, .slice na p75.2.1.length nc, .slice aa p75.2.2.length ac, .int .i64 tk.line, .int .i64 tk.col] rfl rfl HNX.out Try.sizeExpr (Nat.le_of_eq rfl) HONE.out ?_
               intro wR hbR hstR))
           have hbR' : wR.heap[w.heap.size + 1]? = some (.cells [Value.int .i64 17, .string p75.1, .int .u64 0, .bool false, .slice none 0 0, .slice na p75.2.1.length nc, .slice aa p75.2.2.length ac, .int .i64 tk.line, .int .i64 tk.col].toArray 29 (0, 0)) := hbR
           refine bodyPost_ret (results_cellB rfl _ (w.heap.size + 1) 29 _ _ rfl hbR' Try.underlying29 rfl Try.sizeExpr) rfl ?_
           refine PPost.of_ok (a := exMk 17 p75.1 (0) false [] p75.2.1 p75.2.2 tk) (j := j75) HE76.out rfl ⟨_, rfl, ExP.mono (fun q _ hq => by omega) _ _ (ExP.step hstR (fun q hq e => by omega) _ _ HEX.out)⟩ (HSV75.out.rd.step hstR (fun q hq e => by omega)) ((HBK.out _ HSV75.out.st).then hstR (fun q hq e => by omega))
         | false =>
          have HB71 := Lib.hid hb71
          clear hb71
          refine (is_no R HL.out ⟨#[97, 115]⟩ _ i d HSV69.out.rd (by decide) HB71.out).mono ?_
          rintro e v77 ⟨rfl, hr, hs⟩
          have HSV77 := Lib.hid (HSV69.out.read HI0.out hrb hr hs)
          clear hr hs p0
          have HE78 : Hid (r = if isF R.l i [40] then if isF R.l (i + 1) [41] then .ok (exMk 4 noB (0) false [] [] [] tk) (i + 2) else (levelR f R.l (i + 1) d 0).bind fun x j => (needR R.l j [41]).bind fun _ j => .ok (exMk 18 noB (0) false [x] [] [] tk) j else if isF R.l i [115, 101, 108, 102] then .ok (exMk 5 (toB [115, 101, 108, 102]) (0) false [] [] [] tk) (i + 1) else (nameR R.l i).bind fun n j => if isF R.l j [40] then (listR f R.l (j + 1) d).bind fun al j => .ok (exMk 12 n (0) false al [] [] tk) j else .ok (exMk 5 n (0) false [] [] [] tk) j) := by show _ = _; rw [HE70.out, HB71.out, if_neg (by decide)]
          have p0 := HKP.out v77 HSV77.out.st
          go_wp2_with fail
          cases hb79 : isF R.l i [40] with
          | true =>
           have HB79 := Lib.hid hb79
           clear hb79
           refine (is_yes R HL.out ⟨#[40]⟩ _ i d HSV77.out.rd (by decide) HB79.out).mono ?_
           rintro e v80 ⟨rfl, hr, hs⟩
           have HSV80 := Lib.hid (HSV77.out.read HI0.out hrb hr hs)
           clear hr hs p0
           have HE81 : Hid (r = if isF R.l (i + 1) [41] then .ok (exMk 4 noB (0) false [] [] [] tk) (i + 2) else (levelR f R.l (i + 1) d 0).bind fun x j => (needR R.l j [41]).bind fun _ j => .ok (exMk 18 noB (0) false [x] [] [] tk) j) := by show _ = _; rw [HE78.out, HB79.out, if_pos rfl]
           have p0 := HKP.out v80 HSV80.out.st
           have bt0 := blk_cell HSV80.out.blk 0 _ rfl
           have bz0 := blk_free HSV80.out.blk 0
           obtain ⟨v82, hv82⟩ : ∃ v82 : World, v82 = (v80.setCell ⟨b, 0, none⟩ (.int .i64 4)) := ⟨_, rfl⟩
           have HSV82 : Hid (Sv R v1 b d I0 v82 (i + 1) (.cells #[.int .i64 4, .string noB, .int .u64 0, .bool false, .slice none 0 0, .slice none 0 0, .slice none 0 0, .int .i64 tk.line, .int .i64 tk.col] 29 (0, 0))) := by show Sv _ _ _ _ _ _ _ _; rw [hv82]; exact (HSV80.out.set HI0.out hrb 0 (.int .i64 4))
           go_upto_region 29 with fail
           rw [← hv82]
           clear hv82 p0 bt0 bz0
           have p0 := HKP.out v82 HSV82.out.st
           go_wp2_with fail
           cases hb83 : isF R.l (i + 1) [41] with
           | true =>
            have HB83 := Lib.hid hb83
            clear hb83
            refine (is_yes R HL.out ⟨#[41]⟩ _ (i + 1) d HSV82.out.rd (by decide) HB83.out).mono ?_
            rintro e v84 ⟨rfl, hr, hs⟩
            have HSV84 := Lib.hid (HSV82.out.read HI0.out hrb hr hs)
            clear hr hs p0
            have HE85 : Hid (r = .ok (exMk 4 noB (0) false [] [] [] tk) (i + 2)) := by show _ = _; rw [HE81.out, HB83.out, if_pos rfl]
            have p0 := HKP.out v84 HSV84.out.st
            go_upto_region 34 with fail
            have HLD : Hid (∀ (jj : Nat) v, [Value.int .i64 4, .string noB, .int .u64 0, .bool false, .slice none 0 0, .slice none 0 0, .slice none 0 0, .int .i64 tk.line, .int .i64 tk.col][jj]? = some v → v84.cell? ⟨b, 0 + jj, none⟩ = some v) := by
             show ∀ jj v, _
             intro jj v hv
             rw [Nat.zero_add]; exact blk_cell HSV84.out.blk jj v (by simpa using hv)
            have HONE : Hid (∀ u ∈ [Value.int .i64 4, .string noB, .int .u64 0, .bool false, .slice none 0 0, .slice none 0 0, .slice none 0 0, .int .i64 tk.line, .int .i64 tk.col], u.oneCell' = true) := oneCells rfl
            have HNX := Lib.hid (HKN.out v84 HSV84.out.st)
            have HEX : Hid (ExP v84 (fun q => v1.heap.size ≤ q) (exMk 4 noB (0) false [] [] [] tk) [.int .i64 4, .string noB, .int .u64 0, .bool false, .slice none 0 0, .slice none 0 0, .slice none 0 0, .int .i64 tk.line, .int .i64 tk.col]) := ExQ.mk (by decide) (ExsQ.nil _ _) (NamesQ.nil _ _) (StsQ.nil _ _)
            clear p0
            go_wp2_with (first
             | (refine wpList_load_whole rfl 29 (.tmp 3) rfl b 0 rfl [Value.int .i64 4, .string noB, .int .u64 0, .bool false, .slice none 0 0, .slice none 0 0, .slice none 0 0, .int .i64 tk.line, .int .i64 tk.col] _ HLD.out Try.underlying29 rfl Try.sizeExpr ?_)
             | (refine wpList_store_part (w := v84) rfl 29 (.tmp 2) (.tmp 112) rfl (w.heap.size + 1) 0 29 _ [Value.int .i64 4, .string noB, .int .u64 0, .bool false, .slice none 0 0, .slice none 0 0, .slice none 0 0, .int .i64 tk.line, .int .i64 tk.col] rfl rfl HNX.out Try.sizeExpr (Nat.le_of_eq rfl) HONE.out ?_
                intro wR hbR hstR))
            have hbR' : wR.heap[w.heap.size + 1]? = some (.cells [Value.int .i64 4, .string noB, .int .u64 0, .bool false, .slice none 0 0, .slice none 0 0, .slice none 0 0, .int .i64 tk.line, .int .i64 tk.col].toArray 29 (0, 0)) := hbR
            refine bodyPost_ret (results_cellB rfl _ (w.heap.size + 1) 29 _ _ rfl hbR' Try.underlying29 rfl Try.sizeExpr) rfl ?_
            refine PPost.of_ok (a := exMk 4 noB (0) false [] [] [] tk) (j := (i + 2)) HE85.out rfl ⟨_, rfl, ExP.mono (fun q _ hq => by omega) _ _ (ExP.step hstR (fun q hq e => by omega) _ _ HEX.out)⟩ (HSV84.out.rd.step hstR (fun q hq e => by omega)) ((HBK.out _ HSV84.out.st).then hstR (fun q hq e => by omega))
           | false =>
            have HB83 := Lib.hid hb83
            clear hb83
            refine (is_no R HL.out ⟨#[41]⟩ _ (i + 1) d HSV82.out.rd (by decide) HB83.out).mono ?_
            rintro e v86 ⟨rfl, hr, hs⟩
            have HSV86 := Lib.hid (HSV82.out.read HI0.out hrb hr hs)
            clear hr hs p0
            have HE87 : Hid (r = (levelR f R.l (i + 1) d 0).bind fun x j => (needR R.l j [41]).bind fun _ j => .ok (exMk 18 noB (0) false [x] [] [] tk) j) := by show _ = _; rw [HE81.out, HB83.out, if_neg (by decide)]
            have p0 := HKP.out v86 HSV86.out.st
            go_wp2_with fail
            refine (expr_any f IHE.out R _ (i + 1) d HL.out HSV86.out.rd hd (fun e => HNO.out (by rw [HE87.out, e]; rfl))).mono ?_
            rintro e v88 hp
            have hp2 : PPost R d (ExV v86.heap.size) (levelR f R.l (i + 1) d 0) _ e v88 := hp
            cases hn : levelR f R.l (i + 1) d 0 with
            | out => exact absurd (by rw [HE87.out, hn]; rfl) HNO.out
            | err c ln col =>
             rw [hn] at hp2
             obtain ⟨rfl, hs⟩ := hp2
             refine ⟨rfl, PPost.of_err (c := c) (ln := ln) (col := col) (by rw [HE87.out, hn]; rfl) rfl (HBK.out _ (HSV86.out.err hs))⟩
            | ok a88 j88 =>
             have HN88 := Lib.hid hn
             rw [hn] at hp2
             obtain ⟨⟨v, rfl, hv⟩, hr, hs⟩ := hp2
             obtain ⟨cs, rfl, hy⟩ := hv
             obtain ⟨k0, nm0, v0, mu0, a1, n1, c1, a2, n2, c2, a3, n3, c3, l0, c0, rfl⟩ := hy.parts
             have hv : ExQ _ _ _ _ := ⟨_, rfl, hy⟩
             clear hy
             obtain ⟨I88, hI88, hF88, hsv88⟩ := HSV86.out.got exQ_ok HI0.out hrb (by omega) hr hs (At := ExQ) hv
             have HI88 := Lib.hid hI88
             have HF88 := Lib.hid hF88
             have HSV88 := Lib.hid hsv88
             clear hn hr hs hp hv hI88 hF88 hsv88 p0
             have HE89 : Hid (r = (needR R.l j88 [41]).bind fun _ j => .ok (exMk 18 noB (0) false [a88] [] [] tk) j) := by show _ = _; rw [HE87.out, HN88.out]; rfl
             have p0 := HKP.out v88 HSV88.out.st
             obtain ⟨w90, hw90⟩ : ∃ w90 : World, w90 = v88.alloc (.cells #[.int .i64 k0, .string nm0, .int .u64 v0, .bool mu0, .slice a1 n1 c1, .slice a2 n2 c2, .slice a3 n3 c3, .int .i64 l0, .int .i64 c0] 29) := ⟨_, rfl⟩
             obtain ⟨I90, hI90, hF90, hsv90⟩ := HSV88.out.slice1 HI88.out hrb (by omega) (t := 29) (cs := [.int .i64 k0, .string nm0, .int .u64 v0, .bool mu0, .slice a1 n1 c1, .slice a2 n2 c2, .slice a3 n3 c3, .int .i64 l0, .int .i64 c0]) (fun Y hY => (HF88.out Y hY).2)
             have HI90 := Lib.hid hI90
             have HF90 := Lib.hid hF90
             have HSV90 : Hid (Sv R v1 b d I90 w90 j88 (.cells #[.int .i64 4, .string noB, .int .u64 0, .bool false, .slice none 0 0, .slice none 0 0, .slice none 0 0, .int .i64 tk.line, .int .i64 tk.col] 29 (0, 0))) := by show Sv _ _ _ _ _ _ _ _; rw [hw90]; exact hsv90
             clear hI90 hF90 hsv90
             have bt0 := blk_cell HSV90.out.blk 0 _ rfl
             have bz0 := blk_free HSV90.out.blk 0
             have bt4 := blk_cell HSV90.out.blk 4 _ rfl
             have bz4 := blk_free HSV90.out.blk 4
             rw [hw90] at bt0 bz0 bt4 bz4
             obtain ⟨v91, hv91⟩ : ∃ v91 : World, v91 = ((w90.setCell ⟨b, 0, none⟩ (.int .i64 18)).setCell ⟨b, 4, none⟩ (.slice (some ⟨v88.heap.size, 0, none⟩) 1 1)) := ⟨_, rfl⟩
             have HSV91 : Hid (Sv R v1 b d I90 v91 j88 (.cells #[.int .i64 18, .string noB, .int .u64 0, .bool false, .slice (some ⟨v88.heap.size, 0, none⟩) 1 1, .slice none 0 0, .slice none 0 0, .int .i64 tk.line, .int .i64 tk.col] 29 (0, 0))) := by show Sv _ _ _ _ _ _ _ _; rw [hv91]; exact ((HSV90.out.set HI90.out hrb 0 (.int .i64 18)).set HI90.out hrb 4 (.slice (some ⟨v88.heap.size, 0, none⟩) 1 1))
             go_upto_region 31 with fail
             rw [← hw90, ← hv91]
             clear hw90
             clear hv91 p0 bt0 bz0 bt4 bz4
             have p0 := HKP.out v91 HSV91.out.st
             go_wp2_with fail
             refine (need_any R HL.out v91.heap.size ⟨#[41]⟩ _ j88 d (HSV91.out.rd.quiet ((Step.refl _ _).alloc _)) (by decide) (blk_cell (blk_new _ _) 0 _ rfl)).mono ?_
             rintro e v92 hp
             have hp2 : PPost R d UnitV (needR R.l j88 [41]) _ e v92 := hp
             cases hn : needR R.l j88 [41] with
             | out => exact (needR_out hn).elim
             | err c ln col =>
              rw [hn] at hp2
              obtain ⟨rfl, hs⟩ := hp2
              refine ⟨rfl, PPost.of_err (c := c) (ln := ln) (col := col) (by rw [HE89.out, hn]; rfl) rfl (HBK.out _ (HSV91.out.err (((Step.refl (· = R.rb) _).alloc _).trans hs)))⟩
             | ok u92 j92 =>
              have HN92 := Lib.hid hn
              rw [hn] at hp2
              obtain ⟨⟨v, rfl, rfl⟩, hr, hs⟩ := hp2
              have HSV92 := Lib.hid (HSV91.out.read HI90.out hrb hr (((Step.refl (· = R.rb) _).alloc _).trans hs))
              clear hn hr hs hp p0
              have HE93 : Hid (r = .ok (exMk 18 noB (0) false [a88] [] [] tk) j92) := by show _ = _; rw [HE89.out, HN92.out]; rfl
              have p0 := HKP.out v92 HSV92.out.st
              go_upto_region 34 with fail
              have HLD : Hid (∀ (jj : Nat) v, [Value.int .i64 18, .string noB, .int .u64 0, .bool false, .slice (some ⟨v88.heap.size, 0, none⟩) 1 1, .slice none 0 0, .slice none 0 0, .int .i64 tk.line, .int .i64 tk.col][jj]? = some v → v92.cell? ⟨b, 0 + jj, none⟩ = some v) := by
               show ∀ jj v, _
               intro jj v hv
               rw [Nat.zero_add]; exact blk_cell HSV92.out.blk jj v (by simpa using hv)
              have HONE : Hid (∀ u ∈ [Value.int .i64 18, .string noB, .int .u64 0, .bool false, .slice (some ⟨v88.heap.size, 0, none⟩) 1 1, .slice none 0 0, .slice none 0 0, .int .i64 tk.line, .int .i64 tk.col], u.oneCell' = true) := oneCells rfl
              have HNX := Lib.hid (HKN.out v92 HSV92.out.st)
              have HEX : Hid (ExP v92 (fun q => v1.heap.size ≤ q) (exMk 18 noB (0) false [a88] [] [] tk) [.int .i64 18, .string noB, .int .u64 0, .bool false, .slice (some ⟨v88.heap.size, 0, none⟩) 1 1, .slice none 0 0, .slice none 0 0, .int .i64 tk.line, .int .i64 tk.col]) := ExQ.mk (by decide) (HF90.out _ HSV92.out.inv).2 (NamesQ.nil _ _) (StsQ.nil _ _)
              clear p0
              go_wp2_with (first
               | (refine wpList_load_whole rfl 29 (.tmp 3) rfl b 0 rfl [Value.int .i64 18, .string noB, .int .u64 0, .bool false, .slice (some ⟨v88.heap.size, 0, none⟩) 1 1, .slice none 0 0, .slice none 0 0, .int .i64 tk.line, .int .i64 tk.col] _ HLD.out Try.underlying29 rfl Try.sizeExpr ?_)
               | (refine wpList_store_part (w := v92) rfl 29 (.tmp 2) (.tmp 112) rfl (w.heap.size + 1) 0 29 _ [Value.int .i64 18, .string noB, .int .u64 0, .bool false, .slice (some ⟨v88.heap.size, 0, none⟩) 1 1, .slice none 0 0, .slice none 0 0, .int .i64 tk.line, .int .i64 tk.col] rfl rfl HNX.out Try.sizeExpr (Nat.le_of_eq rfl) HONE.out ?_
                  intro wR hbR hstR))
              have hbR' : wR.heap[w.heap.size + 1]? = some (.cells [Value.int .i64 18, .string noB, .int .u64 0, .bool false, .slice (some ⟨v88.heap.size, 0, none⟩) 1 1, .slice none 0 0, .slice none 0 0, .int .i64 tk.line, .int .i64 tk.col].toArray 29 (0, 0)) := hbR
              refine bodyPost_ret (results_cellB rfl _ (w.heap.size + 1) 29 _ _ rfl hbR' Try.underlying29 rfl Try.sizeExpr) rfl ?_
              refine PPost.of_ok (a := exMk 18 noB (0) false [a88] [] [] tk) (j := j92) HE93.out rfl ⟨_, rfl, ExP.mono (fun q _ hq => by omega) _ _ (ExP.step hstR (fun q hq e => by omega) _ _ HEX.out)⟩ (HSV92.out.rd.step hstR (fun q hq e => by omega)) ((HBK.out _ HSV92.out.st).then hstR (fun q hq e => by omega))
          | false =>
           have HB79 := Lib.hid hb79
           clear hb79
           refine (is_no R HL.out ⟨#[40]⟩ _ i d HSV77.out.rd (by decide) HB79.out).mono ?_
           rintro e v94 ⟨rfl, hr, hs⟩
           have HSV94 := Lib.hid (HSV77.out.read HI0.out hrb hr hs)
           clear hr hs p0
           have HE95 : Hid (r = if isF R.l i [115, 101, 108, 102] then .ok (exMk 5 (toB [115, 101, 108, 102]) (0) false [] [] [] tk) (i + 1) else (nameR R.l i).bind fun n j => if isF R.l j [40] then (listR f R.l (j + 1) d).bind fun al j => .ok (exMk 12 n (0) false al [] [] tk) j else .ok (exMk 5 n (0) false [] [] [] tk) j) := by show _ = _; rw [HE78.out, HB79.out, if_neg (by decide)]
           have p0 := HKP.out v94 HSV94.out.st
           go_wp2_with fail
           cases hb96 : isF R.l i [115, 101, 108, 102] with
           | true =>
            have HB96 := Lib.hid hb96
            clear hb96
            refine (is_yes R HL.out ⟨#[115, 101, 108, 102]⟩ _ i d HSV94.out.rd (by decide) HB96.out).mono ?_
            rintro e v97 ⟨rfl, hr, hs⟩
            have HSV97 := Lib.hid (HSV94.out.read HI0.out hrb hr hs)
            clear hr hs p0
            have HE98 : Hid (r = .ok (exMk 5 (toB [115, 101, 108, 102]) (0) false [] [] [] tk) (i + 1)) := by show _ = _; rw [HE95.out, HB96.out, if_pos rfl]
            have p0 := HKP.out v97 HSV97.out.st
            have bt0 := blk_cell HSV97.out.blk 0 _ rfl
            have bz0 := blk_free HSV97.out.blk 0
            have bt1 := blk_cell HSV97.out.blk 1 _ rfl
            have bz1 := blk_free HSV97.out.blk 1
            obtain ⟨v99, hv99⟩ : ∃ v99 : World, v99 = ((v97.setCell ⟨b, 0, none⟩ (.int .i64 5)).setCell ⟨b, 1, none⟩ (.string ⟨#[115, 101, 108, 102]⟩)) := ⟨_, rfl⟩
            have HSV99 : Hid (Sv R v1 b d I0 v99 (i + 1) (.cells #[.int .i64 5, .string ⟨#[115, 101, 108, 102]⟩, .int .u64 0, .bool false, .slice none 0 0, .slice none 0 0, .slice none 0 0, .int .i64 tk.line, .int .i64 tk.col] 29 (0, 0))) := by show Sv _ _ _ _ _ _ _ _; rw [hv99]; exact ((HSV97.out.set HI0.out hrb 0 (.int .i64 5)).set HI0.out hrb 1 (.string ⟨#[115, 101, 108, 102]⟩))
            go_upto_region 34 with fail
            rw [← hv99]
            clear hv99 p0 bt0 bz0 bt1 bz1
            have p0 := HKP.out v99 HSV99.out.st
            have HLD : Hid (∀ (jj : Nat) v, [Value.int .i64 5, .string ⟨#[115, 101, 108, 102]⟩, .int .u64 0, .bool false, .slice none 0 0, .slice none 0 0, .slice none 0 0, .int .i64 tk.line, .int .i64 tk.col][jj]? = some v → v99.cell? ⟨b, 0 + jj, none⟩ = some v) := by
             show ∀ jj v, _
             intro jj v hv
             rw [Nat.zero_add]; exact blk_cell HSV99.out.blk jj v (by simpa using hv)
            have HONE : Hid (∀ u ∈ [Value.int .i64 5, .string ⟨#[115, 101, 108, 102]⟩, .int .u64 0, .bool false, .slice none 0 0, .slice none 0 0, .slice none 0 0, .int .i64 tk.line, .int .i64 tk.col], u.oneCell' = true) := oneCells rfl
            have HNX := Lib.hid (HKN.out v99 HSV99.out.st)
            have HEX : Hid (ExP v99 (fun q => v1.heap.size ≤ q) (exMk 5 (toB [115, 101, 108, 102]) (0) false [] [] [] tk) [.int .i64 5, .string ⟨#[115, 101, 108, 102]⟩, .int .u64 0, .bool false, .slice none 0 0, .slice none 0 0, .slice none 0 0, .int .i64 tk.line, .int .i64 tk.col]) := ExQ.mk (by decide) (ExsQ.nil _ _) (NamesQ.nil _ _) (StsQ.nil _ _)
            clear p0
            go_wp2_with (first
             | (refine wpList_load_whole rfl 29 (.tmp 3) rfl b 0 rfl [Value.int .i64 5, .string ⟨#[115, 101, 108, 102]⟩, .int .u64 0, .bool false, .slice none 0 0, .slice none 0 0, .slice none 0 0, .int .i64 tk.line, .int .i64 tk.col] _ HLD.out Try.underlying29 rfl Try.sizeExpr ?_)
             | (refine wpList_store_part (w := v99) rfl 29 (.tmp 2) (.tmp 112) rfl (w.heap.size + 1) 0 29 _ [Value.int .i64 5, .string ⟨#[115, 101, 108, 102]⟩, .int .u64 0, .bool false, .slice none 0 0, .slice none 0 0, .slice none 0 0, .int .i64 tk.line, .int .i64 tk.col] rfl rfl HNX.out Try.sizeExpr (Nat.le_of_eq rfl) HONE.out ?_
                intro wR hbR hstR))
            have hbR' : wR.heap[w.heap.size + 1]? = some (.cells [Value.int .i64 5, .string ⟨#[115, 101, 108, 102]⟩, .int .u64 0, .bool false, .slice none 0 0, .slice none 0 0, .slice none 0 0, .int .i64 tk.line, .int .i64 tk.col].toArray 29 (0, 0)) := hbR
            refine bodyPost_ret (results_cellB rfl _ (w.heap.size + 1) 29 _ _ rfl hbR' Try.underlying29 rfl Try.sizeExpr) rfl ?_
            refine PPost.of_ok (a := exMk 5 (toB [115, 101, 108, 102]) (0) false [] [] [] tk) (j := (i + 1)) HE98.out rfl ⟨_, rfl, ExP.mono (fun q _ hq => by omega) _ _ (ExP.step hstR (fun q hq e => by omega) _ _ HEX.out)⟩ (HSV99.out.rd.step hstR (fun q hq e => by omega)) ((HBK.out _ HSV99.out.st).then hstR (fun q hq e => by omega))
           | false =>
            have HB96 := Lib.hid hb96
            clear hb96
            refine (is_no R HL.out ⟨#[115, 101, 108, 102]⟩ _ i d HSV94.out.rd (by decide) HB96.out).mono ?_
            rintro e v100 ⟨rfl, hr, hs⟩
            have HSV100 := Lib.hid (HSV94.out.read HI0.out hrb hr hs)
            clear hr hs p0
            have HE101 : Hid (r = (nameR R.l i).bind fun n j => if isF R.l j [40] then (listR f R.l (j + 1) d).bind fun al j => .ok (exMk 12 n (0) false al [] [] tk) j else .ok (exMk 5 n (0) false [] [] [] tk) j) := by show _ = _; rw [HE95.out, HB96.out, if_neg (by decide)]
            have p0 := HKP.out v100 HSV100.out.st
            go_wp2_with fail
            refine (name_any R HL.out _ i d HSV100.out.rd).mono ?_
            rintro e v102 hp
            have hp2 : PPost R d StrV (nameR R.l i) _ e v102 := hp
            cases hn : nameR R.l i with
            | out => exact (nameR_out hn).elim
            | err c ln col =>
             rw [hn] at hp2
             obtain ⟨rfl, hs⟩ := hp2
             refine ⟨rfl, PPost.of_err (c := c) (ln := ln) (col := col) (by rw [HE101.out, hn]; rfl) rfl (HBK.out _ (HSV100.out.err hs))⟩
            | ok s102 j102 =>
             have HN102 := Lib.hid hn
             have HNS102 := Lib.hid (nameR_size HL.out HSV100.out.rd.lt hn)
             rw [hn] at hp2
             obtain ⟨⟨v, rfl, rfl⟩, hr, hs⟩ := hp2
             have HSV102 := Lib.hid (HSV100.out.read HI0.out hrb hr hs)
             clear hn hr hs hp p0
             have HE103 : Hid (r = if isF R.l j102 [40] then (listR f R.l (j102 + 1) d).bind fun al j => .ok (exMk 12 s102 (0) false al [] [] tk) j else .ok (exMk 5 s102 (0) false [] [] [] tk) j102) := by show _ = _; rw [HE101.out, HN102.out]; rfl
             have p0 := HKP.out v102 HSV102.out.st
             have bt0 := blk_cell HSV102.out.blk 0 _ rfl
             have bz0 := blk_free HSV102.out.blk 0
             have bt1 := blk_cell HSV102.out.blk 1 _ rfl
             have bz1 := blk_free HSV102.out.blk 1
             obtain ⟨v104, hv104⟩ : ∃ v104 : World, v104 = ((v102.setCell ⟨b, 0, none⟩ (.int .i64 5)).setCell ⟨b, 1, none⟩ (.string s102)) := ⟨_, rfl⟩
             have HSV104 : Hid (Sv R v1 b d I0 v104 j102 (.cells #[.int .i64 5, .string s102, .int .u64 0, .bool false, .slice none 0 0, .slice none 0 0, .slice none 0 0, .int .i64 tk.line, .int .i64 tk.col] 29 (0, 0))) := by show Sv _ _ _ _ _ _ _ _; rw [hv104]; exact ((HSV102.out.set HI0.out hrb 0 (.int .i64 5)).set HI0.out hrb 1 (.string s102))
             go_upto_region 11 with fail
             rw [← hv104]
             clear hv104 p0 bt0 bz0 bt1 bz1
             have p0 := HKP.out v104 HSV104.out.st
             go_wp2_with fail
             cases hb105 : isF R.l j102 [40] with
             | true =>
              have HB105 := Lib.hid hb105
              clear hb105
              refine (is_yes R HL.out ⟨#[40]⟩ _ j102 d HSV104.out.rd (by decide) HB105.out).mono ?_
              rintro e v106 ⟨rfl, hr, hs⟩
              have HSV106 := Lib.hid (HSV104.out.read HI0.out hrb hr hs)
              clear hr hs p0
              have HE107 : Hid (r = (listR f R.l (j102 + 1) d).bind fun al j => .ok (exMk 12 s102 (0) false al [] [] tk) j) := by show _ = _; rw [HE103.out, HB105.out, if_pos rfl]
              have p0 := HKP.out v106 HSV106.out.st
              go_wp2_with fail
              refine (IHI.out R _ (j102 + 1) d HL.out HSV106.out.rd hd (fun e => HNO.out (by rw [HE107.out, e]; rfl))).mono ?_
              rintro e v108 hp
              have hp2 : PPost R d (ExsV v106.heap.size) (listR f R.l (j102 + 1) d) _ e v108 := hp
              cases hn : listR f R.l (j102 + 1) d with
              | out => exact absurd (by rw [HE107.out, hn]; rfl) HNO.out
              | err c ln col =>
               rw [hn] at hp2
               obtain ⟨rfl, hs⟩ := hp2
               refine ⟨rfl, PPost.of_err (c := c) (ln := ln) (col := col) (by rw [HE107.out, hn]; rfl) rfl (HBK.out _ (HSV106.out.err hs))⟩
              | ok a108 j108 =>
               have HN108 := Lib.hid hn
               rw [hn] at hp2
               obtain ⟨⟨v, rfl, hv⟩, hr, hs⟩ := hp2
               obtain ⟨sa108, sc108, rfl⟩ := ExsQ.parts hv
               obtain ⟨I108, hI108, hF108, hsv108⟩ := HSV106.out.got exsQ_ok HI0.out hrb (by omega) hr hs (At := ExsQ) hv
               have HI108 := Lib.hid hI108
               have HF108 := Lib.hid hF108
               have HSV108 := Lib.hid hsv108
               clear hn hr hs hp hv hI108 hF108 hsv108 p0
               have HE109 : Hid (r = .ok (exMk 12 s102 (0) false a108 [] [] tk) j108) := by show _ = _; rw [HE107.out, HN108.out]; rfl
               have p0 := HKP.out v108 HSV108.out.st
               have bt0 := blk_cell HSV108.out.blk 0 _ rfl
               have bz0 := blk_free HSV108.out.blk 0
               have bt4 := blk_cell HSV108.out.blk 4 _ rfl
               have bz4 := blk_free HSV108.out.blk 4
               obtain ⟨v110, hv110⟩ : ∃ v110 : World, v110 = ((v108.setCell ⟨b, 0, none⟩ (.int .i64 12)).setCell ⟨b, 4, none⟩ (.slice sa108 a108.length sc108)) := ⟨_, rfl⟩
               have HSV110 : Hid (Sv R v1 b d I108 v110 j108 (.cells #[.int .i64 12, .string s102, .int .u64 0, .bool false, .slice sa108 a108.length sc108, .slice none 0 0, .slice none 0 0, .int .i64 tk.line, .int .i64 tk.col] 29 (0, 0))) := by show Sv _ _ _ _ _ _ _ _; rw [hv110]; exact ((HSV108.out.set HI108.out hrb 0 (.int .i64 12)).set HI108.out hrb 4 (.slice sa108 a108.length sc108))
               go_upto_region 34 with fail
               rw [← hv110]
               clear hv110 p0 bt0 bz0 bt4 bz4
               have p0 := HKP.out v110 HSV110.out.st
               have HLD : Hid (∀ (jj : Nat) v, [Value.int .i64 12, .string s102, .int .u64 0, .bool false, .slice sa108 a108.length sc108, .slice none 0 0, .slice none 0 0, .int .i64 tk.line, .int .i64 tk.col][jj]? = some v → v110.cell? ⟨b, 0 + jj, none⟩ = some v) := by
                show ∀ jj v, _
                intro jj v hv
                rw [Nat.zero_add]; exact blk_cell HSV110.out.blk jj v (by simpa using hv)
               have HONE : Hid (∀ u ∈ [Value.int .i64 12, .string s102, .int .u64 0, .bool false, .slice sa108 a108.length sc108, .slice none 0 0, .slice none 0 0, .int .i64 tk.line, .int .i64 tk.col], u.oneCell' = true) := oneCells rfl
               have HNX := Lib.hid (HKN.out v110 HSV110.out.st)
               have HEX : Hid (ExP v110 (fun q => v1.heap.size ≤ q) (exMk 12 s102 (0) false a108 [] [] tk) [.int .i64 12, .string s102, .int .u64 0, .bool false, .slice sa108 a108.length sc108, .slice none 0 0, .slice none 0 0, .int .i64 tk.line, .int .i64 tk.col]) := ExQ.mk HNS102.out (HF108.out _ HSV110.out.inv).2 (NamesQ.nil _ _) (StsQ.nil _ _)
               clear p0
               go_wp2_with (first
                | (refine wpList_load_whole rfl 29 (.tmp 3) rfl b 0 rfl [Value.int .i64 12, .string s102, .int .u64 0, .bool false, .slice sa108 a108.length sc108, .slice none 0 0, .slice none 0 0, .int .i64 tk.line, .int .i64 tk.col] _ HLD.out Try.underlying29 rfl Try.sizeExpr ?_)
                | (refine wpList_store_part (w := v110) rfl 29 (.tmp 2) (.tmp 112) rfl (w.heap.size + 1) 0 29 _ [Value.int .i64 12, .string s102, .int .u64 0, .bool false, .slice sa108 a108.length sc108, .slice none 0 0, .slice none 0 0, .int .i64 tk.line, .int .i64 tk.col] rfl rfl HNX.out Try.sizeExpr (Nat.le_of_eq rfl) HONE.out ?_
                   intro wR hbR hstR))
               have hbR' : wR.heap[w.heap.size + 1]? = some (.cells [Value.int .i64 12, .string s102, .int .u64 0, .bool false, .slice sa108 a108.length sc108, .slice none 0 0, .slice none 0 0, .int .i64 tk.line, .int .i64 tk.col].toArray 29 (0, 0)) := hbR
               refine bodyPost_ret (results_cellB rfl _ (w.heap.size + 1) 29 _ _ rfl hbR' Try.underlying29 rfl Try.sizeExpr) rfl ?_
               refine PPost.of_ok (a := exMk 12 s102 (0) false a108 [] [] tk) (j := j108) HE109.out rfl ⟨_, rfl, ExP.mono (fun q _ hq => by omega) _ _ (ExP.step hstR (fun q hq e => by omega) _ _ HEX.out)⟩ (HSV110.out.rd.step hstR (fun q hq e => by omega)) ((HBK.out _ HSV110.out.st).then hstR (fun q hq e => by omega))
             | false =>
              have HB105 := Lib.hid hb105
              clear hb105
              refine (is_no R HL.out ⟨#[40]⟩ _ j102 d HSV104.out.rd (by decide) HB105.out).mono ?_
              rintro e v111 ⟨rfl, hr, hs⟩
              have HSV111 := Lib.hid (HSV104.out.read HI0.out hrb hr hs)
              clear hr hs p0
              have HE112 : Hid (r = .ok (exMk 5 s102 (0) false [] [] [] tk) j102) := by show _ = _; rw [HE103.out, HB105.out, if_neg (by decide)]
              have p0 := HKP.out v111 HSV111.out.st
              go_upto_region 34 with fail
              have HLD : Hid (∀ (jj : Nat) v, [Value.int .i64 5, .string s102, .int .u64 0, .bool false, .slice none 0 0, .slice none 0 0, .slice none 0 0, .int .i64 tk.line, .int .i64 tk.col][jj]? = some v → v111.cell? ⟨b, 0 + jj, none⟩ = some v) := by
               show ∀ jj v, _
               intro jj v hv
               rw [Nat.zero_add]; exact blk_cell HSV111.out.blk jj v (by simpa using hv)
              have HONE : Hid (∀ u ∈ [Value.int .i64 5, .string s102, .int .u64 0, .bool false, .slice none 0 0, .slice none 0 0, .slice none 0 0, .int .i64 tk.line, .int .i64 tk.col], u.oneCell' = true) := oneCells rfl
              have HNX := Lib.hid (HKN.out v111 HSV111.out.st)
              have HEX : Hid (ExP v111 (fun q => v1.heap.size ≤ q) (exMk 5 s102 (0) false [] [] [] tk) [.int .i64 5, .string s102, .int .u64 0, .bool false, .slice none 0 0, .slice none 0 0, .slice none 0 0, .int .i64 tk.line, .int .i64 tk.col]) := ExQ.mk HNS102.out (ExsQ.nil _ _) (NamesQ.nil _ _) (StsQ.nil _ _)
              clear p0
              go_wp2_with (first
               | (refine wpList_load_whole rfl 29 (.tmp 3) rfl b 0 rfl [Value.int .i64 5, .string s102, .int .u64 0, .bool false, .slice none 0 0, .slice none 0 0, .slice none 0 0, .int .i64 tk.line, .int .i64 tk.col] _ HLD.out Try.underlying29 rfl Try.sizeExpr ?_)
               | (refine wpList_store_part (w := v111) rfl 29 (.tmp 2) (.tmp 112) rfl (w.heap.size + 1) 0 29 _ [Value.int .i64 5, .string s102, .int .u64 0, .bool false, .slice none 0 0, .slice none 0 0, .slice none 0 0, .int .i64 tk.line, .int .i64 tk.col] rfl rfl HNX.out Try.sizeExpr (Nat.le_of_eq rfl) HONE.out ?_
                  intro wR hbR hstR))
              have hbR' : wR.heap[w.heap.size + 1]? = some (.cells [Value.int .i64 5, .string s102, .int .u64 0, .bool false, .slice none 0 0, .slice none 0 0, .slice none 0 0, .int .i64 tk.line, .int .i64 tk.col].toArray 29 (0, 0)) := hbR
              refine bodyPost_ret (results_cellB rfl _ (w.heap.size + 1) 29 _ _ rfl hbR' Try.underlying29 rfl Try.sizeExpr) rfl ?_
              refine PPost.of_ok (a := exMk 5 s102 (0) false [] [] [] tk) (j := j102) HE112.out rfl ⟨_, rfl, ExP.mono (fun q _ hq => by omega) _ _ (ExP.step hstR (fun q hq e => by omega) _ _ HEX.out)⟩ (HSV111.out.rd.step hstR (fun q hq e => by omega)) ((HBK.out _ HSV111.out.st).then hstR (fun q hq e => by omega))
def Stb (R : Rdr) (b n : Nat) (g : World → Value → Prop) : Prop := ∀ (X Y : World) (v : Value), n ≤ X.heap.size → Step (fun q => q = R.rb ∨ q = b) X Y → g X v → g Y v
def Tru : World → Value → Prop := fun _ _ => True
theorem Stb.const {R : Rdr} {b n : Nat} (p : Value → Prop) : Stb R b n (fun _ v => p v) := fun _ _ _ _ _ h => h
theorem Stb.tru {R : Rdr} {b n : Nat} : Stb R b n Tru := fun _ _ _ _ _ h => h
theorem Stb.at {α : Type} {At : World → (Nat → Prop) → α → Value → Prop} (hA : AtOk At) {R : Rdr} {b n : Nat} (h1 : R.rb < b) (h2 : b < n) (a : α) : Stb R b n (fun X v => At X (fun q => n ≤ q) a v) :=
 fun _ _ v _ hs hi => hA.step a v hs (fun k hk e => by omega) hi
theorem Stb.ex {R : Rdr} {b n : Nat} {ι : Sort _} {g : ι → World → Value → Prop} (h : ∀ i, Stb R b n (g i)) : Stb R b n (fun X v => ∃ i, g i X v) := fun X Y v hn hs ⟨i, hi⟩ => ⟨i, h i X Y v hn hs hi⟩
theorem Stb.and {R : Rdr} {b n : Nat} {g : World → Value → Prop} {p : Prop} (h : Stb R b n g) : Stb R b n (fun X v => p ∧ g X v) := fun X Y v hn hs hi => ⟨hi.1, h X Y v hn hs hi.2⟩
def StbAll (R : Rdr) (b n : Nat) (fl : List (World → Value → Prop)) : Prop := ∀ k, Stb R b n (fl.getD k Tru)
theorem StbAll.nil {R : Rdr} {b n : Nat} : StbAll R b n [] := fun _ => Stb.tru
theorem StbAll.cons {R : Rdr} {b n : Nat} {g : World → Value → Prop} {fl : List (World → Value → Prop)} (h : Stb R b n g) (hs : StbAll R b n fl) : StbAll R b n (g :: fl) := by
 intro k
 cases k with
 | zero => exact h
 | succ k => exact hs k
structure RJ (R : Rdr) (v1 : World) (b d : Nat) (I : World → Prop) (rdP : (Nat → Bool) → Nat → Prop) (o : (Nat → Bool) → (Nat → Value) → Obj) (fl : List (World → Value → Prop)) (ps : List (Nat × Nat)) (L : Nat → Bool) (V : Nat → Value) (X : World) : Prop where
 sv : ∃ i, Sv R v1 b d I X i (o L V) ∧ rdP L i
 fs : ∀ k, L k = true → (fl.getD k Tru) X (V k)
 dp : ∀ p ∈ ps, L p.1 = true → L p.2 = true
section
variable {R : Rdr} {v1 : World} {b d : Nat} {I : World → Prop} {rdP : (Nat → Bool) → Nat → Prop} {o : (Nat → Bool) → (Nat → Value) → Obj} {fl : List (World → Value → Prop)} {ps : List (Nat × Nat)} {L : Nat → Bool} {V : Nat → Value} {X X' : World}
theorem dp_up {L : Nat → Bool} {ps : List (Nat × Nat)} (h : ∀ p ∈ ps, L p.1 = true → L p.2 = true) (k : Nat) (hp : ∀ p ∈ ps, p.1 = k → L p.2 = true) : ∀ p ∈ ps, updL L k p.1 = true → updL L k p.2 = true := by
 intro p hm h1
 have h2 : L p.2 = true := by
  by_cases e : p.1 = k
  ·exact hp p hm e
  ·rw [updL_ne L e] at h1; exact h p hm h1
 by_cases e : p.2 = k
 ·rw [e]; exact updL_eq L k
 ·rw [updL_ne L e]; exact h2
theorem fs_up {fl : List (World → Value → Prop)} {L : Nat → Bool} {V : Nat → Value} {X : World} (h : ∀ k, L k = true → (fl.getD k Tru) X (V k)) (k : Nat) (v : Value) (hf : (fl.getD k Tru) X v) : ∀ j, updL L k j = true → (fl.getD j Tru) X (updV V k v j) := by
 intro j hj
 by_cases e : j = k
 ·subst e; rw [updV_eq]; exact hf
 ·rw [updV_ne V v e]; rw [updL_ne L e] at hj; exact h j hj
theorem RJ.up (h : RJ R v1 b d I rdP o fl ps L V X) (k : Nat) (v : Value) (hf : (fl.getD k Tru) X v) (hp : ∀ p ∈ ps, p.1 = k → L p.2 = true) (ho : o (updL L k) (updV V k v) = o L V) (hr : rdP (updL L k) = rdP L) : RJ R v1 b d I rdP o fl ps (updL L k) (updV V k v) X := by
 obtain ⟨⟨i, h1, h2⟩, h3, h4⟩ := h
 exact ⟨⟨i, by rw [ho]; exact h1, by rw [hr]; exact h2⟩, fs_up h3 k v hf, dp_up h4 k hp⟩
theorem RJ.quiet (h : RJ R v1 b d I rdP o fl ps L V X) (hI : Stab R b v1.heap.size I) (hfl : StbAll R b v1.heap.size fl) (hs : Step (fun _ => False) X X') : RJ R v1 b d I rdP o fl ps L V X' := by
 obtain ⟨⟨i, h1, h2⟩, h3, h4⟩ := h
 exact ⟨⟨i, h1.quiet hI hs, h2⟩, fun k hk => hfl k X X' _ h1.st.size (hs.mono (fun _ _ h => h.elim)) (h3 k hk), h4⟩
theorem RJ.call (h : RJ R v1 b d I rdP o fl ps L V X) (hI : Stab R b v1.heap.size I) (hfl : StbAll R b v1.heap.size fl) (hb : R.rb < b) (k : Nat) (v : Value) {j : Nat} (hrd : RdAt R X' j d) (hs : Step (· = R.rb) X X') (hf : (fl.getD k Tru) X' v) (hp : ∀ p ∈ ps, p.1 = k → L p.2 = true)
  (ho : o (updL L k) (updV V k v) = o L V) (hr : rdP (updL L k) j) : RJ R v1 b d I rdP o fl ps (updL L k) (updV V k v) X' := by
 obtain ⟨⟨i, h1, h2⟩, h3, h4⟩ := h
 exact ⟨⟨j, by rw [ho]; exact h1.read hI hb hrd hs, hr⟩, fs_up (fun k hk => hfl k X X' _ h1.st.size (hs.mono (fun _ _ e => .inl e)) (h3 k hk)) k v hf, dp_up h4 k hp⟩
theorem RJ.put (h : RJ R v1 b d I rdP o fl ps L V X) (hI : Stab R b v1.heap.size I) (hfl : StbAll R b v1.heap.size fl) (hb : R.rb < b) (k : Nat) (v : Value) (hs : Step (· = b) X X') (hx : X'.heap[b]? = some (o (updL L k) (updV V k v))) (hf : fl.getD k Tru = Tru) (hp : ∀ p ∈ ps, p.1 = k → L p.2 = true)
  (hr : rdP (updL L k) = rdP L) : RJ R v1 b d I rdP o fl ps (updL L k) (updV V k v) X' := by
 obtain ⟨⟨i, h1, h2⟩, h3, h4⟩ := h
 have hs2 : Step (fun q => q = R.rb ∨ q = b) X X' := hs.mono (fun _ _ e => .inr e)
 exact ⟨⟨i, ⟨h1.rd.step hs (fun q hq e => by omega), hx, h1.st.trans hs2, hI _ _ h1.st.size hs2 h1.inv⟩, by rw [hr]; exact h2⟩, fs_up (fun k hk => hfl k X X' _ h1.st.size hs2 (h3 k hk)) k v (by rw [hf]; trivial), dp_up h4 k hp⟩
theorem RJ.zero {i : Nat} (hI : Stab R b v1.heap.size I) (h : Sv R v1 b d I X i (o (fun _ => false) V)) (hs : Step (fun _ => False) X X') (hr : rdP (fun _ => false) i) : RJ R v1 b d I rdP o fl ps (fun _ => false) V X' :=
 ⟨⟨i, h.quiet hI hs, hr⟩, (fun _ h => nomatch h), (fun _ _ h => nomatch h)⟩
theorem RJ.false_of (h : RJ R v1 b d I rdP o fl ps L V X) (k m : Nat) (hm : (k, m) ∈ ps) (hL : L m = false) : L k = false := by
 cases e : L k with
 | false => rfl
 | true => have h2 := h.dp _ hm e; rw [show L (k, m).2 = L m from rfl, hL] at h2; cases h2
end
end Go.Proofs.Ytppekkbaoimpgaa
