/- Itm -/
import Derived.Test.YtppekkbaoimpgaaPkK
set_option maxRecDepth 100000
set_option maxHeartbeats 8000000
namespace Go.Proofs.Ytppekkbaoimpgaa
open Go.RowKit
theorem Try.sizeItem : (Try.prog.info? 58).map (·.size) = some 19 := by kernel_rfl
theorem Try.sizeGenerics : (Try.prog.info? 50).map (·.size) = some 2 := by kernel_rfl
def ItV (n0 : Nat) (w' : World) (a : It) (v : Value) : Prop := ElQ ItP w' (fun k => n0 ≤ k) a v
theorem headR_size {R : Rdr} (hl : LOk R.l) {i j : Nat} {s : ByteArray} (hi : i < R.l.length) (h : headR R.l i = .ok s j) : s.size ≤ 9223372036854775807 := by
 unfold headR at h
 split at h
 ·cases h; decide
 ·split at h
  ·cases h; decide
  ·split at h
   ·cases h; decide
   ·exact nameR_size hl hi h
theorem item_0 (f : Nat) (ihB : ∀ f', f' ≤ f → BlockOk f') (ihT : ∀ f', f' ≤ f → TypOk f') (R : Rdr) (w : World) (i d : Nat) (hl : LOk R.l) (h : RdAt R w i d) (hd : d ≤ 40) (hno : itemR f R.l i d ≠ .out) (hb0 : isF R.l i [115, 116, 114, 117, 99, 116] = true) :
  Calls Try.prog 29 #[.agg #[.pointer (some ⟨R.rb, 0, none⟩)]] w (PPost R d (ItV w.heap.size) (itemR f R.l i d) w) := by
 have HL := Lib.hid hl
 have IHB := Lib.hid ihB
 have IHT := Lib.hid ihT
 obtain ⟨r, hr⟩ : ∃ r, r = itemR f R.l i d := ⟨_, rfl⟩
 obtain ⟨tk, htk⟩ : ∃ tk, tk = tokA R.l i := ⟨_, rfl⟩
 have HRR : Hid (r = if isF R.l i [115, 116, 114, 117, 99, 116] then (nameR R.l (i + 1)).bind fun n j => (genR f R.l j).bind fun g j => (needR R.l j [123]).bind fun _ j => (paramsR f R.l j d [125] 12).bind fun fs j => .ok (itMk 1 n noB g fs noTy [] [] [] tk) j else if isF R.l i [116, 114, 97, 105, 116] then (nameR R.l (i + 1)).bind fun n j => (methodsR f R.l j d false).bind fun ms j => .ok (itMk 2 n noB noGn [] noTy [] ms [] tk) j else if isF R.l i [105, 109, 112, 108] then (nameR R.l (i + 1)).bind fun n j => (needR R.l j [102, 111, 114]).bind fun _ j => (headR R.l j).bind fun h j => (whereR f R.l j).bind fun wh j => (methodsR f R.l j d true).bind fun ms j => .ok (itMk 3 n h noGn [] noTy wh ms [] tk) j else if isF R.l i [102, 110] then (nameR R.l (i + 1)).bind fun n j => (genR f R.l j).bind fun g j => (needR R.l j [40]).bind fun _ j => (paramsR f R.l j d [41] 8).bind fun fs j => (retR f R.l j d).bind fun t j => (whereR f R.l j).bind fun wh j => (blockR f R.l j d).bind fun b j => .ok (itMk 4 n noB g fs t wh [] b tk) j else failR 1 R.l i) := by show _ = _; rw [hr, itemR, ← htk]
 rw [← hr] at hno ⊢
 have HNO := Lib.hid hno
 have hrlt := blk_lt h.blk
 obtain ⟨w1, hw1⟩ : ∃ w1 : World, w1 = (w.alloc (.cells #[.pointer (some ⟨R.rb, 0, none⟩)] 45)).alloc (.cells #[.int .i64 0, .string ⟨#[]⟩, .string ⟨#[]⟩, .slice none 0 0, .slice none 0 0, .slice none 0 0, .int .i64 0, .string ⟨#[]⟩, .string ⟨#[]⟩, .bool false, .slice none 0 0, .slice none 0 0, .int .i64 0, .int .i64 0, .slice none 0 0, .slice none 0 0, .slice none 0 0, .int .i64 0, .int .i64 0] 58) := ⟨_, rfl⟩
 have HS1 : Hid (Step (fun _ => False) w w1) := by show Step _ _ _; rw [hw1]; exact ((Step.refl _ _).alloc _).alloc _
 have HP1 : Hid (w1.heap[w.heap.size]? = some (.cells #[.pointer (some ⟨R.rb, 0, none⟩)] 45 (0, 0))) := by show _ = _; rw [hw1]; exact blk_alloc (blk_new _ _)
 have HN1 : Hid (w1.heap[w.heap.size + 1]? = some (.cells #[.int .i64 0, .string ⟨#[]⟩, .string ⟨#[]⟩, .slice none 0 0, .slice none 0 0, .slice none 0 0, .int .i64 0, .string ⟨#[]⟩, .string ⟨#[]⟩, .bool false, .slice none 0 0, .slice none 0 0, .int .i64 0, .int .i64 0, .slice none 0 0, .slice none 0 0, .slice none 0 0, .int .i64 0, .int .i64 0] 58 (0, 0))) := by show _ = _; rw [hw1]; exact blk_new2 _ _ _
 have HW1 := Lib.hid hw1
 have H1 := Lib.hid (h.quiet HS1.out)
 have HT := Lib.hid (show R.l[i]? = some tk by rw [htk]; exact h.tok)
 have p0 : w1.cell? ⟨w.heap.size, 0, none⟩ = some (.pointer (some ⟨R.rb, 0, none⟩)) := blk_cell HP1.out 0 _ rfl
 have HAT := Lib.hid (at_at R w1 i d tk H1.out HT.out)
 clear ihB ihT hl h hno hr hw1 htk
 go_enter Try.func29, Try.ntmps29
 go_upto_region 1 with fail
 rw [← HW1.out]
 go_wp2_with fail
 refine HAT.out.mono ?_
 rintro e w2 ⟨rfl, h2⟩
 have HS2 := Lib.hid (HS1.out.trans h2)
 have HP2 := Lib.hid (h2.keep HP1.out (fun h => h))
 have HN2 := Lib.hid (h2.keep HN1.out (fun h => h))
 have hn1 := blk_lt HN2.out
 have HH2 := Lib.hid h2
 have HON0 : Hid (∀ u ∈ [Value.int .i64 0, .string noB, .string noB, .slice none 0 0, .slice none 0 0, .slice none 0 0, .int .i64 0, .string noB, .string noB, .bool false, .slice none 0 0, .slice none 0 0, .int .i64 0, .int .i64 0, .slice none 0 0, .slice none 0 0, .slice none 0 0, .int .i64 tk.line, .int .i64 tk.col], u.oneCell' = true) := oneCells rfl
 clear h2 p0
 go_upto_region 3 with (refine wpList_store_part (w := w2.alloc (.cells #[.int .i64 0, .string ⟨#[]⟩, .string ⟨#[]⟩, .slice none 0 0, .slice none 0 0, .slice none 0 0, .int .i64 0, .string ⟨#[]⟩, .string ⟨#[]⟩, .bool false, .slice none 0 0, .slice none 0 0, .int .i64 0, .int .i64 0, .slice none 0 0, .slice none 0 0, .slice none 0 0, .int .i64 0, .int .i64 0] 58)) rfl 58 (.tmp 3) (.tmp 7) rfl w2.heap.size 0 58 _ [.int .i64 0, .string noB, .string noB, .slice none 0 0, .slice none 0 0, .slice none 0 0, .int .i64 0, .string noB, .string noB, .bool false, .slice none 0 0, .slice none 0 0, .int .i64 0, .int .i64 0, .slice none 0 0, .slice none 0 0, .slice none 0 0, .int .i64 tk.line, .int .i64 tk.col] rfl rfl (blk_new _ _) Try.sizeItem (Nat.le_of_eq rfl) HON0.out ?_
                        intro v1 hb3 hst3)
 have HB3 : Hid (v1.heap[w2.heap.size]? = some (.cells #[.int .i64 0, .string noB, .string noB, .slice none 0 0, .slice none 0 0, .slice none 0 0, .int .i64 0, .string noB, .string noB, .bool false, .slice none 0 0, .slice none 0 0, .int .i64 0, .int .i64 0, .slice none 0 0, .slice none 0 0, .slice none 0 0, .int .i64 tk.line, .int .i64 tk.col] 58 (0, 0))) := hb3
 have HS23 : Hid (Step (fun _ => False) w2 v1) := ((Step.refl _ _).alloc _).then hst3 (fun q hq e => by omega)
 clear hb3 hst3
 have HS3 := Lib.hid (HS2.out.trans HS23.out)
 have HP3 := Lib.hid (HS23.out.keep HP2.out (fun h => h))
 have HN3 := Lib.hid (HS23.out.keep HN2.out (fun h => h))
 have H3 := Lib.hid (H1.out.quiet (HH2.out.trans HS23.out))
 have hbv := blk_lt HB3.out
 obtain ⟨b, hb⟩ : ∃ b, b = w2.heap.size := ⟨_, rfl⟩
 rw [← hb] at HB3 hbv ⊢
 have hs1 := HS1.out.size
 have hrb : R.rb < b := by omega
 have hbw : w.heap.size + 1 < b := by omega
 have HBK : Hid (∀ X : World, Step (fun q => q = R.rb ∨ q = b) v1 X → Step (· = R.rb) w X) := by
  show ∀ X, _
  intro X hX
  exact (HS3.out.mono (fun _ _ h => h.elim)).then hX (fun q hq e => by omega)
 have HKP : Hid (∀ X : World, Step (fun q => q = R.rb ∨ q = b) v1 X → X.cell? ⟨w.heap.size, 0, none⟩ = some (.pointer (some ⟨R.rb, 0, none⟩))) := by
  show ∀ X, _
  intro X hX
  exact blk_cell (hX.keep HP3.out (by omega)) 0 _ rfl
 have HKN : Hid (∀ X : World, Step (fun q => q = R.rb ∨ q = b) v1 X → X.heap[w.heap.size + 1]? = some (.cells #[.int .i64 0, .string ⟨#[]⟩, .string ⟨#[]⟩, .slice none 0 0, .slice none 0 0, .slice none 0 0, .int .i64 0, .string ⟨#[]⟩, .string ⟨#[]⟩, .bool false, .slice none 0 0, .slice none 0 0, .int .i64 0, .int .i64 0, .slice none 0 0, .slice none 0 0, .slice none 0 0, .int .i64 0, .int .i64 0] 58 (0, 0))) := by
  show ∀ X, _
  intro X hX
  exact hX.keep HN3.out (by omega)
 have hsz3 := HS3.out.size
 obtain ⟨I0, hI0, -, hsv0⟩ := Sv.keep (R := R) (w1 := v1) (b := b) (d := d) (I := fun _ => True) (X := v1) (i := i) (o := .cells #[.int .i64 0, .string noB, .string noB, .slice none 0 0, .slice none 0 0, .slice none 0 0, .int .i64 0, .string noB, .string noB, .bool false, .slice none 0 0, .slice none 0 0, .int .i64 0, .int .i64 0, .slice none 0 0, .slice none 0 0, .slice none 0 0, .int .i64 tk.line, .int .i64 tk.col] 58 (0, 0)) ⟨H3.out, HB3.out, Step.refl _ _, trivial⟩ Stab.yes Stab.yes trivial
 have HI0 := Lib.hid hI0
 have HSV0 := Lib.hid hsv0
 clear hb hs1 hI0 hsv0
 have p0 := HKP.out v1 (Step.refl _ _)
 have HB0 := Lib.hid hb0
 clear hb0
 go_wp2_with fail
 refine (is_yes R HL.out ⟨#[115, 116, 114, 117, 99, 116]⟩ _ i d HSV0.out.rd (by decide) HB0.out).mono ?_
 rintro e v21 ⟨rfl, hr, hs⟩
 have HSV21 := Lib.hid (HSV0.out.read HI0.out hrb hr hs)
 clear hr hs p0
 have HE22 : Hid (r = (nameR R.l (i + 1)).bind fun n j => (genR f R.l j).bind fun g j => (needR R.l j [123]).bind fun _ j => (paramsR f R.l j d [125] 12).bind fun fs j => .ok (itMk 1 n noB g fs noTy [] [] [] tk) j) := by show _ = _; rw [HRR.out, HB0.out, if_pos rfl]
 have p0 := HKP.out v21 HSV21.out.st
 go_upto_region 4 with fail
 clear p0
 have HFL : Hid (StbAll R b v1.heap.size [(fun _ u => u = (.pointer (some ⟨w.heap.size, 0, none⟩))), (fun _ u => u = (.pointer (some ⟨R.rb, 0, none⟩))), (fun X u => ∃ a j, nameR R.l (i + 1) = .ok a j ∧ StrE X (fun q => v1.heap.size ≤ q) a u), (fun _ u => u = (.agg #[.pointer (some ⟨R.rb, 0, none⟩)])), (fun X u => ∃ a j c k, nameR R.l (i + 1) = .ok a j ∧ genR f R.l j = .ok c k ∧ GnQ X (fun q => v1.heap.size ≤ q) c u), (fun _ u => u = (.pointer (some ⟨b, 0, none⟩))), Tru, (fun _ u => u = (.pointer (some ⟨b, 1, none⟩))), Tru, (fun _ u => u = (.pointer (some ⟨b, 3, none⟩))), Tru]) := (StbAll.cons (Stb.const _) (StbAll.cons (Stb.const _) (StbAll.cons (Stb.ex fun _ => Stb.ex fun _ => Stb.and (Stb.at strE_ok hrb (by omega) _)) (StbAll.cons (Stb.const _) (StbAll.cons (Stb.ex fun _ => Stb.ex fun _ => Stb.ex fun _ => Stb.ex fun _ => Stb.and (Stb.and (Stb.at gnQ_ok hrb (by omega) _))) (StbAll.cons (Stb.const _) (StbAll.cons Stb.tru (StbAll.cons (Stb.const _) (StbAll.cons Stb.tru (StbAll.cons (Stb.const _) (StbAll.cons Stb.tru StbAll.nil)))))))))))
 go_cut [] (fun wx => ∃ (a : ByteArray) (j : Nat) (c : Gn) (k : Nat) (u2 : Value) (u4 : Value), nameR R.l (i + 1) = .ok a j ∧ genR f R.l j = .ok c k ∧ Sv R v1 b d I0 wx k (.cells #[.int .i64 1, u2, .string noB, agc (u4) 0, agc (u4) 1, .slice none 0 0, .int .i64 0, .string noB, .string noB, .bool false, .slice none 0 0, .slice none 0 0, .int .i64 0, .int .i64 0, .slice none 0 0, .slice none 0 0, .slice none 0 0, .int .i64 tk.line, .int .i64 tk.col] 58 (0, 0)) ∧ StrE wx (fun q => v1.heap.size ≤ q) a u2 ∧ GnQ wx (fun q => v1.heap.size ≤ q) c u4)
 case first =>
  obtain ⟨Jx, hJx⟩ : ∃ Jx : (Nat → Bool) → (Nat → Value) → World → Prop, Jx = RJ R v1 b d I0 (fun (L : Nat → Bool) (ix : Nat) => cond (L 4) (∃ a j c, nameR R.l (i + 1) = .ok a j ∧ genR f R.l j = .ok c ix) (cond (L 2) (∃ a, nameR R.l (i + 1) = .ok a ix) (ix = (i + 1)))) (fun (L : Nat → Bool) (V : Nat → Value) => Obj.cells #[cond (L 6) (.int .i64 1) (.int .i64 0), cond (L 8) (V 2) (.string noB), .string noB, cond (L 10) (agc (V 4) 0) (.slice none 0 0), cond (L 10) (agc (V 4) 1) (.slice none 0 0), .slice none 0 0, .int .i64 0, .string noB, .string noB, .bool false, .slice none 0 0, .slice none 0 0, .int .i64 0, .int .i64 0, .slice none 0 0, .slice none 0 0, .slice none 0 0, .int .i64 tk.line, .int .i64 tk.col] 58 (0, 0)) [(fun _ u => u = (.pointer (some ⟨w.heap.size, 0, none⟩))), (fun _ u => u = (.pointer (some ⟨R.rb, 0, none⟩))), (fun X u => ∃ a j, nameR R.l (i + 1) = .ok a j ∧ StrE X (fun q => v1.heap.size ≤ q) a u), (fun _ u => u = (.agg #[.pointer (some ⟨R.rb, 0, none⟩)])), (fun X u => ∃ a j c k, nameR R.l (i + 1) = .ok a j ∧ genR f R.l j = .ok c k ∧ GnQ X (fun q => v1.heap.size ≤ q) c u), (fun _ u => u = (.pointer (some ⟨b, 0, none⟩))), Tru, (fun _ u => u = (.pointer (some ⟨b, 1, none⟩))), Tru, (fun _ u => u = (.pointer (some ⟨b, 3, none⟩))), Tru] [(4, 2), (8, 2), (10, 4)] := ⟨_, rfl⟩
  have HJX := Lib.hid hJx
  clear hJx
  refine wp_region_relyD (by kernel_rfl) (Jx) 11 rfl (by kernel_rfl) (by kernel_rfl) (by kernel_rfl) (by kernel_rfl) ?h0 ?hs ?hdone
  case h0 => rw [HJX.out]; exact RJ.zero HI0.out HSV21.out ((Step.refl _ _).drew) rfl
  case hs =>
   refine ⟨?_, ?_, ?_, ?_, ?_, ?_, ?_, ?_, ?_, ?_, ?_, trivial⟩
   ·intro L V X a ev evo hdf hL hdep hJ
    rw [HJX.out] at hJ
    have o1 := evo 1 rfl
    change a.tmps[1]?.getD undef = .pointer (some ⟨w.heap.size, 0, none⟩) at o1
    go_simp
    exact ⟨_, rfl, by rw [HJX.out]; exact hJ.up 0 _ rfl (np rfl) rfl rfl⟩
   ·intro L V X a ev evo hdf hL hdep hJ
    rw [HJX.out] at hJ
    have e15 := (ev 0 15 rfl (hdep 0 rfl)).trans (hJ.fs 0 (hdep 0 rfl))
    obtain ⟨i9, hv9, -⟩ := id hJ.sv
    have p0 := HKP.out X hv9.st
    clear hv9
    go_simp
    exact ⟨_, rfl, by rw [HJX.out]; exact hJ.up 1 _ rfl (np rfl) rfl rfl⟩
   ·intro L V X a ev evo hdf hL hdep hJ
    rw [HJX.out] at hJ
    have e16 := (ev 1 16 rfl (hdep 1 rfl)).trans (hJ.fs 1 (hdep 1 rfl))
    obtain ⟨i9, hv9, hr9⟩ := id hJ.sv
    rw [hJ.false_of 4 2 (by decide) hL, hL] at hr9
    have hr9 : i9 = (i + 1) := hr9
    rw [hr9] at hv9
    clear hr9
    go_simp
    refine (name_any R HL.out X (i + 1) d hv9.rd).mono ?_
    intro e wq hp
    cases hx : nameR R.l (i + 1) with
    | out => exact absurd hx (fun e => HNO.out (by rw [HE22.out, e]; rfl))
    | err cc ln col =>
     rw [hx] at hp
     obtain ⟨rfl, hs⟩ := hp
     exact ⟨hdf, PPost.of_err (c := cc) (ln := ln) (col := col) (by rw [HE22.out, hx]; rfl) rfl (HBK.out _ (hv9.err hs))⟩
    | ok c9 k9 =>
     rw [hx] at hp
     obtain ⟨⟨v, rfl, hv⟩, hr, hs⟩ := hp
     exact ⟨_, rfl, by rw [HJX.out]; exact hJ.call HI0.out HFL.out hrb 2 v hr hs ⟨_, _, hx, strE_ok.mono _ _ (fun q _ hq => by have := hv9.st.size; omega) (show StrE _ _ _ _ from hv)⟩ (np rfl) (by have e8 := hJ.false_of 8 2 (by decide) hL; change Obj.cells #[cond (L 6) (.int .i64 1) (.int .i64 0), cond (L 8) (_) (.string noB), .string noB, cond (L 10) (agc (V 4) 0) (.slice none 0 0), cond (L 10) (agc (V 4) 1) (.slice none 0 0), .slice none 0 0, .int .i64 0, .string noB, .string noB, .bool false, .slice none 0 0, .slice none 0 0, .int .i64 0, .int .i64 0, .slice none 0 0, .slice none 0 0, .slice none 0 0, .int .i64 tk.line, .int .i64 tk.col] 58 (0, 0) = Obj.cells #[cond (L 6) (.int .i64 1) (.int .i64 0), cond (L 8) (V 2) (.string noB), .string noB, cond (L 10) (agc (V 4) 0) (.slice none 0 0), cond (L 10) (agc (V 4) 1) (.slice none 0 0), .slice none 0 0, .int .i64 0, .string noB, .string noB, .bool false, .slice none 0 0, .slice none 0 0, .int .i64 0, .int .i64 0, .slice none 0 0, .slice none 0 0, .slice none 0 0, .int .i64 tk.line, .int .i64 tk.col] 58 (0, 0); rw [e8]; rfl) (by show cond (L 4) _ _; rw [hJ.false_of 4 2 (by decide) hL]; exact ⟨_, hx⟩)⟩
   ·intro L V X a ev evo hdf hL hdep hJ
    rw [HJX.out] at hJ
    have o1 := evo 1 rfl
    change a.tmps[1]?.getD undef = .pointer (some ⟨w.heap.size, 0, none⟩) at o1
    obtain ⟨i9, hv9, -⟩ := id hJ.sv
    have p0 := HKP.out X hv9.st
    clear hv9
    go_simp
    exact ⟨_, rfl, by rw [HJX.out]; exact hJ.up 3 _ rfl (np rfl) rfl rfl⟩
   ·intro L V X a ev evo hdf hL hdep hJ
    rw [HJX.out] at hJ
    have e18 := (ev 3 18 rfl (hdep 3 rfl)).trans (hJ.fs 3 (hdep 3 rfl))
    obtain ⟨i9, hv9, hr9⟩ := id hJ.sv
    rw [hL, hdep 2 rfl] at hr9
    obtain ⟨a9, h9⟩ : ∃ a, nameR R.l (i + 1) = .ok a i9 := hr9
    go_simp
    refine (gen_any f R X i9 d HL.out hv9.rd (fun e => HNO.out (by rw [HE22.out, h9, Res.bind_ok]; rw [e]; rfl))).mono ?_
    intro e wq hp
    cases hx : genR f R.l i9 with
    | out => exact absurd hx (fun e => HNO.out (by rw [HE22.out, h9, Res.bind_ok]; rw [e]; rfl))
    | err cc ln col =>
     rw [hx] at hp
     obtain ⟨rfl, hs⟩ := hp
     exact ⟨hdf, PPost.of_err (c := cc) (ln := ln) (col := col) (by rw [HE22.out, h9, Res.bind_ok]; rw [hx]; rfl) rfl (HBK.out _ (hv9.err hs))⟩
    | ok c9 k9 =>
     rw [hx] at hp
     obtain ⟨⟨v, rfl, hv⟩, hr, hs⟩ := hp
     exact ⟨_, rfl, by rw [HJX.out]; exact hJ.call HI0.out HFL.out hrb 4 v hr hs ⟨_, _, _, _, h9, hx, gnQ_ok.mono _ _ (fun q _ hq => by have := hv9.st.size; omega) (show GnQ _ _ _ _ from hv)⟩ (mc ⟨fun _ => hdep 2 rfl, (mc ⟨nd (by decide), (mc ⟨nd (by decide), (fun _ h => nomatch h)⟩)⟩)⟩) (by have e10 := hJ.false_of 10 4 (by decide) hL; change Obj.cells #[cond (L 6) (.int .i64 1) (.int .i64 0), cond (L 8) (V 2) (.string noB), .string noB, cond (L 10) (agc (_) 0) (.slice none 0 0), cond (L 10) (agc (_) 1) (.slice none 0 0), .slice none 0 0, .int .i64 0, .string noB, .string noB, .bool false, .slice none 0 0, .slice none 0 0, .int .i64 0, .int .i64 0, .slice none 0 0, .slice none 0 0, .slice none 0 0, .int .i64 tk.line, .int .i64 tk.col] 58 (0, 0) = Obj.cells #[cond (L 6) (.int .i64 1) (.int .i64 0), cond (L 8) (V 2) (.string noB), .string noB, cond (L 10) (agc (V 4) 0) (.slice none 0 0), cond (L 10) (agc (V 4) 1) (.slice none 0 0), .slice none 0 0, .int .i64 0, .string noB, .string noB, .bool false, .slice none 0 0, .slice none 0 0, .int .i64 0, .int .i64 0, .slice none 0 0, .slice none 0 0, .slice none 0 0, .int .i64 tk.line, .int .i64 tk.col] 58 (0, 0); rw [e10]; rfl) ⟨_, _, _, h9, hx⟩⟩
   ·intro L V X a ev evo hdf hL hdep hJ
    rw [HJX.out] at hJ
    have o3 := evo 3 rfl
    change a.tmps[3]?.getD undef = .pointer (some ⟨b, 0, none⟩) at o3
    go_simp
    exact ⟨_, rfl, by rw [HJX.out]; exact hJ.up 5 _ rfl (np rfl) rfl rfl⟩
   ·intro L V X a ev evo hdf hL hdep hJ
    rw [HJX.out] at hJ
    have e20 := (ev 5 20 rfl (hdep 5 rfl)).trans (hJ.fs 5 (hdep 5 rfl))
    obtain ⟨i9, hv9, -⟩ := id hJ.sv
    have hb9 := hv9.blk
    have ecell : ∃ v, X.cell? ⟨b, 0, none⟩ = some v := ⟨_, blk_cell hb9 0 _ rfl⟩
    obtain ⟨vc, hvc⟩ := ecell
    have hfz := blk_free hb9 0
    go_simp
    exact ⟨undef, by rw [HJX.out]; exact hJ.put HI0.out HFL.out hrb 6 undef ((Step.refl _ _).setCell _ _ (fun _ => rfl)) (blk_set hb9 0 (.int .i64 1)) rfl (np rfl) rfl⟩
   ·intro L V X a ev evo hdf hL hdep hJ
    rw [HJX.out] at hJ
    have o3 := evo 3 rfl
    change a.tmps[3]?.getD undef = .pointer (some ⟨b, 0, none⟩) at o3
    go_simp
    exact ⟨_, rfl, by rw [HJX.out]; exact hJ.up 7 _ rfl (np rfl) rfl rfl⟩
   ·intro L V X a ev evo hdf hL hdep hJ
    rw [HJX.out] at hJ
    have e21 := (ev 7 21 rfl (hdep 7 rfl)).trans (hJ.fs 7 (hdep 7 rfl))
    obtain ⟨i9, hv9, -⟩ := id hJ.sv
    have hb9 := hv9.blk
    obtain ⟨a8, j8, h8, hV⟩ := hJ.fs 2 (hdep 2 rfl)
    have hV : V 2 = .string a8 := hV
    have e17 := (ev 2 17 rfl (hdep 2 rfl)).trans hV
    have ecell : ∃ v, X.cell? ⟨b, 1, none⟩ = some v := ⟨_, blk_cell hb9 1 _ rfl⟩
    obtain ⟨vc, hvc⟩ := ecell
    have hfz := blk_free hb9 1
    have hx : (X.setCell ⟨b, 1, none⟩ (V 2)).heap[b]? = _ := blk_set hb9 1 (V 2)
    rw [hV] at hx
    have hxx := hx
    go_simp
    exact ⟨undef, by rw [HJX.out]; exact hJ.put HI0.out HFL.out hrb 8 undef ((Step.refl _ _).setCell _ _ (fun _ => rfl)) (by rw [← hV]; exact blk_set hb9 1 (V 2)) rfl (mc ⟨nd (by decide), (mc ⟨fun _ => hdep 2 rfl, (mc ⟨nd (by decide), (fun _ h => nomatch h)⟩)⟩)⟩) rfl⟩
   ·intro L V X a ev evo hdf hL hdep hJ
    rw [HJX.out] at hJ
    have o3 := evo 3 rfl
    change a.tmps[3]?.getD undef = .pointer (some ⟨b, 0, none⟩) at o3
    go_simp
    exact ⟨_, rfl, by rw [HJX.out]; exact hJ.up 9 _ rfl (np rfl) rfl rfl⟩
   ·intro L V X a ev evo hdf hL hdep hJ
    rw [HJX.out] at hJ
    have e22 := (ev 9 22 rfl (hdep 9 rfl)).trans (hJ.fs 9 (hdep 9 rfl))
    obtain ⟨i9, hv9, -⟩ := id hJ.sv
    have hb9 := hv9.blk
    obtain ⟨a8, j8, c8, k8, h8, h7, h6⟩ := hJ.fs 4 (hdep 4 rfl)
    obtain ⟨ga1, gc1, ga2, gc2, hV⟩ := GnQ.parts h6
    have e19 := (ev 4 19 rfl (hdep 4 rfl)).trans hV
    refine wp_store_part 50 (.tmp 22) (.tmp 19) rfl b 3 58 _ [.slice ga1 c8.lifes.length gc1, .slice ga2 c8.types.length gc2] (by rw [evalTmp]; exact e22) (by rw [evalTmp]; exact e19) hb9 Try.sizeGenerics (show 3 + 2 ≤ 19 by decide) (oneCells rfl) ?_
    intro w9 hb8 hs8
    exact ⟨undef, rfl, by rw [HJX.out]; exact hJ.put HI0.out HFL.out hrb 10 undef hs8 (by rw [hb8]; show _ = some (Obj.cells #[cond (updL L 10 6) (.int .i64 1) (.int .i64 0), cond (updL L 10 8) (V 2) (.string noB), .string noB, cond (updL L 10 10) (agc (V 4) 0) (.slice none 0 0), cond (updL L 10 10) (agc (V 4) 1) (.slice none 0 0), .slice none 0 0, .int .i64 0, .string noB, .string noB, .bool false, .slice none 0 0, .slice none 0 0, .int .i64 0, .int .i64 0, .slice none 0 0, .slice none 0 0, .slice none 0 0, .int .i64 tk.line, .int .i64 tk.col] 58 (0, 0)); rw [hV]; rfl) rfl (mc ⟨nd (by decide), (mc ⟨nd (by decide), (mc ⟨fun _ => hdep 4 rfl, (fun _ h => nomatch h)⟩)⟩)⟩) rfl⟩
  case hdone =>
   intro L V X hall hJ
   rw [HJX.out] at hJ
   obtain ⟨i9, hv9, hr9⟩ := hJ.sv
   rw [hall 4 (by decide)] at hr9
   obtain ⟨a9, j9, c9, h91, h92⟩ : ∃ a j c, nameR R.l (i + 1) = .ok a j ∧ genR f R.l j = .ok c i9 := hr9
   have f2 := hJ.fs 2 (hall 2 (by decide))
   obtain ⟨a8, j8, h81, g2⟩ := f2
   rw [h91] at h81
   cases h81
   have f4 := hJ.fs 4 (hall 4 (by decide))
   obtain ⟨a8, j8, c8, k8, h81, h82, g4⟩ := f4
   rw [h91] at h81
   cases h81
   rw [h92] at h82
   cases h82
   have hv9 : Sv R v1 b d I0 X i9 (Obj.cells #[.int .i64 1, V 2, .string noB, agc (V 4) 0, agc (V 4) 1, .slice none 0 0, .int .i64 0, .string noB, .string noB, .bool false, .slice none 0 0, .slice none 0 0, .int .i64 0, .int .i64 0, .slice none 0 0, .slice none 0 0, .slice none 0 0, .int .i64 tk.line, .int .i64 tk.col] 58 (0, 0)) := by
    have h := hv9
    rw [hall 6 (by decide), hall 8 (by decide), hall 10 (by decide)] at h
    exact h
   have HEND := Lib.hid hv9
   have HG2 := Lib.hid g2
   have HG4 := Lib.hid g4
   have H91 := Lib.hid h91
   have H92 := Lib.hid h92
   rw [show List.range 11 = [0, 1, 2, 3, 4, 5, 6, 7, 8, 9, 10] from rfl]
   simp only [putF, dstO, List.getElem?_toArray, List.getElem?_cons_zero, List.getElem?_cons_succ, Option.bind_some, Act.put, List.setIfInBounds_toArray, List.set_cons_zero, List.set_cons_succ]
   clear hJ hall hv9 h91 h92 g2 g4
   go_wp2_with fail
   go_meet
   case rel => exact ⟨a9, j9, c9, i9, V 2, V 4, H91.out, H92.out, HEND.out, HG2.out, HG4.out⟩
 case rest =>
  obtain ⟨a23, j23, c23, k23, u2, u4, hn1, hn2, hsv, hg2, hg4⟩ := hcut
  obtain ⟨w23, rfl⟩ : ∃ w23 : World, w23 = wc := ⟨_, rfl⟩
  have hg2e : u2 = .string a23 := hg2
  subst hg2e
  have HN1 := Lib.hid hn1
  have HN2 := Lib.hid hn2
  have HNM23 := Lib.hid (nameR_size HL.out HSV21.out.rd.lt hn1)
  obtain ⟨ga1, gc1, ga2, gc2, rfl⟩ := GnQ.parts hg4
  have HSVx : Hid (Sv R v1 b d I0 w23 k23 (.cells #[.int .i64 1, .string a23, .string noB, .slice ga1 c23.lifes.length gc1, .slice ga2 c23.types.length gc2, .slice none 0 0, .int .i64 0, .string noB, .string noB, .bool false, .slice none 0 0, .slice none 0 0, .int .i64 0, .int .i64 0, .slice none 0 0, .slice none 0 0, .slice none 0 0, .int .i64 tk.line, .int .i64 tk.col] 58 (0, 0))) := hsv
  obtain ⟨I23, hI23, hF23, hsv23⟩ := HSVx.out.keep HI0.out (J := fun X => GnQ X (fun q => v1.heap.size ≤ q) c23 (.agg #[.slice ga1 c23.lifes.length gc1, .slice ga2 c23.types.length gc2])) (Stab.at gnQ_ok hrb (by omega) _ _) (hg4)
  have HI23 := Lib.hid hI23
  have HF23 := Lib.hid hF23
  have HSV23 := Lib.hid hsv23
  clear hI23 hF23 hsv23
  clear hn1 hn2 hsv hg2 hg4
  have HE24 : Hid (r = (needR R.l k23 [123]).bind fun _ j => (paramsR f R.l j d [125] 12).bind fun fs j => .ok (itMk 1 a23 noB c23 fs noTy [] [] [] tk) j) := by show _ = _; rw [HE22.out, HN1.out, Res.bind_ok]; rw [HN2.out]; rfl
  have p0 := HKP.out w23 HSV23.out.st
  go_wp2_with fail
  refine (need_any R HL.out w23.heap.size ⟨#[123]⟩ _ k23 d (HSV23.out.rd.quiet ((Step.refl _ _).alloc _)) (by decide) (blk_cell (blk_new _ _) 0 _ rfl)).mono ?_
  rintro e v25 hp
  have hp2 : PPost R d UnitV (needR R.l k23 [123]) _ e v25 := hp
  cases hn : needR R.l k23 [123] with
  | out => exact (needR_out hn).elim
  | err c ln col =>
   rw [hn] at hp2
   obtain ⟨rfl, hs⟩ := hp2
   refine ⟨rfl, PPost.of_err (c := c) (ln := ln) (col := col) (by rw [HE24.out, hn]; rfl) rfl (HBK.out _ (HSV23.out.err (((Step.refl (· = R.rb) _).alloc _).trans hs)))⟩
  | ok u25 j25 =>
   have HN25 := Lib.hid hn
   rw [hn] at hp2
   obtain ⟨⟨v, rfl, rfl⟩, hr, hs⟩ := hp2
   have HSV25 := Lib.hid (HSV23.out.read HI23.out hrb hr (((Step.refl (· = R.rb) _).alloc _).trans hs))
   clear hn hr hs hp p0
   have HE26 : Hid (r = (paramsR f R.l j25 d [125] 12).bind fun fs j => .ok (itMk 1 a23 noB c23 fs noTy [] [] [] tk) j) := by show _ = _; rw [HE24.out, HN25.out]; rfl
   have p0 := HKP.out v25 HSV25.out.st
   go_wp2_with fail
   refine (params_any f (fun f' hf => IHT.out f' (by omega)) R _ j25 d ⟨#[125]⟩ 12 HL.out HSV25.out.rd hd (by decide) (by decide) (fun e => HNO.out (by rw [HE26.out]; exact congrArg (fun q => Res.bind q _) e))).mono ?_
   rintro e v27 hp
   have hp2 : PPost R d (PmsV v25.heap.size) (paramsR f R.l j25 d [125] 12) _ e v27 := hp
   cases hn : paramsR f R.l j25 d [125] 12 with
   | out => exact absurd (by rw [HE26.out, hn]; rfl) HNO.out
   | err c ln col =>
    rw [hn] at hp2
    obtain ⟨rfl, hs⟩ := hp2
    refine ⟨rfl, PPost.of_err (c := c) (ln := ln) (col := col) (by rw [HE26.out, hn]; rfl) rfl (HBK.out _ (HSV25.out.err hs))⟩
   | ok a27 j27 =>
    have HN27 := Lib.hid hn
    rw [hn] at hp2
    obtain ⟨⟨v, rfl, hv⟩, hr, hs⟩ := hp2
    obtain ⟨la27, lc27, rfl⟩ := LsQ.parts hv
    obtain ⟨I27, hI27, hF27, hsv27⟩ := HSV25.out.got (lsQ_ok pmP_ok) HI23.out hrb (by omega) hr hs (At := (LsQ PmP)) hv
    have HI27 := Lib.hid hI27
    have HF27 := Lib.hid hF27
    have HSV27 := Lib.hid hsv27
    clear hn hr hs hp hv hI27 hF27 hsv27 p0
    have HE28 : Hid (r = .ok (itMk 1 a23 noB c23 a27 noTy [] [] [] tk) j27) := by show _ = _; rw [HE26.out, HN27.out]; rfl
    have p0 := HKP.out v27 HSV27.out.st
    have bt5 := blk_cell HSV27.out.blk 5 _ rfl
    have bz5 := blk_free HSV27.out.blk 5
    obtain ⟨v29, hv29⟩ : ∃ v29 : World, v29 = (v27.setCell ⟨b, 5, none⟩ (.slice la27 a27.length lc27)) := ⟨_, rfl⟩
    have HSV29 : Hid (Sv R v1 b d I27 v29 j27 (.cells #[.int .i64 1, .string a23, .string noB, .slice ga1 c23.lifes.length gc1, .slice ga2 c23.types.length gc2, .slice la27 a27.length lc27, .int .i64 0, .string noB, .string noB, .bool false, .slice none 0 0, .slice none 0 0, .int .i64 0, .int .i64 0, .slice none 0 0, .slice none 0 0, .slice none 0 0, .int .i64 tk.line, .int .i64 tk.col] 58 (0, 0))) := by show Sv _ _ _ _ _ _ _ _; rw [hv29]; exact (HSV27.out.set HI27.out hrb 5 (.slice la27 a27.length lc27))
    go_upto_region 20 with fail
    rw [← hv29]
    clear hv29 p0 bt5 bz5
    have p0 := HKP.out v29 HSV29.out.st
    have HLD : Hid (∀ (jj : Nat) v, [Value.int .i64 1, .string a23, .string noB, .slice ga1 c23.lifes.length gc1, .slice ga2 c23.types.length gc2, .slice la27 a27.length lc27, .int .i64 0, .string noB, .string noB, .bool false, .slice none 0 0, .slice none 0 0, .int .i64 0, .int .i64 0, .slice none 0 0, .slice none 0 0, .slice none 0 0, .int .i64 tk.line, .int .i64 tk.col][jj]? = some v → v29.cell? ⟨b, 0 + jj, none⟩ = some v) := by
     show ∀ jj v, _
     intro jj v hv
     rw [Nat.zero_add]; exact blk_cell HSV29.out.blk jj v (by simpa using hv)
    have HONE : Hid (∀ u ∈ [Value.int .i64 1, .string a23, .string noB, .slice ga1 c23.lifes.length gc1, .slice ga2 c23.types.length gc2, .slice la27 a27.length lc27, .int .i64 0, .string noB, .string noB, .bool false, .slice none 0 0, .slice none 0 0, .int .i64 0, .int .i64 0, .slice none 0 0, .slice none 0 0, .slice none 0 0, .int .i64 tk.line, .int .i64 tk.col], u.oneCell' = true) := oneCells rfl
    have HNX := Lib.hid (HKN.out v29 HSV29.out.st)
    obtain ⟨vl9, vt9, hgv, hgn, hgt⟩ := (HF23.out _ (HF27.out _ HSV29.out.inv).1).2
    obtain ⟨rfl, rfl⟩ : vl9 = .slice ga1 c23.lifes.length gc1 ∧ vt9 = .slice ga2 c23.types.length gc2 := by simpa using hgv.symm
    have HEX : Hid (ItP v29 (fun q => v1.heap.size ≤ q) (itMk 1 a23 noB c23 a27 noTy [] [] [] tk) [.int .i64 1, .string a23, .string noB, .slice ga1 c23.lifes.length gc1, .slice ga2 c23.types.length gc2, .slice la27 a27.length lc27, .int .i64 0, .string noB, .string noB, .bool false, .slice none 0 0, .slice none 0 0, .int .i64 0, .int .i64 0, .slice none 0 0, .slice none 0 0, .slice none 0 0, .int .i64 tk.line, .int .i64 tk.col]) := ⟨[.int .i64 0, .string noB, .string noB, .bool false, .slice none 0 0, .slice none 0 0, .int .i64 0, .int .i64 0], _, _, _, _, _, _, rfl, HNM23.out, (show noB.size ≤ 9223372036854775807 by decide), hgn, hgt, (HF27.out _ HSV29.out.inv).2, noTyP _ _, LsQ.nil _ _, LsQ.nil _ _, StsQ.nil _ _⟩
    clear p0 hgn hgt hgv
    go_wp2_with (first
     | (refine wpList_load_whole rfl 58 (.tmp 3) rfl b 0 rfl [Value.int .i64 1, .string a23, .string noB, .slice ga1 c23.lifes.length gc1, .slice ga2 c23.types.length gc2, .slice la27 a27.length lc27, .int .i64 0, .string noB, .string noB, .bool false, .slice none 0 0, .slice none 0 0, .int .i64 0, .int .i64 0, .slice none 0 0, .slice none 0 0, .slice none 0 0, .int .i64 tk.line, .int .i64 tk.col] _ HLD.out Try.underlying58 rfl Try.sizeItem ?_)
     | (refine wpList_store_part (w := v29) rfl 58 (.tmp 2) (.tmp 92) rfl (w.heap.size + 1) 0 58 _ [Value.int .i64 1, .string a23, .string noB, .slice ga1 c23.lifes.length gc1, .slice ga2 c23.types.length gc2, .slice la27 a27.length lc27, .int .i64 0, .string noB, .string noB, .bool false, .slice none 0 0, .slice none 0 0, .int .i64 0, .int .i64 0, .slice none 0 0, .slice none 0 0, .slice none 0 0, .int .i64 tk.line, .int .i64 tk.col] rfl rfl HNX.out Try.sizeItem (Nat.le_of_eq rfl) HONE.out ?_
        intro wR hbR hstR))
    have hbR' : wR.heap[w.heap.size + 1]? = some (.cells [Value.int .i64 1, .string a23, .string noB, .slice ga1 c23.lifes.length gc1, .slice ga2 c23.types.length gc2, .slice la27 a27.length lc27, .int .i64 0, .string noB, .string noB, .bool false, .slice none 0 0, .slice none 0 0, .int .i64 0, .int .i64 0, .slice none 0 0, .slice none 0 0, .slice none 0 0, .int .i64 tk.line, .int .i64 tk.col].toArray 58 (0, 0)) := hbR
    refine bodyPost_ret (results_cellB rfl _ (w.heap.size + 1) 58 _ _ rfl hbR' Try.underlying58 rfl Try.sizeItem) rfl ?_
    refine PPost.of_ok (a := itMk 1 a23 noB c23 a27 noTy [] [] [] tk) (j := j27) HE28.out rfl ⟨_, rfl, itP_ok.mono _ _ (fun q _ hq => by omega) (itP_ok.step _ _ hstR (fun q hq e => by omega) HEX.out)⟩ (HSV29.out.rd.step hstR (fun q hq e => by omega)) ((HBK.out _ HSV29.out.st).then hstR (fun q hq e => by omega))
theorem item_1 (f : Nat) (ihB : ∀ f', f' ≤ f → BlockOk f') (ihT : ∀ f', f' ≤ f → TypOk f') (R : Rdr) (w : World) (i d : Nat) (hl : LOk R.l) (h : RdAt R w i d) (hd : d ≤ 40) (hno : itemR f R.l i d ≠ .out) (hb0 : isF R.l i [115, 116, 114, 117, 99, 116] = false) (hb1 : isF R.l i [116, 114, 97, 105, 116] = true) :
  Calls Try.prog 29 #[.agg #[.pointer (some ⟨R.rb, 0, none⟩)]] w (PPost R d (ItV w.heap.size) (itemR f R.l i d) w) := by
 have HL := Lib.hid hl
 have IHB := Lib.hid ihB
 have IHT := Lib.hid ihT
 obtain ⟨r, hr⟩ : ∃ r, r = itemR f R.l i d := ⟨_, rfl⟩
 obtain ⟨tk, htk⟩ : ∃ tk, tk = tokA R.l i := ⟨_, rfl⟩
 have HRR : Hid (r = if isF R.l i [115, 116, 114, 117, 99, 116] then (nameR R.l (i + 1)).bind fun n j => (genR f R.l j).bind fun g j => (needR R.l j [123]).bind fun _ j => (paramsR f R.l j d [125] 12).bind fun fs j => .ok (itMk 1 n noB g fs noTy [] [] [] tk) j else if isF R.l i [116, 114, 97, 105, 116] then (nameR R.l (i + 1)).bind fun n j => (methodsR f R.l j d false).bind fun ms j => .ok (itMk 2 n noB noGn [] noTy [] ms [] tk) j else if isF R.l i [105, 109, 112, 108] then (nameR R.l (i + 1)).bind fun n j => (needR R.l j [102, 111, 114]).bind fun _ j => (headR R.l j).bind fun h j => (whereR f R.l j).bind fun wh j => (methodsR f R.l j d true).bind fun ms j => .ok (itMk 3 n h noGn [] noTy wh ms [] tk) j else if isF R.l i [102, 110] then (nameR R.l (i + 1)).bind fun n j => (genR f R.l j).bind fun g j => (needR R.l j [40]).bind fun _ j => (paramsR f R.l j d [41] 8).bind fun fs j => (retR f R.l j d).bind fun t j => (whereR f R.l j).bind fun wh j => (blockR f R.l j d).bind fun b j => .ok (itMk 4 n noB g fs t wh [] b tk) j else failR 1 R.l i) := by show _ = _; rw [hr, itemR, ← htk]
 rw [← hr] at hno ⊢
 have HNO := Lib.hid hno
 have hrlt := blk_lt h.blk
 obtain ⟨w1, hw1⟩ : ∃ w1 : World, w1 = (w.alloc (.cells #[.pointer (some ⟨R.rb, 0, none⟩)] 45)).alloc (.cells #[.int .i64 0, .string ⟨#[]⟩, .string ⟨#[]⟩, .slice none 0 0, .slice none 0 0, .slice none 0 0, .int .i64 0, .string ⟨#[]⟩, .string ⟨#[]⟩, .bool false, .slice none 0 0, .slice none 0 0, .int .i64 0, .int .i64 0, .slice none 0 0, .slice none 0 0, .slice none 0 0, .int .i64 0, .int .i64 0] 58) := ⟨_, rfl⟩
 have HS1 : Hid (Step (fun _ => False) w w1) := by show Step _ _ _; rw [hw1]; exact ((Step.refl _ _).alloc _).alloc _
 have HP1 : Hid (w1.heap[w.heap.size]? = some (.cells #[.pointer (some ⟨R.rb, 0, none⟩)] 45 (0, 0))) := by show _ = _; rw [hw1]; exact blk_alloc (blk_new _ _)
 have HN1 : Hid (w1.heap[w.heap.size + 1]? = some (.cells #[.int .i64 0, .string ⟨#[]⟩, .string ⟨#[]⟩, .slice none 0 0, .slice none 0 0, .slice none 0 0, .int .i64 0, .string ⟨#[]⟩, .string ⟨#[]⟩, .bool false, .slice none 0 0, .slice none 0 0, .int .i64 0, .int .i64 0, .slice none 0 0, .slice none 0 0, .slice none 0 0, .int .i64 0, .int .i64 0] 58 (0, 0))) := by show _ = _; rw [hw1]; exact blk_new2 _ _ _
 have HW1 := Lib.hid hw1
 have H1 := Lib.hid (h.quiet HS1.out)
 have HT := Lib.hid (show R.l[i]? = some tk by rw [htk]; exact h.tok)
 have p0 : w1.cell? ⟨w.heap.size, 0, none⟩ = some (.pointer (some ⟨R.rb, 0, none⟩)) := blk_cell HP1.out 0 _ rfl
 have HAT := Lib.hid (at_at R w1 i d tk H1.out HT.out)
 clear ihB ihT hl h hno hr hw1 htk
 go_enter Try.func29, Try.ntmps29
 go_upto_region 1 with fail
 rw [← HW1.out]
 go_wp2_with fail
 refine HAT.out.mono ?_
 rintro e w2 ⟨rfl, h2⟩
 have HS2 := Lib.hid (HS1.out.trans h2)
 have HP2 := Lib.hid (h2.keep HP1.out (fun h => h))
 have HN2 := Lib.hid (h2.keep HN1.out (fun h => h))
 have hn1 := blk_lt HN2.out
 have HH2 := Lib.hid h2
 have HON0 : Hid (∀ u ∈ [Value.int .i64 0, .string noB, .string noB, .slice none 0 0, .slice none 0 0, .slice none 0 0, .int .i64 0, .string noB, .string noB, .bool false, .slice none 0 0, .slice none 0 0, .int .i64 0, .int .i64 0, .slice none 0 0, .slice none 0 0, .slice none 0 0, .int .i64 tk.line, .int .i64 tk.col], u.oneCell' = true) := oneCells rfl
 clear h2 p0
 go_upto_region 3 with (refine wpList_store_part (w := w2.alloc (.cells #[.int .i64 0, .string ⟨#[]⟩, .string ⟨#[]⟩, .slice none 0 0, .slice none 0 0, .slice none 0 0, .int .i64 0, .string ⟨#[]⟩, .string ⟨#[]⟩, .bool false, .slice none 0 0, .slice none 0 0, .int .i64 0, .int .i64 0, .slice none 0 0, .slice none 0 0, .slice none 0 0, .int .i64 0, .int .i64 0] 58)) rfl 58 (.tmp 3) (.tmp 7) rfl w2.heap.size 0 58 _ [.int .i64 0, .string noB, .string noB, .slice none 0 0, .slice none 0 0, .slice none 0 0, .int .i64 0, .string noB, .string noB, .bool false, .slice none 0 0, .slice none 0 0, .int .i64 0, .int .i64 0, .slice none 0 0, .slice none 0 0, .slice none 0 0, .int .i64 tk.line, .int .i64 tk.col] rfl rfl (blk_new _ _) Try.sizeItem (Nat.le_of_eq rfl) HON0.out ?_
                        intro v1 hb3 hst3)
 have HB3 : Hid (v1.heap[w2.heap.size]? = some (.cells #[.int .i64 0, .string noB, .string noB, .slice none 0 0, .slice none 0 0, .slice none 0 0, .int .i64 0, .string noB, .string noB, .bool false, .slice none 0 0, .slice none 0 0, .int .i64 0, .int .i64 0, .slice none 0 0, .slice none 0 0, .slice none 0 0, .int .i64 tk.line, .int .i64 tk.col] 58 (0, 0))) := hb3
 have HS23 : Hid (Step (fun _ => False) w2 v1) := ((Step.refl _ _).alloc _).then hst3 (fun q hq e => by omega)
 clear hb3 hst3
 have HS3 := Lib.hid (HS2.out.trans HS23.out)
 have HP3 := Lib.hid (HS23.out.keep HP2.out (fun h => h))
 have HN3 := Lib.hid (HS23.out.keep HN2.out (fun h => h))
 have H3 := Lib.hid (H1.out.quiet (HH2.out.trans HS23.out))
 have hbv := blk_lt HB3.out
 obtain ⟨b, hb⟩ : ∃ b, b = w2.heap.size := ⟨_, rfl⟩
 rw [← hb] at HB3 hbv ⊢
 have hs1 := HS1.out.size
 have hrb : R.rb < b := by omega
 have hbw : w.heap.size + 1 < b := by omega
 have HBK : Hid (∀ X : World, Step (fun q => q = R.rb ∨ q = b) v1 X → Step (· = R.rb) w X) := by
  show ∀ X, _
  intro X hX
  exact (HS3.out.mono (fun _ _ h => h.elim)).then hX (fun q hq e => by omega)
 have HKP : Hid (∀ X : World, Step (fun q => q = R.rb ∨ q = b) v1 X → X.cell? ⟨w.heap.size, 0, none⟩ = some (.pointer (some ⟨R.rb, 0, none⟩))) := by
  show ∀ X, _
  intro X hX
  exact blk_cell (hX.keep HP3.out (by omega)) 0 _ rfl
 have HKN : Hid (∀ X : World, Step (fun q => q = R.rb ∨ q = b) v1 X → X.heap[w.heap.size + 1]? = some (.cells #[.int .i64 0, .string ⟨#[]⟩, .string ⟨#[]⟩, .slice none 0 0, .slice none 0 0, .slice none 0 0, .int .i64 0, .string ⟨#[]⟩, .string ⟨#[]⟩, .bool false, .slice none 0 0, .slice none 0 0, .int .i64 0, .int .i64 0, .slice none 0 0, .slice none 0 0, .slice none 0 0, .int .i64 0, .int .i64 0] 58 (0, 0))) := by
  show ∀ X, _
  intro X hX
  exact hX.keep HN3.out (by omega)
 have hsz3 := HS3.out.size
 obtain ⟨I0, hI0, -, hsv0⟩ := Sv.keep (R := R) (w1 := v1) (b := b) (d := d) (I := fun _ => True) (X := v1) (i := i) (o := .cells #[.int .i64 0, .string noB, .string noB, .slice none 0 0, .slice none 0 0, .slice none 0 0, .int .i64 0, .string noB, .string noB, .bool false, .slice none 0 0, .slice none 0 0, .int .i64 0, .int .i64 0, .slice none 0 0, .slice none 0 0, .slice none 0 0, .int .i64 tk.line, .int .i64 tk.col] 58 (0, 0)) ⟨H3.out, HB3.out, Step.refl _ _, trivial⟩ Stab.yes Stab.yes trivial
 have HI0 := Lib.hid hI0
 have HSV0 := Lib.hid hsv0
 clear hb hs1 hI0 hsv0
 have p0 := HKP.out v1 (Step.refl _ _)
 have HB0 := Lib.hid hb0
 clear hb0
 have HB1 := Lib.hid hb1
 clear hb1
 go_wp2_with fail
 refine (is_no R HL.out ⟨#[115, 116, 114, 117, 99, 116]⟩ _ i d HSV0.out.rd (by decide) HB0.out).mono ?_
 rintro e v21 ⟨rfl, hr, hs⟩
 have HSV21 := Lib.hid (HSV0.out.read HI0.out hrb hr hs)
 clear hr hs p0
 have HE22 : Hid (r = if isF R.l i [116, 114, 97, 105, 116] then (nameR R.l (i + 1)).bind fun n j => (methodsR f R.l j d false).bind fun ms j => .ok (itMk 2 n noB noGn [] noTy [] ms [] tk) j else if isF R.l i [105, 109, 112, 108] then (nameR R.l (i + 1)).bind fun n j => (needR R.l j [102, 111, 114]).bind fun _ j => (headR R.l j).bind fun h j => (whereR f R.l j).bind fun wh j => (methodsR f R.l j d true).bind fun ms j => .ok (itMk 3 n h noGn [] noTy wh ms [] tk) j else if isF R.l i [102, 110] then (nameR R.l (i + 1)).bind fun n j => (genR f R.l j).bind fun g j => (needR R.l j [40]).bind fun _ j => (paramsR f R.l j d [41] 8).bind fun fs j => (retR f R.l j d).bind fun t j => (whereR f R.l j).bind fun wh j => (blockR f R.l j d).bind fun b j => .ok (itMk 4 n noB g fs t wh [] b tk) j else failR 1 R.l i) := by show _ = _; rw [HRR.out, HB0.out, if_neg (by decide)]
 have p0 := HKP.out v21 HSV21.out.st
 go_wp2_with fail
 refine (is_yes R HL.out ⟨#[116, 114, 97, 105, 116]⟩ _ i d HSV21.out.rd (by decide) HB1.out).mono ?_
 rintro e v23 ⟨rfl, hr, hs⟩
 have HSV23 := Lib.hid (HSV21.out.read HI0.out hrb hr hs)
 clear hr hs p0
 have HE24 : Hid (r = (nameR R.l (i + 1)).bind fun n j => (methodsR f R.l j d false).bind fun ms j => .ok (itMk 2 n noB noGn [] noTy [] ms [] tk) j) := by show _ = _; rw [HE22.out, HB1.out, if_pos rfl]
 have p0 := HKP.out v23 HSV23.out.st
 go_upto_region 8 with fail
 clear p0
 have HFL : Hid (StbAll R b v1.heap.size [(fun _ u => u = (.pointer (some ⟨w.heap.size, 0, none⟩))), (fun _ u => u = (.pointer (some ⟨R.rb, 0, none⟩))), (fun X u => ∃ a j, nameR R.l (i + 1) = .ok a j ∧ StrE X (fun q => v1.heap.size ≤ q) a u), (fun _ u => u = (.agg #[.pointer (some ⟨R.rb, 0, none⟩)])), (fun X u => ∃ a j c k, nameR R.l (i + 1) = .ok a j ∧ methodsR f R.l j d false = .ok c k ∧ (LsQ MtP) X (fun q => v1.heap.size ≤ q) c u), (fun _ u => u = (.pointer (some ⟨b, 0, none⟩))), Tru, (fun _ u => u = (.pointer (some ⟨b, 1, none⟩))), Tru, (fun _ u => u = (.pointer (some ⟨b, 15, none⟩))), Tru]) := (StbAll.cons (Stb.const _) (StbAll.cons (Stb.const _) (StbAll.cons (Stb.ex fun _ => Stb.ex fun _ => Stb.and (Stb.at strE_ok hrb (by omega) _)) (StbAll.cons (Stb.const _) (StbAll.cons (Stb.ex fun _ => Stb.ex fun _ => Stb.ex fun _ => Stb.ex fun _ => Stb.and (Stb.and (Stb.at (lsQ_ok mtP_ok) hrb (by omega) _))) (StbAll.cons (Stb.const _) (StbAll.cons Stb.tru (StbAll.cons (Stb.const _) (StbAll.cons Stb.tru (StbAll.cons (Stb.const _) (StbAll.cons Stb.tru StbAll.nil)))))))))))
 obtain ⟨Jx, hJx⟩ : ∃ Jx : (Nat → Bool) → (Nat → Value) → World → Prop, Jx = RJ R v1 b d I0 (fun (L : Nat → Bool) (ix : Nat) => cond (L 4) (∃ a j c, nameR R.l (i + 1) = .ok a j ∧ methodsR f R.l j d false = .ok c ix) (cond (L 2) (∃ a, nameR R.l (i + 1) = .ok a ix) (ix = (i + 1)))) (fun (L : Nat → Bool) (V : Nat → Value) => Obj.cells #[cond (L 6) (.int .i64 2) (.int .i64 0), cond (L 8) (V 2) (.string noB), .string noB, .slice none 0 0, .slice none 0 0, .slice none 0 0, .int .i64 0, .string noB, .string noB, .bool false, .slice none 0 0, .slice none 0 0, .int .i64 0, .int .i64 0, .slice none 0 0, cond (L 10) (V 4) (.slice none 0 0), .slice none 0 0, .int .i64 tk.line, .int .i64 tk.col] 58 (0, 0)) [(fun _ u => u = (.pointer (some ⟨w.heap.size, 0, none⟩))), (fun _ u => u = (.pointer (some ⟨R.rb, 0, none⟩))), (fun X u => ∃ a j, nameR R.l (i + 1) = .ok a j ∧ StrE X (fun q => v1.heap.size ≤ q) a u), (fun _ u => u = (.agg #[.pointer (some ⟨R.rb, 0, none⟩)])), (fun X u => ∃ a j c k, nameR R.l (i + 1) = .ok a j ∧ methodsR f R.l j d false = .ok c k ∧ (LsQ MtP) X (fun q => v1.heap.size ≤ q) c u), (fun _ u => u = (.pointer (some ⟨b, 0, none⟩))), Tru, (fun _ u => u = (.pointer (some ⟨b, 1, none⟩))), Tru, (fun _ u => u = (.pointer (some ⟨b, 15, none⟩))), Tru] [(4, 2), (8, 2), (10, 4)] := ⟨_, rfl⟩
 have HJX := Lib.hid hJx
 clear hJx
 refine wp_region_relyD (by kernel_rfl) (Jx) 11 rfl (by kernel_rfl) (by kernel_rfl) (by kernel_rfl) (by kernel_rfl) ?h0 ?hs ?hdone
 case h0 => rw [HJX.out]; exact RJ.zero HI0.out HSV23.out ((Step.refl _ _).drew) rfl
 case hs =>
  refine ⟨?_, ?_, ?_, ?_, ?_, ?_, ?_, ?_, ?_, ?_, ?_, trivial⟩
  ·intro L V X a ev evo hdf hL hdep hJ
   rw [HJX.out] at hJ
   have o1 := evo 1 rfl
   change a.tmps[1]?.getD undef = .pointer (some ⟨w.heap.size, 0, none⟩) at o1
   go_simp
   exact ⟨_, rfl, by rw [HJX.out]; exact hJ.up 0 _ rfl (np rfl) rfl rfl⟩
  ·intro L V X a ev evo hdf hL hdep hJ
   rw [HJX.out] at hJ
   have e34 := (ev 0 34 rfl (hdep 0 rfl)).trans (hJ.fs 0 (hdep 0 rfl))
   obtain ⟨i9, hv9, -⟩ := id hJ.sv
   have p0 := HKP.out X hv9.st
   clear hv9
   go_simp
   exact ⟨_, rfl, by rw [HJX.out]; exact hJ.up 1 _ rfl (np rfl) rfl rfl⟩
  ·intro L V X a ev evo hdf hL hdep hJ
   rw [HJX.out] at hJ
   have e35 := (ev 1 35 rfl (hdep 1 rfl)).trans (hJ.fs 1 (hdep 1 rfl))
   obtain ⟨i9, hv9, hr9⟩ := id hJ.sv
   rw [hJ.false_of 4 2 (by decide) hL, hL] at hr9
   have hr9 : i9 = (i + 1) := hr9
   rw [hr9] at hv9
   clear hr9
   go_simp
   refine (name_any R HL.out X (i + 1) d hv9.rd).mono ?_
   intro e wq hp
   cases hx : nameR R.l (i + 1) with
   | out => exact absurd hx (fun e => HNO.out (by rw [HE24.out, e]; rfl))
   | err cc ln col =>
    rw [hx] at hp
    obtain ⟨rfl, hs⟩ := hp
    exact ⟨hdf, PPost.of_err (c := cc) (ln := ln) (col := col) (by rw [HE24.out, hx]; rfl) rfl (HBK.out _ (hv9.err hs))⟩
   | ok c9 k9 =>
    rw [hx] at hp
    obtain ⟨⟨v, rfl, hv⟩, hr, hs⟩ := hp
    exact ⟨_, rfl, by rw [HJX.out]; exact hJ.call HI0.out HFL.out hrb 2 v hr hs ⟨_, _, hx, strE_ok.mono _ _ (fun q _ hq => by have := hv9.st.size; omega) (show StrE _ _ _ _ from hv)⟩ (np rfl) (by have e8 := hJ.false_of 8 2 (by decide) hL; change Obj.cells #[cond (L 6) (.int .i64 2) (.int .i64 0), cond (L 8) (_) (.string noB), .string noB, .slice none 0 0, .slice none 0 0, .slice none 0 0, .int .i64 0, .string noB, .string noB, .bool false, .slice none 0 0, .slice none 0 0, .int .i64 0, .int .i64 0, .slice none 0 0, cond (L 10) (V 4) (.slice none 0 0), .slice none 0 0, .int .i64 tk.line, .int .i64 tk.col] 58 (0, 0) = Obj.cells #[cond (L 6) (.int .i64 2) (.int .i64 0), cond (L 8) (V 2) (.string noB), .string noB, .slice none 0 0, .slice none 0 0, .slice none 0 0, .int .i64 0, .string noB, .string noB, .bool false, .slice none 0 0, .slice none 0 0, .int .i64 0, .int .i64 0, .slice none 0 0, cond (L 10) (V 4) (.slice none 0 0), .slice none 0 0, .int .i64 tk.line, .int .i64 tk.col] 58 (0, 0); rw [e8]; rfl) (by show cond (L 4) _ _; rw [hJ.false_of 4 2 (by decide) hL]; exact ⟨_, hx⟩)⟩
  ·intro L V X a ev evo hdf hL hdep hJ
   rw [HJX.out] at hJ
   have o1 := evo 1 rfl
   change a.tmps[1]?.getD undef = .pointer (some ⟨w.heap.size, 0, none⟩) at o1
   obtain ⟨i9, hv9, -⟩ := id hJ.sv
   have p0 := HKP.out X hv9.st
   clear hv9
   go_simp
   exact ⟨_, rfl, by rw [HJX.out]; exact hJ.up 3 _ rfl (np rfl) rfl rfl⟩
  ·intro L V X a ev evo hdf hL hdep hJ
   rw [HJX.out] at hJ
   have e37 := (ev 3 37 rfl (hdep 3 rfl)).trans (hJ.fs 3 (hdep 3 rfl))
   obtain ⟨i9, hv9, hr9⟩ := id hJ.sv
   rw [hL, hdep 2 rfl] at hr9
   obtain ⟨a9, h9⟩ : ∃ a, nameR R.l (i + 1) = .ok a i9 := hr9
   go_simp
   refine (methods_any f IHB.out IHT.out R X i9 d false HL.out hv9.rd hd (fun e => HNO.out (by rw [HE24.out, h9, Res.bind_ok]; rw [e]; rfl))).mono ?_
   intro e wq hp
   cases hx : methodsR f R.l i9 d false with
   | out => exact absurd hx (fun e => HNO.out (by rw [HE24.out, h9, Res.bind_ok]; rw [e]; rfl))
   | err cc ln col =>
    rw [hx] at hp
    obtain ⟨rfl, hs⟩ := hp
    exact ⟨hdf, PPost.of_err (c := cc) (ln := ln) (col := col) (by rw [HE24.out, h9, Res.bind_ok]; rw [hx]; rfl) rfl (HBK.out _ (hv9.err hs))⟩
   | ok c9 k9 =>
    rw [hx] at hp
    obtain ⟨⟨v, rfl, hv⟩, hr, hs⟩ := hp
    exact ⟨_, rfl, by rw [HJX.out]; exact hJ.call HI0.out HFL.out hrb 4 v hr hs ⟨_, _, _, _, h9, hx, (lsQ_ok mtP_ok).mono _ _ (fun q _ hq => by have := hv9.st.size; omega) (show (LsQ MtP) _ _ _ _ from hv)⟩ (mc ⟨fun _ => hdep 2 rfl, (mc ⟨nd (by decide), (mc ⟨nd (by decide), (fun _ h => nomatch h)⟩)⟩)⟩) (by have e10 := hJ.false_of 10 4 (by decide) hL; change Obj.cells #[cond (L 6) (.int .i64 2) (.int .i64 0), cond (L 8) (V 2) (.string noB), .string noB, .slice none 0 0, .slice none 0 0, .slice none 0 0, .int .i64 0, .string noB, .string noB, .bool false, .slice none 0 0, .slice none 0 0, .int .i64 0, .int .i64 0, .slice none 0 0, cond (L 10) (_) (.slice none 0 0), .slice none 0 0, .int .i64 tk.line, .int .i64 tk.col] 58 (0, 0) = Obj.cells #[cond (L 6) (.int .i64 2) (.int .i64 0), cond (L 8) (V 2) (.string noB), .string noB, .slice none 0 0, .slice none 0 0, .slice none 0 0, .int .i64 0, .string noB, .string noB, .bool false, .slice none 0 0, .slice none 0 0, .int .i64 0, .int .i64 0, .slice none 0 0, cond (L 10) (V 4) (.slice none 0 0), .slice none 0 0, .int .i64 tk.line, .int .i64 tk.col] 58 (0, 0); rw [e10]; rfl) ⟨_, _, _, h9, hx⟩⟩
  ·intro L V X a ev evo hdf hL hdep hJ
   rw [HJX.out] at hJ
   have o3 := evo 3 rfl
   change a.tmps[3]?.getD undef = .pointer (some ⟨b, 0, none⟩) at o3
   go_simp
   exact ⟨_, rfl, by rw [HJX.out]; exact hJ.up 5 _ rfl (np rfl) rfl rfl⟩
  ·intro L V X a ev evo hdf hL hdep hJ
   rw [HJX.out] at hJ
   have e39 := (ev 5 39 rfl (hdep 5 rfl)).trans (hJ.fs 5 (hdep 5 rfl))
   obtain ⟨i9, hv9, -⟩ := id hJ.sv
   have hb9 := hv9.blk
   have ecell : ∃ v, X.cell? ⟨b, 0, none⟩ = some v := ⟨_, blk_cell hb9 0 _ rfl⟩
   obtain ⟨vc, hvc⟩ := ecell
   have hfz := blk_free hb9 0
   go_simp
   exact ⟨undef, by rw [HJX.out]; exact hJ.put HI0.out HFL.out hrb 6 undef ((Step.refl _ _).setCell _ _ (fun _ => rfl)) (blk_set hb9 0 (.int .i64 2)) rfl (np rfl) rfl⟩
  ·intro L V X a ev evo hdf hL hdep hJ
   rw [HJX.out] at hJ
   have o3 := evo 3 rfl
   change a.tmps[3]?.getD undef = .pointer (some ⟨b, 0, none⟩) at o3
   go_simp
   exact ⟨_, rfl, by rw [HJX.out]; exact hJ.up 7 _ rfl (np rfl) rfl rfl⟩
  ·intro L V X a ev evo hdf hL hdep hJ
   rw [HJX.out] at hJ
   have e40 := (ev 7 40 rfl (hdep 7 rfl)).trans (hJ.fs 7 (hdep 7 rfl))
   obtain ⟨i9, hv9, -⟩ := id hJ.sv
   have hb9 := hv9.blk
   obtain ⟨a8, j8, h8, hV⟩ := hJ.fs 2 (hdep 2 rfl)
   have hV : V 2 = .string a8 := hV
   have e36 := (ev 2 36 rfl (hdep 2 rfl)).trans hV
   have ecell : ∃ v, X.cell? ⟨b, 1, none⟩ = some v := ⟨_, blk_cell hb9 1 _ rfl⟩
   obtain ⟨vc, hvc⟩ := ecell
   have hfz := blk_free hb9 1
   have hx : (X.setCell ⟨b, 1, none⟩ (V 2)).heap[b]? = _ := blk_set hb9 1 (V 2)
   rw [hV] at hx
   have hxx := hx
   go_simp
   exact ⟨undef, by rw [HJX.out]; exact hJ.put HI0.out HFL.out hrb 8 undef ((Step.refl _ _).setCell _ _ (fun _ => rfl)) (by rw [← hV]; exact blk_set hb9 1 (V 2)) rfl (mc ⟨nd (by decide), (mc ⟨fun _ => hdep 2 rfl, (mc ⟨nd (by decide), (fun _ h => nomatch h)⟩)⟩)⟩) rfl⟩
  ·intro L V X a ev evo hdf hL hdep hJ
   rw [HJX.out] at hJ
   have o3 := evo 3 rfl
   change a.tmps[3]?.getD undef = .pointer (some ⟨b, 0, none⟩) at o3
   go_simp
   exact ⟨_, rfl, by rw [HJX.out]; exact hJ.up 9 _ rfl (np rfl) rfl rfl⟩
  ·intro L V X a ev evo hdf hL hdep hJ
   rw [HJX.out] at hJ
   have e41 := (ev 9 41 rfl (hdep 9 rfl)).trans (hJ.fs 9 (hdep 9 rfl))
   obtain ⟨i9, hv9, -⟩ := id hJ.sv
   have hb9 := hv9.blk
   obtain ⟨a8, j8, c8, k8, h8, h7, xs8, hr8, -⟩ := hJ.fs 4 (hdep 4 rfl)
   obtain ⟨g8, n8, hV⟩ := hr8.parts
   have e38 := (ev 4 38 rfl (hdep 4 rfl)).trans hV
   have ecell : ∃ v, X.cell? ⟨b, 15, none⟩ = some v := ⟨_, blk_cell hb9 15 _ rfl⟩
   obtain ⟨vc, hvc⟩ := ecell
   have hfz := blk_free hb9 15
   have hx : (X.setCell ⟨b, 15, none⟩ (V 4)).heap[b]? = _ := blk_set hb9 15 (V 4)
   rw [hV] at hx
   have hxx := hx
   go_simp
   exact ⟨undef, by rw [HJX.out]; exact hJ.put HI0.out HFL.out hrb 10 undef ((Step.refl _ _).setCell _ _ (fun _ => rfl)) (by rw [← hV]; exact blk_set hb9 15 (V 4)) rfl (mc ⟨nd (by decide), (mc ⟨nd (by decide), (mc ⟨fun _ => hdep 4 rfl, (fun _ h => nomatch h)⟩)⟩)⟩) rfl⟩
 case hdone =>
  intro L V X hall hJ
  rw [HJX.out] at hJ
  obtain ⟨i9, hv9, hr9⟩ := hJ.sv
  rw [hall 4 (by decide)] at hr9
  obtain ⟨a9, j9, c9, h91, h92⟩ : ∃ a j c, nameR R.l (i + 1) = .ok a j ∧ methodsR f R.l j d false = .ok c i9 := hr9
  have f2 := hJ.fs 2 (hall 2 (by decide))
  obtain ⟨a8, j8, h81, g2⟩ := f2
  rw [h91] at h81
  cases h81
  have f4 := hJ.fs 4 (hall 4 (by decide))
  obtain ⟨a8, j8, c8, k8, h81, h82, g4⟩ := f4
  rw [h91] at h81
  cases h81
  rw [h92] at h82
  cases h82
  have hv9 : Sv R v1 b d I0 X i9 (Obj.cells #[.int .i64 2, V 2, .string noB, .slice none 0 0, .slice none 0 0, .slice none 0 0, .int .i64 0, .string noB, .string noB, .bool false, .slice none 0 0, .slice none 0 0, .int .i64 0, .int .i64 0, .slice none 0 0, V 4, .slice none 0 0, .int .i64 tk.line, .int .i64 tk.col] 58 (0, 0)) := by
   have h := hv9
   rw [hall 6 (by decide), hall 8 (by decide), hall 10 (by decide)] at h
   exact h
  rw [show List.range 11 = [0, 1, 2, 3, 4, 5, 6, 7, 8, 9, 10] from rfl]
  simp only [putF, dstO, List.getElem?_toArray, List.getElem?_cons_zero, List.getElem?_cons_succ, Option.bind_some, Act.put, List.setIfInBounds_toArray, List.set_cons_zero, List.set_cons_succ]
  obtain ⟨u2, hu2⟩ : ∃ u, u = V 2 := ⟨_, rfl⟩
  rw [← hu2] at hv9 g2 ⊢
  have hg2 := g2
  clear hu2 g2
  obtain ⟨u4, hu4⟩ : ∃ u, u = V 4 := ⟨_, rfl⟩
  rw [← hu4] at hv9 g4 ⊢
  have hg4 := g4
  clear hu4 g4
  obtain ⟨a25, rfl⟩ : ∃ q, q = a9 := ⟨_, rfl⟩
  obtain ⟨j25, rfl⟩ : ∃ q, q = j9 := ⟨_, rfl⟩
  obtain ⟨c25, rfl⟩ : ∃ q, q = c9 := ⟨_, rfl⟩
  obtain ⟨k25, rfl⟩ : ∃ q, q = i9 := ⟨_, rfl⟩
  obtain ⟨w25, rfl⟩ : ∃ q : World, q = X := ⟨_, rfl⟩
  have hn1 := h91
  have hn2 := h92
  have hsv := hv9
  clear hJ hall hv9 h91 h92
  have hg2e : u2 = .string a25 := hg2
  subst hg2e
  have HN1 := Lib.hid hn1
  have HN2 := Lib.hid hn2
  have HNM25 := Lib.hid (nameR_size HL.out HSV23.out.rd.lt hn1)
  obtain ⟨ma, mc, rfl⟩ := LsQ.parts hg4
  have HSVx : Hid (Sv R v1 b d I0 w25 k25 (.cells #[.int .i64 2, .string a25, .string noB, .slice none 0 0, .slice none 0 0, .slice none 0 0, .int .i64 0, .string noB, .string noB, .bool false, .slice none 0 0, .slice none 0 0, .int .i64 0, .int .i64 0, .slice none 0 0, .slice ma c25.length mc, .slice none 0 0, .int .i64 tk.line, .int .i64 tk.col] 58 (0, 0))) := hsv
  obtain ⟨I25, hI25, hF25, hsv25⟩ := HSVx.out.keep HI0.out (J := fun X => LsQ MtP X (fun q => v1.heap.size ≤ q) c25 (.slice ma c25.length mc)) (Stab.at (lsQ_ok mtP_ok) hrb (by omega) _ _) (hg4)
  have HI25 := Lib.hid hI25
  have HF25 := Lib.hid hF25
  have HSV25 := Lib.hid hsv25
  clear hI25 hF25 hsv25
  clear hn1 hn2 hsv hg2 hg4
  have HE26 : Hid (r = .ok (itMk 2 a25 noB noGn [] noTy [] c25 [] tk) k25) := by show _ = _; rw [HE24.out, HN1.out, Res.bind_ok]; rw [HN2.out]; rfl
  have p0 := HKP.out w25 HSV25.out.st
  go_upto_region 20 with fail
  have HLD : Hid (∀ (jj : Nat) v, [Value.int .i64 2, .string a25, .string noB, .slice none 0 0, .slice none 0 0, .slice none 0 0, .int .i64 0, .string noB, .string noB, .bool false, .slice none 0 0, .slice none 0 0, .int .i64 0, .int .i64 0, .slice none 0 0, .slice ma c25.length mc, .slice none 0 0, .int .i64 tk.line, .int .i64 tk.col][jj]? = some v → w25.cell? ⟨b, 0 + jj, none⟩ = some v) := by
   show ∀ jj v, _
   intro jj v hv
   rw [Nat.zero_add]; exact blk_cell HSV25.out.blk jj v (by simpa using hv)
  have HONE : Hid (∀ u ∈ [Value.int .i64 2, .string a25, .string noB, .slice none 0 0, .slice none 0 0, .slice none 0 0, .int .i64 0, .string noB, .string noB, .bool false, .slice none 0 0, .slice none 0 0, .int .i64 0, .int .i64 0, .slice none 0 0, .slice ma c25.length mc, .slice none 0 0, .int .i64 tk.line, .int .i64 tk.col], u.oneCell' = true) := oneCells rfl
  have HNX := Lib.hid (HKN.out w25 HSV25.out.st)
  have HEX : Hid (ItP w25 (fun q => v1.heap.size ≤ q) (itMk 2 a25 noB noGn [] noTy [] c25 [] tk) [.int .i64 2, .string a25, .string noB, .slice none 0 0, .slice none 0 0, .slice none 0 0, .int .i64 0, .string noB, .string noB, .bool false, .slice none 0 0, .slice none 0 0, .int .i64 0, .int .i64 0, .slice none 0 0, .slice ma c25.length mc, .slice none 0 0, .int .i64 tk.line, .int .i64 tk.col]) := ⟨[.int .i64 0, .string noB, .string noB, .bool false, .slice none 0 0, .slice none 0 0, .int .i64 0, .int .i64 0], _, _, _, _, _, _, rfl, HNM25.out, (show noB.size ≤ 9223372036854775807 by decide), NamesQ.nil _ _, NamesQ.nil _ _, LsQ.nil _ _, noTyP _ _, LsQ.nil _ _, (HF25.out _ HSV25.out.inv).2, StsQ.nil _ _⟩
  clear p0 
  go_wp2_with (first
   | (refine wpList_load_whole rfl 58 (.tmp 3) rfl b 0 rfl [Value.int .i64 2, .string a25, .string noB, .slice none 0 0, .slice none 0 0, .slice none 0 0, .int .i64 0, .string noB, .string noB, .bool false, .slice none 0 0, .slice none 0 0, .int .i64 0, .int .i64 0, .slice none 0 0, .slice ma c25.length mc, .slice none 0 0, .int .i64 tk.line, .int .i64 tk.col] _ HLD.out Try.underlying58 rfl Try.sizeItem ?_)
   | (refine wpList_store_part (w := w25) rfl 58 (.tmp 2) (.tmp 92) rfl (w.heap.size + 1) 0 58 _ [Value.int .i64 2, .string a25, .string noB, .slice none 0 0, .slice none 0 0, .slice none 0 0, .int .i64 0, .string noB, .string noB, .bool false, .slice none 0 0, .slice none 0 0, .int .i64 0, .int .i64 0, .slice none 0 0, .slice ma c25.length mc, .slice none 0 0, .int .i64 tk.line, .int .i64 tk.col] rfl rfl HNX.out Try.sizeItem (Nat.le_of_eq rfl) HONE.out ?_
      intro wR hbR hstR))
  have hbR' : wR.heap[w.heap.size + 1]? = some (.cells [Value.int .i64 2, .string a25, .string noB, .slice none 0 0, .slice none 0 0, .slice none 0 0, .int .i64 0, .string noB, .string noB, .bool false, .slice none 0 0, .slice none 0 0, .int .i64 0, .int .i64 0, .slice none 0 0, .slice ma c25.length mc, .slice none 0 0, .int .i64 tk.line, .int .i64 tk.col].toArray 58 (0, 0)) := hbR
  refine bodyPost_ret (results_cellB rfl _ (w.heap.size + 1) 58 _ _ rfl hbR' Try.underlying58 rfl Try.sizeItem) rfl ?_
  refine PPost.of_ok (a := itMk 2 a25 noB noGn [] noTy [] c25 [] tk) (j := k25) HE26.out rfl ⟨_, rfl, itP_ok.mono _ _ (fun q _ hq => by omega) (itP_ok.step _ _ hstR (fun q hq e => by omega) HEX.out)⟩ (HSV25.out.rd.step hstR (fun q hq e => by omega)) ((HBK.out _ HSV25.out.st).then hstR (fun q hq e => by omega))
theorem item_2 (f : Nat) (ihB : ∀ f', f' ≤ f → BlockOk f') (ihT : ∀ f', f' ≤ f → TypOk f') (R : Rdr) (w : World) (i d : Nat) (hl : LOk R.l) (h : RdAt R w i d) (hd : d ≤ 40) (hno : itemR f R.l i d ≠ .out) (hb0 : isF R.l i [115, 116, 114, 117, 99, 116] = false) (hb1 : isF R.l i [116, 114, 97, 105, 116] = false) (hb2 : isF R.l i [105, 109, 112, 108] = true) :
  Calls Try.prog 29 #[.agg #[.pointer (some ⟨R.rb, 0, none⟩)]] w (PPost R d (ItV w.heap.size) (itemR f R.l i d) w) := by
 have HL := Lib.hid hl
 have IHB := Lib.hid ihB
 have IHT := Lib.hid ihT
 obtain ⟨r, hr⟩ : ∃ r, r = itemR f R.l i d := ⟨_, rfl⟩
 obtain ⟨tk, htk⟩ : ∃ tk, tk = tokA R.l i := ⟨_, rfl⟩
 have HRR : Hid (r = if isF R.l i [115, 116, 114, 117, 99, 116] then (nameR R.l (i + 1)).bind fun n j => (genR f R.l j).bind fun g j => (needR R.l j [123]).bind fun _ j => (paramsR f R.l j d [125] 12).bind fun fs j => .ok (itMk 1 n noB g fs noTy [] [] [] tk) j else if isF R.l i [116, 114, 97, 105, 116] then (nameR R.l (i + 1)).bind fun n j => (methodsR f R.l j d false).bind fun ms j => .ok (itMk 2 n noB noGn [] noTy [] ms [] tk) j else if isF R.l i [105, 109, 112, 108] then (nameR R.l (i + 1)).bind fun n j => (needR R.l j [102, 111, 114]).bind fun _ j => (headR R.l j).bind fun h j => (whereR f R.l j).bind fun wh j => (methodsR f R.l j d true).bind fun ms j => .ok (itMk 3 n h noGn [] noTy wh ms [] tk) j else if isF R.l i [102, 110] then (nameR R.l (i + 1)).bind fun n j => (genR f R.l j).bind fun g j => (needR R.l j [40]).bind fun _ j => (paramsR f R.l j d [41] 8).bind fun fs j => (retR f R.l j d).bind fun t j => (whereR f R.l j).bind fun wh j => (blockR f R.l j d).bind fun b j => .ok (itMk 4 n noB g fs t wh [] b tk) j else failR 1 R.l i) := by show _ = _; rw [hr, itemR, ← htk]
 rw [← hr] at hno ⊢
 have HNO := Lib.hid hno
 have hrlt := blk_lt h.blk
 obtain ⟨w1, hw1⟩ : ∃ w1 : World, w1 = (w.alloc (.cells #[.pointer (some ⟨R.rb, 0, none⟩)] 45)).alloc (.cells #[.int .i64 0, .string ⟨#[]⟩, .string ⟨#[]⟩, .slice none 0 0, .slice none 0 0, .slice none 0 0, .int .i64 0, .string ⟨#[]⟩, .string ⟨#[]⟩, .bool false, .slice none 0 0, .slice none 0 0, .int .i64 0, .int .i64 0, .slice none 0 0, .slice none 0 0, .slice none 0 0, .int .i64 0, .int .i64 0] 58) := ⟨_, rfl⟩
 have HS1 : Hid (Step (fun _ => False) w w1) := by show Step _ _ _; rw [hw1]; exact ((Step.refl _ _).alloc _).alloc _
 have HP1 : Hid (w1.heap[w.heap.size]? = some (.cells #[.pointer (some ⟨R.rb, 0, none⟩)] 45 (0, 0))) := by show _ = _; rw [hw1]; exact blk_alloc (blk_new _ _)
 have HN1 : Hid (w1.heap[w.heap.size + 1]? = some (.cells #[.int .i64 0, .string ⟨#[]⟩, .string ⟨#[]⟩, .slice none 0 0, .slice none 0 0, .slice none 0 0, .int .i64 0, .string ⟨#[]⟩, .string ⟨#[]⟩, .bool false, .slice none 0 0, .slice none 0 0, .int .i64 0, .int .i64 0, .slice none 0 0, .slice none 0 0, .slice none 0 0, .int .i64 0, .int .i64 0] 58 (0, 0))) := by show _ = _; rw [hw1]; exact blk_new2 _ _ _
 have HW1 := Lib.hid hw1
 have H1 := Lib.hid (h.quiet HS1.out)
 have HT := Lib.hid (show R.l[i]? = some tk by rw [htk]; exact h.tok)
 have p0 : w1.cell? ⟨w.heap.size, 0, none⟩ = some (.pointer (some ⟨R.rb, 0, none⟩)) := blk_cell HP1.out 0 _ rfl
 have HAT := Lib.hid (at_at R w1 i d tk H1.out HT.out)
 clear ihB ihT hl h hno hr hw1 htk
 go_enter Try.func29, Try.ntmps29
 go_upto_region 1 with fail
 rw [← HW1.out]
 go_wp2_with fail
 refine HAT.out.mono ?_
 rintro e w2 ⟨rfl, h2⟩
 have HS2 := Lib.hid (HS1.out.trans h2)
 have HP2 := Lib.hid (h2.keep HP1.out (fun h => h))
 have HN2 := Lib.hid (h2.keep HN1.out (fun h => h))
 have hn1 := blk_lt HN2.out
 have HH2 := Lib.hid h2
 have HON0 : Hid (∀ u ∈ [Value.int .i64 0, .string noB, .string noB, .slice none 0 0, .slice none 0 0, .slice none 0 0, .int .i64 0, .string noB, .string noB, .bool false, .slice none 0 0, .slice none 0 0, .int .i64 0, .int .i64 0, .slice none 0 0, .slice none 0 0, .slice none 0 0, .int .i64 tk.line, .int .i64 tk.col], u.oneCell' = true) := oneCells rfl
 clear h2 p0
 go_upto_region 3 with (refine wpList_store_part (w := w2.alloc (.cells #[.int .i64 0, .string ⟨#[]⟩, .string ⟨#[]⟩, .slice none 0 0, .slice none 0 0, .slice none 0 0, .int .i64 0, .string ⟨#[]⟩, .string ⟨#[]⟩, .bool false, .slice none 0 0, .slice none 0 0, .int .i64 0, .int .i64 0, .slice none 0 0, .slice none 0 0, .slice none 0 0, .int .i64 0, .int .i64 0] 58)) rfl 58 (.tmp 3) (.tmp 7) rfl w2.heap.size 0 58 _ [.int .i64 0, .string noB, .string noB, .slice none 0 0, .slice none 0 0, .slice none 0 0, .int .i64 0, .string noB, .string noB, .bool false, .slice none 0 0, .slice none 0 0, .int .i64 0, .int .i64 0, .slice none 0 0, .slice none 0 0, .slice none 0 0, .int .i64 tk.line, .int .i64 tk.col] rfl rfl (blk_new _ _) Try.sizeItem (Nat.le_of_eq rfl) HON0.out ?_
                        intro v1 hb3 hst3)
 have HB3 : Hid (v1.heap[w2.heap.size]? = some (.cells #[.int .i64 0, .string noB, .string noB, .slice none 0 0, .slice none 0 0, .slice none 0 0, .int .i64 0, .string noB, .string noB, .bool false, .slice none 0 0, .slice none 0 0, .int .i64 0, .int .i64 0, .slice none 0 0, .slice none 0 0, .slice none 0 0, .int .i64 tk.line, .int .i64 tk.col] 58 (0, 0))) := hb3
 have HS23 : Hid (Step (fun _ => False) w2 v1) := ((Step.refl _ _).alloc _).then hst3 (fun q hq e => by omega)
 clear hb3 hst3
 have HS3 := Lib.hid (HS2.out.trans HS23.out)
 have HP3 := Lib.hid (HS23.out.keep HP2.out (fun h => h))
 have HN3 := Lib.hid (HS23.out.keep HN2.out (fun h => h))
 have H3 := Lib.hid (H1.out.quiet (HH2.out.trans HS23.out))
 have hbv := blk_lt HB3.out
 obtain ⟨b, hb⟩ : ∃ b, b = w2.heap.size := ⟨_, rfl⟩
 rw [← hb] at HB3 hbv ⊢
 have hs1 := HS1.out.size
 have hrb : R.rb < b := by omega
 have hbw : w.heap.size + 1 < b := by omega
 have HBK : Hid (∀ X : World, Step (fun q => q = R.rb ∨ q = b) v1 X → Step (· = R.rb) w X) := by
  show ∀ X, _
  intro X hX
  exact (HS3.out.mono (fun _ _ h => h.elim)).then hX (fun q hq e => by omega)
 have HKP : Hid (∀ X : World, Step (fun q => q = R.rb ∨ q = b) v1 X → X.cell? ⟨w.heap.size, 0, none⟩ = some (.pointer (some ⟨R.rb, 0, none⟩))) := by
  show ∀ X, _
  intro X hX
  exact blk_cell (hX.keep HP3.out (by omega)) 0 _ rfl
 have HKN : Hid (∀ X : World, Step (fun q => q = R.rb ∨ q = b) v1 X → X.heap[w.heap.size + 1]? = some (.cells #[.int .i64 0, .string ⟨#[]⟩, .string ⟨#[]⟩, .slice none 0 0, .slice none 0 0, .slice none 0 0, .int .i64 0, .string ⟨#[]⟩, .string ⟨#[]⟩, .bool false, .slice none 0 0, .slice none 0 0, .int .i64 0, .int .i64 0, .slice none 0 0, .slice none 0 0, .slice none 0 0, .int .i64 0, .int .i64 0] 58 (0, 0))) := by
  show ∀ X, _
  intro X hX
  exact hX.keep HN3.out (by omega)
 have hsz3 := HS3.out.size
 obtain ⟨I0, hI0, -, hsv0⟩ := Sv.keep (R := R) (w1 := v1) (b := b) (d := d) (I := fun _ => True) (X := v1) (i := i) (o := .cells #[.int .i64 0, .string noB, .string noB, .slice none 0 0, .slice none 0 0, .slice none 0 0, .int .i64 0, .string noB, .string noB, .bool false, .slice none 0 0, .slice none 0 0, .int .i64 0, .int .i64 0, .slice none 0 0, .slice none 0 0, .slice none 0 0, .int .i64 tk.line, .int .i64 tk.col] 58 (0, 0)) ⟨H3.out, HB3.out, Step.refl _ _, trivial⟩ Stab.yes Stab.yes trivial
 have HI0 := Lib.hid hI0
 have HSV0 := Lib.hid hsv0
 clear hb hs1 hI0 hsv0
 have p0 := HKP.out v1 (Step.refl _ _)
 have HB0 := Lib.hid hb0
 clear hb0
 have HB1 := Lib.hid hb1
 clear hb1
 have HB2 := Lib.hid hb2
 clear hb2
 go_wp2_with fail
 refine (is_no R HL.out ⟨#[115, 116, 114, 117, 99, 116]⟩ _ i d HSV0.out.rd (by decide) HB0.out).mono ?_
 rintro e v21 ⟨rfl, hr, hs⟩
 have HSV21 := Lib.hid (HSV0.out.read HI0.out hrb hr hs)
 clear hr hs p0
 have HE22 : Hid (r = if isF R.l i [116, 114, 97, 105, 116] then (nameR R.l (i + 1)).bind fun n j => (methodsR f R.l j d false).bind fun ms j => .ok (itMk 2 n noB noGn [] noTy [] ms [] tk) j else if isF R.l i [105, 109, 112, 108] then (nameR R.l (i + 1)).bind fun n j => (needR R.l j [102, 111, 114]).bind fun _ j => (headR R.l j).bind fun h j => (whereR f R.l j).bind fun wh j => (methodsR f R.l j d true).bind fun ms j => .ok (itMk 3 n h noGn [] noTy wh ms [] tk) j else if isF R.l i [102, 110] then (nameR R.l (i + 1)).bind fun n j => (genR f R.l j).bind fun g j => (needR R.l j [40]).bind fun _ j => (paramsR f R.l j d [41] 8).bind fun fs j => (retR f R.l j d).bind fun t j => (whereR f R.l j).bind fun wh j => (blockR f R.l j d).bind fun b j => .ok (itMk 4 n noB g fs t wh [] b tk) j else failR 1 R.l i) := by show _ = _; rw [HRR.out, HB0.out, if_neg (by decide)]
 have p0 := HKP.out v21 HSV21.out.st
 go_wp2_with fail
 refine (is_no R HL.out ⟨#[116, 114, 97, 105, 116]⟩ _ i d HSV21.out.rd (by decide) HB1.out).mono ?_
 rintro e v23 ⟨rfl, hr, hs⟩
 have HSV23 := Lib.hid (HSV21.out.read HI0.out hrb hr hs)
 clear hr hs p0
 have HE24 : Hid (r = if isF R.l i [105, 109, 112, 108] then (nameR R.l (i + 1)).bind fun n j => (needR R.l j [102, 111, 114]).bind fun _ j => (headR R.l j).bind fun h j => (whereR f R.l j).bind fun wh j => (methodsR f R.l j d true).bind fun ms j => .ok (itMk 3 n h noGn [] noTy wh ms [] tk) j else if isF R.l i [102, 110] then (nameR R.l (i + 1)).bind fun n j => (genR f R.l j).bind fun g j => (needR R.l j [40]).bind fun _ j => (paramsR f R.l j d [41] 8).bind fun fs j => (retR f R.l j d).bind fun t j => (whereR f R.l j).bind fun wh j => (blockR f R.l j d).bind fun b j => .ok (itMk 4 n noB g fs t wh [] b tk) j else failR 1 R.l i) := by show _ = _; rw [HE22.out, HB1.out, if_neg (by decide)]
 have p0 := HKP.out v23 HSV23.out.st
 go_wp2_with fail
 refine (is_yes R HL.out ⟨#[105, 109, 112, 108]⟩ _ i d HSV23.out.rd (by decide) HB2.out).mono ?_
 rintro e v25 ⟨rfl, hr, hs⟩
 have HSV25 := Lib.hid (HSV23.out.read HI0.out hrb hr hs)
 clear hr hs p0
 have HE26 : Hid (r = (nameR R.l (i + 1)).bind fun n j => (needR R.l j [102, 111, 114]).bind fun _ j => (headR R.l j).bind fun h j => (whereR f R.l j).bind fun wh j => (methodsR f R.l j d true).bind fun ms j => .ok (itMk 3 n h noGn [] noTy wh ms [] tk) j) := by show _ = _; rw [HE24.out, HB2.out, if_pos rfl]
 have p0 := HKP.out v25 HSV25.out.st
 go_wp2_with fail
 refine (name_any R HL.out _ (i + 1) d HSV25.out.rd).mono ?_
 rintro e v27 hp
 have hp2 : PPost R d StrV (nameR R.l (i + 1)) _ e v27 := hp
 cases hn : nameR R.l (i + 1) with
 | out => exact (nameR_out hn).elim
 | err c ln col =>
  rw [hn] at hp2
  obtain ⟨rfl, hs⟩ := hp2
  refine ⟨rfl, PPost.of_err (c := c) (ln := ln) (col := col) (by rw [HE26.out, hn]; rfl) rfl (HBK.out _ (HSV25.out.err hs))⟩
 | ok s27 j27 =>
  have HN27 := Lib.hid hn
  have HNS27 := Lib.hid (nameR_size HL.out HSV25.out.rd.lt hn)
  rw [hn] at hp2
  obtain ⟨⟨v, rfl, rfl⟩, hr, hs⟩ := hp2
  have HSV27 := Lib.hid (HSV25.out.read HI0.out hrb hr hs)
  clear hn hr hs hp p0
  have HE28 : Hid (r = (needR R.l j27 [102, 111, 114]).bind fun _ j => (headR R.l j).bind fun h j => (whereR f R.l j).bind fun wh j => (methodsR f R.l j d true).bind fun ms j => .ok (itMk 3 s27 h noGn [] noTy wh ms [] tk) j) := by show _ = _; rw [HE26.out, HN27.out]; rfl
  have p0 := HKP.out v27 HSV27.out.st
  have bt0 := blk_cell HSV27.out.blk 0 _ rfl
  have bz0 := blk_free HSV27.out.blk 0
  have bt1 := blk_cell HSV27.out.blk 1 _ rfl
  have bz1 := blk_free HSV27.out.blk 1
  obtain ⟨v29, hv29⟩ : ∃ v29 : World, v29 = ((v27.setCell ⟨b, 0, none⟩ (.int .i64 3)).setCell ⟨b, 1, none⟩ (.string s27)) := ⟨_, rfl⟩
  have HSV29 : Hid (Sv R v1 b d I0 v29 j27 (.cells #[.int .i64 3, .string s27, .string noB, .slice none 0 0, .slice none 0 0, .slice none 0 0, .int .i64 0, .string noB, .string noB, .bool false, .slice none 0 0, .slice none 0 0, .int .i64 0, .int .i64 0, .slice none 0 0, .slice none 0 0, .slice none 0 0, .int .i64 tk.line, .int .i64 tk.col] 58 (0, 0))) := by show Sv _ _ _ _ _ _ _ _; rw [hv29]; exact ((HSV27.out.set HI0.out hrb 0 (.int .i64 3)).set HI0.out hrb 1 (.string s27))
  go_upto_region 11 with fail
  rw [← hv29]
  clear hv29 p0 bt0 bz0 bt1 bz1
  have p0 := HKP.out v29 HSV29.out.st
  go_wp2_with fail
  refine (need_any R HL.out v29.heap.size ⟨#[102, 111, 114]⟩ _ j27 d (HSV29.out.rd.quiet ((Step.refl _ _).alloc _)) (by decide) (blk_cell (blk_new _ _) 0 _ rfl)).mono ?_
  rintro e v30 hp
  have hp2 : PPost R d UnitV (needR R.l j27 [102, 111, 114]) _ e v30 := hp
  cases hn : needR R.l j27 [102, 111, 114] with
  | out => exact (needR_out hn).elim
  | err c ln col =>
   rw [hn] at hp2
   obtain ⟨rfl, hs⟩ := hp2
   refine ⟨rfl, PPost.of_err (c := c) (ln := ln) (col := col) (by rw [HE28.out, hn]; rfl) rfl (HBK.out _ (HSV29.out.err (((Step.refl (· = R.rb) _).alloc _).trans hs)))⟩
  | ok u30 j30 =>
   have HN30 := Lib.hid hn
   rw [hn] at hp2
   obtain ⟨⟨v, rfl, rfl⟩, hr, hs⟩ := hp2
   have HSV30 := Lib.hid (HSV29.out.read HI0.out hrb hr (((Step.refl (· = R.rb) _).alloc _).trans hs))
   clear hn hr hs hp p0
   have HE31 : Hid (r = (headR R.l j30).bind fun h j => (whereR f R.l j).bind fun wh j => (methodsR f R.l j d true).bind fun ms j => .ok (itMk 3 s27 h noGn [] noTy wh ms [] tk) j) := by show _ = _; rw [HE28.out, HN30.out]; rfl
   have p0 := HKP.out v30 HSV30.out.st
   go_upto_region 12 with fail
   clear p0
   have HFL : Hid (StbAll R b v1.heap.size [(fun _ u => u = (.agg #[.pointer (some ⟨R.rb, 0, none⟩)])), (fun X u => ∃ a j, headR R.l j30 = .ok a j ∧ StrE X (fun q => v1.heap.size ≤ q) a u), (fun _ u => u = (.agg #[.pointer (some ⟨R.rb, 0, none⟩)])), (fun X u => ∃ a j c k, headR R.l j30 = .ok a j ∧ whereR f R.l j = .ok c k ∧ (LsQ BdP) X (fun q => v1.heap.size ≤ q) c u), (fun _ u => u = (.pointer (some ⟨b, 2, none⟩))), Tru, (fun _ u => u = (.pointer (some ⟨b, 14, none⟩))), Tru]) := (StbAll.cons (Stb.const _) (StbAll.cons (Stb.ex fun _ => Stb.ex fun _ => Stb.and (Stb.at strE_ok hrb (by omega) _)) (StbAll.cons (Stb.const _) (StbAll.cons (Stb.ex fun _ => Stb.ex fun _ => Stb.ex fun _ => Stb.ex fun _ => Stb.and (Stb.and (Stb.at (lsQ_ok bdP_ok) hrb (by omega) _))) (StbAll.cons (Stb.const _) (StbAll.cons Stb.tru (StbAll.cons (Stb.const _) (StbAll.cons Stb.tru StbAll.nil))))))))
   go_cut [] (fun wx => ∃ (a : ByteArray) (j : Nat) (c : List Bd) (k : Nat) (u1 : Value) (u3 : Value), headR R.l j30 = .ok a j ∧ whereR f R.l j = .ok c k ∧ Sv R v1 b d I0 wx k (.cells #[.int .i64 3, .string s27, u1, .slice none 0 0, .slice none 0 0, .slice none 0 0, .int .i64 0, .string noB, .string noB, .bool false, .slice none 0 0, .slice none 0 0, .int .i64 0, .int .i64 0, u3, .slice none 0 0, .slice none 0 0, .int .i64 tk.line, .int .i64 tk.col] 58 (0, 0)) ∧ StrE wx (fun q => v1.heap.size ≤ q) a u1 ∧ (LsQ BdP) wx (fun q => v1.heap.size ≤ q) c u3)
   case first =>
    obtain ⟨Jx, hJx⟩ : ∃ Jx : (Nat → Bool) → (Nat → Value) → World → Prop, Jx = RJ R v1 b d I0 (fun (L : Nat → Bool) (ix : Nat) => cond (L 3) (∃ a j c, headR R.l j30 = .ok a j ∧ whereR f R.l j = .ok c ix) (cond (L 1) (∃ a, headR R.l j30 = .ok a ix) (ix = j30))) (fun (L : Nat → Bool) (V : Nat → Value) => Obj.cells #[.int .i64 3, .string s27, cond (L 5) (V 1) (.string noB), .slice none 0 0, .slice none 0 0, .slice none 0 0, .int .i64 0, .string noB, .string noB, .bool false, .slice none 0 0, .slice none 0 0, .int .i64 0, .int .i64 0, cond (L 7) (V 3) (.slice none 0 0), .slice none 0 0, .slice none 0 0, .int .i64 tk.line, .int .i64 tk.col] 58 (0, 0)) [(fun _ u => u = (.agg #[.pointer (some ⟨R.rb, 0, none⟩)])), (fun X u => ∃ a j, headR R.l j30 = .ok a j ∧ StrE X (fun q => v1.heap.size ≤ q) a u), (fun _ u => u = (.agg #[.pointer (some ⟨R.rb, 0, none⟩)])), (fun X u => ∃ a j c k, headR R.l j30 = .ok a j ∧ whereR f R.l j = .ok c k ∧ (LsQ BdP) X (fun q => v1.heap.size ≤ q) c u), (fun _ u => u = (.pointer (some ⟨b, 2, none⟩))), Tru, (fun _ u => u = (.pointer (some ⟨b, 14, none⟩))), Tru] [(3, 1), (5, 1), (7, 3)] := ⟨_, rfl⟩
    have HJX := Lib.hid hJx
    clear hJx
    refine wp_region_relyD (by kernel_rfl) (Jx) 8 rfl (by kernel_rfl) (by kernel_rfl) (by kernel_rfl) (by kernel_rfl) ?h0 ?hs ?hdone
    case h0 => rw [HJX.out]; exact RJ.zero HI0.out HSV30.out ((Step.refl _ _).drew) rfl
    case hs =>
     refine ⟨?_, ?_, ?_, ?_, ?_, ?_, ?_, ?_, trivial⟩
     ·intro L V X a ev evo hdf hL hdep hJ
      rw [HJX.out] at hJ
      have o1 := evo 1 rfl
      change a.tmps[1]?.getD undef = .pointer (some ⟨w.heap.size, 0, none⟩) at o1
      obtain ⟨i9, hv9, -⟩ := id hJ.sv
      have p0 := HKP.out X hv9.st
      clear hv9
      go_simp
      exact ⟨_, rfl, by rw [HJX.out]; exact hJ.up 0 _ rfl (np rfl) rfl rfl⟩
     ·intro L V X a ev evo hdf hL hdep hJ
      rw [HJX.out] at hJ
      have e55 := (ev 0 55 rfl (hdep 0 rfl)).trans (hJ.fs 0 (hdep 0 rfl))
      obtain ⟨i9, hv9, hr9⟩ := id hJ.sv
      rw [hJ.false_of 3 1 (by decide) hL, hL] at hr9
      have hr9 : i9 = j30 := hr9
      rw [hr9] at hv9
      clear hr9
      go_simp
      refine (head_any R X j30 d HL.out hv9.rd).mono ?_
      intro e wq hp
      cases hx : headR R.l j30 with
      | out => exact absurd hx (fun e => HNO.out (by rw [HE31.out, e]; rfl))
      | err cc ln col =>
       rw [hx] at hp
       obtain ⟨rfl, hs⟩ := hp
       exact ⟨hdf, PPost.of_err (c := cc) (ln := ln) (col := col) (by rw [HE31.out, hx]; rfl) rfl (HBK.out _ (hv9.err hs))⟩
      | ok c9 k9 =>
       rw [hx] at hp
       obtain ⟨⟨v, rfl, hv⟩, hr, hs⟩ := hp
       exact ⟨_, rfl, by rw [HJX.out]; exact hJ.call HI0.out HFL.out hrb 1 v hr hs ⟨_, _, hx, strE_ok.mono _ _ (fun q _ hq => by have := hv9.st.size; omega) (show StrE _ _ _ _ from hv)⟩ (np rfl) (by have e5 := hJ.false_of 5 1 (by decide) hL; change Obj.cells #[.int .i64 3, .string s27, cond (L 5) (_) (.string noB), .slice none 0 0, .slice none 0 0, .slice none 0 0, .int .i64 0, .string noB, .string noB, .bool false, .slice none 0 0, .slice none 0 0, .int .i64 0, .int .i64 0, cond (L 7) (V 3) (.slice none 0 0), .slice none 0 0, .slice none 0 0, .int .i64 tk.line, .int .i64 tk.col] 58 (0, 0) = Obj.cells #[.int .i64 3, .string s27, cond (L 5) (V 1) (.string noB), .slice none 0 0, .slice none 0 0, .slice none 0 0, .int .i64 0, .string noB, .string noB, .bool false, .slice none 0 0, .slice none 0 0, .int .i64 0, .int .i64 0, cond (L 7) (V 3) (.slice none 0 0), .slice none 0 0, .slice none 0 0, .int .i64 tk.line, .int .i64 tk.col] 58 (0, 0); rw [e5]; rfl) (by show cond (L 3) _ _; rw [hJ.false_of 3 1 (by decide) hL]; exact ⟨_, hx⟩)⟩
     ·intro L V X a ev evo hdf hL hdep hJ
      rw [HJX.out] at hJ
      have o1 := evo 1 rfl
      change a.tmps[1]?.getD undef = .pointer (some ⟨w.heap.size, 0, none⟩) at o1
      obtain ⟨i9, hv9, -⟩ := id hJ.sv
      have p0 := HKP.out X hv9.st
      clear hv9
      go_simp
      exact ⟨_, rfl, by rw [HJX.out]; exact hJ.up 2 _ rfl (np rfl) rfl rfl⟩
     ·intro L V X a ev evo hdf hL hdep hJ
      rw [HJX.out] at hJ
      have e57 := (ev 2 57 rfl (hdep 2 rfl)).trans (hJ.fs 2 (hdep 2 rfl))
      obtain ⟨i9, hv9, hr9⟩ := id hJ.sv
      rw [hL, hdep 1 rfl] at hr9
      obtain ⟨a9, h9⟩ : ∃ a, headR R.l j30 = .ok a i9 := hr9
      go_simp
      refine (where_any f R X i9 d HL.out hv9.rd (fun e => HNO.out (by rw [HE31.out, h9, Res.bind_ok]; rw [e]; rfl))).mono ?_
      intro e wq hp
      cases hx : whereR f R.l i9 with
      | out => exact absurd hx (fun e => HNO.out (by rw [HE31.out, h9, Res.bind_ok]; rw [e]; rfl))
      | err cc ln col =>
       rw [hx] at hp
       obtain ⟨rfl, hs⟩ := hp
       exact ⟨hdf, PPost.of_err (c := cc) (ln := ln) (col := col) (by rw [HE31.out, h9, Res.bind_ok]; rw [hx]; rfl) rfl (HBK.out _ (hv9.err hs))⟩
      | ok c9 k9 =>
       rw [hx] at hp
       obtain ⟨⟨v, rfl, hv⟩, hr, hs⟩ := hp
       exact ⟨_, rfl, by rw [HJX.out]; exact hJ.call HI0.out HFL.out hrb 3 v hr hs ⟨_, _, _, _, h9, hx, (lsQ_ok bdP_ok).mono _ _ (fun q _ hq => by have := hv9.st.size; omega) (show (LsQ BdP) _ _ _ _ from hv)⟩ (mc ⟨fun _ => hdep 1 rfl, (mc ⟨nd (by decide), (mc ⟨nd (by decide), (fun _ h => nomatch h)⟩)⟩)⟩) (by have e7 := hJ.false_of 7 3 (by decide) hL; change Obj.cells #[.int .i64 3, .string s27, cond (L 5) (V 1) (.string noB), .slice none 0 0, .slice none 0 0, .slice none 0 0, .int .i64 0, .string noB, .string noB, .bool false, .slice none 0 0, .slice none 0 0, .int .i64 0, .int .i64 0, cond (L 7) (_) (.slice none 0 0), .slice none 0 0, .slice none 0 0, .int .i64 tk.line, .int .i64 tk.col] 58 (0, 0) = Obj.cells #[.int .i64 3, .string s27, cond (L 5) (V 1) (.string noB), .slice none 0 0, .slice none 0 0, .slice none 0 0, .int .i64 0, .string noB, .string noB, .bool false, .slice none 0 0, .slice none 0 0, .int .i64 0, .int .i64 0, cond (L 7) (V 3) (.slice none 0 0), .slice none 0 0, .slice none 0 0, .int .i64 tk.line, .int .i64 tk.col] 58 (0, 0); rw [e7]; rfl) ⟨_, _, _, h9, hx⟩⟩
     ·intro L V X a ev evo hdf hL hdep hJ
      rw [HJX.out] at hJ
      have o3 := evo 3 rfl
      change a.tmps[3]?.getD undef = .pointer (some ⟨b, 0, none⟩) at o3
      go_simp
      exact ⟨_, rfl, by rw [HJX.out]; exact hJ.up 4 _ rfl (np rfl) rfl rfl⟩
     ·intro L V X a ev evo hdf hL hdep hJ
      rw [HJX.out] at hJ
      have e59 := (ev 4 59 rfl (hdep 4 rfl)).trans (hJ.fs 4 (hdep 4 rfl))
      obtain ⟨i9, hv9, -⟩ := id hJ.sv
      have hb9 := hv9.blk
      obtain ⟨a8, j8, h8, hV⟩ := hJ.fs 1 (hdep 1 rfl)
      have hV : V 1 = .string a8 := hV
      have e56 := (ev 1 56 rfl (hdep 1 rfl)).trans hV
      have ecell : ∃ v, X.cell? ⟨b, 2, none⟩ = some v := ⟨_, blk_cell hb9 2 _ rfl⟩
      obtain ⟨vc, hvc⟩ := ecell
      have hfz := blk_free hb9 2
      have hx : (X.setCell ⟨b, 2, none⟩ (V 1)).heap[b]? = _ := blk_set hb9 2 (V 1)
      rw [hV] at hx
      have hxx := hx
      go_simp
      exact ⟨undef, by rw [HJX.out]; exact hJ.put HI0.out HFL.out hrb 5 undef ((Step.refl _ _).setCell _ _ (fun _ => rfl)) (by rw [← hV]; exact blk_set hb9 2 (V 1)) rfl (mc ⟨nd (by decide), (mc ⟨fun _ => hdep 1 rfl, (mc ⟨nd (by decide), (fun _ h => nomatch h)⟩)⟩)⟩) rfl⟩
     ·intro L V X a ev evo hdf hL hdep hJ
      rw [HJX.out] at hJ
      have o3 := evo 3 rfl
      change a.tmps[3]?.getD undef = .pointer (some ⟨b, 0, none⟩) at o3
      go_simp
      exact ⟨_, rfl, by rw [HJX.out]; exact hJ.up 6 _ rfl (np rfl) rfl rfl⟩
     ·intro L V X a ev evo hdf hL hdep hJ
      rw [HJX.out] at hJ
      have e60 := (ev 6 60 rfl (hdep 6 rfl)).trans (hJ.fs 6 (hdep 6 rfl))
      obtain ⟨i9, hv9, -⟩ := id hJ.sv
      have hb9 := hv9.blk
      obtain ⟨a8, j8, c8, k8, h8, h7, xs8, hr8, -⟩ := hJ.fs 3 (hdep 3 rfl)
      obtain ⟨g8, n8, hV⟩ := hr8.parts
      have e58 := (ev 3 58 rfl (hdep 3 rfl)).trans hV
      have ecell : ∃ v, X.cell? ⟨b, 14, none⟩ = some v := ⟨_, blk_cell hb9 14 _ rfl⟩
      obtain ⟨vc, hvc⟩ := ecell
      have hfz := blk_free hb9 14
      have hx : (X.setCell ⟨b, 14, none⟩ (V 3)).heap[b]? = _ := blk_set hb9 14 (V 3)
      rw [hV] at hx
      have hxx := hx
      go_simp
      exact ⟨undef, by rw [HJX.out]; exact hJ.put HI0.out HFL.out hrb 7 undef ((Step.refl _ _).setCell _ _ (fun _ => rfl)) (by rw [← hV]; exact blk_set hb9 14 (V 3)) rfl (mc ⟨nd (by decide), (mc ⟨nd (by decide), (mc ⟨fun _ => hdep 3 rfl, (fun _ h => nomatch h)⟩)⟩)⟩) rfl⟩
    case hdone =>
     intro L V X hall hJ
     rw [HJX.out] at hJ
     obtain ⟨i9, hv9, hr9⟩ := hJ.sv
     rw [hall 3 (by decide)] at hr9
     obtain ⟨a9, j9, c9, h91, h92⟩ : ∃ a j c, headR R.l j30 = .ok a j ∧ whereR f R.l j = .ok c i9 := hr9
     have f1 := hJ.fs 1 (hall 1 (by decide))
     obtain ⟨a8, j8, h81, g1⟩ := f1
     rw [h91] at h81
     cases h81
     have f3 := hJ.fs 3 (hall 3 (by decide))
     obtain ⟨a8, j8, c8, k8, h81, h82, g3⟩ := f3
     rw [h91] at h81
     cases h81
     rw [h92] at h82
     cases h82
     have hv9 : Sv R v1 b d I0 X i9 (Obj.cells #[.int .i64 3, .string s27, V 1, .slice none 0 0, .slice none 0 0, .slice none 0 0, .int .i64 0, .string noB, .string noB, .bool false, .slice none 0 0, .slice none 0 0, .int .i64 0, .int .i64 0, V 3, .slice none 0 0, .slice none 0 0, .int .i64 tk.line, .int .i64 tk.col] 58 (0, 0)) := by
      have h := hv9
      rw [hall 5 (by decide), hall 7 (by decide)] at h
      exact h
     have HEND := Lib.hid hv9
     have HG1 := Lib.hid g1
     have HG3 := Lib.hid g3
     have H91 := Lib.hid h91
     have H92 := Lib.hid h92
     rw [show List.range 8 = [0, 1, 2, 3, 4, 5, 6, 7] from rfl]
     simp only [putF, dstO, List.getElem?_toArray, List.getElem?_cons_zero, List.getElem?_cons_succ, Option.bind_some, Act.put, List.setIfInBounds_toArray, List.set_cons_zero, List.set_cons_succ]
     clear hJ hall hv9 h91 h92 g1 g3
     go_wp2_with fail
     go_meet
     case rel => exact ⟨a9, j9, c9, i9, V 1, V 3, H91.out, H92.out, HEND.out, HG1.out, HG3.out⟩
   case rest =>
    obtain ⟨a32, j32, c32, k32, u1, u3, hn1, hn2, hsv, hg1, hg3⟩ := hcut
    obtain ⟨w32, rfl⟩ : ∃ w32 : World, w32 = wc := ⟨_, rfl⟩
    have hg1e : u1 = .string a32 := hg1
    subst hg1e
    have HN1 := Lib.hid hn1
    have HN2 := Lib.hid hn2
    have HNM32 := Lib.hid (headR_size HL.out HSV30.out.rd.lt hn1)
    obtain ⟨wa, wc9, rfl⟩ := LsQ.parts hg3
    have HSVx : Hid (Sv R v1 b d I0 w32 k32 (.cells #[.int .i64 3, .string s27, .string a32, .slice none 0 0, .slice none 0 0, .slice none 0 0, .int .i64 0, .string noB, .string noB, .bool false, .slice none 0 0, .slice none 0 0, .int .i64 0, .int .i64 0, .slice wa c32.length wc9, .slice none 0 0, .slice none 0 0, .int .i64 tk.line, .int .i64 tk.col] 58 (0, 0))) := hsv
    obtain ⟨I32, hI32, hF32, hsv32⟩ := HSVx.out.keep HI0.out (J := fun X => LsQ BdP X (fun q => v1.heap.size ≤ q) c32 (.slice wa c32.length wc9)) (Stab.at (lsQ_ok bdP_ok) hrb (by omega) _ _) (hg3)
    have HI32 := Lib.hid hI32
    have HF32 := Lib.hid hF32
    have HSV32 := Lib.hid hsv32
    clear hI32 hF32 hsv32
    clear hn1 hn2 hsv hg1 hg3
    have HE33 : Hid (r = (methodsR f R.l k32 d true).bind fun ms j => .ok (itMk 3 s27 a32 noGn [] noTy c32 ms [] tk) j) := by show _ = _; rw [HE31.out, HN1.out, Res.bind_ok]; rw [HN2.out]; rfl
    have p0 := HKP.out w32 HSV32.out.st
    go_wp2_with fail
    refine (methods_any f IHB.out IHT.out R _ k32 d true HL.out HSV32.out.rd hd (fun e => HNO.out (by rw [HE33.out, e]; rfl))).mono ?_
    rintro e v34 hp
    have hp2 : PPost R d (MtsV w32.heap.size) (methodsR f R.l k32 d true) _ e v34 := hp
    cases hn : methodsR f R.l k32 d true with
    | out => exact absurd (by rw [HE33.out, hn]; rfl) HNO.out
    | err c ln col =>
     rw [hn] at hp2
     obtain ⟨rfl, hs⟩ := hp2
     refine ⟨rfl, PPost.of_err (c := c) (ln := ln) (col := col) (by rw [HE33.out, hn]; rfl) rfl (HBK.out _ (HSV32.out.err hs))⟩
    | ok a34 j34 =>
     have HN34 := Lib.hid hn
     rw [hn] at hp2
     obtain ⟨⟨v, rfl, hv⟩, hr, hs⟩ := hp2
     obtain ⟨la34, lc34, rfl⟩ := LsQ.parts hv
     obtain ⟨I34, hI34, hF34, hsv34⟩ := HSV32.out.got (lsQ_ok mtP_ok) HI32.out hrb (by omega) hr hs (At := (LsQ MtP)) hv
     have HI34 := Lib.hid hI34
     have HF34 := Lib.hid hF34
     have HSV34 := Lib.hid hsv34
     clear hn hr hs hp hv hI34 hF34 hsv34 p0
     have HE35 : Hid (r = .ok (itMk 3 s27 a32 noGn [] noTy c32 a34 [] tk) j34) := by show _ = _; rw [HE33.out, HN34.out]; rfl
     have p0 := HKP.out v34 HSV34.out.st
     have bt15 := blk_cell HSV34.out.blk 15 _ rfl
     have bz15 := blk_free HSV34.out.blk 15
     obtain ⟨v36, hv36⟩ : ∃ v36 : World, v36 = (v34.setCell ⟨b, 15, none⟩ (.slice la34 a34.length lc34)) := ⟨_, rfl⟩
     have HSV36 : Hid (Sv R v1 b d I34 v36 j34 (.cells #[.int .i64 3, .string s27, .string a32, .slice none 0 0, .slice none 0 0, .slice none 0 0, .int .i64 0, .string noB, .string noB, .bool false, .slice none 0 0, .slice none 0 0, .int .i64 0, .int .i64 0, .slice wa c32.length wc9, .slice la34 a34.length lc34, .slice none 0 0, .int .i64 tk.line, .int .i64 tk.col] 58 (0, 0))) := by show Sv _ _ _ _ _ _ _ _; rw [hv36]; exact (HSV34.out.set HI34.out hrb 15 (.slice la34 a34.length lc34))
     go_upto_region 20 with fail
     rw [← hv36]
     clear hv36 p0 bt15 bz15
     have p0 := HKP.out v36 HSV36.out.st
     have HLD : Hid (∀ (jj : Nat) v, [Value.int .i64 3, .string s27, .string a32, .slice none 0 0, .slice none 0 0, .slice none 0 0, .int .i64 0, .string noB, .string noB, .bool false, .slice none 0 0, .slice none 0 0, .int .i64 0, .int .i64 0, .slice wa c32.length wc9, .slice la34 a34.length lc34, .slice none 0 0, .int .i64 tk.line, .int .i64 tk.col][jj]? = some v → v36.cell? ⟨b, 0 + jj, none⟩ = some v) := by
      show ∀ jj v, _
      intro jj v hv
      rw [Nat.zero_add]; exact blk_cell HSV36.out.blk jj v (by simpa using hv)
     have HONE : Hid (∀ u ∈ [Value.int .i64 3, .string s27, .string a32, .slice none 0 0, .slice none 0 0, .slice none 0 0, .int .i64 0, .string noB, .string noB, .bool false, .slice none 0 0, .slice none 0 0, .int .i64 0, .int .i64 0, .slice wa c32.length wc9, .slice la34 a34.length lc34, .slice none 0 0, .int .i64 tk.line, .int .i64 tk.col], u.oneCell' = true) := oneCells rfl
     have HNX := Lib.hid (HKN.out v36 HSV36.out.st)
     have HEX : Hid (ItP v36 (fun q => v1.heap.size ≤ q) (itMk 3 s27 a32 noGn [] noTy c32 a34 [] tk) [.int .i64 3, .string s27, .string a32, .slice none 0 0, .slice none 0 0, .slice none 0 0, .int .i64 0, .string noB, .string noB, .bool false, .slice none 0 0, .slice none 0 0, .int .i64 0, .int .i64 0, .slice wa c32.length wc9, .slice la34 a34.length lc34, .slice none 0 0, .int .i64 tk.line, .int .i64 tk.col]) := ⟨[.int .i64 0, .string noB, .string noB, .bool false, .slice none 0 0, .slice none 0 0, .int .i64 0, .int .i64 0], _, _, _, _, _, _, rfl, HNS27.out, HNM32.out, NamesQ.nil _ _, NamesQ.nil _ _, LsQ.nil _ _, noTyP _ _, (HF32.out _ (HF34.out _ HSV36.out.inv).1).2, (HF34.out _ HSV36.out.inv).2, StsQ.nil _ _⟩
     clear p0 
     go_wp2_with (first
      | (refine wpList_load_whole rfl 58 (.tmp 3) rfl b 0 rfl [Value.int .i64 3, .string s27, .string a32, .slice none 0 0, .slice none 0 0, .slice none 0 0, .int .i64 0, .string noB, .string noB, .bool false, .slice none 0 0, .slice none 0 0, .int .i64 0, .int .i64 0, .slice wa c32.length wc9, .slice la34 a34.length lc34, .slice none 0 0, .int .i64 tk.line, .int .i64 tk.col] _ HLD.out Try.underlying58 rfl Try.sizeItem ?_)
      | (refine wpList_store_part (w := v36) rfl 58 (.tmp 2) (.tmp 92) rfl (w.heap.size + 1) 0 58 _ [Value.int .i64 3, .string s27, .string a32, .slice none 0 0, .slice none 0 0, .slice none 0 0, .int .i64 0, .string noB, .string noB, .bool false, .slice none 0 0, .slice none 0 0, .int .i64 0, .int .i64 0, .slice wa c32.length wc9, .slice la34 a34.length lc34, .slice none 0 0, .int .i64 tk.line, .int .i64 tk.col] rfl rfl HNX.out Try.sizeItem (Nat.le_of_eq rfl) HONE.out ?_
         intro wR hbR hstR))
     have hbR' : wR.heap[w.heap.size + 1]? = some (.cells [Value.int .i64 3, .string s27, .string a32, .slice none 0 0, .slice none 0 0, .slice none 0 0, .int .i64 0, .string noB, .string noB, .bool false, .slice none 0 0, .slice none 0 0, .int .i64 0, .int .i64 0, .slice wa c32.length wc9, .slice la34 a34.length lc34, .slice none 0 0, .int .i64 tk.line, .int .i64 tk.col].toArray 58 (0, 0)) := hbR
     refine bodyPost_ret (results_cellB rfl _ (w.heap.size + 1) 58 _ _ rfl hbR' Try.underlying58 rfl Try.sizeItem) rfl ?_
     refine PPost.of_ok (a := itMk 3 s27 a32 noGn [] noTy c32 a34 [] tk) (j := j34) HE35.out rfl ⟨_, rfl, itP_ok.mono _ _ (fun q _ hq => by omega) (itP_ok.step _ _ hstR (fun q hq e => by omega) HEX.out)⟩ (HSV36.out.rd.step hstR (fun q hq e => by omega)) ((HBK.out _ HSV36.out.st).then hstR (fun q hq e => by omega))
theorem item_3 (f : Nat) (ihB : ∀ f', f' ≤ f → BlockOk f') (ihT : ∀ f', f' ≤ f → TypOk f') (R : Rdr) (w : World) (i d : Nat) (hl : LOk R.l) (h : RdAt R w i d) (hd : d ≤ 40) (hno : itemR f R.l i d ≠ .out) (hb0 : isF R.l i [115, 116, 114, 117, 99, 116] = false) (hb1 : isF R.l i [116, 114, 97, 105, 116] = false) (hb2 : isF R.l i [105, 109, 112, 108] = false) (hb3 : isF R.l i [102, 110] = true) :
  Calls Try.prog 29 #[.agg #[.pointer (some ⟨R.rb, 0, none⟩)]] w (PPost R d (ItV w.heap.size) (itemR f R.l i d) w) := by
 have HL := Lib.hid hl
 have IHB := Lib.hid ihB
 have IHT := Lib.hid ihT
 obtain ⟨r, hr⟩ : ∃ r, r = itemR f R.l i d := ⟨_, rfl⟩
 obtain ⟨tk, htk⟩ : ∃ tk, tk = tokA R.l i := ⟨_, rfl⟩
 have HRR : Hid (r = if isF R.l i [115, 116, 114, 117, 99, 116] then (nameR R.l (i + 1)).bind fun n j => (genR f R.l j).bind fun g j => (needR R.l j [123]).bind fun _ j => (paramsR f R.l j d [125] 12).bind fun fs j => .ok (itMk 1 n noB g fs noTy [] [] [] tk) j else if isF R.l i [116, 114, 97, 105, 116] then (nameR R.l (i + 1)).bind fun n j => (methodsR f R.l j d false).bind fun ms j => .ok (itMk 2 n noB noGn [] noTy [] ms [] tk) j else if isF R.l i [105, 109, 112, 108] then (nameR R.l (i + 1)).bind fun n j => (needR R.l j [102, 111, 114]).bind fun _ j => (headR R.l j).bind fun h j => (whereR f R.l j).bind fun wh j => (methodsR f R.l j d true).bind fun ms j => .ok (itMk 3 n h noGn [] noTy wh ms [] tk) j else if isF R.l i [102, 110] then (nameR R.l (i + 1)).bind fun n j => (genR f R.l j).bind fun g j => (needR R.l j [40]).bind fun _ j => (paramsR f R.l j d [41] 8).bind fun fs j => (retR f R.l j d).bind fun t j => (whereR f R.l j).bind fun wh j => (blockR f R.l j d).bind fun b j => .ok (itMk 4 n noB g fs t wh [] b tk) j else failR 1 R.l i) := by show _ = _; rw [hr, itemR, ← htk]
 rw [← hr] at hno ⊢
 have HNO := Lib.hid hno
 have hrlt := blk_lt h.blk
 obtain ⟨w1, hw1⟩ : ∃ w1 : World, w1 = (w.alloc (.cells #[.pointer (some ⟨R.rb, 0, none⟩)] 45)).alloc (.cells #[.int .i64 0, .string ⟨#[]⟩, .string ⟨#[]⟩, .slice none 0 0, .slice none 0 0, .slice none 0 0, .int .i64 0, .string ⟨#[]⟩, .string ⟨#[]⟩, .bool false, .slice none 0 0, .slice none 0 0, .int .i64 0, .int .i64 0, .slice none 0 0, .slice none 0 0, .slice none 0 0, .int .i64 0, .int .i64 0] 58) := ⟨_, rfl⟩
 have HS1 : Hid (Step (fun _ => False) w w1) := by show Step _ _ _; rw [hw1]; exact ((Step.refl _ _).alloc _).alloc _
 have HP1 : Hid (w1.heap[w.heap.size]? = some (.cells #[.pointer (some ⟨R.rb, 0, none⟩)] 45 (0, 0))) := by show _ = _; rw [hw1]; exact blk_alloc (blk_new _ _)
 have HN1 : Hid (w1.heap[w.heap.size + 1]? = some (.cells #[.int .i64 0, .string ⟨#[]⟩, .string ⟨#[]⟩, .slice none 0 0, .slice none 0 0, .slice none 0 0, .int .i64 0, .string ⟨#[]⟩, .string ⟨#[]⟩, .bool false, .slice none 0 0, .slice none 0 0, .int .i64 0, .int .i64 0, .slice none 0 0, .slice none 0 0, .slice none 0 0, .int .i64 0, .int .i64 0] 58 (0, 0))) := by show _ = _; rw [hw1]; exact blk_new2 _ _ _
 have HW1 := Lib.hid hw1
 have H1 := Lib.hid (h.quiet HS1.out)
 have HT := Lib.hid (show R.l[i]? = some tk by rw [htk]; exact h.tok)
 have p0 : w1.cell? ⟨w.heap.size, 0, none⟩ = some (.pointer (some ⟨R.rb, 0, none⟩)) := blk_cell HP1.out 0 _ rfl
 have HAT := Lib.hid (at_at R w1 i d tk H1.out HT.out)
 clear ihB ihT hl h hno hr hw1 htk
 go_enter Try.func29, Try.ntmps29
 go_upto_region 1 with fail
 rw [← HW1.out]
 go_wp2_with fail
 refine HAT.out.mono ?_
 rintro e w2 ⟨rfl, h2⟩
 have HS2 := Lib.hid (HS1.out.trans h2)
 have HP2 := Lib.hid (h2.keep HP1.out (fun h => h))
 have HN2 := Lib.hid (h2.keep HN1.out (fun h => h))
 have hn1 := blk_lt HN2.out
 have HH2 := Lib.hid h2
 have HON0 : Hid (∀ u ∈ [Value.int .i64 0, .string noB, .string noB, .slice none 0 0, .slice none 0 0, .slice none 0 0, .int .i64 0, .string noB, .string noB, .bool false, .slice none 0 0, .slice none 0 0, .int .i64 0, .int .i64 0, .slice none 0 0, .slice none 0 0, .slice none 0 0, .int .i64 tk.line, .int .i64 tk.col], u.oneCell' = true) := oneCells rfl
 clear h2 p0
 go_upto_region 3 with (refine wpList_store_part (w := w2.alloc (.cells #[.int .i64 0, .string ⟨#[]⟩, .string ⟨#[]⟩, .slice none 0 0, .slice none 0 0, .slice none 0 0, .int .i64 0, .string ⟨#[]⟩, .string ⟨#[]⟩, .bool false, .slice none 0 0, .slice none 0 0, .int .i64 0, .int .i64 0, .slice none 0 0, .slice none 0 0, .slice none 0 0, .int .i64 0, .int .i64 0] 58)) rfl 58 (.tmp 3) (.tmp 7) rfl w2.heap.size 0 58 _ [.int .i64 0, .string noB, .string noB, .slice none 0 0, .slice none 0 0, .slice none 0 0, .int .i64 0, .string noB, .string noB, .bool false, .slice none 0 0, .slice none 0 0, .int .i64 0, .int .i64 0, .slice none 0 0, .slice none 0 0, .slice none 0 0, .int .i64 tk.line, .int .i64 tk.col] rfl rfl (blk_new _ _) Try.sizeItem (Nat.le_of_eq rfl) HON0.out ?_
                        intro v1 hb3 hst3)
 have HB3 : Hid (v1.heap[w2.heap.size]? = some (.cells #[.int .i64 0, .string noB, .string noB, .slice none 0 0, .slice none 0 0, .slice none 0 0, .int .i64 0, .string noB, .string noB, .bool false, .slice none 0 0, .slice none 0 0, .int .i64 0, .int .i64 0, .slice none 0 0, .slice none 0 0, .slice none 0 0, .int .i64 tk.line, .int .i64 tk.col] 58 (0, 0))) := hb3
 have HS23 : Hid (Step (fun _ => False) w2 v1) := ((Step.refl _ _).alloc _).then hst3 (fun q hq e => by omega)
 clear hb3 hst3
 have HS3 := Lib.hid (HS2.out.trans HS23.out)
 have HP3 := Lib.hid (HS23.out.keep HP2.out (fun h => h))
 have HN3 := Lib.hid (HS23.out.keep HN2.out (fun h => h))
 have H3 := Lib.hid (H1.out.quiet (HH2.out.trans HS23.out))
 have hbv := blk_lt HB3.out
 obtain ⟨b, hb⟩ : ∃ b, b = w2.heap.size := ⟨_, rfl⟩
 rw [← hb] at HB3 hbv ⊢
 have hs1 := HS1.out.size
 have hrb : R.rb < b := by omega
 have hbw : w.heap.size + 1 < b := by omega
 have HBK : Hid (∀ X : World, Step (fun q => q = R.rb ∨ q = b) v1 X → Step (· = R.rb) w X) := by
  show ∀ X, _
  intro X hX
  exact (HS3.out.mono (fun _ _ h => h.elim)).then hX (fun q hq e => by omega)
 have HKP : Hid (∀ X : World, Step (fun q => q = R.rb ∨ q = b) v1 X → X.cell? ⟨w.heap.size, 0, none⟩ = some (.pointer (some ⟨R.rb, 0, none⟩))) := by
  show ∀ X, _
  intro X hX
  exact blk_cell (hX.keep HP3.out (by omega)) 0 _ rfl
 have HKN : Hid (∀ X : World, Step (fun q => q = R.rb ∨ q = b) v1 X → X.heap[w.heap.size + 1]? = some (.cells #[.int .i64 0, .string ⟨#[]⟩, .string ⟨#[]⟩, .slice none 0 0, .slice none 0 0, .slice none 0 0, .int .i64 0, .string ⟨#[]⟩, .string ⟨#[]⟩, .bool false, .slice none 0 0, .slice none 0 0, .int .i64 0, .int .i64 0, .slice none 0 0, .slice none 0 0, .slice none 0 0, .int .i64 0, .int .i64 0] 58 (0, 0))) := by
  show ∀ X, _
  intro X hX
  exact hX.keep HN3.out (by omega)
 have hsz3 := HS3.out.size
 obtain ⟨I0, hI0, -, hsv0⟩ := Sv.keep (R := R) (w1 := v1) (b := b) (d := d) (I := fun _ => True) (X := v1) (i := i) (o := .cells #[.int .i64 0, .string noB, .string noB, .slice none 0 0, .slice none 0 0, .slice none 0 0, .int .i64 0, .string noB, .string noB, .bool false, .slice none 0 0, .slice none 0 0, .int .i64 0, .int .i64 0, .slice none 0 0, .slice none 0 0, .slice none 0 0, .int .i64 tk.line, .int .i64 tk.col] 58 (0, 0)) ⟨H3.out, HB3.out, Step.refl _ _, trivial⟩ Stab.yes Stab.yes trivial
 have HI0 := Lib.hid hI0
 have HSV0 := Lib.hid hsv0
 clear hb hs1 hI0 hsv0
 have p0 := HKP.out v1 (Step.refl _ _)
 have HB0 := Lib.hid hb0
 clear hb0
 have HB1 := Lib.hid hb1
 clear hb1
 have HB2 := Lib.hid hb2
 clear hb2
 have HB3 := Lib.hid hb3
 clear hb3
 go_wp2_with fail
 refine (is_no R HL.out ⟨#[115, 116, 114, 117, 99, 116]⟩ _ i d HSV0.out.rd (by decide) HB0.out).mono ?_
 rintro e v21 ⟨rfl, hr, hs⟩
 have HSV21 := Lib.hid (HSV0.out.read HI0.out hrb hr hs)
 clear hr hs p0
 have HE22 : Hid (r = if isF R.l i [116, 114, 97, 105, 116] then (nameR R.l (i + 1)).bind fun n j => (methodsR f R.l j d false).bind fun ms j => .ok (itMk 2 n noB noGn [] noTy [] ms [] tk) j else if isF R.l i [105, 109, 112, 108] then (nameR R.l (i + 1)).bind fun n j => (needR R.l j [102, 111, 114]).bind fun _ j => (headR R.l j).bind fun h j => (whereR f R.l j).bind fun wh j => (methodsR f R.l j d true).bind fun ms j => .ok (itMk 3 n h noGn [] noTy wh ms [] tk) j else if isF R.l i [102, 110] then (nameR R.l (i + 1)).bind fun n j => (genR f R.l j).bind fun g j => (needR R.l j [40]).bind fun _ j => (paramsR f R.l j d [41] 8).bind fun fs j => (retR f R.l j d).bind fun t j => (whereR f R.l j).bind fun wh j => (blockR f R.l j d).bind fun b j => .ok (itMk 4 n noB g fs t wh [] b tk) j else failR 1 R.l i) := by show _ = _; rw [HRR.out, HB0.out, if_neg (by decide)]
 have p0 := HKP.out v21 HSV21.out.st
 go_wp2_with fail
 refine (is_no R HL.out ⟨#[116, 114, 97, 105, 116]⟩ _ i d HSV21.out.rd (by decide) HB1.out).mono ?_
 rintro e v23 ⟨rfl, hr, hs⟩
 have HSV23 := Lib.hid (HSV21.out.read HI0.out hrb hr hs)
 clear hr hs p0
 have HE24 : Hid (r = if isF R.l i [105, 109, 112, 108] then (nameR R.l (i + 1)).bind fun n j => (needR R.l j [102, 111, 114]).bind fun _ j => (headR R.l j).bind fun h j => (whereR f R.l j).bind fun wh j => (methodsR f R.l j d true).bind fun ms j => .ok (itMk 3 n h noGn [] noTy wh ms [] tk) j else if isF R.l i [102, 110] then (nameR R.l (i + 1)).bind fun n j => (genR f R.l j).bind fun g j => (needR R.l j [40]).bind fun _ j => (paramsR f R.l j d [41] 8).bind fun fs j => (retR f R.l j d).bind fun t j => (whereR f R.l j).bind fun wh j => (blockR f R.l j d).bind fun b j => .ok (itMk 4 n noB g fs t wh [] b tk) j else failR 1 R.l i) := by show _ = _; rw [HE22.out, HB1.out, if_neg (by decide)]
 have p0 := HKP.out v23 HSV23.out.st
 go_wp2_with fail
 refine (is_no R HL.out ⟨#[105, 109, 112, 108]⟩ _ i d HSV23.out.rd (by decide) HB2.out).mono ?_
 rintro e v25 ⟨rfl, hr, hs⟩
 have HSV25 := Lib.hid (HSV23.out.read HI0.out hrb hr hs)
 clear hr hs p0
 have HE26 : Hid (r = if isF R.l i [102, 110] then (nameR R.l (i + 1)).bind fun n j => (genR f R.l j).bind fun g j => (needR R.l j [40]).bind fun _ j => (paramsR f R.l j d [41] 8).bind fun fs j => (retR f R.l j d).bind fun t j => (whereR f R.l j).bind fun wh j => (blockR f R.l j d).bind fun b j => .ok (itMk 4 n noB g fs t wh [] b tk) j else failR 1 R.l i) := by show _ = _; rw [HE24.out, HB2.out, if_neg (by decide)]
 have p0 := HKP.out v25 HSV25.out.st
 go_wp2_with fail
 refine (is_yes R HL.out ⟨#[102, 110]⟩ _ i d HSV25.out.rd (by decide) HB3.out).mono ?_
 rintro e v27 ⟨rfl, hr, hs⟩
 have HSV27 := Lib.hid (HSV25.out.read HI0.out hrb hr hs)
 clear hr hs p0
 have HE28 : Hid (r = (nameR R.l (i + 1)).bind fun n j => (genR f R.l j).bind fun g j => (needR R.l j [40]).bind fun _ j => (paramsR f R.l j d [41] 8).bind fun fs j => (retR f R.l j d).bind fun t j => (whereR f R.l j).bind fun wh j => (blockR f R.l j d).bind fun b j => .ok (itMk 4 n noB g fs t wh [] b tk) j) := by show _ = _; rw [HE26.out, HB3.out, if_pos rfl]
 have p0 := HKP.out v27 HSV27.out.st
 go_upto_region 15 with fail
 clear p0
 have HFL : Hid (StbAll R b v1.heap.size [(fun _ u => u = (.pointer (some ⟨w.heap.size, 0, none⟩))), (fun _ u => u = (.pointer (some ⟨R.rb, 0, none⟩))), (fun X u => ∃ a j, nameR R.l (i + 1) = .ok a j ∧ StrE X (fun q => v1.heap.size ≤ q) a u), (fun _ u => u = (.agg #[.pointer (some ⟨R.rb, 0, none⟩)])), (fun X u => ∃ a j c k, nameR R.l (i + 1) = .ok a j ∧ genR f R.l j = .ok c k ∧ GnQ X (fun q => v1.heap.size ≤ q) c u), (fun _ u => u = (.pointer (some ⟨b, 0, none⟩))), Tru, (fun _ u => u = (.pointer (some ⟨b, 1, none⟩))), Tru, (fun _ u => u = (.pointer (some ⟨b, 3, none⟩))), Tru]) := (StbAll.cons (Stb.const _) (StbAll.cons (Stb.const _) (StbAll.cons (Stb.ex fun _ => Stb.ex fun _ => Stb.and (Stb.at strE_ok hrb (by omega) _)) (StbAll.cons (Stb.const _) (StbAll.cons (Stb.ex fun _ => Stb.ex fun _ => Stb.ex fun _ => Stb.ex fun _ => Stb.and (Stb.and (Stb.at gnQ_ok hrb (by omega) _))) (StbAll.cons (Stb.const _) (StbAll.cons Stb.tru (StbAll.cons (Stb.const _) (StbAll.cons Stb.tru (StbAll.cons (Stb.const _) (StbAll.cons Stb.tru StbAll.nil)))))))))))
 go_cut [] (fun wx => ∃ (a : ByteArray) (j : Nat) (c : Gn) (k : Nat) (u2 : Value) (u4 : Value), nameR R.l (i + 1) = .ok a j ∧ genR f R.l j = .ok c k ∧ Sv R v1 b d I0 wx k (.cells #[.int .i64 4, u2, .string noB, agc (u4) 0, agc (u4) 1, .slice none 0 0, .int .i64 0, .string noB, .string noB, .bool false, .slice none 0 0, .slice none 0 0, .int .i64 0, .int .i64 0, .slice none 0 0, .slice none 0 0, .slice none 0 0, .int .i64 tk.line, .int .i64 tk.col] 58 (0, 0)) ∧ StrE wx (fun q => v1.heap.size ≤ q) a u2 ∧ GnQ wx (fun q => v1.heap.size ≤ q) c u4)
 case first =>
  obtain ⟨Jx, hJx⟩ : ∃ Jx : (Nat → Bool) → (Nat → Value) → World → Prop, Jx = RJ R v1 b d I0 (fun (L : Nat → Bool) (ix : Nat) => cond (L 4) (∃ a j c, nameR R.l (i + 1) = .ok a j ∧ genR f R.l j = .ok c ix) (cond (L 2) (∃ a, nameR R.l (i + 1) = .ok a ix) (ix = (i + 1)))) (fun (L : Nat → Bool) (V : Nat → Value) => Obj.cells #[cond (L 6) (.int .i64 4) (.int .i64 0), cond (L 8) (V 2) (.string noB), .string noB, cond (L 10) (agc (V 4) 0) (.slice none 0 0), cond (L 10) (agc (V 4) 1) (.slice none 0 0), .slice none 0 0, .int .i64 0, .string noB, .string noB, .bool false, .slice none 0 0, .slice none 0 0, .int .i64 0, .int .i64 0, .slice none 0 0, .slice none 0 0, .slice none 0 0, .int .i64 tk.line, .int .i64 tk.col] 58 (0, 0)) [(fun _ u => u = (.pointer (some ⟨w.heap.size, 0, none⟩))), (fun _ u => u = (.pointer (some ⟨R.rb, 0, none⟩))), (fun X u => ∃ a j, nameR R.l (i + 1) = .ok a j ∧ StrE X (fun q => v1.heap.size ≤ q) a u), (fun _ u => u = (.agg #[.pointer (some ⟨R.rb, 0, none⟩)])), (fun X u => ∃ a j c k, nameR R.l (i + 1) = .ok a j ∧ genR f R.l j = .ok c k ∧ GnQ X (fun q => v1.heap.size ≤ q) c u), (fun _ u => u = (.pointer (some ⟨b, 0, none⟩))), Tru, (fun _ u => u = (.pointer (some ⟨b, 1, none⟩))), Tru, (fun _ u => u = (.pointer (some ⟨b, 3, none⟩))), Tru] [(4, 2), (8, 2), (10, 4)] := ⟨_, rfl⟩
  have HJX := Lib.hid hJx
  clear hJx
  refine wp_region_relyD (by kernel_rfl) (Jx) 11 rfl (by kernel_rfl) (by kernel_rfl) (by kernel_rfl) (by kernel_rfl) ?h0 ?hs ?hdone
  case h0 => rw [HJX.out]; exact RJ.zero HI0.out HSV27.out ((Step.refl _ _).drew) rfl
  case hs =>
   refine ⟨?_, ?_, ?_, ?_, ?_, ?_, ?_, ?_, ?_, ?_, ?_, trivial⟩
   ·intro L V X a ev evo hdf hL hdep hJ
    rw [HJX.out] at hJ
    have o1 := evo 1 rfl
    change a.tmps[1]?.getD undef = .pointer (some ⟨w.heap.size, 0, none⟩) at o1
    go_simp
    exact ⟨_, rfl, by rw [HJX.out]; exact hJ.up 0 _ rfl (np rfl) rfl rfl⟩
   ·intro L V X a ev evo hdf hL hdep hJ
    rw [HJX.out] at hJ
    have e68 := (ev 0 68 rfl (hdep 0 rfl)).trans (hJ.fs 0 (hdep 0 rfl))
    obtain ⟨i9, hv9, -⟩ := id hJ.sv
    have p0 := HKP.out X hv9.st
    clear hv9
    go_simp
    exact ⟨_, rfl, by rw [HJX.out]; exact hJ.up 1 _ rfl (np rfl) rfl rfl⟩
   ·intro L V X a ev evo hdf hL hdep hJ
    rw [HJX.out] at hJ
    have e69 := (ev 1 69 rfl (hdep 1 rfl)).trans (hJ.fs 1 (hdep 1 rfl))
    obtain ⟨i9, hv9, hr9⟩ := id hJ.sv
    rw [hJ.false_of 4 2 (by decide) hL, hL] at hr9
    have hr9 : i9 = (i + 1) := hr9
    rw [hr9] at hv9
    clear hr9
    go_simp
    refine (name_any R HL.out X (i + 1) d hv9.rd).mono ?_
    intro e wq hp
    cases hx : nameR R.l (i + 1) with
    | out => exact absurd hx (fun e => HNO.out (by rw [HE28.out, e]; rfl))
    | err cc ln col =>
     rw [hx] at hp
     obtain ⟨rfl, hs⟩ := hp
     exact ⟨hdf, PPost.of_err (c := cc) (ln := ln) (col := col) (by rw [HE28.out, hx]; rfl) rfl (HBK.out _ (hv9.err hs))⟩
    | ok c9 k9 =>
     rw [hx] at hp
     obtain ⟨⟨v, rfl, hv⟩, hr, hs⟩ := hp
     exact ⟨_, rfl, by rw [HJX.out]; exact hJ.call HI0.out HFL.out hrb 2 v hr hs ⟨_, _, hx, strE_ok.mono _ _ (fun q _ hq => by have := hv9.st.size; omega) (show StrE _ _ _ _ from hv)⟩ (np rfl) (by have e8 := hJ.false_of 8 2 (by decide) hL; change Obj.cells #[cond (L 6) (.int .i64 4) (.int .i64 0), cond (L 8) (_) (.string noB), .string noB, cond (L 10) (agc (V 4) 0) (.slice none 0 0), cond (L 10) (agc (V 4) 1) (.slice none 0 0), .slice none 0 0, .int .i64 0, .string noB, .string noB, .bool false, .slice none 0 0, .slice none 0 0, .int .i64 0, .int .i64 0, .slice none 0 0, .slice none 0 0, .slice none 0 0, .int .i64 tk.line, .int .i64 tk.col] 58 (0, 0) = Obj.cells #[cond (L 6) (.int .i64 4) (.int .i64 0), cond (L 8) (V 2) (.string noB), .string noB, cond (L 10) (agc (V 4) 0) (.slice none 0 0), cond (L 10) (agc (V 4) 1) (.slice none 0 0), .slice none 0 0, .int .i64 0, .string noB, .string noB, .bool false, .slice none 0 0, .slice none 0 0, .int .i64 0, .int .i64 0, .slice none 0 0, .slice none 0 0, .slice none 0 0, .int .i64 tk.line, .int .i64 tk.col] 58 (0, 0); rw [e8]; rfl) (by show cond (L 4) _ _; rw [hJ.false_of 4 2 (by decide) hL]; exact ⟨_, hx⟩)⟩
   ·intro L V X a ev evo hdf hL hdep hJ
    rw [HJX.out] at hJ
    have o1 := evo 1 rfl
    change a.tmps[1]?.getD undef = .pointer (some ⟨w.heap.size, 0, none⟩) at o1
    obtain ⟨i9, hv9, -⟩ := id hJ.sv
    have p0 := HKP.out X hv9.st
    clear hv9
    go_simp
    exact ⟨_, rfl, by rw [HJX.out]; exact hJ.up 3 _ rfl (np rfl) rfl rfl⟩
   ·intro L V X a ev evo hdf hL hdep hJ
    rw [HJX.out] at hJ
    have e71 := (ev 3 71 rfl (hdep 3 rfl)).trans (hJ.fs 3 (hdep 3 rfl))
    obtain ⟨i9, hv9, hr9⟩ := id hJ.sv
    rw [hL, hdep 2 rfl] at hr9
    obtain ⟨a9, h9⟩ : ∃ a, nameR R.l (i + 1) = .ok a i9 := hr9
    go_simp
    refine (gen_any f R X i9 d HL.out hv9.rd (fun e => HNO.out (by rw [HE28.out, h9, Res.bind_ok]; rw [e]; rfl))).mono ?_
    intro e wq hp
    cases hx : genR f R.l i9 with
    | out => exact absurd hx (fun e => HNO.out (by rw [HE28.out, h9, Res.bind_ok]; rw [e]; rfl))
    | err cc ln col =>
     rw [hx] at hp
     obtain ⟨rfl, hs⟩ := hp
     exact ⟨hdf, PPost.of_err (c := cc) (ln := ln) (col := col) (by rw [HE28.out, h9, Res.bind_ok]; rw [hx]; rfl) rfl (HBK.out _ (hv9.err hs))⟩
    | ok c9 k9 =>
     rw [hx] at hp
     obtain ⟨⟨v, rfl, hv⟩, hr, hs⟩ := hp
     exact ⟨_, rfl, by rw [HJX.out]; exact hJ.call HI0.out HFL.out hrb 4 v hr hs ⟨_, _, _, _, h9, hx, gnQ_ok.mono _ _ (fun q _ hq => by have := hv9.st.size; omega) (show GnQ _ _ _ _ from hv)⟩ (mc ⟨fun _ => hdep 2 rfl, (mc ⟨nd (by decide), (mc ⟨nd (by decide), (fun _ h => nomatch h)⟩)⟩)⟩) (by have e10 := hJ.false_of 10 4 (by decide) hL; change Obj.cells #[cond (L 6) (.int .i64 4) (.int .i64 0), cond (L 8) (V 2) (.string noB), .string noB, cond (L 10) (agc (_) 0) (.slice none 0 0), cond (L 10) (agc (_) 1) (.slice none 0 0), .slice none 0 0, .int .i64 0, .string noB, .string noB, .bool false, .slice none 0 0, .slice none 0 0, .int .i64 0, .int .i64 0, .slice none 0 0, .slice none 0 0, .slice none 0 0, .int .i64 tk.line, .int .i64 tk.col] 58 (0, 0) = Obj.cells #[cond (L 6) (.int .i64 4) (.int .i64 0), cond (L 8) (V 2) (.string noB), .string noB, cond (L 10) (agc (V 4) 0) (.slice none 0 0), cond (L 10) (agc (V 4) 1) (.slice none 0 0), .slice none 0 0, .int .i64 0, .string noB, .string noB, .bool false, .slice none 0 0, .slice none 0 0, .int .i64 0, .int .i64 0, .slice none 0 0, .slice none 0 0, .slice none 0 0, .int .i64 tk.line, .int .i64 tk.col] 58 (0, 0); rw [e10]; rfl) ⟨_, _, _, h9, hx⟩⟩
   ·intro L V X a ev evo hdf hL hdep hJ
    rw [HJX.out] at hJ
    have o3 := evo 3 rfl
    change a.tmps[3]?.getD undef = .pointer (some ⟨b, 0, none⟩) at o3
    go_simp
    exact ⟨_, rfl, by rw [HJX.out]; exact hJ.up 5 _ rfl (np rfl) rfl rfl⟩
   ·intro L V X a ev evo hdf hL hdep hJ
    rw [HJX.out] at hJ
    have e73 := (ev 5 73 rfl (hdep 5 rfl)).trans (hJ.fs 5 (hdep 5 rfl))
    obtain ⟨i9, hv9, -⟩ := id hJ.sv
    have hb9 := hv9.blk
    have ecell : ∃ v, X.cell? ⟨b, 0, none⟩ = some v := ⟨_, blk_cell hb9 0 _ rfl⟩
    obtain ⟨vc, hvc⟩ := ecell
    have hfz := blk_free hb9 0
    go_simp
    exact ⟨undef, by rw [HJX.out]; exact hJ.put HI0.out HFL.out hrb 6 undef ((Step.refl _ _).setCell _ _ (fun _ => rfl)) (blk_set hb9 0 (.int .i64 4)) rfl (np rfl) rfl⟩
   ·intro L V X a ev evo hdf hL hdep hJ
    rw [HJX.out] at hJ
    have o3 := evo 3 rfl
    change a.tmps[3]?.getD undef = .pointer (some ⟨b, 0, none⟩) at o3
    go_simp
    exact ⟨_, rfl, by rw [HJX.out]; exact hJ.up 7 _ rfl (np rfl) rfl rfl⟩
   ·intro L V X a ev evo hdf hL hdep hJ
    rw [HJX.out] at hJ
    have e74 := (ev 7 74 rfl (hdep 7 rfl)).trans (hJ.fs 7 (hdep 7 rfl))
    obtain ⟨i9, hv9, -⟩ := id hJ.sv
    have hb9 := hv9.blk
    obtain ⟨a8, j8, h8, hV⟩ := hJ.fs 2 (hdep 2 rfl)
    have hV : V 2 = .string a8 := hV
    have e70 := (ev 2 70 rfl (hdep 2 rfl)).trans hV
    have ecell : ∃ v, X.cell? ⟨b, 1, none⟩ = some v := ⟨_, blk_cell hb9 1 _ rfl⟩
    obtain ⟨vc, hvc⟩ := ecell
    have hfz := blk_free hb9 1
    have hx : (X.setCell ⟨b, 1, none⟩ (V 2)).heap[b]? = _ := blk_set hb9 1 (V 2)
    rw [hV] at hx
    have hxx := hx
    go_simp
    exact ⟨undef, by rw [HJX.out]; exact hJ.put HI0.out HFL.out hrb 8 undef ((Step.refl _ _).setCell _ _ (fun _ => rfl)) (by rw [← hV]; exact blk_set hb9 1 (V 2)) rfl (mc ⟨nd (by decide), (mc ⟨fun _ => hdep 2 rfl, (mc ⟨nd (by decide), (fun _ h => nomatch h)⟩)⟩)⟩) rfl⟩
   ·intro L V X a ev evo hdf hL hdep hJ
    rw [HJX.out] at hJ
    have o3 := evo 3 rfl
    change a.tmps[3]?.getD undef = .pointer (some ⟨b, 0, none⟩) at o3
    go_simp
    exact ⟨_, rfl, by rw [HJX.out]; exact hJ.up 9 _ rfl (np rfl) rfl rfl⟩
   ·intro L V X a ev evo hdf hL hdep hJ
    rw [HJX.out] at hJ
    have e75 := (ev 9 75 rfl (hdep 9 rfl)).trans (hJ.fs 9 (hdep 9 rfl))
    obtain ⟨i9, hv9, -⟩ := id hJ.sv
    have hb9 := hv9.blk
    obtain ⟨a8, j8, c8, k8, h8, h7, h6⟩ := hJ.fs 4 (hdep 4 rfl)
    obtain ⟨ga1, gc1, ga2, gc2, hV⟩ := GnQ.parts h6
    have e72 := (ev 4 72 rfl (hdep 4 rfl)).trans hV
    refine wp_store_part 50 (.tmp 75) (.tmp 72) rfl b 3 58 _ [.slice ga1 c8.lifes.length gc1, .slice ga2 c8.types.length gc2] (by rw [evalTmp]; exact e75) (by rw [evalTmp]; exact e72) hb9 Try.sizeGenerics (show 3 + 2 ≤ 19 by decide) (oneCells rfl) ?_
    intro w9 hb8 hs8
    exact ⟨undef, rfl, by rw [HJX.out]; exact hJ.put HI0.out HFL.out hrb 10 undef hs8 (by rw [hb8]; show _ = some (Obj.cells #[cond (updL L 10 6) (.int .i64 4) (.int .i64 0), cond (updL L 10 8) (V 2) (.string noB), .string noB, cond (updL L 10 10) (agc (V 4) 0) (.slice none 0 0), cond (updL L 10 10) (agc (V 4) 1) (.slice none 0 0), .slice none 0 0, .int .i64 0, .string noB, .string noB, .bool false, .slice none 0 0, .slice none 0 0, .int .i64 0, .int .i64 0, .slice none 0 0, .slice none 0 0, .slice none 0 0, .int .i64 tk.line, .int .i64 tk.col] 58 (0, 0)); rw [hV]; rfl) rfl (mc ⟨nd (by decide), (mc ⟨nd (by decide), (mc ⟨fun _ => hdep 4 rfl, (fun _ h => nomatch h)⟩)⟩)⟩) rfl⟩
  case hdone =>
   intro L V X hall hJ
   rw [HJX.out] at hJ
   obtain ⟨i9, hv9, hr9⟩ := hJ.sv
   rw [hall 4 (by decide)] at hr9
   obtain ⟨a9, j9, c9, h91, h92⟩ : ∃ a j c, nameR R.l (i + 1) = .ok a j ∧ genR f R.l j = .ok c i9 := hr9
   have f2 := hJ.fs 2 (hall 2 (by decide))
   obtain ⟨a8, j8, h81, g2⟩ := f2
   rw [h91] at h81
   cases h81
   have f4 := hJ.fs 4 (hall 4 (by decide))
   obtain ⟨a8, j8, c8, k8, h81, h82, g4⟩ := f4
   rw [h91] at h81
   cases h81
   rw [h92] at h82
   cases h82
   have hv9 : Sv R v1 b d I0 X i9 (Obj.cells #[.int .i64 4, V 2, .string noB, agc (V 4) 0, agc (V 4) 1, .slice none 0 0, .int .i64 0, .string noB, .string noB, .bool false, .slice none 0 0, .slice none 0 0, .int .i64 0, .int .i64 0, .slice none 0 0, .slice none 0 0, .slice none 0 0, .int .i64 tk.line, .int .i64 tk.col] 58 (0, 0)) := by
    have h := hv9
    rw [hall 6 (by decide), hall 8 (by decide), hall 10 (by decide)] at h
    exact h
   have HEND := Lib.hid hv9
   have HG2 := Lib.hid g2
   have HG4 := Lib.hid g4
   have H91 := Lib.hid h91
   have H92 := Lib.hid h92
   rw [show List.range 11 = [0, 1, 2, 3, 4, 5, 6, 7, 8, 9, 10] from rfl]
   simp only [putF, dstO, List.getElem?_toArray, List.getElem?_cons_zero, List.getElem?_cons_succ, Option.bind_some, Act.put, List.setIfInBounds_toArray, List.set_cons_zero, List.set_cons_succ]
   clear hJ hall hv9 h91 h92 g2 g4
   go_wp2_with fail
   go_meet
   case rel => exact ⟨a9, j9, c9, i9, V 2, V 4, H91.out, H92.out, HEND.out, HG2.out, HG4.out⟩
 case rest =>
  obtain ⟨a29, j29, c29, k29, u2, u4, hn1, hn2, hsv, hg2, hg4⟩ := hcut
  obtain ⟨w29, rfl⟩ : ∃ w29 : World, w29 = wc := ⟨_, rfl⟩
  have hg2e : u2 = .string a29 := hg2
  subst hg2e
  have HN1 := Lib.hid hn1
  have HN2 := Lib.hid hn2
  have HNM29 := Lib.hid (nameR_size HL.out HSV27.out.rd.lt hn1)
  obtain ⟨ga1, gc1, ga2, gc2, rfl⟩ := GnQ.parts hg4
  have HSVx : Hid (Sv R v1 b d I0 w29 k29 (.cells #[.int .i64 4, .string a29, .string noB, .slice ga1 c29.lifes.length gc1, .slice ga2 c29.types.length gc2, .slice none 0 0, .int .i64 0, .string noB, .string noB, .bool false, .slice none 0 0, .slice none 0 0, .int .i64 0, .int .i64 0, .slice none 0 0, .slice none 0 0, .slice none 0 0, .int .i64 tk.line, .int .i64 tk.col] 58 (0, 0))) := hsv
  obtain ⟨I29, hI29, hF29, hsv29⟩ := HSVx.out.keep HI0.out (J := fun X => GnQ X (fun q => v1.heap.size ≤ q) c29 (.agg #[.slice ga1 c29.lifes.length gc1, .slice ga2 c29.types.length gc2])) (Stab.at gnQ_ok hrb (by omega) _ _) (hg4)
  have HI29 := Lib.hid hI29
  have HF29 := Lib.hid hF29
  have HSV29 := Lib.hid hsv29
  clear hI29 hF29 hsv29
  clear hn1 hn2 hsv hg2 hg4
  have HE30 : Hid (r = (needR R.l k29 [40]).bind fun _ j => (paramsR f R.l j d [41] 8).bind fun fs j => (retR f R.l j d).bind fun t j => (whereR f R.l j).bind fun wh j => (blockR f R.l j d).bind fun b j => .ok (itMk 4 a29 noB c29 fs t wh [] b tk) j) := by show _ = _; rw [HE28.out, HN1.out, Res.bind_ok]; rw [HN2.out]; rfl
  have p0 := HKP.out w29 HSV29.out.st
  go_wp2_with fail
  refine (need_any R HL.out w29.heap.size ⟨#[40]⟩ _ k29 d (HSV29.out.rd.quiet ((Step.refl _ _).alloc _)) (by decide) (blk_cell (blk_new _ _) 0 _ rfl)).mono ?_
  rintro e v31 hp
  have hp2 : PPost R d UnitV (needR R.l k29 [40]) _ e v31 := hp
  cases hn : needR R.l k29 [40] with
  | out => exact (needR_out hn).elim
  | err c ln col =>
   rw [hn] at hp2
   obtain ⟨rfl, hs⟩ := hp2
   refine ⟨rfl, PPost.of_err (c := c) (ln := ln) (col := col) (by rw [HE30.out, hn]; rfl) rfl (HBK.out _ (HSV29.out.err (((Step.refl (· = R.rb) _).alloc _).trans hs)))⟩
  | ok u31 j31 =>
   have HN31 := Lib.hid hn
   rw [hn] at hp2
   obtain ⟨⟨v, rfl, rfl⟩, hr, hs⟩ := hp2
   have HSV31 := Lib.hid (HSV29.out.read HI29.out hrb hr (((Step.refl (· = R.rb) _).alloc _).trans hs))
   clear hn hr hs hp p0
   have HE32 : Hid (r = (paramsR f R.l j31 d [41] 8).bind fun fs j => (retR f R.l j d).bind fun t j => (whereR f R.l j).bind fun wh j => (blockR f R.l j d).bind fun b j => .ok (itMk 4 a29 noB c29 fs t wh [] b tk) j) := by show _ = _; rw [HE30.out, HN31.out]; rfl
   have p0 := HKP.out v31 HSV31.out.st
   go_wp2_with fail
   refine (params_any f (fun f' hf => IHT.out f' (by omega)) R _ j31 d ⟨#[41]⟩ 8 HL.out HSV31.out.rd hd (by decide) (by decide) (fun e => HNO.out (by rw [HE32.out]; exact congrArg (fun q => Res.bind q _) e))).mono ?_
   rintro e v33 hp
   have hp2 : PPost R d (PmsV v31.heap.size) (paramsR f R.l j31 d [41] 8) _ e v33 := hp
   cases hn : paramsR f R.l j31 d [41] 8 with
   | out => exact absurd (by rw [HE32.out, hn]; rfl) HNO.out
   | err c ln col =>
    rw [hn] at hp2
    obtain ⟨rfl, hs⟩ := hp2
    refine ⟨rfl, PPost.of_err (c := c) (ln := ln) (col := col) (by rw [HE32.out, hn]; rfl) rfl (HBK.out _ (HSV31.out.err hs))⟩
   | ok a33 j33 =>
    have HN33 := Lib.hid hn
    rw [hn] at hp2
    obtain ⟨⟨v, rfl, hv⟩, hr, hs⟩ := hp2
    obtain ⟨la33, lc33, rfl⟩ := LsQ.parts hv
    obtain ⟨I33, hI33, hF33, hsv33⟩ := HSV31.out.got (lsQ_ok pmP_ok) HI29.out hrb (by omega) hr hs (At := (LsQ PmP)) hv
    have HI33 := Lib.hid hI33
    have HF33 := Lib.hid hF33
    have HSV33 := Lib.hid hsv33
    clear hn hr hs hp hv hI33 hF33 hsv33 p0
    have HE34 : Hid (r = (retR f R.l j33 d).bind fun t j => (whereR f R.l j).bind fun wh j => (blockR f R.l j d).bind fun b j => .ok (itMk 4 a29 noB c29 a33 t wh [] b tk) j) := by show _ = _; rw [HE32.out, HN33.out]; rfl
    have p0 := HKP.out v33 HSV33.out.st
    have bt5 := blk_cell HSV33.out.blk 5 _ rfl
    have bz5 := blk_free HSV33.out.blk 5
    obtain ⟨v35, hv35⟩ : ∃ v35 : World, v35 = (v33.setCell ⟨b, 5, none⟩ (.slice la33 a33.length lc33)) := ⟨_, rfl⟩
    have HSV35 : Hid (Sv R v1 b d I33 v35 j33 (.cells #[.int .i64 4, .string a29, .string noB, .slice ga1 c29.lifes.length gc1, .slice ga2 c29.types.length gc2, .slice la33 a33.length lc33, .int .i64 0, .string noB, .string noB, .bool false, .slice none 0 0, .slice none 0 0, .int .i64 0, .int .i64 0, .slice none 0 0, .slice none 0 0, .slice none 0 0, .int .i64 tk.line, .int .i64 tk.col] 58 (0, 0))) := by show Sv _ _ _ _ _ _ _ _; rw [hv35]; exact (HSV33.out.set HI33.out hrb 5 (.slice la33 a33.length lc33))
    go_upto_region 18 with fail
    rw [← hv35]
    clear hv35 p0 bt5 bz5
    have p0 := HKP.out v35 HSV35.out.st
    clear p0 HN1 HN2
    have HFL : Hid (StbAll R b v1.heap.size [(fun _ u => u = (.agg #[.pointer (some ⟨R.rb, 0, none⟩)])), (fun X u => ∃ a j, retR f R.l j33 d = .ok a j ∧ TyQ X (fun q => v1.heap.size ≤ q) a u), (fun _ u => u = (.agg #[.pointer (some ⟨R.rb, 0, none⟩)])), (fun X u => ∃ a j c k, retR f R.l j33 d = .ok a j ∧ whereR f R.l j = .ok c k ∧ (LsQ BdP) X (fun q => v1.heap.size ≤ q) c u), (fun _ u => u = (.pointer (some ⟨b, 6, none⟩))), Tru, (fun _ u => u = (.pointer (some ⟨b, 14, none⟩))), Tru]) := (StbAll.cons (Stb.const _) (StbAll.cons (Stb.ex fun _ => Stb.ex fun _ => Stb.and (Stb.at tyQ_ok hrb (by omega) _)) (StbAll.cons (Stb.const _) (StbAll.cons (Stb.ex fun _ => Stb.ex fun _ => Stb.ex fun _ => Stb.ex fun _ => Stb.and (Stb.and (Stb.at (lsQ_ok bdP_ok) hrb (by omega) _))) (StbAll.cons (Stb.const _) (StbAll.cons Stb.tru (StbAll.cons (Stb.const _) (StbAll.cons Stb.tru StbAll.nil))))))))
    go_cut [] (fun wx => ∃ (a : Ty) (j : Nat) (c : List Bd) (k : Nat) (u1 : Value) (u3 : Value), retR f R.l j33 d = .ok a j ∧ whereR f R.l j = .ok c k ∧ Sv R v1 b d I33 wx k (.cells #[.int .i64 4, .string a29, .string noB, .slice ga1 c29.lifes.length gc1, .slice ga2 c29.types.length gc2, .slice la33 a33.length lc33, agc (u1) 0, agc (u1) 1, agc (u1) 2, agc (u1) 3, agc (u1) 4, agc (u1) 5, agc (u1) 6, agc (u1) 7, u3, .slice none 0 0, .slice none 0 0, .int .i64 tk.line, .int .i64 tk.col] 58 (0, 0)) ∧ TyQ wx (fun q => v1.heap.size ≤ q) a u1 ∧ (LsQ BdP) wx (fun q => v1.heap.size ≤ q) c u3)
    case first =>
     obtain ⟨Jx, hJx⟩ : ∃ Jx : (Nat → Bool) → (Nat → Value) → World → Prop, Jx = RJ R v1 b d I33 (fun (L : Nat → Bool) (ix : Nat) => cond (L 3) (∃ a j c, retR f R.l j33 d = .ok a j ∧ whereR f R.l j = .ok c ix) (cond (L 1) (∃ a, retR f R.l j33 d = .ok a ix) (ix = j33))) (fun (L : Nat → Bool) (V : Nat → Value) => Obj.cells #[.int .i64 4, .string a29, .string noB, .slice ga1 c29.lifes.length gc1, .slice ga2 c29.types.length gc2, .slice la33 a33.length lc33, cond (L 5) (agc (V 1) 0) (.int .i64 0), cond (L 5) (agc (V 1) 1) (.string noB), cond (L 5) (agc (V 1) 2) (.string noB), cond (L 5) (agc (V 1) 3) (.bool false), cond (L 5) (agc (V 1) 4) (.slice none 0 0), cond (L 5) (agc (V 1) 5) (.slice none 0 0), cond (L 5) (agc (V 1) 6) (.int .i64 0), cond (L 5) (agc (V 1) 7) (.int .i64 0), cond (L 7) (V 3) (.slice none 0 0), .slice none 0 0, .slice none 0 0, .int .i64 tk.line, .int .i64 tk.col] 58 (0, 0)) [(fun _ u => u = (.agg #[.pointer (some ⟨R.rb, 0, none⟩)])), (fun X u => ∃ a j, retR f R.l j33 d = .ok a j ∧ TyQ X (fun q => v1.heap.size ≤ q) a u), (fun _ u => u = (.agg #[.pointer (some ⟨R.rb, 0, none⟩)])), (fun X u => ∃ a j c k, retR f R.l j33 d = .ok a j ∧ whereR f R.l j = .ok c k ∧ (LsQ BdP) X (fun q => v1.heap.size ≤ q) c u), (fun _ u => u = (.pointer (some ⟨b, 6, none⟩))), Tru, (fun _ u => u = (.pointer (some ⟨b, 14, none⟩))), Tru] [(3, 1), (5, 1), (7, 3)] := ⟨_, rfl⟩
     have HJX := Lib.hid hJx
     clear hJx
     refine wp_region_relyD (by kernel_rfl) (Jx) 8 rfl (by kernel_rfl) (by kernel_rfl) (by kernel_rfl) (by kernel_rfl) ?h0 ?hs ?hdone
     case h0 => rw [HJX.out]; exact RJ.zero HI33.out HSV35.out ((Step.refl _ _).drew) rfl
     case hs =>
      refine ⟨?_, ?_, ?_, ?_, ?_, ?_, ?_, ?_, trivial⟩
      ·intro L V X a ev evo hdf hL hdep hJ
       rw [HJX.out] at hJ
       have o1 := evo 1 rfl
       change a.tmps[1]?.getD undef = .pointer (some ⟨w.heap.size, 0, none⟩) at o1
       obtain ⟨i9, hv9, -⟩ := id hJ.sv
       have p0 := HKP.out X hv9.st
       clear hv9
       go_simp
       exact ⟨_, rfl, by rw [HJX.out]; exact hJ.up 0 _ rfl (np rfl) rfl rfl⟩
      ·intro L V X a ev evo hdf hL hdep hJ
       rw [HJX.out] at hJ
       have e83 := (ev 0 83 rfl (hdep 0 rfl)).trans (hJ.fs 0 (hdep 0 rfl))
       obtain ⟨i9, hv9, hr9⟩ := id hJ.sv
       rw [hJ.false_of 3 1 (by decide) hL, hL] at hr9
       have hr9 : i9 = j33 := hr9
       rw [hr9] at hv9
       clear hr9
       go_simp
       refine (ret_any f (IHT.out f (Nat.le_refl _)) R X j33 d HL.out hv9.rd hd (fun e => HNO.out (by rw [HE34.out, e]; rfl))).mono ?_
       intro e wq hp
       cases hx : retR f R.l j33 d with
       | out => exact absurd hx (fun e => HNO.out (by rw [HE34.out, e]; rfl))
       | err cc ln col =>
        rw [hx] at hp
        obtain ⟨rfl, hs⟩ := hp
        exact ⟨hdf, PPost.of_err (c := cc) (ln := ln) (col := col) (by rw [HE34.out, hx]; rfl) rfl (HBK.out _ (hv9.err hs))⟩
       | ok c9 k9 =>
        rw [hx] at hp
        obtain ⟨⟨v, rfl, hv⟩, hr, hs⟩ := hp
        exact ⟨_, rfl, by rw [HJX.out]; exact hJ.call HI33.out HFL.out hrb 1 v hr hs ⟨_, _, hx, tyQ_ok.mono _ _ (fun q _ hq => by have := hv9.st.size; omega) (show TyQ _ _ _ _ from hv)⟩ (np rfl) (by have e5 := hJ.false_of 5 1 (by decide) hL; change Obj.cells #[.int .i64 4, .string a29, .string noB, .slice ga1 c29.lifes.length gc1, .slice ga2 c29.types.length gc2, .slice la33 a33.length lc33, cond (L 5) (agc (_) 0) (.int .i64 0), cond (L 5) (agc (_) 1) (.string noB), cond (L 5) (agc (_) 2) (.string noB), cond (L 5) (agc (_) 3) (.bool false), cond (L 5) (agc (_) 4) (.slice none 0 0), cond (L 5) (agc (_) 5) (.slice none 0 0), cond (L 5) (agc (_) 6) (.int .i64 0), cond (L 5) (agc (_) 7) (.int .i64 0), cond (L 7) (V 3) (.slice none 0 0), .slice none 0 0, .slice none 0 0, .int .i64 tk.line, .int .i64 tk.col] 58 (0, 0) = Obj.cells #[.int .i64 4, .string a29, .string noB, .slice ga1 c29.lifes.length gc1, .slice ga2 c29.types.length gc2, .slice la33 a33.length lc33, cond (L 5) (agc (V 1) 0) (.int .i64 0), cond (L 5) (agc (V 1) 1) (.string noB), cond (L 5) (agc (V 1) 2) (.string noB), cond (L 5) (agc (V 1) 3) (.bool false), cond (L 5) (agc (V 1) 4) (.slice none 0 0), cond (L 5) (agc (V 1) 5) (.slice none 0 0), cond (L 5) (agc (V 1) 6) (.int .i64 0), cond (L 5) (agc (V 1) 7) (.int .i64 0), cond (L 7) (V 3) (.slice none 0 0), .slice none 0 0, .slice none 0 0, .int .i64 tk.line, .int .i64 tk.col] 58 (0, 0); rw [e5]; rfl) (by show cond (L 3) _ _; rw [hJ.false_of 3 1 (by decide) hL]; exact ⟨_, hx⟩)⟩
      ·intro L V X a ev evo hdf hL hdep hJ
       rw [HJX.out] at hJ
       have o1 := evo 1 rfl
       change a.tmps[1]?.getD undef = .pointer (some ⟨w.heap.size, 0, none⟩) at o1
       obtain ⟨i9, hv9, -⟩ := id hJ.sv
       have p0 := HKP.out X hv9.st
       clear hv9
       go_simp
       exact ⟨_, rfl, by rw [HJX.out]; exact hJ.up 2 _ rfl (np rfl) rfl rfl⟩
      ·intro L V X a ev evo hdf hL hdep hJ
       rw [HJX.out] at hJ
       have e85 := (ev 2 85 rfl (hdep 2 rfl)).trans (hJ.fs 2 (hdep 2 rfl))
       obtain ⟨i9, hv9, hr9⟩ := id hJ.sv
       rw [hL, hdep 1 rfl] at hr9
       obtain ⟨a9, h9⟩ : ∃ a, retR f R.l j33 d = .ok a i9 := hr9
       go_simp
       refine (where_any f R X i9 d HL.out hv9.rd (fun e => HNO.out (by rw [HE34.out, h9, Res.bind_ok]; rw [e]; rfl))).mono ?_
       intro e wq hp
       cases hx : whereR f R.l i9 with
       | out => exact absurd hx (fun e => HNO.out (by rw [HE34.out, h9, Res.bind_ok]; rw [e]; rfl))
       | err cc ln col =>
        rw [hx] at hp
        obtain ⟨rfl, hs⟩ := hp
        exact ⟨hdf, PPost.of_err (c := cc) (ln := ln) (col := col) (by rw [HE34.out, h9, Res.bind_ok]; rw [hx]; rfl) rfl (HBK.out _ (hv9.err hs))⟩
       | ok c9 k9 =>
        rw [hx] at hp
        obtain ⟨⟨v, rfl, hv⟩, hr, hs⟩ := hp
        exact ⟨_, rfl, by rw [HJX.out]; exact hJ.call HI33.out HFL.out hrb 3 v hr hs ⟨_, _, _, _, h9, hx, (lsQ_ok bdP_ok).mono _ _ (fun q _ hq => by have := hv9.st.size; omega) (show (LsQ BdP) _ _ _ _ from hv)⟩ (mc ⟨fun _ => hdep 1 rfl, (mc ⟨nd (by decide), (mc ⟨nd (by decide), (fun _ h => nomatch h)⟩)⟩)⟩) (by have e7 := hJ.false_of 7 3 (by decide) hL; change Obj.cells #[.int .i64 4, .string a29, .string noB, .slice ga1 c29.lifes.length gc1, .slice ga2 c29.types.length gc2, .slice la33 a33.length lc33, cond (L 5) (agc (V 1) 0) (.int .i64 0), cond (L 5) (agc (V 1) 1) (.string noB), cond (L 5) (agc (V 1) 2) (.string noB), cond (L 5) (agc (V 1) 3) (.bool false), cond (L 5) (agc (V 1) 4) (.slice none 0 0), cond (L 5) (agc (V 1) 5) (.slice none 0 0), cond (L 5) (agc (V 1) 6) (.int .i64 0), cond (L 5) (agc (V 1) 7) (.int .i64 0), cond (L 7) (_) (.slice none 0 0), .slice none 0 0, .slice none 0 0, .int .i64 tk.line, .int .i64 tk.col] 58 (0, 0) = Obj.cells #[.int .i64 4, .string a29, .string noB, .slice ga1 c29.lifes.length gc1, .slice ga2 c29.types.length gc2, .slice la33 a33.length lc33, cond (L 5) (agc (V 1) 0) (.int .i64 0), cond (L 5) (agc (V 1) 1) (.string noB), cond (L 5) (agc (V 1) 2) (.string noB), cond (L 5) (agc (V 1) 3) (.bool false), cond (L 5) (agc (V 1) 4) (.slice none 0 0), cond (L 5) (agc (V 1) 5) (.slice none 0 0), cond (L 5) (agc (V 1) 6) (.int .i64 0), cond (L 5) (agc (V 1) 7) (.int .i64 0), cond (L 7) (V 3) (.slice none 0 0), .slice none 0 0, .slice none 0 0, .int .i64 tk.line, .int .i64 tk.col] 58 (0, 0); rw [e7]; rfl) ⟨_, _, _, h9, hx⟩⟩
      ·intro L V X a ev evo hdf hL hdep hJ
       rw [HJX.out] at hJ
       have o3 := evo 3 rfl
       change a.tmps[3]?.getD undef = .pointer (some ⟨b, 0, none⟩) at o3
       go_simp
       exact ⟨_, rfl, by rw [HJX.out]; exact hJ.up 4 _ rfl (np rfl) rfl rfl⟩
      ·intro L V X a ev evo hdf hL hdep hJ
       rw [HJX.out] at hJ
       have e87 := (ev 4 87 rfl (hdep 4 rfl)).trans (hJ.fs 4 (hdep 4 rfl))
       obtain ⟨i9, hv9, -⟩ := id hJ.sv
       have hb9 := hv9.blk
       obtain ⟨a8, j8, h8, ct8, h6, h7⟩ := hJ.fs 1 (hdep 1 rfl)
       obtain ⟨tk0, tn0, tl0, tm0, ta1, tn1, tc1, ta2, tn2, tc2, tl1, tc3, hct⟩ := TyP.parts h7
       rw [hct] at h6
       have hV : V 1 = .agg #[.int .i64 tk0, .string tn0, .string tl0, .bool tm0, .slice ta1 tn1 tc1, .slice ta2 tn2 tc2, .int .i64 tl1, .int .i64 tc3] := h6
       have e84 := (ev 1 84 rfl (hdep 1 rfl)).trans hV
       refine wp_store_part 54 (.tmp 87) (.tmp 84) rfl b 6 58 _ [.int .i64 tk0, .string tn0, .string tl0, .bool tm0, .slice ta1 tn1 tc1, .slice ta2 tn2 tc2, .int .i64 tl1, .int .i64 tc3] (by rw [evalTmp]; exact e87) (by rw [evalTmp]; exact e84) hb9 Try.sizeWType (show 6 + 8 ≤ 19 by decide) (oneCells rfl) ?_
       intro w9 hb8 hs8
       exact ⟨undef, rfl, by rw [HJX.out]; exact hJ.put HI33.out HFL.out hrb 5 undef hs8 (by rw [hb8]; show _ = some (Obj.cells #[.int .i64 4, .string a29, .string noB, .slice ga1 c29.lifes.length gc1, .slice ga2 c29.types.length gc2, .slice la33 a33.length lc33, cond (updL L 5 5) (agc (V 1) 0) (.int .i64 0), cond (updL L 5 5) (agc (V 1) 1) (.string noB), cond (updL L 5 5) (agc (V 1) 2) (.string noB), cond (updL L 5 5) (agc (V 1) 3) (.bool false), cond (updL L 5 5) (agc (V 1) 4) (.slice none 0 0), cond (updL L 5 5) (agc (V 1) 5) (.slice none 0 0), cond (updL L 5 5) (agc (V 1) 6) (.int .i64 0), cond (updL L 5 5) (agc (V 1) 7) (.int .i64 0), cond (updL L 5 7) (V 3) (.slice none 0 0), .slice none 0 0, .slice none 0 0, .int .i64 tk.line, .int .i64 tk.col] 58 (0, 0)); rw [hV]; rfl) rfl (mc ⟨nd (by decide), (mc ⟨fun _ => hdep 1 rfl, (mc ⟨nd (by decide), (fun _ h => nomatch h)⟩)⟩)⟩) rfl⟩
      ·intro L V X a ev evo hdf hL hdep hJ
       rw [HJX.out] at hJ
       have o3 := evo 3 rfl
       change a.tmps[3]?.getD undef = .pointer (some ⟨b, 0, none⟩) at o3
       go_simp
       exact ⟨_, rfl, by rw [HJX.out]; exact hJ.up 6 _ rfl (np rfl) rfl rfl⟩
      ·intro L V X a ev evo hdf hL hdep hJ
       rw [HJX.out] at hJ
       have e88 := (ev 6 88 rfl (hdep 6 rfl)).trans (hJ.fs 6 (hdep 6 rfl))
       obtain ⟨i9, hv9, -⟩ := id hJ.sv
       have hb9 := hv9.blk
       obtain ⟨a8, j8, c8, k8, h8, h7, xs8, hr8, -⟩ := hJ.fs 3 (hdep 3 rfl)
       obtain ⟨g8, n8, hV⟩ := hr8.parts
       have e86 := (ev 3 86 rfl (hdep 3 rfl)).trans hV
       have ecell : ∃ v, X.cell? ⟨b, 14, none⟩ = some v := ⟨_, blk_cell hb9 14 _ rfl⟩
       obtain ⟨vc, hvc⟩ := ecell
       have hfz := blk_free hb9 14
       have hx : (X.setCell ⟨b, 14, none⟩ (V 3)).heap[b]? = _ := blk_set hb9 14 (V 3)
       rw [hV] at hx
       have hxx := hx
       go_simp
       exact ⟨undef, by rw [HJX.out]; exact hJ.put HI33.out HFL.out hrb 7 undef ((Step.refl _ _).setCell _ _ (fun _ => rfl)) (by rw [← hV]; exact blk_set hb9 14 (V 3)) rfl (mc ⟨nd (by decide), (mc ⟨nd (by decide), (mc ⟨fun _ => hdep 3 rfl, (fun _ h => nomatch h)⟩)⟩)⟩) rfl⟩
     case hdone =>
      intro L V X hall hJ
      rw [HJX.out] at hJ
      obtain ⟨i9, hv9, hr9⟩ := hJ.sv
      rw [hall 3 (by decide)] at hr9
      obtain ⟨a9, j9, c9, h91, h92⟩ : ∃ a j c, retR f R.l j33 d = .ok a j ∧ whereR f R.l j = .ok c i9 := hr9
      have f1 := hJ.fs 1 (hall 1 (by decide))
      obtain ⟨a8, j8, h81, g1⟩ := f1
      rw [h91] at h81
      cases h81
      have f3 := hJ.fs 3 (hall 3 (by decide))
      obtain ⟨a8, j8, c8, k8, h81, h82, g3⟩ := f3
      rw [h91] at h81
      cases h81
      rw [h92] at h82
      cases h82
      have hv9 : Sv R v1 b d I33 X i9 (Obj.cells #[.int .i64 4, .string a29, .string noB, .slice ga1 c29.lifes.length gc1, .slice ga2 c29.types.length gc2, .slice la33 a33.length lc33, agc (V 1) 0, agc (V 1) 1, agc (V 1) 2, agc (V 1) 3, agc (V 1) 4, agc (V 1) 5, agc (V 1) 6, agc (V 1) 7, V 3, .slice none 0 0, .slice none 0 0, .int .i64 tk.line, .int .i64 tk.col] 58 (0, 0)) := by
       have h := hv9
       rw [hall 5 (by decide), hall 7 (by decide)] at h
       exact h
      have HEND := Lib.hid hv9
      have HG1 := Lib.hid g1
      have HG3 := Lib.hid g3
      have H91 := Lib.hid h91
      have H92 := Lib.hid h92
      rw [show List.range 8 = [0, 1, 2, 3, 4, 5, 6, 7] from rfl]
      simp only [putF, dstO, List.getElem?_toArray, List.getElem?_cons_zero, List.getElem?_cons_succ, Option.bind_some, Act.put, List.setIfInBounds_toArray, List.set_cons_zero, List.set_cons_succ]
      clear hJ hall hv9 h91 h92 g1 g3
      go_wp2_with fail
      go_meet
      case rel => exact ⟨a9, j9, c9, i9, V 1, V 3, H91.out, H92.out, HEND.out, HG1.out, HG3.out⟩
    case rest =>
     obtain ⟨a36, j36, c36, k36, u1, u3, hn1, hn2, hsv, hg1, hg3⟩ := hcut
     obtain ⟨w36, rfl⟩ : ∃ w36 : World, w36 = wc := ⟨_, rfl⟩
     obtain ⟨ct, rfl, hty⟩ := hg1
     obtain ⟨tk0, tn0, tl0, tm0, ta1, tn1, tc1, ta2, tn2, tc2, tl1, tc3, rfl⟩ := hty.parts
     obtain ⟨wa, wc9, rfl⟩ := LsQ.parts hg3
     have hg1 : TyQ _ _ _ _ := ⟨_, rfl, hty⟩
     have HSVx : Hid (Sv R v1 b d I33 w36 k36 (.cells #[.int .i64 4, .string a29, .string noB, .slice ga1 c29.lifes.length gc1, .slice ga2 c29.types.length gc2, .slice la33 a33.length lc33, .int .i64 tk0, .string tn0, .string tl0, .bool tm0, .slice ta1 tn1 tc1, .slice ta2 tn2 tc2, .int .i64 tl1, .int .i64 tc3, .slice wa c36.length wc9, .slice none 0 0, .slice none 0 0, .int .i64 tk.line, .int .i64 tk.col] 58 (0, 0))) := hsv
     have HN1 := Lib.hid hn1
     have HN2 := Lib.hid hn2
     obtain ⟨I36, hI36, hF36, hsv36⟩ := HSVx.out.keep HI33.out (J := fun X => TyQ X (fun q => v1.heap.size ≤ q) a36 (.agg #[.int .i64 tk0, .string tn0, .string tl0, .bool tm0, .slice ta1 tn1 tc1, .slice ta2 tn2 tc2, .int .i64 tl1, .int .i64 tc3]) ∧ LsQ BdP X (fun q => v1.heap.size ≤ q) c36 (.slice wa c36.length wc9)) (Stab.and (Stab.at tyQ_ok hrb (by omega) _ _) (Stab.at (lsQ_ok bdP_ok) hrb (by omega) _ _)) (⟨hg1, hg3⟩)
     have HI36 := Lib.hid hI36
     have HF36 := Lib.hid hF36
     have HSV36 := Lib.hid hsv36
     clear hI36 hF36 hsv36
     clear hn1 hn2 hsv hg1 hg3 hty
     have HE37 : Hid (r = (blockR f R.l k36 d).bind fun b j => .ok (itMk 4 a29 noB c29 a33 a36 c36 [] b tk) j) := by show _ = _; rw [HE34.out, HN1.out, Res.bind_ok]; rw [HN2.out]; rfl
     have p0 := HKP.out w36 HSV36.out.st
     go_wp2_with fail
     refine (IHB.out f (Nat.le_refl _) R _ k36 d HL.out HSV36.out.rd hd (fun e => HNO.out (by rw [HE37.out, e]; rfl))).mono ?_
     rintro e v38 hp
     have hp2 : PPost R d (StsV w36.heap.size) (blockR f R.l k36 d) _ e v38 := hp
     cases hn : blockR f R.l k36 d with
     | out => exact absurd (by rw [HE37.out, hn]; rfl) HNO.out
     | err c ln col =>
      rw [hn] at hp2
      obtain ⟨rfl, hs⟩ := hp2
      refine ⟨rfl, PPost.of_err (c := c) (ln := ln) (col := col) (by rw [HE37.out, hn]; rfl) rfl (HBK.out _ (HSV36.out.err hs))⟩
     | ok a38 j38 =>
      have HN38 := Lib.hid hn
      rw [hn] at hp2
      obtain ⟨⟨v, rfl, hv⟩, hr, hs⟩ := hp2
      obtain ⟨la38, lc38, rfl⟩ := StsQ.parts hv
      obtain ⟨I38, hI38, hF38, hsv38⟩ := HSV36.out.got stsQ_ok HI36.out hrb (by omega) hr hs (At := StsQ) hv
      have HI38 := Lib.hid hI38
      have HF38 := Lib.hid hF38
      have HSV38 := Lib.hid hsv38
      clear hn hr hs hp hv hI38 hF38 hsv38 p0
      have HE39 : Hid (r = .ok (itMk 4 a29 noB c29 a33 a36 c36 [] a38 tk) j38) := by show _ = _; rw [HE37.out, HN38.out]; rfl
      have p0 := HKP.out v38 HSV38.out.st
      have bt16 := blk_cell HSV38.out.blk 16 _ rfl
      have bz16 := blk_free HSV38.out.blk 16
      obtain ⟨v40, hv40⟩ : ∃ v40 : World, v40 = (v38.setCell ⟨b, 16, none⟩ (.slice la38 a38.length lc38)) := ⟨_, rfl⟩
      have HSV40 : Hid (Sv R v1 b d I38 v40 j38 (.cells #[.int .i64 4, .string a29, .string noB, .slice ga1 c29.lifes.length gc1, .slice ga2 c29.types.length gc2, .slice la33 a33.length lc33, .int .i64 tk0, .string tn0, .string tl0, .bool tm0, .slice ta1 tn1 tc1, .slice ta2 tn2 tc2, .int .i64 tl1, .int .i64 tc3, .slice wa c36.length wc9, .slice none 0 0, .slice la38 a38.length lc38, .int .i64 tk.line, .int .i64 tk.col] 58 (0, 0))) := by show Sv _ _ _ _ _ _ _ _; rw [hv40]; exact (HSV38.out.set HI38.out hrb 16 (.slice la38 a38.length lc38))
      go_upto_region 20 with fail
      rw [← hv40]
      clear hv40 p0 bt16 bz16
      have p0 := HKP.out v40 HSV40.out.st
      have HLD : Hid (∀ (jj : Nat) v, [Value.int .i64 4, .string a29, .string noB, .slice ga1 c29.lifes.length gc1, .slice ga2 c29.types.length gc2, .slice la33 a33.length lc33, .int .i64 tk0, .string tn0, .string tl0, .bool tm0, .slice ta1 tn1 tc1, .slice ta2 tn2 tc2, .int .i64 tl1, .int .i64 tc3, .slice wa c36.length wc9, .slice none 0 0, .slice la38 a38.length lc38, .int .i64 tk.line, .int .i64 tk.col][jj]? = some v → v40.cell? ⟨b, 0 + jj, none⟩ = some v) := by
       show ∀ jj v, _
       intro jj v hv
       rw [Nat.zero_add]; exact blk_cell HSV40.out.blk jj v (by simpa using hv)
      have HONE : Hid (∀ u ∈ [Value.int .i64 4, .string a29, .string noB, .slice ga1 c29.lifes.length gc1, .slice ga2 c29.types.length gc2, .slice la33 a33.length lc33, .int .i64 tk0, .string tn0, .string tl0, .bool tm0, .slice ta1 tn1 tc1, .slice ta2 tn2 tc2, .int .i64 tl1, .int .i64 tc3, .slice wa c36.length wc9, .slice none 0 0, .slice la38 a38.length lc38, .int .i64 tk.line, .int .i64 tk.col], u.oneCell' = true) := oneCells rfl
      have HNX := Lib.hid (HKN.out v40 HSV40.out.st)
      obtain ⟨vl9, vt9, hgv, hgn, hgt⟩ := (HF29.out _ (HF33.out _ (HF36.out _ (HF38.out _ HSV40.out.inv).1).1).1).2
      obtain ⟨rfl, rfl⟩ : vl9 = .slice ga1 c29.lifes.length gc1 ∧ vt9 = .slice ga2 c29.types.length gc2 := by simpa using hgv.symm
      obtain ⟨ct9, hct9, hty9⟩ := (HF36.out _ (HF38.out _ HSV40.out.inv).1).2.1
      obtain rfl : ct9 = [Value.int .i64 tk0, .string tn0, .string tl0, .bool tm0, .slice ta1 tn1 tc1, .slice ta2 tn2 tc2, .int .i64 tl1, .int .i64 tc3] := by simpa using hct9.symm
      have HEX : Hid (ItP v40 (fun q => v1.heap.size ≤ q) (itMk 4 a29 noB c29 a33 a36 c36 [] a38 tk) [.int .i64 4, .string a29, .string noB, .slice ga1 c29.lifes.length gc1, .slice ga2 c29.types.length gc2, .slice la33 a33.length lc33, .int .i64 tk0, .string tn0, .string tl0, .bool tm0, .slice ta1 tn1 tc1, .slice ta2 tn2 tc2, .int .i64 tl1, .int .i64 tc3, .slice wa c36.length wc9, .slice none 0 0, .slice la38 a38.length lc38, .int .i64 tk.line, .int .i64 tk.col]) := ⟨[.int .i64 tk0, .string tn0, .string tl0, .bool tm0, .slice ta1 tn1 tc1, .slice ta2 tn2 tc2, .int .i64 tl1, .int .i64 tc3], _, _, _, _, _, _, rfl, HNM29.out, (show noB.size ≤ 9223372036854775807 by decide), hgn, hgt, (HF33.out _ (HF36.out _ (HF38.out _ HSV40.out.inv).1).1).2, hty9, (HF36.out _ (HF38.out _ HSV40.out.inv).1).2.2, LsQ.nil _ _, (HF38.out _ HSV40.out.inv).2⟩
      clear p0 hgn hgt hgv hct9 hty9
      go_wp2_with (first
       | (refine wpList_load_whole rfl 58 (.tmp 3) rfl b 0 rfl [Value.int .i64 4, .string a29, .string noB, .slice ga1 c29.lifes.length gc1, .slice ga2 c29.types.length gc2, .slice la33 a33.length lc33, .int .i64 tk0, .string tn0, .string tl0, .bool tm0, .slice ta1 tn1 tc1, .slice ta2 tn2 tc2, .int .i64 tl1, .int .i64 tc3, .slice wa c36.length wc9, .slice none 0 0, .slice la38 a38.length lc38, .int .i64 tk.line, .int .i64 tk.col] _ HLD.out Try.underlying58 rfl Try.sizeItem ?_)
       | (refine wpList_store_part (w := v40) rfl 58 (.tmp 2) (.tmp 92) rfl (w.heap.size + 1) 0 58 _ [Value.int .i64 4, .string a29, .string noB, .slice ga1 c29.lifes.length gc1, .slice ga2 c29.types.length gc2, .slice la33 a33.length lc33, .int .i64 tk0, .string tn0, .string tl0, .bool tm0, .slice ta1 tn1 tc1, .slice ta2 tn2 tc2, .int .i64 tl1, .int .i64 tc3, .slice wa c36.length wc9, .slice none 0 0, .slice la38 a38.length lc38, .int .i64 tk.line, .int .i64 tk.col] rfl rfl HNX.out Try.sizeItem (Nat.le_of_eq rfl) HONE.out ?_
          intro wR hbR hstR))
      have hbR' : wR.heap[w.heap.size + 1]? = some (.cells [Value.int .i64 4, .string a29, .string noB, .slice ga1 c29.lifes.length gc1, .slice ga2 c29.types.length gc2, .slice la33 a33.length lc33, .int .i64 tk0, .string tn0, .string tl0, .bool tm0, .slice ta1 tn1 tc1, .slice ta2 tn2 tc2, .int .i64 tl1, .int .i64 tc3, .slice wa c36.length wc9, .slice none 0 0, .slice la38 a38.length lc38, .int .i64 tk.line, .int .i64 tk.col].toArray 58 (0, 0)) := hbR
      refine bodyPost_ret (results_cellB rfl _ (w.heap.size + 1) 58 _ _ rfl hbR' Try.underlying58 rfl Try.sizeItem) rfl ?_
      refine PPost.of_ok (a := itMk 4 a29 noB c29 a33 a36 c36 [] a38 tk) (j := j38) HE39.out rfl ⟨_, rfl, itP_ok.mono _ _ (fun q _ hq => by omega) (itP_ok.step _ _ hstR (fun q hq e => by omega) HEX.out)⟩ (HSV40.out.rd.step hstR (fun q hq e => by omega)) ((HBK.out _ HSV40.out.st).then hstR (fun q hq e => by omega))
theorem item_4 (f : Nat) (ihB : ∀ f', f' ≤ f → BlockOk f') (ihT : ∀ f', f' ≤ f → TypOk f') (R : Rdr) (w : World) (i d : Nat) (hl : LOk R.l) (h : RdAt R w i d) (hno : itemR f R.l i d ≠ .out) (hb0 : isF R.l i [115, 116, 114, 117, 99, 116] = false) (hb1 : isF R.l i [116, 114, 97, 105, 116] = false) (hb2 : isF R.l i [105, 109, 112, 108] = false) (hb3 : isF R.l i [102, 110] = false) :
  Calls Try.prog 29 #[.agg #[.pointer (some ⟨R.rb, 0, none⟩)]] w (PPost R d (ItV w.heap.size) (itemR f R.l i d) w) := by
 have HL := Lib.hid hl
 have IHB := Lib.hid ihB
 have IHT := Lib.hid ihT
 obtain ⟨r, hr⟩ : ∃ r, r = itemR f R.l i d := ⟨_, rfl⟩
 obtain ⟨tk, htk⟩ : ∃ tk, tk = tokA R.l i := ⟨_, rfl⟩
 have HRR : Hid (r = if isF R.l i [115, 116, 114, 117, 99, 116] then (nameR R.l (i + 1)).bind fun n j => (genR f R.l j).bind fun g j => (needR R.l j [123]).bind fun _ j => (paramsR f R.l j d [125] 12).bind fun fs j => .ok (itMk 1 n noB g fs noTy [] [] [] tk) j else if isF R.l i [116, 114, 97, 105, 116] then (nameR R.l (i + 1)).bind fun n j => (methodsR f R.l j d false).bind fun ms j => .ok (itMk 2 n noB noGn [] noTy [] ms [] tk) j else if isF R.l i [105, 109, 112, 108] then (nameR R.l (i + 1)).bind fun n j => (needR R.l j [102, 111, 114]).bind fun _ j => (headR R.l j).bind fun h j => (whereR f R.l j).bind fun wh j => (methodsR f R.l j d true).bind fun ms j => .ok (itMk 3 n h noGn [] noTy wh ms [] tk) j else if isF R.l i [102, 110] then (nameR R.l (i + 1)).bind fun n j => (genR f R.l j).bind fun g j => (needR R.l j [40]).bind fun _ j => (paramsR f R.l j d [41] 8).bind fun fs j => (retR f R.l j d).bind fun t j => (whereR f R.l j).bind fun wh j => (blockR f R.l j d).bind fun b j => .ok (itMk 4 n noB g fs t wh [] b tk) j else failR 1 R.l i) := by show _ = _; rw [hr, itemR, ← htk]
 rw [← hr] at hno ⊢
 have HNO := Lib.hid hno
 have hrlt := blk_lt h.blk
 obtain ⟨w1, hw1⟩ : ∃ w1 : World, w1 = (w.alloc (.cells #[.pointer (some ⟨R.rb, 0, none⟩)] 45)).alloc (.cells #[.int .i64 0, .string ⟨#[]⟩, .string ⟨#[]⟩, .slice none 0 0, .slice none 0 0, .slice none 0 0, .int .i64 0, .string ⟨#[]⟩, .string ⟨#[]⟩, .bool false, .slice none 0 0, .slice none 0 0, .int .i64 0, .int .i64 0, .slice none 0 0, .slice none 0 0, .slice none 0 0, .int .i64 0, .int .i64 0] 58) := ⟨_, rfl⟩
 have HS1 : Hid (Step (fun _ => False) w w1) := by show Step _ _ _; rw [hw1]; exact ((Step.refl _ _).alloc _).alloc _
 have HP1 : Hid (w1.heap[w.heap.size]? = some (.cells #[.pointer (some ⟨R.rb, 0, none⟩)] 45 (0, 0))) := by show _ = _; rw [hw1]; exact blk_alloc (blk_new _ _)
 have HN1 : Hid (w1.heap[w.heap.size + 1]? = some (.cells #[.int .i64 0, .string ⟨#[]⟩, .string ⟨#[]⟩, .slice none 0 0, .slice none 0 0, .slice none 0 0, .int .i64 0, .string ⟨#[]⟩, .string ⟨#[]⟩, .bool false, .slice none 0 0, .slice none 0 0, .int .i64 0, .int .i64 0, .slice none 0 0, .slice none 0 0, .slice none 0 0, .int .i64 0, .int .i64 0] 58 (0, 0))) := by show _ = _; rw [hw1]; exact blk_new2 _ _ _
 have HW1 := Lib.hid hw1
 have H1 := Lib.hid (h.quiet HS1.out)
 have HT := Lib.hid (show R.l[i]? = some tk by rw [htk]; exact h.tok)
 have p0 : w1.cell? ⟨w.heap.size, 0, none⟩ = some (.pointer (some ⟨R.rb, 0, none⟩)) := blk_cell HP1.out 0 _ rfl
 have HAT := Lib.hid (at_at R w1 i d tk H1.out HT.out)
 clear ihB ihT hl h hno hr hw1 htk
 go_enter Try.func29, Try.ntmps29
 go_upto_region 1 with fail
 rw [← HW1.out]
 go_wp2_with fail
 refine HAT.out.mono ?_
 rintro e w2 ⟨rfl, h2⟩
 have HS2 := Lib.hid (HS1.out.trans h2)
 have HP2 := Lib.hid (h2.keep HP1.out (fun h => h))
 have HN2 := Lib.hid (h2.keep HN1.out (fun h => h))
 have hn1 := blk_lt HN2.out
 have HH2 := Lib.hid h2
 have HON0 : Hid (∀ u ∈ [Value.int .i64 0, .string noB, .string noB, .slice none 0 0, .slice none 0 0, .slice none 0 0, .int .i64 0, .string noB, .string noB, .bool false, .slice none 0 0, .slice none 0 0, .int .i64 0, .int .i64 0, .slice none 0 0, .slice none 0 0, .slice none 0 0, .int .i64 tk.line, .int .i64 tk.col], u.oneCell' = true) := oneCells rfl
 clear h2 p0
 go_upto_region 3 with (refine wpList_store_part (w := w2.alloc (.cells #[.int .i64 0, .string ⟨#[]⟩, .string ⟨#[]⟩, .slice none 0 0, .slice none 0 0, .slice none 0 0, .int .i64 0, .string ⟨#[]⟩, .string ⟨#[]⟩, .bool false, .slice none 0 0, .slice none 0 0, .int .i64 0, .int .i64 0, .slice none 0 0, .slice none 0 0, .slice none 0 0, .int .i64 0, .int .i64 0] 58)) rfl 58 (.tmp 3) (.tmp 7) rfl w2.heap.size 0 58 _ [.int .i64 0, .string noB, .string noB, .slice none 0 0, .slice none 0 0, .slice none 0 0, .int .i64 0, .string noB, .string noB, .bool false, .slice none 0 0, .slice none 0 0, .int .i64 0, .int .i64 0, .slice none 0 0, .slice none 0 0, .slice none 0 0, .int .i64 tk.line, .int .i64 tk.col] rfl rfl (blk_new _ _) Try.sizeItem (Nat.le_of_eq rfl) HON0.out ?_
                        intro v1 hb3 hst3)
 have HB3 : Hid (v1.heap[w2.heap.size]? = some (.cells #[.int .i64 0, .string noB, .string noB, .slice none 0 0, .slice none 0 0, .slice none 0 0, .int .i64 0, .string noB, .string noB, .bool false, .slice none 0 0, .slice none 0 0, .int .i64 0, .int .i64 0, .slice none 0 0, .slice none 0 0, .slice none 0 0, .int .i64 tk.line, .int .i64 tk.col] 58 (0, 0))) := hb3
 have HS23 : Hid (Step (fun _ => False) w2 v1) := ((Step.refl _ _).alloc _).then hst3 (fun q hq e => by omega)
 clear hb3 hst3
 have HS3 := Lib.hid (HS2.out.trans HS23.out)
 have HP3 := Lib.hid (HS23.out.keep HP2.out (fun h => h))
 have HN3 := Lib.hid (HS23.out.keep HN2.out (fun h => h))
 have H3 := Lib.hid (H1.out.quiet (HH2.out.trans HS23.out))
 have hbv := blk_lt HB3.out
 obtain ⟨b, hb⟩ : ∃ b, b = w2.heap.size := ⟨_, rfl⟩
 rw [← hb] at HB3 hbv ⊢
 have hs1 := HS1.out.size
 have hrb : R.rb < b := by omega
 have hbw : w.heap.size + 1 < b := by omega
 have HBK : Hid (∀ X : World, Step (fun q => q = R.rb ∨ q = b) v1 X → Step (· = R.rb) w X) := by
  show ∀ X, _
  intro X hX
  exact (HS3.out.mono (fun _ _ h => h.elim)).then hX (fun q hq e => by omega)
 have HKP : Hid (∀ X : World, Step (fun q => q = R.rb ∨ q = b) v1 X → X.cell? ⟨w.heap.size, 0, none⟩ = some (.pointer (some ⟨R.rb, 0, none⟩))) := by
  show ∀ X, _
  intro X hX
  exact blk_cell (hX.keep HP3.out (by omega)) 0 _ rfl
 have HKN : Hid (∀ X : World, Step (fun q => q = R.rb ∨ q = b) v1 X → X.heap[w.heap.size + 1]? = some (.cells #[.int .i64 0, .string ⟨#[]⟩, .string ⟨#[]⟩, .slice none 0 0, .slice none 0 0, .slice none 0 0, .int .i64 0, .string ⟨#[]⟩, .string ⟨#[]⟩, .bool false, .slice none 0 0, .slice none 0 0, .int .i64 0, .int .i64 0, .slice none 0 0, .slice none 0 0, .slice none 0 0, .int .i64 0, .int .i64 0] 58 (0, 0))) := by
  show ∀ X, _
  intro X hX
  exact hX.keep HN3.out (by omega)
 have hsz3 := HS3.out.size
 obtain ⟨I0, hI0, -, hsv0⟩ := Sv.keep (R := R) (w1 := v1) (b := b) (d := d) (I := fun _ => True) (X := v1) (i := i) (o := .cells #[.int .i64 0, .string noB, .string noB, .slice none 0 0, .slice none 0 0, .slice none 0 0, .int .i64 0, .string noB, .string noB, .bool false, .slice none 0 0, .slice none 0 0, .int .i64 0, .int .i64 0, .slice none 0 0, .slice none 0 0, .slice none 0 0, .int .i64 tk.line, .int .i64 tk.col] 58 (0, 0)) ⟨H3.out, HB3.out, Step.refl _ _, trivial⟩ Stab.yes Stab.yes trivial
 have HI0 := Lib.hid hI0
 have HSV0 := Lib.hid hsv0
 clear hb hs1 hI0 hsv0
 have p0 := HKP.out v1 (Step.refl _ _)
 have HB0 := Lib.hid hb0
 clear hb0
 have HB1 := Lib.hid hb1
 clear hb1
 have HB2 := Lib.hid hb2
 clear hb2
 have HB3 := Lib.hid hb3
 clear hb3
 go_wp2_with fail
 refine (is_no R HL.out ⟨#[115, 116, 114, 117, 99, 116]⟩ _ i d HSV0.out.rd (by decide) HB0.out).mono ?_
 rintro e v21 ⟨rfl, hr, hs⟩
 have HSV21 := Lib.hid (HSV0.out.read HI0.out hrb hr hs)
 clear hr hs p0
 have HE22 : Hid (r = if isF R.l i [116, 114, 97, 105, 116] then (nameR R.l (i + 1)).bind fun n j => (methodsR f R.l j d false).bind fun ms j => .ok (itMk 2 n noB noGn [] noTy [] ms [] tk) j else if isF R.l i [105, 109, 112, 108] then (nameR R.l (i + 1)).bind fun n j => (needR R.l j [102, 111, 114]).bind fun _ j => (headR R.l j).bind fun h j => (whereR f R.l j).bind fun wh j => (methodsR f R.l j d true).bind fun ms j => .ok (itMk 3 n h noGn [] noTy wh ms [] tk) j else if isF R.l i [102, 110] then (nameR R.l (i + 1)).bind fun n j => (genR f R.l j).bind fun g j => (needR R.l j [40]).bind fun _ j => (paramsR f R.l j d [41] 8).bind fun fs j => (retR f R.l j d).bind fun t j => (whereR f R.l j).bind fun wh j => (blockR f R.l j d).bind fun b j => .ok (itMk 4 n noB g fs t wh [] b tk) j else failR 1 R.l i) := by show _ = _; rw [HRR.out, HB0.out, if_neg (by decide)]
 have p0 := HKP.out v21 HSV21.out.st
 go_wp2_with fail
 refine (is_no R HL.out ⟨#[116, 114, 97, 105, 116]⟩ _ i d HSV21.out.rd (by decide) HB1.out).mono ?_
 rintro e v23 ⟨rfl, hr, hs⟩
 have HSV23 := Lib.hid (HSV21.out.read HI0.out hrb hr hs)
 clear hr hs p0
 have HE24 : Hid (r = if isF R.l i [105, 109, 112, 108] then (nameR R.l (i + 1)).bind fun n j => (needR R.l j [102, 111, 114]).bind fun _ j => (headR R.l j).bind fun h j => (whereR f R.l j).bind fun wh j => (methodsR f R.l j d true).bind fun ms j => .ok (itMk 3 n h noGn [] noTy wh ms [] tk) j else if isF R.l i [102, 110] then (nameR R.l (i + 1)).bind fun n j => (genR f R.l j).bind fun g j => (needR R.l j [40]).bind fun _ j => (paramsR f R.l j d [41] 8).bind fun fs j => (retR f R.l j d).bind fun t j => (whereR f R.l j).bind fun wh j => (blockR f R.l j d).bind fun b j => .ok (itMk 4 n noB g fs t wh [] b tk) j else failR 1 R.l i) := by show _ = _; rw [HE22.out, HB1.out, if_neg (by decide)]
 have p0 := HKP.out v23 HSV23.out.st
 go_wp2_with fail
 refine (is_no R HL.out ⟨#[105, 109, 112, 108]⟩ _ i d HSV23.out.rd (by decide) HB2.out).mono ?_
 rintro e v25 ⟨rfl, hr, hs⟩
 have HSV25 := Lib.hid (HSV23.out.read HI0.out hrb hr hs)
 clear hr hs p0
 have HE26 : Hid (r = if isF R.l i [102, 110] then (nameR R.l (i + 1)).bind fun n j => (genR f R.l j).bind fun g j => (needR R.l j [40]).bind fun _ j => (paramsR f R.l j d [41] 8).bind fun fs j => (retR f R.l j d).bind fun t j => (whereR f R.l j).bind fun wh j => (blockR f R.l j d).bind fun b j => .ok (itMk 4 n noB g fs t wh [] b tk) j else failR 1 R.l i) := by show _ = _; rw [HE24.out, HB2.out, if_neg (by decide)]
 have p0 := HKP.out v25 HSV25.out.st
 go_wp2_with fail
 refine (is_no R HL.out ⟨#[102, 110]⟩ _ i d HSV25.out.rd (by decide) HB3.out).mono ?_
 rintro e v27 ⟨rfl, hr, hs⟩
 have HSV27 := Lib.hid (HSV25.out.read HI0.out hrb hr hs)
 clear hr hs p0
 have HE28 : Hid (r = failR 1 R.l i) := by show _ = _; rw [HE26.out, HB3.out, if_neg (by decide)]
 have p0 := HKP.out v27 HSV27.out.st
 go_wp2_with fail
 have HTF := Lib.hid (show R.l[i]? = some (tokA R.l i) from HSV27.out.rd.tok)
 go_wp2_with fail
 refine (fail_at R 1 _ i d _ HSV27.out.rd HTF.out).mono ?_
 rintro e wf ⟨rfl, hs⟩
 exact ⟨rfl, PPost.of_err (c := 1) (ln := (tokA R.l i).line) (col := (tokA R.l i).col) (by rw [HE28.out, failR]) rfl (HBK.out _ (HSV27.out.err (hs.mono (fun _ _ h => h.elim))))⟩
theorem item_any (f : Nat) (ihB : ∀ f', f' ≤ f → BlockOk f') (ihT : ∀ f', f' ≤ f → TypOk f') (R : Rdr) (w : World) (i d : Nat) (hl : LOk R.l) (h : RdAt R w i d) (hd : d ≤ 40) (hno : itemR f R.l i d ≠ .out) :
  Calls Try.prog 29 #[.agg #[.pointer (some ⟨R.rb, 0, none⟩)]] w (PPost R d (ItV w.heap.size) (itemR f R.l i d) w) := by
 cases hb0 : isF R.l i [115, 116, 114, 117, 99, 116] with
 | true => exact item_0 f ihB ihT R w i d hl h hd hno hb0
 | false =>
  cases hb1 : isF R.l i [116, 114, 97, 105, 116] with
  | true => exact item_1 f ihB ihT R w i d hl h hd hno hb0 hb1
  | false =>
   cases hb2 : isF R.l i [105, 109, 112, 108] with
   | true => exact item_2 f ihB ihT R w i d hl h hd hno hb0 hb1 hb2
   | false =>
    cases hb3 : isF R.l i [102, 110] with
    | true => exact item_3 f ihB ihT R w i d hl h hd hno hb0 hb1 hb2 hb3
    | false => exact item_4 f ihB ihT R w i d hl h hno hb0 hb1 hb2 hb3
end Go.Proofs.Ytppekkbaoimpgaa
