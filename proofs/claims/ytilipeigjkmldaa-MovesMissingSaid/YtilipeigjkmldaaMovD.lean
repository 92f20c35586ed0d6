/- The law MovesMissing, walked: it answers true. -/
import Derived.Test.YtilipeigjkmldaaMovABC
namespace Go.Proofs.Ytilipeigjkmldaa
open Go.RowKit

theorem RowsP.elem {w : World} {B : Nat} {v : Value} {ll : List (List Pl)} {n : Nat} (h : RowsP w B v ll) (hn : ll.length = n) : ∃ a c, v = .slice a n c ∧ ∀ (i : Nat) l, ll[i]? = some l → ∃ g o u xs, a = some ⟨g, o, none⟩ ∧ w.cell? ⟨g, o + i, none⟩ = some u ∧ Each (PlAt w B) l xs ∧ Row w B u l.length xs := by
  subst hn
  obtain ⟨xs, hx, a, c, rfl, h1, h2, h3, h4⟩ := h
  refine ⟨a, c, rfl, fun i l hl => ?_⟩
  obtain ⟨g, o, rfl, -, -, hc⟩ := h4 (by have := (List.getElem?_eq_some_iff.1 hl).1; omega)
  obtain ⟨cs, ⟨u, ys, rfl, hy, hr⟩, f⟩ := Each.cells 1 PlsAt.len hx hl hc
  have := f 0 _ rfl
  rw [Nat.mul_one, Nat.add_zero] at this
  exact ⟨g, o, u, ys, rfl, this, hy, hr⟩
theorem all_of_sub {l r : List Pl} (h : ∀ q ∈ l, q ∈ r) : l.all (hasF r) = true := List.all_eq_true.2 (fun q hq => hasF_iff.2 (h q hq))
/- What is compared: both lists hold the same. -/
structure MissEq (b : Bod) (la lb : List Pl) : Prop where
  len : la.length = lb.length
  fw : la.all (hasF lb) = true
  bw : lb.all (hasF la) = true
theorem MissEq.mk' {b : Bod} {i : Nat} {la lb : List Pl} (ha : la.Nodup) (hb : lb.Nodup) (h1 : ∀ q, q ∈ la ↔ MissP b i q) (h2 : ∀ q, q ∈ lb ↔ MissP b i q) : MissEq b la lb :=
  ⟨Nat.le_antisymm (nodup_facts ha hb (fun q hq => (h2 q).2 ((h1 q).1 hq))) (nodup_facts hb ha (fun q hq => (h1 q).2 ((h2 q).1 hq))), all_of_sub (fun q hq => (h2 q).2 ((h1 q).1 hq)), all_of_sub (fun q hq => (h1 q).2 ((h2 q).1 hq))⟩

set_option maxRecDepth 100000 in
set_option maxHeartbeats 8000000 in
theorem movesMissing_any (B : Nat) (s : Shp) (v : Value) (xs : List Value) (w : World) (h1 : Each (CdAt w B) s.code xs) (h2 : Row w B v s.code.length xs) (hB : B ≤ w.heap.size) :
    Calls Try.prog 9 #[.agg #[.int .i64 s.params, v]] w (LawPost w) := by
  have H1 := Lib.hid h1
  have H2 := Lib.hid h2
  obtain ⟨a1, c1, rfl, -⟩ := h2
  have ST0 : Step (fun _ => False) w (w.alloc (.cells #[.int .i64 s.params, .slice a1 s.code.length c1] 24)) := (Step.refl _ _).alloc _
  have HST0 := Lib.hid ST0
  have HNB := Lib.hid (blk_new w (.cells #[.int .i64 s.params, .slice a1 s.code.length c1] 24))
  clear h1 ST0
  go_enter Try.func9, Try.ntmps9
  go_wp2_with fail
  refine (moved_any _).mono ?_
  rintro e w1 ⟨rfl, h1⟩
  have HS1 := Lib.hid (HST0.out.trans h1)
  have hb1 := h1.keep HNB.out (fun h => h)
  have d0 := blk_cell hb1 0 _ rfl
  have d1 := blk_cell hb1 1 _ rfl
  clear h1 hb1
  by_cases hlt : 25 < s.code.length
  · have e1 : decide (25 < s.code.length) = true := decide_eq_true hlt
    go_wp2_with fail
    refine (moved_any _).mono ?_
    rintro e w2 ⟨rfl, h2⟩
    go_wp2_with fail
    go_ret
    exact ⟨rfl, HS1.out.trans h2⟩
  · have e1 : decide (25 < s.code.length) = false := decide_eq_false hlt
    go_wp2_with fail
    refine (shBody_any B s _ xs w1 (Each.mono (CdAt.step HS1.out (fun _ _ h => h)) _ _ H1.out) (H2.out.step HS1.out (fun _ _ h => h)) (by omega) (Nat.le_trans hB HS1.out.size)).mono ?_
    rintro e w2 ⟨cs, rfl, hat, h2⟩
    obtain ⟨a2, c2, a3, c3, rfl⟩ := hat.parts
    have HWT := Lib.hid (shBod_want s (by omega))
    have HFT := Lib.hid (shBod_facts s (by omega))
    have HPT := Lib.hid (shBod_path s)
    have HBL : Hid ((shBod s).code.length ≤ 26) := by show _ ≤ _; rw [shBod_len]; omega
    have HSM : Hid (BodSmall (shBod s)) := shBod_small s
    have HOK : Hid (bodOk (shBod s)) := shBod_ok s
    obtain ⟨b, hb⟩ : ∃ b, b = shBod s := ⟨_, rfl⟩
    rw [← hb] at hat HWT HFT HPT HBL HSM HOK
    rw [← hb]
    have HAT := Lib.hid hat
    have STA : Step (fun _ => False) w2 (w2.alloc (.cells #[.string b.name, .int .i64 b.params, .slice a2 b.locals c2, .slice a3 b.code.length c3] 29)) := (Step.refl _ _).alloc _
    have HSTA := Lib.hid STA
    have HNA := Lib.hid (blk_new w2 (.cells #[.string b.name, .int .i64 b.params, .slice a2 b.locals c2, .slice a3 b.code.length c3] 29))
    have HS2 := Lib.hid (HS1.out.trans h2)
    have HBP : Hid (BodP (w2.alloc (.cells #[.string b.name, .int .i64 b.params, .slice a2 b.locals c2, .slice a3 b.code.length c3] 29)) (w2.alloc (.cells #[.string b.name, .int .i64 b.params, .slice a2 b.locals c2, .slice a3 b.code.length c3] 29)).heap.size w2.heap.size b) := BodP.of_at (BodAt.step STA (fun _ _ h => h) _ _ hat) HNA.out STA.size
    clear hb hat h2 STA d0 d1
    go_wp2_with fail
    refine (missing_any _ w2.heap.size b _ HBP.out HSM.out (Nat.le_refl _) HOK.out (by have := HBL.out; omega) HWT.out).mono ?_
    rintro e w3 ⟨⟨v1, ll, rfl, hr1, hll, hp⟩, h3⟩
    have HP := Lib.hid hp
    have HLL := Lib.hid hll
    have HS3 := Lib.hid (HSTA.out.trans h3)
    have hn3 := h3.keep HNA.out (fun h => h)
    have b0 := blk_cell hn3 0 _ rfl
    have b1 := blk_cell hn3 1 _ rfl
    have b2 := blk_cell hn3 2 _ rfl
    have b3 := blk_cell hn3 3 _ rfl
    have HN3 := Lib.hid hn3
    obtain ⟨a4, c4, rfl, hel⟩ := hr1.elem hll
    have HEL := Lib.hid hel
    clear hr1 hp h3 hn3 hll hel
    go_wp2_with fail
    refine (rall_any w2.heap.size b [.string b.name, .int .i64 b.params, .slice a2 b.locals c2, .slice a3 b.code.length c3] w3 (BodAt.step HS3.out (fun _ _ h => h) _ _ HAT.out) HSM.out HS3.out.size HOK.out (by have := HBL.out; omega) (by have := HFT.out; omega) HPT.out).mono ?_
    rintro e w4 ⟨⟨go, gm, vs, ls, m, base, rfl, hout, -, -, -, hinv, hmem⟩, h4⟩
    have HOUT := Lib.hid hout
    have HINV := Lib.hid hinv
    have HMEM := Lib.hid hmem
    have HS34 := Lib.hid h4
    have HS4 := Lib.hid (HS3.out.trans h4)
    have hn4 := h4.keep HN3.out (fun h => h)
    have b0 := blk_cell hn4 0 _ rfl
    have b1 := blk_cell hn4 1 _ rfl
    have b2 := blk_cell hn4 2 _ rfl
    have b3 := blk_cell hn4 3 _ rfl
    clear hout hinv hmem h4 hn4
    have e2 : ((b.code.length : Int) != (b.code.length : Int)) = false := by simp
    go_wp2_with fail
    go_loopg [8] b.code.length (fun gg s8 wr => ∃ k : Nat, s8 = .int .i64 k ∧ k ≤ b.code.length ∧ b.code.length - k ≤ gg ∧ Step (fun _ => False) w4 wr)
    case atStart => exact ⟨0, rfl, Nat.zero_le _, by omega, Step.refl _ _⟩
    case round =>
      obtain ⟨k, rfl, hk, hgg, hst⟩ := hrel
      have hbl := HBL.out
      by_cases hlt2 : k < b.code.length
      · obtain ⟨la, hla⟩ : ∃ la, ll[k]? = some la := ⟨_, List.getElem?_eq_getElem (by rw [HLL.out]; exact hlt2)⟩
        obtain ⟨lb, hlb⟩ : ∃ lb, ls[k]? = some lb := ⟨_, List.getElem?_eq_getElem (by rw [HINV.out.len]; exact hlt2)⟩
        obtain ⟨vk, hvk⟩ : ∃ vk, vs[k]? = some vk := ⟨_, List.getElem?_eq_getElem (by rw [HOUT.out.len, HINV.out.len]; exact hlt2)⟩
        obtain ⟨g, o, u, xa, rfl, f1, ha1, r1⟩ := HEL.out k la hla
        obtain ⟨xb, hown, hb1⟩ := HOUT.out.row k vk lb hvk hlb
        have r2 : Row w4 w4.heap.size vk lb.length xb := Row.of_owns hown (Nat.le_refl _)
        have hgd : ls.getD k [] = lb := by rw [List.getD_eq_getElem?_getD, hlb]; rfl
        obtain ⟨hp1, hp2⟩ := HP.out k la hla
        have HEQ : Hid (MissEq b la lb) := MissEq.mk' hp1 (HINV.out.nd k lb hlb) hp2 (fun q => by rw [← hgd]; exact HMEM.out k hlt2 q)
        have HLB : Hid (lb.length ≤ 1000000) := by
          have h1 := HINV.out.room HOK.out hlb
          have h2 := HFT.out
          show _ ≤ _
          omega
        rw [HEQ.out.len] at r1
        have HR1 := Lib.hid r1
        have HR2 := Lib.hid r2
        have HA1 := Lib.hid ha1
        have HB1 := Lib.hid hb1
        obtain ⟨au, cu, rfl, -⟩ := r1
        obtain ⟨av, cv, rfl, -⟩ := r2
        have HSTR : Hid (Step (fun _ => False) w4 wr) := hst
        have HQ01 : Hid (∀ X, Step (fun _ => False) wr X → X.cell? ⟨g, o + k, none⟩ = some (.slice au lb.length cu) ∧ X.cell? ⟨go, k, none⟩ = some (.slice av lb.length cv)) := by
          show ∀ X, _
          intro X hX
          exact ⟨((HS34.out.trans HSTR.out).trans hX).cell f1 (fun h => h), ((HSTR.out.trans hX).cell (blk_cell HOUT.out.blk k _ (by simpa using hvk)) (fun h => h))⟩
        have HC1 : Hid (∀ X, Step (fun _ => False) wr X → Calls Try.prog 26 #[.slice au lb.length cu, .slice av lb.length cv] X (IsBool true X)) := by
          show ∀ X, _
          intro X hX
          rw [← HEQ.out.fw]
          exact subset_any _ _ _ la lb xa xb _ _ X (Each.mono (PlAt.mono HS34.out.size) _ _ (Each.mono (PlAt.step ((HS34.out.trans HSTR.out).trans hX) (fun _ _ h => h)) _ _ HA1.out)) (by rw [HEQ.out.len]; exact HR1.out.step ((HS34.out.trans HSTR.out).trans hX) (fun _ _ h => h)) (Each.mono (PlAt.mono (Nat.le_trans HS3.out.size HS34.out.size)) _ _ (Each.mono (PlAt.step (HSTR.out.trans hX) (fun _ _ h => h)) _ _ HB1.out)) (HR2.out.step (HSTR.out.trans hX) (fun _ _ h => h)) (by rw [HEQ.out.len]; exact HLB.out) HLB.out
        have HC2 : Hid (∀ X, Step (fun _ => False) wr X → Calls Try.prog 26 #[.slice av lb.length cv, .slice au lb.length cu] X (IsBool true X)) := by
          show ∀ X, _
          intro X hX
          rw [← HEQ.out.bw]
          exact subset_any _ _ _ lb la xb xa _ _ X (Each.mono (PlAt.mono (Nat.le_trans HS3.out.size HS34.out.size)) _ _ (Each.mono (PlAt.step (HSTR.out.trans hX) (fun _ _ h => h)) _ _ HB1.out)) (HR2.out.step (HSTR.out.trans hX) (fun _ _ h => h)) (Each.mono (PlAt.mono HS34.out.size) _ _ (Each.mono (PlAt.step ((HS34.out.trans HSTR.out).trans hX) (fun _ _ h => h)) _ _ HA1.out)) (by rw [HEQ.out.len]; exact HR1.out.step ((HS34.out.trans HSTR.out).trans hX) (fun _ _ h => h)) HLB.out (by rw [HEQ.out.len]; exact HLB.out)
        have hi0 : (0 : Int) ≤ (k : Int) := by omega
        have hi1 : (k : Int) < (b.code.length : Int) := by omega
        have HEM : Hid (((lb.length : Int) != (lb.length : Int)) = false) := by show _ = _; simp
        have HMM : Hid (gk - 1 < gk) := by show _ < _; omega
        clear hla hlb hvk f1 ha1 hown hb1 hgd hp1 hp2 hst b0 b1 b2 b3
        go_upto_region 11 with fail
        go_cut [79] (fun s79 wx => s79 = .bool false ∧ Step (fun _ => False) wr wx)
        case first =>
          refine wp_region_relyG (by kernel_rfl) (Det [.slice (some ⟨g, o, none⟩) b.code.length c4, .int .i64 (k : Int), .pointer (some ⟨g, o + k, none⟩), .slice au lb.length cu, .int .i64 (lb.length : Int), .slice (some ⟨go, 0, none⟩) b.code.length b.code.length, .int .i64 (k : Int), .pointer (some ⟨go, k, none⟩), .slice av lb.length cv, .int .i64 (lb.length : Int), .bool false, .bool false, .slice (some ⟨g, o, none⟩) b.code.length c4, .int .i64 (k : Int), .pointer (some ⟨g, o + k, none⟩), .slice au lb.length cu, .slice (some ⟨go, 0, none⟩) b.code.length b.code.length, .int .i64 (k : Int), .pointer (some ⟨go, k, none⟩), .slice av lb.length cv, .bool true, .bool false, .bool false, .bool false, .slice (some ⟨go, 0, none⟩) b.code.length b.code.length, .int .i64 (k : Int), .pointer (some ⟨go, k, none⟩), .slice av lb.length cv, .slice (some ⟨g, o, none⟩) b.code.length c4, .int .i64 (k : Int), .pointer (some ⟨g, o + k, none⟩), .slice au lb.length cu, .bool true, .bool false, .bool false] wr) 35 rfl (by kernel_rfl) (by kernel_rfl) (by kernel_rfl) (by kernel_rfl) ?h0 ?hs ?hdone
          case h0 => exact Det.zero ((Step.refl _ _).drew)
          case hs =>
            refine ⟨?_, ?_, ?_, ?_, ?_, ?_, ?_, ?_, ?_, ?_, ?_, ?_, ?_, ?_, ?_, ?_, ?_, ?_, ?_, ?_, ?_, ?_, ?_, ?_, ?_, ?_, ?_, ?_, ?_, ?_, ?_, ?_, ?_, ?_, ?_, trivial⟩
            · intro L V X a ev evo hL hdep hJ
              unfold GAct; dsimp only
              have o4 := evo 4 rfl
              change a.tmps[4]?.getD undef = .slice (some ⟨g, o, none⟩) b.code.length c4 at o4
              go_simp
              exact ⟨_, rfl, hJ.up 0 rfl⟩
            · intro L V X a ev evo hL hdep hJ
              unfold GAct; dsimp only
              have o8 := evo 8 rfl
              change a.tmps[8]?.getD undef = .int .i64 (k : Int) at o8
              go_simp
              exact ⟨_, rfl, hJ.up 1 rfl⟩
            · intro L V X a ev evo hL hdep hJ
              unfold GAct; dsimp only
              have e45 := (ev 0 45 rfl (hdep 0 rfl)).trans (hJ.1 0 _ rfl (hdep 0 rfl))
              have e46 := (ev 1 46 rfl (hdep 1 rfl)).trans (hJ.1 1 _ rfl (hdep 1 rfl))
              go_simp
              exact ⟨_, rfl, hJ.up 2 rfl⟩
            · intro L V X a ev evo hL hdep hJ
              unfold GAct; dsimp only
              have e47 := (ev 2 47 rfl (hdep 2 rfl)).trans (hJ.1 2 _ rfl (hdep 2 rfl))
              obtain ⟨q0, q1⟩ := HQ01.out X hJ.2
              go_simp
              exact ⟨_, rfl, hJ.up 3 rfl⟩
            · intro L V X a ev evo hL hdep hJ
              unfold GAct; dsimp only
              have e48 := (ev 3 48 rfl (hdep 3 rfl)).trans (hJ.1 3 _ rfl (hdep 3 rfl))
              go_simp
              exact ⟨_, rfl, hJ.up 4 rfl⟩
            · intro L V X a ev evo hL hdep hJ
              unfold GAct; dsimp only
              have o6 := evo 6 rfl
              change a.tmps[6]?.getD undef = .slice (some ⟨go, 0, none⟩) b.code.length b.code.length at o6
              go_simp
              exact ⟨_, rfl, hJ.up 5 rfl⟩
            · intro L V X a ev evo hL hdep hJ
              unfold GAct; dsimp only
              have o8 := evo 8 rfl
              change a.tmps[8]?.getD undef = .int .i64 (k : Int) at o8
              go_simp
              exact ⟨_, rfl, hJ.up 6 rfl⟩
            · intro L V X a ev evo hL hdep hJ
              unfold GAct; dsimp only
              have e50 := (ev 5 50 rfl (hdep 5 rfl)).trans (hJ.1 5 _ rfl (hdep 5 rfl))
              have e51 := (ev 6 51 rfl (hdep 6 rfl)).trans (hJ.1 6 _ rfl (hdep 6 rfl))
              go_simp
              exact ⟨_, rfl, hJ.up 7 rfl⟩
            · intro L V X a ev evo hL hdep hJ
              unfold GAct; dsimp only
              have e52 := (ev 7 52 rfl (hdep 7 rfl)).trans (hJ.1 7 _ rfl (hdep 7 rfl))
              obtain ⟨q0, q1⟩ := HQ01.out X hJ.2
              go_simp
              exact ⟨_, rfl, hJ.up 8 rfl⟩
            · intro L V X a ev evo hL hdep hJ
              unfold GAct; dsimp only
              have e53 := (ev 8 53 rfl (hdep 8 rfl)).trans (hJ.1 8 _ rfl (hdep 8 rfl))
              go_simp
              exact ⟨_, rfl, hJ.up 9 rfl⟩
            · intro L V X a ev evo hL hdep hJ
              unfold GAct; dsimp only
              have e49 := (ev 4 49 rfl (hdep 4 rfl)).trans (hJ.1 4 _ rfl (hdep 4 rfl))
              have e54 := (ev 9 54 rfl (hdep 9 rfl)).trans (hJ.1 9 _ rfl (hdep 9 rfl))
              have eM := HEM.out
              go_simp
              exact ⟨_, rfl, hJ.up 10 rfl⟩
            · intro L V X a ev evo hL hdep hJ
              unfold GAct; dsimp only
              have e55 := (ev 10 55 rfl (hdep 10 rfl)).trans (hJ.1 10 _ rfl (hdep 10 rfl))
              go_simp
              exact ⟨_, rfl, hJ.up 11 rfl⟩
            · intro L V X a ev evo hL hdep hJ
              unfold GAct; dsimp only
              refine .inl ⟨hJ.1 11 _ rfl (hdep 11 rfl), ?_⟩
              have o4 := evo 4 rfl
              change a.tmps[4]?.getD undef = .slice (some ⟨g, o, none⟩) b.code.length c4 at o4
              go_simp
              exact ⟨_, rfl, hJ.up 12 rfl⟩
            · intro L V X a ev evo hL hdep hJ
              unfold GAct; dsimp only
              refine .inl ⟨hJ.1 11 _ rfl (hdep 11 rfl), ?_⟩
              have o8 := evo 8 rfl
              change a.tmps[8]?.getD undef = .int .i64 (k : Int) at o8
              go_simp
              exact ⟨_, rfl, hJ.up 13 rfl⟩
            · intro L V X a ev evo hL hdep hJ
              unfold GAct; dsimp only
              refine .inl ⟨hJ.1 11 _ rfl (hdep 11 rfl), ?_⟩
              have e57 := (ev 12 57 rfl (hdep 12 rfl)).trans (hJ.1 12 _ rfl (hdep 12 rfl))
              have e58 := (ev 13 58 rfl (hdep 13 rfl)).trans (hJ.1 13 _ rfl (hdep 13 rfl))
              go_simp
              exact ⟨_, rfl, hJ.up 14 rfl⟩
            · intro L V X a ev evo hL hdep hJ
              unfold GAct; dsimp only
              refine .inl ⟨hJ.1 11 _ rfl (hdep 11 rfl), ?_⟩
              have e59 := (ev 14 59 rfl (hdep 14 rfl)).trans (hJ.1 14 _ rfl (hdep 14 rfl))
              obtain ⟨q0, q1⟩ := HQ01.out X hJ.2
              go_simp
              exact ⟨_, rfl, hJ.up 15 rfl⟩
            · intro L V X a ev evo hL hdep hJ
              unfold GAct; dsimp only
              refine .inl ⟨hJ.1 11 _ rfl (hdep 11 rfl), ?_⟩
              have o6 := evo 6 rfl
              change a.tmps[6]?.getD undef = .slice (some ⟨go, 0, none⟩) b.code.length b.code.length at o6
              go_simp
              exact ⟨_, rfl, hJ.up 16 rfl⟩
            · intro L V X a ev evo hL hdep hJ
              unfold GAct; dsimp only
              refine .inl ⟨hJ.1 11 _ rfl (hdep 11 rfl), ?_⟩
              have o8 := evo 8 rfl
              change a.tmps[8]?.getD undef = .int .i64 (k : Int) at o8
              go_simp
              exact ⟨_, rfl, hJ.up 17 rfl⟩
            · intro L V X a ev evo hL hdep hJ
              unfold GAct; dsimp only
              refine .inl ⟨hJ.1 11 _ rfl (hdep 11 rfl), ?_⟩
              have e61 := (ev 16 61 rfl (hdep 16 rfl)).trans (hJ.1 16 _ rfl (hdep 16 rfl))
              have e62 := (ev 17 62 rfl (hdep 17 rfl)).trans (hJ.1 17 _ rfl (hdep 17 rfl))
              go_simp
              exact ⟨_, rfl, hJ.up 18 rfl⟩
            · intro L V X a ev evo hL hdep hJ
              unfold GAct; dsimp only
              refine .inl ⟨hJ.1 11 _ rfl (hdep 11 rfl), ?_⟩
              have e63 := (ev 18 63 rfl (hdep 18 rfl)).trans (hJ.1 18 _ rfl (hdep 18 rfl))
              obtain ⟨q0, q1⟩ := HQ01.out X hJ.2
              go_simp
              exact ⟨_, rfl, hJ.up 19 rfl⟩
            · intro L V X a ev evo hL hdep hJ
              unfold GAct; dsimp only
              refine .inl ⟨hJ.1 11 _ rfl (hdep 11 rfl), ?_⟩
              have e60 := (ev 15 60 rfl (hdep 15 rfl)).trans (hJ.1 15 _ rfl (hdep 15 rfl))
              have e64 := (ev 19 64 rfl (hdep 19 rfl)).trans (hJ.1 19 _ rfl (hdep 19 rfl))
              go_simp
              refine (HC1.out X hJ.2).mono ?_
              rintro e wq ⟨rfl, sq⟩
              exact ⟨_, rfl, (hJ.step sq).up 20 rfl⟩
            · intro L V X a ev evo hL hdep hJ
              unfold GAct; dsimp only
              refine .inl ⟨hJ.1 11 _ rfl (hdep 11 rfl), ?_⟩
              have e65 := (ev 20 65 rfl (hdep 20 rfl)).trans (hJ.1 20 _ rfl (hdep 20 rfl))
              go_simp
              exact ⟨_, rfl, hJ.up 21 rfl⟩
            · intro L V X a ev evo hL hdep hJ
              unfold GAct; dsimp only
              have e56 := (ev 11 56 rfl (hdep 11 rfl)).trans (hJ.1 11 _ rfl (hdep 11 rfl))
              have e66 := (ev 21 66 rfl (hdep 21 rfl)).trans (hJ.1 21 _ rfl (hdep 21 rfl))
              go_simp
              exact ⟨_, rfl, hJ.up 22 rfl⟩
            · intro L V X a ev evo hL hdep hJ
              unfold GAct; dsimp only
              have e67 := (ev 22 67 rfl (hdep 22 rfl)).trans (hJ.1 22 _ rfl (hdep 22 rfl))
              go_simp
              exact ⟨_, rfl, hJ.up 23 rfl⟩
            · intro L V X a ev evo hL hdep hJ
              unfold GAct; dsimp only
              refine .inl ⟨hJ.1 23 _ rfl (hdep 23 rfl), ?_⟩
              have o6 := evo 6 rfl
              change a.tmps[6]?.getD undef = .slice (some ⟨go, 0, none⟩) b.code.length b.code.length at o6
              go_simp
              exact ⟨_, rfl, hJ.up 24 rfl⟩
            · intro L V X a ev evo hL hdep hJ
              unfold GAct; dsimp only
              refine .inl ⟨hJ.1 23 _ rfl (hdep 23 rfl), ?_⟩
              have o8 := evo 8 rfl
              change a.tmps[8]?.getD undef = .int .i64 (k : Int) at o8
              go_simp
              exact ⟨_, rfl, hJ.up 25 rfl⟩
            · intro L V X a ev evo hL hdep hJ
              unfold GAct; dsimp only
              refine .inl ⟨hJ.1 23 _ rfl (hdep 23 rfl), ?_⟩
              have e69 := (ev 24 69 rfl (hdep 24 rfl)).trans (hJ.1 24 _ rfl (hdep 24 rfl))
              have e70 := (ev 25 70 rfl (hdep 25 rfl)).trans (hJ.1 25 _ rfl (hdep 25 rfl))
              go_simp
              exact ⟨_, rfl, hJ.up 26 rfl⟩
            · intro L V X a ev evo hL hdep hJ
              unfold GAct; dsimp only
              refine .inl ⟨hJ.1 23 _ rfl (hdep 23 rfl), ?_⟩
              have e71 := (ev 26 71 rfl (hdep 26 rfl)).trans (hJ.1 26 _ rfl (hdep 26 rfl))
              obtain ⟨q0, q1⟩ := HQ01.out X hJ.2
              go_simp
              exact ⟨_, rfl, hJ.up 27 rfl⟩
            · intro L V X a ev evo hL hdep hJ
              unfold GAct; dsimp only
              refine .inl ⟨hJ.1 23 _ rfl (hdep 23 rfl), ?_⟩
              have o4 := evo 4 rfl
              change a.tmps[4]?.getD undef = .slice (some ⟨g, o, none⟩) b.code.length c4 at o4
              go_simp
              exact ⟨_, rfl, hJ.up 28 rfl⟩
            · intro L V X a ev evo hL hdep hJ
              unfold GAct; dsimp only
              refine .inl ⟨hJ.1 23 _ rfl (hdep 23 rfl), ?_⟩
              have o8 := evo 8 rfl
              change a.tmps[8]?.getD undef = .int .i64 (k : Int) at o8
              go_simp
              exact ⟨_, rfl, hJ.up 29 rfl⟩
            · intro L V X a ev evo hL hdep hJ
              unfold GAct; dsimp only
              refine .inl ⟨hJ.1 23 _ rfl (hdep 23 rfl), ?_⟩
              have e73 := (ev 28 73 rfl (hdep 28 rfl)).trans (hJ.1 28 _ rfl (hdep 28 rfl))
              have e74 := (ev 29 74 rfl (hdep 29 rfl)).trans (hJ.1 29 _ rfl (hdep 29 rfl))
              go_simp
              exact ⟨_, rfl, hJ.up 30 rfl⟩
            · intro L V X a ev evo hL hdep hJ
              unfold GAct; dsimp only
              refine .inl ⟨hJ.1 23 _ rfl (hdep 23 rfl), ?_⟩
              have e75 := (ev 30 75 rfl (hdep 30 rfl)).trans (hJ.1 30 _ rfl (hdep 30 rfl))
              obtain ⟨q0, q1⟩ := HQ01.out X hJ.2
              go_simp
              exact ⟨_, rfl, hJ.up 31 rfl⟩
            · intro L V X a ev evo hL hdep hJ
              unfold GAct; dsimp only
              refine .inl ⟨hJ.1 23 _ rfl (hdep 23 rfl), ?_⟩
              have e72 := (ev 27 72 rfl (hdep 27 rfl)).trans (hJ.1 27 _ rfl (hdep 27 rfl))
              have e76 := (ev 31 76 rfl (hdep 31 rfl)).trans (hJ.1 31 _ rfl (hdep 31 rfl))
              go_simp
              refine (HC2.out X hJ.2).mono ?_
              rintro e wq ⟨rfl, sq⟩
              exact ⟨_, rfl, (hJ.step sq).up 32 rfl⟩
            · intro L V X a ev evo hL hdep hJ
              unfold GAct; dsimp only
              refine .inl ⟨hJ.1 23 _ rfl (hdep 23 rfl), ?_⟩
              have e77 := (ev 32 77 rfl (hdep 32 rfl)).trans (hJ.1 32 _ rfl (hdep 32 rfl))
              go_simp
              exact ⟨_, rfl, hJ.up 33 rfl⟩
            · intro L V X a ev evo hL hdep hJ
              unfold GAct; dsimp only
              have e68 := (ev 23 68 rfl (hdep 23 rfl)).trans (hJ.1 23 _ rfl (hdep 23 rfl))
              have e78 := (ev 33 78 rfl (hdep 33 rfl)).trans (hJ.1 33 _ rfl (hdep 33 rfl))
              go_simp
              exact ⟨_, rfl, hJ.up 34 rfl⟩
          case hdone =>
            intro L V X hall hJ
            have h34 := hJ.1 34 _ rfl (hall 34 (by decide))
            have HSTX := Lib.hid hJ.2
            rw [show List.range 35 = [0, 1, 2, 3, 4, 5, 6, 7, 8, 9, 10, 11, 12, 13, 14, 15, 16, 17, 18, 19, 20, 21, 22, 23, 24, 25, 26, 27, 28, 29, 30, 31, 32, 33, 34] from rfl]
            simp only [putF, dstO, List.getElem?_toArray, List.getElem?_cons_zero, List.getElem?_cons_succ, Option.bind_some, Act.put, List.setIfInBounds_toArray, List.set_cons_zero, List.set_cons_succ, h34]
            clear hJ h34
            go_wp2_with fail
            go_meet
            case rel => exact ⟨rfl, HSTX.out⟩
        case rest =>
          obtain ⟨rfl, h9⟩ := hcut
          go_wp2_with fail
          go_roundg (gk - 1)
          case rel => exact ⟨k + 1, by go_num, hlt2, by rw [← Nat.sub_sub]; exact Nat.sub_le_sub_right hgg 1, HSTR.out.trans h9⟩
          case measure => exact HMM.out
      · obtain rfl : k = b.code.length := by omega
        go_wp2_with fail
        go_ret
        exact ⟨rfl, (HS2.out.trans HS4.out).trans hst⟩

end Go.Proofs.Ytilipeigjkmldaa
