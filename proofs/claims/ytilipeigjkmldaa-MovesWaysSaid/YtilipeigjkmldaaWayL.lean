/- chattelref19.Ways; the law MovesWays: it answers true. -/
import Derived.Test.YtilipeigjkmldaaWayG
import Derived.Test.YtilipeigjkmldaaMovABC
namespace Go.Proofs.Ytilipeigjkmldaa
open Go.RowKit

def WaysPost (b : Bod) (w : World) (e : Ending) (w' : World) : Prop :=
  (∃ (g : Nat) (o : List Bool), e = .returned (.slice (some ⟨g, 0, none⟩) b.code.length b.code.length) ∧ w'.heap[g]? = some (boolsO o) ∧ o.length = b.code.length ∧ ∀ j, j < b.code.length → o.getD j false = wayF b 12 0 (firstTo b b.locals) j) ∧ Step (fun _ => False) w w'

set_option maxRecDepth 100000 in
set_option maxHeartbeats 8000000 in
theorem ways_any (B : Nat) (b : Bod) (bs : List Value) (w : World) (h : BodAt w B b bs) (hs : BodSmall b) (hok : bodOk b) (hacc : ∀ i, (accB b i).length ≤ 100) (hp : ∀ i a, a ∈ accB b i → a.pl.path.length ≤ 1000000) (hn : b.code.length ≤ 100000) (hl : b.locals ≤ 1000) (hpos : 0 < b.code.length) (hB : B ≤ w.heap.size) :
    Calls Try.prog 23 #[.agg bs.toArray, .int .i64 12] w (WaysPost b w) := by
  have H := Lib.hid h
  have HSM := Lib.hid hs
  have HOK := Lib.hid hok
  have HACC := Lib.hid hacc
  have HP := Lib.hid hp
  obtain ⟨a1, c1, a2, c2, rfl⟩ := h.parts
  have hmk := run_makeBools b.code.length (by omega)
  obtain ⟨w2, hw2⟩ : ∃ w2 : World, w2 = (w.alloc (.cells #[.string b.name, .int .i64 b.params, .slice a1 b.locals c1, .slice a2 b.code.length c2] 29)).alloc (.cells (Array.replicate b.code.length (Value.bool false)) 4) := ⟨_, rfl⟩
  have HST2 : Hid (Step (fun _ => False) w w2) := by show Step _ _ _; rw [hw2]; exact ((Step.refl _ _).alloc _).alloc _
  have HB2 : Hid (w2.heap[w.heap.size]? = some (.cells #[.string b.name, .int .i64 b.params, .slice a1 b.locals c1, .slice a2 b.code.length c2] 29 (0, 0))) := by show _ = _; rw [hw2]; exact blk_alloc (blk_new w _)
  have HO2 : Hid (w2.heap[w.heap.size + 1]? = some (boolsO (List.replicate b.code.length false))) := by show _ = _; rw [hw2, repl_bools]; exact blk_new2 _ _ _
  have HW2 := Lib.hid hw2
  have b3 : (w.alloc (.cells #[.string b.name, .int .i64 b.params, .slice a1 b.locals c1, .slice a2 b.code.length c2] 29)).cell? ⟨w.heap.size, 3, none⟩ = some (.slice a2 b.code.length c2) := blk_cell (blk_new w _) 3 _ rfl
  have HKB : Hid (∀ X : World, Step (fun _ => False) w2 X → X.cell? ⟨w.heap.size, 0, none⟩ = some (.string b.name) ∧ X.cell? ⟨w.heap.size, 1, none⟩ = some (.int .i64 b.params) ∧ X.cell? ⟨w.heap.size, 2, none⟩ = some (.slice a1 b.locals c1) ∧ X.cell? ⟨w.heap.size, 3, none⟩ = some (.slice a2 b.code.length c2)) := by
    show ∀ X, _
    intro X hX
    have hb := hX.keep HB2.out (fun h => h)
    exact ⟨blk_cell hb 0 _ rfl, blk_cell hb 1 _ rfl, blk_cell hb 2 _ rfl, blk_cell hb 3 _ rfl⟩
  have HBX : Hid (∀ X : World, Step (fun _ => False) w2 X → BodAt X B b [.string b.name, .int .i64 b.params, .slice a1 b.locals c1, .slice a2 b.code.length c2]) := by
    show ∀ X, _
    intro X hX
    exact BodAt.step (HST2.out.trans hX) (fun _ _ h => h) _ _ H.out
  have HFIR : Hid (∀ X : World, Step (fun _ => False) w2 X → Calls Try.prog 46 #[.agg #[.string b.name, .int .i64 b.params, .slice a1 b.locals c1, .slice a2 b.code.length c2]] X (PlsOwn X.heap.size B (firstTo b b.locals) X)) := by
    show ∀ X, _
    intro X hX
    exact first_any B b _ X (HBX.out X hX) (by omega)
  have HGO : Hid (∀ (X X8 : World) (u8 : Value) (xs8 : List Value), Step (fun _ => False) w2 X → Step (fun _ => False) X X8 → Each (PlAt X8 B) (firstTo b b.locals) xs8 → X8.ownsRow X.heap.size 47 2 u8 (firstTo b b.locals).length xs8 → Calls Try.prog 45 #[.agg #[.string b.name, .int .i64 b.params, .slice a1 b.locals c1, .slice a2 b.code.length c2], .int .i64 0, u8, .int .i64 12, .slice (some ⟨w.heap.size + 1, 0, none⟩) b.code.length b.code.length] X8 (Go1Post b (w.heap.size + 1) 12 0 (firstTo b b.locals) (List.replicate b.code.length false) X8)) := by
    show ∀ X X8 u8 xs8, _
    intro X X8 u8 xs8 hX h8 hx8 hr8
    have h28 := hX.trans h8
    have hlen := firstTo_len b b.locals
    have hsz := blk_lt HO2.out
    have hsz2 := hX.size
    refine go1_any B (w.heap.size + 1) b _ HSM.out HOK.out HACC.out HP.out (by omega) 12 0 _ xs8 u8 X8.heap.size _ X8 (by omega) hpos (HBX.out _ h28) hx8 (Row.of_owns hr8 (Nat.le_refl _)) (Nat.le_refl _) (by omega) (fun _ q hq e => ?_) (h28.keep HO2.out (fun h => h)) (by simp)
    have := (hr8.lt q hq).1
    omega
  have HFIN : Hid (∀ (X : World), Step (fun _ => False) w2 X → ∀ Y, Step (· = w.heap.size + 1) X Y → Step (fun _ => False) w Y) := by
    show ∀ X, _
    intro X hX Y hY
    exact (HST2.out.trans hX).then hY (fun q hq e => by omega)
  have HREP : Hid (∀ j, (List.replicate b.code.length false).getD j false = false) := by
    show ∀ j, _
    intro j
    rw [List.getD_eq_getElem?_getD, List.getElem?_replicate]; split <;> rfl
  clear h hs hok hacc hp hw2
  go_enter Try.func23, Try.ntmps23
  go_upto_region 2 with fail
  rw [← HW2.out]
  obtain ⟨d0, d1, d2, d3⟩ := HKB.out w2 (Step.refl _ _)
  clear hmk b3
  go_cut [] (fun wx => ∃ X, Step (fun _ => False) w2 X ∧ ∃ X8, Step (fun _ => False) X X8 ∧ (∃ o', wx.heap[w.heap.size + 1]? = some (boolsO o') ∧ o'.length = b.code.length ∧ ∀ j, j < b.code.length → o'.getD j false = wayF b 12 0 (firstTo b b.locals) j) ∧ Step (· = w.heap.size + 1) X8 wx)
  case first =>
    first
    | (go_region_law (first
        | (go_simp
           go_at_call 45
           refine (HGO.out _ w8 _ xs8 ((Step.refl _ _).drew) S8.out HX8.out HR8.out).mono ?_
           rintro e9 w9 ⟨rfl, ⟨o9, ho9, hol9, hob9⟩, s9⟩
           have HEND : Hid (∃ o', w9.heap[w.heap.size + 1]? = some (boolsO o') ∧ o'.length = b.code.length ∧ ∀ j, j < b.code.length → o'.getD j false = wayF b 12 0 (firstTo b b.locals) j) := ⟨o9, ho9, hol9, fun j hj => by rw [hob9 j hj, HREP.out j, Bool.false_or]⟩
           have S9 := Lib.hid s9
           clear ho9 hol9 hob9 s9)
        | (go_simp
           go_at_call 46
           refine (HFIR.out _ ((Step.refl _ _).drew)).mono ?_
           rintro e8 w8 ⟨⟨u8, xs8, rfl, hx8, hr8⟩, s8⟩
           have HX8 := Lib.hid hx8
           have HR8 := Lib.hid hr8
           have S8 := Lib.hid s8
           obtain ⟨v0, v1, rfl⟩ := owns_slice hr8
           clear d0 d1 d2 d3
           obtain ⟨d0, d1, d2, d3⟩ := HKB.out _ (((Step.refl _ _).drew).trans s8)
           clear hx8 hr8 s8)))
    | fail
    all_goals (
      clear d0 d1 d2 d3
      go_wp2_with fail
      go_meet
      case rel => exact ⟨_, (Step.refl _ _).drew, _, S8.out, HEND.out, S9.out⟩)
  case rest =>
    obtain ⟨X, hX, X8, h8, ⟨o', ho', hol', hob'⟩, h9⟩ := hcut
    have HO := Lib.hid ho'
    have HOB := Lib.hid hob'
    have HS := Lib.hid (HFIN.out X8 (hX.trans h8) _ h9)
    have HOL := Lib.hid hol'
    clear ho' hob' hX h8 h9 d0 d1 d2 d3 hol'
    go_wp2_with fail
    go_ret
    exact ⟨⟨_, o', rfl, HO.out, HOL.out, HOB.out⟩, HS.out⟩

theorem shBod_acc100 (s : Shp) (i : Nat) : (accB (shBod s) i).length ≤ 100 := Nat.le_trans (shBod_acc s i) (by omega)

set_option maxRecDepth 100000 in
set_option maxHeartbeats 8000000 in
theorem movesWays_any (B : Nat) (s : Shp) (v : Value) (xs : List Value) (w : World) (h1 : Each (CdAt w B) s.code xs) (h2 : Row w B v s.code.length xs) (hB : B ≤ w.heap.size) :
    Calls Try.prog 8 #[.agg #[.int .i64 s.params, v]] w (LawPost w) := by
  have H1 := Lib.hid h1
  have H2 := Lib.hid h2
  obtain ⟨a1, c1, rfl, -⟩ := h2
  have ST0 : Step (fun _ => False) w (w.alloc (.cells #[.int .i64 s.params, .slice a1 s.code.length c1] 24)) := (Step.refl _ _).alloc _
  have HST0 := Lib.hid ST0
  have HNB := Lib.hid (blk_new w (.cells #[.int .i64 s.params, .slice a1 s.code.length c1] 24))
  clear h1 ST0
  go_enter Try.func8, Try.ntmps8
  go_wp2_with fail
  refine (moved_any _).mono ?_
  rintro e w1 ⟨rfl, h1⟩
  have HS1 := Lib.hid (HST0.out.trans h1)
  have hb1 := h1.keep HNB.out (fun h => h)
  have d0 := blk_cell hb1 0 _ rfl
  have d1 := blk_cell hb1 1 _ rfl
  clear h1 hb1
  by_cases hlt : 5 < s.code.length
  · have e1 : decide (5 < s.code.length) = true := decide_eq_true hlt
    go_wp2_with fail
    refine (moved_any _).mono ?_
    rintro e w2 ⟨rfl, h2⟩
    go_wp2_with fail
    go_ret
    exact ⟨rfl, HS1.out.trans h2⟩
  · have e1 : decide (5 < s.code.length) = false := decide_eq_false hlt
    go_wp2_with fail
    refine (shBody_any B s _ xs w1 (Each.mono (CdAt.step HS1.out (fun _ _ h => h)) _ _ H1.out) (H2.out.step HS1.out (fun _ _ h => h)) (by omega) (Nat.le_trans hB HS1.out.size)).mono ?_
    rintro e w2 ⟨cs, rfl, hat, h2⟩
    obtain ⟨a2, c2, a3, c3, rfl⟩ := hat.parts
    have HWT := Lib.hid (shBod_want s (by omega))
    have HPT := Lib.hid (shBod_path s)
    have HAC := Lib.hid (shBod_acc100 s)
    have HBL : Hid ((shBod s).code.length = s.code.length + 1) := by show _ = _; rw [shBod_len]
    have HSM : Hid (BodSmall (shBod s)) := shBod_small s
    have HOK : Hid (bodOk (shBod s)) := shBod_ok s
    have HLO : Hid ((shBod s).locals ≤ 1000) := by show (4 : Nat) ≤ 1000; omega
    obtain ⟨b, hb⟩ : ∃ b, b = shBod s := ⟨_, rfl⟩
    rw [← hb] at hat HWT HPT HBL HSM HOK HAC HLO
    rw [← hb]
    have HAT := Lib.hid hat
    have STA : Step (fun _ => False) w2 (w2.alloc (.cells #[.string b.name, .int .i64 b.params, .slice a2 b.locals c2, .slice a3 b.code.length c3] 29)) := (Step.refl _ _).alloc _
    have HSTA := Lib.hid STA
    have HNA := Lib.hid (blk_new w2 (.cells #[.string b.name, .int .i64 b.params, .slice a2 b.locals c2, .slice a3 b.code.length c3] 29))
    have HS2 := Lib.hid (HS1.out.trans h2)
    have HBP : Hid (BodP (w2.alloc (.cells #[.string b.name, .int .i64 b.params, .slice a2 b.locals c2, .slice a3 b.code.length c3] 29)) (w2.alloc (.cells #[.string b.name, .int .i64 b.params, .slice a2 b.locals c2, .slice a3 b.code.length c3] 29)).heap.size w2.heap.size b) := BodP.of_at (BodAt.step STA (fun _ _ h => h) _ _ hat) HNA.out STA.size
    clear hb hat h2 STA d0 d1
    go_wp2_with fail
    refine (mcheck_any _ w2.heap.size b _ HBP.out HSM.out (Nat.le_refl _) HOK.out (by have := HBL.out; omega) HWT.out HPT.out).mono ?_
    rintro e w3 ⟨⟨v1, p, rfl, hr1, hp⟩, h3⟩
    have HR1 := Lib.hid hr1
    have HP := Lib.hid hp
    have HS3 := Lib.hid (HSTA.out.trans h3)
    have hn3 := h3.keep HNA.out (fun h => h)
    obtain ⟨fl, hfl⟩ : ∃ fl, fl = (List.range b.code.length).filter p := ⟨_, rfl⟩
    rw [← hfl] at HR1
    have HFL := Lib.hid hfl
    have hfll : fl.length ≤ 6 := by
      have h5 := HBL.out
      rw [hfl]; exact Nat.le_trans (List.length_filter_le ..) (by rw [List.length_range]; omega)
    have HRF : Hid (∀ w', Step (fun _ => False) w3 w' → Row w' w'.heap.size v1 fl.length (intsV (ints fl))) := by
      show ∀ w', _
      intro w' hw'
      have h5 := HR1.out.step hw' (fun _ _ h => h)
      rw [ints_len] at h5
      exact h5.mono hw'.size
    obtain ⟨v2, v3, rfl, -⟩ := (HRF.out w3 (Step.refl _ _))
    have b0 := blk_cell hn3 0 _ rfl
    have b1 := blk_cell hn3 1 _ rfl
    have b2 := blk_cell hn3 2 _ rfl
    have b3 := blk_cell hn3 3 _ rfl
    clear hr1 hp h3 hn3 hfl
    go_wp2_with fail
    refine (ways_any w2.heap.size b [.string b.name, .int .i64 b.params, .slice a2 b.locals c2, .slice a3 b.code.length c3] w3 (BodAt.step HS3.out (fun _ _ h => h) _ _ HAT.out) HSM.out HOK.out HAC.out HPT.out (by have := HBL.out; omega) HLO.out (by have := HBL.out; omega) HS3.out.size).mono ?_
    rintro e w4 ⟨⟨g, o, rfl, ho, hol, hob⟩, h4⟩
    have HEQ : Hid (∀ i, i < b.code.length → o.getD i false = p i) := by
      show ∀ i, _
      intro i hi
      have h5 := HP.out i hi
      have h6 := wayF_iff HOK.out (by have := HBL.out; omega) (by have := HBL.out; omega) i
      rw [hob i hi]
      cases e1 : wayF b 12 0 (firstTo b b.locals) i <;> cases e2 : p i <;> simp_all
    have HO := Lib.hid ho
    have HOL := Lib.hid hol
    have HS4 := Lib.hid (HS3.out.trans h4)
    have H4 := Lib.hid h4
    have hcn : b.code.length ≤ 6 := by have := HBL.out; omega
    clear ho hol hob h4 b0 b1 b2 b3
    go_wp2_with fail
    go_loopg [7, 8, 9] b.code.length (fun gg s7 _ _ wr => ∃ i : Nat, s7 = .int .i64 i ∧ i ≤ b.code.length ∧ b.code.length - i ≤ gg ∧ Step (fun _ => False) w4 wr)
    case atStart => exact ⟨0, rfl, Nat.zero_le _, by omega, Step.refl _ _⟩
    case round =>
      obtain ⟨i, rfl, hi, hgg, hst⟩ := hrel
      have HST := Lib.hid hst
      obtain ⟨go1, rfl⟩ : ∃ go1, go1 = gk := ⟨_, rfl⟩
      obtain ⟨wo, rfl⟩ : ∃ wo : World, wo = wr := ⟨_, rfl⟩
      clear hst
      by_cases hil : i < b.code.length
      · obtain ⟨ob, hob⟩ : ∃ ob, o[i]? = some ob := ⟨_, List.getElem?_eq_getElem (by rw [HOL.out]; exact hil)⟩
        have HOI : Hid (∀ X, Step (fun _ => False) wo X → X.cell? ⟨g, i, none⟩ = some (.bool ob)) := by
          show ∀ X, _
          intro X hX
          exact bools_cell ((HST.out.trans hX).keep HO.out (fun h => h)) hob
        have HOP : Hid (ob = p i) := by
          show _ = _
          rw [← HEQ.out i hil, List.getD_eq_getElem?_getD, hob]; rfl
        have hi0 : (0 : Int) ≤ (i : Int) := by omega
        have hi1 : (i : Int) < (b.code.length : Int) := by omega
        clear hob
        go_wp2_with fail
        go_loopg [8, 9] fl.length (fun gg s8 s9 wr => ∃ k : Nat, s9 = .int .i64 k ∧ k ≤ fl.length ∧ fl.length - k ≤ gg ∧ s8 = .bool ((fl.take k).any (fun x => decide (x = i))) ∧ Step (fun _ => False) wo wr)
        case atStart => exact ⟨0, rfl, Nat.zero_le _, by omega, rfl, Step.refl _ _⟩
        case round =>
          obtain ⟨k, rfl, hk, hgg2, rfl, hst5⟩ := hrel
          have HST5 := Lib.hid hst5
          obtain ⟨bd, hbd⟩ : ∃ bd, bd = (fl.take k).any (fun x => decide (x = i)) := ⟨_, rfl⟩
          have HBD := Lib.hid hbd
          rw [← hbd]
          clear hbd hst5
          by_cases hkl : k < fl.length
          · obtain ⟨x, hx⟩ : ∃ x, fl[k]? = some x := ⟨_, List.getElem?_eq_getElem hkl⟩
            obtain ⟨a', c', hva, -, -, -, hrr⟩ := HRF.out wr ((H4.out.trans HST.out).trans HST5.out)
            obtain ⟨rfl, rfl⟩ : v2 = a' ∧ v3 = c' := by cases hva; exact ⟨rfl, rfl⟩
            obtain ⟨gL, oL, rfl, -, -, hcell⟩ := hrr (by omega)
            have f0 := hcell k _ (intsV_get (ints fl) k (x : Int) (by simp [ints, hx]))
            have HTK : Hid ((fl.take (k + 1)).any (fun x => decide (x = i)) = (bd || decide (x = i))) := by
              show _ = _
              obtain ⟨hj', hja⟩ := List.getElem?_eq_some_iff.1 hx
              rw [List.take_succ_eq_append_getElem hj', hja, List.any_append, ← HBD.out]; simp
            obtain ⟨bx, hbx⟩ : ∃ bx, ((x : Int) == (i : Int)) = bx := ⟨_, rfl⟩
            have HBX : Hid (decide (x = i) = bx) := by
              show _ = _
              rw [← hbx]
              by_cases e : x = i
              · subst e; simp
              · have : ¬ (x : Int) = (i : Int) := by omega
                simp [e, this]
            have hk0 : (0 : Int) ≤ (k : Int) := by omega
            have hk1 : (k : Int) < (fl.length : Int) := by omega
            clear hx hva hrr hcell
            cases bd with
            | true =>
              go_wp2_with fail
              go_roundg (gk - 1)
              case rel => exact ⟨k + 1, by go_num, by omega, by omega, by rw [HTK.out]; rfl, HST5.out⟩
              case measure => omega
            | false =>
              go_wp2_with fail
              go_roundg (gk - 1)
              case rel => exact ⟨k + 1, by go_num, by omega, by omega, by rw [HTK.out, HBX.out]; rfl, HST5.out⟩
              case measure => omega
          · have HBP2 : Hid (bd = ob) := by
              show _ = _
              rw [HBD.out, List.take_of_length_le (by omega), HOP.out, HFL.out]
              cases e : p i with
              | true => exact List.any_eq_true.2 ⟨i, List.mem_filter.2 ⟨List.mem_range.2 hil, e⟩, by simp⟩
              | false =>
                rw [Bool.eq_false_iff]
                intro hany
                obtain ⟨x, hx, hxe⟩ := List.any_eq_true.1 hany
                have hxe2 : x = i := by simpa using hxe
                rw [hxe2] at hx
                have h9 := (List.mem_filter.1 hx).2
                rw [e] at h9; cases h9
            have c0 := HOI.out wr HST5.out
            obtain rfl : bd = ob := HBP2.out
            cases bd with
            | true =>
              go_wp2_with fail
              go_roundg (go1 - 1)
              case rel => exact ⟨i + 1, by go_num, by omega, by omega, HST.out.trans HST5.out⟩
              case measure => omega
            | false =>
              go_wp2_with fail
              go_roundg (go1 - 1)
              case rel => exact ⟨i + 1, by go_num, by omega, by omega, HST.out.trans HST5.out⟩
              case measure => omega
      · go_wp2_with fail
        go_ret
        exact ⟨rfl, (HS2.out.trans HS4.out).trans HST.out⟩

end Go.Proofs.Ytilipeigjkmldaa
