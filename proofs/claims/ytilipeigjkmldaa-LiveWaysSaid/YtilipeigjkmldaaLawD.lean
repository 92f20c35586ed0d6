/- The law LiveWays, walked: it answers true. -/
import Derived.Test.YtilipeigjkmldaaLawC
import Derived.Test.YtilipeigjkmldaaLivW
namespace Go.Proofs.Ytilipeigjkmldaa
open Go.RowKit

theorem liveL_get {b : Bod} {p : Nat → Nat → Bool} {i : Nat} (hi : i < b.code.length) : (liveL b p)[i]? = some (ints ((List.range b.locals).filter (p i))) := by simp [liveL, hi]
theorem mem_ints {x : Nat} {l : List Nat} : ((x : Int) ∈ ints l) ↔ x ∈ l := by
  unfold ints
  constructor
  · intro h
    obtain ⟨y, h1, h2⟩ := List.mem_map.1 h
    have : y = x := by
      have h3 : ((y : Nat) : Int) = x := h2
      omega
    rw [← this]; exact h1
  · intro h
    exact List.mem_map.2 ⟨x, h, rfl⟩

set_option maxRecDepth 100000 in
set_option maxHeartbeats 8000000 in
theorem liveWays_any (B : Nat) (s : Shp) (v : Value) (xs : List Value) (w : World) (h1 : Each (CdAt w B) s.code xs) (h2 : Row w B v s.code.length xs) (hB : B ≤ w.heap.size) :
    Calls Try.prog 4 #[.agg #[.int .i64 s.params, v]] w (LawPost w) := by
  have H1 := Lib.hid h1
  have H2 := Lib.hid h2
  obtain ⟨a1, c1, rfl, -⟩ := h2
  have ST0 : Step (fun _ => False) w (w.alloc (.cells #[.int .i64 s.params, .slice a1 s.code.length c1] 24)) := (Step.refl _ _).alloc _
  have HST0 := Lib.hid ST0
  have HNB := Lib.hid (blk_new w (.cells #[.int .i64 s.params, .slice a1 s.code.length c1] 24))
  clear h1 ST0
  go_enter Try.func4, Try.ntmps4
  go_wp2_with fail
  refine (lived_any _).mono ?_
  rintro e w1 ⟨rfl, h1⟩
  have HS1 := Lib.hid (HST0.out.trans h1)
  have hb1 := h1.keep HNB.out (fun h => h)
  have d0 := blk_cell hb1 0 _ rfl
  have d1 := blk_cell hb1 1 _ rfl
  clear h1 hb1
  by_cases hlt : 8 < s.code.length
  · have e1 : decide (8 < s.code.length) = true := decide_eq_true hlt
    go_wp2_with fail
    refine (lived_any _).mono ?_
    rintro e w2 ⟨rfl, h2⟩
    go_wp2_with fail
    go_ret
    exact ⟨rfl, HS1.out.trans h2⟩
  · have e1 : decide (8 < s.code.length) = false := decide_eq_false hlt
    go_wp2_with fail
    refine (shBody_any B s _ xs w1 (Each.mono (CdAt.step HS1.out (fun _ _ h => h)) _ _ H1.out) (H2.out.step HS1.out (fun _ _ h => h)) (by omega) (Nat.le_trans hB HS1.out.size)).mono ?_
    rintro e w2 ⟨cs, rfl, hat, h2⟩
    obtain ⟨a2, c2, a3, c3, rfl⟩ := hat.parts
    obtain ⟨b, hb⟩ : ∃ b, b = shBod s := ⟨_, rfl⟩
    have HBL : Hid (b.code.length = s.code.length + 1) := by show _ = _; rw [hb, shBod_len]
    have HSM : Hid (BodSmall b) := by rw [hb]; exact shBod_small s
    have HOK : Hid (bodOk b) := by rw [hb]; exact shBod_ok s
    have HLC : Hid (b.locals = 4) := by rw [hb]; rfl
    rw [← hb] at hat
    rw [← hb]
    obtain ⟨n, hnn⟩ : ∃ n, n = b.code.length := ⟨_, rfl⟩
    obtain ⟨L, hLL⟩ : ∃ L, L = b.locals := ⟨_, rfl⟩
    have hn9 : n ≤ 9 := by have := HBL.out; omega
    have hL4 : L = 4 := by have := HLC.out; omega
    have hL5 : L ≤ 4 := by omega
    have HL4 := Lib.hid hL4
    rw [← hnn, ← hLL] at hat
    rw [← hnn, ← hLL]
    have HN := Lib.hid hnn
    have HLL := Lib.hid hLL
    have HAT := Lib.hid hat
    have STA : Step (fun _ => False) w2 (w2.alloc (.cells #[.string b.name, .int .i64 b.params, .slice a2 L c2, .slice a3 n c3] 29)) := (Step.refl _ _).alloc _
    have HSTA := Lib.hid STA
    have HNA := Lib.hid (blk_new w2 (.cells #[.string b.name, .int .i64 b.params, .slice a2 L c2, .slice a3 n c3] 29))
    have HS2 := Lib.hid (HS1.out.trans h2)
    have HBP : Hid (BodP (w2.alloc (.cells #[.string b.name, .int .i64 b.params, .slice a2 L c2, .slice a3 n c3] 29)) (w2.alloc (.cells #[.string b.name, .int .i64 b.params, .slice a2 L c2, .slice a3 n c3] 29)).heap.size w2.heap.size b) := BodP.of_at (BodAt.step STA (fun _ _ h => h) _ _ hat) HNA.out STA.size
    clear hb hat h2 STA d0 d1 hnn hLL hL4
    go_wp2_with fail
    refine (at_any _ w2.heap.size b _ HBP.out HSM.out (Nat.le_refl _) HOK.out (by have := HBL.out; omega) (by have := HLC.out; omega)).mono ?_
    rintro e w3 ⟨⟨v1, p, rfl, hr1, hp⟩, h3⟩
    have HP := Lib.hid hp
    have HS3 := Lib.hid (HSTA.out.trans h3)
    have HN3 := Lib.hid (h3.keep HNA.out (fun h => h))
    obtain ⟨al, cl, rfl, hel⟩ := hr1.elem
    have HEL := Lib.hid hel
    have hll : (liveL b p).length = n := by rw [liveL_len, HN.out]
    rw [hll]
    have b3 := blk_cell HN3.out 3 _ rfl
    have e2 : ((n : Int) != (n : Int)) = false := by simp
    obtain ⟨g3, hg3⟩ : ∃ g3, g3 = w2.heap.size := ⟨_, rfl⟩
    have HG3 := Lib.hid hg3
    rw [← hg3] at HN3 b3
    rw [← HG3.out]
    clear hr1 hp h3 hel hll hg3
    go_wp2_with fail
    clear b3
    go_loopg [6] n (fun gg s6 wr => ∃ i : Nat, s6 = .int .i64 i ∧ i ≤ n ∧ n - i ≤ gg ∧ Step (fun _ => False) w3 wr)
    case atStart => exact ⟨0, rfl, Nat.zero_le _, by omega, Step.refl _ _⟩
    case round =>
      obtain ⟨i, rfl, hi, hgg, hst⟩ := hrel
      have HST := Lib.hid hst
      have hn4 := hst.keep HN3.out (fun h => h)
      have b3 := blk_cell hn4 3 _ rfl
      clear hst hn4
      by_cases hin : i < n
      · obtain ⟨go1, rfl⟩ : ∃ go1, go1 = gk := ⟨_, rfl⟩
        have ha2 : n - (i + 1) ≤ go1 - 1 := by rw [← Nat.sub_sub]; exact Nat.sub_le_sub_right hgg 1
        have HMM : Hid (go1 - 1 < go1) := by show _ < _; omega
        have HIB : Hid (i < b.code.length) := by show _ < _; rw [← HN.out]; exact hin
        obtain ⟨l, hl⟩ : ∃ l, l = ints ((List.range b.locals).filter (p i)) := ⟨_, rfl⟩
        have hget : (liveL b p)[i]? = some l := by rw [hl]; exact liveL_get HIB.out
        obtain ⟨g, o, u, rfl, f1, r1⟩ := HEL.out i l hget
        have HF1 := Lib.hid f1
        have HR1 := Lib.hid r1
        have hll : l.length ≤ 4 := by
          rw [hl]
          have h1 := List.length_filter_le (p i) (List.range b.locals)
          rw [List.length_range] at h1
          have h2 := HLC.out
          simp [ints]; omega
        have HLM : Hid (∀ x : Nat, x < L → (l.any (fun y => y == (x : Int)) = p i x)) := by
          show ∀ x : Nat, _
          intro x hx
          have h1 : ((x : Int) ∈ l) ↔ p i x = true := by
            rw [hl, mem_ints, List.mem_filter, List.mem_range]
            have := HLL.out
            constructor
            · exact fun h => h.2
            · exact fun h => ⟨by omega, h⟩
          cases e : p i x with
          | true => exact List.any_eq_true.2 ⟨_, h1.2 e, by simp⟩
          | false =>
            cases e2 : l.any (fun y => y == (x : Int)) with
            | false => rfl
            | true =>
              obtain ⟨y, hy, he⟩ := List.any_eq_true.1 e2
              have : y = (x : Int) := by simpa using he
              rw [this] at hy
              rw [h1.1 hy] at e; cases e
        have hi0 : (0 : Int) ≤ (i : Int) := by omega
        have hi1 : (i : Int) < (n : Int) := by omega
        obtain ⟨au, cu, rfl, -⟩ := r1
        clear hget hl f1
        go_wp2_with fail
        clear b3
        go_loopg [7] L (fun gg s7 wr => ∃ x : Nat, s7 = .int .i64 x ∧ x ≤ L ∧ L - x ≤ gg ∧ Step (fun _ => False) w3 wr)
        case atStart => exact ⟨0, rfl, Nat.zero_le _, by omega, HST.out⟩
        case round =>
          obtain ⟨x, rfl, hx, hgg2, hst⟩ := hrel
          obtain ⟨w5, rfl⟩ : ∃ w5 : World, w5 = wr := ⟨_, rfl⟩
          have HST5 := Lib.hid hst
          have hn5 := hst.keep HN3.out (fun h => h)
          have HN5 := Lib.hid hn5
          have b2 := blk_cell hn5 2 _ rfl
          clear hst hn5
          by_cases hxl : x < L
          · obtain ⟨go2, rfl⟩ : ∃ go2, go2 = gk := ⟨_, rfl⟩
            have ha3 : L - (x + 1) ≤ go2 - 1 := by rw [← Nat.sub_sub]; exact Nat.sub_le_sub_right hgg2 1
            have HMM2 : Hid (go2 - 1 < go2) := by show _ < _; omega
            have f1 := HST5.out.cell HF1.out (fun h => h)
            have HR5 := Lib.hid (HR1.out.step HST5.out (fun _ _ h => h))
            have HPX := Lib.hid (HLM.out x hxl)
            obtain ⟨px, hpx⟩ : ∃ px, px = p i x := ⟨_, rfl⟩
            have HPV := Lib.hid hpx
            rw [← hpx] at HPX
            have HLV : Hid (Calls Try.prog 16 #[.agg #[.string b.name, .int .i64 b.params, .slice a2 L c2, .slice a3 n c3], .int .i64 i, .int .i64 x, .slice none 0 0] w5 (IsBool px w5)) := by
              have hs := HS3.out.trans HST5.out
              have h1 := liv_any b x HOK.out HSM.out (by have := HBL.out; omega) (by omega) (b.code.length + 1) w2.heap.size i [] [.string b.name, .int .i64 b.params, .slice a2 L c2, .slice a3 n c3] (.slice none 0 0) w5 (BodAt.step hs (fun _ _ h => h) _ _ HAT.out) hs.size (Row.nil _ _ _) HIB.out List.nodup_nil (fun _ h => nomatch h) (by simp)
              have h2 : liveR b x (b.code.length + 1) i [] = px := by
                have h3 := liveR_iff b HOK.out i x HIB.out
                have h4 := HP.out i x HIB.out
                rw [← HPV.out] at h4
                cases e1 : liveR b x (b.code.length + 1) i [] <;> cases px <;> simp_all
              rw [h2] at h1
              exact h1
            clear hpx
            go_upto_block 4 with fail
            go_cut [8] (fun s8 wx => s8 = .bool px ∧ wx = w5)
            case first =>
              go_wp2_with fail
              go_loopg [8, 9] l.length (fun gg s8 s9 wr => ∃ (k : Nat) (lv : Bool), s9 = .int .i64 k ∧ k ≤ l.length ∧ l.length - k ≤ gg ∧ s8 = .bool lv ∧ lv = (l.take k).any (fun y => y == (x : Int)) ∧ wr = w5)
              case atStart => exact ⟨0, false, rfl, Nat.zero_le _, by omega, rfl, rfl, rfl⟩
              case round =>
                obtain ⟨k, lv, rfl, hk, hgg3, rfl, hlv, rfl⟩ := hrel
                have HLVV := Lib.hid hlv
                clear hlv
                by_cases hkl : k < l.length
                · obtain ⟨y, hy⟩ : ∃ y, l[k]? = some y := ⟨_, List.getElem?_eq_getElem hkl⟩
                  obtain ⟨a', c', hva, -, -, -, hcell⟩ := HR5.out
                  obtain ⟨rfl, rfl⟩ : au = a' ∧ cu = c' := by cases hva; exact ⟨rfl, rfl⟩
                  obtain ⟨gu, ou, rfl, -, -, hc⟩ := hcell (by omega)
                  have f2 := hc k _ (intsV_get l k y hy)
                  have HT : Hid ((l.take (k + 1)).any (fun y => y == (x : Int)) = (lv || (y == (x : Int)))) := by
                    show _ = _
                    obtain ⟨hk', rfl⟩ := List.getElem?_eq_some_iff.1 hy
                    rw [List.take_succ_eq_append_getElem hk', List.any_append, ← HLVV.out]; simp
                  have hk0 : (0 : Int) ≤ (k : Int) := by omega
                  have hk1 : (k : Int) < (l.length : Int) := by omega
                  clear hc hy hcell hva
                  cases lv with
                  | true =>
                    go_wp2
                    go_roundg (gk - 1)
                    case rel => exact ⟨k + 1, true, by go_num, hkl, by rw [← Nat.sub_sub]; exact Nat.sub_le_sub_right hgg3 1, rfl, by rw [HT.out]; rfl, rfl⟩
                    case measure => omega
                  | false =>
                    by_cases hyx : y = (x : Int)
                    · have e3 : (y == (x : Int)) = true := by simpa using hyx
                      have HE3 := Lib.hid e3
                      clear hyx
                      go_wp2
                      go_roundg (gk - 1)
                      case rel => exact ⟨k + 1, true, by go_num, hkl, by rw [← Nat.sub_sub]; exact Nat.sub_le_sub_right hgg3 1, rfl, by rw [HT.out, HE3.out]; rfl, rfl⟩
                      case measure => omega
                    · have e3 : (y == (x : Int)) = false := by simpa using hyx
                      have HE3 := Lib.hid e3
                      clear hyx
                      go_wp2
                      go_roundg (gk - 1)
                      case rel => exact ⟨k + 1, false, by go_num, hkl, by rw [← Nat.sub_sub]; exact Nat.sub_le_sub_right hgg3 1, rfl, by rw [HT.out, HE3.out]; rfl, rfl⟩
                      case measure => omega
                · obtain rfl : k = l.length := by omega
                  have HF : Hid (lv = px) := by show _ = _; rw [HLVV.out, List.take_length, HPX.out]
                  go_wp2_with fail
                  go_meet
                  case rel => exact ⟨by rw [HF.out], rfl⟩
            case rest =>
              obtain ⟨rfl, rfl⟩ := hcut
              have d0 := blk_cell HN5.out 0 _ rfl
              have d1 := blk_cell HN5.out 1 _ rfl
              have d3 := blk_cell HN5.out 3 _ rfl
              have e4 : (px != px) = false := by simp
              clear f1
              go_wp2_with fail
              refine HLV.out.mono ?_
              rintro e w6 ⟨rfl, h6⟩
              go_wp2_with fail
              go_roundg (go2 - 1)
              case rel => exact ⟨x + 1, by go_num, hxl, ha3, HST5.out.trans h6⟩
              case measure => exact HMM2.out
          · obtain rfl : x = L := by omega
            go_wp2_with fail
            go_roundg (go1 - 1)
            case rel => exact ⟨i + 1, by go_num, hin, ha2, HST5.out⟩
            case measure => exact HMM.out
      · obtain rfl : i = n := by omega
        go_wp2_with fail
        go_ret
        exact ⟨rfl, (HS2.out.trans HS3.out).trans HST.out⟩

end Go.Proofs.Ytilipeigjkmldaa
