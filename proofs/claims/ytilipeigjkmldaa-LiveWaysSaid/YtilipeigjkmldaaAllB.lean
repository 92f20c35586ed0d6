/- Contract of chattelref20.All: the locals that are live ahead of each instruction. -/
import Derived.Test.YtilipeigjkmldaaAllM
import Derived.Test.YtilipeigjkmldaaRefA
namespace Go.Proofs.Ytilipeigjkmldaa
open Go.RowKit

set_option maxRecDepth 100000 in
set_option maxHeartbeats 16000000 in
theorem all_any (B : Nat) (b : Bod) (bs : List Value) (w : World) (h : BodAt w B b bs) (hs : BodSmall b) (hB : B ≤ w.heap.size) (hok : bodOk b) (hn : b.code.length ≤ 100000) :
    Calls Try.prog 14 #[.agg bs.toArray] w (AllPost b w) := by
  have HAT := Lib.hid h
  have HSM := Lib.hid hs
  have HOK := Lib.hid hok
  obtain ⟨vl, vc, xl, xs, rfl, ⟨a1, c1, rfl, -⟩, hxs, hrw⟩ := h
  have HXS := Lib.hid hxs
  have HRW := Lib.hid hrw
  obtain ⟨a2, c2, rfl, -⟩ := hrw
  obtain ⟨n, hnn⟩ : ∃ n, n = b.code.length := ⟨_, rfl⟩
  obtain ⟨L, hLL⟩ : ∃ L, L = b.locals := ⟨_, rfl⟩
  have HN := Lib.hid hnn
  have HLL := Lib.hid hLL
  have hn1 : n ≤ 100000 := by omega
  have hl1 : L ≤ 100000 := by rw [hLL]; exact hs.1
  rw [← hnn] at HRW
  rw [← hnn, ← hLL] at HAT ⊢
  obtain ⟨i0, hi0, hz0, hz1, hz2⟩ := info_parts Try.infoIntsL
  have HI := Lib.hid hi0
  have HZ0 := Lib.hid hz0
  have HZ1 := Lib.hid hz1
  have HZ2 := Lib.hid hz2
  obtain ⟨j0, hj0, hy0, hy1, hy2⟩ := info_parts Try.infoInt
  have HJ := Lib.hid hj0
  have HY0 := Lib.hid hy0
  have HY1 := Lib.hid hy1
  have HY2 := Lib.hid hy2
  have hmk := run_makeRows n (by omega)
  have hmb := Lib.hid (run_makeBools L (by omega))
  obtain ⟨w1, hw1⟩ : ∃ w1 : World, w1 = (w.alloc (.cells #[.string b.name, .int .i64 b.params, .slice a1 L c1, .slice a2 n c2] 29)).alloc (.cells (Array.replicate n (Value.slice none 0 0)) 62) := ⟨_, rfl⟩
  obtain ⟨gm, hgm⟩ : ∃ gm, gm = w.heap.size + 1 := ⟨_, rfl⟩
  have HGM := Lib.hid hgm
  have HST1 : Hid (Step (fun _ => False) w w1) := by show Step _ _ _; rw [hw1]; exact ((Step.refl _ _).alloc _).alloc _
  have HBOX1 : Hid (w1.heap[w.heap.size]? = some (.cells #[.string b.name, .int .i64 b.params, .slice a1 L c1, .slice a2 n c2] 29 (0, 0))) := by show _ = _; rw [hw1]; exact blk_alloc (blk_new w _)
  have HGM1 : Hid (MatTo w1 gm n L []) := ⟨by rw [hw1, hgm]; have := blk_new2 w (.cells #[.string b.name, .int .i64 b.params, .slice a1 L c1, .slice a2 n c2] 29) (.cells (Array.replicate n (Value.slice none 0 0)) 62); simpa [rowsV] using this, (fun g hg => nomatch hg), List.nodup_nil⟩
  have HSZ1 : Hid (w1.heap.size = gm + 1) := by show _ = _; rw [hw1, hgm]; simp
  have HW1 := Lib.hid hw1
  clear hw1 hi0 hz0 hz1 hz2 hj0 hy0 hy1 hy2 hs hok hxs hnn hLL hn hgm
  go_enter Try.func14, Try.ntmps14
  go_upto_region 3 with fail
  rw [← HGM.out, ← HW1.out]
  clear hmk
  go_wp2_with fail
  go_loopg [5] n (fun gg s5 wr => ∃ (gs : List Nat), s5 = .int .i64 gs.length ∧ gs.length ≤ n ∧ n - gs.length ≤ gg ∧ MatTo wr gm n L gs ∧ (∀ g ∈ gs, w1.heap.size ≤ g) ∧ Step (· = gm) w1 wr)
  case atStart => exact ⟨[], rfl, Nat.zero_le _, by omega, HGM1.out, (fun g hg => nomatch hg), Step.refl _ _⟩
  case round =>
    obtain ⟨gs, rfl, hk, hgg, hmt, hge, hst⟩ := hrel
    have HMT := Lib.hid hmt
    have HGE := Lib.hid hge
    have HST := Lib.hid hst
    have hbox := hst.keep HBOX1.out (by have := HGM.out; omega)
    have HBOX := Lib.hid hbox
    clear hmt hge hst
    by_cases hlt : gs.length < n
    · have d2 := blk_cell hbox 2 _ rfl
      have hmb := hmb.out
      have hi0 : (0 : Int) ≤ (gs.length : Int) := by omega
      have hi1 : (gs.length : Int) < (n : Int) := by omega
      have f1 : (wr.alloc (.cells (Array.replicate L (Value.bool false)) 4)).cell? ⟨gm, gs.length, none⟩ = some (.slice none 0 0) := by
        refine blk_cell (blk_alloc HMT.out.blk) gs.length _ ?_
        obtain ⟨r, hr⟩ : ∃ r, n - gs.length = r + 1 := ⟨n - gs.length - 1, by omega⟩
        have e1 : (rowsV L gs).length = gs.length := by simp [rowsV]
        rw [List.getElem?_toArray, List.getElem?_append_right (by omega), e1, Nat.sub_self, hr]; rfl
      have f2 : (wr.alloc (.cells (Array.replicate L (Value.bool false)) 4)).frozen? ⟨gm, gs.length, none⟩ = false := blk_free (blk_alloc HMT.out.blk) _
      clear hbox
      go_wp2_with fail
      go_roundg (gk - 1)
      case rel =>
        have hsz := HST.out.size
        refine ⟨gs ++ [wr.heap.size], by rw [List.length_append]; go_num, by rw [List.length_append]; exact hlt, by rw [List.length_append, ← Nat.sub_sub]; exact Nat.sub_le_sub_right hgg 1, HMT.out.next hlt, fun g hg => ?_, (HST.out.alloc _).setCell _ _ (fun _ => rfl)⟩
        rcases List.mem_append.1 hg with hg | hg
        · exact HGE.out g hg
        · rw [List.mem_singleton.1 hg]; exact hsz
      case measure => omega
    · have hgl : gs.length = n := by omega
      have HGL := Lib.hid hgl
      have HMA := Lib.hid (HMT.out.done hgl)
      have HGEW : Hid (∀ g ∈ gs, w.heap.size < g ∧ gm < g) := by
        show ∀ g ∈ gs, _
        intro g hg
        have h1 := HGE.out g hg
        have h2 := HSZ1.out
        have h3 := HGM.out
        omega
      have HSTW2 : Hid (Step (fun _ => False) w wr) := HST1.out.then HST.out (fun i hi e => by have := HGM.out; omega)
      obtain ⟨w2, rfl⟩ : ∃ w2 : World, w2 = wr := ⟨_, rfl⟩
      obtain ⟨go0, rfl⟩ : ∃ go0, go0 = gk := ⟨_, rfl⟩
      clear hbox hgl hgg
      go_wp2_with fail
      go_loopg [6] (falses (zeroM n L) + 1) (fun gg s6 wr => ∃ (ag : Bool) (m : List (List Bool)), s6 = .bool ag ∧ falses m + (if ag = true then 1 else 0) ≤ gg ∧ MatAt wr gm gs L m ∧ SoundM b m ∧ (ag = false → ∀ i x, i < n → x < L → Closed b m i x) ∧ Step (fun q => q ∈ gs) w2 wr)
      case atStart => exact ⟨true, zeroM n L, rfl, Nat.le_refl _, HMA.out, SoundM.zero _ _ _, (fun h => nomatch h), Step.refl _ _⟩
      case round =>
        obtain ⟨ag, m, rfl, hgg, hma, hsd, hcl, hst2⟩ := hrel
        have HM := Lib.hid hma
        have HSD := Lib.hid hsd
        have HCL := Lib.hid hcl
        have HST2 := Lib.hid hst2
        clear hma hsd hcl hst2
        cases ag with
        | true =>
          have HGG := Lib.hid (show falses m + 1 ≤ gk by simpa using hgg)
          obtain ⟨go1, rfl⟩ : ∃ go1, go1 = gk := ⟨_, rfl⟩
          clear hgg
          go_wp2_with fail
          go_loopg [6, 7] n (fun gg s6 s7 wr2 => ∃ (k : Nat) (ag : Bool) (m2 : List (List Bool)), s7 = .int .i64 ((k : Int) - 1) ∧ k ≤ n ∧ k ≤ gg ∧ s6 = .bool ag ∧ MatAt wr2 gm gs L m2 ∧ SoundM b m2 ∧ falses m2 ≤ falses m ∧ (ag = true → falses m2 < falses m) ∧ (ag = false → m2 = m ∧ ∀ i x, k ≤ i → i < n → x < L → Closed b m i x) ∧ Step (fun q => q ∈ gs) w2 wr2)
          case atStart => exact ⟨n, false, m, by go_num, Nat.le_refl _, Nat.le_refl _, rfl, HM.out, HSD.out, Nat.le_refl _, (fun h => nomatch h), (fun _ => ⟨rfl, fun i x h1 h2 => by omega⟩), HST2.out⟩
          case round =>
            obtain ⟨wr2, rfl⟩ : ∃ wr2 : World, wr2 = wr := ⟨_, rfl⟩
            obtain ⟨k, ag, m2, rfl, hk, hgg2, rfl, hma2, hsd2, hle2, hlt2, hsm2, hst3⟩ := hrel
            have HM2 := Lib.hid hma2
            have HSD2 := Lib.hid hsd2
            have HLE2 := Lib.hid hle2
            have HLT2 := Lib.hid hlt2
            have HSAME2 := Lib.hid hsm2
            have HST3 := Lib.hid hst3
            clear hma2 hsd2 hle2 hlt2 hsm2 hst3
            cases k with
            | zero =>
              have HREL : Hid (falses m2 + (if ag = true then 1 else 0) ≤ go1 - 1) := by
                have h1 := HGG.out
                have h2 := HLE2.out
                show _ ≤ _
                cases ag with
                | false => simp; omega
                | true => have := HLT2.out rfl; simp; omega
              have HCL2 : Hid (ag = false → ∀ i x, i < n → x < L → Closed b m2 i x) := fun h i x hi hx => by
                obtain ⟨h1, h2⟩ := HSAME2.out h
                rw [h1]; exact h2 i x (Nat.zero_le _) hi hx
              have HMM : Hid (go1 - 1 < go1) := by have := HGG.out; show _ < _; omega
              go_wp2
              go_roundg (go1 - 1)
              case rel => exact ⟨ag, m2, rfl, HREL.out, HM2.out, HSD2.out, HCL2.out, HST3.out⟩
              case measure => exact HMM.out
            | succ i =>
              have hil : i < n := by omega
              have eki : ((i + 1 : Nat) : Int) - 1 = (i : Int) := by omega
              rw [eki]
              clear eki
              have HIB : Hid (i < b.code.length) := by show _ < _; rw [← HN.out]; exact hil
              obtain ⟨x0, hx0⟩ : ∃ x0, b.code[i]? = some x0 := ⟨_, List.getElem?_eq_getElem HIB.out⟩
              have HSW3 : Hid (Step (fun _ => False) w wr2) := HSTW2.out.then HST3.out (fun q hq e => by have := (HGEW.out q e).1; omega)
              have hbox3 := HST3.out.keep HBOX.out (fun e => by have := (HGEW.out _ e).1; omega)
              have d3 := blk_cell hbox3 3 _ rfl
              have HBOX3 := Lib.hid hbox3
              have HSUC : Hid (Calls Try.prog 36 #[.slice a2 n c2, .int .i64 i] wr2 fun e w' => (∃ v, e = .returned v ∧ Row w' w'.heap.size v (succI x0 i).length (intsV (succI x0 i))) ∧ Step (fun _ => False) wr2 w') := by
                refine rsucc_any B b.code (.slice a2 n c2) i x0 wr2 ⟨xs, Each.mono (InAt.step HSW3.out (fun _ _ h => h)) _ _ HXS.out, ?_⟩ hx0
                rw [← HN.out]
                exact HRW.out.step HSW3.out (fun _ _ h => h)
              obtain ⟨l, hl⟩ : ∃ l, l = succB b i := ⟨_, rfl⟩
              have HLS : Hid (succI x0 i = l) := by show _ = _; rw [hl]; unfold succB; rw [hx0]
              have HL := Lib.hid hl
              have HTL : Hid (∀ t ∈ l, 0 ≤ t ∧ t < (n : Int)) := by
                show ∀ t ∈ l, _
                intro t ht
                rw [hl] at ht
                rw [HN.out]
                exact HOK.out.succ i t ht
              clear hx0 hbox3 hl
              go_wp2_with fail
              refine HSUC.out.mono ?_
              rintro e w4 ⟨⟨v, rfl, hrow⟩, h4⟩
              rw [HLS.out] at hrow
              obtain ⟨ar, cr, rfl, hcl, hcm, -, hrr⟩ := hrow
              have HRR := Lib.hid hrr
              have HM4 := Lib.hid (HM2.out.step h4 (fun h => h) (fun _ _ h => h))
              have HST4 := Lib.hid (HST3.out.trans (h4.mono (fun _ _ h => h.elim)))
              clear hrr d3
              have HROWC : Hid (∀ (X : World) (j : Nat) (t : Int), l[j]? = some t → Step (fun q => q ∈ gs) w4 X → ∃ g o, ar = some ⟨g, o, none⟩ ∧ X.cell? ⟨g, o + j, none⟩ = some (.int .i64 t)) := by
                show ∀ X j t, _
                intro X j t ht hX
                obtain ⟨g, o, e1, -, -, hc⟩ := HRR.out (by have := (List.getElem?_eq_some_iff.1 ht).1; omega)
                have hc1 := hc j _ (intsV_get l j t ht)
                refine ⟨g, o, e1, hX.cell hc1 (fun hg => ?_)⟩
                obtain ⟨p, hp⟩ := List.getElem?_of_mem (show g ∈ gs from hg)
                have hb := HM4.out.set p g hp
                simp only [World.cell?, hb] at hc1
                simp [boolV] at hc1
              obtain ⟨go2, rfl⟩ : ∃ go2, go2 = gk := ⟨_, rfl⟩
              go_wp2_with fail
              go_loopg [6, 9] L (fun gg s6 s9 wr3 => ∃ (x : Nat) (ag3 : Bool) (m3 : List (List Bool)), s9 = .int .i64 x ∧ x ≤ L ∧ L - x ≤ gg ∧ s6 = .bool ag3 ∧ MatAt wr3 gm gs L m3 ∧ SoundM b m3 ∧ falses m3 ≤ falses m ∧ (ag3 = true → falses m3 < falses m) ∧ (ag3 = false → m3 = m ∧ (∀ i' x', i + 1 ≤ i' → i' < n → x' < L → Closed b m i' x') ∧ ∀ x', x' < x → Closed b m i x') ∧ Step (fun q => q ∈ gs) w4 wr3)
              case atStart => exact ⟨0, ag, m2, rfl, Nat.zero_le _, by omega, rfl, HM4.out, HSD2.out, HLE2.out, HLT2.out, (fun h => ⟨(HSAME2.out h).1, (HSAME2.out h).2, fun x' hx' => by omega⟩), Step.refl _ _⟩
              case round =>
                obtain ⟨wr3, rfl⟩ : ∃ wr3 : World, wr3 = wr := ⟨_, rfl⟩
                obtain ⟨x, ag3, m3, rfl, hx, hgg3, rfl, hma3, hsd3, hle3, hlt3, hsm3, hst5⟩ := hrel
                have HM3 := Lib.hid hma3
                have HSD3 := Lib.hid hsd3
                have HLE3 := Lib.hid hle3
                have HLT3 := Lib.hid hlt3
                have HSAME3 := Lib.hid hsm3
                have HST5 := Lib.hid hst5
                have HSW5 : Hid (Step (fun _ => False) w wr3) := HSTW2.out.then (HST4.out.trans hst5) (fun q hq e => by have := (HGEW.out q e).1; omega)
                have hbox5 := (HST4.out.trans hst5).keep HBOX.out (fun e => by have := (HGEW.out _ e).1; omega)
                have d0 := blk_cell hbox5 0 _ rfl
                have d1 := blk_cell hbox5 1 _ rfl
                have d2 := blk_cell hbox5 2 _ rfl
                have d3 := blk_cell hbox5 3 _ rfl
                clear hma3 hsd3 hle3 hlt3 hsm3 hst5 hbox5
                by_cases hxl : x < L
                · have HDO := Lib.hid (does_any B b [.string b.name, .int .i64 b.params, .slice a1 L c1, .slice a2 n c2] i x wr3 (BodAt.step HSW5.out (fun _ _ h => h) _ _ HAT.out) HIB.out HSM.out (Nat.le_trans hB HSW5.out.size))
                  obtain ⟨uu, huu⟩ : ∃ uu, uu = usedB b i x := ⟨_, rfl⟩
                  obtain ⟨lo, hlo⟩ : ∃ lo, lo = lostB b i x := ⟨_, rfl⟩
                  rw [← huu, ← hlo] at HDO
                  have HUU := Lib.hid huu
                  have HLO := Lib.hid hlo
                  clear huu hlo
                  go_wp2_with fail
                  refine HDO.out.mono ?_
                  rintro e w6 ⟨rfl, h6⟩
                  have HM6 := Lib.hid (HM3.out.step h6 (fun h => h) (fun _ _ h => h))
                  have HST6 := Lib.hid (HST5.out.trans (h6.mono (fun _ _ h => h.elim)))
                  obtain ⟨go3, rfl⟩ : ∃ go3, go3 = gk := ⟨_, rfl⟩
                  clear d0 d1 d2 d3 h6
                  have HL0 : Hid (liveT b m3 i x (l.take 0) = uu) := by show _ = _; rw [HUU.out]; unfold liveT; simp
                  go_wp2_with fail
                  go_loopg [12, 13] l.length (fun gg s12 s13 wr4 => ∃ (j : Nat) (lv : Bool), s13 = .int .i64 j ∧ j ≤ l.length ∧ l.length - j ≤ gg ∧ s12 = .bool lv ∧ lv = liveT b m3 i x (l.take j) ∧ wr4 = w6)
                  case atStart => exact ⟨0, uu, rfl, Nat.zero_le _, by omega, rfl, HL0.out.symm, rfl⟩
                  case round =>
                    obtain ⟨j, lv, rfl, hj, hgg4, rfl, hlv, rfl⟩ := hrel
                    have HLV := Lib.hid hlv
                    clear hlv
                    by_cases hjl : j < l.length
                    · obtain ⟨t, ht⟩ : ∃ t, l[j]? = some t := ⟨l[j], List.getElem?_eq_getElem hjl⟩
                      have htr := HTL.out t (List.mem_of_getElem? ht)
                      obtain ⟨tn, htn⟩ : ∃ tn : Nat, (tn : Int) = t := ⟨t.toNat, Int.toNat_of_nonneg htr.1⟩
                      obtain ⟨g, o, rfl, f1⟩ := HROWC.out wr j t ht HST6.out
                      obtain ⟨gt, hgt⟩ : ∃ gt, gs[tn]? = some gt := ⟨_, List.getElem?_eq_getElem (by rw [HGL.out]; omega)⟩
                      have f2 := HM6.out.row hgt
                      have f3 := (HM6.out.cell hgt hxl).1
                      obtain ⟨mv, hmv⟩ : ∃ mv, mv = mget m3 tn x := ⟨_, rfl⟩
                      rw [← hmv] at f3
                      rw [← htn] at f1
                      have HT : Hid (liveT b m3 i x (l.take (j + 1)) = (lv || (!lo && mv))) := by
                        show _ = _
                        rw [liveT_take ht, ← HLV.out, ← HLO.out, hmv, ← htn]; rfl
                      have ht0 : (0 : Int) ≤ (tn : Int) := by omega
                      have ht1 : (tn : Int) < (n : Int) := by omega
                      clear ht hgt hmv htn htr
                      cases lv with
                      | true =>
                        as_aux_lemma =>
                          go_wp2
                          go_roundg (gk - 1)
                          case rel => exact ⟨j + 1, true, by go_num, hjl, by rw [← Nat.sub_sub]; exact Nat.sub_le_sub_right hgg4 1, rfl, by rw [HT.out]; rfl, rfl⟩
                          case measure => omega
                      | false =>
                        cases lo with
                        | true =>
                          as_aux_lemma =>
                            go_wp2
                            go_roundg (gk - 1)
                            case rel => exact ⟨j + 1, false, by go_num, hjl, by rw [← Nat.sub_sub]; exact Nat.sub_le_sub_right hgg4 1, rfl, by rw [HT.out]; rfl, rfl⟩
                            case measure => omega
                        | false =>
                          as_aux_lemma =>
                            go_wp2
                            go_roundg (gk - 1)
                            case rel => exact ⟨j + 1, mv, by go_num, hjl, by rw [← Nat.sub_sub]; exact Nat.sub_le_sub_right hgg4 1, rfl, by rw [HT.out]; rfl, rfl⟩
                            case measure => omega
                    · obtain rfl : j = l.length := by omega
                      have HLF : Hid (lv = liveT b m3 i x (succB b i)) := by show _ = _; rw [HLV.out, List.take_length, HL.out]
                      obtain ⟨gi, hgi⟩ : ∃ gi, gs[i]? = some gi := ⟨_, List.getElem?_eq_getElem (by rw [HGL.out]; exact hil)⟩
                      have HGI := Lib.hid hgi
                      have f2 := HM6.out.row hgi
                      obtain ⟨f3, f4⟩ := HM6.out.cell hgi hxl
                      obtain ⟨mv, hmv⟩ : ∃ mv, mv = mget m3 i x := ⟨_, rfl⟩
                      rw [← hmv] at f3
                      have HMV := Lib.hid hmv
                      have hi0 : (0 : Int) ≤ (i : Int) := by omega
                      have hi1 : (i : Int) < (n : Int) := by omega
                      have hx0 : (0 : Int) ≤ (x : Int) := by omega
                      have hx1 : (x : Int) < (L : Int) := by omega
                      have ha2 : L - (x + 1) ≤ go3 - 1 := by rw [← Nat.sub_sub]; exact Nat.sub_le_sub_right hgg3 1
                      have HG3 : Hid (go3 - 1 < go3) := by show _ < _; omega
                      clear hgi hmv
                      have HSKIP : Hid ((lv = true → mv = true) → (ag3 = false → m3 = m ∧ (∀ i' x', i + 1 ≤ i' → i' < n → x' < L → Closed b m i' x') ∧ ∀ x', x' < x + 1 → Closed b m i x')) := by
                        show _ → _
                        intro hs h
                        obtain ⟨h1, h2, h3⟩ := HSAME3.out h
                        refine ⟨h1, h2, fun x' hx' => ?_⟩
                        by_cases e : x' = x
                        · rw [e, ← h1]
                          intro hl
                          rw [← HMV.out]; exact hs (by rw [HLF.out]; exact hl)
                        · exact h3 x' (by omega)
                      cases lv with
                      | false =>
                        as_aux_lemma =>
                          go_wp2
                          go_roundg (go3 - 1)
                          case rel => exact ⟨x + 1, ag3, m3, by go_num, hxl, ha2, rfl, HM6.out, HSD3.out, HLE3.out, HLT3.out, HSKIP.out (fun h => nomatch h), HST6.out⟩
                          case measure => exact HG3.out
                      | true =>
                        cases mv with
                        | true =>
                          as_aux_lemma =>
                            go_wp2
                            go_roundg (go3 - 1)
                            case rel => exact ⟨x + 1, ag3, m3, by go_num, hxl, ha2, rfl, HM6.out, HSD3.out, HLE3.out, HLT3.out, HSKIP.out (fun _ => trivial), HST6.out⟩
                            case measure => exact HG3.out
                        | false =>
                          have HFS := Lib.hid (falses_set HM6.out.all (by rw [HGL.out]; exact hil) hxl HMV.out.symm)
                          have HSDN : Hid (SoundM b (mset m3 i x)) := HSD3.out.set HM6.out.all (by rw [HGL.out]; exact hil) hxl (HSD3.out.live HOK.out HIB.out (by rw [← HLL.out]; exact hxl) HLF.out.symm)
                          as_aux_lemma =>
                            go_wp2
                            go_roundg (go3 - 1)
                            case rel =>
                              have h1 := HFS.out
                              have h2 := HLE3.out
                              exact ⟨x + 1, true, mset m3 i x, by go_num, hxl, ha2, rfl, HM6.out.setTrue HGI.out, HSDN.out, by omega, (fun _ => by omega), (fun h => nomatch h), HST6.out.setCell _ _ (fun _ => List.mem_of_getElem? HGI.out)⟩
                            case measure => exact HG3.out
                · obtain rfl : x = L := by omega
                  have HSTE : Hid (Step (fun q => q ∈ gs) w2 wr3) := HST4.out.trans HST5.out
                  have HSAMEE : Hid (ag3 = false → m3 = m ∧ ∀ i' x', i ≤ i' → i' < n → x' < x → Closed b m i' x') := by
                    show _ → _
                    intro h
                    obtain ⟨h1, h2, h3⟩ := HSAME3.out h
                    refine ⟨h1, fun i' x' hi' hi2 hx' => ?_⟩
                    by_cases e : i' = i
                    · rw [e]; exact h3 x' hx'
                    · exact h2 i' x' (by omega) hi2 hx'
                  have HG2 : Hid (go2 - 1 < go2) := by show _ < _; omega
                  go_wp2
                  go_roundg (go2 - 1)
                  case rel => exact ⟨i, ag3, m3, by go_num, by omega, by omega, rfl, HM3.out, HSD3.out, HLE3.out, HLT3.out, HSAMEE.out, HSTE.out⟩
                  case measure => exact HG2.out
        | false =>
          have HF := Lib.hid (fun i x hi hx => mat_iff HOK.out HSD.out (fun i x hi hx => HCL.out rfl i x (by rw [HN.out]; exact hi) (by rw [HLL.out]; exact hx)) i x hi hx)
          obtain ⟨w3, rfl⟩ : ∃ w3 : World, w3 = wr := ⟨_, rfl⟩
          have HBOX3 := Lib.hid (HST2.out.keep HBOX.out (fun e => by have := (HGEW.out _ e).1; omega))
          have HSW3 : Hid (Step (fun _ => False) w w3) := HSTW2.out.then HST2.out (fun q hq e => by have := (HGEW.out q e).1; omega)
          obtain ⟨pl, hpl⟩ : ∃ pl, pl = liveL b (mget m) := ⟨_, rfl⟩
          have HPL := Lib.hid hpl
          clear hpl hgg
          go_wp2_with fail
          go_loopg [14, 15] n (fun gg s14 s15 wr => ∃ (k : Nat) (lk : List (List Int)) (G : Nat → Bool) (xk : List Value), s15 = .int .i64 k ∧ k ≤ n ∧ n - k ≤ gg ∧ lk = pl.take k ∧ Grows IntsAt 38 1 w3.heap.size G wr lk s14 xk ∧ upG G wr ∧ (∀ q, q < w3.heap.size → G q = true) ∧ Step (fun _ => False) w3 wr)
          case atStart => exact ⟨0, [], fun q => decide (q < w3.heap.size), [], rfl, Nat.zero_le _, by omega, rfl, Grows.nil _ _ _ _ _ _, upG.low, fun q hq => decide_eq_true hq, Step.refl _ _⟩
          case round =>
            obtain ⟨w4, rfl⟩ : ∃ w4 : World, w4 = wr := ⟨_, rfl⟩
            obtain ⟨k, lk, G, xk, rfl, hk, hgg, hlk, hgr, hup, hlow, hst⟩ := hrel
            have HLK := Lib.hid hlk
            have HGR := Lib.hid hgr
            have HUP := Lib.hid hup
            have HLOW := Lib.hid hlow
            have HST4 := Lib.hid hst
            have hll : lk.length ≤ 100000 := by rw [hlk, List.length_take]; omega
            obtain ⟨ao, co, rfl⟩ := owns_slice hgr.own
            clear hlk hgr hup hlow hst
            by_cases hlt3 : k < n
            · have ha2 : n - (k + 1) ≤ gk - 1 := by rw [← Nat.sub_sub]; exact Nat.sub_le_sub_right hgg 1
              obtain ⟨go4, rfl⟩ : ∃ go4, go4 = gk := ⟨_, rfl⟩
              have HG4 : Hid (go4 - 1 < go4) := by show _ < _; omega
              obtain ⟨gk', hgk'⟩ : ∃ gk', gs[k]? = some gk' := ⟨_, List.getElem?_eq_getElem (by rw [HGL.out]; exact hlt3)⟩
              have HGK := Lib.hid hgk'
              have hk0 : (0 : Int) ≤ (k : Int) := by omega
              have hk1 : (k : Int) < (n : Int) := by omega
              clear hgk'
              go_upto_block 12 with fail
              go_cut [16] (fun s16 wx => ∃ fl : List Nat, fl = (List.range L).filter (mget m k) ∧ wx.ownsRow w4.heap.size 3 1 s16 fl.length (natV fl) ∧ Step (fun _ => False) w4 wx)
              case first =>
                go_wp2_with fail
                go_loopg [16, 17] L (fun gg s16 s17 wr => ∃ (x : Nat) (fl : List Nat), s17 = .int .i64 x ∧ x ≤ L ∧ L - x ≤ gg ∧ fl = (List.range x).filter (mget m k) ∧ wr.ownsRow w4.heap.size 3 1 s16 fl.length (natV fl) ∧ Step (fun _ => False) w4 wr)
                case atStart => exact ⟨0, [], rfl, Nat.zero_le _, by omega, rfl, World.ownsRow_nil _ _ _ _, Step.refl _ _⟩
                case round =>
                  obtain ⟨x, fl, rfl, hx, hgg5, hfl, ho, hst5⟩ := hrel
                  have HFL := Lib.hid hfl
                  have hfll : fl.length ≤ 100000 := by
                    rw [hfl]
                    have h1 := List.length_filter_le (mget m k) (List.range x)
                    rw [List.length_range] at h1
                    omega
                  obtain ⟨a6, c6, rfl⟩ := owns_slice ho
                  have HO := Lib.hid ho
                  have HST5 := Lib.hid hst5
                  have hbox := (HST4.out.trans hst5).keep HBOX3.out (fun h => h)
                  have d2 := blk_cell hbox 2 _ rfl
                  clear hfl ho hst5 hbox
                  by_cases hxl : x < L
                  · have HM5 := HM.out.step (HST4.out.trans HST5.out) (fun h => h) (fun _ _ h => h)
                    have f2 := HM5.row HGK.out
                    obtain ⟨f3, -⟩ := HM5.cell HGK.out hxl
                    obtain ⟨mv, hmv⟩ : ∃ mv, mv = mget m k x := ⟨_, rfl⟩
                    rw [← hmv] at f3
                    have HT : Hid ((List.range (x + 1)).filter (mget m k) = fl ++ (if mv = true then [x] else [])) := by show _ = _; rw [filter_range_succ, ← HFL.out, hmv]
                    have hx0 : (0 : Int) ≤ (x : Int) := by omega
                    have hx1 : (x : Int) < (L : Int) := by omega
                    have HROW : Hid (Row (wr.alloc (.cells #[.int .i64 x] 3)) (wr.heap.size + 1) (.slice (some ⟨wr.heap.size, 0, none⟩) 1 1) 1 (natV [x])) := Row.new (cs := [.int .i64 x]) (blk_new _ _) (by decide)
                    have HO6 := Lib.hid (HO.out.alloc (.cells #[.int .i64 x] 3))
                    have HST6 : Hid (Step (fun _ => False) w4 (wr.alloc (.cells #[.int .i64 x] 3))) := HST5.out.alloc _
                    clear hmv HM5
                    cases mv with
                    | false =>
                      go_wp2
                      go_roundg (gk - 1)
                      case rel => exact ⟨x + 1, fl, by go_num, hxl, by rw [← Nat.sub_sub]; exact Nat.sub_le_sub_right hgg5 1, by rw [HT.out]; simp, HO.out, HST5.out⟩
                      case measure => omega
                    | true =>
                      go_wp2_with (at_builtin; refine wpList_append_row _ rfl (wr.heap.size + 1) (.tmp 120) (.tmp 122) 38 rfl w4.heap.size 3 j0 (.int .i64 0) 1 8 Try.underlying38 HJ.out HY0.out HY1.out HY2.out rfl (by decide) _ _ _ rfl HO6.out _ 1 _ rfl HROW.out rfl (intsV_one _) (by unfold maxLen; omega) (by omega) HST6.out.size ?_)
                      intro v8 w8 hown8 hgrow8 hat8
                      have hown9 : w8.ownsRow w4.heap.size 3 1 v8 (fl ++ [x]).length (natV (fl ++ [x])) := by
                        rw [List.length_append, natV_snoc]; exact hown8
                      have HOWN9 := Lib.hid hown9
                      have HST8 : Hid (Step (fun _ => False) w4 w8) := HST6.out.then (grown_step hgrow8) (fun q hq e => by have := (HO6.out.lt q e).1; omega)
                      clear hown8 hgrow8 hat8 hown9
                      go_wp2
                      go_roundg (gk - 1)
                      case rel => exact ⟨x + 1, fl ++ [x], by go_num, hxl, by rw [← Nat.sub_sub]; exact Nat.sub_le_sub_right hgg5 1, by rw [HT.out]; simp, HOWN9.out, HST8.out⟩
                      case measure => omega
                  · obtain rfl : x = L := by omega
                    go_wp2_with fail
                    go_meet
                    case rel => exact ⟨fl, HFL.out, HO.out, HST5.out⟩
              case rest =>
                obtain ⟨w5, rfl⟩ : ∃ w5 : World, w5 = wc := ⟨_, rfl⟩
                obtain ⟨fl, hfl, hou, h5⟩ := hcut
                obtain ⟨au, cu, rfl⟩ := owns_slice hou
                have HT : Hid (pl.take (k + 1) = pl.take k ++ [ints fl]) := by
                  show _ = _
                  rw [HPL.out, hfl, HLL.out]
                  exact map_take_succ (fun i => ints ((List.range b.locals).filter (mget m i))) b.code.length k (by rw [← HN.out]; exact hlt3)
                have ST6 : Step (fun _ => False) w4 (w5.alloc (.cells #[.slice au fl.length cu] 38)) := h5.alloc _
                have HST6 := Lib.hid ST6
                have HGR6 := Lib.hid (HGR.out.keep IntsAt.stays ST6 (fun _ _ h => h.elim) (fun _ _ => rfl) (fun _ _ h => h))
                have HROW : Hid (Row (w5.alloc (.cells #[.slice au fl.length cu] 38)) (w5.heap.size + 1) (.slice (some ⟨w5.heap.size, 0, none⟩) 1 1) 1 [.slice au fl.length cu]) := Row.new (cs := [.slice au fl.length cu]) (blk_new _ _) (by decide)
                have HEL : Hid (IntsAt (veil G (w5.alloc (.cells #[.slice au fl.length cu] 38))) (w5.alloc (.cells #[.slice au fl.length cu] 38)).heap.size (ints fl) [.slice au fl.length cu]) := by
                  have h1 : Row (veil G (w5.alloc (.cells #[.slice au fl.length cu] 38))) (w5.alloc (.cells #[.slice au fl.length cu] 38)).heap.size (.slice au fl.length cu) fl.length (natV fl) := Row.owns_veil (hou.alloc _) (Nat.le_refl _) (fun q hq => HUP.out q hq)
                  refine ⟨_, rfl, ?_⟩
                  have e : (ints fl).length = fl.length := by simp [ints]
                  rw [e]; exact h1
                have HBS : Hid (w3.heap.size ≤ (w5.alloc (.cells #[.slice au fl.length cu] 38)).heap.size) := Nat.le_trans HST4.out.size ST6.size
                have HO : Hid (∀ u ∈ [Value.slice au fl.length cu], u.oneCell' = true) := fun u hu => by rw [List.mem_singleton.1 hu]; rfl
                clear hou h5 ST6 hfl
                go_wp2_with (at_builtin; refine wpList_append_row _ rfl (w5.heap.size + 1) (.tmp 124) (.tmp 126) 31 rfl w3.heap.size 38 i0 _ 1 24 Try.underlying31 HI.out HZ0.out HZ1.out HZ2.out rfl (by decide) _ _ _ rfl HGR6.out.own _ 1 _ rfl HROW.out rfl HO.out (by unfold maxLen; omega) (by omega) HBS.out ?_)
                intro v8 w8 hown8 hgrow8 hat8
                have HGR8 := Lib.hid (HGR6.out.snoc IntsAt.stays HEL.out hown8 hgrow8 (by simpa using hat8))
                have HUP8 : Hid (upG (addG G v8) w8) := (HUP.out.mono HST6.out.size).add (grown_step hgrow8).size hown8
                have HST8 : Hid (Step (fun _ => False) w3 w8) := (HST4.out.trans HST6.out).then (grown_step hgrow8) (fun q hq e => by have := (HGR6.out.own.lt q e).1; omega)
                clear hown8 hgrow8 hat8
                go_wp2_with fail
                go_roundg (go4 - 1)
                case rel => exact ⟨k + 1, lk ++ [ints fl], addG G v8, _, by go_num, hlt3, ha2, by rw [HT.out, HLK.out], HGR8.out, HUP8.out, (fun q hq => by simp [addG, HLOW.out q hq]), HST8.out⟩
                case measure => exact HG4.out
            · obtain rfl : k = n := by omega
              have HFF : Hid (lk = pl) := by show _ = _; rw [HLK.out]; exact List.take_of_length_le (by rw [HPL.out, liveL_len, ← HN.out]; omega)
              go_wp2_with fail
              go_ret
              refine ⟨⟨_, mget m, rfl, ?_, fun i x hi hx => HF.out i x hi hx⟩, HSW3.out.trans HST4.out⟩
              rw [← HPL.out, ← HFF.out]
              exact HGR.out.rows2

end Go.Proofs.Ytilipeigjkmldaa
