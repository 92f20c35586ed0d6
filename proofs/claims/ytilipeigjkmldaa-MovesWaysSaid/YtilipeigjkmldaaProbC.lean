/- Contract of live.problem: how locals that are used go back along a body. -/
import Derived.Test.YtilipeigjkmldaaProb
import Derived.Test.YtilipeigjkmldaaSuccF
import Derived.Test.YtilipeigjkmldaaLiveA
import Derived.Deep.DeepCutAuto
import Derived.Deep.CutBlock
namespace Go.Proofs.Ytilipeigjkmldaa
open Go.RowKit

theorem accI_len (n : Nat) (x : Ins) : (accI n x).length ≤ n + x.args.length + 2 := by
  unfold accI
  split
  · simp
  split
  · simp
  split
  · have h1 := accs_len x.args
    rw [List.length_append, List.length_append]
    have h2 : (if x.rkind = 2 then [(⟨x.rpl, if x.mu then 3 else 1⟩ : Acc)] else []).length ≤ 1 := by split <;> simp
    have h3 : [(⟨x.dest, 4⟩ : Acc)].length = 1 := rfl
    omega
  split
  · have := opAcc_len x.cond
    omega
  split
  · simp; omega
  · simp
theorem accB_len (b : Bod) (hs : BodSmall b) (i : Nat) : (accB b i).length ≤ 200002 := by
  unfold accB
  cases h : b.code[i]? with
  | none => simp
  | some x =>
    have h1 := accI_len b.locals x
    have h2 := hs.1
    have h3 := hs.2 i x h
    simp only
    omega
theorem genI_len (l : List Acc) : (genI l).length ≤ l.length := by unfold genI; rw [List.length_map]; exact List.length_filter_le ..
theorem killI_len (l : List Acc) : (killI l).length ≤ l.length := by unfold killI; rw [List.length_map]; exact List.length_filter_le ..

def succsB (b : Bod) : List (List Int) := (List.range b.code.length).map (succB b)
def gensB (b : Bod) : List (List Int) := (List.range b.code.length).map (fun i => genI (accB b i))
def killsB (b : Bod) : List (List Int) := (List.range b.code.length).map (fun i => killI (accB b i))
theorem map_take_succ {β : Type} (f : Nat → β) (n k : Nat) (h : k < n) : ((List.range n).map f).take (k + 1) = ((List.range n).map f).take k ++ [f k] := by
  rw [List.take_succ_eq_append_getElem (by simpa using h)]; simp
def ProbPost (b : Bod) (w : World) (e : Ending) (w' : World) : Prop :=
  (∃ vs vg vk, e = .returned (.agg #[vs, .int .i64 b.locals, vg, vk, .slice none 0 0]) ∧ Rows2 w' w'.heap.size vs (succsB b) ∧ Rows2 w' w'.heap.size vg (gensB b) ∧ Rows2 w' w'.heap.size vk (killsB b)) ∧ Step (fun _ => False) w w'

theorem Try.infoIntsL : (Try.prog.info? 38).map (fun i => (i.zero, i.size, i.bytes)) = some (some (.slice none 0 0), 1, 24) := by kernel_rfl
theorem Try.sizeProb : (Try.prog.info? 82).map (·.size) = some 5 := by kernel_rfl

set_option maxRecDepth 100000 in
set_option maxHeartbeats 8000000 in
theorem problem_any (B g : Nat) (b : Bod) (w : World) (h : BodP w B g b) (hs : BodSmall b) (hB : B ≤ w.heap.size) (hn : b.code.length ≤ 100000) :
    Calls Try.prog 34 #[.pointer (some ⟨g, 0, none⟩)] w (ProbPost b w) := by
  have HBOD := Lib.hid h
  have HSM := Lib.hid hs
  obtain ⟨i0, hi0, hz0, hz1, hz2⟩ := info_parts Try.infoIntsL
  have HI := Lib.hid hi0
  have HZ0 := Lib.hid hz0
  have HZ1 := Lib.hid hz1
  have HZ2 := Lib.hid hz2
  obtain ⟨j0, hj0, hy0, hy1, hy2⟩ := info_parts Try.infoInt
  have HJ := Lib.hid hj0
  have HY0 := Lib.hid hy0
  have HY1 := Lib.hid hy1
  have HY2 := Lib.hid hy2
  obtain ⟨w2, hw2⟩ : ∃ w2 : World, w2 = (w.alloc (.cells #[.slice none 0 0, .int .i64 0, .slice none 0 0, .slice none 0 0, .slice none 0 0] 82)).alloc (.cells #[.slice none 0 0, .int .i64 b.locals, .slice none 0 0, .slice none 0 0, .slice none 0 0] 82) := ⟨_, rfl⟩
  have hst2 : Step (fun _ => False) w w2 := by rw [hw2]; exact ((Step.refl _ _).alloc _).alloc _
  have HST2 := Lib.hid hst2
  have HSZ2 : Hid (w2.heap.size = w.heap.size + 2) := by show _ = _; rw [hw2]; simp
  obtain ⟨g3, hg3⟩ : ∃ g3, g3 = w.heap.size + 1 := ⟨_, rfl⟩
  have HG3 := Lib.hid hg3
  have HBLK2 : Hid (w2.heap[g3]? = some (.cells #[.slice none 0 0, .int .i64 b.locals, .slice none 0 0, .slice none 0 0, .slice none 0 0] 82 (0, 0))) := by show _ = _; rw [hw2, hg3]; exact blk_new2 _ _ _
  have HRES2 : Hid (w2.heap[w.heap.size]? = some (.cells #[.slice none 0 0, .int .i64 0, .slice none 0 0, .slice none 0 0, .slice none 0 0] 82 (0, 0))) := by show _ = _; rw [hw2]; exact blk_alloc (blk_new w _)
  have HW2 := Lib.hid hw2
  have HB2 := Lib.hid (h.step hst2 (fun _ _ h => h))
  obtain ⟨-, ⟨la, lc, hla⟩, ca, cc, hca, -⟩ := h.parts
  have hca2 := hst2.cell hca (fun h => h)
  have hla1 := cell_alloc (o := .cells #[.slice none 0 0, .int .i64 0, .slice none 0 0, .slice none 0 0, .slice none 0 0] 82) hla
  clear hw2 hst2 hi0 hz0 hz1 hz2 hj0 hy0 hy1 hy2 h hs hg3
  go_enter Try.func34, Try.ntmps34
  go_upto_region 2 with fail
  rw [← HG3.out, ← HW2.out]
  go_wp2_with fail
  clear hla hla1 hca hca2
  go_loopg [20] b.code.length (fun gg s20 wr => ∃ (k : Nat) (ls : List (List Int)) (vs : Value) (lg : List (List Int)) (vg : Value) (lk : List (List Int)) (vk : Value) (G : Nat → Bool) (xs xg xk : List Value), s20 = .int .i64 k ∧ k ≤ b.code.length ∧ b.code.length - k ≤ gg ∧ ls = (succsB b).take k ∧ lg = (gensB b).take k ∧ lk = (killsB b).take k ∧ PS w2.heap.size wr ls vs lg vg lk vk G xs xg xk ∧ wr.heap[g3]? = some (.cells #[vs, .int .i64 b.locals, vg, vk, .slice none 0 0] 82 (0, 0)) ∧ Step (· = g3) w2 wr)
  case atStart => exact ⟨0, [], _, [], _, [], _, _, [], [], [], rfl, Nat.zero_le _, by omega, rfl, rfl, rfl, PS.nil rfl, HBLK2.out, Step.refl _ _⟩
  case round =>
    obtain ⟨k, ls, vs, lg, vg, lk, vk, G, xs, xg, xk, rfl, hk, hgg, hls, hlg, hlk, hps, hblk, hst⟩ := hrel
    have HLS := Lib.hid hls
    have HLG := Lib.hid hlg
    have HLK := Lib.hid hlk
    have HPS := Lib.hid hps
    have HBLK := Lib.hid hblk
    have HST := Lib.hid hst
    have HG3L : Hid (g3 < w2.heap.size ∧ B ≤ g3 ∧ w.heap.size ≤ g3) := by show _ ∧ _; have h1 := HSZ2.out; have h2 := HG3.out; omega
    have hlen1 : ls.length = k := by rw [hls]; simp [succsB]; omega
    have hlen2 : lg.length = k := by rw [hlg]; simp [gensB]; omega
    have hlen3 : lk.length = k := by rw [hlk]; simp [killsB]; omega
    have HL1 := Lib.hid hlen1
    have HL2 := Lib.hid hlen2
    have HL3 := Lib.hid hlen3
    have HBOR := Lib.hid (HB2.out.step hst (fun q hq e => by have := HG3L.out; omega))
    obtain ⟨gas, gac, hvs⟩ := owns_slice hps.s.own
    obtain ⟨gag, gcg, hvg⟩ := owns_slice hps.g.own
    obtain ⟨gak, gck, hvk⟩ := owns_slice hps.k.own
    clear hls hlg hlk hps hblk hst hlen1 hlen2 hlen3
    obtain ⟨go1, rfl⟩ : ∃ go1, go1 = gk := ⟨_, rfl⟩
    obtain ⟨wo, rfl⟩ : ∃ wo : World, wo = wr := ⟨_, rfl⟩
    by_cases hlt : k < b.code.length
    · obtain ⟨x, hx⟩ : ∃ x, b.code[k]? = some x := ⟨b.code[k], List.getElem?_eq_getElem hlt⟩
      have HX := Lib.hid hx
      have HACC := Lib.hid (acc_any B g b k wo HBOR.out hlt HSM.out (Nat.le_trans hB (Nat.le_trans HST2.out.size HST.out.size)))
      clear hx hvs hvg hvk
      go_wp2_with fail
      refine HACC.out.mono ?_
      rintro e w3 ⟨⟨v, ys, rfl, hys, hr⟩, h3⟩
      have HYS := Lib.hid hys
      have HST3 := Lib.hid h3
      obtain ⟨ar, cr, rfl, hcl, hcm, -, hrr⟩ := hr
      have HRR := Lib.hid hrr
      obtain ⟨l, hl⟩ : ∃ l, l = accB b k := ⟨_, rfl⟩
      have HL := Lib.hid hl
      have hlen : l.length ≤ 200002 := by rw [hl]; exact accB_len b HSM.out k
      rw [← hl] at HYS HRR hcl
      rw [← hl]
      clear hys hrr h3 hl
      go_upto_block 2 with fail
      go_cut [5, 6] (fun s5 s6 wx => ∃ (kg kk : List Int), kg = genI l ∧ kk = killI l ∧ wx.ownsRow w3.heap.size 3 1 s5 kg.length (intsV kg) ∧ wx.ownsRow w3.heap.size 3 1 s6 kk.length (intsV kk) ∧ Step (fun _ => False) w3 wx)
      case first =>
        go_wp2_with fail
        go_loopg [5, 6, 27] l.length (fun gg s5 s6 s27 wr => ∃ (j : Nat) (kg kk : List Int), s27 = .int .i64 j ∧ j ≤ l.length ∧ l.length - j ≤ gg ∧ kg = genI (l.take j) ∧ kk = killI (l.take j) ∧ wr.ownsRow w3.heap.size 3 1 s5 kg.length (intsV kg) ∧ wr.ownsRow w3.heap.size 3 1 s6 kk.length (intsV kk) ∧ (∀ q, s5.ownBlock = some q → s6.ownBlock ≠ some q) ∧ Step (fun _ => False) w3 wr)
        case atStart => exact ⟨0, [], [], rfl, Nat.zero_le _, by omega, rfl, rfl, World.ownsRow_nil _ _ _ _, World.ownsRow_nil _ _ _ _, (fun q h => nomatch h), Step.refl _ _⟩
        case round =>
          obtain ⟨j, kg, kk, rfl, hj, hgg2, hkg, hkk, ho5, ho6, hne, hst4⟩ := hrel
          have HKG := Lib.hid hkg
          have HKK := Lib.hid hkk
          have hlg5 : kg.length ≤ 200002 := by rw [hkg]; have := genI_len (l.take j); rw [List.length_take] at this; omega
          have hlk6 : kk.length ≤ 200002 := by rw [hkk]; have := killI_len (l.take j); rw [List.length_take] at this; omega
          obtain ⟨a5, c5, rfl⟩ := owns_slice ho5
          obtain ⟨a6, c6, rfl⟩ := owns_slice ho6
          have HO5 := Lib.hid ho5
          have HO6 := Lib.hid ho6
          have HNE := Lib.hid hne
          have HST4 := Lib.hid hst4
          clear hkg hkk ho5 ho6 hne hst4
          by_cases hlt2 : j < l.length
          · obtain ⟨a, ha⟩ : ∃ a, l[j]? = some a := ⟨l[j], List.getElem?_eq_getElem hlt2⟩
            obtain ⟨ga, oa, rfl, -, -, hcell⟩ := HRR.out (by omega)
            obtain ⟨cs, hat, f⟩ := Each.cells 3 AcAt.len (Each.mono (AcAt.step HST4.out (fun _ _ h => h)) _ _ HYS.out) ha (fun i x hx => HST4.out.cell (hcell i x hx) (fun h => h))
            have HAT := Lib.hid hat
            have HA := Lib.hid ha
            obtain ⟨va, rfl, ⟨ax, cx, rfl, -⟩⟩ := hat
            have f0 := f 0 _ rfl
            have f1 := f 1 _ rfl
            have f2 := f 2 _ rfl
            rw [Nat.add_zero] at f0
            have STA : Step (fun _ => False) wr (wr.alloc (.cells #[.int .i64 a.pl.loc, .slice ax a.pl.path.length cx, .int .i64 a.kind] 90)) := (Step.refl _ _).alloc _
            have HSTA := Lib.hid STA
            have HNB := Lib.hid (blk_new wr (.cells #[.int .i64 a.pl.loc, .slice ax a.pl.path.length cx, .int .i64 a.kind] 90))
            clear f hcell ha STA
            go_wp2_with fail
            refine (uses_any B a _ _ (AcAt.step HSTA.out (fun _ _ h => h) _ _ HAT.out)).mono ?_
            rintro e w5 ⟨rfl, h5⟩
            have ST5 : Step (fun _ => False) wr w5 := HSTA.out.trans h5
            have HST5 := Lib.hid ST5
            have g0 := blk_cell (h5.keep HNB.out (fun h => h)) 0 _ rfl
            have HO55 := Lib.hid (ST5.owns HO5.out (fun _ _ h => h))
            have HO65 := Lib.hid (ST5.owns HO6.out (fun _ _ h => h))
            have HLOC : Hid (intsV [a.pl.loc] = [.int .i64 a.pl.loc]) := rfl
            have HROW : Hid (Row (w5.alloc (.cells #[.int .i64 a.pl.loc] 3)) (w5.heap.size + 1) (.slice (some ⟨w5.heap.size, 0, none⟩) 1 1) 1 (intsV [a.pl.loc])) := Row.new (cs := [.int .i64 a.pl.loc]) (blk_new _ _) (by decide)
            have HST6 : Hid (Step (fun _ => False) w3 (w5.alloc (.cells #[.int .i64 a.pl.loc] 3))) := (HST4.out.trans ST5).alloc _
            have HO5A := Lib.hid (HO55.out.alloc (.cells #[.int .i64 a.pl.loc] 3))
            have HO6A := Lib.hid (HO65.out.alloc (.cells #[.int .i64 a.pl.loc] 3))
            clear h5 ST5 f0 f1 f2
            cases hu : usesA a with
            | true =>
              have HU := Lib.hid hu
              clear hu
              go_wp2_with (at_builtin; refine wpList_append_row _ rfl (w5.heap.size + 1) (.tmp 33) (.tmp 37) 38 rfl w3.heap.size 3 j0 (.int .i64 0) 1 8 Try.underlying38 HJ.out HY0.out HY1.out HY2.out rfl (by decide) _ _ _ rfl HO5A.out _ 1 _ rfl HROW.out rfl (intsV_one _) (by unfold maxLen; omega) (by omega) HST6.out.size ?_)
              intro v8 w8 hown8 hgrow8 hat8
              have HGRW : Hid (World.grownBy (w5.alloc (.cells #[.int .i64 a.pl.loc] 3)) w8 (Value.slice a5 kg.length c5).ownBlock) := hgrow8
              have HAT8 : Hid (v8.ownBlock = (Value.slice a5 kg.length c5).ownBlock ∨ v8.ownBlock = some (w5.heap.size + 1)) := hat8
              rw [← intsV_append] at hown8
              have HOWN8 := Lib.hid hown8
              clear hown8 hgrow8 hat8
              go_wp2
              go_roundg (gk - 1)
              case rel =>
                obtain ⟨hj', hja⟩ := List.getElem?_eq_some_iff.1 HA.out
                have hs8 := grown_step HGRW.out
                have hst8 : Step (fun _ => False) w3 w8 := HST6.out.then hs8 (fun q hq e => by have := (HO5A.out.lt q e).1; omega)
                have hkx : kg ++ [a.pl.loc] = genI (l.take (j + 1)) := by
                  rw [HKG.out, genI_take l j a HA.out, HU.out]; rfl
                have hky : kk = killI (l.take (j + 1)) := by
                  rw [killI_take l j a HA.out, HU.out, ← HKK.out]; simp
                have ho8 : w8.ownsRow w3.heap.size 3 1 v8 (kg ++ [a.pl.loc]).length (intsV (kg ++ [a.pl.loc])) := by
                  rw [List.length_append]; exact HOWN8.out
                have hot : w8.ownsRow w3.heap.size 3 1 (.slice a6 kk.length c6) kk.length (intsV kk) :=
                  owns_keep hs8 HO6A.out (fun q hq e => HNE.out q e hq)
                have hne8 : ∀ q, v8.ownBlock = some q → (Value.slice a6 kk.length c6).ownBlock ≠ some q := ne_grow HAT8.out (fun q hq e => HNE.out q hq e) (fun e => by have := (HO6A.out.lt _ e).2; simp at this)
                exact ⟨j + 1, kg ++ [a.pl.loc], kk, by go_num, by omega, by omega, hkx, hky, ho8, hot, hne8, hst8⟩
              case measure => omega
            | false =>
              have HU := Lib.hid hu
              clear hu
              go_wp2_with (at_builtin; refine wpList_append_row _ rfl (w5.heap.size + 1) (.tmp 39) (.tmp 43) 38 rfl w3.heap.size 3 j0 (.int .i64 0) 1 8 Try.underlying38 HJ.out HY0.out HY1.out HY2.out rfl (by decide) _ _ _ rfl HO6A.out _ 1 _ rfl HROW.out rfl (intsV_one _) (by unfold maxLen; omega) (by omega) HST6.out.size ?_)
              intro v8 w8 hown8 hgrow8 hat8
              have HGRW : Hid (World.grownBy (w5.alloc (.cells #[.int .i64 a.pl.loc] 3)) w8 (Value.slice a6 kk.length c6).ownBlock) := hgrow8
              have HAT8 : Hid (v8.ownBlock = (Value.slice a6 kk.length c6).ownBlock ∨ v8.ownBlock = some (w5.heap.size + 1)) := hat8
              rw [← intsV_append] at hown8
              have HOWN8 := Lib.hid hown8
              clear hown8 hgrow8 hat8
              go_wp2
              go_roundg (gk - 1)
              case rel =>
                obtain ⟨hj', hja⟩ := List.getElem?_eq_some_iff.1 HA.out
                have hs8 := grown_step HGRW.out
                have hst8 : Step (fun _ => False) w3 w8 := HST6.out.then hs8 (fun q hq e => by have := (HO6A.out.lt q e).1; omega)
                have hkx : kk ++ [a.pl.loc] = killI (l.take (j + 1)) := by
                  rw [HKK.out, killI_take l j a HA.out, HU.out]; rfl
                have hky : kg = genI (l.take (j + 1)) := by
                  rw [genI_take l j a HA.out, HU.out, ← HKG.out]; simp
                have ho8 : w8.ownsRow w3.heap.size 3 1 v8 (kk ++ [a.pl.loc]).length (intsV (kk ++ [a.pl.loc])) := by
                  rw [List.length_append]; exact HOWN8.out
                have hot : w8.ownsRow w3.heap.size 3 1 (.slice a5 kg.length c5) kg.length (intsV kg) :=
                  owns_keep hs8 HO5A.out (fun q hq e => HNE.out q hq e)
                have hne8 : ∀ q, v8.ownBlock = some q → (Value.slice a5 kg.length c5).ownBlock ≠ some q := ne_grow HAT8.out (fun q hq e => HNE.out q e hq) (fun e => by have := (HO5A.out.lt _ e).2; simp at this)
                exact ⟨j + 1, kg, kk ++ [a.pl.loc], by go_num, by omega, by omega, hky, hkx, hot, ho8, ne_symm hne8, hst8⟩
              case measure => omega
          · obtain rfl : j = l.length := by omega
            go_wp2_with fail
            go_meet
            case rel => exact ⟨kg, kk, by rw [HKG.out, List.take_length], by rw [HKK.out, List.take_length], HO5.out, HO6.out, HST4.out⟩
      case rest =>
        obtain ⟨w4, rfl⟩ : ∃ w4 : World, w4 = wc := ⟨_, rfl⟩
        obtain ⟨kg, kk, hkg, hkk, ho5, ho6, hst4⟩ := hcut
        obtain ⟨a5, c5, rfl⟩ := owns_slice ho5
        obtain ⟨a6, c6, rfl⟩ := owns_slice ho6
        have hst34 := HST3.out.trans hst4
        have hps4 := HPS.out.keep hst34 (fun _ _ h => h.elim)
        have hle : wo.heap.size ≤ w3.heap.size := HST3.out.size
        have HR5 : Hid (Row (veil G w4) w4.heap.size (.slice a5 kg.length c5) kg.length (intsV kg)) := Row.owns_veil ho5 (Nat.le_refl _) (fun q hq => HPS.out.up q (by omega))
        have HR6 : Hid (Row (veil G w4) w4.heap.size (.slice a6 kk.length c6) kk.length (intsV kk)) := Row.owns_veil ho6 (Nat.le_refl _) (fun q hq => HPS.out.up q (by omega))
        have HPS4 := Lib.hid hps4
        have HBLK4 := Lib.hid (hst34.keep HBLK.out (fun h => h))
        have HBO4 := Lib.hid (HBOR.out.step hst34 (fun _ _ h => h))
        have HST4 := Lib.hid (HST.out.trans (hst34.mono (fun _ _ h => h.elim)))
        have HSW4 := Lib.hid hst34
        have HKG := Lib.hid hkg
        have HKK := Lib.hid hkk
        obtain ⟨sl, hsl⟩ : ∃ sl, sl = succI x k := ⟨_, rfl⟩
        have HSL := Lib.hid hsl
        clear hkg hkk ho5 ho6 hst4 hst34 hps4 hle hsl HYS HRR hcl hcm
        go_upto_region 13 with fail
        go_cut [] (fun wx => ∃ (G1 : Nat → Bool) (v1 : Value) (xs1 xg1 xk1 : List Value), PS w2.heap.size wx (ls ++ [sl]) v1 lg vg lk vk G1 xs1 xg1 xk1 ∧ Row (veil G1 wx) wx.heap.size (.slice a5 kg.length c5) kg.length (intsV kg) ∧ Row (veil G1 wx) wx.heap.size (.slice a6 kk.length c6) kk.length (intsV kk) ∧ wx.heap[g3]? = some (.cells #[v1, .int .i64 b.locals, vg, vk, .slice none 0 0] 82 (0, 0)) ∧ Step (· = g3) w2 wx)
        case first =>
          refine wp_region_rely (by kernel_rfl) (J13e w2 w2.heap.size B g g3 b k b.locals sl kg kk (.slice a5 kg.length c5) (.slice a6 kk.length c6) ls vs lg vg lk vk) 9 rfl (by kernel_rfl) (by kernel_rfl) (by kernel_rfl) (by kernel_rfl) ?h0 ?hs ?hdone
          case h0 =>
            have hd : Step (fun _ => False) w4 w4.drew := (Step.refl _ _).drew
            exact ⟨G, xs, xg, xk, HPS4.out.keep hd (fun _ _ h => h.elim), row_keep HR5.out hd (fun _ _ h => h.elim), row_keep HR6.out hd (fun _ _ h => h.elim), (fun h => nomatch h), (fun h => nomatch h), (fun h => nomatch h), (fun h => nomatch h), (fun h => nomatch h), (fun h => nomatch h), (fun h => nomatch h), hd.keep HBLK4.out (fun h => h), (fun h => nomatch h), (fun h => nomatch h), HBO4.out.step hd (fun _ _ h => h), HST4.out.trans (hd.mono (fun _ _ h => h.elim))⟩
          case hs =>
            refine ⟨?_, ?_, ?_, ?_, ?_, ?_, ?_, ?_, ?_, trivial⟩
            · intro L V X a ev evo hL hdep ⟨G1, xs1, xg1, xk1, hJ⟩
              have o1 := evo 3 rfl
              change a.tmps[3]?.getD undef = .pointer (some ⟨g3, 0, none⟩) at o1
              go_simp
              exact ⟨_, rfl, G1, xs1, xg1, xk1, { hJ with p0 := fun _ => rfl }⟩
            · intro L V X a ev evo hL hdep ⟨G1, xs1, xg1, xk1, hJ⟩
              have e200 := (ev 0 46 rfl (hdep 0 rfl)).trans (hJ.p0 (hdep 0 rfl))
              have h8 : L 8 = false := by
                cases e : L 8 with
                | false => rfl
                | true => exact absurd (hJ.q8 e).2 (by rw [hL]; decide)
              have hb := hJ.blk
              simp only [h8, Bool.false_eq_true, if_false] at hb
              have d1 := blk_cell hb 0 _ rfl
              go_simp
              exact ⟨_, rfl, G1, xs1, xg1, xk1, { hJ with p1 := fun _ => rfl, q8 := fun e => absurd (show L 8 = true from e) (by rw [h8]; decide) }⟩
            · intro L V X a ev evo hL hdep ⟨G1, xs1, xg1, xk1, hJ⟩
              have o1 := evo 0 rfl
              change a.tmps[0]?.getD undef = .pointer (some ⟨g, 0, none⟩) at o1
              go_simp
              exact ⟨_, rfl, G1, xs1, xg1, xk1, { hJ with p2 := fun _ => rfl }⟩
            · intro L V X a ev evo hL hdep ⟨G1, xs1, xg1, xk1, hJ⟩
              have o1 := evo 4 rfl
              change a.tmps[4]?.getD undef = .int .i64 (k : Int) at o1
              go_simp
              exact ⟨_, rfl, G1, xs1, xg1, xk1, { hJ with p3 := fun _ => rfl }⟩
            · intro L V X a ev evo hL hdep ⟨G1, xs1, xg1, xk1, hJ⟩
              have e202 := (ev 2 48 rfl (hdep 2 rfl)).trans (hJ.p2 (hdep 2 rfl))
              have e203 := (ev 3 49 rfl (hdep 3 rfl)).trans (hJ.p3 (hdep 3 rfl))
              go_simp
              refine (succ_fresh B g b k x X hJ.bod HX.out).mono ?_
              rintro e w5 ⟨⟨us, rfl, hr5, hn5⟩, hst5⟩
              rw [← HSL.out] at hr5
              exact ⟨_, rfl, G1, xs1, xg1, xk1, hJ.up4 hL hst5 hr5 hn5⟩
            · intro L V X a ev evo hL hdep ⟨G1, xs1, xg1, xk1, hJ⟩
              have e204 := ev 4 50 rfl (hdep 4 rfl)
              obtain ⟨ar4, cr4, hv4, -⟩ := hJ.p4 (hdep 4 rfl)
              rw [hv4] at e204
              have hu := hJ.up5 (hdep 4 rfl)
              rw [hv4] at hu
              go_simp
              exact ⟨_, rfl, G1, xs1, xg1, xk1, hu⟩
            · intro L V X a ev evo hL hdep ⟨G1, xs1, xg1, xk1, hJ⟩
              have e201 := (ev 1 47 rfl (hdep 1 rfl)).trans (hJ.p1 (hdep 1 rfl))
              have e205 := ev 5 51 rfl (hdep 5 rfl)
              have hps := hJ.ps
              simp only [hL, Bool.false_eq_true, if_false] at hps
              have h4 := hJ.q5 (hdep 5 rfl)
              obtain ⟨ar4, cr4, hv4, -⟩ := hJ.p4 h4
              have h15 := (hJ.p5 (hdep 5 rfl)).unveil
              have h1l := HL1.out
              refine wp_append_row _ X.heap.size (.tmp 47) (.tmp 51) 31 rfl w2.heap.size 38 i0 _ 1 24 Try.underlying31 HI.out HZ0.out HZ1.out HZ2.out rfl (by decide) vs ls.length xs1 (by rw [evalTmp]; exact e201) hps.s.own (V 5) 1 [V 4] (by rw [evalTmp]; exact e205) h15 rfl (by rw [hv4]; intro u hu; rw [List.mem_singleton.1 hu]; rfl) (by unfold maxLen; omega) (by omega) hps.le ?_
              intro v8 w8 hown8 hgrow8 hat8
              exact ⟨v8, rfl, addG G1 v8, xs1 ++ [V 4], xg1, xk1, hJ.up6 hL h4 (by have := HG3L.out; omega) HG3L.out.1 (Nat.le_refl _) hown8 hgrow8 hat8⟩
            · intro L V X a ev evo hL hdep ⟨G1, xs1, xg1, xk1, hJ⟩
              have o1 := evo 3 rfl
              change a.tmps[3]?.getD undef = .pointer (some ⟨g3, 0, none⟩) at o1
              go_simp
              exact ⟨_, rfl, G1, xs1, xg1, xk1, { hJ with p7 := fun _ => rfl }⟩
            · intro L V X a ev evo hL hdep ⟨G1, xs1, xg1, xk1, hJ⟩
              have e207 := (ev 7 53 rfl (hdep 7 rfl)).trans (hJ.p7 (hdep 7 rfl))
              have e206 := ev 6 52 rfl (hdep 6 rfl)
              have h6 := hdep 6 rfl
              have hps := hJ.ps
              simp only [h6, if_true] at hps
              obtain ⟨ar6, n6, cr6, hv6⟩ : ∃ a n c, V 6 = .slice a n c := by
                obtain ⟨a, c, h⟩ := owns_slice hps.s.own
                exact ⟨a, _, c, h⟩
              rw [hv6] at e206
              have hb := hJ.blk
              simp only [hL, Bool.false_eq_true, if_false] at hb
              have d1 := blk_cell hb 0 _ rfl
              have d2 := blk_free hb 0
              have hu := hJ.up8 hL h6 (hdep 1 rfl) (by have := HG3L.out; omega) HG3L.out.1 undef
              rw [hv6] at hu
              go_simp
              exact ⟨undef, G1, xs1, xg1, xk1, hu⟩
          case hdone =>
            intro L V X hall ⟨G1, xs1, xg1, xk1, hJ⟩
            have hps := hJ.ps
            have hb := hJ.blk
            simp only [hall 6 (by decide), if_true] at hps
            simp only [hall 8 (by decide), if_true] at hb
            rw [show List.range 9 = [0, 1, 2, 3, 4, 5, 6, 7, 8] from rfl]
            simp only [putF, dstO, List.getElem?_toArray, List.getElem?_cons_zero, List.getElem?_cons_succ, Option.bind_some, Act.put, List.setIfInBounds_toArray, List.set_cons_zero, List.set_cons_succ]
            go_wp2_with fail
            go_meet
            case rel => exact ⟨G1, V 6, xs1, xg1, xk1, hps, hJ.r5, hJ.r6, hb, hJ.st⟩
        case rest =>
          obtain ⟨w6, rfl⟩ : ∃ w6 : World, w6 = wc := ⟨_, rfl⟩
          obtain ⟨G2, v1, xs2, xg2, xk2, hps6, hr5, hr6, hb6, hst6⟩ := hcut
          have HPS6 := Lib.hid hps6
          have HR56 := Lib.hid hr5
          have HR66 := Lib.hid hr6
          have HB6 := Lib.hid hb6
          have HST6 := Lib.hid hst6
          clear hps6 hr5 hr6 hb6 hst6 HR5 HR6 HPS4 HBLK4 HBO4
          go_upto_region 14 with fail
          refine wp_region_rely (by kernel_rfl) (J14e w2 w2.heap.size g3 b.locals (.slice none 0 0) kg kk (.slice a5 kg.length c5) (.slice a6 kk.length c6) (ls ++ [sl]) v1 lg vg lk vk) 14 rfl (by kernel_rfl) (by kernel_rfl) (by kernel_rfl) (by kernel_rfl) ?h0 ?hs ?hdone
          case h0 =>
            have hd : Step (fun _ => False) w6 w6.drew := (Step.refl _ _).drew
            exact ⟨G2, xs2, xg2, xk2, HPS6.out.keep hd (fun _ _ h => h.elim), row_keep HR56.out hd (fun _ _ h => h.elim), row_keep HR66.out hd (fun _ _ h => h.elim), (fun h => nomatch h), (fun h => nomatch h), (fun h => nomatch h), (fun h => nomatch h), (fun h => nomatch h), (fun h => nomatch h), (fun h => nomatch h), (fun h => nomatch h), (fun h => nomatch h), (fun h => nomatch h), hd.keep HB6.out (fun h => h), (fun h => nomatch h), (fun h => nomatch h), HST6.out.trans (hd.mono (fun _ _ h => h.elim))⟩
          case hs =>
            refine ⟨?_, ?_, ?_, ?_, ?_, ?_, ?_, ?_, ?_, ?_, ?_, ?_, ?_, ?_, trivial⟩
            · intro L V X a ev evo hL hdep ⟨G1, xs1, xg1, xk1, hJ⟩
              have o1 := evo 3 rfl
              change a.tmps[3]?.getD undef = .pointer (some ⟨g3, 0, none⟩) at o1
              go_simp
              exact ⟨_, rfl, G1, xs1, xg1, xk1, { hJ with p0 := fun _ => rfl }⟩
            · intro L V X a ev evo hL hdep ⟨G1, xs1, xg1, xk1, hJ⟩
              have e200 := (ev 0 54 rfl (hdep 0 rfl)).trans (hJ.p0 (hdep 0 rfl))
              have hq := hJ.n11 (.inr hL)
              have hb := hJ.blk
              simp only [hq, Bool.false_eq_true, if_false] at hb
              have d1 := blk_cell hb 2 _ rfl
              go_simp
              exact ⟨_, rfl, G1, xs1, xg1, xk1, { hJ with p1 := fun _ => rfl, q11 := fun e => absurd (show L 11 = true from e) (by rw [hq]; decide) }⟩
            · intro L V X a ev evo hL hdep ⟨G1, xs1, xg1, xk1, hJ⟩
              have o1 := evo 5 rfl
              change a.tmps[5]?.getD undef = .slice a5 kg.length c5 at o1
              go_simp
              exact ⟨_, rfl, G1, xs1, xg1, xk1, { hJ with p2 := fun _ => rfl }⟩
            · intro L V X a ev evo hL hdep ⟨G1, xs1, xg1, xk1, hJ⟩
              have e202 := (ev 2 56 rfl (hdep 2 rfl)).trans (hJ.p2 (hdep 2 rfl))
              have hu := hJ.up3
              go_simp
              exact ⟨_, rfl, G1, xs1, xg1, xk1, hu⟩
            · intro L V X a ev evo hL hdep ⟨G1, xs1, xg1, xk1, hJ⟩
              have e201 := (ev 1 55 rfl (hdep 1 rfl)).trans (hJ.p1 (hdep 1 rfl))
              have e203 := ev 3 57 rfl (hdep 3 rfl)
              have hps := hJ.gen4 hL
              have h15 := (hJ.p3 (hdep 3 rfl)).unveil
              have h1l := HL2.out
              refine wp_append_row _ X.heap.size (.tmp 55) (.tmp 57) 31 rfl w2.heap.size 38 i0 _ 1 24 Try.underlying31 HI.out HZ0.out HZ1.out HZ2.out rfl (by decide) vg lg.length xg1 (by rw [evalTmp]; exact e201) hps.g.own (V 3) 1 [.slice a5 kg.length c5] (by rw [evalTmp]; exact e203) h15 rfl (by intro u hu; rw [List.mem_singleton.1 hu]; rfl) (by unfold maxLen; omega) (by omega) hps.le ?_
              intro v8 w8 hown8 hgrow8 hat8
              exact ⟨v8, rfl, addG G1 v8, xs1, xg1 ++ [.slice a5 kg.length c5], xk1, hJ.up4 hL HG3L.out.1 (Nat.le_refl _) hown8 hgrow8 hat8⟩
            · intro L V X a ev evo hL hdep ⟨G1, xs1, xg1, xk1, hJ⟩
              have o1 := evo 3 rfl
              change a.tmps[3]?.getD undef = .pointer (some ⟨g3, 0, none⟩) at o1
              go_simp
              exact ⟨_, rfl, G1, xs1, xg1, xk1, { hJ with p5 := fun _ => rfl }⟩
            · intro L V X a ev evo hL hdep ⟨G1, xs1, xg1, xk1, hJ⟩
              have e205 := (ev 5 59 rfl (hdep 5 rfl)).trans (hJ.p5 (hdep 5 rfl))
              have hq := hJ.n13 (.inr hL)
              have hb := hJ.blk
              simp only [hq, Bool.false_eq_true, if_false] at hb
              have d1 := blk_cell hb 3 _ rfl
              go_simp
              exact ⟨_, rfl, G1, xs1, xg1, xk1, { hJ with p6 := fun _ => rfl, q13 := fun e => absurd (show L 13 = true from e) (by rw [hq]; decide) }⟩
            · intro L V X a ev evo hL hdep ⟨G1, xs1, xg1, xk1, hJ⟩
              have o1 := evo 6 rfl
              change a.tmps[6]?.getD undef = .slice a6 kk.length c6 at o1
              go_simp
              exact ⟨_, rfl, G1, xs1, xg1, xk1, { hJ with p7 := fun _ => rfl }⟩
            · intro L V X a ev evo hL hdep ⟨G1, xs1, xg1, xk1, hJ⟩
              have e207 := (ev 7 61 rfl (hdep 7 rfl)).trans (hJ.p7 (hdep 7 rfl))
              have hu := hJ.up8
              go_simp
              exact ⟨_, rfl, G1, xs1, xg1, xk1, hu⟩
            · intro L V X a ev evo hL hdep ⟨G1, xs1, xg1, xk1, hJ⟩
              have e206 := (ev 6 60 rfl (hdep 6 rfl)).trans (hJ.p6 (hdep 6 rfl))
              have e208 := ev 8 62 rfl (hdep 8 rfl)
              have hps := hJ.kill9 hL
              have h15 := (hJ.p8 (hdep 8 rfl)).unveil
              have h1l := HL3.out
              refine wp_append_row _ X.heap.size (.tmp 60) (.tmp 62) 31 rfl w2.heap.size 38 i0 _ 1 24 Try.underlying31 HI.out HZ0.out HZ1.out HZ2.out rfl (by decide) vk lk.length xk1 (by rw [evalTmp]; exact e206) hps.k.own (V 8) 1 [.slice a6 kk.length c6] (by rw [evalTmp]; exact e208) h15 rfl (by intro u hu; rw [List.mem_singleton.1 hu]; rfl) (by unfold maxLen; omega) (by omega) hps.le ?_
              intro v8 w8 hown8 hgrow8 hat8
              exact ⟨v8, rfl, addG G1 v8, xs1, xg1, xk1 ++ [.slice a6 kk.length c6], hJ.up9 hL HG3L.out.1 (Nat.le_refl _) hown8 hgrow8 hat8⟩
            · intro L V X a ev evo hL hdep ⟨G1, xs1, xg1, xk1, hJ⟩
              have o1 := evo 3 rfl
              change a.tmps[3]?.getD undef = .pointer (some ⟨g3, 0, none⟩) at o1
              go_simp
              exact ⟨_, rfl, G1, xs1, xg1, xk1, { hJ with p10 := fun _ => rfl }⟩
            · intro L V X a ev evo hL hdep ⟨G1, xs1, xg1, xk1, hJ⟩
              have e210 := (ev 10 64 rfl (hdep 10 rfl)).trans (hJ.p10 (hdep 10 rfl))
              have e204 := ev 4 58 rfl (hdep 4 rfl)
              have h6 := hdep 4 rfl
              have hps := hJ.ps
              simp only [h6, if_true] at hps
              obtain ⟨ar6, n6, cr6, hv6⟩ : ∃ a n c, V 4 = .slice a n c := by
                obtain ⟨a, c, h⟩ := owns_slice hps.g.own
                exact ⟨a, _, c, h⟩
              rw [hv6] at e204
              have hb := hJ.blk
              have d1 := blk_cell hb 2 _ rfl
              have d2 := blk_free hb 2
              have hu := hJ.up11 h6 (hdep 1 rfl) HG3L.out.1 undef
              rw [hv6] at hu
              go_simp
              exact ⟨undef, G1, xs1, xg1, xk1, hu⟩
            · intro L V X a ev evo hL hdep ⟨G1, xs1, xg1, xk1, hJ⟩
              have o1 := evo 3 rfl
              change a.tmps[3]?.getD undef = .pointer (some ⟨g3, 0, none⟩) at o1
              go_simp
              exact ⟨_, rfl, G1, xs1, xg1, xk1, { hJ with p12 := fun _ => rfl }⟩
            · intro L V X a ev evo hL hdep ⟨G1, xs1, xg1, xk1, hJ⟩
              have e212 := (ev 12 65 rfl (hdep 12 rfl)).trans (hJ.p12 (hdep 12 rfl))
              have e209 := ev 9 63 rfl (hdep 9 rfl)
              have h6 := hdep 9 rfl
              have hps := hJ.ps
              simp only [h6, if_true] at hps
              obtain ⟨ar6, n6, cr6, hv6⟩ : ∃ a n c, V 9 = .slice a n c := by
                obtain ⟨a, c, h⟩ := owns_slice hps.k.own
                exact ⟨a, _, c, h⟩
              rw [hv6] at e209
              have hb := hJ.blk
              have d1 := blk_cell hb 3 _ rfl
              have d2 := blk_free hb 3
              have hu := hJ.up13 h6 (hdep 6 rfl) HG3L.out.1 undef
              rw [hv6] at hu
              go_simp
              exact ⟨undef, G1, xs1, xg1, xk1, hu⟩
          case hdone =>
            intro L V X hall ⟨G1, xs1, xg1, xk1, hJ⟩
            have hps := hJ.ps
            have hb := hJ.blk
            simp only [hall 4 (by decide), hall 9 (by decide), if_true] at hps
            simp only [hall 11 (by decide), hall 13 (by decide), if_true] at hb
            rw [show List.range 14 = [0, 1, 2, 3, 4, 5, 6, 7, 8, 9, 10, 11, 12, 13] from rfl]
            simp only [putF, dstO, List.getElem?_toArray, List.getElem?_cons_zero, List.getElem?_cons_succ, Option.bind_some, Act.put, List.setIfInBounds_toArray, List.set_cons_zero, List.set_cons_succ]
            have HPS7 := Lib.hid hps
            have HB7 := Lib.hid hb
            have HST7 := Lib.hid hJ.st
            clear hps hb hJ
            go_wp2_with fail
            go_roundg (go1 - 1)
            case rel =>
              have e1 : ls ++ [sl] = (succsB b).take (k + 1) := by
                have h1 : succB b k = sl := by unfold succB; rw [HX.out, HSL.out]
                rw [HLS.out, ← h1]; exact (map_take_succ (succB b) _ _ hlt).symm
              have e2 : lg ++ [kg] = (gensB b).take (k + 1) := by
                rw [HLG.out, HKG.out, HL.out]; exact (map_take_succ (fun i => genI (accB b i)) _ _ hlt).symm
              have e3 : lk ++ [kk] = (killsB b).take (k + 1) := by
                rw [HLK.out, HKK.out, HL.out]; exact (map_take_succ (fun i => killI (accB b i)) _ _ hlt).symm
              exact ⟨k + 1, _, v1, _, V 4, _, V 9, G1, xs1, xg1, xk1, by go_num, hlt, by rw [← Nat.sub_sub]; exact Nat.sub_le_sub_right hgg 1, e1, e2, e3, HPS7.out, HB7.out, HST7.out⟩
            case measure => omega
    · obtain rfl : k = b.code.length := by omega
      have e1 : ls = succsB b := by rw [HLS.out]; exact List.take_of_length_le (by simp [succsB])
      have e2 : lg = gensB b := by rw [HLG.out]; exact List.take_of_length_le (by simp [gensB])
      have e3 : lk = killsB b := by rw [HLK.out]; exact List.take_of_length_le (by simp [killsB])
      have E1 := Lib.hid e1
      have E2 := Lib.hid e2
      have E3 := Lib.hid e3
      have c0 := blk_cell HBLK.out 0 _ rfl
      have c1 := blk_cell HBLK.out 1 _ rfl
      have c2 := blk_cell HBLK.out 2 _ rfl
      have c3 := blk_cell HBLK.out 3 _ rfl
      have c4 := blk_cell HBLK.out 4 _ rfl
      have HRESW := Lib.hid (HST.out.keep HRES2.out (by have := HG3.out; omega))
      have HLD : Hid (∀ (j : Nat) v, [vs, .int .i64 b.locals, vg, vk, .slice none 0 0][j]? = some v → wo.cell? ⟨g3, 0 + j, none⟩ = some v) := fun j v hv => by rw [Nat.zero_add]; exact blk_cell HBLK.out j v (by simpa using hv)
      have HONE : Hid (∀ u ∈ [vs, .int .i64 b.locals, vg, vk, .slice none 0 0], u.oneCell' = true) := by
        show ∀ u ∈ _, _
        intro u hu
        rw [hvs, hvg, hvk] at hu
        simp at hu
        rcases hu with rfl | rfl | rfl | rfl | rfl <;> rfl
      clear e1 e2 e3 c0 c1 c2 c3 c4 hvs hvg hvk
      go_wp2_with (first
        | (refine wpList_load_whole rfl 82 (.tmp 3) rfl g3 0 rfl [vs, .int .i64 b.locals, vg, vk, .slice none 0 0] _ HLD.out Try.underlying82 rfl Try.sizeProb ?_)
        | (refine wpList_store_part (w := _) rfl 82 (.tmp 2) (.tmp 67) rfl w.heap.size 0 82 _ [vs, .int .i64 b.locals, vg, vk, .slice none 0 0] rfl rfl HRESW.out Try.sizeProb (Nat.le_of_eq rfl) HONE.out ?_
           intro w10 hb10 hst10))
      have hb10' : w10.heap[w.heap.size]? = some (.cells [vs, .int .i64 b.locals, vg, vk, .slice none 0 0].toArray 82 (0, 0)) := hb10
      have hps10 := HPS.out.keep hst10 (fun q _ e => by have := HSZ2.out; omega)
      refine bodyPost_ret (v := .agg [vs, .int .i64 b.locals, vg, vk, .slice none 0 0].toArray) ?_ rfl ⟨⟨vs, vg, vk, rfl, ?_, ?_, ?_⟩, ?_⟩
      · exact results_cellB rfl _ w.heap.size 82 _ _ rfl hb10' Try.underlying82 rfl Try.sizeProb
      · rw [← E1.out]; exact hps10.s.rows2
      · rw [← E2.out]; exact hps10.g.rows2
      · rw [← E3.out]; exact hps10.k.rows2
      · exact (HST2.out.then HST.out (fun q hq e => by have := HG3L.out; omega)).then hst10 (fun q hq e => by omega)

end Go.Proofs.Ytilipeigjkmldaa
