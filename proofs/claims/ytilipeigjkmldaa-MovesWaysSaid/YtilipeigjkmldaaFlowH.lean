/- Contracts of package flow: Backward. -/
import Derived.Test.YtilipeigjkmldaaFlowEG
import Derived.Deep.RegionHeld3
import Derived.Deep.RegionLaw
namespace Go.Proofs.Ytilipeigjkmldaa
open Go.RowKit

theorem owns_keep {S : Nat → Prop} {w w' : World} {base : Nat} {e : TypeId} {size : Nat} {v : Value} {n : Nat} {xs : List Value} (hs : Step S w w') (h : w.ownsRow base e size v n xs) (hn : ∀ k, v.ownBlock = some k → ¬ S k) : w'.ownsRow base e size v n xs := by
  refine ⟨h.1, ?_⟩
  rcases h.2 with hz | ⟨g, cap, cur, rfl, hb, hgg, rest⟩
  · exact .inl hz
  · exact .inr ⟨g, cap, cur, rfl, hb, hs.keep hgg (hn g rfl), rest⟩
theorem Ans.setAt {w w' : World} {base ab W width i g : Nat} {vs : Value} {gs : List Nat} {sets : List (List Nat)} {s : List Nat} (h : Ans w base ab W width vs gs sets) (hg : gs[i]? = some g) (hs : Step (· = g) w w') (hb : SetB w' g s) (hl : s.length = W) : Ans w' base ab W width vs gs (sets.set i s) := by
  have hm := List.mem_of_getElem? hg
  have hn := h.new g hm
  refine ⟨hs.keep h.blk (by have := h.at'; omega), owns_keep hs h.own (fun k hk e => hn.2 (by rw [hk, e])), by rw [List.length_set]; exact h.len, ?_, h.new, h.at', h.nodup⟩
  intro j g2 s2 h1 h2
  rw [List.getElem?_set] at h2
  split at h2
  · rename_i hij
    subst hij
    rw [hg] at h1
    cases h1
    split at h2
    · cases h2; exact ⟨hb, hl⟩
    · cases h2
  · rename_i hij
    obtain ⟨h3, h4⟩ := h.set j g2 s2 h1 h2
    refine ⟨h3.step hs (fun e => ?_), h4⟩
    obtain ⟨hi', e1⟩ := List.getElem?_eq_some_iff.1 hg
    obtain ⟨hj', e2⟩ := List.getElem?_eq_some_iff.1 h1
    rcases Nat.lt_trichotomy i j with hlt | hlt | hlt
    · exact List.pairwise_iff_getElem.1 h.nodup i j hi' hj' hlt (by rw [e1, e2, e])
    · exact hij hlt
    · exact List.pairwise_iff_getElem.1 h.nodup j i hj' hi' hlt (by rw [e1, e2, e])
theorem Ans.elem {w : World} {base ab W width i g vg vo c : Nat} {gs : List Nat} {sets : List (List Nat)} (h : Ans w base ab W width (.slice (some ⟨vg, vo, none⟩) gs.length c) gs sets) (hg : gs[i]? = some g) : w.cell? ⟨vg, vo + i, none⟩ = some (.slice (some ⟨g, 0, none⟩) W W) := by
  obtain ⟨a, c', hv, -, -, -, hr⟩ := Row.of_owns (B := w.heap.size) h.own (Nat.le_refl _)
  obtain ⟨g2, o2, ha, -, -, hc⟩ := hr (by have := (List.getElem?_eq_some_iff.1 hg).1; omega)
  cases hv
  cases ha
  exact hc i _ (setV_get W gs i g hg)
theorem Ans.form {w : World} {base ab W width : Nat} {v : Value} {gs : List Nat} {sets : List (List Nat)} (h : Ans w base ab W width v gs sets) : ∃ a c, v = .slice a gs.length c ∧ (0 < gs.length → ∃ g o, a = some ⟨g, o, none⟩ ∧ v.ownBlock = some g) := by
  rcases h.own.2 with ⟨hv, h0⟩ | ⟨g, cap, cur, hv, -⟩
  · exact ⟨none, 0, by rw [hv, h0], fun hn => by omega⟩
  · exact ⟨_, _, hv, fun _ => ⟨g, 0, rfl, by rw [hv]; rfl⟩⟩

def BackPost (p : Prb) (w : World) (e : Ending) (w' : World) : Prop :=
  (∃ base ab W v gs sets, e = .returned (.tuple #[.pointer (some ⟨ab, 0, none⟩), .int .i64 0]) ∧ W = (p.width + 63) / 64 ∧ Ans w' base ab W p.width v gs sets ∧ sets.length = p.succ.length ∧
    ∀ i x, i < p.succ.length → (bit (sets.getD i []) x = true ↔ Back (pSucc p) (pGen p) (pKill p) i x)) ∧ Step (fun _ => False) w w'

set_option maxRecDepth 100000 in
set_option maxHeartbeats 8000000 in
theorem backward_any (B : Nat) (p : Prb) (vs vg vk ve : Value) (w : World) (h : PrbAt w B p vs vg vk ve) (hf : PrbFull p) (hB : B ≤ w.heap.size) :
    Calls Try.prog 33 #[.agg #[vs, .int .i64 p.width, vg, vk, ve]] w (BackPost p w) := by
  have H := Lib.hid h
  have HF := Lib.hid hf
  have hn := hf.ok.n
  have hwd := hf.ok.w
  obtain ⟨⟨xs, h1, a, c, rfl, -⟩, ⟨xg, h2, a2, c2, rfl, -⟩, ⟨xk, h3, a3, c3, rfl, -⟩, ⟨a4, c4, rfl, -⟩⟩ := h
  obtain ⟨q, hq⟩ : ∃ q, q = p.width + 63 := ⟨_, rfl⟩
  obtain ⟨W, hW⟩ : ∃ W, W = q / 64 := ⟨_, rfl⟩
  have HQ : Hid (W = (p.width + 63) / 64) := by show _ = _; rw [hW, hq]
  have hWle : W ≤ 1000000 := by omega
  have hmk := run_makeWords W hWle
  have R0 : IntKind.i64.wrap ((p.width : Int) + 63) = (q : Int) := by rw [IntWalk.i64_in _ (by omega)]; omega
  have R1 : IntKind.i64.wrap ((q : Int).tdiv 64) = (W : Int) := val_quo64 q W (by omega) hW
  have R7 : IntKind.i64.wrap (W : Int) = (W : Int) := IntWalk.i64_in _ (by omega)
  have R8 : IntKind.i64.wrap (q : Int) = (q : Int) := IntWalk.i64_in _ (by omega)
  have R5 : (q : Int) / 64 = (W : Int) := by omega
  have R6 : (p.width : Int) + 63 = (q : Int) := by omega
  obtain ⟨W0, hW0⟩ : ∃ W0 : World, W0 = w.alloc (.cells #[.slice a p.succ.length c, .int .i64 p.width, .slice a2 p.gen.length c2, .slice a3 p.kill.length c3, .slice a4 p.entry.length c4] 82) := ⟨_, rfl⟩
  have ST0 : Step (fun _ => False) w W0 := by rw [hW0]; exact (Step.refl _ _).alloc _
  have HPB : Hid (W0.heap[w.heap.size]? = some (.cells #[.slice a p.succ.length c, .int .i64 p.width, .slice a2 p.gen.length c2, .slice a3 p.kill.length c3, .slice a4 p.entry.length c4] 82 (0, 0))) := by show _ = _; rw [hW0]; exact blk_new _ _
  have HPC : Hid (∀ X : World, X.heap[w.heap.size]? = some (.cells #[.slice a p.succ.length c, .int .i64 p.width, .slice a2 p.gen.length c2, .slice a3 p.kill.length c3, .slice a4 p.entry.length c4] 82 (0, 0)) →
      X.cell? ⟨w.heap.size, 0, none⟩ = some (.slice a p.succ.length c) ∧ X.cell? ⟨w.heap.size, 1, none⟩ = some (.int .i64 p.width) ∧ X.cell? ⟨w.heap.size, 2, none⟩ = some (.slice a2 p.gen.length c2) ∧ X.cell? ⟨w.heap.size, 3, none⟩ = some (.slice a3 p.kill.length c3) ∧ X.cell? ⟨w.heap.size, 4, none⟩ = some (.slice a4 p.entry.length c4)) :=
    fun X hX => ⟨blk_cell hX 0 _ rfl, blk_cell hX 1 _ rfl, blk_cell hX 2 _ rfl, blk_cell hX 3 _ rfl, blk_cell hX 4 _ rfl⟩
  have HSZ0 : Hid (W0.heap.size = w.heap.size + 1) := by show _ = _; rw [hW0]; simp
  have HW0 := Lib.hid hW0
  obtain ⟨b0, b1, b2, b3, b4⟩ := HPC.out W0 HPB.out
  clear h1 h2 h3 hf hq hW hW0
  go_enter Try.func33, Try.ntmps33
  go_wp2_with fail
  rw [← HW0.out]
  refine (fcheck_any B p _ _ _ _ W0 (H.out.step ST0 (fun _ _ h => h)) HF.out.ok).mono ?_
  rintro e w1 ⟨rfl, s1⟩
  clear b0 b1 b2 b3 b4
  obtain ⟨b0, b1, b2, b3, b4⟩ := HPC.out w1 (s1.keep HPB.out (fun h => h))
  have ST1 := ST0.trans s1
  go_wp2_with fail
  refine (empty_any B p _ _ _ _ w1 (H.out.step ST1 (fun _ _ h => h)) (by omega) (by omega)).mono ?_
  rintro e w2 ⟨⟨base, ab, v, gs, rfl, hab, hans, hgl⟩, s2⟩
  rw [← HQ.out] at hans
  have HANS0 := Lib.hid hans
  have HGL := Lib.hid hgl
  have HPB2 := Lib.hid (s2.keep (s1.keep HPB.out (fun h => h)) (fun h => h))
  have ST2 := ST1.trans s2
  have HAB : Hid (w.heap.size < ab) := by have := ST1.size; have h := HSZ0.out; have := s1.size; show _ < _; omega
  obtain ⟨ao, co, hv, hform⟩ := hans.form
  have HFORM := Lib.hid hform
  subst hv
  clear hans hgl b0 b1 b2 b3 b4 hform
  go_wp2_with fail
  go_loopg [6, 7, 8, 10, 36, 37, 38] (lackAll (List.replicate p.succ.length (List.replicate W 0)) + 1) (fun gg s6 _ _ _ _ _ _ wr => ∃ (ag : Bool) (sets : List (List Nat)), s6 = .bool ag ∧ lackAll sets + (if ag = true then 1 else 0) ≤ gg ∧ Ans wr base ab W p.width (.slice ao gs.length co) gs sets ∧ AllW W sets ∧ Sound p sets ∧
    (ag = false → ∀ i, i < p.succ.length → ClosedAt W p sets i) ∧ Step (fun _ => False) w wr ∧ wr.heap[w.heap.size]? = some (.cells #[.slice a p.succ.length c, .int .i64 p.width, .slice a2 p.gen.length c2, .slice a3 p.kill.length c3, .slice a4 p.entry.length c4] 82 (0, 0)))
  case atStart => exact ⟨true, _, rfl, by simp, HANS0.out, AllW.zero _ _, Sound.zero p _ _, (fun h => by cases h), ST2, HPB2.out⟩
  case round =>
    obtain ⟨ag, sets, rfl, hgg, hans, hall, hsound, hclosed, hst, hpb⟩ := hrel
    have HANS := Lib.hid hans
    have HALL := Lib.hid hall
    have HSOUND := Lib.hid hsound
    have HCLOSED := Lib.hid hclosed
    have HPBR := Lib.hid hpb
    have HLEN : Hid (sets.length = p.succ.length) := by show _ = _; rw [hans.len, HGL.out]
    clear hans hall hsound hclosed hpb
    cases ag with
    | false =>
      have HCL := Lib.hid (HCLOSED.out rfl)
      go_wp2
      go_ret2
      exact ⟨⟨base, ab, W, _, gs, sets, rfl, HQ.out, HANS.out, HLEN.out, fun i x hi => back_iff HF.out.ok HQ.out HALL.out HLEN.out HSOUND.out HCL.out i x hi⟩, hst⟩
    | true =>
      have HGG := Lib.hid (show lackAll sets + 1 ≤ gk by simpa using hgg)
      obtain ⟨go1, rfl⟩ : ∃ go1, go1 = gk := ⟨_, rfl⟩
      obtain ⟨wo, rfl⟩ : ∃ wo : World, wo = wr := ⟨_, rfl⟩
      obtain ⟨b0, b1, b2, b3, b4⟩ := HPC.out wo HPBR.out
      clear hgg
      go_wp2_with fail
      clear b0 b1 b2 b3 b4
      go_loopg [6, 7, 8, 10, 36, 37, 38] p.succ.length (fun gg s6 s7 _ _ _ _ _ wr2 => ∃ (k : Nat) (ag : Bool) (sets2 : List (List Nat)), s7 = .int .i64 ((k : Int) - 1) ∧ k ≤ p.succ.length ∧ k ≤ gg ∧ s6 = .bool ag ∧ Ans wr2 base ab W p.width (.slice ao gs.length co) gs sets2 ∧ AllW W sets2 ∧ Sound p sets2 ∧
        lackAll sets2 ≤ lackAll sets ∧ (ag = true → lackAll sets2 < lackAll sets) ∧ (ag = false → sets2 = sets ∧ ∀ i, k ≤ i → i < p.succ.length → ClosedAt W p sets i) ∧ Step (fun _ => False) w wr2 ∧ wr2.heap[w.heap.size]? = some (.cells #[.slice a p.succ.length c, .int .i64 p.width, .slice a2 p.gen.length c2, .slice a3 p.kill.length c3, .slice a4 p.entry.length c4] 82 (0, 0)))
      case atStart => exact ⟨p.succ.length, false, sets, rfl, Nat.le_refl _, Nat.le_refl _, rfl, HANS.out, HALL.out, HSOUND.out, Nat.le_refl _, (fun h => by cases h), fun _ => ⟨rfl, fun i h1 h2 => by omega⟩, hst, HPBR.out⟩
      case round =>
        obtain ⟨wr2, rfl⟩ : ∃ wr2 : World, wr2 = wr := ⟨_, rfl⟩
        obtain ⟨k, ag, sets2, rfl, hk, hgg, rfl, hans, hall, hsound, hle, hlt, hsame, hst2, hpb⟩ := hrel
        have HA2 := Lib.hid hans
        have HALL2 := Lib.hid hall
        have HSOUND2 := Lib.hid hsound
        have HLE := Lib.hid hle
        have HLT := Lib.hid hlt
        have HSAME := Lib.hid hsame
        have HPB3 := Lib.hid hpb
        have HLEN2 : Hid (sets2.length = p.succ.length) := by show _ = _; rw [hans.len, HGL.out]
        obtain ⟨b0, b1, b2, b3, b4⟩ := HPC.out _ hpb
        clear hans hall hsound hle hlt hsame hpb
        cases k with
        | zero =>
          have HREL : Hid (lackAll sets2 + (if ag = true then 1 else 0) ≤ go1 - 1) := by
            have h1 := HGG.out
            have h2 := HLE.out
            show _ ≤ _
            cases ag with
            | false => simp; omega
            | true => have := HLT.out rfl; simp; omega
          have HCL2 : Hid (ag = false → ∀ i, i < p.succ.length → ClosedAt W p sets2 i) := fun h i hi => by
            obtain ⟨h1, h2⟩ := HSAME.out h
            rw [h1]; exact h2 i (Nat.zero_le _) hi
          have HMM : Hid (go1 - 1 < go1) := by have := HGG.out; show _ < _; omega
          go_wp2
          go_roundg (go1 - 1)
          case rel => exact ⟨ag, sets2, rfl, HREL.out, HA2.out, HALL2.out, HSOUND2.out, HCL2.out, hst2, HPB3.out⟩
          case measure => exact HMM.out
        | succ i =>
          have hil : i < p.succ.length := by omega
          have eki : ((i + 1 : Nat) : Int) - 1 = (i : Int) := by omega
          rw [eki]
          clear eki
          obtain ⟨l, hl⟩ : ∃ l, p.succ[i]? = some l := ⟨_, List.getElem?_eq_getElem hil⟩
          have HSL : Hid (pSucc p i = l) := by show _ = _; unfold pSucc; rw [List.getD_eq_getElem?_getD, hl]; rfl
          have hgen : p.gen[i]? = some (p.gen.getD i []) := by rw [List.getD_eq_getElem?_getD, List.getElem?_eq_getElem (by rw [HF.out.gl]; exact hil)]; rfl
          have hkill : p.kill[i]? = some (p.kill.getD i []) := by rw [List.getD_eq_getElem?_getD, List.getElem?_eq_getElem (by rw [HF.out.kl]; exact hil)]; rfl
          have HGEN := Lib.hid hgen
          have HKILL := Lib.hid hkill
          have hsl := H.out.s.step (S := fun _ => False) hst2 (fun _ _ h => h)
          obtain ⟨xs2, hxs2, a', c', hva, -, -, -, hra⟩ := hsl
          obtain ⟨rfl, -, rfl⟩ : a = a' ∧ True ∧ c = c' := by cases hva; exact ⟨rfl, trivial, rfl⟩
          obtain ⟨gS, oS, rfl, -, -, hcS⟩ := hra (by omega)
          obtain ⟨cs, ⟨u, rfl, hu⟩, fS⟩ := Each.cells 1 NatAt.len hxs2 hl hcS
          have f0 := fS 0 _ rfl
          rw [Nat.mul_one, Nat.add_zero] at f0
          have HU := Lib.hid hu
          obtain ⟨au, cu, rfl, hcu, hmu, -, hru⟩ := hu
          have HRU := Lib.hid hru
          obtain ⟨vg, vo, rfl, hvb⟩ := HFORM.out (by rw [HGL.out]; omega)
          have HVB := Lib.hid hvb
          have HGS : Hid (∀ t, t < p.succ.length → ∃ g, gs[t]? = some g) := fun t ht => ⟨_, List.getElem?_eq_getElem (by rw [HGL.out]; exact ht)⟩
          have HTL : Hid (∀ t ∈ l, t < p.succ.length) := fun t ht => HF.out.ok.s l (List.mem_of_getElem? hl) t ht
          have HBO : Hid (∀ j, (behindF W sets2 (l.take j)).length = W ∧ words (behindF W sets2 (l.take j))) := fun j => by
            have h := behind_ok HALL2.out (l.take j) (fun t ht => by rw [HLEN2.out]; exact HTL.out t (List.mem_of_mem_take ht))
            exact ⟨h.1, h.2.1⟩
          obtain ⟨gb, hgb⟩ : ∃ gb, gb = wr2.heap.size := ⟨_, rfl⟩
          have HGB := Lib.hid hgb
          have STA : Step (fun _ => False) wr2 (wr2.alloc (.cells (wordV (List.replicate W 0)).toArray 41)) := (Step.refl _ _).alloc _
          have f0A := STA.cell f0 (fun h => h)
          have b0A := STA.cell b0 (fun h => h)
          have HSB0 : Hid (SetB (wr2.alloc (.cells (wordV (List.replicate W 0)).toArray 41)) wr2.heap.size (List.replicate W 0)) := ⟨blk_new _ _, words_zero W⟩
          clear hgen hkill hxs2 hra hcS fS hru hvb hl hva
          go_wp2_with fail
          rw [← HGB.out]
          clear hgb
          rw [← HGB.out] at HSB0
          clear b0 b1 b2 b3 b4 f0 f0A b0A
          obtain ⟨go2, rfl⟩ : ∃ go2, go2 = gk := ⟨_, rfl⟩
          go_loopg [10, 38] l.length (fun gg _ s38 wr3 => ∃ j : Nat, s38 = .int .i64 j ∧ j ≤ l.length ∧ l.length - j ≤ gg ∧ SetB wr3 gb (behindF W sets2 (l.take j)) ∧ Step (· = gb) (wr2.alloc (.cells (wordV (List.replicate W 0)).toArray 41)) wr3)
          case atStart => exact ⟨0, rfl, Nat.zero_le _, by omega, HSB0.out, Step.refl _ _⟩
          case round =>
            obtain ⟨wr3, rfl⟩ : ∃ wr3 : World, wr3 = wr := ⟨_, rfl⟩
            obtain ⟨j, rfl, hj, hgg3, hsb, hst3⟩ := hrel
            have HSB := Lib.hid hsb
            clear hsb
            have HSTX : Hid (Step (fun _ => False) wr2 wr3) := by
              have e1 : Step (· = gb) wr2 wr3 := (STA.mono (fun _ _ h => h.elim) : Step (· = gb) _ _).trans hst3
              exact e1.mono (fun q hq h => by have := HGB.out; omega)
            have HA3 := Lib.hid (HA2.out.step HSTX.out)
            have c1 := blk_cell HA3.out.blk 1 _ rfl
            by_cases hlt3 : j < l.length
            · obtain ⟨t, ht⟩ : ∃ t, l[j]? = some t := ⟨l[j], List.getElem?_eq_getElem hlt3⟩
              obtain ⟨g2, o2, rfl, -, -, hcell⟩ := HRU.out (by omega)
              have f1 := HSTX.out.cell (hcell j _ (natV_get l j t ht)) (fun h => h)
              have htn := HTL.out t (List.mem_of_getElem? ht)
              obtain ⟨gt, hgt⟩ := HGS.out t htn
              have f2 := HA3.out.elem hgt
              have hst4 : sets2[t]? = some (sets2.getD t []) := by rw [List.getD_eq_getElem?_getD, List.getElem?_eq_getElem (by rw [HLEN2.out]; exact htn)]; rfl
              obtain ⟨hsbt, hlt4⟩ := HA3.out.set t gt _ hgt hst4
              have HJ : Hid (Calls Try.prog 58 #[.slice (some ⟨gb, 0, none⟩) W W, .slice (some ⟨gt, 0, none⟩) W W] wr3 (JoinPost gb (behindF W sets2 (l.take j)) (sets2.getD t []) wr3)) := by
                have hh := join_any gb gt (behindF W sets2 (l.take j)) (sets2.getD t []) wr3 HSB.out hsbt (fun e => by have := HA2.out.lt gt (List.mem_of_getElem? hgt); have := HGB.out; omega) (by rw [(HBO.out j).1, hlt4]) (by rw [(HBO.out j).1]; exact hWle)
                rw [(HBO.out j).1, hlt4] at hh
                exact hh
              have HBS : Hid (behindF W sets2 (l.take (j + 1)) = joinW (behindF W sets2 (l.take j)) (sets2.getD t [])) := by
                show _ = _
                obtain ⟨hj', rfl⟩ := List.getElem?_eq_some_iff.1 ht
                rw [List.take_succ_eq_append_getElem hj', behind_snoc]
              have hlg : gs.length = p.succ.length := HGL.out
              have ht0 : t < gs.length := by omega
              clear hlg hcell ht hgt hst4 hsbt hlt4
              go_wp2_with fail
              refine HJ.out.mono ?_
              rintro e w5 ⟨rfl, hs5, h5⟩
              have HS5 := Lib.hid hs5
              have ST5 := hst3.trans h5
              clear hs5 f1 f2 c1
              go_wp2
              go_roundg (gk - 1)
              case rel => exact ⟨j + 1, by go_num, by omega, by omega, by rw [HBS.out]; exact HS5.out, ST5⟩
              case measure => omega
            · obtain rfl : j = l.length := by omega
              have HSBF : Hid (SetB wr3 gb (behindF W sets2 l)) := by have := HSB.out; rw [List.take_length] at this; exact this
              have HBL : Hid ((behindF W sets2 l).length = W) := by have := (HBO.out l.length).1; rw [List.take_length] at this; exact this
              obtain ⟨gi, hgi⟩ := HGS.out i hil
              have HGI := Lib.hid hgi
              have f2 := HA3.out.elem hgi
              have hs4 : sets2[i]? = some (sets2.getD i []) := by rw [List.getD_eq_getElem?_getD, List.getElem?_eq_getElem (by rw [HLEN2.out]; exact hil)]; rfl
              have HS4 := Lib.hid hs4
              have HNEW := Lib.hid (HA3.out.new gi (List.mem_of_getElem? hgi))
              have HLTI := Lib.hid (HA2.out.lt gi (List.mem_of_getElem? hgi))
              have hpb3 := HSTX.out.keep HPB3.out (fun h => h)
              obtain ⟨b0, b1, b2, b3, b4⟩ := HPC.out wr3 hpb3
              have HPB4 := Lib.hid hpb3
              have ha0 : i < gs.length := by rw [HGL.out]; exact hil
              have hi0 : (0 : Int) ≤ (i : Int) := by omega
              have hi1 : (i : Int) < (gs.length : Int) := by omega
              have STW3 : Step (fun _ => False) w wr3 := hst2.trans HSTX.out
              have KEEP : Hid (∀ X, Step (· = gi) wr3 X → (X.cell? ⟨ab, 1, none⟩ = some (.slice (some ⟨vg, vo, none⟩) gs.length co) ∧ X.cell? ⟨vg, vo + i, none⟩ = some (.slice (some ⟨gi, 0, none⟩) W W)) ∧ (X.cell? ⟨w.heap.size, 0, none⟩ = some (.slice (some ⟨gS, oS, none⟩) p.succ.length c) ∧ X.cell? ⟨w.heap.size, 1, none⟩ = some (.int .i64 p.width) ∧ X.cell? ⟨w.heap.size, 2, none⟩ = some (.slice a2 p.gen.length c2) ∧ X.cell? ⟨w.heap.size, 3, none⟩ = some (.slice a3 p.kill.length c3) ∧ X.cell? ⟨w.heap.size, 4, none⟩ = some (.slice a4 p.entry.length c4))) := by
                show ∀ X, _
                intro X hX
                have hb := HNEW.out.1
                have hat := HA3.out.at'
                have hlab := HAB.out
                refine ⟨⟨hX.cell c1 (by show ¬ ab = gi; omega), hX.cell f2 (fun e => HNEW.out.2 (by rw [HVB.out]; exact congrArg some e))⟩, HPC.out X (hX.keep HPB4.out (by show ¬ w.heap.size = gi; omega))⟩
              have HOUT : Hid (outF W p sets2 i = setL (clrL (behindF W sets2 l) (p.kill.getD i [])) (p.gen.getD i [])) := by show _ = _; unfold outF; rw [HSL.out]
              have HOO := Lib.hid (out_ok HF.out.ok HQ.out HALL2.out HLEN2.out i)
              have HTHR : Hid (Calls Try.prog 59 #[.agg #[.slice (some ⟨gS, oS, none⟩) p.succ.length c, .int .i64 p.width, .slice a2 p.gen.length c2, .slice a3 p.kill.length c3, .slice a4 p.entry.length c4], .int .i64 i, .slice (some ⟨gb, 0, none⟩) W W] wr3.drew (ThroughPost (outF W p sets2 i) wr3.drew)) := by
                have hh := through_any B gb i p (behindF W sets2 l) (p.gen.getD i []) (p.kill.getD i []) _ _ _ _ wr3.drew (H.out.step (S := fun _ => False) STW3.drew (fun _ _ h => h)) ⟨HSBF.out.blk, HSBF.out.ok⟩ HGEN.out HKILL.out (Nat.le_trans hB STW3.drew.size)
                  (fun e he => by rw [HBL.out]; have := HF.out.ok.gen_lt (i := i) he; have := HQ.out; omega) (fun e he => by rw [HBL.out]; have := HF.out.ok.kill_lt (i := i) he; have := HQ.out; omega) (by rw [HBL.out]; exact hWle)
                rw [HBL.out, ← HOUT.out] at hh
                exact hh
              obtain ⟨hsbi, hlen5⟩ := HA3.out.set i gi _ hgi hs4
              have HSBI := Lib.hid hsbi
              have HLEN5 := Lib.hid hlen5
              have HJ : Hid (∀ (X : World) (g4 : Nat), Step (fun _ => False) wr3 X → wr3.heap.size ≤ g4 → SetB X g4 (outF W p sets2 i) → Calls Try.prog 58 #[.slice (some ⟨gi, 0, none⟩) W W, .slice (some ⟨g4, 0, none⟩) W W] X (JoinPost gi (sets2.getD i []) (outF W p sets2 i) X)) := by
                show ∀ X g4, _
                intro X g4 hX hg4 hsb4
                have hh := join_any gi g4 (sets2.getD i []) (outF W p sets2 i) X (HSBI.out.step hX (fun h => h)) hsb4 (fun e => by have := HLTI.out; have := HSTX.out.size; omega) (by rw [HLEN5.out, HOO.out.1]) (by rw [HLEN5.out]; exact hWle)
                rw [HLEN5.out, HOO.out.1] at hh
                exact hh
              have HLK := Lib.hid (lack_of_new HF.out.ok HQ.out HALL2.out HLEN2.out i (by rw [HLEN2.out]; exact hil))
              have HCS := Lib.hid (closed_of_same HF.out.ok HQ.out HALL2.out HLEN2.out i (by rw [HLEN2.out]; exact hil))
              have HSND := Lib.hid (HSOUND2.out.join HF.out.ok HQ.out HALL2.out HLEN2.out i (by rw [HLEN2.out]; exact hil))
              have HALN : Hid (AllW W (sets2.set i (joinW (sets2.getD i []) (outF W p sets2 i)))) := HALL2.out.set i (by rw [joinW_len (by rw [HLEN5.out, HOO.out.1]), HLEN5.out]) (joinW_words (HALL2.out.get (by rw [HLEN2.out]; exact hil)).2 HOO.out.2.1)
              have HW0L : Hid (wr3.drew.heap.size = wr3.heap.size) := rfl
              clear hgi hs4 hsbi hlen5 hpb3
              cases hnew : isNew (sets2.getD i []) (outF W p sets2 i) with
              | true =>
                have HN := Lib.hid hnew
                clear hnew
                go_wp2_with fail
                first
                | (go_region_law (first
                        | (go_simp
                           go_at_call 58
                           refine (HJ.out w4 g4 ST4 HG4.out HS4'.out).mono ?_
                           rintro e5 w5 ⟨rfl, hs5, h5⟩
                           rw [HN.out]
                           have ST5 : Step (· = gi) wr3 w5 := ((ST4.mono (fun _ _ h => h.elim) : Step (· = gi) _ _)).trans h5
                           have HS5 := Lib.hid hs5
                           have H5 := Lib.hid h5
                           clear hs5 h5)
                        | (go_simp
                           go_at_call 59
                           refine HTHR.out.mono ?_
                           rintro e4 w4 ⟨⟨g4, rfl, hg4, hs4⟩, h4⟩
                           rw [HOO.out.1]
                           have ST4 : Step (fun _ => False) wr3 w4 := ((Step.refl _ _).drew).trans h4
                           obtain ⟨⟨c14, f24⟩, -⟩ := KEEP.out _ (ST4.mono (fun _ _ h => h.elim) : Step (· = gi) _ _)
                           have HG4 := Lib.hid hg4
                           have HS4' := Lib.hid hs4
                           clear hg4 hs4 h4)))
                | fail
                all_goals (
                  have HA5 := Lib.hid ((HA3.out.step ST4).setAt HGI.out H5.out HS5.out (by rw [joinW_len (by rw [HLEN5.out, HOO.out.1]), HLEN5.out]))
                  have STW5 : Step (fun _ => False) w w5 := STW3.then ST5 (fun q hq h => by have := HNEW.out.1; have := HA3.out.at'; have := HAB.out; omega)
                  have HP5 := Lib.hid (ST5.keep HPB4.out (by show ¬ w.heap.size = gi; have := HNEW.out.1; have := HA3.out.at'; have := HAB.out; omega))
                  have HLT5 : Hid (lackAll (sets2.set i (joinW (sets2.getD i []) (outF W p sets2 i))) < lackAll sets) := Nat.lt_of_lt_of_le (HLK.out.2 HN.out) HLE.out
                  clear c1 f2 c14 f24 b0 b1 b2 b3 b4
                  go_wp2
                  go_roundg (go2 - 1)
                  case rel => exact ⟨i, true, _, rfl, by omega, by omega, rfl, HA5.out, HALN.out, HSND.out, Nat.le_of_lt HLT5.out, (fun _ => HLT5.out), (fun h => by cases h), STW5, HP5.out⟩
                  case measure => omega)
              | false =>
                have HN := Lib.hid hnew
                clear hnew
                go_wp2_with fail
                first
                | (go_region_law (first
                        | (go_simp
                           go_at_call 58
                           refine (HJ.out w4 g4 ST4 HG4.out HS4'.out).mono ?_
                           rintro e5 w5 ⟨rfl, hs5, h5⟩
                           rw [HN.out]
                           have ST5 : Step (· = gi) wr3 w5 := ((ST4.mono (fun _ _ h => h.elim) : Step (· = gi) _ _)).trans h5
                           have HS5 := Lib.hid hs5
                           have H5 := Lib.hid h5
                           clear hs5 h5)
                        | (go_simp
                           go_at_call 59
                           refine HTHR.out.mono ?_
                           rintro e4 w4 ⟨⟨g4, rfl, hg4, hs4⟩, h4⟩
                           rw [HOO.out.1]
                           have ST4 : Step (fun _ => False) wr3 w4 := ((Step.refl _ _).drew).trans h4
                           obtain ⟨⟨c14, f24⟩, -⟩ := KEEP.out _ (ST4.mono (fun _ _ h => h.elim) : Step (· = gi) _ _)
                           have HG4 := Lib.hid hg4
                           have HS4' := Lib.hid hs4
                           clear hg4 hs4 h4)))
                | fail
                all_goals (
                  have HA5 : Hid (Ans w5 base ab W p.width (.slice (some ⟨vg, vo, none⟩) gs.length co) gs sets2) := by
                    have h := (HA3.out.step ST4).setAt HGI.out H5.out HS5.out (by rw [joinW_len (by rw [HLEN5.out, HOO.out.1]), HLEN5.out])
                    rw [(HCS.out HN.out).2] at h
                    exact h
                  have STW5 : Step (fun _ => False) w w5 := STW3.then ST5 (fun q hq h => by have := HNEW.out.1; have := HA3.out.at'; have := HAB.out; omega)
                  have HP5 := Lib.hid (ST5.keep HPB4.out (by show ¬ w.heap.size = gi; have := HNEW.out.1; have := HA3.out.at'; have := HAB.out; omega))
                  have HSM5 : Hid (ag = false → sets2 = sets ∧ ∀ j, i ≤ j → j < p.succ.length → ClosedAt W p sets j) := by
                    show ag = false → _
                    intro h
                    obtain ⟨h1, h2⟩ := HSAME.out h
                    refine ⟨h1, fun j hj1 hj2 => ?_⟩
                    by_cases e : j = i
                    · rw [e, ← h1]; exact (HCS.out HN.out).1
                    · exact h2 j (by omega) hj2
                  clear c1 f2 c14 f24 b0 b1 b2 b3 b4
                  go_wp2
                  go_roundg (go2 - 1)
                  case rel => exact ⟨i, ag, sets2, rfl, by omega, by omega, rfl, HA5.out, HALL2.out, HSOUND2.out, HLE.out, HLT.out, HSM5.out, STW5, HP5.out⟩
                  case measure => omega)

end Go.Proofs.Ytilipeigjkmldaa
