/- What goes forward along a graph, as sets of bits: plain. / Contracts of package flow: Forward. -/
import Derived.Test.YtilipeigjkmldaaFlowH
import Derived.Deep.RegionHeld3
import Derived.Deep.RegionLaw
import Derived.Deep.DeepCutAuto
import Derived.Deep.CutBlock
namespace Go.Proofs.Ytilipeigjkmldaa
open Go.RowKit

def thrF (p : Prb) (sets : List (List Nat)) (i : Nat) : List Nat := setL (clrL (sets.getD i []) (p.kill.getD i [])) (p.gen.getD i [])
def pEntry (p : Prb) (e : Nat) : Prop := e ∈ p.entry
theorem thr_ok {p : Prb} (h : PrbOk p) {sets : List (List Nat)} {W : Nat} (hW : W = (p.width + 63) / 64) (ha : AllW W sets) (hl : sets.length = p.succ.length) (i : Nat) (hi : i < p.succ.length) :
    (thrF p sets i).length = W ∧ words (thrF p sets i) ∧ ∀ e, bit (thrF p sets i) e = true ↔ (pGen p i e ∨ (¬ pKill p i e ∧ bit (sets.getD i []) e = true)) := by
  obtain ⟨h1, h2⟩ := ha.get (t := i) (by omega)
  refine ⟨by unfold thrF; rw [setL_len, clrL_len, h1], setL_words _ (clrL_words _ h2), fun e => ?_⟩
  unfold thrF
  rw [bit_setL _ _ _ (fun x hx => by rw [clrL_len, h1, hW]; have := h.gen_lt (i := i) hx; omega), bit_clrL _ _ _ (fun x hx => by rw [h1, hW]; have := h.kill_lt (i := i) hx; omega)]
  rw [Bool.or_eq_true, Bool.and_eq_true, decide_eq_true_eq, Bool.not_eq_true', decide_eq_false_iff_not]
  constructor
  · rintro (⟨h4, h5⟩ | h4)
    · exact .inr ⟨h5, h4⟩
    · exact .inl h4
  · rintro (h4 | ⟨h5, h4⟩)
    · exact .inr h4
    · exact .inl ⟨h4, h5⟩
def FSound (p : Prb) (sets : List (List Nat)) : Prop := ∀ i e, bit (sets.getD i []) e = true → Forth (pSucc p) (pGen p) (pKill p) (pEntry p) i e
def FClosed (p : Prb) (sets : List (List Nat)) (i : Nat) : Prop := ∀ t ∈ pSucc p i, ∀ e, bit (thrF p sets i) e = true → bit (sets.getD t []) e = true
def FEnt (p : Prb) (sets : List (List Nat)) : Prop := ∀ e ∈ p.entry, bit (sets.getD 0 []) e = true
theorem FSound.thr {p : Prb} {sets : List (List Nat)} {W : Nat} (hs : FSound p sets) (h : PrbOk p) (hW : W = (p.width + 63) / 64) (ha : AllW W sets) (hl : sets.length = p.succ.length) {i t : Nat} (hi : i < p.succ.length) (ht : t ∈ pSucc p i) (e : Nat) (hb : bit (thrF p sets i) e = true) : Forth (pSucc p) (pGen p) (pKill p) (pEntry p) t e := by
  rcases ((thr_ok h hW ha hl i hi).2.2 e).1 hb with h1 | ⟨h1, h2⟩
  · exact .gen h1 ht
  · exact .step (hs i e h2) h1 ht
theorem FSound.join {p : Prb} {sets : List (List Nat)} {W : Nat} (hs : FSound p sets) (ha : AllW W sets) {t : Nat} (ht : t < sets.length) {o : List Nat} (ho : o.length = W) (hf : ∀ e, bit o e = true → Forth (pSucc p) (pGen p) (pKill p) (pEntry p) t e) : FSound p (sets.set t (joinW (sets.getD t []) o)) := by
  intro j e hb
  rw [getD_setL _ _ _ _ ht] at hb
  split at hb
  · rename_i hij
    subst hij
    rw [bit_join _ _ (by rw [(ha.get ht).1, ho]), Bool.or_eq_true] at hb
    rcases hb with hb | hb
    · exact hs _ e hb
    · exact hf e hb
  · exact hs j e hb
theorem FEnt.join {p : Prb} {sets : List (List Nat)} {W : Nat} (hs : FEnt p sets) (ha : AllW W sets) {t : Nat} (ht : t < sets.length) {o : List Nat} (ho : o.length = W) : FEnt p (sets.set t (joinW (sets.getD t []) o)) := by
  intro e he
  rw [getD_setL _ _ _ _ ht]
  split
  · rename_i hij
    subst hij
    rw [bit_join _ _ (by rw [(ha.get ht).1, ho]), hs e he]; rfl
  · exact hs e he
theorem lack_new {sets : List (List Nat)} {W t : Nat} {o : List Nat} (ha : AllW W sets) (ht : t < sets.length) (ho : o.length = W) (hw : words o) :
    lackAll (sets.set t (joinW (sets.getD t []) o)) ≤ lackAll sets ∧ (isNew (sets.getD t []) o = true → lackAll (sets.set t (joinW (sets.getD t []) o)) < lackAll sets) := by
  obtain ⟨a1, a2⟩ := ha.get ht
  obtain ⟨l1, l2⟩ := lack_join _ _ (by rw [a1, ho]) a2 hw
  have hs : sets[t]? = some (sets.getD t []) := by rw [List.getD_eq_getElem?_getD, List.getElem?_eq_getElem ht]; rfl
  have := lackAll_set sets t (sets.getD t []) (joinW (sets.getD t []) o) hs
  refine ⟨by omega, fun hn => ?_⟩
  have := l2 (by unfold isNew at hn; simpa using hn)
  omega
theorem same_of {sets : List (List Nat)} {W t : Nat} {o : List Nat} (ha : AllW W sets) (ht : t < sets.length) (ho : o.length = W) (hn : isNew (sets.getD t []) o = false) :
    (∀ e, bit o e = true → bit (sets.getD t []) e = true) ∧ sets.set t (joinW (sets.getD t []) o) = sets := by
  have he : joinW (sets.getD t []) o = sets.getD t [] := by
    unfold isNew at hn
    simpa using hn
  refine ⟨fun e hb => ?_, ?_⟩
  · rw [← he, bit_join _ _ (by rw [(ha.get ht).1, ho]), hb, Bool.or_true]
  · rw [he]
    apply List.ext_getElem?
    intro j
    rw [List.getElem?_set]
    by_cases hj : t = j
    · subst hj; simp [ht, List.getD_eq_getElem?_getD]
    · simp [hj]
theorem AllW.join {sets : List (List Nat)} {W t : Nat} {o : List Nat} (ha : AllW W sets) (ht : t < sets.length) (ho : o.length = W) (hw : words o) : AllW W (sets.set t (joinW (sets.getD t []) o)) :=
  ha.set t (by rw [joinW_len (by rw [(ha.get ht).1, ho]), (ha.get ht).1]) (joinW_words (ha.get ht).2 hw)
/- What there is at first. -/
def set0 (p : Prb) (W : Nat) : List (List Nat) := (List.replicate p.succ.length (List.replicate W 0)).set 0 (setL (List.replicate W 0) p.entry)
theorem set0_len (p : Prb) (W : Nat) : (set0 p W).length = p.succ.length := by simp [set0]
theorem AllW.set0 (p : Prb) (W : Nat) : AllW W (set0 p W) := (AllW.zero _ _).set 0 (by rw [setL_len]; simp) (setL_words _ (words_zero W))
theorem bit_set0 {p : Prb} (h : PrbOk p) {W : Nat} (hW : W = (p.width + 63) / 64) (hn : 0 < p.succ.length) (i e : Nat) : bit ((Go.Proofs.Ytilipeigjkmldaa.set0 p W).getD i []) e = true ↔ (i = 0 ∧ e ∈ p.entry) := by
  unfold Go.Proofs.Ytilipeigjkmldaa.set0
  rw [getD_setL _ _ _ _ (by simpa using hn)]
  by_cases hi : 0 = i
  · subst hi
    rw [if_pos rfl, bit_setL _ _ _ (fun x hx => by rw [List.length_replicate, hW]; have := h.e x hx; omega), bit_zero]
    simp
  · rw [if_neg hi]
    constructor
    · intro hb
      exfalso
      rw [List.getD_eq_getElem?_getD, List.getElem?_replicate] at hb
      split at hb
      · simp only [Option.getD_some, bit_zero] at hb; cases hb
      · simp [bit] at hb
    · rintro ⟨h1, -⟩; exact absurd h1.symm hi
theorem FSound.set0 {p : Prb} (h : PrbOk p) {W : Nat} (hW : W = (p.width + 63) / 64) (hn : 0 < p.succ.length) : FSound p (Go.Proofs.Ytilipeigjkmldaa.set0 p W) := by
  intro i e hb
  obtain ⟨rfl, he⟩ := (bit_set0 h hW hn i e).1 hb
  exact .entry he
theorem FEnt.set0 {p : Prb} (h : PrbOk p) {W : Nat} (hW : W = (p.width + 63) / 64) (hn : 0 < p.succ.length) : FEnt p (Go.Proofs.Ytilipeigjkmldaa.set0 p W) := fun e he => (bit_set0 h hW hn 0 e).2 ⟨rfl, he⟩
/- Where nothing turns any more, the sets are what goes forward. -/
theorem forth_iff {p : Prb} {sets : List (List Nat)} {W : Nat} (h : PrbOk p) (hW : W = (p.width + 63) / 64) (ha : AllW W sets) (hl : sets.length = p.succ.length) (hs : FSound p sets) (he : FEnt p sets) (hc : ∀ i, i < p.succ.length → FClosed p sets i) (i e : Nat) :
    bit (sets.getD i []) e = true ↔ Forth (pSucc p) (pGen p) (pKill p) (pEntry p) i e := by
  refine ⟨hs i e, fun hb => ?_⟩
  exact Forth.least (n := p.succ.length) (fun i e => bit (sets.getD i []) e = true) (fun i hi => by unfold pSucc; rw [List.getD_eq_getElem?_getD, List.getElem?_eq_none hi]; rfl) he
    (fun i t e hi hg ht => hc i hi t ht e (((thr_ok h hW ha hl i hi).2.2 e).2 (.inl hg))) (fun i t e hi hb hk ht => hc i hi t ht e (((thr_ok h hW ha hl i hi).2.2 e).2 (.inr ⟨hk, hb⟩))) hb

def ForthPost (p : Prb) (w : World) (e : Ending) (w' : World) : Prop :=
  (∃ base ab W v gs sets, e = .returned (.tuple #[.pointer (some ⟨ab, 0, none⟩), .int .i64 0]) ∧ W = (p.width + 63) / 64 ∧ Ans w' base ab W p.width v gs sets ∧ sets.length = p.succ.length ∧
    ∀ i x, bit (sets.getD i []) x = true ↔ Forth (pSucc p) (pGen p) (pKill p) (pEntry p) i x) ∧ Step (fun _ => False) w w'

set_option maxRecDepth 100000 in
set_option maxHeartbeats 8000000 in
theorem forward_any (B : Nat) (p : Prb) (vs vg vk ve : Value) (w : World) (h : PrbAt w B p vs vg vk ve) (hf : PrbFull p) (hB : B ≤ w.heap.size) (hpos : 0 < p.succ.length) :
    Calls Try.prog 64 #[.agg #[vs, .int .i64 p.width, vg, vk, ve]] w (ForthPost p w) := by
  have H := Lib.hid h
  have HF := Lib.hid hf
  have hn := hf.ok.n
  have hwd := hf.ok.w
  obtain ⟨⟨xs, h1, a, c, rfl, -⟩, ⟨xg, h2, a2, c2, rfl, -⟩, ⟨xk, h3, a3, c3, rfl, -⟩, ⟨a4, c4, rfl, -⟩⟩ := h
  obtain ⟨W, hW⟩ : ∃ W, W = (p.width + 63) / 64 := ⟨_, rfl⟩
  have HQ := Lib.hid hW
  have hWle : W ≤ 1000000 := by omega
  obtain ⟨W0, hW0⟩ : ∃ W0 : World, W0 = w.alloc (.cells #[.slice a p.succ.length c, .int .i64 p.width, .slice a2 p.gen.length c2, .slice a3 p.kill.length c3, .slice a4 p.entry.length c4] 82) := ⟨_, rfl⟩
  have ST0 : Step (fun _ => False) w W0 := by rw [hW0]; exact (Step.refl _ _).alloc _
  have HPB : Hid (W0.heap[w.heap.size]? = some (.cells #[.slice a p.succ.length c, .int .i64 p.width, .slice a2 p.gen.length c2, .slice a3 p.kill.length c3, .slice a4 p.entry.length c4] 82 (0, 0))) := by show _ = _; rw [hW0]; exact blk_new _ _
  have HPC : Hid (∀ X : World, X.heap[w.heap.size]? = some (.cells #[.slice a p.succ.length c, .int .i64 p.width, .slice a2 p.gen.length c2, .slice a3 p.kill.length c3, .slice a4 p.entry.length c4] 82 (0, 0)) →
      X.cell? ⟨w.heap.size, 0, none⟩ = some (.slice a p.succ.length c) ∧ X.cell? ⟨w.heap.size, 1, none⟩ = some (.int .i64 p.width) ∧ X.cell? ⟨w.heap.size, 2, none⟩ = some (.slice a2 p.gen.length c2) ∧ X.cell? ⟨w.heap.size, 3, none⟩ = some (.slice a3 p.kill.length c3) ∧ X.cell? ⟨w.heap.size, 4, none⟩ = some (.slice a4 p.entry.length c4)) :=
    fun X hX => ⟨blk_cell hX 0 _ rfl, blk_cell hX 1 _ rfl, blk_cell hX 2 _ rfl, blk_cell hX 3 _ rfl, blk_cell hX 4 _ rfl⟩
  have HSZ0 : Hid (W0.heap.size = w.heap.size + 1) := by show _ = _; rw [hW0]; simp
  have HW0 := Lib.hid hW0
  obtain ⟨b0, b1, b2, b3, b4⟩ := HPC.out W0 HPB.out
  clear h1 h2 h3 hf hW hW0
  go_enter Try.func64, Try.ntmps64
  go_wp2_with fail
  rw [← HW0.out]
  refine (fcheck_any B p _ _ _ _ W0 (H.out.step ST0 (fun _ _ h => h)) HF.out.ok).mono ?_
  rintro e w1 ⟨rfl, s1⟩
  clear b0 b1 b2 b3 b4
  obtain ⟨b0, b1, b2, b3, b4⟩ := HPC.out w1 (s1.keep HPB.out (fun h => h))
  have ST1 := ST0.trans s1
  go_wp2_with fail
  refine (empty_any B p _ _ _ _ w1 (H.out.step ST1 (fun _ _ h => h)) (by omega) (by omega)).mono ?_
  rintro e w2 ⟨⟨base, ab, v, gs, rfl, hab, hans, hgl⟩, s2⟩
  rw [← HQ.out] at hans
  have HANS0 := Lib.hid hans
  have HGL := Lib.hid hgl
  have HPB2 := Lib.hid (s2.keep (s1.keep HPB.out (fun h => h)) (fun h => h))
  have ST2 := ST1.trans s2
  have HAB : Hid (w.heap.size < ab) := by have := ST1.size; have h := HSZ0.out; have := s1.size; show _ < _; omega
  obtain ⟨ao, co, hv, hform⟩ := hans.form
  subst hv
  obtain ⟨vg, vo, rfl, hvb⟩ := hform (by rw [hgl]; exact hpos)
  have HVB := Lib.hid hvb
  obtain ⟨g0, hg0⟩ : ∃ g0, gs[0]? = some g0 := ⟨_, List.getElem?_eq_getElem (by rw [hgl]; exact hpos)⟩
  have HG0 := Lib.hid hg0
  have HNEW0 := Lib.hid (hans.new g0 (List.mem_of_getElem? hg0))
  have f2 := hans.elem hg0
  rw [Nat.add_zero] at f2
  have c1 := blk_cell hans.blk 1 _ rfl
  clear b0 b1 b2 b3 b4
  obtain ⟨b0, b1, b2, b3, b4⟩ := HPC.out w2 HPB2.out
  have HPUT : Hid (∀ X : World, Step (fun _ => False) w2 X → Calls Try.prog 78 #[.slice (some ⟨g0, 0, none⟩) W W, .slice a4 p.entry.length c4] X (PutPost g0 (setL (List.replicate W 0) p.entry) X)) := by
    show ∀ X, _
    intro X hX
    obtain ⟨h1, h2⟩ := (HANS0.out.step hX).set 0 g0 (List.replicate W 0) HG0.out (by rw [List.getElem?_replicate, if_pos hpos])
    have hh := put_any B g0 (List.replicate W 0) p.entry (.slice a4 p.entry.length c4) X h1 ((H.out.e.step ST2 (fun _ _ h => h)).step hX (fun _ _ h => h)) (by have := HNEW0.out.1; have := HANS0.out.at'; have := HAB.out; omega)
      (fun e he => by rw [List.length_replicate, HQ.out]; have := HF.out.ok.e e he; omega) (by rw [List.length_replicate]; exact hWle)
    rw [List.length_replicate] at hh
    exact hh
  have hl0 : decide ((0 : Int) < (gs.length : Int)) = true := decide_eq_true (by omega)
  have hl1 : decide (0 < gs.length) = true := decide_eq_true (by omega)
  have hl2 : 0 < gs.length := by omega
  clear hans hgl hform hvb hg0
  go_upto_region 6 with fail
  go_cut [] (fun wx => SetB wx g0 (setL (List.replicate W 0) p.entry) ∧ Step (· = g0) w2 wx)
  case first =>
    go_wp2_with fail
    first
    | (go_region_law (first
        | (go_simp
           go_at_call 78
           refine (HPUT.out _ ((Step.refl _ _).drew)).mono ?_
           rintro e3 w3 ⟨rfl, hs3, h3⟩
           have HS3 := Lib.hid hs3
           have ST3 : Step (· = g0) w2 w3 := ((Step.refl _ _).drew).trans h3
           clear hs3 h3)))
    | fail
    all_goals (
      clear b0 b1 b2 b3 b4 f2 c1
      go_wp2_with fail
      go_meet
      case rel => exact ⟨HS3.out, ST3⟩)
  case rest =>
    obtain ⟨w3, rfl⟩ : ∃ w3 : World, w3 = wc := ⟨_, rfl⟩
    obtain ⟨hs3, ST3⟩ := hcut
    have HS3 := Lib.hid hs3
    clear hs3
    have HANS3 : Hid (Ans w3 base ab W p.width (.slice (some ⟨vg, vo, none⟩) gs.length co) gs (set0 p W)) := HANS0.out.setAt HG0.out ST3 HS3.out (by rw [setL_len, List.length_replicate])
    have HPB3 := Lib.hid (ST3.keep HPB2.out (by show ¬ w.heap.size = g0; have := HNEW0.out.1; have := HANS0.out.at'; have := HAB.out; omega))
    have STW3 : Step (fun _ => False) w w3 := ST2.then ST3 (fun q hq h => by have := HNEW0.out.1; have := HANS0.out.at'; have := HAB.out; omega)
    clear b0 b1 b2 b3 b4 f2 c1 hl0 hl1 hl2
    go_wp2_with fail
    go_loopg [6, 7, 8, 9, 11, 36, 37, 38, 53, 54, 55] (lackAll (set0 p W) + 1) (fun gg s6 _ _ _ _ _ _ _ _ _ _ wr => ∃ (ag : Bool) (sets : List (List Nat)), s6 = .bool ag ∧ lackAll sets + (if ag = true then 1 else 0) ≤ gg ∧ Ans wr base ab W p.width (.slice (some ⟨vg, vo, none⟩) gs.length co) gs sets ∧ AllW W sets ∧ FSound p sets ∧ FEnt p sets ∧
      (ag = false → ∀ i, i < p.succ.length → FClosed p sets i) ∧ Step (fun _ => False) w wr ∧ wr.heap[w.heap.size]? = some (.cells #[.slice a p.succ.length c, .int .i64 p.width, .slice a2 p.gen.length c2, .slice a3 p.kill.length c3, .slice a4 p.entry.length c4] 82 (0, 0)))
    case atStart => exact ⟨true, _, rfl, by simp, HANS3.out, AllW.set0 _ _, FSound.set0 HF.out.ok HQ.out hpos, FEnt.set0 HF.out.ok HQ.out hpos, (fun h => by cases h), STW3, HPB3.out⟩
    case round =>
      obtain ⟨ag, sets, rfl, hgg, hans, hall, hsound, hent, hclosed, hst, hpb⟩ := hrel
      have HANS := Lib.hid hans
      have HALL := Lib.hid hall
      have HSOUND := Lib.hid hsound
      have HENT := Lib.hid hent
      have HCLOSED := Lib.hid hclosed
      have HPBR := Lib.hid hpb
      have HLEN : Hid (sets.length = p.succ.length) := by show _ = _; rw [hans.len, HGL.out]
      clear hans hall hsound hent hclosed hpb
      cases ag with
      | false =>
        have HCL := Lib.hid (HCLOSED.out rfl)
        go_wp2
        go_ret2
        exact ⟨⟨base, ab, W, _, gs, sets, rfl, HQ.out, HANS.out, HLEN.out, fun i x => forth_iff HF.out.ok HQ.out HALL.out HLEN.out HSOUND.out HENT.out HCL.out i x⟩, hst⟩
      | true =>
        have HGG := Lib.hid (show lackAll sets + 1 ≤ gk by simpa using hgg)
        obtain ⟨go1, rfl⟩ : ∃ go1, go1 = gk := ⟨_, rfl⟩
        obtain ⟨wo, rfl⟩ : ∃ wo : World, wo = wr := ⟨_, rfl⟩
        obtain ⟨b0, b1, b2, b3, b4⟩ := HPC.out wo HPBR.out
        clear hgg
        go_wp2_with fail
        clear b0 b1 b2 b3 b4
        go_loopg [6, 7, 8, 9, 11, 38, 53, 54, 55] p.succ.length (fun gg s6 _ _ _ _ s38 _ _ _ wr2 => ∃ (k : Nat) (ag : Bool) (sets2 : List (List Nat)), s38 = .int .i64 (k : Int) ∧ k ≤ p.succ.length ∧ p.succ.length - k ≤ gg ∧ s6 = .bool ag ∧ Ans wr2 base ab W p.width (.slice (some ⟨vg, vo, none⟩) gs.length co) gs sets2 ∧ AllW W sets2 ∧ FSound p sets2 ∧ FEnt p sets2 ∧
          lackAll sets2 ≤ lackAll sets ∧ (ag = true → lackAll sets2 < lackAll sets) ∧ (ag = false → sets2 = sets ∧ ∀ i, i < k → FClosed p sets i) ∧ Step (fun _ => False) w wr2 ∧ wr2.heap[w.heap.size]? = some (.cells #[.slice a p.succ.length c, .int .i64 p.width, .slice a2 p.gen.length c2, .slice a3 p.kill.length c3, .slice a4 p.entry.length c4] 82 (0, 0)))
        case atStart => exact ⟨0, false, sets, rfl, Nat.zero_le _, by omega, rfl, HANS.out, HALL.out, HSOUND.out, HENT.out, Nat.le_refl _, (fun h => by cases h), fun _ => ⟨rfl, fun i h1 => by omega⟩, hst, HPBR.out⟩
        case round =>
          obtain ⟨wr2, rfl⟩ : ∃ wr2 : World, wr2 = wr := ⟨_, rfl⟩
          obtain ⟨k, ag, sets2, rfl, hk, hgg, rfl, hans, hall, hsound, hent, hle, hlt, hsame, hst2, hpb⟩ := hrel
          have HA2 := Lib.hid hans
          have HALL2 := Lib.hid hall
          have HSOUND2 := Lib.hid hsound
          have HENT2 := Lib.hid hent
          have HLE := Lib.hid hle
          have HLT := Lib.hid hlt
          have HSAME := Lib.hid hsame
          have HPB3 := Lib.hid hpb
          have HST2 := Lib.hid hst2
          have HLEN2 : Hid (sets2.length = p.succ.length) := by show _ = _; rw [hans.len, HGL.out]
          clear hans hall hsound hent hle hlt hsame hpb hst2
          by_cases hkl : k < p.succ.length
          · obtain ⟨l, hl⟩ : ∃ l, p.succ[k]? = some l := ⟨_, List.getElem?_eq_getElem hkl⟩
            have HSL : Hid (pSucc p k = l) := by show _ = _; unfold pSucc; rw [List.getD_eq_getElem?_getD, hl]; rfl
            have hgen : p.gen[k]? = some (p.gen.getD k []) := by rw [List.getD_eq_getElem?_getD, List.getElem?_eq_getElem (by rw [HF.out.gl]; exact hkl)]; rfl
            have hkill : p.kill[k]? = some (p.kill.getD k []) := by rw [List.getD_eq_getElem?_getD, List.getElem?_eq_getElem (by rw [HF.out.kl]; exact hkl)]; rfl
            have HGEN := Lib.hid hgen
            have HKILL := Lib.hid hkill
            have hsl := H.out.s
            obtain ⟨xs2, hxs2, a', c', hva, -, -, -, hra⟩ := hsl
            obtain ⟨rfl, -, rfl⟩ : a = a' ∧ True ∧ c = c' := by cases hva; exact ⟨rfl, trivial, rfl⟩
            obtain ⟨gS, oS, rfl, -, -, hcS⟩ := hra (by omega)
            obtain ⟨cs, ⟨u, rfl, hu⟩, fS⟩ := Each.cells 1 NatAt.len hxs2 hl hcS
            have f0' := fS 0 _ rfl
            rw [Nat.mul_one, Nat.add_zero] at f0'
            have f0 := HST2.out.cell f0' (fun h => h)
            clear f0'
            obtain ⟨au, cu, rfl, hcu, hmu, -, hru⟩ := hu
            have HRU := Lib.hid hru
            have HGS : Hid (∀ t, t < p.succ.length → ∃ g, gs[t]? = some g) := fun t ht => ⟨_, List.getElem?_eq_getElem (by rw [HGL.out]; exact ht)⟩
            have HTL : Hid (∀ t ∈ l, t < p.succ.length) := fun t ht => HF.out.ok.s l (List.mem_of_getElem? hl) t ht
            obtain ⟨gk', hgk'⟩ := HGS.out k hkl
            have HGK := Lib.hid hgk'
            have hs4 : sets2[k]? = some (sets2.getD k []) := by rw [List.getD_eq_getElem?_getD, List.getElem?_eq_getElem (by rw [HLEN2.out]; exact hkl)]; rfl
            obtain ⟨hsbk, hlk⟩ := HA2.out.set k gk' _ hgk' hs4
            have HSBK := Lib.hid hsbk
            have HLK := Lib.hid hlk
            obtain ⟨o, ho⟩ : ∃ o, o = thrF p sets2 k := ⟨_, rfl⟩
            have HO := Lib.hid ho
            have HOO : Hid (o.length = W ∧ words o) := by
              have h := thr_ok HF.out.ok HQ.out HALL2.out HLEN2.out k hkl
              show _ ∧ _
              rw [ho]; exact ⟨h.1, h.2.1⟩
            have HTHR : Hid (∀ X : World, Step (fun _ => False) wr2 X → Calls Try.prog 59 #[.agg #[.slice (some ⟨gS, oS, none⟩) p.succ.length c, .int .i64 p.width, .slice a2 p.gen.length c2, .slice a3 p.kill.length c3, .slice a4 p.entry.length c4], .int .i64 k, .slice (some ⟨gk', 0, none⟩) W W] X (ThroughPost o X)) := by
              show ∀ X, _
              intro X hX
              have STX : Step (fun _ => False) w X := HST2.out.trans hX
              have hh := through_any B gk' k p (sets2.getD k []) (p.gen.getD k []) (p.kill.getD k []) _ _ _ _ X (H.out.step (S := fun _ => False) STX (fun _ _ h => h)) (HSBK.out.step hX (fun h => h)) HGEN.out HKILL.out (Nat.le_trans hB STX.size)
                (fun e he => by rw [HLK.out]; have := HF.out.ok.gen_lt (i := k) he; have := HQ.out; omega) (fun e he => by rw [HLK.out]; have := HF.out.ok.kill_lt (i := k) he; have := HQ.out; omega) (by rw [HLK.out]; exact hWle)
              rw [HLK.out] at hh
              have e : setL (clrL (sets2.getD k []) (p.kill.getD k [])) (p.gen.getD k []) = o := HO.out.symm
              rw [e] at hh
              exact hh
            have c1 := blk_cell HA2.out.blk 1 _ rfl
            have f2 := HA2.out.elem hgk'
            obtain ⟨b0, b1, b2, b3, b4⟩ := HPC.out wr2 HPB3.out
            have ha0 : k < gs.length := by rw [HGL.out]; exact hkl
            have hi0 : (0 : Int) ≤ (k : Int) := by omega
            have hi1 : (k : Int) < (gs.length : Int) := by omega
            clear hgen hkill hxs2 hra hcS fS hru hva hl hgk' hs4 hsbk hlk ho
            go_upto_region 13 with fail
            go_cut [9] (fun s9 wx => ∃ g4, s9 = .slice (some ⟨g4, 0, none⟩) W W ∧ wr2.heap.size ≤ g4 ∧ SetB wx g4 o ∧ Step (fun _ => False) wr2 wx)
            case first =>
              go_wp2_with fail
              first
              | (go_region_law (first
                  | (go_simp
                     go_at_call 59
                     refine (HTHR.out _ ((Step.refl _ _).drew)).mono ?_
                     rintro e4 w4 ⟨⟨g4, rfl, hg4, hs4⟩, h4⟩
                     rw [HOO.out.1]
                     have ST4 : Step (fun _ => False) wr2 w4 := ((Step.refl _ _).drew).trans h4
                     have HG4 := Lib.hid hg4
                     have HS4 := Lib.hid hs4
                     clear hg4 hs4 h4)))
              | fail
              all_goals (
                clear b0 b1 b2 b3 b4 f0 f2 c1
                go_wp2_with fail
                go_meet
                case rel => exact ⟨g4, rfl, HG4.out, HS4.out, ST4⟩)
            case rest =>
              obtain ⟨w4, rfl⟩ : ∃ w4 : World, w4 = wc := ⟨_, rfl⟩
              obtain ⟨g4, rfl, hg4, hs4, st4⟩ := hcut
              have HG4 := Lib.hid hg4
              have HS4 := Lib.hid hs4
              have HST4 := Lib.hid st4
              have HNE4 : Hid (∀ g ∈ gs, g ≠ g4) := fun g hg e => by have := HA2.out.lt g hg; have := HG4.out; omega
              clear hg4 hs4 st4 c1 f2 b0 b1 b2 b3 b4 f0 hi0 hi1 ha0
              obtain ⟨go2, rfl⟩ : ∃ go2, go2 = gk := ⟨_, rfl⟩
              go_wp2_with fail
              go_loopg [6, 11, 55] l.length (fun gg s6 _ s55 wr3 => ∃ (j : Nat) (ag3 : Bool) (sets3 : List (List Nat)), s55 = .int .i64 j ∧ j ≤ l.length ∧ l.length - j ≤ gg ∧ s6 = .bool ag3 ∧ Ans wr3 base ab W p.width (.slice (some ⟨vg, vo, none⟩) gs.length co) gs sets3 ∧ AllW W sets3 ∧ FSound p sets3 ∧ FEnt p sets3 ∧
                lackAll sets3 ≤ lackAll sets ∧ (ag3 = true → lackAll sets3 < lackAll sets) ∧ (ag3 = false → ag = false ∧ sets3 = sets ∧ ∀ t ∈ l.take j, ∀ e, bit o e = true → bit (sets.getD t []) e = true) ∧ SetB wr3 g4 o ∧ Step (fun _ => False) w wr3 ∧ wr3.heap[w.heap.size]? = some (.cells #[.slice (some ⟨gS, oS, none⟩) p.succ.length c, .int .i64 p.width, .slice a2 p.gen.length c2, .slice a3 p.kill.length c3, .slice a4 p.entry.length c4] 82 (0, 0)))
              case atStart => exact ⟨0, ag, sets2, rfl, Nat.zero_le _, by omega, rfl, HA2.out.step HST4.out, HALL2.out, HSOUND2.out, HENT2.out, HLE.out, HLT.out, (fun h => ⟨h, (HSAME.out h).1, fun t ht => by simp at ht⟩), HS4.out, HST2.out.trans HST4.out, HST4.out.keep HPB3.out (fun h => h)⟩
              case round =>
                obtain ⟨wr3, rfl⟩ : ∃ wr3 : World, wr3 = wr := ⟨_, rfl⟩
                obtain ⟨j, ag3, sets3, rfl, hj, hgg3, rfl, hans3, hall3, hsound3, hent3, hle3, hlt3, hsame3, hs43, hst3, hpb3⟩ := hrel
                have HA3 := Lib.hid hans3
                have HALL3 := Lib.hid hall3
                have HSOUND3 := Lib.hid hsound3
                have HENT3 := Lib.hid hent3
                have HLE3 := Lib.hid hle3
                have HLT3 := Lib.hid hlt3
                have HSAME3 := Lib.hid hsame3
                have HS43 := Lib.hid hs43
                have HST3 := Lib.hid hst3
                have HPB33 := Lib.hid hpb3
                have HLEN3 : Hid (sets3.length = p.succ.length) := by show _ = _; rw [hans3.len, HGL.out]
                clear hans3 hall3 hsound3 hent3 hle3 hlt3 hsame3 hs43 hst3 hpb3
                by_cases hjl : j < l.length
                · obtain ⟨t, ht⟩ : ∃ t, l[j]? = some t := ⟨l[j], List.getElem?_eq_getElem hjl⟩
                  obtain ⟨g2, o2, rfl, -, -, hcell⟩ := HRU.out (by omega)
                  have hcell1 := hcell j _ (natV_get l j t ht)
                  have f1 := HST3.out.cell hcell1 (fun h => h)
                  have htn := HTL.out t (List.mem_of_getElem? ht)
                  obtain ⟨gt, hgt⟩ := HGS.out t htn
                  have f2 := HA3.out.elem hgt
                  have c1 := blk_cell HA3.out.blk 1 _ rfl
                  have hst4 : sets3[t]? = some (sets3.getD t []) := by rw [List.getD_eq_getElem?_getD, List.getElem?_eq_getElem (by rw [HLEN3.out]; exact htn)]; rfl
                  obtain ⟨hsbt, hlt4⟩ := HA3.out.set t gt _ hgt hst4
                  have HLT4 := Lib.hid hlt4
                  have HNEW := Lib.hid (HA3.out.new gt (List.mem_of_getElem? hgt))
                  have HJ : Hid (Calls Try.prog 58 #[.slice (some ⟨gt, 0, none⟩) W W, .slice (some ⟨g4, 0, none⟩) W W] wr3 (JoinPost gt (sets3.getD t []) o wr3)) := by
                    have hh := join_any gt g4 (sets3.getD t []) o wr3 hsbt HS43.out (fun e => HNE4.out gt (List.mem_of_getElem? hgt) e.symm) (by rw [hlt4, HOO.out.1]) (by rw [hlt4]; exact hWle)
                    rw [hlt4, HOO.out.1] at hh
                    exact hh
                  have HNE := Lib.hid (HNE4.out gt (List.mem_of_getElem? hgt))
                  have HFO : Hid (∀ e, bit o e = true → Forth (pSucc p) (pGen p) (pKill p) (pEntry p) t e) := fun e he => by
                    rw [HO.out] at he
                    exact HSOUND2.out.thr HF.out.ok HQ.out HALL2.out HLEN2.out hkl (by rw [HSL.out]; exact List.mem_of_getElem? ht) e he
                  have HTS : Hid (t < sets3.length) := by show _ < _; rw [HLEN3.out]; exact htn
                  have HT := Lib.hid ht
                  have HGT := Lib.hid hgt
                  have hlg : gs.length = p.succ.length := HGL.out
                  have ht0 : t < gs.length := by omega
                  clear hlg hcell hcell1 ht hgt hst4 hsbt hlt4
                  cases hnew : isNew (sets3.getD t []) o with
                  | true =>
                    have HN := Lib.hid hnew
                    clear hnew
                    go_wp2_with fail
                    refine HJ.out.mono ?_
                    rintro e w5 ⟨rfl, hs5, h5⟩
                    rw [HN.out]
                    have HA5 := Lib.hid (HA3.out.setAt HGT.out h5 hs5 (by rw [joinW_len (by rw [HLT4.out, HOO.out.1]), HLT4.out]))
                    have STW5 : Step (fun _ => False) w w5 := HST3.out.then h5 (fun q hq h => by have := HNEW.out.1; have := HA3.out.at'; have := HAB.out; omega)
                    have HP5 := Lib.hid (h5.keep HPB33.out (by show ¬ w.heap.size = gt; have := HNEW.out.1; have := HA3.out.at'; have := HAB.out; omega))
                    have HS45 := Lib.hid (HS43.out.step h5 (fun e => HNE.out e.symm))
                    have HL5 : Hid (lackAll (sets3.set t (joinW (sets3.getD t []) o)) < lackAll sets) := Nat.lt_of_lt_of_le ((lack_new HALL3.out HTS.out HOO.out.1 HOO.out.2).2 HN.out) HLE3.out
                    clear hs5 h5 f1 f2 c1
                    go_wp2
                    go_roundg (gk - 1)
                    case rel => exact ⟨j + 1, true, _, by go_num, hjl, by omega, rfl, HA5.out, HALL3.out.join HTS.out HOO.out.1 HOO.out.2, HSOUND3.out.join HALL3.out HTS.out HOO.out.1 HFO.out, HENT3.out.join HALL3.out HTS.out HOO.out.1, Nat.le_of_lt HL5.out, (fun _ => HL5.out), (fun h => by cases h), HS45.out, STW5, HP5.out⟩
                    case measure => omega
                  | false =>
                    have HN := Lib.hid hnew
                    clear hnew
                    go_wp2_with fail
                    refine HJ.out.mono ?_
                    rintro e w5 ⟨rfl, hs5, h5⟩
                    rw [HN.out]
                    have hsm := same_of HALL3.out HTS.out HOO.out.1 HN.out
                    have ha5 := HA3.out.setAt HGT.out h5 hs5 (by rw [joinW_len (by rw [HLT4.out, HOO.out.1]), HLT4.out])
                    rw [hsm.2] at ha5
                    have HA5 := Lib.hid ha5
                    have STW5 : Step (fun _ => False) w w5 := HST3.out.then h5 (fun q hq h => by have := HNEW.out.1; have := HA3.out.at'; have := HAB.out; omega)
                    have HP5 := Lib.hid (h5.keep HPB33.out (by show ¬ w.heap.size = gt; have := HNEW.out.1; have := HA3.out.at'; have := HAB.out; omega))
                    have HS45 := Lib.hid (HS43.out.step h5 (fun e => HNE.out e.symm))
                    have HSM5 : Hid (ag3 = false → ag = false ∧ sets3 = sets ∧ ∀ x ∈ l.take (j + 1), ∀ e, bit o e = true → bit (sets.getD x []) e = true) := fun h => by
                      obtain ⟨h1, h2, h3⟩ := HSAME3.out h
                      refine ⟨h1, h2, fun x hx e he => ?_⟩
                      obtain ⟨hj', hja⟩ := List.getElem?_eq_some_iff.1 HT.out
                      rw [List.take_succ_eq_append_getElem hj', hja] at hx
                      rcases List.mem_append.1 hx with hx | hx
                      · exact h3 x hx e he
                      · rw [List.mem_singleton.1 hx, ← h2]; exact hsm.1 e he
                    clear hs5 h5 f1 f2 c1 hsm ha5
                    go_wp2
                    go_roundg (gk - 1)
                    case rel => exact ⟨j + 1, ag3, sets3, by go_num, hjl, by omega, rfl, HA5.out, HALL3.out, HSOUND3.out, HENT3.out, HLE3.out, HLT3.out, HSM5.out, HS45.out, STW5, HP5.out⟩
                    case measure => omega
                · obtain rfl : j = l.length := by omega
                  have HCLK : Hid (ag3 = false → sets3 = sets ∧ ∀ i, i < k + 1 → FClosed p sets i) := fun h => by
                    obtain ⟨h1, h2, h3⟩ := HSAME3.out h
                    obtain ⟨h4, h5⟩ := HSAME.out h1
                    refine ⟨h2, fun i hi => ?_⟩
                    by_cases e : i = k
                    · subst e
                      intro t ht x hx
                      rw [HSL.out] at ht
                      rw [List.take_length] at h3
                      refine h3 t ht x ?_
                      rw [HO.out, h4]; exact hx
                    · exact h5 i (by omega)
                  clear hgg3
                  go_wp2
                  go_roundg (go2 - 1)
                  case rel => exact ⟨k + 1, ag3, sets3, by go_num, hkl, by omega, rfl, HA3.out, HALL3.out, HSOUND3.out, HENT3.out, HLE3.out, HLT3.out, HCLK.out, HST3.out, HPB33.out⟩
                  case measure => omega
          · obtain rfl : k = p.succ.length := by omega
            have HREL : Hid (lackAll sets2 + (if ag = true then 1 else 0) ≤ go1 - 1) := by
              have h1 := HGG.out
              have h2 := HLE.out
              show _ ≤ _
              cases ag with
              | false => simp; omega
              | true => have := HLT.out rfl; simp; omega
            have HCL2 : Hid (ag = false → ∀ i, i < p.succ.length → FClosed p sets2 i) := fun h i hi => by
              obtain ⟨h1, h2⟩ := HSAME.out h
              rw [h1]; exact h2 i hi
            have HMM : Hid (go1 - 1 < go1) := by have := HGG.out; show _ < _; omega
            clear hgg
            go_wp2
            go_roundg (go1 - 1)
            case rel => exact ⟨ag, sets2, rfl, HREL.out, HA2.out, HALL2.out, HSOUND2.out, HENT2.out, HCL2.out, HST2.out, HPB3.out⟩
            case measure => exact HMM.out

end Go.Proofs.Ytilipeigjkmldaa
