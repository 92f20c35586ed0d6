/- What goes back along a graph, as sets of bits: plain. -/
import Derived.Test.YtilipeigjkmldaaFlowF
namespace Go.Proofs.Ytilipeigjkmldaa

def behindF (W : Nat) (sets : List (List Nat)) (l : List Nat) : List Nat := l.foldl (fun acc t => joinW acc (sets.getD t [])) (List.replicate W 0)
def AllW (W : Nat) (sets : List (List Nat)) : Prop := ∀ s ∈ sets, s.length = W ∧ words s
theorem AllW.get {W : Nat} {sets : List (List Nat)} (h : AllW W sets) {t : Nat} (ht : t < sets.length) : (sets.getD t []).length = W ∧ words (sets.getD t []) := by
  rw [List.getD_eq_getElem?_getD, List.getElem?_eq_getElem ht]
  exact h _ (List.getElem_mem ht)
theorem AllW.set {W : Nat} {sets : List (List Nat)} (h : AllW W sets) (i : Nat) {s : List Nat} (hs : s.length = W) (hw : words s) : AllW W (sets.set i s) := by
  intro x hx
  rcases List.mem_or_eq_of_mem_set hx with h1 | h1
  · exact h x h1
  · rw [h1]; exact ⟨hs, hw⟩
theorem fold_ok {W : Nat} {sets : List (List Nat)} (h : AllW W sets) : ∀ (l : List Nat) (acc : List Nat), (∀ t ∈ l, t < sets.length) → acc.length = W → words acc →
    (l.foldl (fun acc t => joinW acc (sets.getD t [])) acc).length = W ∧ words (l.foldl (fun acc t => joinW acc (sets.getD t [])) acc) ∧ ∀ e, bit (l.foldl (fun acc t => joinW acc (sets.getD t [])) acc) e = true ↔ (bit acc e = true ∨ ∃ t ∈ l, bit (sets.getD t []) e = true)
  | [], acc, _, h1, h2 => ⟨h1, h2, fun e => by simp⟩
  | t :: r, acc, ht, h1, h2 => by
    obtain ⟨h3, h4⟩ := h.get (ht t (List.mem_cons_self ..))
    obtain ⟨a1, a2, a3⟩ := fold_ok h r (joinW acc (sets.getD t [])) (fun x hx => ht x (List.mem_cons_of_mem _ hx)) (by rw [joinW_len (by rw [h1, h3])]; exact h1) (joinW_words h2 h4)
    refine ⟨a1, a2, fun e => ?_⟩
    show bit (r.foldl _ (joinW acc (sets.getD t []))) e = true ↔ _
    rw [a3 e, bit_join _ _ (by rw [h1, h3]), Bool.or_eq_true]
    constructor
    · rintro ((h | h) | ⟨x, hx, h⟩)
      · exact .inl h
      · exact .inr ⟨t, List.mem_cons_self .., h⟩
      · exact .inr ⟨x, List.mem_cons_of_mem _ hx, h⟩
    · rintro (h | ⟨x, hx, h⟩)
      · exact .inl (.inl h)
      · rcases List.mem_cons.1 hx with rfl | hx
        · exact .inl (.inr h)
        · exact .inr ⟨x, hx, h⟩
theorem behind_ok {W : Nat} {sets : List (List Nat)} (h : AllW W sets) (l : List Nat) (hl : ∀ t ∈ l, t < sets.length) :
    (behindF W sets l).length = W ∧ words (behindF W sets l) ∧ ∀ e, bit (behindF W sets l) e = true ↔ ∃ t ∈ l, bit (sets.getD t []) e = true := by
  obtain ⟨h1, h2, h3⟩ := fold_ok h l (List.replicate W 0) hl (by simp) (words_zero W)
  refine ⟨h1, h2, fun e => ?_⟩
  have := h3 e
  rw [bit_zero] at this
  unfold behindF
  rw [this]; simp
theorem behind_snoc (W : Nat) (sets : List (List Nat)) (l : List Nat) (t : Nat) : behindF W sets (l ++ [t]) = joinW (behindF W sets l) (sets.getD t []) := by simp [behindF]

def lackAll (sets : List (List Nat)) : Nat := (sets.map lack).sum
theorem lackAll_set : ∀ (sets : List (List Nat)) (i : Nat) (s s' : List Nat), sets[i]? = some s → lackAll (sets.set i s') + lack s = lackAll sets + lack s'
  | [], i, s, s', h => by simp at h
  | x :: r, 0, s, s', h => by
    have : x = s := by simpa using h
    subst this
    simp [lackAll]; omega
  | x :: r, i + 1, s, s', h => by
    have := lackAll_set r i s s' (by simpa using h)
    simp [lackAll] at this ⊢
    omega

def pSucc (p : Prb) (i : Nat) : List Nat := p.succ.getD i []
def pGen (p : Prb) (i e : Nat) : Prop := e ∈ p.gen.getD i []
def pKill (p : Prb) (i e : Nat) : Prop := e ∈ p.kill.getD i []
def outF (W : Nat) (p : Prb) (sets : List (List Nat)) (i : Nat) : List Nat := setL (clrL (behindF W sets (pSucc p i)) (p.kill.getD i [])) (p.gen.getD i [])
/- The shape of a problem at work: as many lists as nodes. -/
structure PrbFull (p : Prb) : Prop where
  ok : PrbOk p
  gl : p.gen.length = p.succ.length
  kl : p.kill.length = p.succ.length
theorem getD_mem {α : Type} {l : List (List α)} {i : Nat} {x : α} (h : x ∈ l.getD i []) : ∃ y ∈ l, x ∈ y := by
  rw [List.getD_eq_getElem?_getD] at h
  by_cases hi : i < l.length
  · rw [List.getElem?_eq_getElem hi] at h; exact ⟨_, List.getElem_mem hi, h⟩
  · rw [List.getElem?_eq_none (by omega)] at h; cases h
theorem PrbOk.succ_lt {p : Prb} (h : PrbOk p) {i t : Nat} (ht : t ∈ pSucc p i) : t < p.succ.length := by
  obtain ⟨l, hl, hx⟩ := getD_mem ht; exact h.s l hl t hx
theorem PrbOk.gen_lt {p : Prb} (h : PrbOk p) {i e : Nat} (ht : pGen p i e) : e < p.width := by
  obtain ⟨l, hl, hx⟩ := getD_mem ht; exact h.g l hl e hx
theorem PrbOk.kill_lt {p : Prb} (h : PrbOk p) {i e : Nat} (ht : pKill p i e) : e < p.width := by
  obtain ⟨l, hl, hx⟩ := getD_mem ht; exact h.k l hl e hx
theorem out_ok {p : Prb} (h : PrbOk p) {sets : List (List Nat)} {W : Nat} (hW : W = (p.width + 63) / 64) (ha : AllW W sets) (hl : sets.length = p.succ.length) (i : Nat) :
    (outF W p sets i).length = W ∧ words (outF W p sets i) ∧ ∀ e, bit (outF W p sets i) e = true ↔ (pGen p i e ∨ (¬ pKill p i e ∧ ∃ t ∈ pSucc p i, bit (sets.getD t []) e = true)) := by
  obtain ⟨h1, h2, h3⟩ := behind_ok ha (pSucc p i) (fun t ht => by rw [hl]; exact h.succ_lt ht)
  refine ⟨by unfold outF; rw [setL_len, clrL_len, h1], setL_words _ (clrL_words _ h2), fun e => ?_⟩
  unfold outF
  rw [bit_setL _ _ _ (fun x hx => by rw [clrL_len, h1, hW]; have := h.gen_lt (i := i) hx; omega), bit_clrL _ _ _ (fun x hx => by rw [h1, hW]; have := h.kill_lt (i := i) hx; omega)]
  rw [Bool.or_eq_true, Bool.and_eq_true, h3 e, decide_eq_true_eq, Bool.not_eq_true', decide_eq_false_iff_not]
  constructor
  · rintro (⟨h4, h5⟩ | h4)
    · exact .inr ⟨h5, h4⟩
    · exact .inl h4
  · rintro (h4 | ⟨h5, h4⟩)
    · exact .inr h4
    · exact .inl ⟨h4, h5⟩

def Sound (p : Prb) (sets : List (List Nat)) : Prop := ∀ i e, bit (sets.getD i []) e = true → Back (pSucc p) (pGen p) (pKill p) i e
def ClosedAt (W : Nat) (p : Prb) (sets : List (List Nat)) (i : Nat) : Prop := ∀ e, bit (outF W p sets i) e = true → bit (sets.getD i []) e = true
theorem Sound.out {p : Prb} {sets : List (List Nat)} {W : Nat} (hs : Sound p sets) (h : PrbOk p) (hW : W = (p.width + 63) / 64) (ha : AllW W sets) (hl : sets.length = p.succ.length) (i e : Nat) (hb : bit (outF W p sets i) e = true) : Back (pSucc p) (pGen p) (pKill p) i e := by
  rcases ((out_ok h hW ha hl i).2.2 e).1 hb with h1 | ⟨h1, t, ht, h2⟩
  · exact .gen h1
  · exact .step h1 ht (hs t e h2)
theorem getD_setL (sets : List (List Nat)) (i j : Nat) (s : List Nat) (hi : i < sets.length) : (sets.set i s).getD j [] = if i = j then s else sets.getD j [] := by
  rw [List.getD_eq_getElem?_getD, List.getElem?_set]
  by_cases h : i = j
  · subst h; simp [hi]
  · simp [h, List.getD_eq_getElem?_getD]
theorem Sound.join {p : Prb} {sets : List (List Nat)} {W : Nat} (hs : Sound p sets) (h : PrbOk p) (hW : W = (p.width + 63) / 64) (ha : AllW W sets) (hl : sets.length = p.succ.length) (i : Nat) (hi : i < sets.length) : Sound p (sets.set i (joinW (sets.getD i []) (outF W p sets i))) := by
  intro j e hb
  rw [getD_setL _ _ _ _ hi] at hb
  split at hb
  · rename_i hij
    subst hij
    rw [bit_join _ _ (by rw [(ha.get hi).1, (out_ok h hW ha hl i).1]), Bool.or_eq_true] at hb
    rcases hb with hb | hb
    · exact hs i e hb
    · exact hs.out h hW ha hl i e hb
  · exact hs j e hb
theorem Sound.zero (p : Prb) (n W : Nat) : Sound p (List.replicate n (List.replicate W 0)) := by
  intro i e hb
  rw [List.getD_eq_getElem?_getD, List.getElem?_replicate] at hb
  split at hb
  · simp only [Option.getD_some, bit_zero] at hb; cases hb
  · simp [bit] at hb
theorem AllW.zero (n W : Nat) : AllW W (List.replicate n (List.replicate W 0)) := by
  intro s hs
  rw [(List.mem_replicate.1 hs).2]
  exact ⟨by simp, words_zero W⟩
theorem closed_of_same {p : Prb} {sets : List (List Nat)} {W : Nat} (h : PrbOk p) (hW : W = (p.width + 63) / 64) (ha : AllW W sets) (hl : sets.length = p.succ.length) (i : Nat) (hi : i < sets.length) (hn : isNew (sets.getD i []) (outF W p sets i) = false) : ClosedAt W p sets i ∧ sets.set i (joinW (sets.getD i []) (outF W p sets i)) = sets := by
  have he : joinW (sets.getD i []) (outF W p sets i) = sets.getD i [] := by
    unfold isNew at hn
    simpa using hn
  refine ⟨fun e hb => ?_, ?_⟩
  · rw [← he, bit_join _ _ (by rw [(ha.get hi).1, (out_ok h hW ha hl i).1]), hb, Bool.or_true]
  · rw [he]
    apply List.ext_getElem?
    intro j
    rw [List.getElem?_set]
    by_cases hj : i = j
    · subst hj; simp [hi, List.getD_eq_getElem?_getD]
    · simp [hj]
theorem lack_of_new {p : Prb} {sets : List (List Nat)} {W : Nat} (h : PrbOk p) (hW : W = (p.width + 63) / 64) (ha : AllW W sets) (hl : sets.length = p.succ.length) (i : Nat) (hi : i < sets.length) :
    lackAll (sets.set i (joinW (sets.getD i []) (outF W p sets i))) ≤ lackAll sets ∧ (isNew (sets.getD i []) (outF W p sets i) = true → lackAll (sets.set i (joinW (sets.getD i []) (outF W p sets i))) < lackAll sets) := by
  obtain ⟨o1, o2, -⟩ := out_ok h hW ha hl i
  obtain ⟨a1, a2⟩ := ha.get hi
  obtain ⟨l1, l2⟩ := lack_join _ _ (by rw [a1, o1]) a2 o2
  have hs : sets[i]? = some (sets.getD i []) := by rw [List.getD_eq_getElem?_getD, List.getElem?_eq_getElem hi]; rfl
  have := lackAll_set sets i (sets.getD i []) (joinW (sets.getD i []) (outF W p sets i)) hs
  refine ⟨by omega, fun hn => ?_⟩
  have := l2 (by unfold isNew at hn; simpa using hn)
  omega
/- Where nothing turns any more, the sets are what goes back. -/
theorem back_iff {p : Prb} {sets : List (List Nat)} {W : Nat} (h : PrbOk p) (hW : W = (p.width + 63) / 64) (ha : AllW W sets) (hl : sets.length = p.succ.length) (hs : Sound p sets) (hc : ∀ i, i < p.succ.length → ClosedAt W p sets i) (i e : Nat) (hi : i < p.succ.length) :
    bit (sets.getD i []) e = true ↔ Back (pSucc p) (pGen p) (pKill p) i e := by
  refine ⟨hs i e, fun hb => ?_⟩
  exact Back.least (n := p.succ.length) (fun i e => bit (sets.getD i []) e = true) (fun i t _ ht => h.succ_lt ht) (fun i e hi hg => hc i hi e (((out_ok h hW ha hl i).2.2 e).2 (.inl hg))) (fun i e t hi hk ht hb => hc i hi e (((out_ok h hW ha hl i).2.2 e).2 (.inr ⟨hk, t, ht, hb⟩))) hb hi

end Go.Proofs.Ytilipeigjkmldaa
