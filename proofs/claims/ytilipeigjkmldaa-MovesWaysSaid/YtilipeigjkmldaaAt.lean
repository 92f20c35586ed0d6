/- A body that may be: its problem (which locals are used, which are lost) is a whole one. / Contracts of live.At: of a body that may be: lists of what is live; of one that may not be: an error. -/
import Derived.Test.YtilipeigjkmldaaProbC
import Derived.Test.YtilipeigjkmldaaRefE
import Derived.Test.YtilipeigjkmldaaCoreA
namespace Go.Proofs.Ytilipeigjkmldaa
open Go.RowKit

def toN (l : List Int) : List Nat := l.map Int.toNat
def prbB (b : Bod) : Prb := ⟨(succsB b).map toN, b.locals, (gensB b).map toN, (killsB b).map toN, []⟩

theorem plOk_loc {n : Nat} {p : Pl} (h : plOk n p = true) : 0 ≤ p.loc ∧ p.loc < n := by
  simp only [plOk, Bool.and_eq_true, decide_eq_true_eq] at h
  exact h.1
theorem opAcc_loc {n : Nat} {o : Opd} (h : opOk n o = true) : ∀ a ∈ opAcc o, 0 ≤ a.pl.loc ∧ a.pl.loc < n := by
  intro a ha
  unfold opAcc at ha
  unfold opOk at h
  by_cases h2 : o.kind = 2
  · rw [if_pos h2] at ha
    rw [List.mem_singleton.1 ha]
    rw [if_neg (by omega), if_pos (.inl h2)] at h
    exact plOk_loc h
  · rw [if_neg h2] at ha
    by_cases h3 : o.kind = 3
    · rw [if_pos h3] at ha
      rw [List.mem_singleton.1 ha]
      rw [if_neg (by omega), if_pos (.inr h3)] at h
      exact plOk_loc h
    · rw [if_neg h3] at ha; cases ha
theorem accI_loc {n : Nat} {x : Ins} (h : insOk n x = true) (hn : 0 < n) : ∀ a ∈ accI n x, 0 ≤ a.pl.loc ∧ a.pl.loc < n := by
  intro a ha
  unfold accI at ha
  unfold insOk at h
  by_cases h1 : x.kind = 1
  · rw [if_pos h1] at ha
    rw [if_pos (.inl h1)] at h
    simp only [Bool.and_eq_true, decide_eq_true_eq] at h
    rw [List.mem_singleton.1 ha]; exact h
  rw [if_neg h1] at ha
  by_cases h2 : x.kind = 2
  · rw [if_pos h2] at ha
    rw [if_pos (.inr h2)] at h
    simp only [Bool.and_eq_true, decide_eq_true_eq] at h
    rw [List.mem_singleton.1 ha]; exact h
  rw [if_neg h2] at ha
  rw [if_neg (by rintro (h | h) <;> contradiction)] at h
  by_cases h3 : x.kind = 3
  · rw [if_pos h3] at ha h
    simp only [rightOk, Bool.and_eq_true, Bool.or_eq_true, Bool.not_eq_true'] at h
    obtain ⟨hd, ⟨⟨-, hr, -⟩, hargs⟩⟩ := h
    rcases List.mem_append.1 ha with ha | ha
    · obtain ⟨o, ho, ha⟩ := List.mem_flatMap.1 ha
      exact opAcc_loc (List.all_eq_true.1 hargs o ho) a ha
    · rcases List.mem_append.1 ha with ha | ha
      · by_cases h2 : x.rkind = 2
        · rw [if_pos h2] at ha
          rw [List.mem_singleton.1 ha]
          rcases hr with hr | hr
          · simp [h2] at hr
          · exact plOk_loc hr
        · rw [if_neg h2] at ha; cases ha
      · rw [List.mem_singleton.1 ha]; exact plOk_loc hd
  rw [if_neg h3] at ha h
  by_cases h5 : x.kind = 5
  · rw [if_pos h5] at ha h
    exact opAcc_loc h a ha
  rw [if_neg h5] at ha
  by_cases h6 : x.kind = 6
  · rw [if_pos h6] at ha
    rcases List.mem_cons.1 ha with rfl | ha
    · simp only; omega
    · obtain ⟨k, hk, rfl⟩ := List.mem_map.1 ha
      have := List.mem_range.1 hk
      simp only; omega
  · rw [if_neg h6] at ha; cases ha
theorem bodOk.locals {b : Bod} (h : bodOk b) : 0 < b.locals := by
  have := h.1
  simp only [headOk, Bool.and_eq_true, decide_eq_true_eq] at this
  omega
theorem bodOk.ins {b : Bod} (h : bodOk b) {i : Nat} {x : Ins} (hx : b.code[i]? = some x) : insOk b.locals x = true ∧ ∀ t ∈ succI x i, 0 ≤ t ∧ t < b.code.length := by
  have h1 := h.2 i (List.getElem?_eq_some_iff.1 hx).1
  simp only [atOk, hx, Bool.and_eq_true] at h1
  refine ⟨h1.1, fun t ht => ?_⟩
  have := List.all_eq_true.1 h1.2 t ht
  simpa using this
theorem bodOk.acc {b : Bod} (h : bodOk b) (i : Nat) : ∀ a ∈ accB b i, 0 ≤ a.pl.loc ∧ a.pl.loc < b.locals := by
  intro a ha
  unfold accB at ha
  cases hx : b.code[i]? with
  | none => rw [hx] at ha; cases ha
  | some x => rw [hx] at ha; exact accI_loc (h.ins hx).1 h.locals a ha
theorem bodOk.succ {b : Bod} (h : bodOk b) (i : Nat) : ∀ t ∈ succB b i, 0 ≤ t ∧ t < b.code.length := by
  intro t ht
  unfold succB at ht
  cases hx : b.code[i]? with
  | none => rw [hx] at ht; cases ht
  | some x => rw [hx] at ht; exact (h.ins hx).2 t ht
theorem genI_mem {l : List Acc} {y : Int} (h : y ∈ genI l) : ∃ a ∈ l, a.pl.loc = y ∧ usesA a = true := by
  obtain ⟨a, ha, rfl⟩ := List.mem_map.1 h
  obtain ⟨h1, h2⟩ := List.mem_filter.1 ha
  exact ⟨a, h1, rfl, h2⟩
theorem killI_mem {l : List Acc} {y : Int} (h : y ∈ killI l) : ∃ a ∈ l, a.pl.loc = y ∧ usesA a = false := by
  obtain ⟨a, ha, rfl⟩ := List.mem_map.1 h
  obtain ⟨h1, h2⟩ := List.mem_filter.1 ha
  exact ⟨a, h1, rfl, by simpa using h2⟩
theorem toN_mem {l : List Int} {n : Nat} (h : n ∈ toN l) : ∃ x ∈ l, x.toNat = n := by
  obtain ⟨x, h1, h2⟩ := List.mem_map.1 h
  exact ⟨x, h1, h2⟩
theorem bodOk.full {b : Bod} (h : bodOk b) (hn : b.code.length ≤ 1201) (hl : b.locals ≤ 4000) : PrbFull (prbB b) := by
  have e1 : (prbB b).succ.length = b.code.length := by simp [prbB, succsB]
  refine ⟨⟨by rw [e1]; exact hn, hl, ?_, by simp [prbB, succsB, gensB], ?_, by simp [prbB, succsB, killsB], ?_, fun y hy => nomatch hy⟩, by simp [prbB, succsB, gensB], by simp [prbB, succsB, killsB]⟩
  · intro l hl y hy
    rw [e1]
    obtain ⟨l', h1, rfl⟩ := List.mem_map.1 hl
    obtain ⟨i, hi, rfl⟩ := List.mem_map.1 h1
    obtain ⟨x, hx, rfl⟩ := toN_mem hy
    have := h.succ i x hx
    omega
  · intro l hl y hy
    obtain ⟨l', h1, rfl⟩ := List.mem_map.1 hl
    obtain ⟨i, hi, rfl⟩ := List.mem_map.1 h1
    obtain ⟨x, hx, rfl⟩ := toN_mem hy
    obtain ⟨a, ha, rfl, -⟩ := genI_mem hx
    have := h.acc i a ha
    show a.pl.loc.toNat < b.locals
    omega
  · intro l hl y hy
    obtain ⟨l', h1, rfl⟩ := List.mem_map.1 hl
    obtain ⟨i, hi, rfl⟩ := List.mem_map.1 h1
    obtain ⟨x, hx, rfl⟩ := toN_mem hy
    obtain ⟨a, ha, rfl, -⟩ := killI_mem hx
    have := h.acc i a ha
    show a.pl.loc.toNat < b.locals
    omega
theorem intsV_toN {l : List Int} (h : ∀ x ∈ l, 0 ≤ x) : natV (toN l) = intsV l := by
  unfold natV toN
  rw [List.map_map]
  congr 1
  calc l.map (Int.ofNat ∘ Int.toNat) = l.map id := List.map_congr_left (fun x hx => by
        have := h x hx
        show ((x.toNat : Nat) : Int) = x
        omega)
    _ = l := List.map_id l
theorem NatAt.of_ints {w : World} {B : Nat} {l : List Int} {cs : List Value} (h : IntsAt w B l cs) (hp : ∀ x ∈ l, 0 ≤ x) : NatAt w B (toN l) cs := by
  obtain ⟨v, rfl, hr⟩ := h
  refine ⟨v, rfl, ?_⟩
  rw [intsV_toN hp]
  have : (toN l).length = l.length := by simp [toN]
  rw [this]; exact hr
theorem NRows.of_ints {w : World} {B : Nat} {v : Value} {ll : List (List Int)} (h : Rows2 w B v ll) (hp : ∀ l ∈ ll, ∀ x ∈ l, 0 ≤ x) : NRows w B v (ll.map toN) := by
  obtain ⟨xs, h1, h2⟩ := h
  have key : ∀ (ll : List (List Int)) (xs : List Value), (∀ l ∈ ll, ∀ x ∈ l, 0 ≤ x) → Each (IntsAt w B) ll xs → Each (NatAt w B) (ll.map toN) xs := by
    intro ll
    induction ll with
    | nil => intro xs _ h; rw [Each] at h; subst h; exact Each.nil
    | cons l r ih =>
      intro xs hp h
      rw [Each] at h
      obtain ⟨c1, c2, rfl, h1, h2⟩ := h
      rw [List.map_cons, Each]
      exact ⟨c1, c2, rfl, NatAt.of_ints h1 (hp l (List.mem_cons_self ..)), ih c2 (fun l hl => hp l (List.mem_cons_of_mem _ hl)) h2⟩
  refine ⟨xs, key ll xs hp h1, ?_⟩
  rw [List.length_map]; exact h2
theorem bodOk.prb {b : Bod} (h : bodOk b) {w : World} {B : Nat} {vs vg vk : Value} (h1 : Rows2 w B vs (succsB b)) (h2 : Rows2 w B vg (gensB b)) (h3 : Rows2 w B vk (killsB b)) : PrbAt w B (prbB b) vs vg vk (.slice none 0 0) := by
  refine ⟨NRows.of_ints h1 ?_, NRows.of_ints h2 ?_, NRows.of_ints h3 ?_, Row.nil _ _ _⟩
  · intro l hl x hx
    obtain ⟨i, hi, rfl⟩ := List.mem_map.1 hl
    exact (h.succ i x hx).1
  · intro l hl x hx
    obtain ⟨i, hi, rfl⟩ := List.mem_map.1 hl
    obtain ⟨a, ha, rfl, -⟩ := genI_mem hx
    exact (h.acc i a ha).1
  · intro l hl x hx
    obtain ⟨i, hi, rfl⟩ := List.mem_map.1 hl
    obtain ⟨a, ha, rfl, -⟩ := killI_mem hx
    exact (h.acc i a ha).1

/- Live: said of a body. -/
def LiveB (b : Bod) (i x : Nat) : Prop := Back (pSucc (prbB b)) (pGen (prbB b)) (pKill (prbB b)) i x
def ints (l : List Nat) : List Int := l.map Int.ofNat
/- Lists of locals, rising, by a test. -/
def liveL (b : Bod) (p : Nat → Nat → Bool) : List (List Int) := (List.range b.code.length).map (fun i => ints ((List.range b.locals).filter (p i)))
theorem liveL_congr {b : Bod} {p q : Nat → Nat → Bool} (h : ∀ i x, i < b.code.length → x < b.locals → p i x = q i x) : liveL b p = liveL b q := by
  unfold liveL
  refine List.map_congr_left (fun i hi => ?_)
  congr 1
  exact List.filter_congr (fun x hx => h i x (List.mem_range.1 hi) (List.mem_range.1 hx))
theorem liveL_len (b : Bod) (p : Nat → Nat → Bool) : (liveL b p).length = b.code.length := by simp [liveL]
theorem natV_ints (l : List Nat) : natV l = intsV (ints l) := rfl
/- What is used and lost, in the words of usedB and lostB. -/
theorem pGen_iff {b : Bod} (h : bodOk b) (i x : Nat) (hi : i < b.code.length) : pGen (prbB b) i x ↔ usedB b i x = true := by
  unfold pGen prbB gensB usedB
  simp only
  rw [List.getD_eq_getElem?_getD, List.getElem?_map, List.getElem?_map, List.getElem?_range hi]
  simp only [Option.map_some, Option.getD_some]
  constructor
  · intro hx
    obtain ⟨y, hy, rfl⟩ := toN_mem hx
    obtain ⟨a, ha, rfl, hu⟩ := genI_mem hy
    have := h.acc i a ha
    exact List.any_eq_true.2 ⟨a, ha, by simp [hu]; omega⟩
  · intro hx
    obtain ⟨a, ha, hp⟩ := List.any_eq_true.1 hx
    simp only [Bool.and_eq_true, beq_iff_eq] at hp
    refine List.mem_map.2 ⟨a.pl.loc, List.mem_map.2 ⟨a, List.mem_filter.2 ⟨ha, hp.2⟩, rfl⟩, by omega⟩
theorem pKill_iff {b : Bod} (h : bodOk b) (i x : Nat) (hi : i < b.code.length) : pKill (prbB b) i x ↔ lostB b i x = true := by
  unfold pKill prbB killsB lostB
  simp only
  rw [List.getD_eq_getElem?_getD, List.getElem?_map, List.getElem?_map, List.getElem?_range hi]
  simp only [Option.map_some, Option.getD_some]
  constructor
  · intro hx
    obtain ⟨y, hy, rfl⟩ := toN_mem hx
    obtain ⟨a, ha, rfl, hu⟩ := killI_mem hy
    have := h.acc i a ha
    exact List.any_eq_true.2 ⟨a, ha, by simp [hu]; omega⟩
  · intro hx
    obtain ⟨a, ha, hp⟩ := List.any_eq_true.1 hx
    simp only [Bool.and_eq_true, beq_iff_eq] at hp
    exact List.mem_map.2 ⟨a.pl.loc, List.mem_map.2 ⟨a, List.mem_filter.2 ⟨ha, by simpa using hp.2⟩, rfl⟩, by omega⟩
theorem pSucc_is {b : Bod} (i : Nat) (hi : i < b.code.length) : pSucc (prbB b) i = toN (succB b i) := by
  unfold pSucc prbB succsB
  simp only
  rw [List.getD_eq_getElem?_getD, List.getElem?_map, List.getElem?_map, List.getElem?_range hi]; rfl

end Go.Proofs.Ytilipeigjkmldaa

namespace Go.Proofs.Ytilipeigjkmldaa
open Go.RowKit

def AtPost (b : Bod) (w : World) (e : Ending) (w' : World) : Prop :=
  (∃ v p, e = .returned (.tuple #[v, .int .i64 0]) ∧ Rows2 w' w'.heap.size v (liveL b p) ∧ ∀ i x, i < b.code.length → (p i x = true ↔ LiveB b i x)) ∧ Step (fun _ => False) w w'

set_option maxRecDepth 100000 in
set_option maxHeartbeats 4000000 in
theorem at_any (B g : Nat) (b : Bod) (w : World) (h : BodP w B g b) (hs : BodSmall b) (hB : B ≤ w.heap.size) (hok : bodOk b) (hn : b.code.length ≤ 1201) (hl : b.locals ≤ 4000) :
    Calls Try.prog 13 #[.pointer (some ⟨g, 0, none⟩)] w (AtPost b w) := by
  have HBOD := Lib.hid h
  have HSM := Lib.hid hs
  have HOK := Lib.hid hok
  have HCK : Hid (chkF b = -1) := chkF_ok hok.1 hok.2
  obtain ⟨i0, hi0, hz0, hz1, hz2⟩ := info_parts Try.infoIntsL
  have HI := Lib.hid hi0
  have HZ0 := Lib.hid hz0
  have HZ1 := Lib.hid hz1
  have HZ2 := Lib.hid hz2
  clear hi0 hz0 hz1 hz2 h hs hok
  go_enter Try.func13, Try.ntmps13
  go_wp2_with fail
  refine (check_any B g b w HBOD.out).mono ?_
  rintro e w1 ⟨rfl, h1⟩
  rw [HCK.out]
  have HS1 := Lib.hid h1
  have HBO1 := Lib.hid (HBOD.out.step h1 (fun _ _ h => h))
  clear h1
  go_wp2_with fail
  refine (problem_any B g b w1 HBO1.out HSM.out (Nat.le_trans hB HS1.out.size) (by omega)).mono ?_
  rintro e w2 ⟨⟨vs, vg, vk, rfl, hr1, hr2, hr3⟩, h2⟩
  have HPA := Lib.hid (HOK.out.prb hr1 hr2 hr3)
  have HS2 := Lib.hid (HS1.out.trans h2)
  clear hr1 hr2 hr3 h2
  go_wp2_with fail
  refine (backward_any w2.heap.size (prbB b) vs vg vk _ w2 HPA.out (HOK.out.full hn hl) (Nat.le_refl _)).mono ?_
  rintro e w3 ⟨⟨base, ab, W, v, gs, sets, rfl, hW, hans, hlen, hbit⟩, h3⟩
  have HW := Lib.hid hW
  have HANS := Lib.hid hans
  have HLEN : Hid (sets.length = b.code.length) := by show _ = _; rw [hlen]; simp [prbB, succsB]
  have HBIT : Hid (∀ i x, i < b.code.length → (bit (sets.getD i []) x = true ↔ LiveB b i x)) := by
    show ∀ i x, _
    intro i x hi
    exact hbit i x (by simpa [prbB, succsB] using hi)
  have HS3 := Lib.hid (HS2.out.trans h3)
  obtain ⟨-, -, ca, cc, hca, -⟩ := (HBOD.out.step HS3.out (fun _ _ h => h)).parts
  obtain ⟨pl, hpl⟩ : ∃ pl, pl = liveL b (fun i x => bit (sets.getD i []) x) := ⟨_, rfl⟩
  have HPL := Lib.hid hpl
  clear hW hans hlen hbit h3 hpl
  go_wp2_with fail
  clear hca
  go_loopg [6, 25] b.code.length (fun gg s6 s25 wr => ∃ (k : Nat) (lk : List (List Int)) (G : Nat → Bool) (xk : List Value), s25 = .int .i64 k ∧ k ≤ b.code.length ∧ b.code.length - k ≤ gg ∧ lk = pl.take k ∧ Grows IntsAt 38 1 w3.heap.size G wr lk s6 xk ∧ upG G wr ∧ (∀ q, q < w3.heap.size → G q = true) ∧ Step (fun _ => False) w3 wr)
  case atStart => exact ⟨0, [], fun q => decide (q < w3.heap.size), [], rfl, Nat.zero_le _, by omega, rfl, Grows.nil _ _ _ _ _ _, upG.low, fun q hq => decide_eq_true hq, Step.refl _ _⟩
  case round =>
    obtain ⟨k, lk, G, xk, rfl, hk, hgg, hlk, hgr, hup, hlow, hst⟩ := hrel
    have HLK := Lib.hid hlk
    have HGR := Lib.hid hgr
    have HUP := Lib.hid hup
    have HLOW := Lib.hid hlow
    have HST := Lib.hid hst
    have hll : lk.length ≤ 1201 := by rw [hlk, List.length_take]; omega
    obtain ⟨ao, co, rfl⟩ := owns_slice hgr.own
    clear hlk hgr hup hlow hst
    by_cases hlt : k < b.code.length
    · obtain ⟨s, hs⟩ : ∃ s, sets[k]? = some s := ⟨_, List.getElem?_eq_getElem (by rw [HLEN.out]; exact hlt)⟩
      have HLI := Lib.hid (alist_any base ab W b.locals k v gs sets s wr (HANS.out.step HST.out) hs HW.out (by omega))
      obtain ⟨fl, hfl⟩ : ∃ fl, fl = factsL b.locals s := ⟨_, rfl⟩
      have HT : Hid (pl.take (k + 1) = pl.take k ++ [ints fl]) := by
        show _ = _
        rw [HPL.out, hfl]
        have e1 : sets.getD k [] = s := by rw [List.getD_eq_getElem?_getD, hs]; rfl
        have := map_take_succ (fun i => ints ((List.range b.locals).filter (fun x => bit (sets.getD i []) x))) b.code.length k hlt
        rw [e1] at this
        exact this
      rw [← hfl] at HLI
      clear hs hfl
      go_wp2_with fail
      refine HLI.out.mono ?_
      rintro e w5 ⟨⟨u, rfl, hou⟩, h5⟩
      obtain ⟨au, cu, rfl⟩ := owns_slice hou
      have ST6 : Step (fun _ => False) wr (w5.alloc (.cells #[.slice au fl.length cu] 38)) := h5.alloc _
      have HST6 := Lib.hid ST6
      have HGR6 := Lib.hid (HGR.out.keep IntsAt.stays ST6 (fun _ _ h => h.elim) (fun _ _ => rfl) (fun _ _ h => h))
      have HROW : Hid (Row (w5.alloc (.cells #[.slice au fl.length cu] 38)) (w5.heap.size + 1) (.slice (some ⟨w5.heap.size, 0, none⟩) 1 1) 1 [.slice au fl.length cu]) := Row.new (cs := [.slice au fl.length cu]) (blk_new _ _) (by decide)
      have HEL : Hid (IntsAt (veil G (w5.alloc (.cells #[.slice au fl.length cu] 38))) (w5.alloc (.cells #[.slice au fl.length cu] 38)).heap.size (ints fl) [.slice au fl.length cu]) := by
        have h1 : Row (veil G (w5.alloc (.cells #[.slice au fl.length cu] 38))) (w5.alloc (.cells #[.slice au fl.length cu] 38)).heap.size (.slice au fl.length cu) fl.length (natV fl) := Row.owns_veil (hou.alloc _) (Nat.le_refl _) (fun q hq => HUP.out q hq)
        refine ⟨_, rfl, ?_⟩
        have e : (ints fl).length = fl.length := by simp [ints]
        rw [e]; exact h1
      have HBS : Hid (w3.heap.size ≤ (w5.alloc (.cells #[.slice au fl.length cu] 38)).heap.size) := Nat.le_trans HST.out.size ST6.size
      have HO : Hid (∀ u ∈ [Value.slice au fl.length cu], u.oneCell' = true) := fun u hu => by rw [List.mem_singleton.1 hu]; rfl
      clear hou h5 ST6
      go_wp2_with (at_builtin; refine wpList_append_row _ rfl (w5.heap.size + 1) (.tmp 28) (.tmp 32) 31 rfl w3.heap.size 38 i0 _ 1 24 Try.underlying31 HI.out HZ0.out HZ1.out HZ2.out rfl (by decide) _ _ _ rfl HGR6.out.own _ 1 _ rfl HROW.out rfl HO.out (by unfold maxLen; omega) (by omega) HBS.out ?_)
      intro v8 w8 hown8 hgrow8 hat8
      have HGR8 := Lib.hid (HGR6.out.snoc IntsAt.stays HEL.out hown8 hgrow8 (by simpa using hat8))
      have HUP8 : Hid (upG (addG G v8) w8) := (HUP.out.mono HST6.out.size).add (grown_step hgrow8).size hown8
      have HST8 : Hid (Step (fun _ => False) w3 w8) := (HST.out.trans HST6.out).then (grown_step hgrow8) (fun q hq e => by have := (HGR6.out.own.lt q e).1; omega)
      clear hown8 hgrow8 hat8
      go_wp2_with fail
      go_roundg (gk - 1)
      case rel => exact ⟨k + 1, lk ++ [ints fl], addG G v8, _, by go_num, hlt, by rw [← Nat.sub_sub]; exact Nat.sub_le_sub_right hgg 1, by rw [HT.out, HLK.out], HGR8.out, HUP8.out, (fun q hq => by simp [addG, HLOW.out q hq]), HST8.out⟩
      case measure => omega
    · obtain rfl : k = b.code.length := by omega
      have HF : Hid (lk = pl) := by show _ = _; rw [HLK.out]; exact List.take_of_length_le (by rw [HPL.out, liveL_len]; omega)
      go_wp2_with fail
      go_ret2
      refine ⟨⟨_, fun i x => bit (sets.getD i []) x, rfl, ?_, HBIT.out⟩, HS3.out.trans HST.out⟩
      rw [← HPL.out, ← HF.out]
      exact HGR.out.rows2

set_option maxRecDepth 100000 in
set_option maxHeartbeats 1000000 in
theorem at_bad (B g : Nat) (b : Bod) (w : World) (h : BodP w B g b) (hc : chkF b ≠ -1) :
    Calls Try.prog 13 #[.pointer (some ⟨g, 0, none⟩)] w fun e w' => e = .returned (.tuple #[.slice none 0 0, .int .i64 14]) ∧ Step (fun _ => False) w w' := by
  have HBOD := Lib.hid h
  have e1 : (chkF b != -1) = true := by simpa using hc
  clear h
  go_enter Try.func13, Try.ntmps13
  go_wp2_with fail
  refine (check_any B g b w HBOD.out).mono ?_
  rintro e w1 ⟨rfl, h1⟩
  go_wp2_with fail
  go_ret2
  exact ⟨rfl, h1⟩

set_option maxRecDepth 100000 in
set_option maxHeartbeats 1000000 in
theorem at_nil (w : World) :
    Calls Try.prog 13 #[.pointer none] w fun e w' => e = .returned (.tuple #[.slice none 0 0, .int .i64 14]) ∧ Step (fun _ => False) w w' := by
  go_enter Try.func13, Try.ntmps13
  go_wp2_with fail
  refine (check_nil w).mono ?_
  rintro e w1 ⟨rfl, h1⟩
  go_wp2_with fail
  go_ret2
  exact ⟨rfl, h1⟩

end Go.Proofs.Ytilipeigjkmldaa
