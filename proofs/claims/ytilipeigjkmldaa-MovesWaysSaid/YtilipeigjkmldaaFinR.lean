/- mir.Reach: which instructions may be come to. -/
import Derived.Test.YtilipeigjkmldaaFinG
import Derived.Test.YtilipeigjkmldaaSuccF
import Derived.Test.YtilipeigjkmldaaAt
import Derived.Test.YtilipeigjkmldaaLivR
namespace Go.Proofs.Ytilipeigjkmldaa
open Go.RowKit

inductive Rch (b : Bod) : Nat → Prop where
  | zero : Rch b 0
  | step {i : Nat} {t : Int} : Rch b i → t ∈ succB b i → Rch b t.toNat
structure RInv (b : Bod) (td : List Nat) (m : List Bool) (k : Nat) : Prop where
  len : m.length = b.code.length
  iff : ∀ i, i < b.code.length → (m.getD i false = true ↔ i ∈ td)
  nd : td.Nodup
  lt : ∀ i ∈ td, i < b.code.length
  rch : ∀ i ∈ td, Rch b i
  zero : 0 ∈ td
  cl : ∀ j i, j < k → td[j]? = some i → ∀ t ∈ succB b i, t.toNat ∈ td
theorem getD_setB (m : List Bool) (i j : Nat) (hi : i < m.length) : (m.set i true).getD j false = if i = j then true else m.getD j false := by
  rw [List.getD_eq_getElem?_getD, List.getElem?_set]
  by_cases h : i = j
  · subst h; simp [hi]
  · simp [h, List.getD_eq_getElem?_getD]
theorem RInv.push {b : Bod} {td : List Nat} {m : List Bool} {k t : Nat} (h : RInv b td m k) (hk : k ≤ td.length) (ht : t < b.code.length) (hr : Rch b t) (hn : m.getD t false = false) : RInv b (td ++ [t]) (m.set t true) k := by
  have hnt : t ∉ td := fun hm => by rw [(h.iff t ht).2 hm] at hn; cases hn
  refine ⟨by rw [List.length_set]; exact h.len, fun i hi => ?_, ?_, fun i hi => ?_, fun i hi => ?_, List.mem_append_left _ h.zero, fun j i hj hji s hs => ?_⟩
  · rw [getD_setB _ _ _ (by rw [h.len]; exact ht)]
    by_cases e : t = i
    · subst e; simp
    · rw [if_neg e, h.iff i hi]
      simp [Ne.symm e]
  · rw [List.nodup_append]
    refine ⟨h.nd, by simp, fun x hx y hy e => ?_⟩
    rw [List.mem_singleton.1 hy] at e
    exact hnt (e ▸ hx)
  · rcases List.mem_append.1 hi with hi | hi
    · exact h.lt i hi
    · rw [List.mem_singleton.1 hi]; exact ht
  · rcases List.mem_append.1 hi with hi | hi
    · exact h.rch i hi
    · rw [List.mem_singleton.1 hi]; exact hr
  · rw [List.getElem?_append_left (by omega)] at hji
    exact List.mem_append_left _ (h.cl j i hj hji s hs)
theorem RInv.done {b : Bod} {td : List Nat} {m : List Bool} (h : RInv b td m td.length) {i : Nat} (hi : i < b.code.length) : m.getD i false = true ↔ Rch b i := by
  rw [h.iff i hi]
  refine ⟨h.rch i, fun hr => ?_⟩
  clear hi
  induction hr with
  | zero => exact h.zero
  | step h1 h2 ih =>
    obtain ⟨j, hj⟩ := List.getElem?_of_mem ih
    exact h.cl j _ (List.getElem?_eq_some_iff.1 hj).1 hj _ h2
theorem RInv.first {b : Bod} (hn : 0 < b.code.length) : RInv b [0] ((List.replicate b.code.length false).set 0 true) 0 := by
  refine ⟨by simp, fun i hi => ?_, by simp, fun i hi => by rw [List.mem_singleton.1 hi]; exact hn, fun i hi => by rw [List.mem_singleton.1 hi]; exact .zero, by simp, fun j i hj => absurd hj (Nat.not_lt_zero _)⟩
  rw [getD_setB _ _ _ (by simpa using hn)]
  by_cases e : 0 = i
  · subst e; simp
  · rw [if_neg e, List.getD_eq_getElem?_getD, List.getElem?_replicate]
    split <;> simp [Ne.symm e]
theorem RInv.le {b : Bod} {td : List Nat} {m : List Bool} {k : Nat} (h : RInv b td m k) : td.length ≤ b.code.length := nodup_bound _ _ h.nd h.lt
theorem RInv.next {b : Bod} {td : List Nat} {m : List Bool} {k i : Nat} (h : RInv b td m k) (hi : td[k]? = some i) (hs : ∀ t ∈ succB b i, t.toNat ∈ td) : RInv b td m (k + 1) :=
  ⟨h.len, h.iff, h.nd, h.lt, h.rch, h.zero, fun j x hj hx => by
    rcases Nat.lt_succ_iff_lt_or_eq.1 hj with h1 | rfl
    · exact h.cl j x h1 hx
    · rw [hi] at hx
      cases hx
      exact hs⟩

def ReachPost (b : Bod) (w : World) (e : Ending) (w' : World) : Prop :=
  (∃ gm m, e = .returned (.slice (some ⟨gm, 0, none⟩) b.code.length b.code.length) ∧ w.heap.size ≤ gm ∧ m.length = b.code.length ∧ w'.heap[gm]? = some (boolsO m) ∧ ∀ i, i < b.code.length → (m.getD i false = true ↔ Rch b i)) ∧ Step (fun _ => False) w w'
theorem repl_bools (n : Nat) : boolsO (List.replicate n false) = .cells (Array.replicate n (Value.bool false)) 4 (0, 0) := by
  unfold boolsO boolV
  congr 1
  simp
theorem ownsCells {w : World} {g n : Nat} {e : TypeId} {size : Nat} {cs : List Value} (base : Nat) (h : w.heap[g]? = some (.cells cs.toArray e (0, 0))) (hb : base ≤ g) (hl : cs.length = n * size) (hn : n ≤ 9223372036854775807) : w.ownsRow base e size (.slice (some ⟨g, 0, none⟩) n n) n cs :=
  ⟨hl, .inr ⟨g, n, cs.toArray, rfl, hb, h, Nat.le_refl _, by unfold maxLen; omega, by simp [hl], by show cs.take (n * size) = cs; rw [← hl, List.take_length]⟩⟩

set_option maxRecDepth 100000 in
set_option maxHeartbeats 4000000 in
theorem reach_any (B g : Nat) (b : Bod) (w : World) (h : BodP w B g b) (hok : bodOk b) (hn : b.code.length ≤ 1000000) (hpos : 0 < b.code.length) :
    Calls Try.prog 42 #[.pointer (some ⟨g, 0, none⟩)] w (ReachPost b w) := by
  have H := Lib.hid h
  have HOK := Lib.hid hok
  have hmk := run_makeBools b.code.length hn
  obtain ⟨j0, hj0, hy0, hy1, hy2⟩ := info_parts Try.infoInt
  have HJ := Lib.hid hj0
  have HY0 := Lib.hid hy0
  have HY1 := Lib.hid hy1
  have HY2 := Lib.hid hy2
  obtain ⟨-, -, ca, cc, hca, hcc1, hcc2, -⟩ := h.parts
  have e0 : ((b.code.length : Int) == 0) = false := by simpa using (by omega : ¬ (b.code.length : Int) = 0)
  have e1 : (b.code.length == 0) = false := by simpa using (by omega : ¬ b.code.length = 0)
  have hi0 : (0 : Int) < (b.code.length : Int) := by omega
  obtain ⟨w2, hw2⟩ : ∃ w2 : World, w2 = (w.alloc (.cells ((Array.replicate b.code.length (Value.bool false)).setIfInBounds 0 (.bool true)) 4)).alloc (.cells #[.int .i64 0] 3) := ⟨_, rfl⟩
  have hst2 : Step (fun _ => False) w w2 := by rw [hw2]; exact ((Step.refl _ _).alloc _).alloc _
  have HSZ2 : Hid (w2.heap.size = w.heap.size + 2) := by show _ = _; rw [hw2]; simp
  have HM2 : Hid (w2.heap[w.heap.size]? = some (boolsO ((List.replicate b.code.length false).set 0 true))) := by
    show _ = _
    have e : boolsO ((List.replicate b.code.length false).set 0 true) = .cells ((Array.replicate b.code.length (Value.bool false)).setIfInBounds 0 (.bool true)) 4 (0, 0) := by
      have h1 := repl_bools b.code.length
      unfold boolsO at h1 ⊢
      rw [← boolV_set]
      injection h1 with h2
      rw [h2]
    rw [hw2, e]; exact blk_alloc (blk_new w _)
  have HT2 : Hid (w2.ownsRow (w.heap.size + 1) 3 1 (.slice (some ⟨w.heap.size + 1, 0, none⟩) 1 1) 1 (natV [0])) := by
    refine ownsCells (cs := natV [0]) _ ?_ (Nat.le_refl _) rfl (by decide)
    rw [hw2]
    exact blk_new2 _ _ _
  have HW2 := Lib.hid hw2
  have HST2 := Lib.hid hst2
  clear h hok hj0 hy0 hy1 hy2 hw2 hst2
  go_enter Try.func42, Try.ntmps42
  go_upto_region 6 with fail
  rw [← HW2.out]
  clear hmk hca
  go_wp2_with fail
  obtain ⟨gm, hgm⟩ : ∃ gm, gm = w.heap.size := ⟨_, rfl⟩
  have HGM := Lib.hid hgm
  rw [← hgm] at HM2 HT2 HSZ2
  rw [← hgm]
  clear hgm e0 e1
  go_loopg [4, 5, 7, 38, 39, 40] b.code.length (fun gg s4 s5 _ _ _ _ wr => ∃ (k : Nat) (td : List Nat) (m : List Bool), s5 = .int .i64 k ∧ k ≤ td.length ∧ b.code.length - k ≤ gg ∧ wr.ownsRow (gm + 1) 3 1 s4 td.length (natV td) ∧ wr.heap[gm]? = some (boolsO m) ∧ RInv b td m k ∧ Step (fun _ => False) w wr)
  case atStart => exact ⟨0, [0], _, rfl, Nat.zero_le _, by omega, HT2.out, HM2.out, RInv.first hpos, HST2.out⟩
  case round =>
    obtain ⟨k, td, m, rfl, hk, hgg, hown, hm, hinv, hst⟩ := hrel
    have HOWN := Lib.hid hown
    have HM := Lib.hid hm
    have HINV := Lib.hid hinv
    have HST := Lib.hid hst
    have htl := hinv.le
    obtain ⟨at0, ct0, rfl⟩ := owns_slice hown
    obtain ⟨go1, rfl⟩ : ∃ go1, go1 = gk := ⟨_, rfl⟩
    obtain ⟨wo, rfl⟩ : ∃ wo : World, wo = wr := ⟨_, rfl⟩
    by_cases hlt : k < td.length
    · obtain ⟨i, hi⟩ : ∃ i, td[k]? = some i := ⟨_, List.getElem?_eq_getElem hlt⟩
      have HI := Lib.hid hi
      have hil : i < b.code.length := hinv.lt i (List.mem_of_getElem? hi)
      obtain ⟨a', c', hva, -, -, -, hra⟩ := Row.of_owns (B := wo.heap.size) hown (Nat.le_refl _)
      obtain ⟨rfl, -, rfl⟩ : at0 = a' ∧ True ∧ ct0 = c' := by cases hva; exact ⟨rfl, trivial, rfl⟩
      obtain ⟨gt, ot, rfl, -, -, hcT⟩ := hra (by omega)
      have f0 := hcT k _ (natV_get td k i hi)
      obtain ⟨x, hx⟩ : ∃ x, b.code[i]? = some x := ⟨_, List.getElem?_eq_getElem hil⟩
      have HSB : Hid (succB b i = succI x i) := by show _ = _; unfold succB; rw [hx]
      have HSUC := Lib.hid (succ_fresh B g b i x wo (H.out.step HST.out (fun _ _ h => h)) hx)
      have hk0 : (0 : Int) ≤ (k : Int) := by omega
      have hk1 : (k : Int) < (td.length : Int) := by omega
      have hgs : gm + 1 < wo.heap.size + 1 := by have := blk_lt hm; omega
      clear hown hm hinv hst hcT hra hva hi hx
      go_wp2_with fail
      refine HSUC.out.mono ?_
      rintro e w3 ⟨⟨va, rfl, hr, hfr⟩, s3⟩
      obtain ⟨l, hl⟩ : ∃ l, l = succI x i := ⟨_, rfl⟩
      have HL : Hid (succB b i = l) := by show _ = _; rw [HSB.out, hl]
      rw [← hl] at hr
      have HR := Lib.hid hr
      obtain ⟨aa, ac, rfl, hac1, hac2, -⟩ := hr
      have HFR := Lib.hid hfr
      have HM3 := Lib.hid (s3.keep HM.out (fun h => h))
      have HOWN3 := Lib.hid (s3.owns HOWN.out (fun _ _ h => h))
      have HST3 := Lib.hid (HST.out.trans s3)
      have HNE3 : Hid (∀ q, (Value.slice aa l.length ac).ownBlock = some q → q ≠ gm ∧ (Value.slice (some ⟨gt, ot, none⟩) td.length ct0).ownBlock ≠ some q) := by
        show ∀ q, _
        intro q hq
        have h1 := HFR.out q hq
        exact ⟨fun e => by omega, fun e => by have := (HOWN.out.lt q e).2; omega⟩
      clear hl hfr s3 f0 hk0 hk1
      go_wp2_with fail
      go_loopg [4, 7, 40] l.length (fun gg s4 _ s40 wr => ∃ (j : Nat) (td' : List Nat) (m' : List Bool), s40 = .int .i64 j ∧ j ≤ l.length ∧ l.length - j ≤ gg ∧ wr.ownsRow (gm + 1) 3 1 s4 td'.length (natV td') ∧ wr.heap[gm]? = some (boolsO m') ∧ RInv b td' m' k ∧ td'[k]? = some i ∧ (∀ t ∈ l.take j, t.toNat ∈ td') ∧
        Row wr w3.heap.size (.slice aa l.length ac) l.length (intsV l) ∧ w3.heap.size ≤ wr.heap.size ∧ (∀ q, (Value.slice aa l.length ac).ownBlock = some q → q ≠ gm ∧ s4.ownBlock ≠ some q) ∧ Step (fun _ => False) w wr)
      case atStart => exact ⟨0, td, m, rfl, Nat.zero_le _, by omega, HOWN3.out, HM3.out, HINV.out, HI.out, (fun t ht => by simp at ht), HR.out, Nat.le_refl _, HNE3.out, HST3.out⟩
      case round =>
        obtain ⟨j, td', m', rfl, hj, hgg5, hown5, hm5, hinv5, hik5, hin5, hr5, hsz5, hne5, hst5⟩ := hrel
        have HOWN5 := Lib.hid hown5
        have HM5 := Lib.hid hm5
        have HINV5 := Lib.hid hinv5
        have HIK5 := Lib.hid hik5
        have HIN5 := Lib.hid hin5
        have HR5 := Lib.hid hr5
        have HNE5 := Lib.hid hne5
        have HST5 := Lib.hid hst5
        obtain ⟨ax5, cx5, rfl⟩ := owns_slice hown5
        obtain ⟨w5, rfl⟩ : ∃ w5 : World, w5 = wr := ⟨_, rfl⟩
        by_cases hlt5 : j < l.length
        · obtain ⟨t, ht⟩ : ∃ t, l[j]? = some t := ⟨_, List.getElem?_eq_getElem hlt5⟩
          obtain ⟨ht0, ht1⟩ := HOK.out.succ i t (by rw [HL.out]; exact List.mem_of_getElem? ht)
          obtain ⟨tn, rfl⟩ : ∃ tn : Nat, t = tn := ⟨t.toNat, by omega⟩
          have htn : tn < b.code.length := by omega
          obtain ⟨a', c', hva, -, -, -, hra⟩ := hr5
          obtain ⟨rfl, -, rfl⟩ : aa = a' ∧ True ∧ ac = c' := by cases hva; exact ⟨rfl, trivial, rfl⟩
          obtain ⟨ga, oa, rfl, hga, -, hcA⟩ := hra (by omega)
          have f0 := hcA j _ (intsV_get l j tn ht)
          have HRCH : Hid (Rch b tn) := by
            have := Rch.step (HINV5.out.rch i (List.mem_of_getElem? HIK5.out)) (show (tn : Int) ∈ succB b i by rw [HL.out]; exact List.mem_of_getElem? ht)
            rwa [Int.toNat_natCast] at this
          have HTK : Hid (∀ x ∈ l.take (j + 1), x ∈ l.take j ∨ x = (tn : Int)) := fun x hx => by
            obtain ⟨hj', hja⟩ := List.getElem?_eq_some_iff.1 ht
            rw [List.take_succ_eq_append_getElem hj', hja] at hx
            rcases List.mem_append.1 hx with hx | hx
            · exact .inl hx
            · exact .inr (List.mem_singleton.1 hx)
          obtain ⟨bm, hbm⟩ : ∃ bm, bm = m'.getD tn false := ⟨_, rfl⟩
          have HBM := Lib.hid hbm
          have hml := hinv5.len
          have hcell := bools_cell hm5 (i := tn) (b := bm) (by rw [hbm, List.getD_eq_getElem?_getD, List.getElem?_eq_getElem (by omega)]; rfl)
          have hfz := bools_free hm5 tn
          have HGA : Hid (ga < w3.heap.size ∧ w3.heap.size ≤ w5.heap.size) := ⟨hga, hsz5⟩
          have htl5 := hinv5.le
          have hk0 : (0 : Int) ≤ (tn : Int) := by omega
          have hk1 : (tn : Int) < (b.code.length : Int) := by omega
          have e1 : decide ((0 : Int) ≤ (tn : Int)) = true := decide_eq_true hk0
          have e2 : decide (tn < b.code.length) = true := decide_eq_true htn
          have hj0 : (0 : Int) ≤ (j : Int) := by omega
          have hj1 : (j : Int) < (l.length : Int) := by omega
          clear hown5 hinv5 hik5 hin5 hne5 hst5 hcA hra hva ht hbm hga hsz5
          cases bm with
          | true =>
            have HMEM : Hid (∀ x ∈ l.take (j + 1), x.toNat ∈ td') := fun x hx => by
              rcases HTK.out x hx with h | h
              · exact HIN5.out x h
              · rw [h, Int.toNat_natCast]; exact (HINV5.out.iff tn htn).1 HBM.out.symm
            clear hm5
            go_wp2
            go_roundg (gk - 1)
            case rel => exact ⟨j + 1, td', m', by go_num, hlt5, by omega, HOWN5.out, HM5.out, HINV5.out, HIK5.out, HMEM.out, HR5.out, HGA.out.2, HNE5.out, HST5.out⟩
            case measure => omega
          | false =>
            have HIV : Hid (RInv b (td' ++ [tn]) (m'.set tn true) k) := HINV5.out.push (by have := (List.getElem?_eq_some_iff.1 HIK5.out).1; omega) htn HRCH.out HBM.out.symm
            have HIKN : Hid ((td' ++ [tn])[k]? = some i) := by show _ = _; rw [List.getElem?_append_left (List.getElem?_eq_some_iff.1 HIK5.out).1]; exact HIK5.out
            have HMEM : Hid (∀ x ∈ l.take (j + 1), x.toNat ∈ td' ++ [tn]) := fun x hx => by
              rcases HTK.out x hx with h | h
              · exact List.mem_append_left _ (HIN5.out x h)
              · rw [h, Int.toNat_natCast]; simp
            obtain ⟨w6, hw6⟩ : ∃ w6 : World, w6 = w5.setCell ⟨gm, tn, none⟩ (.bool true) := ⟨_, rfl⟩
            have HM6 : Hid (w6.heap[gm]? = some (boolsO (m'.set tn true))) := by show _ = _; rw [hw6]; exact bools_set true hm5
            have HS6 : Hid (Step (· = gm) w5 w6) := by show Step _ _ _; rw [hw6]; exact (Step.refl (· = gm) _).setCell ⟨gm, tn, none⟩ _ (fun _ => rfl)
            have HOWN6 : Hid (w6.ownsRow (gm + 1) 3 1 (.slice ax5 td'.length cx5) td'.length (natV td')) := owns_keep HS6.out HOWN5.out (fun q hq e => by have := (HOWN5.out.lt q hq).1; omega)
            have HSA : Hid (Step (fun _ => False) w6 (w6.alloc (.cells #[.int .i64 tn] 3))) := (Step.refl _ _).alloc _
            have HROW : Hid (Row (w6.alloc (.cells #[.int .i64 tn] 3)) (w6.heap.size + 1) (.slice (some ⟨w6.heap.size, 0, none⟩) 1 1) 1 (natV [tn])) := Row.new (cs := [.int .i64 tn]) (blk_new _ _) (by decide)
            have HOWNA := Lib.hid (HOWN6.out.alloc (.cells #[.int .i64 tn] 3))
            have HGMB : Hid (gm + 1 ≤ (w6.alloc (.cells #[.int .i64 tn] 3)).heap.size) := by
              have := blk_lt HM6.out
              show _ ≤ _
              simp; omega
            have HW6 := Lib.hid hw6
            clear hm5 hw6
            go_upto_region 14 with fail
            rw [← HW6.out]
            clear hcell hfz f0
            go_wp2_with (at_builtin; refine wpList_append_row _ rfl (w6.heap.size + 1) (.tmp 62) (.tmp 64) 38 rfl (gm + 1) 3 j0 (.int .i64 0) 1 8 Try.underlying38 HJ.out HY0.out HY1.out HY2.out rfl (by decide) _ _ _ rfl HOWNA.out _ 1 _ rfl HROW.out rfl (intsV_one [(tn : Int)]) (by unfold maxLen; omega) (by omega) HGMB.out ?_)
            intro v8 w8 hown8 hgrow8 hat8
            have HS8 : Hid (Step (fun q => q = gm ∨ (Value.slice ax5 td'.length cx5).ownBlock = some q) w5 w8) :=
              (HS6.out.mono (fun _ _ h => .inl h)).trans ((HSA.out.mono (fun _ _ h => h.elim)).trans ((grown_step hgrow8).mono (fun _ _ h => .inr h)))
            have HO8 : Hid (w8.ownsRow (gm + 1) 3 1 v8 (td' ++ [tn]).length (natV (td' ++ [tn]))) := by
              rw [List.length_append, natV_snoc]; exact hown8
            have HM8 : Hid (w8.heap[gm]? = some (boolsO (m'.set tn true))) := grown_keep hgrow8 (HSA.out.keep HM6.out (fun h => h)) (fun q hq e => by have := (HOWNA.out.lt q hq).1; omega)
            have HAT8 : Hid (v8.ownBlock = (Value.slice ax5 td'.length cx5).ownBlock ∨ v8.ownBlock = some (w6.heap.size + 1)) := hat8
            have HSZ6 : Hid (w5.heap.size ≤ w6.heap.size) := HS6.out.size
            have HR8 : Hid (Row w8 w3.heap.size (.slice (some ⟨ga, oa, none⟩) l.length ac) l.length (intsV l)) := HR5.out.keep HS8.out (fun q hq e => by
              obtain ⟨h1, h2⟩ := HNE5.out q hq
              exact e.elim h1 h2)
            have HNE8 : Hid (∀ q, (Value.slice (some ⟨ga, oa, none⟩) l.length ac).ownBlock = some q → q ≠ gm ∧ v8.ownBlock ≠ some q) := by
              show ∀ q, _
              intro q hq
              obtain ⟨h1, h2⟩ := HNE5.out q hq
              refine ⟨h1, fun e => ?_⟩
              rcases HAT8.out with h | h
              · exact h2 (by rw [← h]; exact e)
              · rw [h] at e
                have e1 := Option.some.inj e
                have e2 : ga = q := Option.some.inj hq
                have := HGA.out
                have := HSZ6.out
                omega
            have HST8 : Hid (Step (fun _ => False) w w8) := HST5.out.then HS8.out (fun q hq e => by
              rcases e with e | e
              · have := HGM.out; omega
              · have := (HOWN5.out.lt q e).1; have := HGM.out; omega)
            clear hown8 hgrow8 hat8
            go_wp2
            go_roundg (gk - 1)
            case rel => exact ⟨j + 1, td' ++ [tn], _, by go_num, hlt5, by omega, HO8.out, HM8.out, HIV.out, HIKN.out, HMEM.out, HR8.out, Nat.le_trans HGA.out.2 HS8.out.size, HNE8.out, HST8.out⟩
            case measure => omega
        · obtain rfl : j = l.length := by omega
          have HNX : Hid (RInv b td' m' (k + 1)) := HINV5.out.next HIK5.out (by rw [HL.out]; have := HIN5.out; rw [List.take_length] at this; exact this)
          have hk5 : k + 1 ≤ td'.length := (List.getElem?_eq_some_iff.1 hik5).1
          clear hown5 hm5 hinv5 hik5 hin5 hr5 hsz5 hne5 hst5
          go_wp2
          go_roundg (go1 - 1)
          case rel => exact ⟨k + 1, td', m', by go_num, hk5, by rw [← Nat.sub_sub]; exact Nat.sub_le_sub_right hgg 1, HOWN5.out, HM5.out, HNX.out, HST5.out⟩
          case measure => omega
    · obtain rfl : k = td.length := by omega
      clear hown hm hinv hst
      go_wp2
      go_ret
      refine ⟨⟨gm, m, rfl, by have := HGM.out; omega, HINV.out.len, HM.out, fun i hi => HINV.out.done hi⟩, HST.out⟩

end Go.Proofs.Ytilipeigjkmldaa
