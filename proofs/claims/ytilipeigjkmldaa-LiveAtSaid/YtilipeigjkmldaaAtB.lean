/- Contracts of live.At: of a body that may be: lists of what is live; of one that may not be: an error. -/
import Derived.Test.YtilipeigjkmldaaAtA
import Derived.Test.YtilipeigjkmldaaSliceOne
namespace Go.Proofs.Ytilipeigjkmldaa
open Go.RowKit

def AtPost (b : Bod) (w : World) (e : Ending) (w' : World) : Prop :=
  (∃ v p, e = .returned (.tuple #[v, .int .i64 0]) ∧ Rows2 w' w'.heap.size v (liveL b p) ∧ ∀ i x, i < b.code.length → (p i x = true ↔ LiveB b i x)) ∧ Step (fun _ => False) w w'

set_option maxRecDepth 100000 in
set_option maxHeartbeats 4000000 in
theorem at_any (B g : Nat) (b : Bod) (w : World) (h : BodP w B g b) (hs : BodSmall b) (hB : B ≤ w.heap.size) (hok : bodOk b) (hn : b.code.length ≤ 1201) (hl : b.locals ≤ 4000) :
    Calls Try.prog 13 #[.pointer (some ⟨g, 0, none⟩)] w (AtPost b w) := by
  have HBOD := Lib.hid h
  have HSM := Lib.hid hs
  have HOK := Lib.hid hok
  have HCK : Hid (chkF b = -1) := chkF_ok hok.1 hok.2
  obtain ⟨i0, hi0, hz0, hz1, hz2⟩ := info_parts Try.infoIntsL
  have HI := Lib.hid hi0
  have HZ0 := Lib.hid hz0
  have HZ1 := Lib.hid hz1
  have HZ2 := Lib.hid hz2
  clear hi0 hz0 hz1 hz2 h hs hok
  go_enter Try.func13, Try.ntmps13
  go_wp2_with fail
  refine (check_any B g b w HBOD.out).mono ?_
  rintro e w1 ⟨rfl, h1⟩
  rw [HCK.out]
  have HS1 := Lib.hid h1
  have HBO1 := Lib.hid (HBOD.out.step h1 (fun _ _ h => h))
  clear h1
  go_wp2_with fail
  refine (problem_any B g b w1 HBO1.out HSM.out (Nat.le_trans hB HS1.out.size) (by omega)).mono ?_
  rintro e w2 ⟨⟨vs, vg, vk, rfl, hr1, hr2, hr3⟩, h2⟩
  have HPA := Lib.hid (HOK.out.prb hr1 hr2 hr3)
  have HS2 := Lib.hid (HS1.out.trans h2)
  clear hr1 hr2 hr3 h2
  go_wp2_with fail
  refine (backward_any w2.heap.size (prbB b) vs vg vk _ w2 HPA.out (HOK.out.full hn hl) (Nat.le_refl _)).mono ?_
  rintro e w3 ⟨⟨base, ab, W, v, gs, sets, rfl, hW, hans, hlen, hbit⟩, h3⟩
  have HW := Lib.hid hW
  have HANS := Lib.hid hans
  have HLEN : Hid (sets.length = b.code.length) := by show _ = _; rw [hlen]; simp [prbB, succsB]
  have HBIT : Hid (∀ i x, i < b.code.length → (bit (sets.getD i []) x = true ↔ LiveB b i x)) := by
    show ∀ i x, _
    intro i x hi
    exact hbit i x (by simpa [prbB, succsB] using hi)
  have HS3 := Lib.hid (HS2.out.trans h3)
  obtain ⟨-, -, ca, cc, hca, -⟩ := (HBOD.out.step HS3.out (fun _ _ h => h)).parts
  obtain ⟨pl, hpl⟩ : ∃ pl, pl = liveL b (fun i x => bit (sets.getD i []) x) := ⟨_, rfl⟩
  have HPL := Lib.hid hpl
  clear hW hans hlen hbit h3 hpl
  go_wp2_with fail
  clear hca
  go_loopg [6, 25] b.code.length (fun gg s6 s25 wr => ∃ (k : Nat) (lk : List (List Int)) (G : Nat → Bool) (xk : List Value), s25 = .int .i64 k ∧ k ≤ b.code.length ∧ b.code.length - k ≤ gg ∧ lk = pl.take k ∧ Grows IntsAt 38 1 w3.heap.size G wr lk s6 xk ∧ upG G wr ∧ (∀ q, q < w3.heap.size → G q = true) ∧ Step (fun _ => False) w3 wr)
  case atStart => exact ⟨0, [], fun q => decide (q < w3.heap.size), [], rfl, Nat.zero_le _, by omega, rfl, Grows.nil _ _ _ _ _ _, upG.low, fun q hq => decide_eq_true hq, Step.refl _ _⟩
  case round =>
    obtain ⟨k, lk, G, xk, rfl, hk, hgg, hlk, hgr, hup, hlow, hst⟩ := hrel
    have HLK := Lib.hid hlk
    have HGR := Lib.hid hgr
    have HUP := Lib.hid hup
    have HLOW := Lib.hid hlow
    have HST := Lib.hid hst
    have hll : lk.length ≤ 1201 := by rw [hlk, List.length_take]; omega
    obtain ⟨ao, co, rfl⟩ := owns_slice hgr.own
    clear hlk hgr hup hlow hst
    by_cases hlt : k < b.code.length
    · obtain ⟨s, hs⟩ : ∃ s, sets[k]? = some s := ⟨_, List.getElem?_eq_getElem (by rw [HLEN.out]; exact hlt)⟩
      have HLI := Lib.hid (alist_any base ab W b.locals k v gs sets s wr (HANS.out.step HST.out) hs HW.out (by omega))
      obtain ⟨fl, hfl⟩ : ∃ fl, fl = factsL b.locals s := ⟨_, rfl⟩
      have HT : Hid (pl.take (k + 1) = pl.take k ++ [ints fl]) := by
        show _ = _
        rw [HPL.out, hfl]
        have e1 : sets.getD k [] = s := by rw [List.getD_eq_getElem?_getD, hs]; rfl
        have := map_take_succ (fun i => ints ((List.range b.locals).filter (fun x => bit (sets.getD i []) x))) b.code.length k hlt
        rw [e1] at this
        exact this
      rw [← hfl] at HLI
      clear hs hfl
      go_wp2_with fail
      refine HLI.out.mono ?_
      rintro e w5 ⟨⟨u, rfl, hou⟩, h5⟩
      obtain ⟨au, cu, rfl⟩ := owns_slice hou
      have ST6 : Step (fun _ => False) wr (w5.alloc (.cells #[.slice au fl.length cu] 38)) := h5.alloc _
      have HST6 := Lib.hid ST6
      have HGR6 := Lib.hid (HGR.out.keep IntsAt.stays ST6 (fun _ _ h => h.elim) (fun _ _ => rfl) (fun _ _ h => h))
      have HROW : Hid (Row (w5.alloc (.cells #[.slice au fl.length cu] 38)) (w5.heap.size + 1) (.slice (some ⟨w5.heap.size, 0, none⟩) 1 1) 1 [.slice au fl.length cu]) := Row.new (cs := [.slice au fl.length cu]) (blk_new _ _) (by decide)
      have HEL : Hid (IntsAt (veil G (w5.alloc (.cells #[.slice au fl.length cu] 38))) (w5.alloc (.cells #[.slice au fl.length cu] 38)).heap.size (ints fl) [.slice au fl.length cu]) := by
        have h1 : Row (veil G (w5.alloc (.cells #[.slice au fl.length cu] 38))) (w5.alloc (.cells #[.slice au fl.length cu] 38)).heap.size (.slice au fl.length cu) fl.length (natV fl) := Row.owns_veil (hou.alloc _) (Nat.le_refl _) (fun q hq => HUP.out q hq)
        refine ⟨_, rfl, ?_⟩
        have e : (ints fl).length = fl.length := by simp [ints]
        rw [e]; exact h1
      have HBS : Hid (w3.heap.size ≤ (w5.alloc (.cells #[.slice au fl.length cu] 38)).heap.size) := Nat.le_trans HST.out.size ST6.size
      have HO : Hid (∀ u ∈ [Value.slice au fl.length cu], u.oneCell' = true) := fun u hu => by rw [List.mem_singleton.1 hu]; rfl
      clear hou h5 ST6
      go_wp2_with (at_builtin; refine wpList_append_row _ rfl (w5.heap.size + 1) (.tmp 28) (.tmp 32) 31 rfl w3.heap.size 38 i0 _ 1 24 Try.underlying31 HI.out HZ0.out HZ1.out HZ2.out rfl (by decide) _ _ _ rfl HGR6.out.own _ 1 _ rfl HROW.out rfl HO.out (by unfold maxLen; omega) (by omega) HBS.out ?_)
      intro v8 w8 hown8 hgrow8 hat8
      have HGR8 := Lib.hid (HGR6.out.snoc IntsAt.stays HEL.out hown8 hgrow8 (by simpa using hat8))
      have HUP8 : Hid (upG (addG G v8) w8) := (HUP.out.mono HST6.out.size).add (grown_step hgrow8).size hown8
      have HST8 : Hid (Step (fun _ => False) w3 w8) := (HST.out.trans HST6.out).then (grown_step hgrow8) (fun q hq e => by have := (HGR6.out.own.lt q e).1; omega)
      clear hown8 hgrow8 hat8
      go_wp2_with fail
      go_roundg (gk - 1)
      case rel => exact ⟨k + 1, lk ++ [ints fl], addG G v8, _, by go_num, hlt, by rw [← Nat.sub_sub]; exact Nat.sub_le_sub_right hgg 1, by rw [HT.out, HLK.out], HGR8.out, HUP8.out, (fun q hq => by simp [addG, HLOW.out q hq]), HST8.out⟩
      case measure => omega
    · obtain rfl : k = b.code.length := by omega
      have HF : Hid (lk = pl) := by show _ = _; rw [HLK.out]; exact List.take_of_length_le (by rw [HPL.out, liveL_len]; omega)
      go_wp2_with fail
      go_ret2
      refine ⟨⟨_, fun i x => bit (sets.getD i []) x, rfl, ?_, HBIT.out⟩, HS3.out.trans HST.out⟩
      rw [← HPL.out, ← HF.out]
      exact HGR.out.rows2

set_option maxRecDepth 100000 in
set_option maxHeartbeats 1000000 in
theorem at_bad (B g : Nat) (b : Bod) (w : World) (h : BodP w B g b) (hc : chkF b ≠ -1) :
    Calls Try.prog 13 #[.pointer (some ⟨g, 0, none⟩)] w fun e w' => e = .returned (.tuple #[.slice none 0 0, .int .i64 14]) ∧ Step (fun _ => False) w w' := by
  have HBOD := Lib.hid h
  have e1 : (chkF b != -1) = true := by simpa using hc
  clear h
  go_enter Try.func13, Try.ntmps13
  go_wp2_with fail
  refine (check_any B g b w HBOD.out).mono ?_
  rintro e w1 ⟨rfl, h1⟩
  go_wp2_with fail
  go_ret2
  exact ⟨rfl, h1⟩

set_option maxRecDepth 100000 in
set_option maxHeartbeats 1000000 in
theorem at_nil (w : World) :
    Calls Try.prog 13 #[.pointer none] w fun e w' => e = .returned (.tuple #[.slice none 0 0, .int .i64 14]) ∧ Step (fun _ => False) w w' := by
  go_enter Try.func13, Try.ntmps13
  go_wp2_with fail
  refine (check_nil w).mono ?_
  rintro e w1 ⟨rfl, h1⟩
  go_wp2_with fail
  go_ret2
  exact ⟨rfl, h1⟩

end Go.Proofs.Ytilipeigjkmldaa
