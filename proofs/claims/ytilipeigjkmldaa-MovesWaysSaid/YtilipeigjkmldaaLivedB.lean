/- Contract of chattellaw20.lived: it answers true. -/
import Derived.Test.YtilipeigjkmldaaBodyA
import Derived.Test.YtilipeigjkmldaaAt
import Derived.Test.YtilipeigjkmldaaCoreA
namespace Go.Proofs.Ytilipeigjkmldaa
open Go.RowKit

def livedB : Bod := ⟨⟨#[]⟩, 0, 2, [copyI 1 [] 10, copyI 0 [⟨2, ⟨1, []⟩, 0, 0⟩] 1, retIns]⟩
theorem livedB_ok : bodOk livedB := by
  refine ⟨by decide, fun i hi => ?_⟩
  rcases (show i = 0 ∨ i = 1 ∨ i = 2 by simp [livedB] at hi; omega) with rfl | rfl | rfl <;> decide
theorem livedB_small : BodSmall livedB := by
  refine ⟨by decide, fun i x hx => ?_⟩
  have hm : x ∈ livedB.code := List.mem_of_getElem? hx
  simp [livedB] at hm
  rcases hm with rfl | rfl | rfl <;> decide
theorem livedB_prb : prbB livedB = ⟨[[1], [2], []], 2, [[], [1], [0]], [[1], [0], [1]], []⟩ := by rfl
def livedP (i x : Nat) : Bool := (decide (i = 1) && decide (x = 1)) || (decide (i = 2) && decide (x = 0))
theorem livedB_live (i x : Nat) (hi : i < 3) : LiveB livedB i x ↔ livedP i x = true := by
  unfold LiveB
  rw [livedB_prb]
  constructor
  · intro h
    refine Back.least (n := 3) (fun i x => livedP i x = true) ?_ ?_ ?_ h hi
    · intro i t hi ht
      rcases (show i = 0 ∨ i = 1 ∨ i = 2 by omega) with rfl | rfl | rfl <;> simp [pSucc] at ht <;> omega
    · intro i e hi hg
      rcases (show i = 0 ∨ i = 1 ∨ i = 2 by omega) with rfl | rfl | rfl <;> simp [pGen] at hg <;> simp [livedP, hg]
    · intro i e t hi hk ht hs
      rcases (show i = 0 ∨ i = 1 ∨ i = 2 by omega) with rfl | rfl | rfl <;> simp [pSucc] at ht <;> simp [pKill] at hk <;> subst ht <;> simp [livedP] at hs ⊢ <;> omega
  · intro h
    simp only [livedP, Bool.or_eq_true, Bool.and_eq_true, decide_eq_true_eq] at h
    rcases h with ⟨rfl, rfl⟩ | ⟨rfl, rfl⟩
    · exact Back.gen (by simp [pGen])
    · exact Back.gen (by simp [pGen])
theorem livedB_list (p : Nat → Nat → Bool) (h : ∀ i x, i < livedB.code.length → (p i x = true ↔ LiveB livedB i x)) : liveL livedB p = [[], [1], [0]] := by
  have e : liveL livedB p = liveL livedB livedP := by
    refine liveL_congr (fun i x hi _ => ?_)
    have h1 := h i x hi
    rw [livedB_live i x hi] at h1
    cases hp : p i x <;> cases hq : livedP i x <;> simp_all
  rw [e]; rfl

/- What has come up so far in the statement that makes the body. -/
def LocV (X : World) (v : Value) : Prop := ∃ gl, v = .slice (some ⟨gl, 0, none⟩) 2 2 ∧ gl < X.heap.size
def CodeV (X : World) (v : Value) : Prop := ∃ gc xs, v = .slice (some ⟨gc, 0, none⟩) 3 3 ∧ X.heap[gc]? = some (.cells xs.toArray 57 (0, 0)) ∧ Each (InAt X X.heap.size) livedB.code xs
def InsV (X : World) (v : Value) : Prop := ∃ cs, v = .agg cs.toArray ∧ InAt X X.heap.size (copyI 0 [⟨2, ⟨1, []⟩, 0, 0⟩] 1) cs
def BodV (X : World) (v : Value) : Prop := ∃ g vl vc, v = .pointer (some ⟨g, 0, none⟩) ∧ X.heap[g]? = some (.cells #[.string ⟨#[]⟩, .int .i64 0, vl, vc] 29 (0, 0)) ∧ LocV X vl ∧ CodeV X vc
structure LivedJ (w0 : World) (L : Nat → Bool) (V : Nat → Value) (X : World) : Prop where
  st : Step (fun _ => False) w0 X
  p0 : L 0 = true → LocV X (V 0)
  p1 : L 1 = true → V 1 = .agg (insCells 3 0 1 (.slice none 0 0) 10 (.slice none 0 0) 0 (.slice none 0 0) false 0 0 0 (.slice none 0 0) 0 0 0 0).toArray
  p2 : L 2 = true → InsV X (V 2)
  p3 : L 3 = true → V 3 = .agg (insCells 6 0 0 (.slice none 0 0) 0 (.slice none 0 0) 0 (.slice none 0 0) false 0 0 0 (.slice none 0 0) 0 0 0 0).toArray
  p4 : L 4 = true → CodeV X (V 4)
  p5 : L 5 = true → ∃ vl vc, V 5 = .agg #[.string ⟨#[]⟩, .int .i64 0, vl, vc] ∧ LocV X vl ∧ CodeV X vc
  p6 : L 6 = true → BodV X (V 6)
  p7 : L 7 = true → BodV X (V 7)
section
variable {X X' : World} {v : Value}
theorem LocV.step (h : LocV X v) (hs : Step (fun _ => False) X X') : LocV X' v := by
  obtain ⟨g, h1, h2⟩ := h; exact ⟨g, h1, Nat.lt_of_lt_of_le h2 hs.size⟩
theorem CodeV.step (h : CodeV X v) (hs : Step (fun _ => False) X X') : CodeV X' v := by
  obtain ⟨g, xs, h1, h2, h3⟩ := h
  exact ⟨g, xs, h1, hs.keep h2 (fun h => h), Each.mono (fun t cs ht => InAt.mono hs.size _ _ (InAt.step hs (fun _ _ h => h) t cs ht)) _ _ h3⟩
theorem InsV.step (h : InsV X v) (hs : Step (fun _ => False) X X') : InsV X' v := by
  obtain ⟨cs, h1, h2⟩ := h
  exact ⟨cs, h1, InAt.mono hs.size _ _ (InAt.step hs (fun _ _ h => h) _ _ h2)⟩
theorem BodV.step (h : BodV X v) (hs : Step (fun _ => False) X X') : BodV X' v := by
  obtain ⟨g, vl, vc, h1, h2, h3, h4⟩ := h
  exact ⟨g, vl, vc, h1, hs.keep h2 (fun h => h), h3.step hs, h4.step hs⟩
theorem LivedJ.step {w0 : World} {L : Nat → Bool} {V : Nat → Value} (h : LivedJ w0 L V X) (hs : Step (fun _ => False) X X') : LivedJ w0 L V X' :=
  { h with
    st := h.st.trans hs
    p0 := fun e => (h.p0 e).step hs
    p2 := fun e => (h.p2 e).step hs
    p4 := fun e => (h.p4 e).step hs
    p5 := fun e => let ⟨vl, vc, h1, h2, h3⟩ := h.p5 e; ⟨vl, vc, h1, h2.step hs, h3.step hs⟩
    p6 := fun e => (h.p6 e).step hs
    p7 := fun e => (h.p7 e).step hs }
theorem BodV.bodp (h : BodV X v) : ∃ g, v = .pointer (some ⟨g, 0, none⟩) ∧ BodP X X.heap.size g livedB := by
  obtain ⟨g, vl, vc, h1, h2, ⟨gl, rfl, h3⟩, ⟨gc, xs, rfl, h4, h5⟩⟩ := h
  refine ⟨g, h1, blk_lt h2, blk_lt h2, _, ⟨.slice (some ⟨gl, 0, none⟩) 2 2, .slice (some ⟨gc, 0, none⟩) 3 3, [], xs, rfl, ?_, h5, (Row.new h4 (by decide)).mono (blk_lt h4)⟩, fun i x hx => blk_cell h2 i x (by simpa [livedB] using hx)⟩
  exact ⟨_, 2, rfl, Nat.le_refl _, by decide, (fun h => nomatch h), fun _ => ⟨gl, 0, rfl, h3, h3, fun i x hx => by simp at hx⟩⟩
end

set_option maxRecDepth 100000 in
set_option maxHeartbeats 4000000 in
theorem lived_any (w : World) : Calls Try.prog 11 #[] w fun e w' => e = .returned (.bool true) ∧ Step (fun _ => False) w w' := by
  obtain ⟨lc, HLC⟩ := make_locals 2 2 rfl (by decide)
  have HLCH := Lib.hid HLC
  obtain ⟨i0, hi0, hz0, hz1, hz2⟩ := info_parts Try.infoIns
  have HI := Lib.hid hi0
  have HZ0 := Lib.hid hz0
  have HZ1 := Lib.hid hz1
  clear hi0 hz0 hz1 hz2 HLC
  go_enter Try.func11, Try.ntmps11
  go_upto_region 1 with fail
  go_cut [1] (fun s1 wx => ∃ g, s1 = .pointer (some ⟨g, 0, none⟩) ∧ BodP wx wx.heap.size g livedB ∧ Step (fun _ => False) w wx)
  case first =>
    refine wp_region_rely (by kernel_rfl) (LivedJ w) 8 rfl (by kernel_rfl) (by kernel_rfl) (by kernel_rfl) (by kernel_rfl) ?h0 ?hs ?hdone
    case h0 => exact ⟨(Step.refl _ _).drew, (fun h => nomatch h), (fun h => nomatch h), (fun h => nomatch h), (fun h => nomatch h), (fun h => nomatch h), (fun h => nomatch h), (fun h => nomatch h), (fun h => nomatch h)⟩
    case hs =>
      refine ⟨?_, ?_, ?_, ?_, ?_, ?_, ?_, ?_, trivial⟩
      · intro L V X a ev evo hL hdep hJ
        have HLC := HLCH.out
        go_simp
        exact ⟨_, rfl, { hJ.step ((Step.refl _ _).alloc _) with p0 := fun _ => ⟨X.heap.size, rfl, by simp⟩ }⟩
      · intro L V X a ev evo hL hdep hJ
        go_simp
        refine (copied_no 1 X).mono ?_
        rintro e w1 ⟨rfl, h1⟩
        exact ⟨_, rfl, { hJ.step h1 with p1 := fun _ => rfl }⟩
      · intro L V X a ev evo hL hdep hJ
        go_simp
        refine (copied_yes X).mono ?_
        rintro e w1 ⟨cs, rfl, hin, h1⟩
        exact ⟨_, rfl, { hJ.step h1 with p2 := fun _ => ⟨cs, rfl, hin⟩ }⟩
      · intro L V X a ev evo hL hdep hJ
        go_simp
        exact ⟨_, rfl, { hJ with p3 := fun _ => rfl }⟩
      · intro L V X a ev evo hL hdep hJ
        have e1 := (ev 1 5 rfl (hdep 1 rfl)).trans (hJ.p1 (hdep 1 rfl))
        obtain ⟨cs, hv2, hin⟩ := hJ.p2 (hdep 2 rfl)
        have e2 := (ev 2 6 rfl (hdep 2 rfl)).trans hv2
        have e3 := (ev 3 7 rfl (hdep 3 rfl)).trans (hJ.p3 (hdep 3 rfl))
        have hl := InAt.len _ _ hin
        refine wp_slice_many 27 3 _ rfl 57 i0 _ [insCells 3 0 1 (.slice none 0 0) 10 (.slice none 0 0) 0 (.slice none 0 0) false 0 0 0 (.slice none 0 0) 0 0 0 0, cs, insCells 6 0 0 (.slice none 0 0) 0 (.slice none 0 0) 0 (.slice none 0 0) false 0 0 0 (.slice none 0 0) 0 0 0 0] 21 rfl ?_ Try.underlying27 HI.out HZ0.out HZ1.out ?_ (by simp) (by simp) ?_
        · simp [evalTmp, e1, e2, e3]
        · intro vs hvs
          simp at hvs
          rcases hvs with rfl | rfl | rfl
          · rfl
          · exact hl
          · rfl
        · have hs : Step (fun _ => False) X (X.alloc (.cells ([insCells 3 0 1 (.slice none 0 0) 10 (.slice none 0 0) 0 (.slice none 0 0) false 0 0 0 (.slice none 0 0) 0 0 0 0, cs, insCells 6 0 0 (.slice none 0 0) 0 (.slice none 0 0) 0 (.slice none 0 0) false 0 0 0 (.slice none 0 0) 0 0 0 0] : List (List Value)).flatten.toArray 57)) := (Step.refl _ _).alloc _
          refine ⟨_, rfl, { hJ.step hs with p4 := fun _ => ⟨X.heap.size, _, rfl, blk_new _ _, ?_⟩ }⟩
          have hin2 := InAt.mono hs.size _ _ (InAt.step hs (fun _ _ h => h) _ _ hin)
          rw [livedB]
          simp only [List.flatten_cons, List.flatten_nil]
          rw [Each]
          refine ⟨_, _, rfl, copyI_at 1 10 [] _ [] Each.nil (Row.nil _ _ _), ?_⟩
          rw [Each]
          refine ⟨_, _, rfl, hin2, ?_⟩
          rw [Each]
          exact ⟨_, _, rfl, insAt (Row.nil _ _ _) Each.nil (Row.nil _ _ _) (Row.nil _ _ _) (Row.nil _ _ _), Each.nil⟩
      · intro L V X a ev evo hL hdep hJ
        obtain ⟨gl, hv0, hgl⟩ := hJ.p0 (hdep 0 rfl)
        have h4 := hJ.p4 (hdep 4 rfl)
        obtain ⟨gc, xs, hv4, hb4, hx4⟩ := h4
        have e0 := (ev 0 4 rfl (hdep 0 rfl)).trans hv0
        have e4 := (ev 4 8 rfl (hdep 4 rfl)).trans hv4
        go_simp
        exact ⟨_, rfl, { hJ with p5 := fun _ => ⟨_, _, rfl, ⟨gl, rfl, hgl⟩, ⟨gc, xs, rfl, hb4, hx4⟩⟩ }⟩
      · intro L V X a ev evo hL hdep hJ
        obtain ⟨vl, vc, hv5, hl5, hc5⟩ := hJ.p5 (hdep 5 rfl)
        have e5 := (ev 5 9 rfl (hdep 5 rfl)).trans hv5
        obtain ⟨gl, rfl, hgl⟩ := hl5
        obtain ⟨gc, xs, rfl, hb4, hx4⟩ := hc5
        have hl5 : LocV X (.slice (some ⟨gl, 0, none⟩) 2 2) := ⟨gl, rfl, hgl⟩
        have hc5 : CodeV X (.slice (some ⟨gc, 0, none⟩) 3 3) := ⟨gc, xs, rfl, hb4, hx4⟩
        go_simp
        have hs : ∀ o, Step (fun _ => False) X (X.alloc o) := fun o => (Step.refl _ _).alloc _
        exact ⟨_, rfl, { hJ.step (hs _) with p6 := fun _ => ⟨X.heap.size, _, _, rfl, blk_new _ _, hl5.step (hs _), hc5.step (hs _)⟩ }⟩
      · intro L V X a ev evo hL hdep hJ
        have h6 := hJ.p6 (hdep 6 rfl)
        obtain ⟨g, vl, vc, hv6, -⟩ := id h6
        have e6 := (ev 6 10 rfl (hdep 6 rfl)).trans hv6
        rw [hv6] at h6
        go_simp
        exact ⟨_, rfl, { hJ with p7 := fun _ => h6 }⟩
    case hdone =>
      intro L V X hall hJ
      obtain ⟨g, hv, hb⟩ := (hJ.p7 (hall 7 (by decide))).bodp
      rw [show List.range 8 = [0, 1, 2, 3, 4, 5, 6, 7] from rfl]
      simp only [putF, dstO, List.getElem?_toArray, List.getElem?_cons_zero, List.getElem?_cons_succ, Option.bind_some, Act.put, List.setIfInBounds_toArray, List.set_cons_zero, List.set_cons_succ]
      go_wp2_with fail
      go_meet
      case rel => exact ⟨g, by first | exact hv | rfl, hb, hJ.st⟩
  case rest =>
    obtain ⟨w1, rfl⟩ : ∃ w1 : World, w1 = wc := ⟨_, rfl⟩
    obtain ⟨g, rfl, hb, hst⟩ := hcut
    go_wp2_with fail
    refine (at_any w1.heap.size g livedB w1 hb livedB_small (Nat.le_refl _) livedB_ok (by decide) (by decide)).mono ?_
    rintro e w2 ⟨⟨v, p, rfl, hr, hp⟩, h2⟩
    rw [livedB_list p hp] at hr
    have HST := Lib.hid (hst.trans h2)
    obtain ⟨xs, hx, hrow⟩ := hr
    rw [Each] at hx
    obtain ⟨c1, r1, rfl, ⟨v1, rfl, hr1⟩, hx⟩ := hx
    rw [Each] at hx
    obtain ⟨c2, r2, rfl, ⟨v2, rfl, hr2⟩, hx⟩ := hx
    rw [Each] at hx
    obtain ⟨c3, r3, rfl, ⟨v3, rfl, hr3⟩, hx⟩ := hx
    rw [Each] at hx
    subst hx
    obtain ⟨ao, co, rfl, hco, -, -, hcell⟩ := hrow
    obtain ⟨go, oo, rfl, -, -, hcell⟩ := hcell (by decide)
    have d1 := hcell 0 _ rfl
    have d2 := hcell 1 _ rfl
    have d3 := hcell 2 _ rfl
    rw [Nat.add_zero] at d1
    have HR2 := Lib.hid hr2
    have HR3 := Lib.hid hr3
    obtain ⟨a1, n1, rfl, -⟩ := hr1
    obtain ⟨a2, n2, rfl, -⟩ := hr2
    obtain ⟨a3, n3, rfl, -⟩ := hr3
    clear hcell hb hst h2 hco hp
    go_wp2_with fail
    have STA : Step (fun _ => False) w2 (w2.alloc (.cells #[.int .i64 1] 3)) := (Step.refl _ _).alloc _
    refine (ints_any [1] _ _ _ _ _ (HR2.out.step STA (fun _ _ h => h)) (Row.new (cs := intsV [1]) (blk_new w2 (.cells #[.int .i64 1] 3)) (by decide))).mono ?_
    rintro e w3 ⟨rfl, h3⟩
    have ST3 := STA.trans h3
    have d3' := ST3.cell d3 (fun h => h)
    go_wp2_with fail
    have STB : Step (fun _ => False) w2 (w3.alloc (.cells #[.int .i64 0] 3)) := ST3.alloc _
    refine (ints_any [0] _ _ _ _ _ (HR3.out.step STB (fun _ _ h => h)) (Row.new (cs := intsV [0]) (blk_new w3 (.cells #[.int .i64 0] 3)) (by decide))).mono ?_
    rintro e w4 ⟨rfl, h4⟩
    go_wp2_with fail
    go_ret
    exact ⟨rfl, (HST.out.trans STB).trans h4⟩

end Go.Proofs.Ytilipeigjkmldaa
