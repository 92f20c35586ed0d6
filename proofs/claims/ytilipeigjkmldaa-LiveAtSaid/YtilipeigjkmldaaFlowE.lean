/- Contracts of package flow: an answer without facts. -/
import Derived.Test.YtilipeigjkmldaaFlowD
import Derived.Deep.RegionLaw
namespace Go.Proofs.Ytilipeigjkmldaa
open Go.RowKit

def setV (W : Nat) (gs : List Nat) : List Value := gs.map (fun (g : Nat) => Value.slice (some ⟨g, 0, none⟩) W W)
theorem setV_one (W : Nat) (gs : List Nat) : ∀ u ∈ setV W gs, u.oneCell' = true := by
  intro u hu
  obtain ⟨g, _, rfl⟩ := List.mem_map.1 hu; rfl
theorem setV_get (W : Nat) (gs : List Nat) (i g : Nat) (h : gs[i]? = some g) : (setV W gs)[i]? = some (.slice (some ⟨g, 0, none⟩) W W) := by simp [setV, h]
/- An answer (flow.Answer) in memory: its own block, its own row, a block of its own for each set. -/
structure Ans (w : World) (base ab W width : Nat) (vs : Value) (gs : List Nat) (sets : List (List Nat)) : Prop where
  blk : w.heap[ab]? = some (.cells #[.int .i64 width, vs] 119 (0, 0))
  own : w.ownsRow base 115 1 vs gs.length (setV W gs)
  len : sets.length = gs.length
  set : ∀ (i g : Nat) (s : List Nat), gs[i]? = some g → sets[i]? = some s → SetB w g s ∧ s.length = W
  new : ∀ g ∈ gs, base ≤ g ∧ vs.ownBlock ≠ some g
  at' : ab < base
  nodup : gs.Nodup
theorem Ans.lt {w : World} {base ab W width : Nat} {vs : Value} {gs : List Nat} {sets : List (List Nat)} (h : Ans w base ab W width vs gs sets) : ∀ g ∈ gs, g < w.heap.size := by
  intro g hg
  obtain ⟨i, hi⟩ := List.getElem?_of_mem hg
  have hlt : i < sets.length := by rw [h.len]; exact (List.getElem?_eq_some_iff.1 hi).1
  exact blk_lt (h.set i g _ hi (List.getElem?_eq_getElem hlt)).1.blk

theorem Ans.snoc {wr w6 W2 : World} {base ab W width k : Nat} {v v6 : Value} {gs : List Nat} (h : Ans wr base ab W width v gs (List.replicate k (List.replicate W 0))) (hgl : gs.length = k) (hb : base ≤ wr.heap.size) (hW2 : Step (fun _ => False) wr W2) (hsz : W2.heap.size = wr.heap.size + 2)
    (hns : W2.heap[wr.heap.size]? = some (.cells (wordV (List.replicate W 0)).toArray 41 (0, 0))) (hown : w6.ownsRow base 115 1 v6 (gs.length + 1) (setV W gs ++ setV W [wr.heap.size])) (hgrow : W2.grownBy w6 v.ownBlock)
    (hat : v6.ownBlock = v.ownBlock ∨ v6.ownBlock = some W2.heap.size) (hab : w6.heap[ab]? = some (.cells #[.int .i64 width, v] 119 (0, 0))) : Ans (w6.setCell ⟨ab, 1, none⟩ v6) base ab W width v6 (gs ++ [wr.heap.size]) (List.replicate (k + 1) (List.replicate W 0)) := by
  have hlt := h.lt
  have hvl : ∀ q, v.ownBlock = some q → base ≤ q ∧ q < wr.heap.size := fun q hq => h.own.lt q hq
  have hkeep : ∀ (q : Nat) (o : Obj), W2.heap[q]? = some o → q ≠ ab → v.ownBlock ≠ some q → (w6.setCell ⟨ab, 1, none⟩ v6).heap[q]? = some o := by
    intro q o ho h1 h2
    rw [Below.heap_setCell _ _ _ _ h1]
    exact grown_keep hgrow ho (fun x hx e => h2 (by rw [hx, e]))
  refine ⟨blk_set hab 1 v6, ?_, by simp [hgl], ?_, ?_, h.at', ?_⟩
  · have := ownsRow_setCell_below hown (a := ⟨ab, 1, none⟩) h.at' v6
    simpa [setV] using this
  · intro i g s hg hs
    rw [List.getElem?_replicate] at hs
    split at hs
    · rename_i hik
      cases hs
      by_cases hi : i < gs.length
      · rw [List.getElem?_append_left hi] at hg
        have hmem := List.mem_of_getElem? hg
        obtain ⟨h1, h2⟩ := h.set i g (List.replicate W 0) hg (by rw [List.getElem?_replicate, if_pos (by omega)])
        exact ⟨⟨hkeep g _ (hW2.keep h1.blk (fun h => h)) (by have := (h.new g hmem).1; have := h.at'; omega) (h.new g hmem).2, h1.ok⟩, h2⟩
      · have hi2 : i = gs.length := by omega
        subst hi2
        rw [List.getElem?_append_right (Nat.le_refl _), Nat.sub_self] at hg
        simp at hg
        subst hg
        exact ⟨⟨hkeep _ _ hns (by have := h.at'; omega) (fun e => by have := (hvl _ e).2; omega), words_zero W⟩, by simp⟩
    · cases hs
  · intro g hg
    rcases List.mem_append.1 hg with hg | hg
    · refine ⟨(h.new g hg).1, fun e => ?_⟩
      have := hlt g hg
      rcases hat with h1 | h1
      · exact (h.new g hg).2 (by rw [← h1, e])
      · rw [h1] at e; have := Option.some.inj e; omega
    · rw [List.mem_singleton.1 hg]
      refine ⟨hb, fun e => ?_⟩
      rcases hat with h1 | h1
      · rw [h1] at e; have := (hvl _ e).2; omega
      · rw [h1] at e; have := Option.some.inj e; omega
  · rw [List.nodup_append]
    refine ⟨h.nodup, by simp, fun x hx y hy e => ?_⟩
    rw [List.mem_singleton.1 hy] at e
    have := hlt x hx
    omega

theorem Try.infoWords : (Try.prog.info? 115).map (fun i => (i.zero, i.size, i.bytes)) = some (some (.slice none 0 0), 1, 24) := by kernel_rfl

set_option maxRecDepth 100000 in
set_option maxHeartbeats 2000000 in
theorem empty_any (B : Nat) (p : Prb) (vs vg vk ve : Value) (w : World) (h : PrbAt w B p vs vg vk ve) (hn : p.succ.length ≤ 1000000) (hw : p.width ≤ 1000000) :
    Calls Try.prog 57 #[.agg #[vs, .int .i64 p.width, vg, vk, ve]] w fun e w' => (∃ base ab v gs, e = .returned (.pointer (some ⟨ab, 0, none⟩)) ∧ w.heap.size ≤ ab ∧ Ans w' base ab ((p.width + 63) / 64) p.width v gs (List.replicate p.succ.length (List.replicate ((p.width + 63) / 64) 0)) ∧ gs.length = p.succ.length) ∧ Step (fun _ => False) w w' := by
  obtain ⟨⟨xs, h1, a, c, rfl, -⟩, ⟨xg, h2, a2, c2, rfl, -⟩, ⟨xk, h3, a3, c3, rfl, -⟩, ⟨a4, c4, rfl, -⟩⟩ := h
  obtain ⟨q, hq⟩ : ∃ q, q = p.width + 63 := ⟨_, rfl⟩
  obtain ⟨W, hW⟩ : ∃ W, W = q / 64 := ⟨_, rfl⟩
  have HQ : Hid ((p.width + 63) / 64 = W) := by show _ = _; rw [hW, hq]
  rw [HQ.out]
  have hWle : W ≤ 1000000 := by omega
  have hmk := run_makeWords W hWle
  have R0 : IntKind.i64.wrap ((p.width : Int) + 63) = (q : Int) := by rw [IntWalk.i64_in _ (by omega)]; omega
  have R1 : IntKind.i64.wrap ((q : Int).tdiv 64) = (W : Int) := val_quo64 q W (by omega) hW
  have R7 : IntKind.i64.wrap (W : Int) = (W : Int) := IntWalk.i64_in _ (by omega)
  obtain ⟨i0, hi0, hz0, hz1, hz2⟩ := info_parts Try.infoWords
  have HI := Lib.hid hi0
  have HZ0 := Lib.hid hz0
  have HZ1 := Lib.hid hz1
  have HZ2 := Lib.hid hz2
  have R8 : IntKind.i64.wrap (q : Int) = (q : Int) := IntWalk.i64_in _ (by omega)
  have R5 : (q : Int) / 64 = (W : Int) := by omega
  have R6 : (p.width : Int) + 63 = (q : Int) := by omega
  obtain ⟨W1, hW1⟩ : ∃ W1 : World, W1 = (w.alloc (.cells #[.slice a p.succ.length c, .int .i64 p.width, .slice a2 p.gen.length c2, .slice a3 p.kill.length c3, .slice a4 p.entry.length c4] 82)).alloc (.cells #[.int .i64 p.width, .slice none 0 0] 119) := ⟨_, rfl⟩
  have ST1 : Step (fun _ => False) w W1 := by rw [hW1]; exact ((Step.refl _ _).alloc _).alloc _
  have HAB : Hid (W1.heap[w.heap.size + 1]? = some (.cells #[.int .i64 p.width, .slice none 0 0] 119 (0, 0))) := by show _ = _; rw [hW1]; exact blk_new2 _ _ _
  have HPB : Hid (W1.heap[w.heap.size]? = some (.cells #[.slice a p.succ.length c, .int .i64 p.width, .slice a2 p.gen.length c2, .slice a3 p.kill.length c3, .slice a4 p.entry.length c4] 82 (0, 0))) := by show _ = _; rw [hW1]; exact blk_alloc (blk_new _ _)
  have HSZ : Hid (W1.heap.size = w.heap.size + 2) := by show _ = _; rw [hW1]; simp
  have HW1 := Lib.hid hW1
  clear h1 h2 h3 hq hW hi0 hz0 hz1 hz2 hW1
  go_enter Try.func57, Try.ntmps57
  go_upto_region 2 with fail
  rw [← HW1.out]
  have b0 := blk_cell HPB.out 0 _ rfl
  go_wp2_with fail
  clear b0
  go_loopg [11] p.succ.length (fun gg s11 wr => ∃ (k : Nat) (v : Value) (gs : List Nat), s11 = .int .i64 k ∧ k ≤ p.succ.length ∧ p.succ.length - k ≤ gg ∧ Ans wr (w.heap.size + 2) (w.heap.size + 1) W p.width v gs (List.replicate k (List.replicate W 0)) ∧ gs.length = k ∧ Step (· = w.heap.size + 1) W1 wr ∧ wr.heap[w.heap.size]? = some (.cells #[.slice a p.succ.length c, .int .i64 p.width, .slice a2 p.gen.length c2, .slice a3 p.kill.length c3, .slice a4 p.entry.length c4] 82 (0, 0)))
  case atStart =>
    exact ⟨0, .slice none 0 0, [], rfl, Nat.zero_le _, by omega, ⟨HAB.out, World.ownsRow_nil _ _ _ _, rfl, (fun i g s h => by simp at h), (fun g h => nomatch h), by omega, List.nodup_nil⟩, rfl, Step.refl _ _, HPB.out⟩
  case round =>
    obtain ⟨k, v, gs, rfl, hk, hgg, hans, hgl, hst, hpb⟩ := hrel
    have HANS := Lib.hid hans
    have HPBR := Lib.hid hpb
    have HGL := Lib.hid hgl
    obtain ⟨ao, co, rfl⟩ := owns_slice hans.own
    have HL : Hid (w.heap.size + 2 ≤ wr.heap.size) := by have := hst.size; have h := HSZ.out; show _ ≤ _; omega
    clear hans hpb hgl
    by_cases hlt : k < p.succ.length
    · have c1 := blk_cell HANS.out.blk 1 _ rfl
      have c0 := blk_cell HPBR.out 1 _ rfl
      have d1 := blk_free HANS.out.blk 1
      have hl := HL.out
      have HW2 : Hid (Step (fun _ => False) wr ((wr.alloc (.cells (wordV (List.replicate W 0)).toArray 41)).alloc (.cells #[.slice (some ⟨wr.heap.size, 0, none⟩) W W] 115)).drew) := (((Step.refl _ _).alloc _).alloc _).drew
      have HOW2 := Lib.hid (HW2.out.owns HANS.out.own (fun _ _ h => h))
      have HROW2 : Hid (Row ((wr.alloc (.cells (wordV (List.replicate W 0)).toArray 41)).alloc (.cells #[.slice (some ⟨wr.heap.size, 0, none⟩) W W] 115)).drew (wr.heap.size + 2) (.slice (some ⟨wr.heap.size + 1, 0, none⟩) 1 1) 1 (setV W [wr.heap.size])) := Row.new (cs := [.slice (some ⟨wr.heap.size, 0, none⟩) W W]) (blk_drew (blk_new2 _ _ _)) (by decide)
      have HNS : Hid (((wr.alloc (.cells (wordV (List.replicate W 0)).toArray 41)).alloc (.cells #[.slice (some ⟨wr.heap.size, 0, none⟩) W W] 115)).drew.heap[wr.heap.size]? = some (.cells (wordV (List.replicate W 0)).toArray 41 (0, 0))) := blk_alloc (blk_new _ _)
      have hgl' : gs.length ≤ 1000000 := by have := HGL.out; omega
      go_wp2
      have c1M := cell_alloc (o := .cells (wordV (List.replicate W 0)).toArray 41) c1
      have c1B := cell_alloc (o := .cells #[.slice (some ⟨wr.heap.size, 0, none⟩) W W] 115) c1M
      go_region_law (first
          | (refine step_append_row _ rfl (wr.heap.size + 2) (.tmp 17) (.tmp 23) 117 rfl (w.heap.size + 2) 115 i0 (.slice none 0 0) 1 24 Try.underlying117 HI.out HZ0.out HZ1.out HZ2.out rfl (by decide) _ _ _ (by simp [Act.eval]) HOW2.out _ 1 _ (by simp [Act.eval]) HROW2.out rfl (setV_one _ _) (by unfold maxLen; omega) (by omega) (by simp; omega) ?_
             intro v6 w6 hown hgrow hat
             obtain ⟨oa6, oc6, rfl⟩ := owns_slice hown
             have hab6 : w6.heap[w.heap.size + 1]? = some (.cells #[.int .i64 p.width, .slice ao gs.length co] 119 (0, 0)) := grown_keep hgrow (HW2.out.keep HANS.out.blk (fun h => h)) (fun k hk e => by have := (HOW2.out.lt k hk).1; omega)
             have hpb6 := grown_keep hgrow (HW2.out.keep HPBR.out (fun h => h)) (fun k hk e => by have := (HOW2.out.lt k hk).1; omega)
             have KP6 := blk_cell hpb6 1 _ rfl
             have c16 := blk_cell hab6 1 _ rfl
             have d16 := blk_free hab6 1
             have HAB6 := Lib.hid hab6
             have HPB6 := Lib.hid hpb6
             have HOWN6 := Lib.hid hown
             have HGROW6 := Lib.hid hgrow
             have HAT6 := Lib.hid hat
             clear hab6 hpb6 hown hgrow hat))
      all_goals (
        have HA7 := Lib.hid (HANS.out.snoc HGL.out HL.out HW2.out (by simp) HNS.out HOWN6.out HGROW6.out HAT6.out HAB6.out)
        have HP7 : Hid ((w6.setCell ⟨w.heap.size + 1, 1, none⟩ (.slice oa6 (gs.length + 1) oc6)).heap[w.heap.size]? = some (.cells #[.slice a p.succ.length c, .int .i64 p.width, .slice a2 p.gen.length c2, .slice a3 p.kill.length c3, .slice a4 p.entry.length c4] 82 (0, 0))) := by
          show _ = _
          rw [Below.heap_setCell _ _ _ _ (by simp)]; exact HPB6.out
        have HS7 : Hid (Step (· = w.heap.size + 1) W1 (w6.setCell ⟨w.heap.size + 1, 1, none⟩ (.slice oa6 (gs.length + 1) oc6))) := by
          have e1 : Step (· = w.heap.size + 1) W1 w6 := (hst.trans (HW2.out.mono (fun _ _ h => h.elim) : Step (· = w.heap.size + 1) _ _)).grown HGROW6.out (fun q hq hlt => by have := (HOW2.out.lt q hq).1; have := HSZ.out; omega)
          exact e1.setCell _ _ (fun _ => rfl)
        clear c1 c0 d1 c1M c1B KP6 c16 d16 hgl' hl
        go_wp2
        go_roundg (gk - 1)
        case rel => exact ⟨k + 1, _, gs ++ [wr.heap.size], by go_num, by omega, by omega, HA7.out, by simp [HGL.out], HS7.out, HP7.out⟩
        case measure => omega)
    · obtain rfl : k = p.succ.length := by omega
      have HSF : Hid (Step (fun _ => False) w wr) := by
        have e1 : Step (· = w.heap.size + 1) w wr := (ST1.mono (fun _ _ h => h.elim) : Step (· = w.heap.size + 1) _ _).trans hst
        exact e1.mono (fun q hq h => by omega)
      go_wp2
      go_ret
      exact ⟨⟨_, _, _, gs, rfl, Nat.le_succ _, HANS.out, HGL.out⟩, HSF.out⟩

end Go.Proofs.Ytilipeigjkmldaa
