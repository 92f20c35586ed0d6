/- Contracts of package flow: an answer without facts. / Contracts of package flow: Has, List. / What goes back along a graph, as sets of bits: plain. -/
import Derived.Test.YtilipeigjkmldaaFlowD
import Derived.Deep.RegionLaw
namespace Go.Proofs.Ytilipeigjkmldaa
open Go.RowKit

def setV (W : Nat) (gs : List Nat) : List Value := gs.map (fun (g : Nat) => Value.slice (some ⟨g, 0, none⟩) W W)
theorem setV_one (W : Nat) (gs : List Nat) : ∀ u ∈ setV W gs, u.oneCell' = true := by
  intro u hu
  obtain ⟨g, _, rfl⟩ := List.mem_map.1 hu; rfl
theorem setV_get (W : Nat) (gs : List Nat) (i g : Nat) (h : gs[i]? = some g) : (setV W gs)[i]? = some (.slice (some ⟨g, 0, none⟩) W W) := by simp [setV, h]
/- An answer (flow.Answer) in memory: its own block, its own row, a block of its own for each set. -/
structure Ans (w : World) (base ab W width : Nat) (vs : Value) (gs : List Nat) (sets : List (List Nat)) : Prop where
  blk : w.heap[ab]? = some (.cells #[.int .i64 width, vs] 119 (0, 0))
  own : w.ownsRow base 115 1 vs gs.length (setV W gs)
  len : sets.length = gs.length
  set : ∀ (i g : Nat) (s : List Nat), gs[i]? = some g → sets[i]? = some s → SetB w g s ∧ s.length = W
  new : ∀ g ∈ gs, base ≤ g ∧ vs.ownBlock ≠ some g
  at' : ab < base
  nodup : gs.Nodup
theorem Ans.lt {w : World} {base ab W width : Nat} {vs : Value} {gs : List Nat} {sets : List (List Nat)} (h : Ans w base ab W width vs gs sets) : ∀ g ∈ gs, g < w.heap.size := by
  intro g hg
  obtain ⟨i, hi⟩ := List.getElem?_of_mem hg
  have hlt : i < sets.length := by rw [h.len]; exact (List.getElem?_eq_some_iff.1 hi).1
  exact blk_lt (h.set i g _ hi (List.getElem?_eq_getElem hlt)).1.blk

theorem Ans.snoc {wr w6 W2 : World} {base ab W width k : Nat} {v v6 : Value} {gs : List Nat} (h : Ans wr base ab W width v gs (List.replicate k (List.replicate W 0))) (hgl : gs.length = k) (hb : base ≤ wr.heap.size) (hW2 : Step (fun _ => False) wr W2) (hsz : W2.heap.size = wr.heap.size + 2)
    (hns : W2.heap[wr.heap.size]? = some (.cells (wordV (List.replicate W 0)).toArray 41 (0, 0))) (hown : w6.ownsRow base 115 1 v6 (gs.length + 1) (setV W gs ++ setV W [wr.heap.size])) (hgrow : W2.grownBy w6 v.ownBlock)
    (hat : v6.ownBlock = v.ownBlock ∨ v6.ownBlock = some W2.heap.size) (hab : w6.heap[ab]? = some (.cells #[.int .i64 width, v] 119 (0, 0))) : Ans (w6.setCell ⟨ab, 1, none⟩ v6) base ab W width v6 (gs ++ [wr.heap.size]) (List.replicate (k + 1) (List.replicate W 0)) := by
  have hlt := h.lt
  have hvl : ∀ q, v.ownBlock = some q → base ≤ q ∧ q < wr.heap.size := fun q hq => h.own.lt q hq
  have hkeep : ∀ (q : Nat) (o : Obj), W2.heap[q]? = some o → q ≠ ab → v.ownBlock ≠ some q → (w6.setCell ⟨ab, 1, none⟩ v6).heap[q]? = some o := by
    intro q o ho h1 h2
    rw [Below.heap_setCell _ _ _ _ h1]
    exact grown_keep hgrow ho (fun x hx e => h2 (by rw [hx, e]))
  refine ⟨blk_set hab 1 v6, ?_, by simp [hgl], ?_, ?_, h.at', ?_⟩
  · have := ownsRow_setCell_below hown (a := ⟨ab, 1, none⟩) h.at' v6
    simpa [setV] using this
  · intro i g s hg hs
    rw [List.getElem?_replicate] at hs
    split at hs
    · rename_i hik
      cases hs
      by_cases hi : i < gs.length
      · rw [List.getElem?_append_left hi] at hg
        have hmem := List.mem_of_getElem? hg
        obtain ⟨h1, h2⟩ := h.set i g (List.replicate W 0) hg (by rw [List.getElem?_replicate, if_pos (by omega)])
        exact ⟨⟨hkeep g _ (hW2.keep h1.blk (fun h => h)) (by have := (h.new g hmem).1; have := h.at'; omega) (h.new g hmem).2, h1.ok⟩, h2⟩
      · have hi2 : i = gs.length := by omega
        subst hi2
        rw [List.getElem?_append_right (Nat.le_refl _), Nat.sub_self] at hg
        simp at hg
        subst hg
        exact ⟨⟨hkeep _ _ hns (by have := h.at'; omega) (fun e => by have := (hvl _ e).2; omega), words_zero W⟩, by simp⟩
    · cases hs
  · intro g hg
    rcases List.mem_append.1 hg with hg | hg
    · refine ⟨(h.new g hg).1, fun e => ?_⟩
      have := hlt g hg
      rcases hat with h1 | h1
      · exact (h.new g hg).2 (by rw [← h1, e])
      · rw [h1] at e; have := Option.some.inj e; omega
    · rw [List.mem_singleton.1 hg]
      refine ⟨hb, fun e => ?_⟩
      rcases hat with h1 | h1
      · rw [h1] at e; have := (hvl _ e).2; omega
      · rw [h1] at e; have := Option.some.inj e; omega
  · rw [List.nodup_append]
    refine ⟨h.nodup, by simp, fun x hx y hy e => ?_⟩
    rw [List.mem_singleton.1 hy] at e
    have := hlt x hx
    omega

theorem Try.infoWords : (Try.prog.info? 115).map (fun i => (i.zero, i.size, i.bytes)) = some (some (.slice none 0 0), 1, 24) := by kernel_rfl

set_option maxRecDepth 100000 in
set_option maxHeartbeats 2000000 in
theorem empty_any (B : Nat) (p : Prb) (vs vg vk ve : Value) (w : World) (h : PrbAt w B p vs vg vk ve) (hn : p.succ.length ≤ 1000000) (hw : p.width ≤ 1000000) :
    Calls Try.prog 57 #[.agg #[vs, .int .i64 p.width, vg, vk, ve]] w fun e w' => (∃ base ab v gs, e = .returned (.pointer (some ⟨ab, 0, none⟩)) ∧ w.heap.size ≤ ab ∧ Ans w' base ab ((p.width + 63) / 64) p.width v gs (List.replicate p.succ.length (List.replicate ((p.width + 63) / 64) 0)) ∧ gs.length = p.succ.length) ∧ Step (fun _ => False) w w' := by
  obtain ⟨⟨xs, h1, a, c, rfl, -⟩, ⟨xg, h2, a2, c2, rfl, -⟩, ⟨xk, h3, a3, c3, rfl, -⟩, ⟨a4, c4, rfl, -⟩⟩ := h
  obtain ⟨q, hq⟩ : ∃ q, q = p.width + 63 := ⟨_, rfl⟩
  obtain ⟨W, hW⟩ : ∃ W, W = q / 64 := ⟨_, rfl⟩
  have HQ : Hid ((p.width + 63) / 64 = W) := by show _ = _; rw [hW, hq]
  rw [HQ.out]
  have hWle : W ≤ 1000000 := by omega
  have hmk := run_makeWords W hWle
  have R0 : IntKind.i64.wrap ((p.width : Int) + 63) = (q : Int) := by rw [IntWalk.i64_in _ (by omega)]; omega
  have R1 : IntKind.i64.wrap ((q : Int).tdiv 64) = (W : Int) := val_quo64 q W (by omega) hW
  have R7 : IntKind.i64.wrap (W : Int) = (W : Int) := IntWalk.i64_in _ (by omega)
  obtain ⟨i0, hi0, hz0, hz1, hz2⟩ := info_parts Try.infoWords
  have HI := Lib.hid hi0
  have HZ0 := Lib.hid hz0
  have HZ1 := Lib.hid hz1
  have HZ2 := Lib.hid hz2
  have R8 : IntKind.i64.wrap (q : Int) = (q : Int) := IntWalk.i64_in _ (by omega)
  have R5 : (q : Int) / 64 = (W : Int) := by omega
  have R6 : (p.width : Int) + 63 = (q : Int) := by omega
  obtain ⟨W1, hW1⟩ : ∃ W1 : World, W1 = (w.alloc (.cells #[.slice a p.succ.length c, .int .i64 p.width, .slice a2 p.gen.length c2, .slice a3 p.kill.length c3, .slice a4 p.entry.length c4] 82)).alloc (.cells #[.int .i64 p.width, .slice none 0 0] 119) := ⟨_, rfl⟩
  have ST1 : Step (fun _ => False) w W1 := by rw [hW1]; exact ((Step.refl _ _).alloc _).alloc _
  have HAB : Hid (W1.heap[w.heap.size + 1]? = some (.cells #[.int .i64 p.width, .slice none 0 0] 119 (0, 0))) := by show _ = _; rw [hW1]; exact blk_new2 _ _ _
  have HPB : Hid (W1.heap[w.heap.size]? = some (.cells #[.slice a p.succ.length c, .int .i64 p.width, .slice a2 p.gen.length c2, .slice a3 p.kill.length c3, .slice a4 p.entry.length c4] 82 (0, 0))) := by show _ = _; rw [hW1]; exact blk_alloc (blk_new _ _)
  have HSZ : Hid (W1.heap.size = w.heap.size + 2) := by show _ = _; rw [hW1]; simp
  have HW1 := Lib.hid hW1
  clear h1 h2 h3 hq hW hi0 hz0 hz1 hz2 hW1
  go_enter Try.func57, Try.ntmps57
  go_upto_region 2 with fail
  rw [← HW1.out]
  have b0 := blk_cell HPB.out 0 _ rfl
  go_wp2_with fail
  clear b0
  go_loopg [11] p.succ.length (fun gg s11 wr => ∃ (k : Nat) (v : Value) (gs : List Nat), s11 = .int .i64 k ∧ k ≤ p.succ.length ∧ p.succ.length - k ≤ gg ∧ Ans wr (w.heap.size + 2) (w.heap.size + 1) W p.width v gs (List.replicate k (List.replicate W 0)) ∧ gs.length = k ∧ Step (· = w.heap.size + 1) W1 wr ∧ wr.heap[w.heap.size]? = some (.cells #[.slice a p.succ.length c, .int .i64 p.width, .slice a2 p.gen.length c2, .slice a3 p.kill.length c3, .slice a4 p.entry.length c4] 82 (0, 0)))
  case atStart =>
    exact ⟨0, .slice none 0 0, [], rfl, Nat.zero_le _, by omega, ⟨HAB.out, World.ownsRow_nil _ _ _ _, rfl, (fun i g s h => by simp at h), (fun g h => nomatch h), by omega, List.nodup_nil⟩, rfl, Step.refl _ _, HPB.out⟩
  case round =>
    obtain ⟨k, v, gs, rfl, hk, hgg, hans, hgl, hst, hpb⟩ := hrel
    have HANS := Lib.hid hans
    have HPBR := Lib.hid hpb
    have HGL := Lib.hid hgl
    obtain ⟨ao, co, rfl⟩ := owns_slice hans.own
    have HL : Hid (w.heap.size + 2 ≤ wr.heap.size) := by have := hst.size; have h := HSZ.out; show _ ≤ _; omega
    clear hans hpb hgl
    by_cases hlt : k < p.succ.length
    · have c1 := blk_cell HANS.out.blk 1 _ rfl
      have c0 := blk_cell HPBR.out 1 _ rfl
      have d1 := blk_free HANS.out.blk 1
      have hl := HL.out
      have HW2 : Hid (Step (fun _ => False) wr ((wr.alloc (.cells (wordV (List.replicate W 0)).toArray 41)).alloc (.cells #[.slice (some ⟨wr.heap.size, 0, none⟩) W W] 115)).drew) := (((Step.refl _ _).alloc _).alloc _).drew
      have HOW2 := Lib.hid (HW2.out.owns HANS.out.own (fun _ _ h => h))
      have HROW2 : Hid (Row ((wr.alloc (.cells (wordV (List.replicate W 0)).toArray 41)).alloc (.cells #[.slice (some ⟨wr.heap.size, 0, none⟩) W W] 115)).drew (wr.heap.size + 2) (.slice (some ⟨wr.heap.size + 1, 0, none⟩) 1 1) 1 (setV W [wr.heap.size])) := Row.new (cs := [.slice (some ⟨wr.heap.size, 0, none⟩) W W]) (blk_drew (blk_new2 _ _ _)) (by decide)
      have HNS : Hid (((wr.alloc (.cells (wordV (List.replicate W 0)).toArray 41)).alloc (.cells #[.slice (some ⟨wr.heap.size, 0, none⟩) W W] 115)).drew.heap[wr.heap.size]? = some (.cells (wordV (List.replicate W 0)).toArray 41 (0, 0))) := blk_alloc (blk_new _ _)
      have hgl' : gs.length ≤ 1000000 := by have := HGL.out; omega
      go_wp2
      have c1M := cell_alloc (o := .cells (wordV (List.replicate W 0)).toArray 41) c1
      have c1B := cell_alloc (o := .cells #[.slice (some ⟨wr.heap.size, 0, none⟩) W W] 115) c1M
      go_region_law (first
          | (refine step_append_row _ rfl (wr.heap.size + 2) (.tmp 17) (.tmp 23) 117 rfl (w.heap.size + 2) 115 i0 (.slice none 0 0) 1 24 Try.underlying117 HI.out HZ0.out HZ1.out HZ2.out rfl (by decide) _ _ _ (by simp [Act.eval]) HOW2.out _ 1 _ (by simp [Act.eval]) HROW2.out rfl (setV_one _ _) (by unfold maxLen; omega) (by omega) (by simp; omega) ?_
             intro v6 w6 hown hgrow hat
             obtain ⟨oa6, oc6, rfl⟩ := owns_slice hown
             have hab6 : w6.heap[w.heap.size + 1]? = some (.cells #[.int .i64 p.width, .slice ao gs.length co] 119 (0, 0)) := grown_keep hgrow (HW2.out.keep HANS.out.blk (fun h => h)) (fun k hk e => by have := (HOW2.out.lt k hk).1; omega)
             have hpb6 := grown_keep hgrow (HW2.out.keep HPBR.out (fun h => h)) (fun k hk e => by have := (HOW2.out.lt k hk).1; omega)
             have KP6 := blk_cell hpb6 1 _ rfl
             have c16 := blk_cell hab6 1 _ rfl
             have d16 := blk_free hab6 1
             have HAB6 := Lib.hid hab6
             have HPB6 := Lib.hid hpb6
             have HOWN6 := Lib.hid hown
             have HGROW6 := Lib.hid hgrow
             have HAT6 := Lib.hid hat
             clear hab6 hpb6 hown hgrow hat))
      all_goals (
        have HA7 := Lib.hid (HANS.out.snoc HGL.out HL.out HW2.out (by simp) HNS.out HOWN6.out HGROW6.out HAT6.out HAB6.out)
        have HP7 : Hid ((w6.setCell ⟨w.heap.size + 1, 1, none⟩ (.slice oa6 (gs.length + 1) oc6)).heap[w.heap.size]? = some (.cells #[.slice a p.succ.length c, .int .i64 p.width, .slice a2 p.gen.length c2, .slice a3 p.kill.length c3, .slice a4 p.entry.length c4] 82 (0, 0))) := by
          show _ = _
          rw [Below.heap_setCell _ _ _ _ (by simp)]; exact HPB6.out
        have HS7 : Hid (Step (· = w.heap.size + 1) W1 (w6.setCell ⟨w.heap.size + 1, 1, none⟩ (.slice oa6 (gs.length + 1) oc6))) := by
          have e1 : Step (· = w.heap.size + 1) W1 w6 := (hst.trans (HW2.out.mono (fun _ _ h => h.elim) : Step (· = w.heap.size + 1) _ _)).grown HGROW6.out (fun q hq hlt => by have := (HOW2.out.lt q hq).1; have := HSZ.out; omega)
          exact e1.setCell _ _ (fun _ => rfl)
        clear c1 c0 d1 c1M c1B KP6 c16 d16 hgl' hl
        go_wp2
        go_roundg (gk - 1)
        case rel => exact ⟨k + 1, _, gs ++ [wr.heap.size], by go_num, by omega, by omega, HA7.out, by simp [HGL.out], HS7.out, HP7.out⟩
        case measure => omega)
    · obtain rfl : k = p.succ.length := by omega
      have HSF : Hid (Step (fun _ => False) w wr) := by
        have e1 : Step (· = w.heap.size + 1) w wr := (ST1.mono (fun _ _ h => h.elim) : Step (· = w.heap.size + 1) _ _).trans hst
        exact e1.mono (fun q hq h => by omega)
      go_wp2
      go_ret
      exact ⟨⟨_, _, _, gs, rfl, Nat.le_succ _, HANS.out, HGL.out⟩, HSF.out⟩

end Go.Proofs.Ytilipeigjkmldaa

namespace Go.Proofs.Ytilipeigjkmldaa
open Go.RowKit

theorem bit_is (x r : Nat) (c : Nat) (hc : c = (x / 2 ^ r) &&& 1) : ((c : Int) == 1) = x.testBit r := by
  rw [Nat.testBit_eq_decide_div_mod_eq, hc, nat_mask1]
  generalize x / 2 ^ r % 2 = m
  by_cases h : m = 1
  · simp [h]
  · have : ((m : Int) == 1) = false := by simpa using (by omega : ¬ (m : Int) = 1)
    rw [this]; simp [h]

set_option maxRecDepth 100000 in
set_option maxHeartbeats 1000000 in
theorem has_any (base ab W width i e : Nat) (v : Value) (gs : List Nat) (sets : List (List Nat)) (s : List Nat) (w : World) (h : Ans w base ab W width v gs sets) (hs : sets[i]? = some s) (he : e < width) (hW : W = (width + 63) / 64) (hw : width ≤ 1000000) :
    Calls Try.prog 60 #[.pointer (some ⟨ab, 0, none⟩), .int .i64 i, .int .i64 e] w fun x w' => x = .returned (.bool (bit s e)) ∧ w = w' := by
  have hi : i < gs.length := by rw [← h.len]; exact (List.getElem?_eq_some_iff.1 hs).1
  obtain ⟨g, hg⟩ : ∃ g, gs[i]? = some g := ⟨_, List.getElem?_eq_getElem hi⟩
  obtain ⟨hsb, hsl⟩ := h.set i g s hg hs
  have c0 := blk_cell h.blk 0 _ rfl
  have c1 := blk_cell h.blk 1 _ rfl
  obtain ⟨a, c, rfl⟩ := owns_slice h.own
  have HROW := Row.of_owns (B := w.heap.size) h.own (Nat.le_refl _)
  obtain ⟨a', c', hv, hc1, hc2, -, hrow⟩ := HROW
  obtain ⟨rfl, -, rfl⟩ : a = a' ∧ True ∧ c = c' := by cases hv; exact ⟨rfl, trivial, rfl⟩
  obtain ⟨g2, o2, rfl, -, -, hcell⟩ := hrow (by omega)
  have f0 := hcell i _ (setV_get W gs i g hg)
  obtain ⟨q, hq⟩ : ∃ q, q = e / 64 := ⟨_, rfl⟩
  obtain ⟨r, hr⟩ : ∃ r, r = e % 64 := ⟨_, rfl⟩
  obtain ⟨y, hy⟩ : ∃ y, y = s.getD q 0 := ⟨_, rfl⟩
  obtain ⟨z, hz⟩ : ∃ z, z = y / 2 ^ r := ⟨_, rfl⟩
  obtain ⟨b, hb⟩ : ∃ b, b = z &&& 1 := ⟨_, rfl⟩
  have f1 := hsb.cell q (by omega)
  rw [← hy] at f1
  have hy64 : y < 18446744073709551616 := by rw [hy]; exact words_get hsb.ok q
  have hz64 : z < 18446744073709551616 := by rw [hz]; exact Nat.lt_of_le_of_lt (Nat.div_le_self _ _) hy64
  have R1 : IntKind.i64.wrap ((e : Int).tdiv 64) = (q : Int) := val_quo64 e q (by omega) hq
  have R2 : (e : Int).tmod 64 = (r : Int) := val_rem64 e r hr
  have R3 : Op.shift .shr .u64 (y : Int) .i64 (r : Int) = pure (.int .u64 (z : Int)) := val_shr64 y r z (by omega) hz
  have R9 : (y : Int) / 2 ^ r = (z : Int) := by rw [hz]; simp
  have R4 : bits .and .u64 (z : Int) 1 = (b : Int) := val_and1 z b hz64 hb
  have HV : Hid (((b : Int) == 1) = bit s e) := by
    show _ = _
    rw [bit_is y r b (by rw [hb, hz]), hy, hq, hr]; rfl
  have R7 : IntKind.i64.wrap (q : Int) = (q : Int) := IntWalk.i64_in _ (by omega)
  have R5 : (e : Int) / 64 = (q : Int) := by omega
  have R6 : (e : Int) % 64 = (r : Int) := by omega
  have hq1 : q < W := by omega
  have hi0 : (0 : Int) ≤ (i : Int) := by omega
  have he0 : (0 : Int) ≤ (e : Int) := by omega
  clear h hs hg hsb hsl hcell hrow hc1 hc2 hv hq hr hy hz hb
  go_enter Try.func60, Try.ntmps60
  go_wp2
  go_ret
  exact ⟨ret_bool HV.out, rfl⟩

theorem Ans.step {w w' : World} {base ab W width : Nat} {vs : Value} {gs : List Nat} {sets : List (List Nat)} (h : Ans w base ab W width vs gs sets) (hs : Step (fun _ => False) w w') : Ans w' base ab W width vs gs sets :=
  ⟨hs.keep h.blk (fun h => h), hs.owns h.own (fun _ _ h => h), h.len, fun i g s h1 h2 => ⟨(h.set i g s h1 h2).1.step hs (fun h => h), (h.set i g s h1 h2).2⟩, h.new, h.at', h.nodup⟩

def factsL (width : Nat) (s : List Nat) : List Nat := (List.range width).filter (fun e => bit s e)
theorem factsL_succ (k : Nat) (s : List Nat) : factsL (k + 1) s = factsL k s ++ (if bit s k = true then [k] else []) := by
  unfold factsL
  rw [List.range_succ, List.filter_append]
  congr 1
  by_cases h : bit s k = true <;> simp [h]
theorem natV_snoc (l : List Nat) (x : Nat) : natV (l ++ [x]) = natV l ++ [.int .i64 x] := by simp [natV, intsV]
theorem factsL_len (k : Nat) (s : List Nat) : (factsL k s).length ≤ k := by
  have := List.length_filter_le (fun e => bit s e) (List.range k)
  simpa [factsL] using this
theorem Try.infoInt : (Try.prog.info? 3).map (fun i => (i.zero, i.size, i.bytes)) = some (some (.int .i64 0), 1, 8) := by kernel_rfl

set_option maxRecDepth 100000 in
set_option maxHeartbeats 1000000 in
theorem alist_any (base ab W width i : Nat) (v : Value) (gs : List Nat) (sets : List (List Nat)) (s : List Nat) (w : World) (h : Ans w base ab W width v gs sets) (hs : sets[i]? = some s) (hW : W = (width + 63) / 64) (hw : width ≤ 1000000) :
    Calls Try.prog 35 #[.pointer (some ⟨ab, 0, none⟩), .int .i64 i] w fun x w' => (∃ u, x = .returned u ∧ w'.ownsRow w.heap.size 3 1 u (factsL width s).length (natV (factsL width s))) ∧ Step (fun _ => False) w w' := by
  have H := Lib.hid h
  have HS := Lib.hid hs
  have HWW := Lib.hid hW
  obtain ⟨i0, hi0, hz0, hz1, hz2⟩ := info_parts Try.infoInt
  have HI := Lib.hid hi0
  have HZ0 := Lib.hid hz0
  have HZ1 := Lib.hid hz1
  have HZ2 := Lib.hid hz2
  have c0 := blk_cell h.blk 0 _ rfl
  clear h hs hW hi0 hz0 hz1 hz2
  go_enter Try.func35, Try.ntmps35
  go_wp2_with fail
  go_loopg [5, 6, 13] width (fun gg s5 _ s13 wr => ∃ k : Nat, s13 = .int .i64 k ∧ k ≤ width ∧ width - k ≤ gg ∧ wr.ownsRow w.heap.size 3 1 s5 (factsL k s).length (natV (factsL k s)) ∧ Step (fun _ => False) w wr)
  case atStart => exact ⟨0, rfl, Nat.zero_le _, by omega, World.ownsRow_nil _ _ _ _, Step.refl _ _⟩
  case round =>
    obtain ⟨k, rfl, hk, hgg, hown, hst⟩ := hrel
    obtain ⟨ao, co, rfl⟩ := owns_slice hown
    have HOW := Lib.hid hown
    have HFS := Lib.hid (factsL_succ k s)
    have hll := factsL_len k s
    obtain ⟨nn, hnn⟩ : ∃ nn, nn = (factsL k s).length := ⟨_, rfl⟩
    have HNN := Lib.hid hnn
    rw [← hnn] at HOW hll
    rw [← hnn]
    clear hown hnn
    by_cases hlt : k < width
    · go_wp2_with fail
      refine (has_any base ab W width i k v gs sets s wr (H.out.step hst) HS.out hlt HWW.out hw).mono ?_
      rintro e w1 ⟨rfl, rfl⟩
      cases hb : bit s k with
      | true =>
        have HT : Hid (factsL (k + 1) s = factsL k s ++ [k]) := by show _ = _; rw [HFS.out, if_pos hb]
        have HROW : Hid (Row (wr.alloc (.cells #[.int .i64 k] 3)) (wr.heap.size + 1) (.slice (some ⟨wr.heap.size, 0, none⟩) 1 1) 1 [.int .i64 k]) := Row.new (cs := [.int .i64 k]) (blk_new _ _) (by decide)
        have STA : Step (fun _ => False) w (wr.alloc (.cells #[.int .i64 k] 3)) := hst.alloc _
        clear hb
        go_wp2_with (at_builtin; refine wpList_append_row _ rfl (wr.heap.size + 1) _ _ 38 rfl w.heap.size 3 i0 (.int .i64 0) 1 8 Try.underlying38 HI.out HZ0.out HZ1.out HZ2.out rfl (by decide) _ _ _ rfl (HOW.out.alloc _) _ 1 _ rfl HROW.out rfl (intsV_one [(k : Int)]) (by unfold maxLen; omega) (by omega) STA.size ?_)
        intro v4 w4 hown4 hgrow4 _
        have ST4 : Step (fun _ => False) w w4 := STA.grown hgrow4 (fun q hq hlt => by have := owned_row HOW.out q hq; omega)
        rw [← natV_snoc, ← HT.out] at hown4
        have HO4 : Hid (w4.ownsRow w.heap.size 3 1 v4 (factsL (k + 1) s).length (natV (factsL (k + 1) s))) := by
          have e : (factsL (k + 1) s).length = nn + 1 := by rw [HT.out, List.length_append, HNN.out]; rfl
          rw [e]; exact hown4
        clear hown4
        go_wp2
        go_roundg (gk - 1)
        case rel => exact ⟨k + 1, by go_num, by omega, by omega, HO4.out, ST4⟩
        case measure => omega
      | false =>
        have HT : Hid (factsL (k + 1) s = factsL k s) := by show _ = _; rw [HFS.out, if_neg (by rw [hb]; decide), List.append_nil]
        have HO4 : Hid (wr.ownsRow w.heap.size 3 1 (.slice ao nn co) (factsL (k + 1) s).length (natV (factsL (k + 1) s))) := by
          rw [HT.out, ← HNN.out]; exact HOW.out
        clear hb
        go_wp2
        go_roundg (gk - 1)
        case rel => exact ⟨k + 1, by go_num, by omega, by omega, HO4.out, hst⟩
        case measure => omega
    · obtain rfl : k = width := by omega
      go_wp2
      go_ret
      exact ⟨⟨_, rfl, by rw [← HNN.out]; exact HOW.out⟩, hst⟩

end Go.Proofs.Ytilipeigjkmldaa

namespace Go.Proofs.Ytilipeigjkmldaa

def behindF (W : Nat) (sets : List (List Nat)) (l : List Nat) : List Nat := l.foldl (fun acc t => joinW acc (sets.getD t [])) (List.replicate W 0)
def AllW (W : Nat) (sets : List (List Nat)) : Prop := ∀ s ∈ sets, s.length = W ∧ words s
theorem AllW.get {W : Nat} {sets : List (List Nat)} (h : AllW W sets) {t : Nat} (ht : t < sets.length) : (sets.getD t []).length = W ∧ words (sets.getD t []) := by
  rw [List.getD_eq_getElem?_getD, List.getElem?_eq_getElem ht]
  exact h _ (List.getElem_mem ht)
theorem AllW.set {W : Nat} {sets : List (List Nat)} (h : AllW W sets) (i : Nat) {s : List Nat} (hs : s.length = W) (hw : words s) : AllW W (sets.set i s) := by
  intro x hx
  rcases List.mem_or_eq_of_mem_set hx with h1 | h1
  · exact h x h1
  · rw [h1]; exact ⟨hs, hw⟩
theorem fold_ok {W : Nat} {sets : List (List Nat)} (h : AllW W sets) : ∀ (l : List Nat) (acc : List Nat), (∀ t ∈ l, t < sets.length) → acc.length = W → words acc →
    (l.foldl (fun acc t => joinW acc (sets.getD t [])) acc).length = W ∧ words (l.foldl (fun acc t => joinW acc (sets.getD t [])) acc) ∧ ∀ e, bit (l.foldl (fun acc t => joinW acc (sets.getD t [])) acc) e = true ↔ (bit acc e = true ∨ ∃ t ∈ l, bit (sets.getD t []) e = true)
  | [], acc, _, h1, h2 => ⟨h1, h2, fun e => by simp⟩
  | t :: r, acc, ht, h1, h2 => by
    obtain ⟨h3, h4⟩ := h.get (ht t (List.mem_cons_self ..))
    obtain ⟨a1, a2, a3⟩ := fold_ok h r (joinW acc (sets.getD t [])) (fun x hx => ht x (List.mem_cons_of_mem _ hx)) (by rw [joinW_len (by rw [h1, h3])]; exact h1) (joinW_words h2 h4)
    refine ⟨a1, a2, fun e => ?_⟩
    show bit (r.foldl _ (joinW acc (sets.getD t []))) e = true ↔ _
    rw [a3 e, bit_join _ _ (by rw [h1, h3]), Bool.or_eq_true]
    constructor
    · rintro ((h | h) | ⟨x, hx, h⟩)
      · exact .inl h
      · exact .inr ⟨t, List.mem_cons_self .., h⟩
      · exact .inr ⟨x, List.mem_cons_of_mem _ hx, h⟩
    · rintro (h | ⟨x, hx, h⟩)
      · exact .inl (.inl h)
      · rcases List.mem_cons.1 hx with rfl | hx
        · exact .inl (.inr h)
        · exact .inr ⟨x, hx, h⟩
theorem behind_ok {W : Nat} {sets : List (List Nat)} (h : AllW W sets) (l : List Nat) (hl : ∀ t ∈ l, t < sets.length) :
    (behindF W sets l).length = W ∧ words (behindF W sets l) ∧ ∀ e, bit (behindF W sets l) e = true ↔ ∃ t ∈ l, bit (sets.getD t []) e = true := by
  obtain ⟨h1, h2, h3⟩ := fold_ok h l (List.replicate W 0) hl (by simp) (words_zero W)
  refine ⟨h1, h2, fun e => ?_⟩
  have := h3 e
  rw [bit_zero] at this
  unfold behindF
  rw [this]; simp
theorem behind_snoc (W : Nat) (sets : List (List Nat)) (l : List Nat) (t : Nat) : behindF W sets (l ++ [t]) = joinW (behindF W sets l) (sets.getD t []) := by simp [behindF]

def lackAll (sets : List (List Nat)) : Nat := (sets.map lack).sum
theorem lackAll_set : ∀ (sets : List (List Nat)) (i : Nat) (s s' : List Nat), sets[i]? = some s → lackAll (sets.set i s') + lack s = lackAll sets + lack s'
  | [], i, s, s', h => by simp at h
  | x :: r, 0, s, s', h => by
    have : x = s := by simpa using h
    subst this
    simp [lackAll]; omega
  | x :: r, i + 1, s, s', h => by
    have := lackAll_set r i s s' (by simpa using h)
    simp [lackAll] at this ⊢
    omega

def pSucc (p : Prb) (i : Nat) : List Nat := p.succ.getD i []
def pGen (p : Prb) (i e : Nat) : Prop := e ∈ p.gen.getD i []
def pKill (p : Prb) (i e : Nat) : Prop := e ∈ p.kill.getD i []
def outF (W : Nat) (p : Prb) (sets : List (List Nat)) (i : Nat) : List Nat := setL (clrL (behindF W sets (pSucc p i)) (p.kill.getD i [])) (p.gen.getD i [])
/- The shape of a problem at work: as many lists as nodes. -/
structure PrbFull (p : Prb) : Prop where
  ok : PrbOk p
  gl : p.gen.length = p.succ.length
  kl : p.kill.length = p.succ.length
theorem getD_mem {α : Type} {l : List (List α)} {i : Nat} {x : α} (h : x ∈ l.getD i []) : ∃ y ∈ l, x ∈ y := by
  rw [List.getD_eq_getElem?_getD] at h
  by_cases hi : i < l.length
  · rw [List.getElem?_eq_getElem hi] at h; exact ⟨_, List.getElem_mem hi, h⟩
  · rw [List.getElem?_eq_none (by omega)] at h; cases h
theorem PrbOk.succ_lt {p : Prb} (h : PrbOk p) {i t : Nat} (ht : t ∈ pSucc p i) : t < p.succ.length := by
  obtain ⟨l, hl, hx⟩ := getD_mem ht; exact h.s l hl t hx
theorem PrbOk.gen_lt {p : Prb} (h : PrbOk p) {i e : Nat} (ht : pGen p i e) : e < p.width := by
  obtain ⟨l, hl, hx⟩ := getD_mem ht; exact h.g l hl e hx
theorem PrbOk.kill_lt {p : Prb} (h : PrbOk p) {i e : Nat} (ht : pKill p i e) : e < p.width := by
  obtain ⟨l, hl, hx⟩ := getD_mem ht; exact h.k l hl e hx
theorem out_ok {p : Prb} (h : PrbOk p) {sets : List (List Nat)} {W : Nat} (hW : W = (p.width + 63) / 64) (ha : AllW W sets) (hl : sets.length = p.succ.length) (i : Nat) :
    (outF W p sets i).length = W ∧ words (outF W p sets i) ∧ ∀ e, bit (outF W p sets i) e = true ↔ (pGen p i e ∨ (¬ pKill p i e ∧ ∃ t ∈ pSucc p i, bit (sets.getD t []) e = true)) := by
  obtain ⟨h1, h2, h3⟩ := behind_ok ha (pSucc p i) (fun t ht => by rw [hl]; exact h.succ_lt ht)
  refine ⟨by unfold outF; rw [setL_len, clrL_len, h1], setL_words _ (clrL_words _ h2), fun e => ?_⟩
  unfold outF
  rw [bit_setL _ _ _ (fun x hx => by rw [clrL_len, h1, hW]; have := h.gen_lt (i := i) hx; omega), bit_clrL _ _ _ (fun x hx => by rw [h1, hW]; have := h.kill_lt (i := i) hx; omega)]
  rw [Bool.or_eq_true, Bool.and_eq_true, h3 e, decide_eq_true_eq, Bool.not_eq_true', decide_eq_false_iff_not]
  constructor
  · rintro (⟨h4, h5⟩ | h4)
    · exact .inr ⟨h5, h4⟩
    · exact .inl h4
  · rintro (h4 | ⟨h5, h4⟩)
    · exact .inr h4
    · exact .inl ⟨h4, h5⟩

def Sound (p : Prb) (sets : List (List Nat)) : Prop := ∀ i e, bit (sets.getD i []) e = true → Back (pSucc p) (pGen p) (pKill p) i e
def ClosedAt (W : Nat) (p : Prb) (sets : List (List Nat)) (i : Nat) : Prop := ∀ e, bit (outF W p sets i) e = true → bit (sets.getD i []) e = true
theorem Sound.out {p : Prb} {sets : List (List Nat)} {W : Nat} (hs : Sound p sets) (h : PrbOk p) (hW : W = (p.width + 63) / 64) (ha : AllW W sets) (hl : sets.length = p.succ.length) (i e : Nat) (hb : bit (outF W p sets i) e = true) : Back (pSucc p) (pGen p) (pKill p) i e := by
  rcases ((out_ok h hW ha hl i).2.2 e).1 hb with h1 | ⟨h1, t, ht, h2⟩
  · exact .gen h1
  · exact .step h1 ht (hs t e h2)
theorem getD_setL (sets : List (List Nat)) (i j : Nat) (s : List Nat) (hi : i < sets.length) : (sets.set i s).getD j [] = if i = j then s else sets.getD j [] := by
  rw [List.getD_eq_getElem?_getD, List.getElem?_set]
  by_cases h : i = j
  · subst h; simp [hi]
  · simp [h, List.getD_eq_getElem?_getD]
theorem Sound.join {p : Prb} {sets : List (List Nat)} {W : Nat} (hs : Sound p sets) (h : PrbOk p) (hW : W = (p.width + 63) / 64) (ha : AllW W sets) (hl : sets.length = p.succ.length) (i : Nat) (hi : i < sets.length) : Sound p (sets.set i (joinW (sets.getD i []) (outF W p sets i))) := by
  intro j e hb
  rw [getD_setL _ _ _ _ hi] at hb
  split at hb
  · rename_i hij
    subst hij
    rw [bit_join _ _ (by rw [(ha.get hi).1, (out_ok h hW ha hl i).1]), Bool.or_eq_true] at hb
    rcases hb with hb | hb
    · exact hs i e hb
    · exact hs.out h hW ha hl i e hb
  · exact hs j e hb
theorem Sound.zero (p : Prb) (n W : Nat) : Sound p (List.replicate n (List.replicate W 0)) := by
  intro i e hb
  rw [List.getD_eq_getElem?_getD, List.getElem?_replicate] at hb
  split at hb
  · simp only [Option.getD_some, bit_zero] at hb; cases hb
  · simp [bit] at hb
theorem AllW.zero (n W : Nat) : AllW W (List.replicate n (List.replicate W 0)) := by
  intro s hs
  rw [(List.mem_replicate.1 hs).2]
  exact ⟨by simp, words_zero W⟩
theorem closed_of_same {p : Prb} {sets : List (List Nat)} {W : Nat} (h : PrbOk p) (hW : W = (p.width + 63) / 64) (ha : AllW W sets) (hl : sets.length = p.succ.length) (i : Nat) (hi : i < sets.length) (hn : isNew (sets.getD i []) (outF W p sets i) = false) : ClosedAt W p sets i ∧ sets.set i (joinW (sets.getD i []) (outF W p sets i)) = sets := by
  have he : joinW (sets.getD i []) (outF W p sets i) = sets.getD i [] := by
    unfold isNew at hn
    simpa using hn
  refine ⟨fun e hb => ?_, ?_⟩
  · rw [← he, bit_join _ _ (by rw [(ha.get hi).1, (out_ok h hW ha hl i).1]), hb, Bool.or_true]
  · rw [he]
    apply List.ext_getElem?
    intro j
    rw [List.getElem?_set]
    by_cases hj : i = j
    · subst hj; simp [hi, List.getD_eq_getElem?_getD]
    · simp [hj]
theorem lack_of_new {p : Prb} {sets : List (List Nat)} {W : Nat} (h : PrbOk p) (hW : W = (p.width + 63) / 64) (ha : AllW W sets) (hl : sets.length = p.succ.length) (i : Nat) (hi : i < sets.length) :
    lackAll (sets.set i (joinW (sets.getD i []) (outF W p sets i))) ≤ lackAll sets ∧ (isNew (sets.getD i []) (outF W p sets i) = true → lackAll (sets.set i (joinW (sets.getD i []) (outF W p sets i))) < lackAll sets) := by
  obtain ⟨o1, o2, -⟩ := out_ok h hW ha hl i
  obtain ⟨a1, a2⟩ := ha.get hi
  obtain ⟨l1, l2⟩ := lack_join _ _ (by rw [a1, o1]) a2 o2
  have hs : sets[i]? = some (sets.getD i []) := by rw [List.getD_eq_getElem?_getD, List.getElem?_eq_getElem hi]; rfl
  have := lackAll_set sets i (sets.getD i []) (joinW (sets.getD i []) (outF W p sets i)) hs
  refine ⟨by omega, fun hn => ?_⟩
  have := l2 (by unfold isNew at hn; simpa using hn)
  omega
/- Where nothing turns any more, the sets are what goes back. -/
theorem back_iff {p : Prb} {sets : List (List Nat)} {W : Nat} (h : PrbOk p) (hW : W = (p.width + 63) / 64) (ha : AllW W sets) (hl : sets.length = p.succ.length) (hs : Sound p sets) (hc : ∀ i, i < p.succ.length → ClosedAt W p sets i) (i e : Nat) (hi : i < p.succ.length) :
    bit (sets.getD i []) e = true ↔ Back (pSucc p) (pGen p) (pKill p) i e := by
  refine ⟨hs i e, fun hb => ?_⟩
  exact Back.least (n := p.succ.length) (fun i e => bit (sets.getD i []) e = true) (fun i t _ ht => h.succ_lt ht) (fun i e hi hg => hc i hi e (((out_ok h hW ha hl i).2.2 e).2 (.inl hg))) (fun i e t hi hk ht hb => hc i hi e (((out_ok h hW ha hl i).2.2 e).2 (.inr ⟨hk, t, ht, hb⟩))) hb hi

end Go.Proofs.Ytilipeigjkmldaa
