/- Contracts of package flow: Has, List. -/
import Derived.Test.YtilipeigjkmldaaFlowE
namespace Go.Proofs.Ytilipeigjkmldaa
open Go.RowKit

theorem bit_is (x r : Nat) (c : Nat) (hc : c = (x / 2 ^ r) &&& 1) : ((c : Int) == 1) = x.testBit r := by
  rw [Nat.testBit_eq_decide_div_mod_eq, hc, nat_mask1]
  generalize x / 2 ^ r % 2 = m
  by_cases h : m = 1
  · simp [h]
  · have : ((m : Int) == 1) = false := by simpa using (by omega : ¬ (m : Int) = 1)
    rw [this]; simp [h]

set_option maxRecDepth 100000 in
set_option maxHeartbeats 1000000 in
theorem has_any (base ab W width i e : Nat) (v : Value) (gs : List Nat) (sets : List (List Nat)) (s : List Nat) (w : World) (h : Ans w base ab W width v gs sets) (hs : sets[i]? = some s) (he : e < width) (hW : W = (width + 63) / 64) (hw : width ≤ 1000000) :
    Calls Try.prog 60 #[.pointer (some ⟨ab, 0, none⟩), .int .i64 i, .int .i64 e] w fun x w' => x = .returned (.bool (bit s e)) ∧ w = w' := by
  have hi : i < gs.length := by rw [← h.len]; exact (List.getElem?_eq_some_iff.1 hs).1
  obtain ⟨g, hg⟩ : ∃ g, gs[i]? = some g := ⟨_, List.getElem?_eq_getElem hi⟩
  obtain ⟨hsb, hsl⟩ := h.set i g s hg hs
  have c0 := blk_cell h.blk 0 _ rfl
  have c1 := blk_cell h.blk 1 _ rfl
  obtain ⟨a, c, rfl⟩ := owns_slice h.own
  have HROW := Row.of_owns (B := w.heap.size) h.own (Nat.le_refl _)
  obtain ⟨a', c', hv, hc1, hc2, -, hrow⟩ := HROW
  obtain ⟨rfl, -, rfl⟩ : a = a' ∧ True ∧ c = c' := by cases hv; exact ⟨rfl, trivial, rfl⟩
  obtain ⟨g2, o2, rfl, -, -, hcell⟩ := hrow (by omega)
  have f0 := hcell i _ (setV_get W gs i g hg)
  obtain ⟨q, hq⟩ : ∃ q, q = e / 64 := ⟨_, rfl⟩
  obtain ⟨r, hr⟩ : ∃ r, r = e % 64 := ⟨_, rfl⟩
  obtain ⟨y, hy⟩ : ∃ y, y = s.getD q 0 := ⟨_, rfl⟩
  obtain ⟨z, hz⟩ : ∃ z, z = y / 2 ^ r := ⟨_, rfl⟩
  obtain ⟨b, hb⟩ : ∃ b, b = z &&& 1 := ⟨_, rfl⟩
  have f1 := hsb.cell q (by omega)
  rw [← hy] at f1
  have hy64 : y < 18446744073709551616 := by rw [hy]; exact words_get hsb.ok q
  have hz64 : z < 18446744073709551616 := by rw [hz]; exact Nat.lt_of_le_of_lt (Nat.div_le_self _ _) hy64
  have R1 : IntKind.i64.wrap ((e : Int).tdiv 64) = (q : Int) := val_quo64 e q (by omega) hq
  have R2 : (e : Int).tmod 64 = (r : Int) := val_rem64 e r hr
  have R3 : Op.shift .shr .u64 (y : Int) .i64 (r : Int) = pure (.int .u64 (z : Int)) := val_shr64 y r z (by omega) hz
  have R9 : (y : Int) / 2 ^ r = (z : Int) := by rw [hz]; simp
  have R4 : bits .and .u64 (z : Int) 1 = (b : Int) := val_and1 z b hz64 hb
  have HV : Hid (((b : Int) == 1) = bit s e) := by
    show _ = _
    rw [bit_is y r b (by rw [hb, hz]), hy, hq, hr]; rfl
  have R7 : IntKind.i64.wrap (q : Int) = (q : Int) := IntWalk.i64_in _ (by omega)
  have R5 : (e : Int) / 64 = (q : Int) := by omega
  have R6 : (e : Int) % 64 = (r : Int) := by omega
  have hq1 : q < W := by omega
  have hi0 : (0 : Int) ≤ (i : Int) := by omega
  have he0 : (0 : Int) ≤ (e : Int) := by omega
  clear h hs hg hsb hsl hcell hrow hc1 hc2 hv hq hr hy hz hb
  go_enter Try.func60, Try.ntmps60
  go_wp2
  go_ret
  exact ⟨ret_bool HV.out, rfl⟩

theorem Ans.step {w w' : World} {base ab W width : Nat} {vs : Value} {gs : List Nat} {sets : List (List Nat)} (h : Ans w base ab W width vs gs sets) (hs : Step (fun _ => False) w w') : Ans w' base ab W width vs gs sets :=
  ⟨hs.keep h.blk (fun h => h), hs.owns h.own (fun _ _ h => h), h.len, fun i g s h1 h2 => ⟨(h.set i g s h1 h2).1.step hs (fun h => h), (h.set i g s h1 h2).2⟩, h.new, h.at', h.nodup⟩

def factsL (width : Nat) (s : List Nat) : List Nat := (List.range width).filter (fun e => bit s e)
theorem factsL_succ (k : Nat) (s : List Nat) : factsL (k + 1) s = factsL k s ++ (if bit s k = true then [k] else []) := by
  unfold factsL
  rw [List.range_succ, List.filter_append]
  congr 1
  by_cases h : bit s k = true <;> simp [h]
theorem natV_snoc (l : List Nat) (x : Nat) : natV (l ++ [x]) = natV l ++ [.int .i64 x] := by simp [natV, intsV]
theorem factsL_len (k : Nat) (s : List Nat) : (factsL k s).length ≤ k := by
  have := List.length_filter_le (fun e => bit s e) (List.range k)
  simpa [factsL] using this
theorem Try.infoInt : (Try.prog.info? 3).map (fun i => (i.zero, i.size, i.bytes)) = some (some (.int .i64 0), 1, 8) := by kernel_rfl

set_option maxRecDepth 100000 in
set_option maxHeartbeats 1000000 in
theorem alist_any (base ab W width i : Nat) (v : Value) (gs : List Nat) (sets : List (List Nat)) (s : List Nat) (w : World) (h : Ans w base ab W width v gs sets) (hs : sets[i]? = some s) (hW : W = (width + 63) / 64) (hw : width ≤ 1000000) :
    Calls Try.prog 35 #[.pointer (some ⟨ab, 0, none⟩), .int .i64 i] w fun x w' => (∃ u, x = .returned u ∧ w'.ownsRow w.heap.size 3 1 u (factsL width s).length (natV (factsL width s))) ∧ Step (fun _ => False) w w' := by
  have H := Lib.hid h
  have HS := Lib.hid hs
  have HWW := Lib.hid hW
  obtain ⟨i0, hi0, hz0, hz1, hz2⟩ := info_parts Try.infoInt
  have HI := Lib.hid hi0
  have HZ0 := Lib.hid hz0
  have HZ1 := Lib.hid hz1
  have HZ2 := Lib.hid hz2
  have c0 := blk_cell h.blk 0 _ rfl
  clear h hs hW hi0 hz0 hz1 hz2
  go_enter Try.func35, Try.ntmps35
  go_wp2_with fail
  go_loopg [5, 6, 13] width (fun gg s5 _ s13 wr => ∃ k : Nat, s13 = .int .i64 k ∧ k ≤ width ∧ width - k ≤ gg ∧ wr.ownsRow w.heap.size 3 1 s5 (factsL k s).length (natV (factsL k s)) ∧ Step (fun _ => False) w wr)
  case atStart => exact ⟨0, rfl, Nat.zero_le _, by omega, World.ownsRow_nil _ _ _ _, Step.refl _ _⟩
  case round =>
    obtain ⟨k, rfl, hk, hgg, hown, hst⟩ := hrel
    obtain ⟨ao, co, rfl⟩ := owns_slice hown
    have HOW := Lib.hid hown
    have HFS := Lib.hid (factsL_succ k s)
    have hll := factsL_len k s
    obtain ⟨nn, hnn⟩ : ∃ nn, nn = (factsL k s).length := ⟨_, rfl⟩
    have HNN := Lib.hid hnn
    rw [← hnn] at HOW hll
    rw [← hnn]
    clear hown hnn
    by_cases hlt : k < width
    · go_wp2_with fail
      refine (has_any base ab W width i k v gs sets s wr (H.out.step hst) HS.out hlt HWW.out hw).mono ?_
      rintro e w1 ⟨rfl, rfl⟩
      cases hb : bit s k with
      | true =>
        have HT : Hid (factsL (k + 1) s = factsL k s ++ [k]) := by show _ = _; rw [HFS.out, if_pos hb]
        have HROW : Hid (Row (wr.alloc (.cells #[.int .i64 k] 3)) (wr.heap.size + 1) (.slice (some ⟨wr.heap.size, 0, none⟩) 1 1) 1 [.int .i64 k]) := Row.new (cs := [.int .i64 k]) (blk_new _ _) (by decide)
        have STA : Step (fun _ => False) w (wr.alloc (.cells #[.int .i64 k] 3)) := hst.alloc _
        clear hb
        go_wp2_with (at_builtin; refine wpList_append_row _ rfl (wr.heap.size + 1) _ _ 38 rfl w.heap.size 3 i0 (.int .i64 0) 1 8 Try.underlying38 HI.out HZ0.out HZ1.out HZ2.out rfl (by decide) _ _ _ rfl (HOW.out.alloc _) _ 1 _ rfl HROW.out rfl (intsV_one [(k : Int)]) (by unfold maxLen; omega) (by omega) STA.size ?_)
        intro v4 w4 hown4 hgrow4 _
        have ST4 : Step (fun _ => False) w w4 := STA.grown hgrow4 (fun q hq hlt => by have := owned_row HOW.out q hq; omega)
        rw [← natV_snoc, ← HT.out] at hown4
        have HO4 : Hid (w4.ownsRow w.heap.size 3 1 v4 (factsL (k + 1) s).length (natV (factsL (k + 1) s))) := by
          have e : (factsL (k + 1) s).length = nn + 1 := by rw [HT.out, List.length_append, HNN.out]; rfl
          rw [e]; exact hown4
        clear hown4
        go_wp2
        go_roundg (gk - 1)
        case rel => exact ⟨k + 1, by go_num, by omega, by omega, HO4.out, ST4⟩
        case measure => omega
      | false =>
        have HT : Hid (factsL (k + 1) s = factsL k s) := by show _ = _; rw [HFS.out, if_neg (by rw [hb]; decide), List.append_nil]
        have HO4 : Hid (wr.ownsRow w.heap.size 3 1 (.slice ao nn co) (factsL (k + 1) s).length (natV (factsL (k + 1) s))) := by
          rw [HT.out, ← HNN.out]; exact HOW.out
        clear hb
        go_wp2
        go_roundg (gk - 1)
        case rel => exact ⟨k + 1, by go_num, by omega, by omega, HO4.out, hst⟩
        case measure => omega
    · obtain rfl : k = width := by omega
      go_wp2
      go_ret
      exact ⟨⟨_, rfl, by rw [← HNN.out]; exact HOW.out⟩, hst⟩

end Go.Proofs.Ytilipeigjkmldaa
