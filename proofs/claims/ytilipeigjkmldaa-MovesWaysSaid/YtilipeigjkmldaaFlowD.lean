/- Contracts of package flow: Check of what may be; what is behind a node. -/
import Derived.Test.YtilipeigjkmldaaFlowAC
import Derived.Laws.CopyOwn
import Derived.StillTailTactics
import Derived.Deep.DeepCutAuto
namespace Go.Proofs.Ytilipeigjkmldaa
open Go.RowKit

structure PrbOk (p : Prb) : Prop where
  n : p.succ.length ≤ 1201
  w : p.width ≤ 4000
  s : ∀ l ∈ p.succ, ∀ y ∈ l, y < p.succ.length
  gl : p.gen.length ≤ p.succ.length
  g : ∀ l ∈ p.gen, ∀ y ∈ l, y < p.width
  kl : p.kill.length ≤ p.succ.length
  k : ∀ l ∈ p.kill, ∀ y ∈ l, y < p.width
  e : ∀ y ∈ p.entry, y < p.width

set_option maxRecDepth 100000 in
set_option maxHeartbeats 1000000 in
theorem fcheck_any (B : Nat) (p : Prb) (vs vg vk ve : Value) (w : World) (h : PrbAt w B p vs vg vk ve) (ho : PrbOk p) :
    Calls Try.prog 56 #[.agg #[vs, .int .i64 p.width, vg, vk, ve]] w fun e w' => e = .returned (.int .i64 0) ∧ Step (fun _ => False) w w' := by
  have H := Lib.hid h
  have HO := Lib.hid ho
  obtain ⟨⟨xs, h1, a, c, rfl, -⟩, ⟨xg, h2, a2, c2, rfl, -⟩, ⟨xk, h3, a3, c3, rfl, -⟩, ⟨a4, c4, rfl, hc4, hm4, hz4, hr4⟩⟩ := h
  have HR4 := Lib.hid (show Row w B (.slice a4 p.entry.length c4) p.entry.length (natV p.entry) from ⟨a4, c4, rfl, hc4, hm4, hz4, hr4⟩)
  have ST1 : Step (fun _ => False) w (w.alloc (.cells #[.slice a p.succ.length c, .int .i64 p.width, .slice a2 p.gen.length c2, .slice a3 p.kill.length c3, .slice a4 p.entry.length c4] 82)) := (Step.refl _ _).alloc _
  have H1 := Lib.hid (H.out.step ST1 (fun _ _ h => h))
  have hn := ho.n
  have hw := ho.w
  have e1 : decide (1201 < p.succ.length) = false := decide_eq_false (by omega)
  have e2 : decide ((p.width : Int) < 0) = false := decide_eq_false (by omega)
  have e3 : decide (4000 < p.width) = false := decide_eq_false (by omega)
  clear h1 h2 h3 hc4 hm4 hz4 hr4 ho
  go_enter Try.func56, Try.ntmps56
  go_wp2_with fail
  refine (fits_any B p.succ p.succ.length p.succ.length _ _ H1.out.s (Nat.le_refl _) HO.out.s).mono ?_
  rintro e w1 ⟨rfl, rfl⟩
  go_wp2_with fail
  refine (fits_any B p.gen p.succ.length p.width _ _ H1.out.g HO.out.gl HO.out.g).mono ?_
  rintro e w1 ⟨rfl, rfl⟩
  go_wp2_with fail
  refine (fits_any B p.kill p.succ.length p.width _ _ H1.out.k HO.out.kl HO.out.k).mono ?_
  rintro e w1 ⟨rfl, rfl⟩
  go_wp2_with fail
  have HN : Hid (NRows ((w.alloc (.cells #[.slice a p.succ.length c, .int .i64 p.width, .slice a2 p.gen.length c2, .slice a3 p.kill.length c3, .slice a4 p.entry.length c4] 82)).alloc (.cells #[.slice a4 p.entry.length c4] 38)) (max B (w.heap.size + 2)) (.slice (some ⟨w.heap.size + 1, 0, none⟩) 1 1) [p.entry]) := by
    refine ⟨[.slice a4 p.entry.length c4], Each.single ⟨_, rfl, ?_⟩, (Row.new (cs := [.slice a4 p.entry.length c4]) (blk_new2 _ _ _) (by decide)).mono (by omega)⟩
    exact (HR4.out.step (S := fun _ => False) (((Step.refl _ _).alloc _).alloc _) (fun _ _ h => h)).mono (by omega)
  refine (fits_any _ [p.entry] 1 p.width _ _ HN.out (by simp) (fun l hl => by rw [List.mem_singleton.1 hl]; exact HO.out.e)).mono ?_
  rintro e w1 ⟨rfl, rfl⟩
  go_wp2
  go_ret
  exact ⟨rfl, ((Step.refl _ _).alloc _).alloc _⟩

theorem Try.infoU64 : (Try.prog.info? 41).map (fun i => (i.zero, i.size, i.bytes)) = some (some (.int .u64 0), 1, 8) := by kernel_rfl
theorem made_words (n : Nat) : madeCells (Value.int .u64 0).cells (n * 1) = (wordV (List.replicate n 0)).toArray := by
  apply Array.ext_getElem?
  intro i
  simp only [madeCells, Value.cells, wordV, Nat.mul_one, List.map_replicate]
  by_cases h : i < n
  · simp [h, Nat.mod_one]
  · simp [h]
theorem run_makeWords (n : Nat) (hn : n ≤ 1000000) (W : World) : (Instr.makeSlice 115 (.int .i64 (n : Int)) (.int .i64 (n : Int))).run Try.prog W = .ok (.slice (some ⟨W.heap.size, 0, none⟩) n n) (W.alloc (.cells (wordV (List.replicate n 0)).toArray 41)) := by
  obtain ⟨i0, hi, hz0, hz1, hz2⟩ := info_parts Try.infoU64
  have h := run_make (P := Try.prog) W 115 41 i0 (.int .u64 0) Try.underlying115 hi hz0 .i64 .i64 (n : Int) (n : Int) (by omega) (Int.le_refl _) (by rw [hz2]; omega) (by omega)
  rw [hz1, Int.toNat_natCast, made_words] at h
  exact h
theorem wordV_one (ws : List Nat) : ∀ v ∈ wordV ws, v.oneCell' = true := by
  intro v hv
  obtain ⟨n, _, rfl⟩ := List.mem_map.1 hv; rfl
theorem words_row {w : World} {g : Nat} {ws : List Nat} (h : SetB w g ws) (j : Nat) (v : Value) (hv : (wordV ws)[j]? = some v) : w.cell? ((⟨g, 0, none⟩ : Addr).add j) = some v := by
  rw [add_is, Nat.zero_add]; exact blk_cell h.blk j v (by simpa using hv)

theorem splice_all (cur cs : List Value) (h : cs.length = cur.length) : splice cur 0 cs = cs := by
  unfold splice
  rw [List.take_zero, List.nil_append, Nat.zero_add, List.drop_of_length_le (by omega), List.append_nil]
theorem step_of_below {w w' : World} (h : Below w.heap.size w w') : Step (fun _ => False) w w' := ⟨h.os, h.tape, h.output, h.size, fun k hk _ => h.block k hk⟩
def ThroughPost (ws : List Nat) (w : World) (e : Ending) (w' : World) : Prop := (∃ g, e = .returned (.slice (some ⟨g, 0, none⟩) ws.length ws.length) ∧ w.heap.size ≤ g ∧ SetB w' g ws) ∧ Step (fun _ => False) w w'

set_option maxRecDepth 100000 in
set_option maxHeartbeats 2000000 in
theorem through_any (B gs i : Nat) (p : Prb) (s gen kill : List Nat) (vs vg vk ve : Value) (w : World) (h : PrbAt w B p vs vg vk ve) (hs : SetB w gs s) (hg : p.gen[i]? = some gen) (hk : p.kill[i]? = some kill) (hB : B ≤ w.heap.size)
    (hgl : ∀ e ∈ gen, e / 64 < s.length) (hkl : ∀ e ∈ kill, e / 64 < s.length) (hsl : s.length ≤ 1000000) :
    Calls Try.prog 59 #[.agg #[vs, .int .i64 p.width, vg, vk, ve], .int .i64 i, .slice (some ⟨gs, 0, none⟩) s.length s.length] w (ThroughPost (setL (clrL s kill) gen) w) := by
  have H := Lib.hid h
  have HS := Lib.hid hs
  have HG := Lib.hid hg
  have HK := Lib.hid hk
  have HGL := Lib.hid hgl
  have HKL := Lib.hid hkl
  obtain ⟨⟨xs, h1, a, c, rfl, -⟩, ⟨xg, h2, a2, c2, rfl, -⟩, ⟨xk, h3, a3, c3, rfl, -⟩, ⟨a4, c4, rfl, -⟩⟩ := h
  have hmk := run_makeWords s.length hsl
  obtain ⟨W0, hW0⟩ : ∃ W0 : World, W0 = w.alloc (.cells #[.slice a p.succ.length c, .int .i64 p.width, .slice a2 p.gen.length c2, .slice a3 p.kill.length c3, .slice a4 p.entry.length c4] 82) := ⟨_, rfl⟩
  have ST0 : Step (fun _ => False) w W0 := by rw [hW0]; exact (Step.refl _ _).alloc _
  have HBX : Hid (∀ X, Below W0.heap.size W0 X → X.heap[w.heap.size]? = some (.cells #[.slice a p.succ.length c, .int .i64 p.width, .slice a2 p.gen.length c2, .slice a3 p.kill.length c3, .slice a4 p.entry.length c4] 82 (0, 0))) := by
    show ∀ X, _
    intro X hX
    rw [hX.block _ (by rw [hW0]; simp), hW0]; exact blk_new _ _
  have HSZ : Hid (W0.heap.size = w.heap.size + 1) := by show _ = _; rw [hW0]; simp
  have HW0 := Lib.hid hW0
  have HS0 := Lib.hid (HS.out.step ST0 (fun h => h))
  have hsz8 : (Try.prog.info? 41).map (·.size) = some 1 := by kernel_rfl
  clear h1 h2 h3 hs hg hk hgl hkl hW0
  go_enter Try.func59, Try.ntmps59
  go_upto_region 2 with fail
  rw [← HW0.out]
  obtain ⟨g1, hg1⟩ : ∃ g1, g1 = w.heap.size + 1 := ⟨_, rfl⟩
  have HG1 : Hid (g1 = W0.heap.size) := by show _ = _; rw [HSZ.out, hg1]
  have HG2 := Lib.hid hg1
  rw [← hg1]
  clear hg1
  have hbl : Below W0.heap.size W0 (W0.alloc (.cells (wordV (List.replicate s.length 0)).toArray 41)) := (Below.refl _ _).alloc (Nat.le_refl _) _
  have hnew : (W0.alloc (.cells (wordV (List.replicate s.length 0)).toArray 41)).heap[g1]? = some (.cells (wordV (List.replicate s.length 0)).toArray 41 (0, 0)) := by rw [HG1.out]; exact blk_new _ _
  have HSA : SetB (W0.alloc (.cells (wordV (List.replicate s.length 0)).toArray 41)) gs s := HS0.out.step ((Step.refl (fun _ => False) _).alloc _) (fun h => h)
  go_wp2_with (with_reducible refine wpList_copy_splice rfl (.tmp 13) (.tmp 14) 115 115 rfl 41 Try.underlying115 hsz8 (some ⟨g1, 0, none⟩) (some ⟨gs, 0, none⟩) s.length s.length s.length s.length rfl rfl g1 0 (wordV (List.replicate s.length 0)) 41 hnew (wordV s) (by simp [wordV_len]) (fun _ => ⟨rfl, _, rfl, words_row HSA⟩) (by simp [wordV_len]) (wordV_one s) W0.heap.size W0 hbl (by rw [HG1.out]; exact Nat.le_refl _) ?_)
  intro w1 hblk hb1
  have ST1 := step_of_below hb1
  have HSET1 : Hid (SetB w1 g1 s) := ⟨by have := hblk.out; rw [splice_all _ _ (by simp [wordV_len])] at this; exact this, HS.out.ok⟩
  have hbx := HBX.out w1 hb1
  have b2 := blk_cell hbx 2 _ rfl
  have b3 := blk_cell hbx 3 _ rfl
  have b0 := blk_cell hbx 0 _ rfl
  have b1 := blk_cell hbx 1 _ rfl
  have b4 := blk_cell hbx 4 _ rfl
  clear hblk hbx hmk hnew HSA hbl
  go_wp2_with fail
  refine (list_at B p.kill kill i _ w1 (H.out.k.step (ST0.trans ST1) (fun _ _ h => h)) HK.out).mono ?_
  rintro e w2 ⟨⟨u, rfl, hu⟩, rfl⟩
  obtain ⟨au, cu, rfl, hcu, hmu, -, hru⟩ := hu
  have HRU := Lib.hid hru
  clear hru b0 b1 b2 b3 b4
  go_wp2_with fail
  have hlt1 : B ≤ g1 := by rw [HG2.out]; omega
  go_loopg [9, 21] kill.length (fun gg _ s21 wr => ∃ j : Nat, s21 = .int .i64 j ∧ j ≤ kill.length ∧ kill.length - j ≤ gg ∧ SetB wr g1 (clrL s (kill.take j)) ∧ Step (· = g1) w1 wr)
  case atStart => exact ⟨0, rfl, Nat.zero_le _, by omega, HSET1.out, Step.refl _ _⟩
  case round =>
    obtain ⟨j, rfl, hj, hgg, hset, hst⟩ := hrel
    have HSET := Lib.hid hset
    clear hset
    by_cases hlt : j < kill.length
    · obtain ⟨x, hx⟩ : ∃ x, kill[j]? = some x := ⟨kill[j], List.getElem?_eq_getElem hlt⟩
      obtain ⟨g2, o2, rfl, hg2, -, hcell⟩ := HRU.out (by omega)
      have f0 := hst.cell (hcell j _ (natV_get kill j x hx)) (fun h => by simp at h; omega)
      have hxl := HKL.out x (List.mem_of_getElem? hx)
      have HT : Hid (clrL s (kill.take (j + 1)) = clrB (clrL s (kill.take j)) x) := by
        show _ = _
        obtain ⟨hi', rfl⟩ := List.getElem?_eq_some_iff.1 hx
        rw [List.take_succ_eq_append_getElem hi', clrL_snoc]
      obtain ⟨us, hus⟩ : ∃ us, us = clrL s (kill.take j) := ⟨_, rfl⟩
      have hul : us.length = s.length := by rw [hus, clrL_len]
      rw [← hus] at HSET HT
      have HUL := Lib.hid hul
      obtain ⟨q, hq⟩ : ∃ q, q = x / 64 := ⟨_, rfl⟩
      obtain ⟨r, hr⟩ : ∃ r, r = x % 64 := ⟨_, rfl⟩
      obtain ⟨m, hm⟩ : ∃ m, m = 2 ^ r := ⟨_, rfl⟩
      obtain ⟨y, hy⟩ : ∃ y, y = us.getD q 0 := ⟨_, rfl⟩
      obtain ⟨z, hz⟩ : ∃ z, z = y &&& (18446744073709551615 - m) := ⟨_, rfl⟩
      have f1 := HSET.out.cell q (by omega)
      rw [← hy] at f1
      have hy64 : y < 18446744073709551616 := by rw [hy]; exact words_get HSET.out.ok q
      have hm64 : m < 18446744073709551616 := by rw [hm, hr]; exact pow_lt x
      have R1 : IntKind.i64.wrap ((x : Int).tdiv 64) = (q : Int) := val_quo64 x q (by omega) hq
      have R2 : (x : Int).tmod 64 = (r : Int) := val_rem64 x r hr
      have R3 : Op.shift .shl .u64 1 .i64 (r : Int) = pure (.int .u64 (m : Int)) := val_shl1 r m (by omega) hm
      have R4 : bits .andNot .u64 (y : Int) (m : Int) = (z : Int) := val_andNot64 y m z hy64 hm64 hz
      have HT2 : Hid (clrL s (kill.take (j + 1)) = us.set q z) := by show _ = _; rw [HT.out, hz, hy, hm, hr, hq]; rfl
      have hb0 : (0 : Int) ≤ (q : Int) := by omega
      have hb1' : (q : Int) < (s.length : Int) := by have := HUL.out; omega
      have hb2 : q < s.length := by omega
      have HOK : Hid (words (us.set q z)) := by rw [← HT2.out]; rw [HT.out]; exact clrB_words HSET.out.ok x
      have hfz := blk_free HSET.out.blk q
      have R8 : IntKind.u64.wrap ((2 : Int) ^ r) = (m : Int) := val_pow r m (by omega) hm
      have R5 : (x : Int) / 64 = (q : Int) := by omega
      have R6 : (x : Int) % 64 = (r : Int) := by omega
      have R7 : IntKind.i64.wrap (q : Int) = (q : Int) := IntWalk.i64_in _ (by omega)
      clear hcell hx hus hul hq hr hm hy hz HT
      go_wp2
      go_still_tail 10, (by kernel_rfl)
      change wpList _ _ _ _ _ wr.drew
      go_wp2_with fail
      clear R1 R2 R3 R4 R5 R6 R7 R8 f0 f1 hfz
      have ST2 : Step (· = g1) w1 (wr.drew.setCell ⟨g1, q, none⟩ (.int .u64 (z : Int))) := hst.drew.setCell _ _ (fun _ => rfl)
      have HS2 : Hid (SetB (wr.drew.setCell ⟨g1, q, none⟩ (.int .u64 (z : Int))) g1 (clrL s (kill.take (j + 1)))) := by
        refine ⟨?_, by rw [HT2.out]; exact HOK.out⟩
        rw [HT2.out, ← wordV_set]
        exact blk_set (w := wr.drew) HSET.out.blk q _
      go_roundg (gk - 1)
      case rel => exact ⟨j + 1, by go_num, by omega, by omega, HS2.out, ST2⟩
      case measure => omega
    · have HF : Hid (SetB wr g1 (clrL s kill)) := by have := HSET.out; rw [List.take_of_length_le (by omega)] at this; exact this
      have hbx : wr.heap[w.heap.size]? = some (.cells #[.slice a p.succ.length c, .int .i64 p.width, .slice a2 p.gen.length c2, .slice a3 p.kill.length c3, .slice a4 p.entry.length c4] 82 (0, 0)) := hst.keep (HBX.out w1 hb1) (fun h => by have := HG2.out; omega)
      have b2 := blk_cell hbx 2 _ rfl
      have HSW : Hid (Step (fun q => g1 ≤ q) w wr) := (ST0.mono (fun _ _ h => h.elim) : Step (fun q => g1 ≤ q) _ _).trans ((ST1.mono (fun _ _ h => h.elim) : Step (fun q => g1 ≤ q) _ _).trans (hst.mono (fun q _ h => by rw [h]; exact Nat.le_refl _)))
      have HLL : Hid ((clrL s kill).length = s.length) := clrL_len _ _
      clear hbx
      go_wp2_with fail
      refine (list_at B p.gen gen i _ wr (H.out.g.step HSW.out (fun k hk h => by omega)) HG.out).mono ?_
      rintro e w2 ⟨⟨u2, rfl, hu2⟩, rfl⟩
      have HU2 := Lib.hid hu2
      obtain ⟨au2, cu2, rfl, -⟩ := hu2
      clear b2
      go_wp2_with fail
      rw [← HLL.out]
      refine (put_any B g1 (clrL s kill) gen _ wr HF.out HU2.out hlt1 (by rw [HLL.out]; exact HGL.out) (by rw [HLL.out]; exact hsl)).mono ?_
      rintro e w3 ⟨rfl, hs3, h3⟩
      have HS3 := Lib.hid hs3
      have HLL3 : Hid ((setL (clrL s kill) gen).length = (clrL s kill).length) := setL_len _ _
      clear hs3
      go_wp2
      go_ret
      refine ⟨⟨g1, (by rw [HLL3.out]; rfl), by rw [HG2.out]; omega, HS3.out⟩, ?_⟩
      have hz := HSW.out.trans (h3.mono (fun q _ h => by rw [h]; exact Nat.le_refl _))
      exact hz.mono (fun k hk h => by rw [HG2.out] at h; omega)

end Go.Proofs.Ytilipeigjkmldaa
