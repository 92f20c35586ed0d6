/- Contracts of package flow: facts are put into a set. -/
import Derived.Test.YtilipeigjkmldaaBodJ
import Derived.Test.YtilipeigjkmldaaFlowTh
import Derived.Test.YtilipeigjkmldaaFlowOps
import Derived.StillTailTactics
namespace Go.Proofs.Ytilipeigjkmldaa
open Go.RowKit

def natV (l : List Nat) : List Value := intsV (l.map Int.ofNat)
def wordV (ws : List Nat) : List Value := ws.map (fun (n : Nat) => Value.int .u64 n)
theorem natV_get (l : List Nat) (i x : Nat) (h : l[i]? = some x) : (natV l)[i]? = some (.int .i64 x) := by simp [natV, intsV, h]
theorem wordV_get (ws : List Nat) (i : Nat) (h : i < ws.length) : (wordV ws)[i]? = some (.int .u64 (ws.getD i 0 : Nat)) := by simp [wordV, List.getD_eq_getElem?_getD, List.getElem?_eq_getElem h]
theorem wordV_len (ws : List Nat) : (wordV ws).length = ws.length := by simp [wordV]
theorem wordV_set (ws : List Nat) (i x : Nat) : (wordV ws).toArray.setIfInBounds i (.int .u64 x) = (wordV (ws.set i x)).toArray := by
  simp [wordV, List.map_set]
/- A set of facts in a block of its own. -/
structure SetB (w : World) (g : Nat) (ws : List Nat) : Prop where
  blk : w.heap[g]? = some (.cells (wordV ws).toArray 41 (0, 0))
  ok : words ws
theorem SetB.step {S : Nat → Prop} {w w' : World} {g : Nat} {ws : List Nat} (h : SetB w g ws) (hs : Step S w w') (hn : ¬ S g) : SetB w' g ws := ⟨hs.keep h.blk hn, h.ok⟩
theorem SetB.cell {w : World} {g : Nat} {ws : List Nat} (h : SetB w g ws) (i : Nat) (hi : i < ws.length) : w.cell? ⟨g, i, none⟩ = some (.int .u64 (ws.getD i 0 : Nat)) := blk_cell h.blk i _ (by simpa using wordV_get ws i hi)
theorem SetB.drew {w : World} {g : Nat} {ws : List Nat} (h : SetB w g ws) (n : Nat) : SetB (w.drewN n) g ws := ⟨h.blk, h.ok⟩

def PutPost (g : Nat) (ws : List Nat) (w : World) (e : Ending) (w' : World) : Prop := e = .returned (.tuple #[]) ∧ SetB w' g ws ∧ Step (· = g) w w'

set_option maxRecDepth 100000 in
set_option maxHeartbeats 1000000 in
theorem put_any (B g : Nat) (ws l : List Nat) (v : Value) (w : World) (hs : SetB w g ws) (hl : Row w B v l.length (natV l)) (hB : B ≤ g) (he : ∀ e ∈ l, e / 64 < ws.length) (hw : ws.length ≤ 1000000) :
    Calls Try.prog 78 #[.slice (some ⟨g, 0, none⟩) ws.length ws.length, v] w (PutPost g (setL ws l) w) := by
  obtain ⟨a, c, rfl, hcl, hcm, -, hr⟩ := hl
  have HR := Lib.hid hr
  have HS := Lib.hid hs
  have HE := Lib.hid he
  clear hr hs he
  go_enter Try.func78, Try.ntmps78
  go_wp2_with fail
  go_loopg [5, 8] l.length (fun gg _ s8 wr => ∃ i : Nat, s8 = .int .i64 i ∧ i ≤ l.length ∧ l.length - i ≤ gg ∧ SetB wr g (setL ws (l.take i)) ∧ Step (· = g) w wr)
  case atStart => exact ⟨0, rfl, Nat.zero_le _, by omega, HS.out, Step.refl _ _⟩
  case round =>
    obtain ⟨i, rfl, hi, hgg, hset, hst⟩ := hrel
    have HSET := Lib.hid hset
    clear hset
    by_cases hlt : i < l.length
    · obtain ⟨x, hx⟩ : ∃ x, l[i]? = some x := ⟨l[i], List.getElem?_eq_getElem hlt⟩
      obtain ⟨g2, o2, rfl, hg2, -, hcell⟩ := HR.out (by omega)
      have f0 := hst.cell (hcell i _ (natV_get l i x hx)) (fun h => by simp at h; omega)
      have hxl := HE.out x (List.mem_of_getElem? hx)
      have HT : Hid (setL ws (l.take (i + 1)) = setB (setL ws (l.take i)) x) := by
        show _ = _
        obtain ⟨hi', rfl⟩ := List.getElem?_eq_some_iff.1 hx
        rw [List.take_succ_eq_append_getElem hi', setL_snoc]
      obtain ⟨us, hus⟩ : ∃ us, us = setL ws (l.take i) := ⟨_, rfl⟩
      have hul : us.length = ws.length := by rw [hus, setL_len]
      rw [← hus] at HSET HT
      have HUL := Lib.hid hul
      obtain ⟨q, hq⟩ : ∃ q, q = x / 64 := ⟨_, rfl⟩
      obtain ⟨r, hr⟩ : ∃ r, r = x % 64 := ⟨_, rfl⟩
      obtain ⟨m, hm⟩ : ∃ m, m = 2 ^ r := ⟨_, rfl⟩
      obtain ⟨y, hy⟩ : ∃ y, y = us.getD q 0 := ⟨_, rfl⟩
      obtain ⟨z, hz⟩ : ∃ z, z = y ||| m := ⟨_, rfl⟩
      have f1 := HSET.out.cell q (by omega)
      rw [← hy] at f1
      have hy64 : y < 18446744073709551616 := by rw [hy]; exact words_get HSET.out.ok q
      have hm64 : m < 18446744073709551616 := by rw [hm, hr]; exact pow_lt x
      have R1 : IntKind.i64.wrap ((x : Int).tdiv 64) = (q : Int) := val_quo64 x q (by omega) hq
      have R2 : (x : Int).tmod 64 = (r : Int) := val_rem64 x r hr
      have R3 : Op.shift .shl .u64 1 .i64 (r : Int) = pure (.int .u64 (m : Int)) := val_shl1 r m (by omega) hm
      have R4 : bits .or .u64 (y : Int) (m : Int) = (z : Int) := val_or64 y m z hy64 hm64 hz
      have HT2 : Hid (setL ws (l.take (i + 1)) = us.set q z) := by show _ = _; rw [HT.out, hz, hy, hm, hr, hq]; rfl
      have hb0 : (0 : Int) ≤ (q : Int) := by omega
      have hb1 : (q : Int) < (ws.length : Int) := by have := HUL.out; omega
      have hb2 : q < ws.length := by omega
      have HOK : Hid (words (us.set q z)) := by rw [← HT2.out]; rw [HT.out]; exact setB_words HSET.out.ok x
      have hfz := blk_free HSET.out.blk q
      have R8 : IntKind.u64.wrap ((2 : Int) ^ r) = (m : Int) := val_pow r m (by omega) hm
      have R5 : (x : Int) / 64 = (q : Int) := by omega
      have R6 : (x : Int) % 64 = (r : Int) := by omega
      have R7 : IntKind.i64.wrap (q : Int) = (q : Int) := IntWalk.i64_in _ (by omega)
      clear hcell hx hus hul hq hr hm hy hz HT
      go_wp2
      go_still_tail 10, (by kernel_rfl)
      change wpList _ _ _ _ _ wr.drew
      go_wp2_with fail
      clear R1 R2 R3 R4 R5 R6 R7 R8 f0 f1 hfz
      have ST1 : Step (· = g) w (wr.drew.setCell ⟨g, q, none⟩ (.int .u64 (z : Int))) := hst.drew.setCell _ _ (fun _ => rfl)
      have HS1 : Hid (SetB (wr.drew.setCell ⟨g, q, none⟩ (.int .u64 (z : Int))) g (setL ws (l.take (i + 1)))) := by
        refine ⟨?_, by rw [HT2.out]; exact HOK.out⟩
        rw [HT2.out, ← wordV_set]
        exact blk_set (w := wr.drew) HSET.out.blk q _
      go_roundg (gk - 1)
      case rel => exact ⟨i + 1, by go_num, by omega, by omega, HS1.out, ST1⟩
      case measure => omega
    · have HF : Hid (SetB wr g (setL ws l)) := by have := HSET.out; rw [List.take_of_length_le (by omega)] at this; exact this
      go_wp2
      refine bodyPost_ret (results_none rfl _ _ _) rfl ?_
      exact ⟨rfl, HF.out, hst⟩

end Go.Proofs.Ytilipeigjkmldaa
