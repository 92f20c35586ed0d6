/- The law LiveUses, walked: it answers true. -/
import Derived.Test.YtilipeigjkmldaaLivedB
import Derived.Test.YtilipeigjkmldaaShBod
import Derived.Test.YtilipeigjkmldaaRefE
namespace Go.Proofs.Ytilipeigjkmldaa
open Go.RowKit

def LawPost (w : World) (e : Ending) (w' : World) : Prop := e = .returned (.bool true) ∧ Step (fun _ => False) w w'
/- A body's cells, and where they lie. -/
theorem BodAt.parts {w : World} {B : Nat} {b : Bod} {cs : List Value} (h : BodAt w B b cs) : ∃ a1 c1 a2 c2, cs = [.string b.name, .int .i64 b.params, .slice a1 b.locals c1, .slice a2 b.code.length c2] := by
  obtain ⟨vl, vc, xl, xs, rfl, ⟨a1, c1, rfl, -⟩, -, ⟨a2, c2, rfl, -⟩⟩ := h
  exact ⟨a1, c1, a2, c2, rfl⟩
theorem BodP.of_at {w : World} {B g : Nat} {b : Bod} {cs : List Value} (h : BodAt w B b cs) (hb : w.heap[g]? = some (.cells cs.toArray 29 (0, 0))) (hB : B ≤ w.heap.size) : BodP w w.heap.size g b :=
  ⟨blk_lt hb, blk_lt hb, cs, BodAt.mono hB _ _ h, fun i x hx => blk_cell hb i x (by simpa using hx)⟩

set_option maxRecDepth 100000 in
set_option maxHeartbeats 4000000 in
theorem liveUses_any (B : Nat) (s : Shp) (v : Value) (xs : List Value) (i n : Int) (w : World) (h1 : Each (CdAt w B) s.code xs) (h2 : Row w B v s.code.length xs) (hB : B ≤ w.heap.size) :
    Calls Try.prog 5 #[.agg #[.int .i64 s.params, v], .int .i64 i, .int .i64 n] w (LawPost w) := by
  have H1 := Lib.hid h1
  have H2 := Lib.hid h2
  obtain ⟨a1, c1, rfl, -⟩ := h2
  have ST0 : Step (fun _ => False) w (w.alloc (.cells #[.int .i64 s.params, .slice a1 s.code.length c1] 24)) := (Step.refl _ _).alloc _
  have HST0 := Lib.hid ST0
  have HNB := Lib.hid (blk_new w (.cells #[.int .i64 s.params, .slice a1 s.code.length c1] 24))
  clear h1 ST0
  go_enter Try.func5, Try.ntmps5
  go_wp2_with fail
  refine (lived_any _).mono ?_
  rintro e w1 ⟨rfl, h1⟩
  have HS1 := Lib.hid (HST0.out.trans h1)
  have hb1 := h1.keep HNB.out (fun h => h)
  have d0 := blk_cell hb1 0 _ rfl
  have d1 := blk_cell hb1 1 _ rfl
  have HB1 := Lib.hid hb1
  clear h1 hb1
  by_cases hlt : 40 < s.code.length
  · have e1 : decide (40 < s.code.length) = true := decide_eq_true hlt
    go_wp2_with fail
    refine (lived_any _).mono ?_
    rintro e w2 ⟨rfl, h2⟩
    go_wp2_with fail
    go_ret
    exact ⟨rfl, HS1.out.trans h2⟩
  · have e1 : decide (40 < s.code.length) = false := decide_eq_false hlt
    go_wp2_with fail
    refine (shBody_any B s _ xs w1 (Each.mono (CdAt.step HS1.out (fun _ _ h => h)) _ _ H1.out) (H2.out.step HS1.out (fun _ _ h => h)) (by omega) (Nat.le_trans hB HS1.out.size)).mono ?_
    rintro e w2 ⟨cs, rfl, hat, h2⟩
    obtain ⟨a2, c2, a3, c3, rfl⟩ := hat.parts
    obtain ⟨b, hb⟩ : ∃ b, b = shBod s := ⟨_, rfl⟩
    have HBL : Hid (b.code.length = s.code.length + 1) := by show _ = _; rw [hb, shBod_len]
    have HSM : Hid (BodSmall b) := by rw [hb]; exact shBod_small s
    rw [← hb] at hat
    rw [← hb]
    have HAT := Lib.hid hat
    have STA : Step (fun _ => False) w2 (w2.alloc (.cells #[.string b.name, .int .i64 b.params, .slice a2 b.locals c2, .slice a3 b.code.length c3] 29)) := (Step.refl _ _).alloc _
    have HSTA := Lib.hid STA
    have HNA := Lib.hid (blk_new w2 (.cells #[.string b.name, .int .i64 b.params, .slice a2 b.locals c2, .slice a3 b.code.length c3] 29))
    have HS2 := Lib.hid (HS1.out.trans h2)
    obtain ⟨m, hm⟩ : ∃ m : Nat, m = b.code.length := ⟨_, rfl⟩
    have hm1 : 0 < m ∧ m ≤ 41 := by have := HBL.out; omega
    obtain ⟨ui, hui⟩ : ∃ u : Int, u = IntKind.u64.wrap i := ⟨_, rfl⟩
    have R1 : IntKind.u64.wrap i = ui := hui.symm
    have hui0 : 0 ≤ ui := by rw [hui, wrap_u64']; omega
    obtain ⟨r, hr⟩ : ∃ r : Nat, (r : Int) = ui % (m : Int) := ⟨(ui % (m : Int)).toNat, Int.toNat_of_nonneg (Int.emod_nonneg _ (by omega))⟩
    have hrm : r < m := by have := Int.emod_lt_of_pos ui (show (0 : Int) < m by omega); omega
    have R2 : ui.tmod (m : Int) = (r : Int) := by rw [Int.tmod_eq_emod_of_nonneg hui0, hr]
    have R3 : ui % (m : Int) = (r : Int) := hr.symm
    have R4 : IntKind.i64.wrap (r : Int) = (r : Int) := IntWalk.i64_in _ (by omega)
    have R5 : IntKind.u64.wrap (m : Int) = (m : Int) := by rw [wrap_u64']; omega
    have R6 : ((m : Int) = 0) = False := by simp; omega
    obtain ⟨un, hun⟩ : ∃ u : Int, u = IntKind.u64.wrap n := ⟨_, rfl⟩
    have S1 : IntKind.u64.wrap n = un := hun.symm
    have hun0 : 0 ≤ un := by rw [hun, wrap_u64']; omega
    obtain ⟨q, hq⟩ : ∃ q : Int, q = un % 5 := ⟨_, rfl⟩
    have S2 : un.tmod 5 = q := by rw [Int.tmod_eq_emod_of_nonneg hun0, hq]
    have S3 : un % 5 = q := hq.symm
    have S4 : IntKind.i64.wrap q = q := IntWalk.i64_in _ (by omega)
    have HRM : Hid (r < b.code.length) := by show _ < _; omega
    rw [← hm] at HAT HSTA HNA ⊢
    have HM := Lib.hid hm
    clear hb hat h2 STA hui hun hr hq hm hui0 hun0 d0 d1
    go_upto_region 6 with fail
    have b0 := blk_cell HNA.out 0 _ rfl
    have b1 := blk_cell HNA.out 1 _ rfl
    have b2 := blk_cell HNA.out 2 _ rfl
    have b3 := blk_cell HNA.out 3 _ rfl
    clear R1 R2 R3 R4 R5 R6 S1 S2 S3 S4
    go_wp2_with fail
    refine (does_any w2.heap.size b [.string b.name, .int .i64 b.params, .slice a2 b.locals c2, .slice a3 m c3] r q _ (BodAt.step HSTA.out (fun _ _ h => h) _ _ HAT.out) HRM.out HSM.out (by simp)).mono ?_
    rintro e w3 ⟨rfl, h3⟩
    obtain ⟨uB, huB⟩ : ∃ x, x = usedB b r q := ⟨_, rfl⟩
    obtain ⟨lB, hlB⟩ : ∃ x, x = lostB b r q := ⟨_, rfl⟩
    rw [← huB, ← hlB]
    have HUB := Lib.hid huB
    have HLB := Lib.hid hlB
    clear huB hlB
    have HS3 := Lib.hid (HSTA.out.trans h3)
    have HBP : Hid (BodP w3 w3.heap.size (w2.heap.size) b) := BodP.of_at (BodAt.step (HSTA.out.trans h3) (fun _ _ h => h) _ _ HAT.out) (h3.keep HNA.out (fun h => h)) (HSTA.out.trans h3).size
    clear h3 b0 b1 b2 b3
    go_wp2_with fail
    have HU : Hid (Calls Try.prog 18 #[.pointer (some ⟨w2.heap.size, 0, none⟩), .int .i64 r, .int .i64 q] w3 (IsBool uB w3)) := by rw [HUB.out]; exact used_any w3.heap.size w2.heap.size b r q w3 HBP.out HRM.out HSM.out (Nat.le_refl _)
    refine HU.out.mono ?_
    rintro e w4 ⟨rfl, h4⟩
    have HL : Hid (Calls Try.prog 19 #[.pointer (some ⟨w2.heap.size, 0, none⟩), .int .i64 r, .int .i64 q] w4 (IsBool lB w4)) := by rw [HLB.out]; exact lost_any w3.heap.size w2.heap.size b r q w4 (HBP.out.step h4 (fun _ _ h => h)) HRM.out HSM.out h4.size
    have E1 : (uB == uB) = true := by simp
    have E2 : (lB == lB) = true := by simp
    go_wp2_with fail
    refine HL.out.mono ?_
    rintro e w5 ⟨rfl, h5⟩
    go_wp2_with fail
    go_ret
    exact ⟨rfl, ((HS2.out.trans HS3.out).trans h4).trans h5⟩

end Go.Proofs.Ytilipeigjkmldaa
