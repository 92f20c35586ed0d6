/- The law LiveBad, walked: it answers true. -/
import Derived.Test.YtilipeigjkmldaaLawA
namespace Go.Proofs.Ytilipeigjkmldaa
open Go.RowKit

def jmpI (t : Int) : Ins := mkI 4 0 noPl 0 [] noPl false noOp t 0
def jmpC (t : Int) : List Value := insCells 4 0 0 (.slice none 0 0) 0 (.slice none 0 0) 0 (.slice none 0 0) false 0 0 0 (.slice none 0 0) 0 0 t 0
def badB (b : Bod) (k : Nat) (t : Int) : Bod := { b with code := b.code.set k (jmpI t) }
theorem jmpI_at {w : World} {B : Nat} (t : Int) : InAt w B (jmpI t) (jmpC t) := insAt (Row.nil _ _ _) Each.nil (Row.nil _ _ _) (Row.nil _ _ _) (Row.nil _ _ _)
theorem chk_bad {b : Bod} {k : Nat} (hk : k < b.code.length) (h : atOk b k = false) : chkF b ≠ -1 := by
  unfold chkF
  split
  · intro e
    have h1 := idxI_ge (fun i => !atOk b i) (List.range b.code.length)
    rw [e] at h1
    have h2 : (List.range b.code.length).any (fun i => !atOk b i) = true := List.any_eq_true.2 ⟨k, List.mem_range.2 hk, by simp [h]⟩
    rw [h2] at h1
    simp at h1
  · decide
theorem badB_at {b : Bod} {k : Nat} {t : Int} (hk : k < b.code.length) (ht : t < 0 ∨ (b.code.length : Int) ≤ t) : atOk (badB b k t) k = false := by
  have h1 : (badB b k t).code[k]? = some (jmpI t) := by simp [badB, hk]
  have h2 : (badB b k t).code.length = b.code.length := by simp [badB]
  simp only [atOk, h1, h2]
  have h3 : succI (jmpI t) k = [t] := rfl
  rw [h3]
  rcases ht with ht | ht
  · have : decide (0 ≤ t) = false := decide_eq_false (by omega)
    simp [this]
  · have : decide (t < (b.code.length : Int)) = false := decide_eq_false (by omega)
    simp [this]
/- A row in which one thing is put in another's place. -/
theorem Each.put {α : Type} {R : α → List Value → Prop} (size : Nat) (hsz : ∀ t cs, R t cs → cs.length = size) : ∀ (l : List α) (xs : List Value) (k : Nat) (t : α) (cs : List Value), Each R l xs → k < l.length → R t cs → Each R (l.set k t) (xs.take (k * size) ++ (cs ++ xs.drop (k * size + size)))
  | [], _, _, _, _, _, hk, _ => by simp at hk
  | a :: r, xs, 0, t, cs, h, _, ht => by
    rw [Each] at h
    obtain ⟨c1, c2, rfl, h1, h2⟩ := h
    rw [List.set_cons_zero, Each]
    refine ⟨cs, c2, ?_, ht, h2⟩
    rw [Nat.zero_mul, List.take_zero, List.nil_append, Nat.zero_add, ← hsz a c1 h1, List.drop_left]
  | a :: r, xs, k + 1, t, cs, h, hk, ht => by
    rw [Each] at h
    obtain ⟨c1, c2, rfl, h1, h2⟩ := h
    rw [List.set_cons_succ, Each]
    have hl := hsz a c1 h1
    refine ⟨c1, _, ?_, h1, Each.put size hsz r c2 k t cs h2 (by simpa using hk) ht⟩
    have e1 : (k + 1) * size = c1.length + k * size := by rw [hl, Nat.add_mul, Nat.one_mul]; omega
    rw [e1, List.take_length_add_append, Nat.add_assoc, List.drop_length_add_append, List.append_assoc]

structure BadJ (w3 : World) (g5 gc r m : Nat) (k ui : Int) (vc : Value) (cur : Array Value) (L : Nat → Bool) (V : Nat → Value) (X : World) : Prop where
  same : L 12 = false → X = w3.drew
  p0 : L 0 = true → V 0 = .pointer (some ⟨g5, 3, none⟩)
  p1 : L 1 = true → V 1 = vc
  p2 : L 2 = true → V 2 = .int .i64 k
  p3 : L 3 = true → V 3 = .int .u64 ui
  p4 : L 4 = true → V 4 = .pointer (some ⟨g5, 3, none⟩)
  p5 : L 5 = true → V 5 = vc
  p6 : L 6 = true → V 6 = .int .i64 m
  p7 : L 7 = true → V 7 = .int .u64 m
  p8 : L 8 = true → V 8 = .int .u64 r
  p9 : L 9 = true → V 9 = .int .i64 r
  p10 : L 10 = true → V 10 = .agg (jmpC (-1)).toArray
  p11 : L 11 = true → V 11 = .pointer (some ⟨gc, r * 21, none⟩)
  q12 : L 12 = true → ∀ i, i < 12 → L i = true
  p12 : L 12 = true → X.heap[gc]? = some (.cells (cur.toList.take (r * 21) ++ (jmpC (-1) ++ cur.toList.drop (r * 21 + (jmpC (-1)).length))).toArray 57 (0, 0)) ∧ Step (· = gc) w3 X

set_option maxRecDepth 100000 in
theorem used_nil (i n : Int) (w : World) : Calls Try.prog 18 #[.pointer none, .int .i64 i, .int .i64 n] w fun e w' => e = .returned (.bool false) ∧ Step (fun _ => False) w w' := by
  go_enter Try.func18, Try.ntmps18
  go_wp2_with fail
  refine (acc_nil w i).mono ?_
  rintro e w1 ⟨⟨v, xs, rfl, -, ⟨a, c, rfl, -⟩⟩, h1⟩
  go_wp2_with fail
  go_loopg [13] 0 (fun gg s13 wr => s13 = .int .i64 0 ∧ Step (fun _ => False) w1 wr)
  case atStart => exact ⟨rfl, Step.refl _ _⟩
  case round =>
    obtain ⟨rfl, hst⟩ := hrel
    go_wp2_with fail
    go_ret
    exact ⟨rfl, h1.trans hst⟩
set_option maxRecDepth 100000 in
theorem lost_nil (i n : Int) (w : World) : Calls Try.prog 19 #[.pointer none, .int .i64 i, .int .i64 n] w fun e w' => e = .returned (.bool false) ∧ Step (fun _ => False) w w' := by
  go_enter Try.func19, Try.ntmps19
  go_wp2_with fail
  refine (acc_nil w i).mono ?_
  rintro e w1 ⟨⟨v, xs, rfl, -, ⟨a, c, rfl, -⟩⟩, h1⟩
  go_wp2_with fail
  go_loopg [13] 0 (fun gg s13 wr => s13 = .int .i64 0 ∧ Step (fun _ => False) w1 wr)
  case atStart => exact ⟨rfl, Step.refl _ _⟩
  case round =>
    obtain ⟨rfl, hst⟩ := hrel
    go_wp2_with fail
    go_ret
    exact ⟨rfl, h1.trans hst⟩

set_option maxRecDepth 100000 in
set_option maxHeartbeats 4000000 in
theorem liveBad_any (B : Nat) (s : Shp) (v : Value) (xs : List Value) (k : Int) (w : World) (h1 : Each (CdAt w B) s.code xs) (h2 : Row w B v s.code.length xs) (hB : B ≤ w.heap.size) :
    Calls Try.prog 6 #[.agg #[.int .i64 s.params, v], .int .i64 k] w (LawPost w) := by
  have H1 := Lib.hid h1
  have H2 := Lib.hid h2
  obtain ⟨a1, c1, rfl, -⟩ := h2
  have ST0 : Step (fun _ => False) w (w.alloc (.cells #[.int .i64 s.params, .slice a1 s.code.length c1] 24)) := (Step.refl _ _).alloc _
  have HST0 := Lib.hid ST0
  have HNB := Lib.hid (blk_new w (.cells #[.int .i64 s.params, .slice a1 s.code.length c1] 24))
  clear h1 ST0
  go_enter Try.func6, Try.ntmps6
  go_wp2_with fail
  refine (lived_any _).mono ?_
  rintro e w1 ⟨rfl, h1⟩
  have HS1 := Lib.hid (HST0.out.trans h1)
  have HSZ : Hid (w.heap.size < w1.heap.size) := Nat.lt_of_lt_of_le (by simp) h1.size
  have hb1 := h1.keep HNB.out (fun h => h)
  have d0 := blk_cell hb1 0 _ rfl
  have d1 := blk_cell hb1 1 _ rfl
  clear h1 hb1
  by_cases hlt : 25 < s.code.length
  · have e1 : decide (25 < s.code.length) = true := decide_eq_true hlt
    go_wp2_with fail
    refine (lived_any _).mono ?_
    rintro e w2 ⟨rfl, h2⟩
    go_wp2_with fail
    go_ret
    exact ⟨rfl, HS1.out.trans h2⟩
  · have e1 : decide (25 < s.code.length) = false := decide_eq_false hlt
    go_wp2_with fail
    refine (shBody_own B s _ xs w1 (Each.mono (CdAt.step HS1.out (fun _ _ h => h)) _ _ H1.out) (H2.out.step HS1.out (fun _ _ h => h)) (by omega) (Nat.le_trans hB HS1.out.size)).mono ?_
    rintro e w2 ⟨vl, vc, ys, base, G, rfl, hrl, hgr, hbase, h2⟩
    obtain ⟨b, hb⟩ : ∃ b, b = shBod s := ⟨_, rfl⟩
    have HBL : Hid (b.code.length = s.code.length + 1) := by show _ = _; rw [hb, shBod_len]
    have HPN : Hid (b.name = ⟨#[]⟩ ∧ b.locals = 4) := by rw [hb]; exact ⟨rfl, rfl⟩
    rw [← hb] at hgr ⊢
    have HRL := Lib.hid hrl
    obtain ⟨al, cl, rfl, -⟩ := hrl
    have ho := hgr.own
    obtain ⟨m, hm⟩ : ∃ m : Nat, m = b.code.length := ⟨_, rfl⟩
    rw [← hm] at ho
    have hm1 : 0 < m ∧ m ≤ 26 := by have := HBL.out; omega
    obtain ⟨gc, cap, cur, rfl, hgb, hcur, hmc, hcm, hcs, htk⟩ : ∃ gc cap cur, vc = .slice (some ⟨gc, 0, none⟩) m cap ∧ base ≤ gc ∧ w2.heap[gc]? = some (.cells cur 57 (0, 0)) ∧ m ≤ cap ∧ cap ≤ maxLen ∧ cur.size = cap * 21 ∧ cur.toList.take (m * 21) = ys := by
      rcases ho.2 with ⟨-, h0⟩ | ⟨g, cap, cur, h⟩
      · omega
      · exact ⟨g, cap, cur, h⟩
    obtain ⟨g5, hg5⟩ : ∃ g5, g5 = w2.heap.size := ⟨_, rfl⟩
    obtain ⟨w3, hw3⟩ : ∃ w3, w3 = w2.alloc (.cells #[.string ⟨#[]⟩, .int .i64 b.params, .slice al 4 cl, .slice (some ⟨gc, 0, none⟩) m cap] 29) := ⟨_, rfl⟩
    have hst3 : Step (fun _ => False) w2 w3 := by rw [hw3]; exact (Step.refl _ _).alloc _
    have HB5 : Hid (w3.heap[g5]? = some (.cells #[.string ⟨#[]⟩, .int .i64 b.params, .slice al 4 cl, .slice (some ⟨gc, 0, none⟩) m cap] 29 (0, 0))) := by show _ = _; rw [hw3, hg5]; exact blk_new _ _
    have HCUR := Lib.hid (hst3.keep hcur (fun h => h))
    have HGR3 := Lib.hid (hgr.keep InAt.stays hst3 (fun _ _ h => h.elim) (fun _ _ => rfl) (fun _ _ h => h))
    have HGC : Hid (G gc = true ∧ gc < g5 ∧ w.heap.size < gc) := by
      show _ ∧ _
      refine ⟨hgr.inG gc rfl, by rw [hg5]; exact blk_lt hcur, ?_⟩
      have h1 := HSZ.out
      omega
    have HRL3 := Lib.hid (HRL.out.step hst3 (fun _ _ h => h))
    have HS3 := Lib.hid (HS1.out.trans (h2.trans hst3))
    obtain ⟨ui, hui⟩ : ∃ u : Int, u = IntKind.u64.wrap k := ⟨_, rfl⟩
    have R1 : IntKind.u64.wrap k = ui := hui.symm
    have hui0 : 0 ≤ ui := by rw [hui, wrap_u64']; omega
    obtain ⟨r, hr⟩ : ∃ r : Nat, (r : Int) = ui % (m : Int) := ⟨(ui % (m : Int)).toNat, Int.toNat_of_nonneg (Int.emod_nonneg _ (by omega))⟩
    have hrm : r < m := by have := Int.emod_lt_of_pos ui (show (0 : Int) < m by omega); omega
    have R2 : ui.tmod (m : Int) = (r : Int) := by rw [Int.tmod_eq_emod_of_nonneg hui0, hr]
    have R3 : ui % (m : Int) = (r : Int) := hr.symm
    have R4 : IntKind.i64.wrap (r : Int) = (r : Int) := IntWalk.i64_in _ (by omega)
    have R5 : IntKind.u64.wrap (m : Int) = (m : Int) := by rw [wrap_u64']; omega
    have R6 : ((m : Int) = 0) = False := by simp; omega
    have R7 : (m = 0) = False := by simp; omega
    have hi0 : (0 : Int) ≤ (r : Int) := by omega
    have hi1 : (r : Int) < (m : Int) := by omega
    have HRM := Lib.hid hrm
    have HMC := Lib.hid hmc
    have HROOM : Hid (r * 21 + (jmpC (-1)).length ≤ cur.size) := by
      show r * 21 + 21 ≤ cur.size
      rw [hcs]
      have : r * 21 + 21 ≤ cap * 21 := by omega
      exact this
    have HTK := Lib.hid htk
    have HCAP := Lib.hid hcm
    have HM := Lib.hid hm
    have c3 := blk_cell HB5.out 3 _ rfl
    have HW3 := Lib.hid hw3
    have HG5 := Lib.hid hg5
    clear hb hgr h2 ho hgb hcur hmc hcm hcs htk hst3 hui hr hui0 hrm d0 d1 hw3 hg5 hm hbase
    go_upto_region 4 with fail
    rw [← HG5.out, ← HW3.out]
    go_cut [] (fun wx => wx.heap[gc]? = some (.cells (cur.toList.take (r * 21) ++ (jmpC (-1) ++ cur.toList.drop (r * 21 + (jmpC (-1)).length))).toArray 57 (0, 0)) ∧ Step (· = gc) w3 wx)
    case first =>
      refine wp_region_rely (by kernel_rfl) (BadJ w3 g5 gc r m k ui (.slice (some ⟨gc, 0, none⟩) m cap) cur) 13 rfl (by kernel_rfl) (by kernel_rfl) (by kernel_rfl) (by kernel_rfl) ?h0 ?hs ?hdone
      case h0 => exact ⟨fun _ => rfl, (fun h => nomatch h), (fun h => nomatch h), (fun h => nomatch h), (fun h => nomatch h), (fun h => nomatch h), (fun h => nomatch h), (fun h => nomatch h), (fun h => nomatch h), (fun h => nomatch h), (fun h => nomatch h), (fun h => nomatch h), (fun h => nomatch h), (fun h => nomatch h), (fun h => nomatch h)⟩
      case hs =>
        refine ⟨?_, ?_, ?_, ?_, ?_, ?_, ?_, ?_, ?_, ?_, ?_, ?_, ?_, trivial⟩
        · intro L V X a ev evo hL hdep hJ
          have h12 : L 12 = false := by
            cases e : L 12 with
            | false => rfl
            | true => exact absurd (hJ.q12 e 0 (by decide)) (by rw [hL]; decide)
          obtain rfl := hJ.same h12
          have o1 := evo 5 rfl
          change a.tmps[5]?.getD undef = .pointer (some ⟨g5, 0, none⟩) at o1
          go_simp
          exact ⟨_, rfl, { hJ with q12 := fun e => absurd (show L 12 = true from e) (by rw [h12]; decide), p0 := fun _ => rfl }⟩
        · intro L V X a ev evo hL hdep hJ
          have h12 : L 12 = false := by
            cases e : L 12 with
            | false => rfl
            | true => exact absurd (hJ.q12 e 1 (by decide)) (by rw [hL]; decide)
          obtain rfl := hJ.same h12
          have e200 := (ev 0 21 rfl (hdep 0 rfl)).trans (hJ.p0 (hdep 0 rfl))
          go_simp
          exact ⟨_, rfl, { hJ with q12 := fun e => absurd (show L 12 = true from e) (by rw [h12]; decide), p1 := fun _ => rfl }⟩
        · intro L V X a ev evo hL hdep hJ
          have h12 : L 12 = false := by
            cases e : L 12 with
            | false => rfl
            | true => exact absurd (hJ.q12 e 2 (by decide)) (by rw [hL]; decide)
          obtain rfl := hJ.same h12
          have o1 := evo 1 rfl
          change a.tmps[1]?.getD undef = .int .i64 k at o1
          go_simp
          exact ⟨_, rfl, { hJ with q12 := fun e => absurd (show L 12 = true from e) (by rw [h12]; decide), p2 := fun _ => rfl }⟩
        · intro L V X a ev evo hL hdep hJ
          have h12 : L 12 = false := by
            cases e : L 12 with
            | false => rfl
            | true => exact absurd (hJ.q12 e 3 (by decide)) (by rw [hL]; decide)
          obtain rfl := hJ.same h12
          have e202 := (ev 2 23 rfl (hdep 2 rfl)).trans (hJ.p2 (hdep 2 rfl))
          go_simp
          exact ⟨_, rfl, { hJ with q12 := fun e => absurd (show L 12 = true from e) (by rw [h12]; decide), p3 := fun _ => rfl }⟩
        · intro L V X a ev evo hL hdep hJ
          have h12 : L 12 = false := by
            cases e : L 12 with
            | false => rfl
            | true => exact absurd (hJ.q12 e 4 (by decide)) (by rw [hL]; decide)
          obtain rfl := hJ.same h12
          have o1 := evo 5 rfl
          change a.tmps[5]?.getD undef = .pointer (some ⟨g5, 0, none⟩) at o1
          go_simp
          exact ⟨_, rfl, { hJ with q12 := fun e => absurd (show L 12 = true from e) (by rw [h12]; decide), p4 := fun _ => rfl }⟩
        · intro L V X a ev evo hL hdep hJ
          have h12 : L 12 = false := by
            cases e : L 12 with
            | false => rfl
            | true => exact absurd (hJ.q12 e 5 (by decide)) (by rw [hL]; decide)
          obtain rfl := hJ.same h12
          have e204 := (ev 4 25 rfl (hdep 4 rfl)).trans (hJ.p4 (hdep 4 rfl))
          go_simp
          exact ⟨_, rfl, { hJ with q12 := fun e => absurd (show L 12 = true from e) (by rw [h12]; decide), p5 := fun _ => rfl }⟩
        · intro L V X a ev evo hL hdep hJ
          have h12 : L 12 = false := by
            cases e : L 12 with
            | false => rfl
            | true => exact absurd (hJ.q12 e 6 (by decide)) (by rw [hL]; decide)
          obtain rfl := hJ.same h12
          have e205 := (ev 5 26 rfl (hdep 5 rfl)).trans (hJ.p5 (hdep 5 rfl))
          go_simp
          exact ⟨_, rfl, { hJ with q12 := fun e => absurd (show L 12 = true from e) (by rw [h12]; decide), p6 := fun _ => rfl }⟩
        · intro L V X a ev evo hL hdep hJ
          have h12 : L 12 = false := by
            cases e : L 12 with
            | false => rfl
            | true => exact absurd (hJ.q12 e 7 (by decide)) (by rw [hL]; decide)
          obtain rfl := hJ.same h12
          have e206 := (ev 6 27 rfl (hdep 6 rfl)).trans (hJ.p6 (hdep 6 rfl))
          go_simp
          exact ⟨_, rfl, { hJ with q12 := fun e => absurd (show L 12 = true from e) (by rw [h12]; decide), p7 := fun _ => rfl }⟩
        · intro L V X a ev evo hL hdep hJ
          have h12 : L 12 = false := by
            cases e : L 12 with
            | false => rfl
            | true => exact absurd (hJ.q12 e 8 (by decide)) (by rw [hL]; decide)
          obtain rfl := hJ.same h12
          have e203 := (ev 3 24 rfl (hdep 3 rfl)).trans (hJ.p3 (hdep 3 rfl))
          have e207 := (ev 7 28 rfl (hdep 7 rfl)).trans (hJ.p7 (hdep 7 rfl))
          go_simp
          exact ⟨_, rfl, { hJ with q12 := fun e => absurd (show L 12 = true from e) (by rw [h12]; decide), p8 := fun _ => rfl }⟩
        · intro L V X a ev evo hL hdep hJ
          have h12 : L 12 = false := by
            cases e : L 12 with
            | false => rfl
            | true => exact absurd (hJ.q12 e 9 (by decide)) (by rw [hL]; decide)
          obtain rfl := hJ.same h12
          have e208 := (ev 8 29 rfl (hdep 8 rfl)).trans (hJ.p8 (hdep 8 rfl))
          go_simp
          exact ⟨_, rfl, { hJ with q12 := fun e => absurd (show L 12 = true from e) (by rw [h12]; decide), p9 := fun _ => rfl }⟩
        · intro L V X a ev evo hL hdep hJ
          have h12 : L 12 = false := by
            cases e : L 12 with
            | false => rfl
            | true => exact absurd (hJ.q12 e 10 (by decide)) (by rw [hL]; decide)
          obtain rfl := hJ.same h12
          go_simp
          exact ⟨_, rfl, { hJ with q12 := fun e => absurd (show L 12 = true from e) (by rw [h12]; decide), p10 := fun _ => rfl }⟩
        · intro L V X a ev evo hL hdep hJ
          have h12 : L 12 = false := by
            cases e : L 12 with
            | false => rfl
            | true => exact absurd (hJ.q12 e 11 (by decide)) (by rw [hL]; decide)
          obtain rfl := hJ.same h12
          have e201 := (ev 1 22 rfl (hdep 1 rfl)).trans (hJ.p1 (hdep 1 rfl))
          have e209 := (ev 9 30 rfl (hdep 9 rfl)).trans (hJ.p9 (hdep 9 rfl))
          go_simp
          exact ⟨_, rfl, { hJ with q12 := fun e => absurd (show L 12 = true from e) (by rw [h12]; decide), p11 := fun _ => rfl }⟩
        · intro L V X a ev evo hL hdep hJ
          have h12 : L 12 = false := hL
          obtain rfl := hJ.same h12
          have e211 := (ev 11 32 rfl (hdep 11 rfl)).trans (hJ.p11 (hdep 11 rfl))
          have e210 := (ev 10 31 rfl (hdep 10 rfl)).trans (hJ.p10 (hdep 10 rfl))
          refine wp_store_part 57 (.tmp 32) (.tmp 31) rfl gc (r * 21) 57 cur (jmpC (-1)) (by rw [evalTmp]; exact e211) (by rw [evalTmp]; exact e210) HCUR.out Try.sizeIns2 HROOM.out (insCells_one rfl rfl rfl rfl) (fun w6 hb6 hst6 => ⟨undef, rfl, { hJ with same := fun e => (nomatch (show true = false from e)), q12 := fun _ i hi => ?_, p12 := fun _ => ⟨hb6, ((Step.refl (· = gc) w3).drew).trans hst6⟩ }⟩)
          rcases (show i = 0 ∨ i = 1 ∨ i = 2 ∨ i = 3 ∨ i = 4 ∨ i = 5 ∨ i = 6 ∨ i = 7 ∨ i = 8 ∨ i = 9 ∨ i = 10 ∨ i = 11 by omega) with rfl | rfl | rfl | rfl | rfl | rfl | rfl | rfl | rfl | rfl | rfl | rfl
          · exact hdep 0 rfl
          · exact hdep 1 rfl
          · exact hdep 2 rfl
          · exact hdep 3 rfl
          · exact hdep 4 rfl
          · exact hdep 5 rfl
          · exact hdep 6 rfl
          · exact hdep 7 rfl
          · exact hdep 8 rfl
          · exact hdep 9 rfl
          · exact hdep 10 rfl
          · exact hdep 11 rfl
      case hdone =>
        intro L V X hall hJ
        obtain ⟨hb6, hst6⟩ := hJ.p12 (hall 12 (by decide))
        rw [show List.range 13 = [0, 1, 2, 3, 4, 5, 6, 7, 8, 9, 10, 11, 12] from rfl]
        simp only [putF, dstO, List.getElem?_toArray, List.getElem?_cons_zero, List.getElem?_cons_succ, Option.bind_some, Act.put, List.setIfInBounds_toArray, List.set_cons_zero, List.set_cons_succ]
        go_wp2_with fail
        go_meet
        case rel => exact ⟨hb6, hst6⟩
    case rest =>
      obtain ⟨w4, rfl⟩ : ∃ w4 : World, w4 = wc := ⟨_, rfl⟩
      obtain ⟨hb4, hst4⟩ := hcut
      have HBP : Hid (BodP w4 w4.heap.size g5 (badB b r (-1))) := by
        have h5 := hst4.keep HB5.out (by have := HGC.out; omega)
        have hel : Each (InAt (veil G w4) w4.heap.size) b.code ys := Each.mono (fun t cs ht => InAt.mono hst4.size _ _ (InAt.step (veil_step (G' := G) hst4 (fun q _ e => by subst e; exact HGC.out.1) (fun _ _ => rfl)) (fun _ _ h => h) t cs ht)) _ _ HGR3.out.el
        have hel2 := Each.put 21 InAt.len b.code ys r (jmpI (-1)) (jmpC (-1)) (Each.mono InAt.unveil _ _ hel) (by rw [← HM.out]; exact HRM.out) (jmpI_at (-1))
        refine ⟨blk_lt h5, blk_lt h5, [.string ⟨#[]⟩, .int .i64 b.params, .slice al 4 cl, .slice (some ⟨gc, 0, none⟩) m cap], ⟨.slice al 4 cl, .slice (some ⟨gc, 0, none⟩) m cap, [], _, ?_, ?_, hel2, ?_⟩, fun i x hx => blk_cell h5 i x (by simpa using hx)⟩
        · simp [badB, HPN.out.1]
        · have h1 : Row w4 w4.heap.size (.slice al 4 cl) 4 [] := by
            have h2 := HRL3.out
            obtain ⟨a, c, e1, e2, e3, e4, e5⟩ := h2
            refine ⟨a, c, e1, e2, e3, e4, fun hn => ?_⟩
            obtain ⟨g, o, e6, e7, e8, -⟩ := e5 hn
            exact ⟨g, o, e6, Nat.lt_of_lt_of_le e8 hst4.size, Nat.lt_of_lt_of_le e8 hst4.size, fun i x hx => by simp at hx⟩
          have h2 : (badB b r (-1)).locals = 4 := HPN.out.2
          rw [h2]; exact h1
        · have h1 : (badB b r (-1)).code.length = m := by simp [badB, HM.out]
          rw [h1]
          refine ⟨_, cap, rfl, HMC.out, by have := HCAP.out; unfold maxLen at this; omega, (fun h => nomatch h), fun _ => ⟨gc, 0, rfl, blk_lt hb4, blk_lt hb4, fun i x hx => ?_⟩⟩
          rw [Nat.zero_add]
          refine blk_cell hb4 i x ?_
          rw [List.getElem?_toArray]
          have hlj : (jmpC (-1)).length = 21 := rfl
          have hrm := HRM.out
          have hct : (cur.toList.take (r * 21)).length = r * 21 := by
            have := HROOM.out
            rw [hlj] at this
            simp; omega
          have htk : ys.take (r * 21) = cur.toList.take (r * 21) := by rw [← HTK.out, List.take_take, Nat.min_eq_left (by omega)]
          have hdr : ys.drop (r * 21 + 21) = (cur.toList.drop (r * 21 + 21)).take (m * 21 - (r * 21 + 21)) := by rw [← HTK.out, List.drop_take]
          rw [htk, hdr] at hx
          rw [hlj]
          by_cases hi : i < r * 21
          · rw [List.getElem?_append_left (by omega)] at hx ⊢; exact hx
          · rw [List.getElem?_append_right (by omega)] at hx ⊢
            rw [hct] at hx ⊢
            by_cases hi2 : i - r * 21 < 21
            · rw [List.getElem?_append_left (by rw [hlj]; exact hi2)] at hx ⊢; exact hx
            · rw [List.getElem?_append_right (by rw [hlj]; omega)] at hx ⊢
              rw [List.getElem?_take] at hx
              split at hx
              · exact hx
              · cases hx
      have HCK : Hid (chkF (badB b r (-1)) ≠ -1) := chk_bad (k := r) (by have := HRM.out; have := HM.out; simp [badB]; omega) (badB_at (by have := HRM.out; have := HM.out; omega) (.inl (by decide)))
      have HS4 : Hid (Step (fun _ => False) w w4) := HS3.out.then hst4 (fun q hq e => by have := HGC.out; omega)
      clear hb4 hst4 c3 R1 R2 R3 R4 R5 R6 hi0 hi1
      go_wp2_with fail
      refine (at_bad _ g5 _ w4 HBP.out HCK.out).mono ?_
      rintro e w5 ⟨rfl, h5⟩
      go_wp2_with fail
      refine (at_nil w5).mono ?_
      rintro e w6 ⟨rfl, h6⟩
      go_wp2_with fail
      refine (used_nil k 0 w6).mono ?_
      rintro e w7 ⟨rfl, h7⟩
      go_wp2_with fail
      refine (lost_nil k 0 w7).mono ?_
      rintro e w8 ⟨rfl, h8⟩
      go_wp2_with fail
      go_ret
      exact ⟨rfl, (((HS4.out.trans h5).trans h6).trans h7).trans h8⟩

end Go.Proofs.Ytilipeigjkmldaa
