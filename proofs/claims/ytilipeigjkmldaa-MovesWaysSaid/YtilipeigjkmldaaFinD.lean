/- Places: the part ahead of the first pointer that is gone through: contracts of mir.Own and of the document's Own. -/
import Derived.Test.YtilipeigjkmldaaFinC
import Derived.Test.YtilipeigjkmldaaFlowH
import Derived.Test.YtilipeigjkmldaaBodyA
import Derived.Deep.DeepCutAuto
namespace Go.Proofs.Ytilipeigjkmldaa
open Go.RowKit

def ownF (p : Pl) : Pl := ⟨p.loc, p.path.takeWhile (fun y => !((-1 : Int) == y))⟩
theorem own_take {l : List Int} {i : Nat} {x : Int} (hx : l[i]? = some x) (h : ((-1 : Int) == x) = true) (hno : ∀ j, j < i → ∀ y, l[j]? = some y → ((-1 : Int) == y) = false) : l.takeWhile (fun y => !((-1 : Int) == y)) = l.take i := by
  induction l generalizing i with
  | nil => simp at hx
  | cons a r ih =>
    cases i with
    | zero =>
      simp at hx; subst hx
      rw [List.takeWhile_cons, h]; rfl
    | succ i =>
      have h0 := hno 0 (by omega) a rfl
      rw [List.takeWhile_cons, h0]
      simp only [Bool.not_false, if_true, List.take_succ_cons]
      rw [ih (by simpa using hx) (fun j hj y hy => hno (j + 1) (by omega) y (by simpa using hy))]
theorem own_all {l : List Int} (h : ∀ x ∈ l, ((-1 : Int) == x) = false) : l.takeWhile (fun y => !((-1 : Int) == y)) = l := by
  induction l with
  | nil => rfl
  | cons a r ih =>
    rw [List.takeWhile_cons, h a (List.mem_cons_self ..)]
    simp only [Bool.not_false, if_true]
    rw [ih (fun x hx => h x (List.mem_cons_of_mem _ hx))]
def OwnPost (p : Pl) (w : World) (e : Ending) (w' : World) : Prop := (∃ u, e = .returned (.agg #[.int .i64 (ownF p).loc, u]) ∧ w'.ownsRow w.heap.size 3 1 u (ownF p).path.length (intsV (ownF p).path)) ∧ Step (fun _ => False) w w'
/- Where the first one is, if there is one. -/
theorem idx_cases (l : List Int) : (idxI (fun y => (-1 : Int) == y) l = -1 ∧ l.takeWhile (fun y => !((-1 : Int) == y)) = l) ∨ ∃ i : Nat, i < l.length ∧ idxI (fun y => (-1 : Int) == y) l = i ∧ l.takeWhile (fun y => !((-1 : Int) == y)) = l.take i := by
  by_cases h : ∀ x ∈ l, ((-1 : Int) == x) = false
  · exact .inl ⟨idxI_none h, own_all h⟩
  · right
    have hany : ∃ x ∈ l, ((-1 : Int) == x) = true := by
      refine Classical.byContradiction fun hn => h (fun x hx => ?_)
      cases e : ((-1 : Int) == x) with
      | false => rfl
      | true => exact absurd ⟨x, hx, e⟩ hn
    have key : ∀ (l : List Int), (∃ x ∈ l, ((-1 : Int) == x) = true) → ∃ (i : Nat) (x : Int), l[i]? = some x ∧ ((-1 : Int) == x) = true ∧ ∀ j, j < i → ∀ y, l[j]? = some y → ((-1 : Int) == y) = false := by
      intro l
      induction l with
      | nil => rintro ⟨x, hx, -⟩; cases hx
      | cons a r ih =>
        rintro ⟨x, hx, he⟩
        cases ha : ((-1 : Int) == a) with
        | true => exact ⟨0, a, rfl, ha, fun j hj => by omega⟩
        | false =>
          rcases List.mem_cons.1 hx with rfl | hx
          · rw [ha] at he; cases he
          · obtain ⟨i, y, h1, h2, h3⟩ := ih ⟨x, hx, he⟩
            refine ⟨i + 1, y, by simpa using h1, h2, fun j hj z hz => ?_⟩
            cases j with
            | zero => simp at hz; subst hz; exact ha
            | succ j => exact h3 j (by omega) z (by simpa using hz)
    obtain ⟨i, x, h1, h2, h3⟩ := key l hany
    exact ⟨i, (List.getElem?_eq_some_iff.1 h1).1, idxI_some h1 h2 h3, own_take h1 h2 h3⟩

theorem row_take {w : World} {B : Nat} {l : List Int} {a : Option Addr} {c m : Nat} (h : Row w B (.slice a l.length c) l.length (intsV l)) (hm : m ≤ l.length) : Row w B (.slice a m c) (l.take m).length (intsV (l.take m)) := by
  have e : (l.take m).length = m := by rw [List.length_take]; omega
  rw [e]
  obtain ⟨a', c', e1, h1, h2, h3, h4⟩ := h
  cases e1
  refine ⟨a, c, rfl, by omega, h2, (fun h => ⟨by have := (h3 h).1; omega, (h3 h).2⟩), fun hm0 => ?_⟩
  obtain ⟨g, o, e2, h5, h6, h7⟩ := h4 (by omega)
  refine ⟨g, o, e2, h5, h6, fun i x hx => h7 i x ?_⟩
  have hi : i < m := by
    have := (List.getElem?_eq_some_iff.1 hx).1
    simp [intsV] at this
    omega
  simp only [intsV, List.getElem?_map, List.getElem?_take, if_pos hi] at hx ⊢
  exact hx

theorem Try.sizePlace : (Try.prog.info? 47).map (·.size) = some 2 := by kernel_rfl
set_option maxRecDepth 100000 in
set_option maxHeartbeats 2000000 in
theorem own_any (p : Pl) (cs : List Value) (B : Nat) (w : World) (h : PlAt w B p cs) (hl : p.path.length ≤ 1000000) : Calls Try.prog 82 #[.agg cs.toArray] w (OwnPost p w) := by
  obtain ⟨v, rfl, hr⟩ := h
  have HR := Lib.hid hr
  obtain ⟨a, c, rfl, hc1, hc2, hz, hg⟩ := hr
  obtain ⟨w1, hw1⟩ : ∃ w1 : World, w1 = (w.alloc (.cells #[.int .i64 p.loc, .slice a p.path.length c] 47)).alloc (.cells #[.int .i64 0, .slice none 0 0] 47) := ⟨_, rfl⟩
  have HST : Hid (Step (fun _ => False) w w1) := by show Step _ _ _; rw [hw1]; exact ((Step.refl _ _).alloc _).alloc _
  have HB1 : Hid (w1.heap[w.heap.size]? = some (.cells #[.int .i64 p.loc, .slice a p.path.length c] 47 (0, 0))) := by show _ = _; rw [hw1]; exact blk_alloc (blk_new w _)
  have HB2 : Hid (w1.heap[w.heap.size + 1]? = some (.cells #[.int .i64 0, .slice none 0 0] 47 (0, 0))) := by show _ = _; rw [hw1]; exact blk_new2 _ _ _
  have HSZ1 : Hid (w1.heap.size = w.heap.size + 2) := by show _ = _; rw [hw1]; simp
  have HW1 := Lib.hid hw1
  have HC := Lib.hid (slIndex_any p.path _ (-1) B w1 (HR.out.step HST.out (fun _ _ h => h)))
  obtain ⟨m, hm, hown⟩ : ∃ m : Nat, m ≤ p.path.length ∧ (ownF p).path = p.path.take m ∧ ((idxI (fun y => (-1 : Int) == y) p.path = -1 ∧ m = p.path.length) ∨ idxI (fun y => (-1 : Int) == y) p.path = m) := by
    rcases idx_cases p.path with ⟨h1, h2⟩ | ⟨i, h1, h2, h3⟩
    · exact ⟨p.path.length, Nat.le_refl _, by show p.path.takeWhile _ = _; rw [h2, List.take_length], .inl ⟨h1, rfl⟩⟩
    · exact ⟨i, Nat.le_of_lt h1, h3, .inr h2⟩
  obtain ⟨hown, hidx⟩ := hown
  have HOWN := Lib.hid hown
  have HIDX := Lib.hid hidx
  obtain ⟨ix, hix⟩ : ∃ ix, ix = idxI (fun y => (-1 : Int) == y) p.path := ⟨_, rfl⟩
  rw [← hix] at HC HIDX
  have HROW := Lib.hid (row_take (HR.out.step HST.out (fun _ _ h => h)) hm)
  have KEEP : Hid (∀ X, Step (fun q => q = w.heap.size + 1 ∨ w1.heap.size ≤ q) w1 X → X.cell? ⟨w.heap.size, 0, none⟩ = some (.int .i64 p.loc) ∧ X.cell? ⟨w.heap.size, 1, none⟩ = some (.slice a p.path.length c)) := by
    show ∀ X, _
    intro X hX
    have hb := hX.keep HB1.out (by have := HSZ1.out; omega)
    exact ⟨blk_cell hb 0 _ rfl, blk_cell hb 1 _ rfl⟩
  have hlt : (ownF p).path.length = m := by rw [hown, List.length_take]; omega
  have HLT := Lib.hid hlt
  have d0 := blk_cell HB1.out 0 _ rfl
  have d1 := blk_cell HB1.out 1 _ rfl
  have hm0 : (0 : Int) ≤ (m : Int) := by omega
  have hm1 : (m : Int) ≤ (c : Int) := by omega
  have hm2 : (m : Int) ≤ (p.path.length : Int) := by omega
  have hm3 : m ≤ c := by omega
  have HZ := Lib.hid hz
  have HG := Lib.hid hg
  clear hw1 hown hidx hix hlt hg hz
  go_enter Try.func82, Try.ntmps82
  go_upto_region 1 with fail
  rw [← HW1.out]
  go_wp2_with fail
  refine HC.out.mono ?_
  rintro e w2 ⟨rfl, rfl⟩
  go_upto_if 8 with fail
  go_cut [3] (fun s3 wx => s3 = .int .i64 m ∧ wx = w1)
  case first =>
    rcases HIDX.out with ⟨rfl, rfl⟩ | rfl
    · go_wp2_with fail
      go_meet
      case rel => exact ⟨rfl, rfl⟩
    · go_wp2_with fail
      go_meet
      case rel => exact ⟨rfl, rfl⟩
  case rest =>
    obtain ⟨rfl, rfl⟩ := hcut
    obtain ⟨w3, rfl⟩ : ∃ w3 : World, w3 = wc := ⟨_, rfl⟩
    have STD : Step (fun q => q = w.heap.size + 1 ∨ w3.heap.size ≤ q) w3 w3.drew := (Step.refl _ _).drew
    have HCL : Hid (Calls Try.prog 96 #[.slice a m c] w3.drew fun e w' => (∃ u, e = .returned u ∧ w'.ownsRow w3.heap.size 3 1 u (ownF p).path.length (intsV (ownF p).path)) ∧ Step (fun _ => False) w3.drew w') := by
      have h1 := clone_any (p.path.take m) (.slice a m c) B w3.drew (HROW.out.step ((Step.refl (fun _ => False) w3).drew) (fun _ _ h => h)) (by rw [List.length_take]; omega)
      rw [← HOWN.out] at h1
      exact h1
    clear d0 d1
    have k0 := blk_cell HB2.out 0 _ rfl
    have k1 := blk_cell HB2.out 1 _ rfl
    have fin : Hid (∀ (u : Value) (w6 : World), w6.ownsRow w3.heap.size 3 1 u (ownF p).path.length (intsV (ownF p).path) → Step (fun _ => False) w3 w6 → OwnPost p w (.returned (.agg #[.int .i64 p.loc, u])) ((w6.setCell ⟨w.heap.size + 1, 0, none⟩ (.int .i64 p.loc)).setCell ⟨w.heap.size + 1, 1, none⟩ u)) := by
      show ∀ u w6, _
      intro u w6 ho hs
      have hsz := HSZ1.out
      have hs2 : Step (· = w.heap.size + 1) w6 ((w6.setCell ⟨w.heap.size + 1, 0, none⟩ (.int .i64 p.loc)).setCell ⟨w.heap.size + 1, 1, none⟩ u) := ((Step.refl (· = w.heap.size + 1) w6).setCell ⟨w.heap.size + 1, 0, none⟩ _ (fun _ => rfl)).setCell ⟨w.heap.size + 1, 1, none⟩ _ (fun _ => rfl)
      refine ⟨⟨u, rfl, owns_base (owns_keep hs2 ho (fun q hq e => by have := (ho.lt q hq).1; omega)) HST.out.size⟩, ?_⟩
      exact (HST.out.trans hs).then hs2 (fun q hq e => by omega)
    cases a with
    | none =>
      obtain ⟨z1, z2⟩ := HZ.out rfl
      obtain rfl : m = 0 := by omega
      subst z2
      go_wp2_with fail
      go_region_held3 (fun X => X.cell? ⟨w.heap.size, 0, none⟩ = some (.int .i64 p.loc) ∧ X.cell? ⟨w.heap.size, 1, none⟩ = some (.slice none p.path.length 0))
        (first | exact KEEP.out _ STD | exact KEEP.out _ ST6 | (refine KEEP.out _ ((ST6.setCell _ _ (fun _ => .inl rfl)).setCell _ _ (fun _ => .inl rfl))))
        (first
          | (go_at_call 96
             refine HCL.out.mono ?_
             rintro e w6 ⟨⟨u, rfl, ho⟩, hs⟩
             obtain ⟨au, cu, rfl⟩ := owns_slice ho
             have ST6 := STD.trans (hs.mono (T := fun q => q = w.heap.size + 1 ∨ w3.heap.size ≤ q) (fun _ _ h => h.elim))
             have hb6 := hs.keep ((Step.refl (fun _ => False) w3).drew.keep HB2.out (fun h => h)) (fun h => h)
             obtain ⟨⟨g0, g1⟩, g2, g3⟩ := blk2 hb6
             have HS2 := Lib.hid (set2 hb6 (b0 := .int .i64 p.loc) (b1 := .slice au (ownF p).path.length cu))
             have HO6 := Lib.hid ho
             have HS6 := Lib.hid hs
             clear ho hs hb6))
      all_goals
        go_wp2_with fail
        refine bodyPost_ret (results_cellB rfl _ (w.heap.size + 1) 47 [.int .i64 p.loc, .slice au (ownF p).path.length cu] _ rfl HS2.out.1 Try.underlying47 rfl Try.sizePlace) rfl ?_
        exact fin.out _ _ HO6.out ((Step.refl (fun _ => False) w3).drew.trans HS6.out)
    | some ad =>
      go_wp2_with fail
      go_region_held3 (fun X => X.cell? ⟨w.heap.size, 0, none⟩ = some (.int .i64 p.loc) ∧ X.cell? ⟨w.heap.size, 1, none⟩ = some (.slice (some ad) p.path.length c))
        (first | exact KEEP.out _ STD | exact KEEP.out _ ST6 | (refine KEEP.out _ ((ST6.setCell _ _ (fun _ => .inl rfl)).setCell _ _ (fun _ => .inl rfl))))
        (first
          | (go_at_call 96
             refine HCL.out.mono ?_
             rintro e w6 ⟨⟨u, rfl, ho⟩, hs⟩
             obtain ⟨au, cu, rfl⟩ := owns_slice ho
             have ST6 := STD.trans (hs.mono (T := fun q => q = w.heap.size + 1 ∨ w3.heap.size ≤ q) (fun _ _ h => h.elim))
             have hb6 := hs.keep ((Step.refl (fun _ => False) w3).drew.keep HB2.out (fun h => h)) (fun h => h)
             obtain ⟨⟨g0, g1⟩, g2, g3⟩ := blk2 hb6
             have HS2 := Lib.hid (set2 hb6 (b0 := .int .i64 p.loc) (b1 := .slice au (ownF p).path.length cu))
             have HO6 := Lib.hid ho
             have HS6 := Lib.hid hs
             clear ho hs hb6))
      all_goals
        go_wp2_with fail
        refine bodyPost_ret (results_cellB rfl _ (w.heap.size + 1) 47 [.int .i64 p.loc, .slice au (ownF p).path.length cu] _ rfl HS2.out.1 Try.underlying47 rfl Try.sizePlace) rfl ?_
        exact fin.out _ _ HO6.out ((Step.refl (fun _ => False) w3).drew.trans HS6.out)

end Go.Proofs.Ytilipeigjkmldaa
