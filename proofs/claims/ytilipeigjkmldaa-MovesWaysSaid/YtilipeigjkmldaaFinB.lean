/- Places: contracts of mir.Begins, Meet; of the document's Begins, Same, direct. -/
import Derived.Test.YtilipeigjkmldaaFinA
namespace Go.Proofs.Ytilipeigjkmldaa
open Go.RowKit

set_option maxRecDepth 100000 in
set_option maxHeartbeats 1000000 in
theorem begins_any (p q : Pl) (cp cq : List Value) (B : Nat) (w : World) (hp : PlAt w B p cp) (hq : PlAt w B q cq) : Calls Try.prog 83 #[.agg cp.toArray, .agg cq.toArray] w (IsBool (begF p q) w) := by
  obtain ⟨v1, rfl, h1⟩ := hp
  obtain ⟨v2, rfl, h2⟩ := hq
  have H1 := Lib.hid h1
  have H2 := Lib.hid h2
  obtain ⟨a1, c1, rfl, hc1, hm1, hz1, hr1⟩ := h1
  obtain ⟨a2, c2, rfl, hc2, hm2, hz2, hr2⟩ := h2
  obtain ⟨r, hr⟩ : ∃ r, r = begF p q := ⟨_, rfl⟩
  have HR := Lib.hid hr
  rw [← hr]
  have HST : Hid (Step (fun _ => False) w ((w.alloc (.cells #[.int .i64 p.loc, .slice a1 p.path.length c1] 47)).alloc (.cells #[.int .i64 q.loc, .slice a2 q.path.length c2] 47))) := ((Step.refl _ _).alloc _).alloc _
  have HZ2 := Lib.hid hz2
  have HR2 := Lib.hid hr2
  clear hr hz1 hr1 hz2 hr2
  by_cases el : p.loc = q.loc
  · have e1 : (p.loc == q.loc) = true := by simpa using el
    have EL := Lib.hid el
    by_cases hl : p.path.length ≤ q.path.length
    · have e2 : decide (p.path.length ≤ q.path.length) = true := decide_eq_true hl
      have e3 : decide ((p.path.length : Int) ≤ (q.path.length : Int)) = true := decide_eq_true (by omega)
      have i0 : (0 : Int) ≤ (p.path.length : Int) := by omega
      have i1 : (p.path.length : Int) ≤ (c2 : Int) := by omega
      have i2 : p.path.length ≤ c2 := by omega
      have HV : Hid (r = decide (p.path = q.path.take p.path.length)) := by
        show _ = _
        rw [HR.out]; unfold begF
        rw [decide_eq_true EL.out, decide_eq_true hl]; rfl
      have hlen : (q.path.take p.path.length).length = p.path.length := by rw [List.length_take]; omega
      have HEQ : Hid (∀ (X : World), Step (fun _ => False) w X → Calls Try.prog 97 #[.slice a1 p.path.length c1, .slice a2 p.path.length c2] X (IsQ r X)) := by
        show ∀ X, _
        intro X hX
        have r1 := H1.out.step hX (fun _ _ h => h)
        have r2 : Row X B (.slice a2 p.path.length c2) (q.path.take p.path.length).length (intsV (q.path.take p.path.length)) := by
          rw [hlen]
          have h0 := H2.out.step hX (fun _ _ h => h)
          cases a2 with
          | none =>
            have := (HZ2.out rfl).1
            have hp0 : p.path.length = 0 := by omega
            rw [hp0]
            exact ⟨none, c2, rfl, by omega, hm2, (fun _ => ⟨rfl, (HZ2.out rfl).2⟩), fun h => absurd h (Nat.lt_irrefl _)⟩
          | some a =>
            obtain ⟨g, o, s⟩ := a
            by_cases hz : 0 < q.path.length
            · obtain ⟨g', o', e, -⟩ := HR2.out hz
              cases e
              exact Row.take h0 rfl hl
            · have hp0 : p.path.length = 0 := by omega
              rw [hp0]
              exact ⟨_, c2, rfl, by omega, hm2, (fun h => nomatch h), fun h => absurd h (Nat.lt_irrefl _)⟩
        have := slEqual_any p.path (q.path.take p.path.length) _ _ B B X r1 r2
        rw [← HV.out] at this
        exact this
      clear el hl hlen
      cases a2 with
      | none =>
        obtain ⟨z1, z2⟩ := HZ2.out rfl
        have z3 : p.path.length = 0 := by omega
        rw [z3] at HEQ HST e2 e3 i0 i1 i2
        rw [z1] at HST e2 e3
        subst z2
        rw [z1, z3]
        clear hc1 hm1 hc2 hm2
        go_enter Try.func83, Try.ntmps83
        go_upto_region 1 with fail
        go_quiet ((go_at_call 97; exact (HEQ.out _ (HST.out.drewN _)).mono fun _ _ h => ⟨h.1, h.2.elim fun n e => ⟨_, e.trans (drewN_add _ _ _)⟩⟩))
        go_wp2
        go_ret
        exact ⟨rfl, HST.out.drewN _⟩
      | some ad =>
        go_enter Try.func83, Try.ntmps83
        go_upto_region 1 with fail
        go_quiet ((go_at_call 97; exact (HEQ.out _ (HST.out.drewN _)).mono fun _ _ h => ⟨h.1, h.2.elim fun n e => ⟨_, e.trans (drewN_add _ _ _)⟩⟩))
        go_wp2
        go_ret
        exact ⟨rfl, HST.out.drewN _⟩
    · have e2 : decide (p.path.length ≤ q.path.length) = false := decide_eq_false hl
      have e3 : decide ((p.path.length : Int) ≤ (q.path.length : Int)) = false := decide_eq_false (by omega)
      have HV : Hid (r = false) := by
        show _ = _
        rw [HR.out]; unfold begF
        rw [decide_eq_false hl]; simp
      clear el hl
      go_enter Try.func83, Try.ntmps83
      go_upto_region 1 with fail
      go_quiet (fail)
      go_wp2
      go_ret
      exact ⟨ret_bool HV.out.symm, HST.out.drewN _⟩
  · have e1 : (p.loc == q.loc) = false := by simpa using el
    have HV : Hid (r = false) := by
      show _ = _
      rw [HR.out]; unfold begF
      rw [decide_eq_false el]; rfl
    clear el
    go_enter Try.func83, Try.ntmps83
    go_upto_region 1 with fail
    go_quiet (fail)
    go_wp2
    go_ret
    exact ⟨ret_bool HV.out.symm, HST.out.drewN _⟩

def meetF (a b : Pl) : Bool := begF a b || begF b a

set_option maxRecDepth 100000 in
theorem meet_any (p q : Pl) (cp cq : List Value) (B : Nat) (w : World) (hp : PlAt w B p cp) (hq : PlAt w B q cq) : Calls Try.prog 84 #[.agg cp.toArray, .agg cq.toArray] w (IsBool (meetF p q) w) := by
  have HP := Lib.hid hp
  have HQ := Lib.hid hq
  obtain ⟨v1, rfl, ⟨a1, c1, rfl, -⟩⟩ := hp
  obtain ⟨v2, rfl, ⟨a2, c2, rfl, -⟩⟩ := hq
  obtain ⟨r1, hr1⟩ : ∃ r, r = begF p q := ⟨_, rfl⟩
  obtain ⟨r2, hr2⟩ : ∃ r, r = begF q p := ⟨_, rfl⟩
  have HM : Hid (meetF p q = (r1 || r2)) := by show _ = _; unfold meetF; rw [hr1, hr2]
  have HST : Hid (Step (fun _ => False) w ((w.alloc (.cells #[.int .i64 p.loc, .slice a1 p.path.length c1] 47)).alloc (.cells #[.int .i64 q.loc, .slice a2 q.path.length c2] 47))) := ((Step.refl _ _).alloc _).alloc _
  have HB1 := Lib.hid (blk_alloc (o' := .cells #[.int .i64 q.loc, .slice a2 q.path.length c2] 47) (blk_new w (.cells #[.int .i64 p.loc, .slice a1 p.path.length c1] 47)))
  have HB2 := Lib.hid (blk_new2 w (.cells #[.int .i64 p.loc, .slice a1 p.path.length c1] 47) (.cells #[.int .i64 q.loc, .slice a2 q.path.length c2] 47))
  have HC1 : Hid (∀ X, Step (fun _ => False) w X → Calls Try.prog 83 #[.agg #[.int .i64 p.loc, .slice a1 p.path.length c1], .agg #[.int .i64 q.loc, .slice a2 q.path.length c2]] X (IsBool r1 X)) := by
    show ∀ X, _
    intro X hX
    rw [hr1]
    exact begins_any p q [.int .i64 p.loc, .slice a1 p.path.length c1] [.int .i64 q.loc, .slice a2 q.path.length c2] B X (PlAt.step hX (fun _ _ h => h) _ _ HP.out) (PlAt.step hX (fun _ _ h => h) _ _ HQ.out)
  have HC2 : Hid (∀ X, Step (fun _ => False) w X → Calls Try.prog 83 #[.agg #[.int .i64 q.loc, .slice a2 q.path.length c2], .agg #[.int .i64 p.loc, .slice a1 p.path.length c1]] X (IsBool r2 X)) := by
    show ∀ X, _
    intro X hX
    rw [hr2]
    exact begins_any q p [.int .i64 q.loc, .slice a2 q.path.length c2] [.int .i64 p.loc, .slice a1 p.path.length c1] B X (PlAt.step hX (fun _ _ h => h) _ _ HQ.out) (PlAt.step hX (fun _ _ h => h) _ _ HP.out)
  clear hr1 hr2
  go_enter Try.func84, Try.ntmps84
  go_wp2_with fail
  refine (HC1.out _ HST.out).mono ?_
  rintro e w1 ⟨rfl, h1⟩
  have k1 := h1.keep HB1.out (fun h => h)
  have k2 := h1.keep HB2.out (fun h => h)
  have d0 := blk_cell k1 0 _ rfl
  have d1 := blk_cell k1 1 _ rfl
  have e0 := blk_cell k2 0 _ rfl
  have e1 := blk_cell k2 1 _ rfl
  clear k1 k2
  cases r1 with
  | true =>
    go_wp2_with fail
    go_ret
    exact ⟨ret_bool HM.out.symm, HST.out.trans h1⟩
  | false =>
    go_wp2_with fail
    refine (HC2.out _ (HST.out.trans h1)).mono ?_
    rintro e w2 ⟨rfl, h2⟩
    go_wp2_with fail
    go_ret
    exact ⟨ret_bool HM.out.symm, (HST.out.trans h1).trans h2⟩

set_option maxRecDepth 100000 in
set_option maxHeartbeats 1000000 in
theorem rbegins_any (p q : Pl) (cp cq : List Value) (B : Nat) (w : World) (hp : PlAt w B p cp) (hq : PlAt w B q cq) : Calls Try.prog 86 #[.agg cp.toArray, .agg cq.toArray] w (IsBool (begF p q) w) := by
  obtain ⟨v1, rfl, h1⟩ := hp
  obtain ⟨v2, rfl, h2⟩ := hq
  obtain ⟨a1, c1, rfl, hc1, hm1, -, hr1⟩ := h1
  obtain ⟨a2, c2, rfl, hc2, hm2, -, hr2⟩ := h2
  have H1 := Lib.hid hr1
  have H2 := Lib.hid hr2
  obtain ⟨r, hr⟩ : ∃ r, r = begF p q := ⟨_, rfl⟩
  have HR := Lib.hid hr
  rw [← hr]
  obtain ⟨w1, hw1⟩ : ∃ w1 : World, w1 = (w.alloc (.cells #[.int .i64 p.loc, .slice a1 p.path.length c1] 47)).alloc (.cells #[.int .i64 q.loc, .slice a2 q.path.length c2] 47) := ⟨_, rfl⟩
  have HST : Hid (Step (fun _ => False) w w1) := by show Step _ _ _; rw [hw1]; exact ((Step.refl _ _).alloc _).alloc _
  have HB1 : Hid (w1.heap[w.heap.size]? = some (.cells #[.int .i64 p.loc, .slice a1 p.path.length c1] 47 (0, 0))) := by show _ = _; rw [hw1]; exact blk_alloc (blk_new w _)
  have HB2 : Hid (w1.heap[w.heap.size + 1]? = some (.cells #[.int .i64 q.loc, .slice a2 q.path.length c2] 47 (0, 0))) := by show _ = _; rw [hw1]; exact blk_new2 _ _ _
  have HW1 := Lib.hid hw1
  clear hr hr1 hr2 hw1
  by_cases el : p.loc = q.loc
  · have e1 : (p.loc != q.loc) = false := by simp [el]
    have EL := Lib.hid el
    clear el
    by_cases hl : q.path.length < p.path.length
    · have e2 : decide (q.path.length < p.path.length) = true := decide_eq_true hl
      have HV : Hid (r = false) := by
        show _ = _
        rw [HR.out]; unfold begF
        rw [decide_eq_false (show ¬ p.path.length ≤ q.path.length by omega)]; simp
      go_enter Try.func86, Try.ntmps86
      go_wp2
      go_ret
      exact ⟨ret_bool HV.out.symm, ((Step.refl _ _).alloc _).alloc _⟩
    · have e2 : decide (q.path.length < p.path.length) = false := decide_eq_false hl
      have HV : Hid (r = decide (p.path = q.path.take p.path.length)) := by
        show _ = _
        rw [HR.out]; unfold begF
        rw [decide_eq_true EL.out, decide_eq_true (show p.path.length ≤ q.path.length by omega)]; rfl
      go_enter Try.func86, Try.ntmps86
      go_upto_region 3 with fail
      rw [← HW1.out]
      go_wp2_with fail
      go_loopg [5] p.path.length (fun gg s5 wr => ∃ k : Nat, s5 = .int .i64 k ∧ k ≤ p.path.length ∧ p.path.length - k ≤ gg ∧ p.path.take k = q.path.take k ∧ ∃ n, wr = w1.drewN n)
      case atStart => exact ⟨0, rfl, Nat.zero_le _, by omega, rfl, 0, rfl⟩
      case round =>
        obtain ⟨k, rfl, hk, hgg, heq, n, rfl⟩ := hrel
        have HEQ := Lib.hid heq
        clear heq
        have STN : Step (fun _ => False) w1 (w1.drewN n) := (Step.refl _ _).drewN n
        have d1 := blk_cell HB1.out 1 _ rfl
        have d2 := blk_cell HB2.out 1 _ rfl
        by_cases hlt : k < p.path.length
        · obtain ⟨x, hx⟩ : ∃ x, p.path[k]? = some x := ⟨_, List.getElem?_eq_getElem hlt⟩
          obtain ⟨y, hy⟩ : ∃ y, q.path[k]? = some y := ⟨_, List.getElem?_eq_getElem (by omega)⟩
          obtain ⟨g1, o1, rfl, -, -, hcell1⟩ := H1.out (by omega)
          obtain ⟨g2, o2, rfl, -, -, hcell2⟩ := H2.out (by omega)
          have f1 := HST.out.cell (hcell1 k _ (intsV_get p.path k x hx)) (fun h => h)
          have f2 := HST.out.cell (hcell2 k _ (intsV_get q.path k y hy)) (fun h => h)
          have HX := Lib.hid hx
          have HY := Lib.hid hy
          have hi0 : (0 : Int) ≤ (k : Int) := by omega
          have hi1 : (k : Int) < (p.path.length : Int) := by omega
          have hi2 : (k : Int) < (q.path.length : Int) := by omega
          have ha2 : p.path.length - (k + 1) ≤ gk - 1 := by rw [← Nat.sub_sub]; exact Nat.sub_le_sub_right hgg 1
          clear hcell1 hcell2 hx hy
          by_cases e : x = y
          · have e3 : (x != y) = false := by simp [e]
            have HE := Lib.hid e
            clear e
            go_wp2
            go_quiet (fail)
            go_wp2
            go_roundg (gk - 1)
            case rel =>
              obtain ⟨h1, h2⟩ := List.getElem?_eq_some_iff.1 HX.out
              obtain ⟨h3, h4⟩ := List.getElem?_eq_some_iff.1 HY.out
              exact ⟨k + 1, by go_num, hlt, ha2, by rw [List.take_succ_eq_append_getElem h1, List.take_succ_eq_append_getElem h3, HEQ.out, h2, h4, HE.out], _, rfl⟩
            case measure => omega
          · have e3 : (x != y) = true := by simpa using e
            have HF : Hid (r = false) := by
              show _ = _
              rw [HV.out]
              refine decide_eq_false (fun h => e ?_)
              have h1 := HX.out
              rw [h, List.getElem?_take, if_pos hlt, HY.out] at h1
              cases h1; rfl
            clear e
            go_wp2
            go_quiet (fail)
            go_wp2
            go_ret
            exact ⟨ret_bool HF.out.symm, (HST.out.trans STN).drewN _⟩
        · obtain rfl : k = p.path.length := by omega
          have HF : Hid (r = true) := by
            show _ = _
            rw [HV.out]
            have h1 := HEQ.out
            rw [List.take_length] at h1
            exact decide_eq_true h1
          go_wp2
          go_ret
          exact ⟨ret_bool HF.out.symm, HST.out.trans STN⟩
  · have e1 : (p.loc != q.loc) = true := by simpa using el
    have HV : Hid (r = false) := by
      show _ = _
      rw [HR.out]; unfold begF
      rw [decide_eq_false el]; rfl
    clear el
    go_enter Try.func86, Try.ntmps86
    go_wp2
    go_ret
    exact ⟨ret_bool HV.out.symm, ((Step.refl _ _).alloc _).alloc _⟩

end Go.Proofs.Ytilipeigjkmldaa
