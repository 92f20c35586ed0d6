/- The law MovesBad, walked: it answers true. -/
import Derived.Test.YtilipeigjkmldaaRCkC
import Derived.Test.YtilipeigjkmldaaLawB
namespace Go.Proofs.Ytilipeigjkmldaa
open Go.RowKit

theorem mk_sh {n : Nat} {k l : Int} {d : Pl} {rk : Int} {al : List Opd} {rp : Pl} {mu : Bool} {co : Opd} {t e : Int} (h1 : 1 ≤ k) (h2 : k ≤ 7) (h3 : k = 1 ∨ k = 2 → 0 ≤ l ∧ l < (n : Int))
    (h4 : k = 3 → plOk n d = true ∧ (∀ o ∈ al, opOk n o = true) ∧ ((rk = 1 ∧ al.length = 1) ∨ (rk = 2 ∧ al.length = 0 ∧ plOk n rp = true) ∨ (rk = 10 ∧ al.length = 0))) (h5 : k = 5 → opOk n co = true) : ShIns n (mkI k l d rk al rp mu co t e) :=
  ⟨h1, h2, h3, fun h => ⟨(h4 h).1, (h4 h).2.1, (h4 h).2.2⟩, h5⟩
theorem cdIns_sh (n : Nat) (c : Cd) : ShIns 4 (cdIns n c) := by
  have hs := srcF_ok c
  have hd := dstF_ok c
  have hl := locF_range c.a
  have ho : ∀ k : Int, k = 2 ∨ k = 3 → opOk 4 ⟨k, srcF c, 0, 0⟩ = true := fun k hk => by
    rcases hk with rfl | rfl <;> simp [opOk, hs]
  unfold cdIns
  split
  · exact mk_sh (by decide) (by decide) (by omega) (fun _ => ⟨hd, by simpa using ho 2 (.inl rfl), .inl ⟨rfl, rfl⟩⟩) (by omega)
  split
  · exact mk_sh (by decide) (by decide) (by omega) (fun _ => ⟨hd, by simp, .inr (.inl ⟨rfl, rfl, hs⟩)⟩) (by omega)
  split
  · exact mk_sh (by decide) (by decide) (fun _ => hl) (by omega) (by omega)
  split
  · exact mk_sh (by decide) (by decide) (fun _ => hl) (by omega) (by omega)
  split
  · exact mk_sh (by decide) (by decide) (by omega) (by omega) (by omega)
  split
  · exact mk_sh (by decide) (by decide) (by omega) (by omega) (fun _ => ho 2 (.inl rfl))
  split
  · exact mk_sh (by decide) (by decide) (by omega) (fun _ => ⟨hd, by simp, .inr (.inr ⟨rfl, rfl⟩)⟩) (by omega)
  split
  · exact mk_sh (by decide) (by decide) (by omega) (by omega) (by omega)
  · exact mk_sh (by decide) (by decide) (by omega) (fun _ => ⟨hd, by simpa using ho 3 (.inr rfl), .inl ⟨rfl, rfl⟩⟩) (by omega)
/- A body whose instruction r goes to the body's end: what the document's Check looks at. -/
def BadOk (b : Bod) : Prop := ∀ r m : Nat, r < b.code.length → m = b.code.length →
  (∀ (i : Nat) x, (badB b r (m : Int)).code[i]? = some x → ShIns (badB b r (m : Int)).locals x) ∧ headOk (badB b r (m : Int)) = true ∧ (badB b r (m : Int)).code.length = m ∧
  (∀ (i : Nat) x, i < r → (badB b r (m : Int)).code[i]? = some x → (succI x i).all (tgtOk m) = true) ∧ (∀ x, (badB b r (m : Int)).code[r]? = some x → (succI x r).all (tgtOk m) = false)
theorem shBod_badOk (s : Shp) : BadOk (shBod s) := by
  intro r m hr hm
  have hok := shBod_ok s
  have hl : (badB (shBod s) r (m : Int)).code.length = m := by simp [badB, hm]
  have hget : ∀ (i : Nat) x, i ≠ r → (badB (shBod s) r (m : Int)).code[i]? = some x → (shBod s).code[i]? = some x := by
    intro i x hi hx
    have h2 : ((shBod s).code.set r (jmpI m))[i]? = some x := hx
    rw [List.getElem?_set_ne (by omega)] at h2
    exact h2
  have hat : ∀ x, (badB (shBod s) r (m : Int)).code[r]? = some x → x = jmpI m := by
    intro x hx
    have h2 : ((shBod s).code.set r (jmpI m))[r]? = some x := hx
    rw [List.getElem?_set_self hr] at h2
    exact (Option.some.inj h2).symm
  refine ⟨fun i x hx => ?_, ?_, hl, fun i x hi hx => ?_, fun x hx => ?_⟩
  · show ShIns 4 x
    by_cases e : i = r
    · subst e
      rw [hat x hx]
      exact mk_sh (by decide) (by decide) (by omega) (by omega) (by omega)
    · rcases shBod_cases s (hget i x e hx) with ⟨c, hc, rfl⟩ | ⟨-, rfl⟩
      · exact cdIns_sh _ c
      · exact mk_sh (by decide) (by decide) (by omega) (by omega) (by omega)
  · have h1 := hok.1
    simp only [headOk, Bool.and_eq_true, decide_eq_true_eq] at h1 ⊢
    rw [hl]
    have h2 : (badB (shBod s) r (m : Int)).params = (shBod s).params := rfl
    have h3 : (badB (shBod s) r (m : Int)).locals = (shBod s).locals := rfl
    rw [h2, h3]
    exact ⟨h1.1, h1.2.1, by omega⟩
  · have hx' := hget i x (by omega) hx
    have h1 := hok.2 i (by omega)
    simp only [atOk, hx', Bool.and_eq_true] at h1
    rw [hm]
    exact h1.2
  · rw [hat x hx]
    have h3 : succI (jmpI (m : Int)) r = [(m : Int)] := rfl
    rw [h3]
    simp [tgtOk]

set_option maxRecDepth 100000 in
set_option maxHeartbeats 8000000 in
theorem movesBad_any (B : Nat) (s : Shp) (v : Value) (xs : List Value) (k : Int) (w : World) (h1 : Each (CdAt w B) s.code xs) (h2 : Row w B v s.code.length xs) (hB : B ≤ w.heap.size) :
    Calls Try.prog 10 #[.agg #[.int .i64 s.params, v], .int .i64 k] w (LawPost w) := by
  have H1 := Lib.hid h1
  have H2 := Lib.hid h2
  obtain ⟨a1, c1, rfl, -⟩ := h2
  have ST0 : Step (fun _ => False) w (w.alloc (.cells #[.int .i64 s.params, .slice a1 s.code.length c1] 24)) := (Step.refl _ _).alloc _
  have HST0 := Lib.hid ST0
  have HNB := Lib.hid (blk_new w (.cells #[.int .i64 s.params, .slice a1 s.code.length c1] 24))
  clear h1 ST0
  go_enter Try.func10, Try.ntmps10
  go_wp2_with fail
  refine (moved_any _).mono ?_
  rintro e w1 ⟨rfl, h1⟩
  have HS1 := Lib.hid (HST0.out.trans h1)
  have HSZ : Hid (w.heap.size < w1.heap.size) := Nat.lt_of_lt_of_le (by simp) h1.size
  have hb1 := h1.keep HNB.out (fun h => h)
  have d0 := blk_cell hb1 0 _ rfl
  have d1 := blk_cell hb1 1 _ rfl
  clear h1 hb1
  by_cases hlt : 25 < s.code.length
  · have e1 : decide (25 < s.code.length) = true := decide_eq_true hlt
    go_wp2_with fail
    refine (moved_any _).mono ?_
    rintro e w2 ⟨rfl, h2⟩
    go_wp2_with fail
    go_ret
    exact ⟨rfl, HS1.out.trans h2⟩
  · have e1 : decide (25 < s.code.length) = false := decide_eq_false hlt
    go_wp2_with fail
    refine (shBody_own B s _ xs w1 (Each.mono (CdAt.step HS1.out (fun _ _ h => h)) _ _ H1.out) (H2.out.step HS1.out (fun _ _ h => h)) (by omega) (Nat.le_trans hB HS1.out.size)).mono ?_
    rintro e w2 ⟨vl, vc, ys, base, G, rfl, hrl, hgr, hbase, h2⟩
    obtain ⟨b, hb⟩ : ∃ b, b = shBod s := ⟨_, rfl⟩
    have HBL : Hid (b.code.length = s.code.length + 1) := by show _ = _; rw [hb, shBod_len]
    have HFB : Hid (BadOk b) := by show BadOk b; rw [hb]; exact shBod_badOk s
    have HPN : Hid (b.name = ⟨#[]⟩ ∧ b.locals = 4) := by rw [hb]; exact ⟨rfl, rfl⟩
    rw [← hb] at hgr ⊢
    have HRL := Lib.hid hrl
    obtain ⟨al, cl, rfl, -⟩ := hrl
    have ho := hgr.own
    obtain ⟨m, hm⟩ : ∃ m : Nat, m = b.code.length := ⟨_, rfl⟩
    rw [← hm] at ho
    have hm1 : 0 < m ∧ m ≤ 26 := by have := HBL.out; omega
    obtain ⟨gc, cap, cur, rfl, hgb, hcur, hmc, hcm, hcs, htk⟩ : ∃ gc cap cur, vc = .slice (some ⟨gc, 0, none⟩) m cap ∧ base ≤ gc ∧ w2.heap[gc]? = some (.cells cur 57 (0, 0)) ∧ m ≤ cap ∧ cap ≤ maxLen ∧ cur.size = cap * 21 ∧ cur.toList.take (m * 21) = ys := by
      rcases ho.2 with ⟨-, h0⟩ | ⟨g, cap, cur, h⟩
      · omega
      · exact ⟨g, cap, cur, h⟩
    obtain ⟨g5, hg5⟩ : ∃ g5, g5 = w2.heap.size := ⟨_, rfl⟩
    obtain ⟨w3, hw3⟩ : ∃ w3, w3 = w2.alloc (.cells #[.string ⟨#[]⟩, .int .i64 b.params, .slice al 4 cl, .slice (some ⟨gc, 0, none⟩) m cap] 29) := ⟨_, rfl⟩
    have hst3 : Step (fun _ => False) w2 w3 := by rw [hw3]; exact (Step.refl _ _).alloc _
    have HB5 : Hid (w3.heap[g5]? = some (.cells #[.string ⟨#[]⟩, .int .i64 b.params, .slice al 4 cl, .slice (some ⟨gc, 0, none⟩) m cap] 29 (0, 0))) := by show _ = _; rw [hw3, hg5]; exact blk_new _ _
    have HCUR := Lib.hid (hst3.keep hcur (fun h => h))
    have HGR3 := Lib.hid (hgr.keep InAt.stays hst3 (fun _ _ h => h.elim) (fun _ _ => rfl) (fun _ _ h => h))
    have HGC : Hid (G gc = true ∧ gc < g5 ∧ w.heap.size < gc) := by
      show _ ∧ _
      refine ⟨hgr.inG gc rfl, by rw [hg5]; exact blk_lt hcur, ?_⟩
      have h1 := HSZ.out
      omega
    have HRL3 := Lib.hid (HRL.out.step hst3 (fun _ _ h => h))
    have HS3 := Lib.hid (HS1.out.trans (h2.trans hst3))
    obtain ⟨ui, hui⟩ : ∃ u : Int, u = IntKind.u64.wrap k := ⟨_, rfl⟩
    have R1 : IntKind.u64.wrap k = ui := hui.symm
    have hui0 : 0 ≤ ui := by rw [hui, wrap_u64']; omega
    obtain ⟨r, hr⟩ : ∃ r : Nat, (r : Int) = ui % (m : Int) := ⟨(ui % (m : Int)).toNat, Int.toNat_of_nonneg (Int.emod_nonneg _ (by omega))⟩
    have hrm : r < m := by have := Int.emod_lt_of_pos ui (show (0 : Int) < m by omega); omega
    have R2 : ui.tmod (m : Int) = (r : Int) := by rw [Int.tmod_eq_emod_of_nonneg hui0, hr]
    have R3 : ui % (m : Int) = (r : Int) := hr.symm
    have R4 : IntKind.i64.wrap (r : Int) = (r : Int) := IntWalk.i64_in _ (by omega)
    have R5 : IntKind.u64.wrap (m : Int) = (m : Int) := by rw [wrap_u64']; omega
    have R6 : ((m : Int) = 0) = False := by simp; omega
    have R7 : (m = 0) = False := by simp; omega
    have hi0 : (0 : Int) ≤ (r : Int) := by omega
    have hi1 : (r : Int) < (m : Int) := by omega
    have HRM := Lib.hid hrm
    have HMC := Lib.hid hmc
    have HROOM : Hid (r * 21 + (jmpC (m : Int)).length ≤ cur.size) := by
      show r * 21 + 21 ≤ cur.size
      rw [hcs]
      have : r * 21 + 21 ≤ cap * 21 := by omega
      exact this
    have HTK := Lib.hid htk
    have HCAP := Lib.hid hcm
    have HM := Lib.hid hm
    have c3 := blk_cell HB5.out 3 _ rfl
    have HW3 := Lib.hid hw3
    have HG5 := Lib.hid hg5
    clear hb hgr h2 ho hgb hcur hmc hcm hcs htk hst3 hui hr hui0 hrm d0 d1 hw3 hg5 hm hbase
    go_upto_region 5 with fail
    rw [← HG5.out, ← HW3.out]
    clear R1 R2 R3 R4 R5 R6 R7
    have c3 := blk_cell HB5.out 3 _ rfl
    have HONE : Hid (∀ v ∈ jmpC (m : Int), v.oneCell' = true) := insCells_one rfl rfl rfl rfl
    go_cut [] (fun wx => wx.heap[gc]? = some (.cells (cur.toList.take (r * 21) ++ (jmpC (m : Int) ++ cur.toList.drop (r * 21 + (jmpC (m : Int)).length))).toArray 57 (0, 0)) ∧ Step (· = gc) w3 wx)
    case first =>
      go_upto_region 6 with (first
        | (refine wpList_store_part (w := w3) rfl 57 (.tmp 39) (.tmp 38) rfl gc (r * 21) 57 cur (jmpC (m : Int)) rfl rfl HCUR.out Try.sizeIns2 HROOM.out HONE.out ?_
           intro w6 hb6 hst6))
      go_meet
      case rel => exact ⟨hb6, hst6⟩
    case rest =>
      obtain ⟨w4, rfl⟩ : ∃ w4 : World, w4 = wc := ⟨_, rfl⟩
      obtain ⟨hb4, hst4⟩ := hcut
      have HAT0 : Hid (BodAt w4 w4.heap.size (badB b r (m : Int)) [.string ⟨#[]⟩, .int .i64 b.params, .slice al 4 cl, .slice (some ⟨gc, 0, none⟩) m cap]) := by
        have hel : Each (InAt (veil G w4) w4.heap.size) b.code ys := Each.mono (fun t cs ht => InAt.mono hst4.size _ _ (InAt.step (veil_step (G' := G) hst4 (fun q _ e => by subst e; exact HGC.out.1) (fun _ _ => rfl)) (fun _ _ h => h) t cs ht)) _ _ HGR3.out.el
        have hel2 := Each.put 21 InAt.len b.code ys r (jmpI (m : Int)) (jmpC (m : Int)) (Each.mono InAt.unveil _ _ hel) (by rw [← HM.out]; exact HRM.out) (jmpI_at (m : Int))
        refine ⟨.slice al 4 cl, .slice (some ⟨gc, 0, none⟩) m cap, [], _, ?_, ?_, hel2, ?_⟩
        · simp [badB, HPN.out.1]
        · have h1 : Row w4 w4.heap.size (.slice al 4 cl) 4 [] := by
            have h2 := HRL3.out
            obtain ⟨a, c, e1, e2, e3, e4, e5⟩ := h2
            refine ⟨a, c, e1, e2, e3, e4, fun hn => ?_⟩
            obtain ⟨g, o, e6, e7, e8, -⟩ := e5 hn
            exact ⟨g, o, e6, Nat.lt_of_lt_of_le e8 hst4.size, Nat.lt_of_lt_of_le e8 hst4.size, fun i x hx => by simp at hx⟩
          have h2 : (badB b r (m : Int)).locals = 4 := HPN.out.2
          rw [h2]; exact h1
        · have h1 : (badB b r (m : Int)).code.length = m := by simp [badB, HM.out]
          rw [h1]
          refine ⟨_, cap, rfl, HMC.out, by have := HCAP.out; unfold maxLen at this; omega, (fun h => nomatch h), fun _ => ⟨gc, 0, rfl, blk_lt hb4, blk_lt hb4, fun i x hx => ?_⟩⟩
          rw [Nat.zero_add]
          refine blk_cell hb4 i x ?_
          rw [List.getElem?_toArray]
          have hlj : (jmpC (m : Int)).length = 21 := rfl
          have hrm := HRM.out
          have hct : (cur.toList.take (r * 21)).length = r * 21 := by
            have := HROOM.out
            rw [hlj] at this
            simp; omega
          have htk : ys.take (r * 21) = cur.toList.take (r * 21) := by rw [← HTK.out, List.take_take, Nat.min_eq_left (by omega)]
          have hdr : ys.drop (r * 21 + 21) = (cur.toList.drop (r * 21 + 21)).take (m * 21 - (r * 21 + 21)) := by rw [← HTK.out, List.drop_take]
          rw [htk, hdr] at hx
          rw [hlj]
          by_cases hi : i < r * 21
          · rw [List.getElem?_append_left (by omega)] at hx ⊢; exact hx
          · rw [List.getElem?_append_right (by omega)] at hx ⊢
            rw [hct] at hx ⊢
            by_cases hi2 : i - r * 21 < 21
            · rw [List.getElem?_append_left (by rw [hlj]; exact hi2)] at hx ⊢; exact hx
            · rw [List.getElem?_append_right (by rw [hlj]; omega)] at hx ⊢
              rw [List.getElem?_take] at hx
              split at hx
              · exact hx
              · cases hx
      have HBP : Hid (BodP w4 w4.heap.size g5 (badB b r (m : Int))) := by
        have h5 := hst4.keep HB5.out (by have := HGC.out; omega)
        exact ⟨blk_lt h5, blk_lt h5, _, HAT0.out, fun i x hx => blk_cell h5 i x (by simpa using hx)⟩
      have HCK : Hid (chkF (badB b r (m : Int)) ≠ -1) := chk_bad (k := r) (by have := HRM.out; have := HM.out; simp [badB]; omega) (badB_at (by have := HRM.out; have := HM.out; omega) (.inr (by have := HM.out; omega)))
      have HS4 : Hid (Step (fun _ => False) w w4) := HS3.out.then hst4 (fun q hq e => by have := HGC.out; omega)
      have HAT4 : Hid (∀ X, Step (fun _ => False) w4 X → BodAt X w4.heap.size (badB b r (m : Int)) [.string ⟨#[]⟩, .int .i64 b.params, .slice al 4 cl, .slice (some ⟨gc, 0, none⟩) m cap]) := by
        show ∀ X, _
        intro X hX
        exact BodAt.step hX (fun _ _ h => h) _ _ HAT0.out
      have HK4 : Hid (∀ X : World, Step (fun _ => False) w4 X → X.cell? ⟨g5, 0, none⟩ = some (.string ⟨#[]⟩) ∧ X.cell? ⟨g5, 1, none⟩ = some (.int .i64 b.params) ∧ X.cell? ⟨g5, 2, none⟩ = some (.slice al 4 cl) ∧ X.cell? ⟨g5, 3, none⟩ = some (.slice (some ⟨gc, 0, none⟩) m cap)) := by
        show ∀ X, _
        intro X hX
        have h5 := hX.keep (hst4.keep HB5.out (by have := HGC.out; omega)) (fun h => h)
        exact ⟨blk_cell h5 0 _ rfl, blk_cell h5 1 _ rfl, blk_cell h5 2 _ rfl, blk_cell h5 3 _ rfl⟩
      clear hb4 hst4 c3 hi0 hi1
      go_wp2_with fail
      refine (mcheck_bad _ g5 _ w4 HBP.out HCK.out).mono ?_
      rintro e w5 ⟨rfl, h5⟩
      have HS5 := Lib.hid h5
      have HBP5 := Lib.hid (BodP.step h5 (fun _ _ h => h) HBP.out)
      clear h5
      go_wp2_with fail
      refine (missing_bad _ g5 _ w5 HBP5.out HCK.out).mono ?_
      rintro e w6 ⟨rfl, h6⟩
      have HS6 := Lib.hid (HS5.out.trans h6)
      clear h6
      go_wp2_with fail
      refine (mcheck_nil w6).mono ?_
      rintro e w7 ⟨rfl, h7⟩
      have HS7 := Lib.hid (HS6.out.trans h7)
      clear h7
      have HCH : Hid (Calls Try.prog 27 #[.agg #[.string ⟨#[]⟩, .int .i64 b.params, .slice al 4 cl, .slice (some ⟨gc, 0, none⟩) m cap]] w7 fun e w' => e = .returned (.int .i64 r) ∧ Step (fun _ => False) w7 w') := by
        obtain ⟨q1, q2, q3, q4, q5⟩ := HFB.out r m (by have := HRM.out; have := HM.out; omega) HM.out
        exact rcheck14_at _ r (badB b r (m : Int)) _ w7 (HAT4.out w7 HS7.out) q1 q2 (by rw [q3]; omega) (by rw [q3]; exact HRM.out) (by rw [q3]; exact q4) (by rw [q3]; exact q5)
      obtain ⟨d0, d1, d2, d3⟩ := HK4.out w7 HS7.out
      have er : ((r : Int) == (r : Int)) = true := by simp
      go_wp2_with fail
      refine HCH.out.mono ?_
      rintro e w8 ⟨rfl, h8⟩
      clear d0 d1 d2 d3
      go_wp2_with fail
      go_ret
      exact ⟨rfl, (HS4.out.trans HS7.out).trans h8⟩

end Go.Proofs.Ytilipeigjkmldaa
