/- finder.do: what an access does to what is missing. -/
import Derived.Test.YtilipeigjkmldaaFinF
import Derived.Test.YtilipeigjkmldaaAllM
namespace Go.Proofs.Ytilipeigjkmldaa
open Go.RowKit

theorem Row.keep {S : Nat → Prop} {w w' : World} {B : Nat} {v : Value} {n : Nat} {xs : List Value} (h : Row w B v n xs) (hs : Step S w w') (hS : ∀ q, v.ownBlock = some q → ¬ S q) : Row w' B v n xs := by
  obtain ⟨a, c, hv, hc, hm, hz, hr⟩ := h
  refine ⟨a, c, hv, hc, hm, hz, fun hn => ?_⟩
  obtain ⟨g, o, ha, hg, hgw, hcell⟩ := hr hn
  exact ⟨g, o, ha, hg, Nat.lt_of_lt_of_le hgw hs.size, fun i x hx => hs.cell (hcell i x hx) (hS g (by rw [hv, ha]; rfl))⟩

/- A finder that is only read: its body, its facts; all of it below B. -/
structure FR (w : World) (B g gb : Nat) (l : List Pl) (v : Value) (xs : List Value) : Prop where
  lt : g < B
  c0 : w.cell? ⟨g, 0, none⟩ = some (.pointer (some ⟨gb, 0, none⟩))
  c1 : w.cell? ⟨g, 1, none⟩ = some v
  el : Each (PlAt w B) l xs
  row : Row w B v l.length xs
theorem FR.step {S : Nat → Prop} {w w' : World} {B g gb : Nat} {l : List Pl} {v : Value} {xs : List Value} (h : FR w B g gb l v xs) (hs : Step S w w') (hS : ∀ k, k < B → ¬ S k) : FR w' B g gb l v xs :=
  ⟨h.lt, hs.cell h.c0 (hS _ h.lt), hs.cell h.c1 (hS _ h.lt), Each.mono (PlAt.step hs hS) _ _ h.el, h.row.step hs hS⟩
def boolsO (r : List Bool) : Obj := .cells (boolV r).toArray 4 (0, 0)
theorem boolV_set (r : List Bool) (i : Nat) (b : Bool) : (boolV r).toArray.setIfInBounds i (.bool b) = (boolV (r.set i b)).toArray := by
  simp [boolV, List.map_set]
theorem bools_set {w : World} {g i : Nat} {r : List Bool} (b : Bool) (h : w.heap[g]? = some (boolsO r)) : (w.setCell ⟨g, i, none⟩ (.bool b)).heap[g]? = some (boolsO (r.set i b)) := by
  have := blk_set (w := w) h i (.bool b)
  rw [boolV_set] at this
  exact this
theorem bools_cell {w : World} {g i : Nat} {r : List Bool} {b : Bool} (h : w.heap[g]? = some (boolsO r)) (hb : r[i]? = some b) : w.cell? ⟨g, i, none⟩ = some (.bool b) := blk_cell h i _ (by simp [boolV, hb])
theorem bools_free {w : World} {g : Nat} {r : List Bool} (h : w.heap[g]? = some (boolsO r)) (i : Nat) : w.frozen? ⟨g, i, none⟩ = false := blk_free h i

/- Some way through: the first k are freed of what the place begins. -/
def mixF (p : Pl) (s : Pl → Bool) (l : List Pl) (k : Nat) : List Bool := (l.take k).map (fun q => s q && !begF p q) ++ (l.drop k).map s
theorem mixF_zero (p : Pl) (s : Pl → Bool) (l : List Pl) : mixF p s l 0 = l.map s := by simp [mixF]
theorem mixF_all (p : Pl) (s : Pl → Bool) (l : List Pl) : mixF p s l l.length = l.map (fun q => s q && !begF p q) := by simp [mixF]
theorem mixF_len (p : Pl) (s : Pl → Bool) (l : List Pl) (k : Nat) : (mixF p s l k).length = l.length := by simp [mixF]; omega
theorem mixF_step (p : Pl) (s : Pl → Bool) (l : List Pl) (k : Nat) (q : Pl) (hq : l[k]? = some q) : mixF p s l (k + 1) = if begF p q then (mixF p s l k).set k false else mixF p s l k := by
  obtain ⟨hk, rfl⟩ := List.getElem?_eq_some_iff.1 hq
  have hl : ((l.take k).map (fun q => s q && !begF p q)).length = k := by simp; omega
  unfold mixF
  rw [List.take_succ_eq_append_getElem hk, List.drop_eq_getElem_cons hk, List.map_append, List.append_assoc, List.map_cons (f := s), show [l[k]].map (fun q => s q && !begF p q) = [s l[k] && !begF p l[k]] from rfl]
  split
  · rename_i hb
    rw [List.set_append_right _ _ (by omega), hl, Nat.sub_self, hb, List.set_cons_zero, Bool.not_true, Bool.and_false]; rfl
  · rename_i hb
    rw [Bool.not_eq_true] at hb
    rw [hb, Bool.not_false, Bool.and_true]; rfl

def DoPost (gi : Nat) (r : List Bool) (w : World) (e : Ending) (w' : World) : Prop := e = .returned (.tuple #[]) ∧ w'.heap[gi]? = some (boolsO r) ∧ Step (· = gi) w w'

set_option maxRecDepth 100000 in
set_option maxHeartbeats 4000000 in
theorem do_any (B g gb gi : Nat) (a : Acc) (cs : List Value) (l : List Pl) (s : Pl → Bool) (v : Value) (xs : List Value) (w : World) (hf : FR w B g gb l v xs) (ha : AcAt w B a cs) (hn : l.Nodup) (hi : w.heap[gi]? = some (boolsO (l.map s))) (hB : B ≤ gi)
    (hneed : (a.kind = 2 ∨ a.kind = 5 ∨ a.kind = 6) → dirF a.pl = true → a.pl ∈ l) :
    Calls Try.prog 67 #[.pointer (some ⟨g, 0, none⟩), .agg cs.toArray, .slice (some ⟨gi, 0, none⟩) l.length l.length] w (DoPost gi (l.map (doB a s)) w) := by
  have HFR := Lib.hid hf
  have HI := Lib.hid hi
  have HND := Lib.hid hn
  have HNEED := Lib.hid hneed
  obtain ⟨va, rfl, hrow⟩ := ha
  have HROW := Lib.hid hrow
  obtain ⟨ap, cp, rfl, -⟩ := hrow
  obtain ⟨w1, hw1⟩ : ∃ w1 : World, w1 = w.alloc (.cells #[.int .i64 a.pl.loc, .slice ap a.pl.path.length cp, .int .i64 a.kind] 90) := ⟨_, rfl⟩
  have HST : Hid (Step (· = gi) w w1) := by show Step _ _ _; rw [hw1]; exact (Step.refl _ _).alloc _
  have HB1 : Hid (w1.heap[w.heap.size]? = some (.cells #[.int .i64 a.pl.loc, .slice ap a.pl.path.length cp, .int .i64 a.kind] 90 (0, 0))) := by show _ = _; rw [hw1]; exact blk_new w _
  have HI1 : Hid (w1.heap[gi]? = some (boolsO (l.map s))) := by show _ = _; rw [hw1]; exact blk_alloc hi
  have HW1 := Lib.hid hw1
  have hlt := blk_lt hi
  have HKB : Hid (∀ X, Step (· = gi) w1 X → X.cell? ⟨w.heap.size, 0, none⟩ = some (.int .i64 a.pl.loc) ∧ X.cell? ⟨w.heap.size, 1, none⟩ = some (.slice ap a.pl.path.length cp) ∧ X.cell? ⟨w.heap.size, 2, none⟩ = some (.int .i64 a.kind)) := by
    show ∀ X, _
    intro X hX
    have hb := hX.keep HB1.out (by omega)
    exact ⟨blk_cell hb 0 _ rfl, blk_cell hb 1 _ rfl, blk_cell hb 2 _ rfl⟩
  have HFX : Hid (∀ X, Step (· = gi) w1 X → FR X B g gb l v xs ∧ PlAt X B a.pl [.int .i64 a.pl.loc, .slice ap a.pl.path.length cp]) := by
    show ∀ X, _
    intro X hX
    have hs := HST.out.trans hX
    exact ⟨HFR.out.step hs (fun q hq e => by omega), _, rfl, HROW.out.step hs (fun q hq e => by omega)⟩
  have HD : Hid (∀ X, Step (· = gi) w1 X → Calls Try.prog 80 #[.agg #[.int .i64 a.pl.loc, .slice ap a.pl.path.length cp]] X (IsBool (dirF a.pl) X)) := by
    show ∀ X, _
    intro X hX
    exact direct_any a.pl _ B X (HFX.out X hX).2
  have HFC : Hid (∀ X, Step (· = gi) w1 X → Calls Try.prog 81 #[.pointer (some ⟨g, 0, none⟩), .agg #[.int .i64 a.pl.loc, .slice ap a.pl.path.length cp]] X fun e w' => e = .returned (.int .i64 (idxI (sameF a.pl) l)) ∧ Step (fun _ => False) X w') := by
    show ∀ X, _
    intro X hX
    obtain ⟨h1, h2⟩ := HFX.out X hX
    exact fact_any a.pl _ l xs v g B X h2 h1.c1 h1.el h1.row
  have HBG : Hid (∀ (q : Pl) (cq : List Value) X, Step (· = gi) w1 X → PlAt X B q cq → Calls Try.prog 83 #[.agg #[.int .i64 a.pl.loc, .slice ap a.pl.path.length cp], .agg cq.toArray] X (IsBool (begF a.pl q) X)) := by
    show ∀ q cq X, _
    intro q cq X hX hq
    exact begins_any a.pl q [.int .i64 a.pl.loc, .slice ap a.pl.path.length cp] cq B X (HFX.out X hX).2 hq
  have HBI : Hid (B ≤ gi ∧ gi < w.heap.size) := ⟨hB, hlt⟩
  have HG : Hid (g < B) := hf.lt
  obtain ⟨vo, vc, rfl, hvc, hvm, -, hvr⟩ := hf.row
  have HVR := Lib.hid hvr
  obtain ⟨d0, d1, d2⟩ := HKB.out w1 (Step.refl _ _)
  clear hw1 hi hn hneed hf hvr hB hlt
  obtain ⟨dr, hdr⟩ : ∃ dr, dr = dirF a.pl := ⟨_, rfl⟩
  have HDR := Lib.hid hdr
  rw [← hdr] at HD
  clear hdr
  by_cases h2 : a.kind = 2
  · have e2 : (a.kind == 2) = true := by simpa using h2
    have HK := Lib.hid h2
    clear h2
    go_enter Try.func67, Try.ntmps67
    go_upto_region 1 with fail
    rw [← HW1.out]
    go_wp2_with fail
    refine (HD.out _ (Step.refl _ _)).mono ?_
    rintro e w2 ⟨rfl, s2⟩
    have ST2 : Step (· = gi) w1 w2 := s2.mono (fun _ _ h => h.elim)
    clear d0 d1 d2
    obtain ⟨d0, d1, d2⟩ := HKB.out w2 ST2
    cases dr with
    | false =>
      have HF : Hid (l.map (doB a s) = l.map s) := by
        show _ = _
        refine List.map_congr_left (fun q _ => ?_)
        unfold doB; rw [if_pos HK.out, ← HDR.out]; rfl
      have HI2 := Lib.hid (s2.keep HI1.out (fun h => h))
      go_wp2
      refine bodyPost_ret (results_none rfl _ _ _) rfl ?_
      exact ⟨rfl, by rw [HF.out]; exact HI2.out, HST.out.trans ST2⟩
    | true =>
      obtain ⟨i, hi⟩ := List.getElem?_of_mem (HNEED.out (.inl HK.out) HDR.out.symm)
      have HIX := Lib.hid (idx_same HND.out hi)
      have hil := (List.getElem?_eq_some_iff.1 hi).1
      have HFCX : Hid (Calls Try.prog 81 #[.pointer (some ⟨g, 0, none⟩), .agg #[.int .i64 a.pl.loc, .slice ap a.pl.path.length cp]] w2 fun e w' => e = .returned (.int .i64 i) ∧ Step (fun _ => False) w2 w') := by
        have h := HFC.out w2 ST2
        rw [HIX.out] at h; exact h
      have HF : Hid (l.map (doB a s) = (l.map s).set i true) := by
        show _ = _
        rw [set_same s HND.out hi]
        refine List.map_congr_left (fun q _ => ?_)
        unfold doB; rw [if_pos HK.out, ← HDR.out]; rfl
      have hi0 : (0 : Int) ≤ (i : Int) := by omega
      have hi1 : (i : Int) < (l.length : Int) := by omega
      clear hi
      go_wp2_with fail
      refine HFCX.out.mono ?_
      rintro e w3 ⟨rfl, s3⟩
      have ST3 : Step (· = gi) w1 w3 := ST2.trans (s3.mono (fun _ _ h => h.elim))
      have HI3 := Lib.hid ((s2.trans s3).keep HI1.out (fun h => h))
      have fz := bools_free HI3.out i
      have hcl := bools_cell HI3.out (i := i) (b := (l.map s)[i]'(by simpa using hil)) (List.getElem?_eq_getElem _)
      go_wp2
      refine bodyPost_ret (results_none rfl _ _ _) rfl ?_
      exact ⟨rfl, by rw [HF.out]; exact bools_set true HI3.out, (HST.out.trans ST3).setCell _ _ (fun _ => rfl)⟩
  have e2 : (a.kind == 2) = false := by simpa using h2
  by_cases h456 : a.kind = 4 ∨ a.kind = 5 ∨ a.kind = 6
  · have HK : Hid (a.kind ≠ 2 ∧ (a.kind = 4 ∨ a.kind = 5 ∨ a.kind = 6)) := ⟨h2, h456⟩
    obtain ⟨x4, e4⟩ : ∃ x, (a.kind == 4) = x := ⟨_, rfl⟩
    obtain ⟨x5, e5⟩ : ∃ x, (a.kind == 5) = x := ⟨_, rfl⟩
    obtain ⟨x6, e6⟩ : ∃ x, (a.kind == 6) = x := ⟨_, rfl⟩
    obtain ⟨y4, n4⟩ : ∃ x, (a.kind != 4) = x := ⟨_, rfl⟩
    have hx : (x4 = true ∧ x5 = false ∧ x6 = false ∧ y4 = false) ∨ (x4 = false ∧ x5 = true ∧ x6 = false ∧ y4 = true) ∨ (x4 = false ∧ x5 = false ∧ x6 = true ∧ y4 = true) := by
      rw [← e4, ← e5, ← e6, ← n4]
      rcases h456 with h | h | h <;> rw [h] <;> simp
    have H4 : Hid (y4 = !decide (a.kind = 4)) := by
      show _ = _
      rw [← n4]
      by_cases h : a.kind = 4
      · rw [h]; rfl
      · rw [decide_eq_false h]; simpa using h
    have HF0 : Hid (dr = false → l.map (doB a s) = l.map s) := fun hd => by
      refine List.map_congr_left (fun q _ => ?_)
      unfold doB; rw [if_neg HK.out.1, if_pos HK.out.2, ← HDR.out, hd]; rfl
    have HF1 : Hid (dr = true → ∀ q, doB a s q = ((s q && !begF a.pl q) || (!decide (a.kind = 4) && sameF a.pl q))) := fun hd q => by
      unfold doB; rw [if_neg HK.out.1, if_pos HK.out.2, ← HDR.out, hd]; rfl
    have HSZ1 : Hid (w1.heap.size = w.heap.size + 1) := by show _ = _; rw [HW1.out]; simp
    clear h2 h456
    rcases hx with ⟨rfl, rfl, rfl, rfl⟩ | ⟨rfl, rfl, rfl, rfl⟩ | ⟨rfl, rfl, rfl, rfl⟩
    all_goals (
      go_enter Try.func67, Try.ntmps67
      go_upto_region 1 with fail
      rw [← HW1.out]
      go_wp2_with fail
      refine (HD.out _ (Step.refl _ _)).mono ?_
      rintro e w2 ⟨rfl, s2⟩
      have ST2 : Step (· = gi) w1 w2 := s2.mono (fun _ _ h => h.elim)
      have HI2 := Lib.hid (s2.keep HI1.out (fun h => h))
      clear d0 d1 d2
      obtain ⟨d0, d1, d2⟩ := HKB.out w2 ST2
      cases dr with
      | false =>
        have HF := Lib.hid (HF0.out rfl)
        go_wp2
        refine bodyPost_ret (results_none rfl _ _ _) rfl ?_
        exact ⟨rfl, by rw [HF.out]; exact HI2.out, HST.out.trans ST2⟩
      | true =>
        have HF := Lib.hid (HF1.out rfl)
        have c1 := (HFX.out w2 ST2).1.c1
        have HST2 := Lib.hid ST2
        clear s2 ST2
        go_wp2_with fail
        clear c1 d0 d1 d2
        go_loopg [6, 7, 34] l.length (fun gg _ _ s34 wr => ∃ k : Nat, s34 = .int .i64 k ∧ k ≤ l.length ∧ l.length - k ≤ gg ∧ wr.heap[gi]? = some (boolsO (mixF a.pl s l k)) ∧ Step (· = gi) w1 wr)
        case atStart => exact ⟨0, rfl, Nat.zero_le _, by omega, by rw [mixF_zero]; exact HI2.out, HST2.out⟩
        case round =>
          obtain ⟨k, rfl, hk, hgg, hik, hst⟩ := hrel
          have HIK := Lib.hid hik
          have HSTR := Lib.hid hst
          clear hik hst
          by_cases hlt : k < l.length
          · obtain ⟨q, hq⟩ : ∃ q, l[k]? = some q := ⟨l[k], List.getElem?_eq_getElem hlt⟩
            have hfr := (HFX.out wr HSTR.out).1
            obtain ⟨a', c', hva, -, -, -, hra⟩ := hfr.row
            obtain ⟨rfl, -, rfl⟩ : vo = a' ∧ True ∧ vc = c' := by cases hva; exact ⟨rfl, trivial, rfl⟩
            obtain ⟨gS, oS, rfl, hgS, -, hcS⟩ := hra (by omega)
            obtain ⟨cq, hat, f⟩ := Each.cells 2 PlAt.len hfr.el hq hcS
            have HAT := Lib.hid hat
            obtain ⟨vv, rfl, hqr⟩ := hat
            obtain ⟨aq, cqq, rfl, -⟩ := hqr
            have F := Lib.hid f
            have HMX := Lib.hid (mixF_step a.pl s l k q hq)
            have hsz := HSTR.out.size
            have HNEB : Hid (w.heap.size < wr.heap.size ∧ gi < wr.heap.size) := by show _ ∧ _; have := HSZ1.out; have := HBI.out.2; omega
            have STA : Step (fun _ => False) wr (wr.alloc (.cells #[.int .i64 q.loc, .slice aq q.path.length cqq] 47)) := (Step.refl _ _).alloc _
            have HNB := Lib.hid (blk_new wr (.cells #[.int .i64 q.loc, .slice aq q.path.length cqq] 47))
            have ST4 : Step (· = gi) w1 (wr.alloc (.cells #[.int .i64 q.loc, .slice aq q.path.length cqq] 47)) := HSTR.out.trans (STA.mono (fun _ _ h => h.elim))
            have HST4 := Lib.hid ST4
            have HI4 := Lib.hid (STA.keep HIK.out (fun h => h))
            have HBGX := Lib.hid (HBG.out q _ _ ST4 (PlAt.step STA (fun _ _ h => h) _ _ HAT.out))
            obtain ⟨d0, d1, d2⟩ := HKB.out _ ST4
            have x0 := blk_cell HNB.out 0 _ rfl
            have x1 := blk_cell HNB.out 1 _ rfl
            have hi0 : (0 : Int) ≤ (k : Int) := by omega
            have hi1 : (k : Int) < (l.length : Int) := by omega
            clear hcS hra hva hfr f hq ST4 STA hsz
            obtain ⟨br, hbr⟩ : ∃ br, br = begF a.pl q := ⟨_, rfl⟩
            rw [← hbr] at HBGX HMX
            clear hbr
            go_wp2_with (refine wpList_load_whole rfl 47 (.tmp 37) rfl gS (oS + k * 2) rfl _ _ F.out Try.underlying47 rfl Try.sizePlace ?_)
            refine HBGX.out.mono ?_
            rintro e w5 ⟨rfl, s5⟩
            have HST5 : Hid (Step (· = gi) w1 w5) := HST4.out.trans (s5.mono (fun _ _ h => h.elim))
            have HI5 := Lib.hid (s5.keep HI4.out (fun h => h))
            clear d0 d1 d2 x0 x1
            cases br with
            | true =>
              have fz := bools_free HI5.out k
              have HI6 : Hid ((w5.setCell ⟨gi, k, none⟩ (.bool false)).heap[gi]? = some (boolsO (mixF a.pl s l (k + 1)))) := by
                show _ = _
                rw [HMX.out]; exact bools_set false HI5.out
              have hcl := bools_cell HI5.out (i := k) (b := (mixF a.pl s l k)[k]'(by rw [mixF_len]; exact hlt)) (List.getElem?_eq_getElem _)
              have HST6 : Hid (Step (· = gi) w1 (w5.setCell ⟨gi, k, none⟩ (.bool false))) := HST5.out.setCell _ _ (fun _ => rfl)
              go_wp2
              go_roundg (gk - 1)
              case rel => exact ⟨k + 1, by go_num, hlt, by omega, HI6.out, HST6.out⟩
              case measure => omega
            | false =>
              have HI6 : Hid (w5.heap[gi]? = some (boolsO (mixF a.pl s l (k + 1)))) := by
                show _ = _
                rw [HMX.out]; exact HI5.out
              go_wp2
              go_roundg (gk - 1)
              case rel => exact ⟨k + 1, by go_num, hlt, by omega, HI6.out, HST5.out⟩
              case measure => omega
          · obtain rfl : k = l.length := by omega
            obtain ⟨d0, d1, d2⟩ := HKB.out _ HSTR.out
            have HIF : Hid (wr.heap[gi]? = some (boolsO (l.map (fun q => s q && !begF a.pl q)))) := by
              show _ = _
              rw [← mixF_all]; exact HIK.out
            first
            | (have HZ : Hid (l.map (doB a s) = l.map (fun q => s q && !begF a.pl q)) := by
                 show _ = _
                 refine List.map_congr_left (fun q _ => ?_)
                 rw [HF.out, ← H4.out, Bool.false_and, Bool.or_false]
               go_wp2
               refine bodyPost_ret (results_none rfl _ _ _) rfl ?_
               exact ⟨rfl, by rw [HZ.out]; exact HIF.out, HST.out.trans HSTR.out⟩)
            | (obtain ⟨i, hi⟩ := List.getElem?_of_mem (HNEED.out (HK.out.2.elim (fun h => absurd H4.out (by rw [h]; decide)) (fun h => .inr h)) HDR.out.symm)
               have HIX := Lib.hid (idx_same HND.out hi)
               have hil := (List.getElem?_eq_some_iff.1 hi).1
               have HFCX : Hid (Calls Try.prog 81 #[.pointer (some ⟨g, 0, none⟩), .agg #[.int .i64 a.pl.loc, .slice ap a.pl.path.length cp]] wr fun e w' => e = .returned (.int .i64 i) ∧ Step (fun _ => False) wr w') := by
                 have h := HFC.out wr HSTR.out
                 rw [HIX.out] at h; exact h
               have HZ : Hid (l.map (doB a s) = (l.map (fun q => s q && !begF a.pl q)).set i true) := by
                 show _ = _
                 rw [set_same (fun q => s q && !begF a.pl q) HND.out hi]
                 refine List.map_congr_left (fun q _ => ?_)
                 rw [HF.out, ← H4.out, Bool.true_and]
               have hi0 : (0 : Int) ≤ (i : Int) := by omega
               have hi1 : (i : Int) < (l.length : Int) := by omega
               clear hi
               go_wp2_with fail
               refine HFCX.out.mono ?_
               rintro e w5 ⟨rfl, s5⟩
               have HST5 : Hid (Step (· = gi) w1 w5) := HSTR.out.trans (s5.mono (fun _ _ h => h.elim))
               have HI5 := Lib.hid (s5.keep HIF.out (fun h => h))
               clear d0 d1 d2
               have fz := bools_free HI5.out i
               have hcl := bools_cell HI5.out (i := i) (b := (l.map (fun q => s q && !begF a.pl q))[i]'(by simpa using hil)) (List.getElem?_eq_getElem _)
               go_wp2
               refine bodyPost_ret (results_none rfl _ _ _) rfl ?_
               exact ⟨rfl, by rw [HZ.out]; exact bools_set true HI5.out, (HST.out.trans HST5.out).setCell _ _ (fun _ => rfl)⟩))
  · have e4 : (a.kind == 4) = false := by simpa using fun h => h456 (.inl h)
    have e5 : (a.kind == 5) = false := by simpa using fun h => h456 (.inr (.inl h))
    have e6 : (a.kind == 6) = false := by simpa using fun h => h456 (.inr (.inr h))
    have HF : Hid (l.map (doB a s) = l.map s) := by
      show _ = _
      refine List.map_congr_left (fun q _ => ?_)
      unfold doB; rw [if_neg h2, if_neg h456]
    clear h2 h456
    go_enter Try.func67, Try.ntmps67
    go_upto_region 1 with fail
    rw [← HW1.out]
    go_wp2
    refine bodyPost_ret (results_none rfl _ _ _) rfl ?_
    exact ⟨rfl, by rw [HF.out]; exact HI1.out, HST.out⟩

end Go.Proofs.Ytilipeigjkmldaa
