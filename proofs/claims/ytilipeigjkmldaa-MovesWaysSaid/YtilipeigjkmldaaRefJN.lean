/- The document's answer for moves: First, has, Subset, Step. / The document's answer for moves: Subset, Step. / The document's Succ: the slice that is answered is a new one. / The document's Reach: by rounds. / The document's answer for moves, plainly: what comes of lists of places. / The document's answer for moves: All's lists in memory. -/
import Derived.Test.YtilipeigjkmldaaRefI
import Derived.Test.YtilipeigjkmldaaLawA
import Derived.Test.YtilipeigjkmldaaRefA
namespace Go.Proofs.Ytilipeigjkmldaa
open Go.RowKit

def firstTo (b : Bod) (n : Nat) : List Pl := ((List.range n).filter (isEntry b)).map (fun (k : Nat) => ⟨(k : Int), []⟩)
theorem firstTo_succ (b : Bod) (n : Nat) : firstTo b (n + 1) = firstTo b n ++ (if isEntry b n = true then [⟨(n : Int), []⟩] else []) := by
  unfold firstTo
  rw [filter_range_succ, List.map_append]
  congr 1
  split <;> simp
theorem firstTo_len (b : Bod) (n : Nat) : (firstTo b n).length ≤ n := by
  unfold firstTo
  rw [List.length_map]
  have := List.length_filter_le (isEntry b) (List.range n)
  simpa using this

set_option maxRecDepth 100000 in
set_option maxHeartbeats 4000000 in
theorem first_any (B : Nat) (b : Bod) (bs : List Value) (w : World) (h : BodAt w B b bs) (hl : b.locals ≤ 100000) :
    Calls Try.prog 46 #[.agg bs.toArray] w (PlsOwn w.heap.size B (firstTo b b.locals) w) := by
  have hpos : ∃ a1 c1 a2 c2, bs = [.string b.name, .int .i64 b.params, .slice a1 b.locals c1, .slice a2 b.code.length c2] := h.parts
  obtain ⟨a1, c1, a2, c2, rfl⟩ := hpos
  obtain ⟨i0, hi0, hz0, hz1, hz2⟩ := info_parts Try.infoPlace
  have HI := Lib.hid hi0
  have HZ0 := Lib.hid hz0
  have HZ1 := Lib.hid hz1
  have HZ2 := Lib.hid hz2
  obtain ⟨w1, hw1⟩ : ∃ w1 : World, w1 = w.alloc (.cells #[.string b.name, .int .i64 b.params, .slice a1 b.locals c1, .slice a2 b.code.length c2] 29) := ⟨_, rfl⟩
  have HST : Hid (Step (fun _ => False) w w1) := by show Step _ _ _; rw [hw1]; exact (Step.refl _ _).alloc _
  have HB1 : Hid (w1.heap[w.heap.size]? = some (.cells #[.string b.name, .int .i64 b.params, .slice a1 b.locals c1, .slice a2 b.code.length c2] 29 (0, 0))) := by show _ = _; rw [hw1]; exact blk_new w _
  have HW1 := Lib.hid hw1
  clear hi0 hz0 hz1 hz2 h hw1
  go_enter Try.func46, Try.ntmps46
  go_upto_region 1 with fail
  rw [← HW1.out]
  go_wp2_with fail
  go_loopg [3, 4] b.locals (fun gg s3 s4 wr => ∃ (k : Nat) (lo : List Pl) (xo : List Value), s4 = .int .i64 k ∧ k ≤ b.locals ∧ b.locals - k ≤ gg ∧ lo = firstTo b k ∧ Each (PlAt wr B) lo xo ∧ (∀ X, Each (PlAt X B) lo xo) ∧ wr.ownsRow w1.heap.size 47 2 s3 lo.length xo ∧ Step (fun _ => False) w1 wr)
  case atStart => exact ⟨0, [], [], rfl, Nat.zero_le _, by omega, rfl, Each.nil, (fun _ => Each.nil), World.ownsRow_nil _ _ _ _, Step.refl _ _⟩
  case round =>
    obtain ⟨k, lo, xo, rfl, hk, hgg, hlo, -, hxo, hown, hst⟩ := hrel
    have HLO := Lib.hid hlo
    have HXO := Lib.hid hxo
    have HOWN := Lib.hid hown
    have HSTR := Lib.hid hst
    have hlol : lo.length ≤ 100000 := by rw [hlo]; exact Nat.le_trans (firstTo_len _ _) (by omega)
    obtain ⟨ao, co, rfl⟩ := owns_slice hown
    have hbr := hst.keep HB1.out (fun h => h)
    have d1 : wr.cell? ⟨w.heap.size, 1, none⟩ = some (.int .i64 b.params) := blk_cell hbr 1 _ rfl
    have d2 : wr.cell? ⟨w.heap.size, 2, none⟩ = some (.slice a1 b.locals c1) := blk_cell hbr 2 _ rfl
    clear hlo hxo hown hst hbr
    by_cases hlt : k < b.locals
    · have HES := Lib.hid (firstTo_succ b k)
      obtain ⟨x1, e1⟩ : ∃ x, ((k : Int) == 0) = x := ⟨_, rfl⟩
      obtain ⟨x2, e2⟩ : ∃ x, decide (b.params < (k : Int)) = x := ⟨_, rfl⟩
      have e1n : decide (k = 0) = x1 := by
        rw [← e1]
        by_cases h : k = 0 <;> simp [h]
      have HXX : Hid (isEntry b k = (x1 || x2)) := by show _ = _; unfold isEntry; rw [e2, e1n]
      obtain ⟨eb, heb⟩ : ∃ eb, eb = isEntry b k := ⟨_, rfl⟩
      rw [← heb] at HXX HES
      clear e1n heb
      go_upto_region 5 with fail
      go_cut [19] (fun s19 wx => s19 = .bool eb ∧ wx = wr)
      case first =>
        cases x1 with
        | true =>
          go_wp2_with fail
          go_meet
          case rel => exact ⟨by rw [HXX.out]; rfl, rfl⟩
        | false =>
          go_wp2_with fail
          go_meet
          case rel => exact ⟨by rw [HXX.out]; rfl, rfl⟩
      case rest =>
        obtain ⟨rfl, rfl⟩ := hcut
        obtain ⟨w3, rfl⟩ : ∃ w3 : World, w3 = wc := ⟨_, rfl⟩
        clear d1 d2 e1 e2
        cases eb with
        | false =>
          have HE2 : Hid (lo = firstTo b (k + 1)) := by show _ = _; rw [HES.out, HLO.out]; simp
          go_wp2
          go_roundg (gk - 1)
          case rel => exact ⟨k + 1, lo, xo, by go_num, hlt, by omega, HE2.out, HXO.out _, HXO.out, HOWN.out, HSTR.out⟩
          case measure => omega
        | true =>
          have HE2 : Hid (lo ++ [⟨(k : Int), []⟩] = firstTo b (k + 1)) := by show _ = _; rw [HES.out, HLO.out]; rfl
          have HSA : Hid (Step (fun _ => False) w1 (w3.alloc (.cells #[.int .i64 k, .slice none 0 0] 47))) := HSTR.out.alloc _
          have HROW5 : Hid (Row (w3.alloc (.cells #[.int .i64 k, .slice none 0 0] 47)) (w3.heap.size + 1) (.slice (some ⟨w3.heap.size, 0, none⟩) 1 1) 1 [.int .i64 k, .slice none 0 0]) := Row.new (cs := [.int .i64 k, .slice none 0 0]) (blk_new _ _) (by decide)
          have HOA := Lib.hid (HOWN.out.alloc (.cells #[.int .i64 k, .slice none 0 0] 47))
          have HONE : Hid (∀ u ∈ [Value.int .i64 k, .slice none 0 0], u.oneCell' = true) := by
            show ∀ u ∈ _, _
            intro u hu
            simp at hu
            rcases hu with rfl | rfl <;> rfl
          go_wp2_with (at_builtin; refine wpList_append_row _ rfl (w3.heap.size + 1) (.tmp 20) (.tmp 23) 69 rfl w1.heap.size 47 i0 (.agg #[.int .i64 0, .slice none 0 0]) 2 32 Try.underlying69 HI.out HZ0.out HZ1.out HZ2.out rfl (by decide) _ _ _ rfl HOA.out _ 1 _ rfl HROW5.out rfl HONE.out (by unfold maxLen; omega) (by omega) HSA.out.size ?_)
          intro v8 w8 hown8 hgrow8 hat8
          have HX8 : Hid (∀ X, Each (PlAt X B) (lo ++ [⟨(k : Int), []⟩]) (xo ++ [.int .i64 k, .slice none 0 0])) := fun X => Each.snoc (HXO.out X) ⟨_, rfl, Row.nil _ _ _⟩
          have HO8 : Hid (w8.ownsRow w1.heap.size 47 2 v8 (lo ++ [(⟨(k : Int), []⟩ : Pl)]).length (xo ++ [.int .i64 k, .slice none 0 0])) := by rw [List.length_append]; exact hown8
          have HST8 : Hid (Step (fun _ => False) w1 w8) := HSA.out.then (grown_step hgrow8) (fun q hq e => by have := (HOA.out.lt q e).1; omega)
          clear hown8 hgrow8 hat8
          go_wp2
          go_roundg (gk - 1)
          case rel => exact ⟨k + 1, _, _, by go_num, hlt, by omega, HE2.out, HX8.out _, HX8.out, HO8.out, HST8.out⟩
          case measure => omega
    · obtain rfl : k = b.locals := by omega
      go_wp2
      go_ret
      exact ⟨⟨_, xo, rfl, by rw [← HLO.out]; exact HXO.out _, by rw [← HLO.out]; exact owns_base HOWN.out HST.out.size⟩, HST.out.trans HSTR.out⟩

/- Is a place in a list? -/
def hasF (l : List Pl) (p : Pl) : Bool := l.any (fun x => sameF x p)
theorem hasF_iff {l : List Pl} {p : Pl} : hasF l p = true ↔ p ∈ l := by
  unfold hasF
  rw [List.any_eq_true]
  constructor
  · rintro ⟨x, hx, he⟩; rw [← sameF_iff.1 he]; exact hx
  · intro h; exact ⟨p, h, sameF_iff.2 rfl⟩

set_option maxRecDepth 100000 in
set_option maxHeartbeats 4000000 in
theorem has_any19 (B B2 : Nat) (p : Pl) (cp : List Value) (l : List Pl) (xs : List Value) (v : Value) (w : World) (hp : PlAt w B p cp) (hel : Each (PlAt w B) l xs) (hrl : Row w B2 v l.length xs) (hll : l.length ≤ 1000000) :
    Calls Try.prog 48 #[v, .agg cp.toArray] w (IsBool (hasF l p) w) := by
  have HEL := Lib.hid hel
  have HRL := Lib.hid hrl
  have HP := Lib.hid hp
  obtain ⟨vo, vc, rfl, -⟩ := id hrl
  obtain ⟨v1, rfl, ⟨a1, c1, rfl, -⟩⟩ := hp
  obtain ⟨r, hr⟩ : ∃ r, r = hasF l p := ⟨_, rfl⟩
  have HR : Hid (r = l.any (fun x => sameF x p)) := hr
  rw [← hr]
  obtain ⟨w1, hw1⟩ : ∃ w1 : World, w1 = w.alloc (.cells #[.int .i64 p.loc, .slice a1 p.path.length c1] 47) := ⟨_, rfl⟩
  have HST : Hid (Step (fun _ => False) w w1) := by show Step _ _ _; rw [hw1]; exact (Step.refl _ _).alloc _
  have HB1 : Hid (w1.heap[w.heap.size]? = some (.cells #[.int .i64 p.loc, .slice a1 p.path.length c1] 47 (0, 0))) := by show _ = _; rw [hw1]; exact blk_new w _
  have HW1 := Lib.hid hw1
  have HKB : Hid (∀ X, Step (fun _ => False) w1 X → X.cell? ⟨w.heap.size, 0, none⟩ = some (.int .i64 p.loc) ∧ X.cell? ⟨w.heap.size, 1, none⟩ = some (.slice a1 p.path.length c1)) := by
    show ∀ X, _
    intro X hX
    have hb := hX.keep HB1.out (fun h => h)
    exact ⟨blk_cell hb 0 _ rfl, blk_cell hb 1 _ rfl⟩
  clear hw1 hel hrl hr
  go_enter Try.func48, Try.ntmps48
  go_upto_region 1 with fail
  rw [← HW1.out]
  go_wp2_with fail
  go_loopg [5] l.length (fun gg s5 wr => ∃ k : Nat, s5 = .int .i64 k ∧ k ≤ l.length ∧ l.length - k ≤ gg ∧ (∀ j, j < k → ∀ y, l[j]? = some y → sameF y p = false) ∧ Step (fun _ => False) w1 wr)
  case atStart => exact ⟨0, rfl, Nat.zero_le _, by omega, (fun j hj => absurd hj (Nat.not_lt_zero _)), Step.refl _ _⟩
  case round =>
    obtain ⟨k, rfl, hkl, hgg, hno, hst⟩ := hrel
    have HNO := Lib.hid hno
    have HSTR := Lib.hid hst
    clear hno hst
    by_cases hlt : k < l.length
    · obtain ⟨q, hq⟩ : ∃ q, l[k]? = some q := ⟨l[k], List.getElem?_eq_getElem hlt⟩
      have HQ := Lib.hid hq
      have hsw : Step (fun _ => False) w wr := HST.out.trans HSTR.out
      obtain ⟨a', c', hva, -, -, -, hra⟩ := HRL.out.step hsw (fun _ _ h => h)
      obtain ⟨rfl, -, rfl⟩ : vo = a' ∧ True ∧ vc = c' := by cases hva; exact ⟨rfl, trivial, rfl⟩
      obtain ⟨gS, oS, rfl, hgS, -, hcS⟩ := hra (by omega)
      obtain ⟨cq, hat, f⟩ := Each.cells 2 PlAt.len (Each.mono (PlAt.step hsw (fun _ _ h => h)) _ _ HEL.out) hq hcS
      have HAT := Lib.hid hat
      obtain ⟨vv, rfl, hqr⟩ := hat
      obtain ⟨aq, cqq, rfl, -⟩ := hqr
      have HQ01 : Hid (∀ X, Step (fun _ => False) wr X → X.cell? ⟨gS, oS + k * 2, none⟩ = some (.int .i64 q.loc) ∧ X.cell? ⟨gS, oS + k * 2 + 1, none⟩ = some (.slice aq q.path.length cqq)) := by
        show ∀ X, _
        intro X hX
        have f0 := f 0 _ rfl
        have f1 := f 1 _ rfl
        rw [Nat.add_zero] at f0
        exact ⟨hX.cell f0 (fun h => h), hX.cell f1 (fun h => h)⟩
      obtain ⟨sq, hsq⟩ : ∃ sq, sq = sameF q p := ⟨_, rfl⟩
      have HSQ := Lib.hid hsq
      have HC1 : Hid (∀ X, Step (fun _ => False) wr X → Calls Try.prog 70 #[.agg #[.int .i64 q.loc, .slice aq q.path.length cqq], .agg #[.int .i64 p.loc, .slice a1 p.path.length c1]] X (IsBool sq X)) := by
        show ∀ X, _
        intro X hX
        rw [hsq]
        exact rsame_any q p [.int .i64 q.loc, .slice aq q.path.length cqq] [.int .i64 p.loc, .slice a1 p.path.length c1] B X (PlAt.step hX (fun _ _ h => h) _ _ HAT.out) (PlAt.step (hsw.trans hX) (fun _ _ h => h) _ _ HP.out)
      have hi0 : (0 : Int) ≤ (k : Int) := by omega
      have hi1 : (k : Int) < (l.length : Int) := by omega
      clear hcS hra hva f hq hsw hsq
      go_upto_region 4 with fail
      go_cut [17] (fun s17 wx => s17 = .bool sq ∧ Step (fun _ => False) wr wx)
      case first =>
        refine wp_region_rely (by kernel_rfl) (Det [.slice (some ⟨gS, oS, none⟩) l.length vc, .int .i64 (k : Int), .pointer (some ⟨gS, oS + k * 2, none⟩), .agg #[.int .i64 q.loc, .slice aq q.path.length cqq], .agg #[.int .i64 p.loc, .slice a1 p.path.length c1], .bool sq] wr) 6 rfl (by kernel_rfl) (by kernel_rfl) (by kernel_rfl) (by kernel_rfl) ?h0 ?hs ?hdone
        case h0 => exact Det.zero ((Step.refl _ _).drew)
        case hs =>
          refine ⟨?_, ?_, ?_, ?_, ?_, ?_, trivial⟩
          · intro L V X a ev evo hL hdep hJ
            have o0 := evo 0 rfl
            change a.tmps[0]?.getD undef = .slice (some ⟨gS, oS, none⟩) l.length vc at o0
            go_simp
            exact ⟨_, rfl, hJ.up 0 rfl⟩
          · intro L V X a ev evo hL hdep hJ
            have o5 := evo 5 rfl
            change a.tmps[5]?.getD undef = .int .i64 (k : Int) at o5
            go_simp
            exact ⟨_, rfl, hJ.up 1 rfl⟩
          · intro L V X a ev evo hL hdep hJ
            have e12 := (ev 0 12 rfl (hdep 0 rfl)).trans (hJ.1 0 _ rfl (hdep 0 rfl))
            have e13 := (ev 1 13 rfl (hdep 1 rfl)).trans (hJ.1 1 _ rfl (hdep 1 rfl))
            go_simp
            exact ⟨_, rfl, hJ.up 2 rfl⟩
          · intro L V X a ev evo hL hdep hJ
            have e14 := (ev 2 14 rfl (hdep 2 rfl)).trans (hJ.1 2 _ rfl (hdep 2 rfl))
            obtain ⟨q0, q1⟩ := HQ01.out X hJ.2
            go_simp
            exact ⟨_, rfl, hJ.up 3 rfl⟩
          · intro L V X a ev evo hL hdep hJ
            have o3 := evo 3 rfl
            change a.tmps[3]?.getD undef = .pointer (some ⟨w.heap.size, 0, none⟩) at o3
            obtain ⟨o0, o1⟩ := HKB.out X (HSTR.out.trans hJ.2)
            go_simp
            exact ⟨_, rfl, hJ.up 4 rfl⟩
          · intro L V X a ev evo hL hdep hJ
            have e15 := (ev 3 15 rfl (hdep 3 rfl)).trans (hJ.1 3 _ rfl (hdep 3 rfl))
            have e16 := (ev 4 16 rfl (hdep 4 rfl)).trans (hJ.1 4 _ rfl (hdep 4 rfl))
            go_simp
            refine (HC1.out X hJ.2).mono ?_
            rintro e wq ⟨rfl, sx⟩
            exact ⟨_, rfl, (hJ.step sx).up 5 rfl⟩
        case hdone =>
          intro L V X hall hJ
          have h5 := hJ.1 5 _ rfl (hall 5 (by decide))
          have HSTX := Lib.hid hJ.2
          rw [show List.range 6 = [0, 1, 2, 3, 4, 5] from rfl]
          simp only [putF, dstO, List.getElem?_toArray, List.getElem?_cons_zero, List.getElem?_cons_succ, Option.bind_some, Act.put, List.setIfInBounds_toArray, List.set_cons_zero, List.set_cons_succ, h5]
          clear hJ h5
          go_wp2_with fail
          go_meet
          case rel => exact ⟨rfl, HSTX.out⟩
      case rest =>
        obtain ⟨rfl, hst5⟩ := hcut
        obtain ⟨w5, rfl⟩ : ∃ w5 : World, w5 = wc := ⟨_, rfl⟩
        have HST5 := Lib.hid (HSTR.out.trans hst5)
        clear hst5
        cases sq with
        | true =>
          have HF : Hid (r = true) := by show _ = _; rw [HR.out]; exact List.any_eq_true.2 ⟨q, List.mem_of_getElem? HQ.out, HSQ.out.symm⟩
          go_wp2
          go_ret
          exact ⟨ret_bool HF.out.symm, HST.out.trans HST5.out⟩
        | false =>
          have HG2 : Hid (∀ j, j < k + 1 → ∀ y, l[j]? = some y → sameF y p = false) := by
            show ∀ j, _
            intro j hj y hy
            rcases Nat.lt_succ_iff_lt_or_eq.1 hj with h1 | rfl
            · exact HNO.out j h1 y hy
            · rw [HQ.out] at hy; cases hy; exact HSQ.out.symm
          go_wp2
          go_roundg (gk - 1)
          case rel => exact ⟨k + 1, by go_num, hlt, by omega, HG2.out, HST5.out⟩
          case measure => omega
    · obtain rfl : k = l.length := by omega
      have HF : Hid (r = false) := by
        show _ = _
        rw [HR.out]
        cases e : l.any (fun x => sameF x p) with
        | false => rfl
        | true =>
          obtain ⟨y, hy, he⟩ := List.any_eq_true.1 e
          obtain ⟨j, hj⟩ := List.getElem?_of_mem hy
          rw [HNO.out j (List.getElem?_eq_some_iff.1 hj).1 y hj] at he
          cases he
      go_wp2
      go_ret
      exact ⟨ret_bool HF.out.symm, HST.out.trans HSTR.out⟩

end Go.Proofs.Ytilipeigjkmldaa

namespace Go.Proofs.Ytilipeigjkmldaa
open Go.RowKit

set_option maxRecDepth 100000 in
set_option maxHeartbeats 4000000 in
theorem subset_any (B B1 B2 : Nat) (la lb : List Pl) (xa xb : List Value) (va vb : Value) (w : World) (hea : Each (PlAt w B) la xa) (hra : Row w B1 va la.length xa) (heb : Each (PlAt w B) lb xb) (hrb : Row w B2 vb lb.length xb) (hla : la.length ≤ 1000000) (hlb : lb.length ≤ 1000000) :
    Calls Try.prog 26 #[va, vb] w (IsBool (la.all (hasF lb)) w) := by
  have HEA := Lib.hid hea
  have HRA := Lib.hid hra
  have HEB := Lib.hid heb
  have HRB := Lib.hid hrb
  obtain ⟨ao, ac, rfl, -⟩ := id hra
  obtain ⟨r, hr⟩ : ∃ r, r = la.all (hasF lb) := ⟨_, rfl⟩
  have HR := Lib.hid hr
  rw [← hr]
  clear hea hra heb hrb hr
  go_enter Try.func26, Try.ntmps26
  go_wp2_with fail
  go_loopg [5] la.length (fun gg s5 wr => ∃ k : Nat, s5 = .int .i64 k ∧ k ≤ la.length ∧ la.length - k ≤ gg ∧ (∀ j, j < k → ∀ y, la[j]? = some y → hasF lb y = true) ∧ Step (fun _ => False) w wr)
  case atStart => exact ⟨0, rfl, Nat.zero_le _, by omega, (fun j hj => absurd hj (Nat.not_lt_zero _)), Step.refl _ _⟩
  case round =>
    obtain ⟨k, rfl, hkl, hgg, hno, hst⟩ := hrel
    have HNO := Lib.hid hno
    have HSTR := Lib.hid hst
    clear hno hst
    by_cases hlt : k < la.length
    · obtain ⟨q, hq⟩ : ∃ q, la[k]? = some q := ⟨la[k], List.getElem?_eq_getElem hlt⟩
      have HQ := Lib.hid hq
      obtain ⟨a', c', hva, -, -, -, hra⟩ := HRA.out.step HSTR.out (fun _ _ h => h)
      obtain ⟨rfl, -, rfl⟩ : ao = a' ∧ True ∧ ac = c' := by cases hva; exact ⟨rfl, trivial, rfl⟩
      obtain ⟨gS, oS, rfl, hgS, -, hcS⟩ := hra (by omega)
      obtain ⟨cq, hat, f⟩ := Each.cells 2 PlAt.len (Each.mono (PlAt.step HSTR.out (fun _ _ h => h)) _ _ HEA.out) hq hcS
      have HAT := Lib.hid hat
      obtain ⟨vv, rfl, hqr⟩ := hat
      obtain ⟨aq, cqq, rfl, -⟩ := hqr
      have F := Lib.hid f
      obtain ⟨bq, hbq⟩ : ∃ bq, bq = hasF lb q := ⟨_, rfl⟩
      have HBQ := Lib.hid hbq
      have HC : Hid (Calls Try.prog 48 #[vb, .agg #[.int .i64 q.loc, .slice aq q.path.length cqq]] wr (IsBool bq wr)) := by
        rw [hbq]
        exact has_any19 B B2 q [.int .i64 q.loc, .slice aq q.path.length cqq] lb xb vb wr HAT.out (Each.mono (PlAt.step HSTR.out (fun _ _ h => h)) _ _ HEB.out) (HRB.out.step HSTR.out (fun _ _ h => h)) hlb
      have hi0 : (0 : Int) ≤ (k : Int) := by omega
      have hi1 : (k : Int) < (la.length : Int) := by omega
      clear hcS hra hva f hq hbq
      go_wp2_with (refine wpList_load_whole rfl 47 (.tmp 15) rfl gS (oS + k * 2) rfl _ _ F.out Try.underlying47 rfl Try.sizePlace ?_)
      refine HC.out.mono ?_
      rintro e w5 ⟨rfl, s5⟩
      have HST5 := Lib.hid (HSTR.out.trans s5)
      clear s5
      cases bq with
      | true =>
        have HG2 : Hid (∀ j, j < k + 1 → ∀ y, la[j]? = some y → hasF lb y = true) := by
          show ∀ j, _
          intro j hj y hy
          rcases Nat.lt_succ_iff_lt_or_eq.1 hj with h1 | rfl
          · exact HNO.out j h1 y hy
          · rw [HQ.out] at hy; cases hy; exact HBQ.out.symm
        go_wp2
        go_roundg (gk - 1)
        case rel => exact ⟨k + 1, by go_num, hlt, by omega, HG2.out, HST5.out⟩
        case measure => omega
      | false =>
        have HF : Hid (r = false) := by
          show _ = _
          rw [HR.out]
          cases e : la.all (hasF lb) with
          | false => rfl
          | true =>
            have := List.all_eq_true.1 e q (List.mem_of_getElem? HQ.out)
            rw [← HBQ.out] at this; cases this
        go_wp2
        go_ret
        exact ⟨ret_bool HF.out.symm, HST5.out⟩
    · obtain rfl : k = la.length := by omega
      have HF : Hid (r = true) := by
        show _ = _
        rw [HR.out]
        refine List.all_eq_true.2 (fun x hx => ?_)
        obtain ⟨j, hj⟩ := List.getElem?_of_mem hx
        exact HNO.out j (List.getElem?_eq_some_iff.1 hj).1 x hj
      go_wp2
      go_ret
      exact ⟨ret_bool HF.out.symm, HSTR.out⟩

/- What is missing behind an instruction; whether it used what was. -/
def stepL (acc : List Acc) (l : List Pl) : List Pl := acc.foldl (fun m a => doR a m) l
theorem stepL_take {acc : List Acc} {j : Nat} {a : Acc} (h : acc[j]? = some a) (l : List Pl) : stepL (acc.take (j + 1)) l = doR a (stepL (acc.take j) l) := by
  obtain ⟨hj, rfl⟩ := List.getElem?_eq_some_iff.1 h
  rw [List.take_succ_eq_append_getElem hj]
  unfold stepL
  rw [List.foldl_append]; rfl
def wrongR : List Acc → List Pl → Bool
  | [], _ => false
  | a :: r, l => l.any (badOne a) || wrongR r (doR a l)
theorem wrongR_append : ∀ (r : List Acc) (a : Acc) (l : List Pl), wrongR (r ++ [a]) l = (wrongR r l || (stepL r l).any (badOne a))
  | [], a, l => by simp [wrongR, stepL]
  | x :: r, a, l => by
    show (l.any (badOne x) || wrongR (r ++ [a]) (doR x l)) = ((l.any (badOne x) || wrongR r (doR x l)) || (stepL r (doR x l)).any (badOne a))
    rw [wrongR_append r a (doR x l), Bool.or_assoc]
theorem wrongR_take {acc : List Acc} {j : Nat} {a : Acc} (h : acc[j]? = some a) (l : List Pl) : wrongR (acc.take (j + 1)) l = (wrongR (acc.take j) l || (stepL (acc.take j) l).any (badOne a)) := by
  obtain ⟨hj, rfl⟩ := List.getElem?_eq_some_iff.1 h
  rw [List.take_succ_eq_append_getElem hj, wrongR_append]
def StepPost (B : Nat) (acc : List Acc) (l : List Pl) (v : Value) (w : World) (e : Ending) (w' : World) : Prop :=
  (∃ u xs, e = .returned (.tuple #[u, .bool (wrongR acc l)]) ∧ Each (PlAt w' B) (stepL acc l) xs ∧ Row w' w'.heap.size u (stepL acc l).length xs ∧ ((acc = [] ∧ u = v) ∨ ∀ q, u.ownBlock = some q → w.heap.size ≤ q)) ∧ Step (fun _ => False) w w'

set_option maxRecDepth 100000 in
set_option maxHeartbeats 4000000 in
theorem step_any (B B2 : Nat) (b : Bod) (bs : List Value) (i : Nat) (l : List Pl) (xs : List Value) (v : Value) (w : World) (h : BodAt w B b bs) (hi : i < b.code.length) (hs : BodSmall b) (hB : B ≤ w.heap.size) (hel : Each (PlAt w B) l xs) (hrl : Row w B2 v l.length xs) (hB2 : B2 ≤ w.heap.size) (hll : l.length ≤ 500000)
    (hp : ∀ i a, a ∈ accB b i → a.pl.path.length ≤ 1000000) :
    Calls Try.prog 44 #[.agg bs.toArray, .int .i64 i, v] w (StepPost B (accB b i) l v w) := by
  have H := Lib.hid h
  have HSM := Lib.hid hs
  have HEL := Lib.hid hel
  have HRL := Lib.hid hrl
  have HP := Lib.hid hp
  have halen := accB_len b hs i
  obtain ⟨a1, c1, a2, c2, rfl⟩ := h.parts
  obtain ⟨vo, vc, rfl, -⟩ := id hrl
  obtain ⟨w1, hw1⟩ : ∃ w1 : World, w1 = w.alloc (.cells #[.string b.name, .int .i64 b.params, .slice a1 b.locals c1, .slice a2 b.code.length c2] 29) := ⟨_, rfl⟩
  have HST : Hid (Step (fun _ => False) w w1) := by show Step _ _ _; rw [hw1]; exact (Step.refl _ _).alloc _
  have HB1 : Hid (w1.heap[w.heap.size]? = some (.cells #[.string b.name, .int .i64 b.params, .slice a1 b.locals c1, .slice a2 b.code.length c2] 29 (0, 0))) := by show _ = _; rw [hw1]; exact blk_new w _
  have HW1 := Lib.hid hw1
  have d0 : w1.cell? ⟨w.heap.size, 0, none⟩ = some (.string b.name) := blk_cell HB1.out 0 _ rfl
  have d1 : w1.cell? ⟨w.heap.size, 1, none⟩ = some (.int .i64 b.params) := blk_cell HB1.out 1 _ rfl
  have d2 : w1.cell? ⟨w.heap.size, 2, none⟩ = some (.slice a1 b.locals c1) := blk_cell HB1.out 2 _ rfl
  have d3 : w1.cell? ⟨w.heap.size, 3, none⟩ = some (.slice a2 b.code.length c2) := blk_cell HB1.out 3 _ rfl
  have HACC := Lib.hid (racc_any B b _ i w1 (BodAt.step HST.out (fun _ _ h => h) _ _ H.out) hi HSM.out (Nat.le_trans hB HST.out.size))
  obtain ⟨la, hla⟩ : ∃ la, la = accB b i := ⟨_, rfl⟩
  have HLA := Lib.hid hla
  rw [← hla] at HACC halen
  rw [← hla]
  clear h hs hel hrl hp hw1 hla
  go_enter Try.func44, Try.ntmps44
  go_upto_region 1 with fail
  rw [← HW1.out]
  go_wp2_with fail
  refine HACC.out.mono ?_
  rintro e w2 ⟨⟨vA, ys, rfl, hys, hr⟩, s2⟩
  have HYS := Lib.hid hys
  have HRA := Lib.hid hr
  obtain ⟨aa, ac, rfl, -⟩ := hr
  have HST2 : Hid (Step (fun _ => False) w w2) := HST.out.trans s2
  clear hys s2 d0 d1 d2 d3
  go_wp2_with fail
  go_loopg [2, 9, 10] la.length (fun gg s2 s9 s10 wr => ∃ (k : Nat) (xm : List Value), s10 = .int .i64 k ∧ k ≤ la.length ∧ la.length - k ≤ gg ∧ s9 = .bool (wrongR (la.take k) l) ∧ Each (PlAt wr B) (stepL (la.take k) l) xm ∧ Row wr wr.heap.size s2 (stepL (la.take k) l).length xm ∧ (stepL (la.take k) l).length ≤ l.length + k ∧ ((k = 0 ∧ s2 = .slice vo l.length vc) ∨ ∀ q, s2.ownBlock = some q → w.heap.size ≤ q) ∧ Step (fun _ => False) w2 wr)
  case atStart => exact ⟨0, xs, rfl, Nat.zero_le _, by omega, rfl, Each.mono (PlAt.step HST2.out (fun _ _ h => h)) _ _ HEL.out, (HRL.out.step HST2.out (fun _ _ h => h)).mono (Nat.le_trans hB2 HST2.out.size), Nat.le_refl _, .inl ⟨rfl, rfl⟩, Step.refl _ _⟩
  case round =>
    obtain ⟨k, xm, rfl, hk, hgg, rfl, hxm, hrm, hlm, hal, hst⟩ := hrel
    have HXM := Lib.hid hxm
    have HRM := Lib.hid hrm
    have HAL := Lib.hid hal
    have HSTR := Lib.hid hst
    obtain ⟨lm, hlme⟩ : ∃ lm, lm = stepL (la.take k) l := ⟨_, rfl⟩
    have HLM := Lib.hid hlme
    obtain ⟨bd, hbd⟩ : ∃ bd, bd = wrongR (la.take k) l := ⟨_, rfl⟩
    have HBD := Lib.hid hbd
    rw [← hlme] at HXM HRM hlm
    rw [← hbd]
    clear hxm hal hst hbd hrm hlme
    by_cases hlt : k < la.length
    · obtain ⟨a, ha⟩ : ∃ a, la[k]? = some a := ⟨la[k], List.getElem?_eq_getElem hlt⟩
      obtain ⟨ax, cx, hax, -, -, -, hrr⟩ := HRA.out.step HSTR.out (fun _ _ h => h)
      obtain ⟨rfl, -, rfl⟩ : aa = ax ∧ True ∧ ac = cx := by cases hax; exact ⟨rfl, trivial, rfl⟩
      obtain ⟨gA, oA, rfl, -, -, hcell⟩ := hrr (by omega)
      obtain ⟨cs, hat, f⟩ := Each.cells 3 AcAt.len (Each.mono (AcAt.step HSTR.out (fun _ _ h => h)) _ _ HYS.out) ha hcell
      have HAT := Lib.hid hat
      obtain ⟨vp, rfl, hvp⟩ := hat
      obtain ⟨ap, cp, rfl, -⟩ := hvp
      have HC3 : Hid (∀ X, Step (fun _ => False) wr X → X.cell? ⟨gA, oA + k * 3, none⟩ = some (.int .i64 a.pl.loc) ∧ X.cell? ⟨gA, oA + k * 3 + 1, none⟩ = some (.slice ap a.pl.path.length cp) ∧ X.cell? ⟨gA, oA + k * 3 + 2, none⟩ = some (.int .i64 a.kind)) := by
        show ∀ X, _
        intro X hX
        have f0 := f 0 _ rfl
        have f1 := f 1 _ rfl
        have f2 := f 2 _ rfl
        rw [Nat.add_zero] at f0
        exact ⟨hX.cell f0 (fun h => h), hX.cell f1 (fun h => h), hX.cell f2 (fun h => h)⟩
      have HBX : Hid (B ≤ wr.heap.size) := Nat.le_trans hB (Nat.le_trans HST2.out.size HSTR.out.size)
      have hmem : a ∈ accB b i := by rw [← HLA.out]; exact List.mem_of_getElem? ha
      have HBAD : Hid (∀ u, Row wr wr.heap.size u lm.length xm → Calls Try.prog 68 #[.agg #[.int .i64 a.pl.loc, .slice ap a.pl.path.length cp, .int .i64 a.kind], u] wr (IsBool (lm.any (badOne a)) wr)) := by
        show ∀ u, _
        intro u hu
        exact rbad_any wr.heap.size a [.int .i64 a.pl.loc, .slice ap a.pl.path.length cp, .int .i64 a.kind] lm u wr (AcAt.mono HBX.out _ _ HAT.out) ⟨u, xm, rfl, Each.mono (PlAt.mono HBX.out) _ _ HXM.out, hu⟩ (accB_kinds hmem) (HP.out i a hmem) (by omega) (Nat.le_refl _)
      have HDO : Hid (∀ u X, Row wr wr.heap.size u lm.length xm → Step (fun _ => False) wr X → Calls Try.prog 69 #[.agg #[.int .i64 a.pl.loc, .slice ap a.pl.path.length cp, .int .i64 a.kind], u] X (PlsOwn X.heap.size B (doR a lm) X)) := by
        show ∀ u X, _
        intro u X hu hX
        exact rdo_any B wr.heap.size a [.int .i64 a.pl.loc, .slice ap a.pl.path.length cp, .int .i64 a.kind] lm xm u X (AcAt.step hX (fun _ _ h => h) _ _ HAT.out) (Each.mono (PlAt.step hX (fun _ _ h => h)) _ _ HXM.out) (hu.step hX (fun _ _ h => h)) (by omega) (Nat.le_trans HBX.out hX.size)
      have HSN : Hid (stepL (la.take (k + 1)) l = doR a lm) := by show _ = _; rw [stepL_take ha, ← HLM.out]
      have HWN : Hid (wrongR (la.take (k + 1)) l = (bd || lm.any (badOne a))) := by show _ = _; rw [wrongR_take ha, ← HLM.out, ← HBD.out]
      have hdl := doR_len a lm
      have hi0 : (0 : Int) ≤ (k : Int) := by omega
      have hi1 : (k : Int) < (la.length : Int) := by omega
      obtain ⟨am, cm, hvm, -⟩ := HRM.out
      subst hvm
      clear hrr hcell hax f ha
      obtain ⟨q0, q1, q2⟩ := HC3.out wr (Step.refl _ _)
      obtain ⟨bn, hbn⟩ : ∃ bn, bn = lm.any (badOne a) := ⟨_, rfl⟩
      rw [← hbn] at HWN HBAD
      clear hbn
      go_upto_region 6 with fail
      go_cut [9] (fun s9 wx => s9 = .bool (bd || bn) ∧ Step (fun _ => False) wr wx)
      case first =>
        cases bd with
        | true =>
          go_wp2_with fail
          go_meet
          case rel => exact ⟨rfl, Step.refl _ _⟩
        | false =>
          go_wp2_with fail
          refine (HBAD.out _ HRM.out).mono ?_
          rintro e w5 ⟨rfl, s5⟩
          go_wp2_with fail
          go_meet
          case rel => exact ⟨rfl, s5⟩
      case rest =>
        obtain ⟨rfl, hst5⟩ := hcut
        obtain ⟨w5, rfl⟩ : ∃ w5 : World, w5 = wc := ⟨_, rfl⟩
        have HST5 := Lib.hid hst5
        obtain ⟨qq0, qq1, qq2⟩ := HC3.out w5 hst5
        clear hst5 q0 q1 q2
        go_wp2_with fail
        refine (HDO.out _ w5 HRM.out HST5.out).mono ?_
        rintro e w6 ⟨⟨u6, xs6, rfl, hx6, ho6⟩, s6⟩
        have HX6 := Lib.hid hx6
        have HO6 := Lib.hid ho6
        have HST6 : Hid (Step (fun _ => False) w2 w6) := HSTR.out.trans (HST5.out.trans s6)
        have HLE6 : Hid (w.heap.size ≤ w5.heap.size) := Nat.le_trans HST2.out.size (Nat.le_trans HSTR.out.size HST5.out.size)
        clear hx6 ho6 s6 qq0 qq1 qq2
        go_wp2
        go_roundg (gk - 1)
        case rel =>
          exact ⟨k + 1, xs6, by go_num, hlt, by omega, by rw [HWN.out], by rw [HSN.out]; exact HX6.out, by rw [HSN.out]; exact Row.of_owns HO6.out (Nat.le_refl _), by rw [HSN.out]; omega, .inr (fun q hq => Nat.le_trans HLE6.out (HO6.out.lt q hq).1), HST6.out⟩
        case measure => omega
    · obtain rfl : k = la.length := by omega
      have HLE : Hid (lm = stepL la l) := by show _ = _; rw [HLM.out, List.take_length]
      have HBE : Hid (bd = wrongR la l) := by show _ = _; rw [HBD.out, List.take_length]
      go_wp2
      go_ret2
      refine ⟨⟨u2, xm, congrArg (fun x => Ending.returned (.tuple #[u2, .bool x])) HBE.out, by rw [← HLE.out]; exact HXM.out, by rw [← HLE.out]; exact HRM.out, ?_⟩, HST2.out.trans HSTR.out⟩
      rcases HAL.out with ⟨h1, h2⟩ | h1
      · exact .inl ⟨List.eq_nil_of_length_eq_zero h1, h2⟩
      · exact .inr h1

end Go.Proofs.Ytilipeigjkmldaa

namespace Go.Proofs.Ytilipeigjkmldaa
open Go.RowKit

set_option maxRecDepth 100000 in
set_option maxHeartbeats 1000000 in
theorem rsucc_fresh (B : Nat) (code : List Ins) (v : Value) (i : Nat) (x : Ins) (w : World) (h : InsP w B v code) (hx : code[i]? = some x) :
    Calls Try.prog 36 #[v, .int .i64 i] w fun e w' => (∃ v, e = .returned v ∧ Row w' w'.heap.size v (succI x i).length (intsV (succI x i)) ∧ ∀ q, v.ownBlock = some q → w.heap.size ≤ q) ∧ Step (fun _ => False) w w' := by
  have hi := (List.getElem?_eq_some_iff.1 hx).1
  obtain ⟨xs, hxs, a, c, rfl, hc1, hc2, -, hrr⟩ := h
  obtain ⟨g', o', rfl, -, -, hcell⟩ := hrr (by omega)
  obtain ⟨cs, hat, f⟩ := Each.cells 21 InAt.len hxs hx hcell
  clear hxs hrr hcell hx
  have HONE := Lib.hid (InAt.one _ _ hat)
  obtain ⟨vd, va, vp, vt, vc, xa, rfl, -, -, -, -, -, -⟩ := hat
  have F := Lib.hid f
  clear f
  obtain ⟨kind, loc, dest, rkind, args, rpl, mu, rname, rn, cond, tgt, els, line, col⟩ := x
  simp only at F HONE
  have HS : Hid (succI ⟨kind, loc, dest, rkind, args, rpl, mu, rname, rn, cond, tgt, els, line, col⟩ i = if kind = 4 then [tgt] else if kind = 5 then (if tgt = els then [tgt] else [tgt, els]) else if kind = 6 ∨ kind = 7 then [] else [(i : Int) + 1]) := rfl
  have FIN : Hid (∀ (l : List Int) (W : World) (n : Nat), W.heap[n]? = some (.cells (intsV l).toArray 3 (0, 0)) → l.length ≤ 2 → Row W W.heap.size (.slice (some ⟨n, 0, none⟩) l.length l.length) l.length (intsV l)) :=
    fun l W n hn hl => (Row.new hn (by omega)).mono (blk_lt hn)
  have hi0 : (0 : Int) ≤ (i : Int) := by omega
  have hi1 : (i : Int) < (code.length : Int) := by omega
  go_enter Try.func36, Try.ntmps36
  go_upto_region 2 with (first
      | (refine wpList_load_whole rfl 57 (.tmp 8) rfl g' (o' + i * 21) rfl _ _ F.out Try.underlying57 rfl Try.sizeIns ?_)
      | (refine wpList_store_new rfl 57 (.tmp 5) (.tmp 9) rfl _ _ rfl rfl Try.sizeIns rfl HONE.out ?_))
  clear F HONE
  by_cases h4 : kind = 4
  · rw [if_pos h4] at HS
    subst h4
    as_aux_lemma =>
      go_wp2
      go_ret
      refine ⟨⟨_, rfl, ?_, (fun q hq => by cases hq <;> exact Nat.le_succ _)⟩, ((Step.refl _ _).alloc _).alloc _⟩
      rw [HS.out]
      exact FIN.out [tgt] _ _ (blk_new2 _ _ _) (by simp)
  have e4 : (kind == 4) = false := by simpa using h4
  by_cases h5 : kind = 5
  · rw [if_neg h4, if_pos h5] at HS
    subst h5
    clear h4
    by_cases he : tgt = els
    · rw [if_pos he] at HS
      subst he
      as_aux_lemma =>
        go_wp2
        go_ret
        refine ⟨⟨_, rfl, ?_, (fun q hq => by cases hq <;> exact Nat.le_succ _)⟩, ((Step.refl _ _).alloc _).alloc _⟩
        rw [HS.out]
        exact FIN.out [tgt] _ _ (blk_new2 _ _ _) (by simp)
    · rw [if_neg he] at HS
      have he2 : (tgt == els) = false := by simpa using he
      clear he
      as_aux_lemma =>
        go_wp2
        go_ret
        refine ⟨⟨_, rfl, ?_, (fun q hq => by cases hq <;> exact Nat.le_succ _)⟩, ((Step.refl _ _).alloc _).alloc _⟩
        rw [HS.out]
        exact FIN.out [tgt, els] _ _ (blk_new2 _ _ _) (by simp)
  have e5 : (kind == 5) = false := by simpa using h5
  by_cases h6 : kind = 6
  · rw [if_neg h4, if_neg h5, if_pos (.inl h6)] at HS
    subst h6
    clear h4 h5
    as_aux_lemma =>
      go_wp2
      go_ret
      refine ⟨⟨_, rfl, ?_, (fun q hq => by cases hq <;> exact Nat.le_succ _)⟩, (Step.refl _ _).alloc _⟩
      rw [HS.out]
      exact Row.nil _ _ _
  have e6 : (kind == 6) = false := by simpa using h6
  by_cases h7 : kind = 7
  · rw [if_neg h4, if_neg h5, if_pos (.inr h7)] at HS
    subst h7
    clear h4 h5 h6
    as_aux_lemma =>
      go_wp2
      go_ret
      refine ⟨⟨_, rfl, ?_, (fun q hq => by cases hq <;> exact Nat.le_succ _)⟩, (Step.refl _ _).alloc _⟩
      rw [HS.out]
      exact Row.nil _ _ _
  have e7 : (kind == 7) = false := by simpa using h7
  rw [if_neg h4, if_neg h5, if_neg (by rintro (h | h) <;> contradiction)] at HS
  clear h4 h5 h6 h7
  as_aux_lemma =>
    go_wp2
    go_ret
    refine ⟨⟨_, rfl, ?_, (fun q hq => by cases hq <;> exact Nat.le_succ _)⟩, ((Step.refl _ _).alloc _).alloc _⟩
    rw [HS.out]
    exact FIN.out [(i : Int) + 1] _ _ (blk_new2 _ _ _) (by simp)

end Go.Proofs.Ytilipeigjkmldaa

namespace Go.Proofs.Ytilipeigjkmldaa
open Go.RowKit

def mg (m : List Bool) (i : Nat) : Bool := m.getD i false
def oneV (b : Bool) : Value := .int .i64 (if b then 1 else 0)
def bitsO (m : List Bool) : Obj := .cells (m.map oneV).toArray 3 (0, 0)
theorem bits_cell {w : World} {g i : Nat} {m : List Bool} {b : Bool} (h : w.heap[g]? = some (bitsO m)) (hb : m[i]? = some b) : w.cell? ⟨g, i, none⟩ = some (oneV b) := blk_cell h i _ (by simp [hb])
theorem bits_free {w : World} {g : Nat} {m : List Bool} (h : w.heap[g]? = some (bitsO m)) (i : Nat) : w.frozen? ⟨g, i, none⟩ = false := blk_free h i
theorem bits_set {w : World} {g i : Nat} {m : List Bool} (h : w.heap[g]? = some (bitsO m)) : (w.setCell ⟨g, i, none⟩ (.int .i64 1)).heap[g]? = some (bitsO (m.set i true)) := by
  have h1 := blk_set (w := w) h i (.int .i64 1)
  have e : (m.map oneV).toArray.setIfInBounds i (.int .i64 1) = ((m.set i true).map oneV).toArray := by
    simp [List.map_set, oneV]
  rw [e] at h1
  exact h1
theorem mg_set {m : List Bool} {t : Nat} (ht : t < m.length) (j : Nat) : mg (m.set t true) j = if t = j then true else mg m j := getD_setB m t j ht
def cntZ (m : List Bool) : Nat := m.countP (fun b => !b)
theorem cntZ_set {m : List Bool} {t : Nat} (ht : t < m.length) : (mg m t = true ∧ m.set t true = m) ∨ cntZ (m.set t true) + 1 = cntZ m := by
  cases h : mg m t with
  | true =>
    refine .inl ⟨rfl, ?_⟩
    refine List.ext_getElem? (fun j => ?_)
    rw [List.getElem?_set]
    by_cases e : t = j
    · subst e
      rw [if_pos rfl, if_pos ht, getD_some (d := false) ht]
      exact congrArg some h.symm
    · rw [if_neg e]
  | false =>
    refine .inr (countP_set m t ?_)
    rw [getD_some (d := false) ht]
    exact congrArg some h
def Clos (b : Bod) (m : List Bool) : Prop := ∀ i, i < b.code.length → mg m i = true → ∀ t ∈ succB b i, mg m t.toNat = true
structure RM (b : Bod) (m0 m : List Bool) : Prop where
  len : m.length = b.code.length
  sound : ∀ i, mg m i = true → Rch b i
  sub : ∀ i, mg m0 i = true → mg m i = true
  cnt : m = m0 ∨ cntZ m < cntZ m0
  same : Clos b m0 → m = m0
theorem RM.refl {b : Bod} {m : List Bool} (hl : m.length = b.code.length) (hs : ∀ i, mg m i = true → Rch b i) : RM b m m := ⟨hl, hs, fun _ h => h, .inl rfl, fun _ => rfl⟩
theorem RM.set {b : Bod} {m0 m : List Bool} {i t : Nat} (h : RM b m0 m) (hi : i < b.code.length) (hm : mg m i = true) (ht : t < b.code.length) (hs : (t : Int) ∈ succB b i) : RM b m0 (m.set t true) := by
  have htl : t < m.length := by rw [h.len]; exact ht
  refine ⟨by rw [List.length_set]; exact h.len, fun j hj => ?_, fun j hj => ?_, ?_, fun hc => ?_⟩
  · rw [mg_set htl] at hj
    split at hj
    · rename_i e
      subst e
      have := Rch.step (h.sound i hm) hs
      rwa [Int.toNat_natCast] at this
    · exact h.sound j hj
  · rw [mg_set htl]
    split
    · rfl
    · exact h.sub j hj
  · rcases cntZ_set htl with ⟨-, e⟩ | e
    · rw [e]; exact h.cnt
    · rcases h.cnt with h1 | h1
      · rw [h1] at e ⊢; right; omega
      · right; omega
  · have e := h.same hc
    subst e
    have h1 := hc i hi hm _ hs
    rw [Int.toNat_natCast] at h1
    rcases cntZ_set htl with ⟨-, e⟩ | e
    · exact e
    · have : cntZ (m.set t true) = cntZ m := by
        have h2 : m.set t true = m := by
          refine List.ext_getElem? (fun j => ?_)
          rw [List.getElem?_set]
          by_cases e2 : t = j
          · subst e2
            rw [if_pos rfl, if_pos htl, getD_some (d := false) htl]
            exact congrArg some h1.symm
          · rw [if_neg e2]
        rw [h2]
      omega
def RReachPost (b : Bod) (w : World) (e : Ending) (w' : World) : Prop :=
  (∃ gm m, e = .returned (.slice (some ⟨gm, 0, none⟩) b.code.length b.code.length) ∧ w.heap.size ≤ gm ∧ m.length = b.code.length ∧ w'.heap[gm]? = some (bitsO m) ∧ ∀ i, i < b.code.length → (mg m i = true ↔ Rch b i)) ∧ Step (fun _ => False) w w'
theorem run_makeInts (n : Nat) (hn : n ≤ 1000000) (W : World) : (Instr.makeSlice 38 (.int .i64 (n : Int)) (.int .i64 (n : Int))).run Try.prog W = .ok (.slice (some ⟨W.heap.size, 0, none⟩) n n) (W.alloc (.cells (Array.replicate n (Value.int .i64 0)) 3)) := by
  obtain ⟨i0, hi, hz0, hz1, hz2⟩ := info_parts Try.infoInt
  have h := run_make (P := Try.prog) W 38 3 i0 (.int .i64 0) Try.underlying38 hi hz0 .i64 .i64 (n : Int) (n : Int) (by omega) (Int.le_refl _) (by rw [hz2]; omega) (by omega)
  rw [hz1, Int.toNat_natCast, made_rep _ _ rfl] at h
  simpa using h

set_option maxRecDepth 100000 in
set_option maxHeartbeats 4000000 in
theorem rreach_any (B : Nat) (b : Bod) (v : Value) (w : World) (h : InsP w B v b.code) (hok : bodOk b) (hn : b.code.length ≤ 1000000) (hpos : 0 < b.code.length) (hB : B ≤ w.heap.size) :
    Calls Try.prog 47 #[v] w (RReachPost b w) := by
  have H := Lib.hid h
  have HOK := Lib.hid hok
  obtain ⟨xs, hxs, a, c, rfl, -⟩ := h
  have hmk := run_makeInts b.code.length hn
  have e0 : decide ((0 : Int) < (b.code.length : Int)) = true := decide_eq_true (by omega)
  have e1 : decide (0 < b.code.length) = true := decide_eq_true hpos
  obtain ⟨w2, hw2⟩ : ∃ w2 : World, w2 = w.alloc (.cells ((Array.replicate b.code.length (Value.int .i64 0)).setIfInBounds 0 (.int .i64 1)) 3) := ⟨_, rfl⟩
  have HST2 : Hid (Step (fun _ => False) w w2) := by show Step _ _ _; rw [hw2]; exact (Step.refl _ _).alloc _
  have HM2 : Hid (w2.heap[w.heap.size]? = some (bitsO ((List.replicate b.code.length false).set 0 true))) := by
    show _ = _
    have e : bitsO ((List.replicate b.code.length false).set 0 true) = .cells ((Array.replicate b.code.length (Value.int .i64 0)).setIfInBounds 0 (.int .i64 1)) 3 (0, 0) := by
      unfold bitsO
      congr 1
      rw [List.map_set, List.map_replicate]
      apply Array.ext'
      simp [oneV]
    rw [hw2, e]; exact blk_new w _
  have HW2 := Lib.hid hw2
  have HSUC : Hid (∀ X i, Step (fun q => q = w.heap.size) w2 X → i < b.code.length → Calls Try.prog 36 #[.slice a b.code.length c, .int .i64 i] X fun e w' => (∃ v, e = .returned v ∧ Row w' w'.heap.size v (succB b i).length (intsV (succB b i)) ∧ ∀ q, v.ownBlock = some q → X.heap.size ≤ q) ∧ Step (fun _ => False) X w') := by
    show ∀ X i, _
    intro X i hX hi
    obtain ⟨x, hx⟩ : ∃ x, b.code[i]? = some x := ⟨_, List.getElem?_eq_getElem hi⟩
    have e : succB b i = succI x i := by unfold succB; rw [hx]
    rw [e]
    exact rsucc_fresh B b.code _ i x X ((H.out.step HST2.out (fun _ _ h => h)).step hX (fun q hq e => by omega)) hx
  clear hxs hw2 hok
  go_enter Try.func47, Try.ntmps47
  go_upto_region 4 with fail
  rw [← HW2.out]
  obtain ⟨gi, hgi⟩ : ∃ gi, gi = w.heap.size := ⟨_, rfl⟩
  have HGI := Lib.hid hgi
  rw [← hgi] at HM2 HSUC
  rw [← hgi]
  clear hmk e0 e1 hgi
  have HM0 : Hid (∀ i, mg ((List.replicate b.code.length false).set 0 true) i = true → i = 0) := by
    show ∀ i, _
    intro i hi
    rw [mg_set (by simpa using hpos)] at hi
    split at hi
    · rename_i e; exact e.symm
    · unfold mg at hi
      rw [List.getD_eq_getElem?_getD, List.getElem?_replicate] at hi
      split at hi <;> cases hi
  have HC0 : Hid (cntZ ((List.replicate b.code.length false).set 0 true) + 1 = b.code.length) := by
    show _ = _
    rcases cntZ_set (m := List.replicate b.code.length false) (t := 0) (by simpa using hpos) with ⟨h, -⟩ | h
    · exfalso
      unfold mg at h
      rw [List.getD_eq_getElem?_getD, List.getElem?_replicate] at h
      split at h <;> cases h
    · rw [h]
      unfold cntZ
      rw [List.countP_replicate]; rfl
  go_wp2_with fail
  go_loopg [4, 5, 6, 7] b.code.length (fun gg s4 _ _ _ wr => ∃ (r : Nat) (m : List Bool), s4 = .int .i64 r ∧ r ≤ b.code.length ∧ b.code.length - r ≤ gg ∧ wr.heap[gi]? = some (bitsO m) ∧ m.length = b.code.length ∧ (∀ i, mg m i = true → Rch b i) ∧ mg m 0 = true ∧ (Clos b m ∨ cntZ m + r + 1 ≤ b.code.length) ∧ Step (fun q => q = gi) w2 wr)
  case atStart =>
    refine ⟨0, _, rfl, Nat.zero_le _, by omega, HM2.out, by simp, fun i hi => by rw [HM0.out i hi]; exact .zero, ?_, .inr (by have := HC0.out; omega), Step.refl _ _⟩
    rw [mg_set (by simpa using hpos)]; rfl
  case round =>
    obtain ⟨r, m0, rfl, hr, hgg, hm0, hl0, hs0, hz0, hc0, hst0⟩ := hrel
    have HM := Lib.hid hm0
    have HL0 := Lib.hid hl0
    have HS0 := Lib.hid hs0
    have HZ0 := Lib.hid hz0
    have HC := Lib.hid hc0
    have HST0 := Lib.hid hst0
    clear hm0 hl0 hs0 hz0 hc0 hst0
    obtain ⟨go1, rfl⟩ : ∃ go1, go1 = gk := ⟨_, rfl⟩
    obtain ⟨wo, rfl⟩ : ∃ wo : World, wo = wr := ⟨_, rfl⟩
    by_cases hlt : r < b.code.length
    · go_wp2_with fail
      go_loopg [5, 6, 7] b.code.length (fun gg s5 _ _ wr => ∃ (i : Nat) (m : List Bool), s5 = .int .i64 i ∧ i ≤ b.code.length ∧ b.code.length - i ≤ gg ∧ wr.heap[gi]? = some (bitsO m) ∧ RM b m0 m ∧ (∀ j, j < i → mg m0 j = true → ∀ t ∈ succB b j, mg m t.toNat = true) ∧ Step (fun q => q = gi) w2 wr)
      case atStart => exact ⟨0, m0, rfl, Nat.zero_le _, by omega, HM.out, RM.refl HL0.out HS0.out, (fun j hj => absurd hj (Nat.not_lt_zero _)), HST0.out⟩
      case round =>
        obtain ⟨i, m, rfl, hi, hgg2, hm, hrm, hcl, hst⟩ := hrel
        have HM1 := Lib.hid hm
        have HRM := Lib.hid hrm
        have HCL := Lib.hid hcl
        have HST1 := Lib.hid hst
        clear hm hrm hcl hst
        obtain ⟨go2, rfl⟩ : ∃ go2, go2 = gk := ⟨_, rfl⟩
        obtain ⟨w1, rfl⟩ : ∃ w1 : World, w1 = wr := ⟨_, rfl⟩
        by_cases hlt1 : i < b.code.length
        · go_wp2_with fail
          refine (HSUC.out w1 i HST1.out hlt1).mono ?_
          rintro e w3 ⟨⟨va, rfl, hrow, hfr⟩, s3⟩
          obtain ⟨l, hl⟩ : ∃ l, l = succB b i := ⟨_, rfl⟩
          have HL := Lib.hid hl
          have HROW := Lib.hid hrow
          obtain ⟨aa, ac, rfl, -⟩ := hrow
          rw [← hl] at HROW hfr
          have HFR := Lib.hid hfr
          have HM3 := Lib.hid (s3.keep HM1.out (fun h => h))
          have HST3 : Hid (Step (fun q => q = gi) w2 w3) := HST1.out.trans (s3.mono (fun _ _ h => h.elim))
          have HGL : Hid (gi < w1.heap.size) := blk_lt HM1.out
          have HTR : Hid (∀ t ∈ l, ∃ tn : Nat, t = tn ∧ tn < b.code.length) := by
            show ∀ t ∈ l, _
            intro t ht
            rw [hl] at ht
            have := HOK.out.succ i t ht
            exact ⟨t.toNat, by omega, by omega⟩
          have hll2 : l.length ≤ 2 := by
            rw [hl]
            unfold succB
            split
            · unfold succI
              split
              · simp
              split
              · split <;> simp
              split <;> simp
            · simp
          rw [← hl]
          clear hl hfr s3
          go_wp2_with fail
          go_loopg [7] l.length (fun gg s7 wr => ∃ (k : Nat) (m' : List Bool), s7 = .int .i64 k ∧ k ≤ l.length ∧ l.length - k ≤ gg ∧ wr.heap[gi]? = some (bitsO m') ∧ RM b m0 m' ∧ (∀ j, j < i → mg m0 j = true → ∀ t ∈ succB b j, mg m' t.toNat = true) ∧ (∀ t ∈ l.take k, mg m' t.toNat = true) ∧ Step (fun q => q = gi) w3 wr)
          case atStart => exact ⟨0, m, rfl, Nat.zero_le _, by omega, HM3.out, HRM.out, HCL.out, (fun t ht => by simp at ht), Step.refl _ _⟩
          case round =>
            obtain ⟨k, m', rfl, hk, hgg3, hm', hrm', hcl', htk, hst'⟩ := hrel
            have HM4 := Lib.hid hm'
            have HRM4 := Lib.hid hrm'
            have HCL4 := Lib.hid hcl'
            have HTK := Lib.hid htk
            have HST4 := Lib.hid hst'
            have HST24 : Hid (Step (fun q => q = gi) w2 wr) := HST3.out.trans hst'
            clear hcl' htk
            obtain ⟨bi, hbi⟩ : ∃ bi, bi = mg m' i := ⟨_, rfl⟩
            have HBI := Lib.hid hbi
            have hcell := bits_cell hm' (i := i) (b := bi) (by rw [hbi]; exact getD_some (by rw [hrm'.len]; exact hlt1))
            have hi0 : (0 : Int) ≤ (i : Int) := by omega
            have hi1 : (i : Int) < (b.code.length : Int) := by omega
            have HNEXT : Hid ((bi = true → ∀ t ∈ l, mg m' t.toNat = true) → ∀ j, j < i + 1 → mg m0 j = true → ∀ t ∈ succB b j, mg m' t.toNat = true) := by
              show _ → ∀ j, _
              intro hh j hj hm0j t ht
              rcases Nat.lt_succ_iff_lt_or_eq.1 hj with h1 | rfl
              · exact HCL4.out j h1 hm0j t ht
              · exact hh (by rw [HBI.out]; exact HRM4.out.sub j hm0j) t (by rw [HL.out]; exact ht)
            by_cases hltk : k < l.length
            · cases bi with
              | false =>
                have hc2 : wr.cell? ⟨gi, i, none⟩ = some (.int .i64 0) := hcell
                have HN2 := Lib.hid (HNEXT.out (fun h => nomatch h))
                clear hcell hm' hrm' hst' hbi
                go_wp2
                go_roundg (go2 - 1)
                case rel => exact ⟨i + 1, m', by go_num, hlt1, by omega, HM4.out, HRM4.out, HN2.out, HST24.out⟩
                case measure => omega
              | true =>
                have hc2 : wr.cell? ⟨gi, i, none⟩ = some (.int .i64 1) := hcell
                obtain ⟨t, ht⟩ : ∃ t, l[k]? = some t := ⟨_, List.getElem?_eq_getElem hltk⟩
                obtain ⟨tn, rfl, htn⟩ := HTR.out t (List.mem_of_getElem? ht)
                have hr4 := HROW.out.keep HST4.out (fun q hq e => by have := HFR.out q hq; have := HGL.out; omega)
                obtain ⟨a', c', hva, -, -, -, hra⟩ := hr4
                obtain ⟨rfl, -, rfl⟩ : aa = a' ∧ True ∧ ac = c' := by cases hva; exact ⟨rfl, trivial, rfl⟩
                obtain ⟨ga, oa, rfl, hga, -, hcA⟩ := hra (by omega)
                have f0 := hcA k _ (intsV_get l k tn ht)
                have hct := bits_cell hm' (i := tn) (b := mg m' tn) (getD_some (by rw [hrm'.len]; exact htn))
                have hfz := bits_free hm' tn
                have HM5 : Hid ((wr.setCell ⟨gi, tn, none⟩ (.int .i64 1)).heap[gi]? = some (bitsO (m'.set tn true))) := bits_set hm'
                have HRM5 : Hid (RM b m0 (m'.set tn true)) := HRM4.out.set hlt1 HBI.out.symm htn (by rw [← HL.out]; exact List.mem_of_getElem? ht)
                have HMN : Hid (∀ j, mg m' j = true → mg (m'.set tn true) j = true) := by
                  show ∀ j, _
                  intro j hj
                  rw [mg_set (by rw [hrm'.len]; exact htn)]
                  split
                  · rfl
                  · exact hj
                have HCL5 : Hid (∀ j, j < i → mg m0 j = true → ∀ t ∈ succB b j, mg (m'.set tn true) t.toNat = true) := fun j hj h1 t h2 => HMN.out _ (HCL4.out j hj h1 t h2)
                have HTK5 : Hid (∀ t ∈ l.take (k + 1), mg (m'.set tn true) t.toNat = true) := by
                  show ∀ t ∈ _, _
                  intro t h1
                  obtain ⟨hj', hja⟩ := List.getElem?_eq_some_iff.1 ht
                  rw [List.take_succ_eq_append_getElem hj', hja] at h1
                  rcases List.mem_append.1 h1 with h1 | h1
                  · exact HMN.out _ (HTK.out t h1)
                  · rw [List.mem_singleton.1 h1, Int.toNat_natCast, mg_set (by rw [hrm'.len]; exact htn), if_pos rfl]
                have HST5 : Hid (Step (fun q => q = gi) w3 (wr.setCell ⟨gi, tn, none⟩ (.int .i64 1))) := hst'.setCell _ _ (fun _ => rfl)
                have hk0 : (0 : Int) ≤ (tn : Int) := by omega
                have hk1 : (tn : Int) < (b.code.length : Int) := by omega
                have e1 : decide ((0 : Int) ≤ (tn : Int)) = true := decide_eq_true hk0
                have e2 : decide (tn < b.code.length) = true := decide_eq_true htn
                clear hcell hm' hrm' hst' hbi hra hcA hva ht
                go_wp2
                go_roundg (gk - 1)
                case rel => exact ⟨k + 1, _, by go_num, hltk, by omega, HM5.out, HRM5.out, HCL5.out, HTK5.out, HST5.out⟩
                case measure => omega
            · obtain rfl : k = l.length := by omega
              have HN2 := Lib.hid (HNEXT.out (fun _ t ht => HTK.out t (by rw [List.take_length]; exact ht)))
              clear hcell hm' hrm' hst' hbi
              go_wp2
              go_roundg (go2 - 1)
              case rel => exact ⟨i + 1, m', by go_num, hlt1, by omega, HM4.out, HRM4.out, HN2.out, HST24.out⟩
              case measure => omega
        · obtain rfl : i = b.code.length := by omega
          have HZ1 : Hid (mg m 0 = true) := HRM.out.sub 0 HZ0.out
          have HC1 : Hid (Clos b m ∨ cntZ m + (r + 1) + 1 ≤ b.code.length) := by
            show _ ∨ _
            have hclos : m = m0 → Clos b m := fun e i hi hm t ht => HCL.out i hi (by rw [← e]; exact hm) t ht
            rcases HC.out with h | h
            · exact .inl (hclos (HRM.out.same h))
            · rcases HRM.out.cnt with h1 | h1
              · exact .inl (hclos h1)
              · exact .inr (by omega)
          clear hgg2
          go_wp2
          go_roundg (go1 - 1)
          case rel => exact ⟨r + 1, m, by go_num, hlt, by omega, HM1.out, HRM.out.len, HRM.out.sound, HZ1.out, HC1.out, HST1.out⟩
          case measure => omega
    · obtain rfl : r = b.code.length := by omega
      have HCC : Hid (Clos b m0) := by
        rcases HC.out with h | h
        · exact h
        · omega
      have HIFF : Hid (∀ i, i < b.code.length → (mg m0 i = true ↔ Rch b i)) := by
        show ∀ i, _
        intro i hi
        refine ⟨HS0.out i, fun hr => ?_⟩
        have key : ∀ {i}, Rch b i → mg m0 i = true := by
          intro i hr
          induction hr with
          | zero => exact HZ0.out
          | step h1 h2 ih => exact HCC.out _ (h1.lt HOK.out hpos) ih _ h2
        exact key hr
      go_wp2
      go_ret
      exact ⟨⟨gi, m0, rfl, by have := HGI.out; omega, HL0.out, HM.out, HIFF.out⟩, HST2.out.then HST0.out (fun q hq e => by have := HGI.out; omega)⟩

end Go.Proofs.Ytilipeigjkmldaa

namespace Go.Proofs.Ytilipeigjkmldaa
open Go.RowKit

theorem hasF_append (l r : List Pl) (q : Pl) : hasF (l ++ r) q = (hasF l q || hasF r q) := by simp [hasF, List.any_append]
theorem hasF_filter (p : Pl → Bool) (l : List Pl) (q : Pl) : hasF (l.filter p) q = (hasF l q && p q) := by
  cases h : hasF (l.filter p) q with
  | true =>
    obtain ⟨h1, h2⟩ := List.mem_filter.1 (hasF_iff.1 h)
    rw [hasF_iff.2 h1, h2]; rfl
  | false =>
    cases h1 : hasF l q with
    | false => rfl
    | true =>
      cases h2 : p q with
      | false => rfl
      | true =>
        have := hasF_iff.2 (List.mem_filter.2 ⟨hasF_iff.1 h1, h2⟩)
        rw [h] at this; cases this
theorem sameF_comm (a b : Pl) : sameF a b = sameF b a := by unfold sameF; exact Bool.and_comm ..
theorem begF_of_same {a b : Pl} (h : sameF a b = true) : begF a b = true := by
  unfold sameF at h
  simp at h; exact h.1
theorem hasF_doR {a : Acc} (hk : 1 ≤ a.kind ∧ a.kind ≤ 6) (l : List Pl) (q : Pl) : hasF (doR a l) q = doB a (hasF l) q := by
  unfold doR
  rw [hasF_append, hasF_filter]
  have hnew : hasF (if newR a then [a.pl] else []) q = (newR a && sameF a.pl q) := by
    cases newR a with
    | true => simp [hasF]
    | false => simp [hasF]
  rw [hnew]
  unfold outR newR doB
  obtain ⟨pl, kd⟩ := a
  simp only at hk ⊢
  have : kd = 1 ∨ kd = 2 ∨ kd = 3 ∨ kd = 4 ∨ kd = 5 ∨ kd = 6 := by omega
  have hs : sameF pl q = true → begF pl q = true := begF_of_same
  rcases this with rfl | rfl | rfl | rfl | rfl | rfl <;> cases dirF pl <;> cases hasF l q <;> cases hb : begF pl q <;> cases hsq : sameF pl q <;> simp_all
theorem hasF_stepL : ∀ (acc : List Acc) (l : List Pl) (q : Pl), (∀ a ∈ acc, 1 ≤ a.kind ∧ a.kind ≤ 6) → hasF (stepL acc l) q = doL acc (hasF l) q
  | [], _, _, _ => rfl
  | a :: r, l, q, h => by
    show hasF (stepL r (doR a l)) q = doL r (doB a (hasF l)) q
    rw [hasF_stepL r (doR a l) q (fun x hx => h x (List.mem_cons_of_mem _ hx))]
    refine doL_at r _ _ q ?_
    exact hasF_doR (h a (List.mem_cons_self ..)) l q
theorem wrongR_iff : ∀ (acc : List Acc) (l : List Pl), (∀ a ∈ acc, 1 ≤ a.kind ∧ a.kind ≤ 6) → (wrongR acc l = true ↔ ∃ j a q, acc[j]? = some a ∧ badOne a q = true ∧ doL (acc.take j) (hasF l) q = true)
  | [], l, _ => by simp [wrongR]
  | a :: r, l, h => by
    have h1 : ∀ j q, doL (r.take j) (hasF (doR a l)) q = doL ((a :: r).take (j + 1)) (hasF l) q := by
      intro j q
      show doL (r.take j) (hasF (doR a l)) q = doL (r.take j) (doB a (hasF l)) q
      exact doL_at _ _ _ q (hasF_doR (h a (List.mem_cons_self ..)) l q)
    unfold wrongR
    rw [Bool.or_eq_true, wrongR_iff r (doR a l) (fun x hx => h x (List.mem_cons_of_mem _ hx)), List.any_eq_true]
    constructor
    · rintro (⟨q, hq, hb⟩ | ⟨j, x, q, h2, h3, h4⟩)
      · exact ⟨0, a, q, rfl, hb, hasF_iff.2 hq⟩
      · exact ⟨j + 1, x, q, by simpa using h2, h3, by rw [← h1]; exact h4⟩
    · rintro ⟨j, x, q, h2, h3, h4⟩
      cases j with
      | zero =>
        simp at h2; subst h2
        exact .inl ⟨q, hasF_iff.1 h4, h3⟩
      | succ j => exact .inr ⟨j, x, q, by simpa using h2, h3, by rw [h1]; exact h4⟩
theorem stepL_len : ∀ (acc : List Acc) (l : List Pl), (stepL acc l).length ≤ l.length + acc.length
  | [], l => by simp [stepL]
  | a :: r, l => by
    have h1 := stepL_len r (doR a l)
    have h2 := doR_len a l
    show (stepL r (doR a l)).length ≤ _
    rw [List.length_cons]; omega
theorem nodup_facts {l f : List Pl} (hl : l.Nodup) (hf : f.Nodup) (hs : ∀ q ∈ l, q ∈ f) : l.length ≤ f.length := by
  have h := nodup_bound f.length (l.map (fun q => (idxI (sameF q) f).toNat)) (by
    rw [List.Nodup, List.pairwise_map]
    refine List.Pairwise.imp_of_mem ?_ hl
    intro a c ha hc hne e
    obtain ⟨i, -, hi, h1⟩ := idx_lt hf (hs a ha)
    obtain ⟨j, -, hj, h2⟩ := idx_lt hf (hs c hc)
    rw [h1, h2, Int.toNat_natCast, Int.toNat_natCast] at e
    subst e
    rw [hi] at hj
    cases hj
    exact hne rfl) (fun x hx => by
      obtain ⟨q, hq, rfl⟩ := List.mem_map.1 hx
      obtain ⟨i, h1, -, h2⟩ := idx_lt hf (hs q hq)
      rw [h2, Int.toNat_natCast]; exact h1)
  rwa [List.length_map] at h

def lackP (n : Nat) (ls : List (List Pl)) : Nat := (ls.map (fun l => n - l.length)).sum
theorem lackP_set (n : Nat) : ∀ (ls : List (List Pl)) (t : Nat) (l : List Pl) (q : Pl), ls[t]? = some l → l.length < n → lackP n (ls.set t (l ++ [q])) + 1 = lackP n ls
  | [], t, l, q, h, _ => by simp at h
  | x :: r, 0, l, q, h, hl => by
    simp at h; subst h
    simp [lackP]; omega
  | x :: r, t + 1, l, q, h, hl => by
    have := lackP_set n r t l q (by simpa using h) hl
    simp [lackP] at this ⊢
    omega
/- What the lists hold under way. -/
structure AllInv (b : Bod) (ls : List (List Pl)) : Prop where
  len : ls.length = b.code.length
  sound : ∀ (i : Nat) l, ls[i]? = some l → ∀ q ∈ l, MissP b i q
  nd : ∀ (i : Nat) l, ls[i]? = some l → l.Nodup
  ent : ∀ q ∈ firstTo b b.locals, q ∈ ls.getD 0 []
def ClosA (b : Bod) (ls : List (List Pl)) (i : Nat) : Prop := ∀ t ∈ succB b i, ∀ q ∈ stepL (accB b i) (ls.getD i []), q ∈ ls.getD t.toNat []
theorem firstTo_mem {b : Bod} {n : Nat} {q : Pl} : q ∈ firstTo b n ↔ ∃ k, k < n ∧ isEntry b k = true ∧ q = ⟨(k : Int), []⟩ := by
  unfold firstTo
  simp only [List.mem_map, List.mem_filter, List.mem_range]
  constructor
  · rintro ⟨k, ⟨h1, h2⟩, rfl⟩; exact ⟨k, h1, h2, rfl⟩
  · rintro ⟨k, h1, h2, rfl⟩; exact ⟨k, ⟨h1, h2⟩, rfl⟩
theorem firstTo_nodup (b : Bod) (n : Nat) : (firstTo b n).Nodup := by
  unfold firstTo
  rw [List.Nodup, List.pairwise_map]
  refine List.Pairwise.imp ?_ (List.Nodup.sublist List.filter_sublist List.nodup_range)
  intro a c hne e
  injection e with e1 _
  exact hne (by omega)
theorem getD_nil {ls : List (List Pl)} {i : Nat} {l : List Pl} (h : ls[i]? = some l) : ls.getD i [] = l := by rw [List.getD_eq_getElem?_getD, h]; rfl
theorem getD_setP (ls : List (List Pl)) (i j : Nat) (s : List Pl) (hi : i < ls.length) : (ls.set i s).getD j [] = if i = j then s else ls.getD j [] := by
  rw [List.getD_eq_getElem?_getD, List.getElem?_set]
  by_cases h : i = j
  · subst h; simp [hi]
  · simp [h, List.getD_eq_getElem?_getD]
/- The lists at first. -/
theorem AllInv.first {b : Bod} (hpos : 0 < b.code.length) : AllInv b ((List.replicate b.code.length []).set 0 (firstTo b b.locals)) := by
  have hg : ∀ (i : Nat) l, ((List.replicate b.code.length ([] : List Pl)).set 0 (firstTo b b.locals))[i]? = some l → (i = 0 ∧ l = firstTo b b.locals) ∨ l = [] := by
    intro i l h
    rw [List.getElem?_set] at h
    split at h
    · rename_i e
      split at h
      · cases h; exact .inl ⟨e.symm, rfl⟩
      · cases h
    · rw [List.getElem?_replicate] at h
      split at h
      · cases h; exact .inr rfl
      · cases h
  refine ⟨by simp, fun i l h q hq => ?_, fun i l h => ?_, fun q hq => ?_⟩
  · rcases hg i l h with ⟨rfl, rfl⟩ | rfl
    · obtain ⟨k, h1, h2, rfl⟩ := firstTo_mem.1 hq
      exact .entry h1 h2
    · cases hq
  · rcases hg i l h with ⟨rfl, rfl⟩ | rfl
    · exact firstTo_nodup _ _
    · exact List.nodup_nil
  · rw [getD_setP _ _ _ _ (by simpa using hpos), if_pos rfl]; exact hq
/- A place that is new is put in. -/
theorem AllInv.push {b : Bod} {ls : List (List Pl)} {t : Nat} {l : List Pl} {q : Pl} (h : AllInv b ls) (hl : ls[t]? = some l) (hq : MissP b t q) (hn : q ∉ l) : AllInv b (ls.set t (l ++ [q])) := by
  have ht := (List.getElem?_eq_some_iff.1 hl).1
  have hg : ∀ (i : Nat) x, (ls.set t (l ++ [q]))[i]? = some x → (i = t ∧ x = l ++ [q]) ∨ ls[i]? = some x := by
    intro i x hx
    rw [List.getElem?_set] at hx
    split at hx
    · rename_i e
      cases hx; exact .inl ⟨e.symm, rfl⟩
    · exact .inr hx
  refine ⟨by rw [List.length_set]; exact h.len, fun i x hx r hr => ?_, fun i x hx => ?_, fun r hr => ?_⟩
  · rcases hg i x hx with ⟨rfl, rfl⟩ | h1
    · rcases List.mem_append.1 hr with hr | hr
      · exact h.sound _ l hl r hr
      · rw [List.mem_singleton.1 hr]; exact hq
    · exact h.sound i x h1 r hr
  · rcases hg i x hx with ⟨rfl, rfl⟩ | h1
    · rw [List.nodup_append]
      refine ⟨h.nd _ l hl, by simp, fun x hx y hy e => ?_⟩
      rw [List.mem_singleton.1 hy] at e
      exact hn (e ▸ hx)
    · exact h.nd i x h1
  · rw [getD_setP _ _ _ _ ht]
    split
    · rename_i e
      subst e
      have := h.ent r hr
      rw [getD_nil hl] at this
      exact List.mem_append_left _ this
    · exact h.ent r hr
theorem AllInv.room {b : Bod} {ls : List (List Pl)} {t : Nat} {l : List Pl} (h : AllInv b ls) (hok : bodOk b) (hl : ls[t]? = some l) : l.length ≤ (factsB b).length :=
  nodup_facts (h.nd t l hl) (factsB_nodup b) (fun q hq => (h.sound t l hl q hq).mem hok)
/- What comes behind an instruction is missing there. -/
theorem AllInv.behind {b : Bod} {ls : List (List Pl)} {i : Nat} {t : Int} {q : Pl} (h : AllInv b ls) (hr : Rch b i) (hi : i < b.code.length) (ht : t ∈ succB b i) (hq : q ∈ stepL (accB b i) (ls.getD i [])) : MissP b t.toNat q := by
  have h1 := hasF_stepL (accB b i) (ls.getD i []) q (fun a ha => accB_kinds ha)
  rw [hasF_iff.2 hq] at h1
  cases e : hasF (ls.getD i []) q with
  | true =>
    rw [doL_true _ _ q e] at h1
    have hl : ls[i]? = some (ls.getD i []) := getD_some (by rw [h.len]; exact hi)
    exact .keep (h.sound i _ hl q (hasF_iff.1 e)) h1.symm ht
  | false =>
    rw [doL_false _ _ q e] at h1
    exact .gen hr h1.symm ht
/- Where nothing is new any more, the lists hold what may be missing. -/
theorem AllInv.done {b : Bod} {ls : List (List Pl)} (h : AllInv b ls) (hok : bodOk b) (hpos : 0 < b.code.length) (hc : ∀ i, i < b.code.length → Rch b i → ClosA b ls i) {i : Nat} (hi : i < b.code.length) (q : Pl) : q ∈ ls.getD i [] ↔ MissP b i q := by
  refine ⟨fun hq => h.sound i _ (getD_some (by rw [h.len]; exact hi)) q hq, fun hm => ?_⟩
  clear hi
  have hst : ∀ {i : Nat} {q : Pl}, doL (accB b i) (hasF (ls.getD i [])) q = true → q ∈ stepL (accB b i) (ls.getD i []) := by
    intro i q hd
    exact hasF_iff.1 (by rw [hasF_stepL _ _ _ (fun a ha => accB_kinds ha)]; exact hd)
  induction hm with
  | entry h1 h2 => exact h.ent _ (firstTo_mem.2 ⟨_, h1, h2, rfl⟩)
  | gen h1 h2 h3 => exact hc _ (h1.lt hok hpos) h1 _ h3 _ (hst (doL_mono _ _ _ (fun q hq => by cases hq) _ h2))
  | keep h1 h2 h3 ih => exact hc _ (h1.rch.lt hok hpos) h1.rch _ h3 _ (hst (by rw [doL_true _ _ _ (hasF_iff.2 ih)]; exact h2))

end Go.Proofs.Ytilipeigjkmldaa

namespace Go.Proofs.Ytilipeigjkmldaa
open Go.RowKit

theorem Row.keepN {S : Nat → Prop} {w w' : World} {B : Nat} {v : Value} {n : Nat} {xs : List Value} (h : Row w B v n xs) (hs : Step S w w') (hS : 0 < n → ∀ q, v.ownBlock = some q → ¬ S q) : Row w' B v n xs := by
  obtain ⟨a, c, hv, hc, hm, hz, hr⟩ := h
  refine ⟨a, c, hv, hc, hm, hz, fun hn => ?_⟩
  obtain ⟨g, o, ha, hg, hgw, hcell⟩ := hr hn
  exact ⟨g, o, ha, hg, Nat.lt_of_lt_of_le hgw hs.size, fun i x hx => hs.cell (hcell i x hx) (hS hn g (by rw [hv, ha]; rfl))⟩
theorem Row.ownlt {w : World} {B : Nat} {v : Value} {n : Nat} {xs : List Value} (h : Row w B v n xs) (hn : 0 < n) {q : Nat} (hq : v.ownBlock = some q) : q < w.heap.size := by
  obtain ⟨a, c, hv, hc, hm, hz, hr⟩ := h
  obtain ⟨g, o, ha, hg, hgw, hcell⟩ := hr hn
  rw [hv, ha] at hq
  have : g = q := Option.some.inj hq
  omega
/- Lists of places, each in a row of its own. -/
structure OutAt (w : World) (base go B : Nat) (vs : List Value) (ls : List (List Pl)) : Prop where
  blk : w.heap[go]? = some (.cells vs.toArray 69 (0, 0))
  len : vs.length = ls.length
  row : ∀ (i : Nat) v l, vs[i]? = some v → ls[i]? = some l → ∃ xs, w.ownsRow base 47 2 v l.length xs ∧ Each (PlAt w B) l xs
  apart : ∀ (i j : Nat) u v, i ≠ j → vs[i]? = some u → vs[j]? = some v → ∀ q, u.ownBlock = some q → v.ownBlock ≠ some q
  lt : go < base
  hB : B ≤ go
  le : base ≤ w.heap.size
theorem OutAt.step {w w' : World} {base go B : Nat} {vs : List Value} {ls : List (List Pl)} (h : OutAt w base go B vs ls) (hs : Step (fun _ => False) w w') : OutAt w' base go B vs ls :=
  ⟨hs.keep h.blk (fun h => h), h.len, fun i v l h1 h2 => by
    obtain ⟨xs, h3, h4⟩ := h.row i v l h1 h2
    exact ⟨xs, hs.owns h3 (fun _ _ h => h), Each.mono (PlAt.step hs (fun _ _ h => h)) _ _ h4⟩, h.apart, h.lt, h.hB, Nat.le_trans h.le hs.size⟩
theorem OutAt.own {w : World} {base go B : Nat} {vs : List Value} {ls : List (List Pl)} (h : OutAt w base go B vs ls) {i : Nat} {v : Value} (hv : vs[i]? = some v) {q : Nat} (hq : v.ownBlock = some q) : base ≤ q ∧ q < w.heap.size := by
  have hi : i < ls.length := by rw [← h.len]; exact (List.getElem?_eq_some_iff.1 hv).1
  obtain ⟨xs, h3, -⟩ := h.row i v _ hv (List.getElem?_eq_getElem hi)
  exact h3.lt q hq
theorem OutAt.push {X X' : World} {base go B t : Nat} {vs : List Value} {ls : List (List Pl)} {v v8 : Value} {l : List Pl} {xs cq : List Value} {q : Pl} (h : OutAt X base go B vs ls) (hv : vs[t]? = some v) (hl : ls[t]? = some l) (hx : Each (PlAt X B) l xs)
    (hown : X'.ownsRow base 47 2 v8 (l.length + 1) (xs ++ cq)) (hgrow : X.grownBy X' v.ownBlock) (hat : v8.ownBlock = v.ownBlock ∨ v8.ownBlock = some X.heap.size) (hq : PlAt X B q cq) :
    OutAt (X'.setCell ⟨go, t, none⟩ v8) base go B (vs.set t v8) (ls.set t (l ++ [q])) := by
  have hlt := h.lt
  have hB := h.hB
  have hvo : ∀ k, v.ownBlock = some k → base ≤ k := fun k hk => (h.own hv hk).1
  have hb' := grown_keep hgrow h.blk (fun k hk e => by have := hvo k hk; omega)
  have hs : Step (fun q => q = go ∨ v.ownBlock = some q) X (X'.setCell ⟨go, t, none⟩ v8) := ((grown_step hgrow).mono (fun _ _ h => .inr h)).setCell _ _ (fun _ => .inl rfl)
  have hlow : ∀ k, k < B → ¬ (k = go ∨ v.ownBlock = some k) := fun k hk e => e.elim (fun e => by omega) (fun e => by have := hvo k e; omega)
  have hget : ∀ (i : Nat) u, (vs.set t v8)[i]? = some u → (i = t ∧ u = v8) ∨ (i ≠ t ∧ vs[i]? = some u) := by
    intro i u hu
    rw [List.getElem?_set] at hu
    split at hu
    · rename_i e
      split at hu
      · cases hu; exact .inl ⟨e.symm, rfl⟩
      · cases hu
    · rename_i e; exact .inr ⟨fun e2 => e e2.symm, hu⟩
  have hnew : ∀ (i : Nat) u, i ≠ t → vs[i]? = some u → ∀ q, u.ownBlock = some q → v8.ownBlock ≠ some q := by
    intro i u hi hu q hq e
    rcases hat with h1 | h1
    · exact h.apart i t u v hi hu hv q hq (by rw [← h1]; exact e)
    · rw [h1] at e
      have := Option.some.inj e
      have := (h.own hu hq).2
      omega
  refine ⟨?_, by rw [List.length_set, List.length_set]; exact h.len, ?_, ?_, hlt, hB, Nat.le_trans h.le hs.size⟩
  · have := blk_set hb' t v8
    have e : vs.toArray.setIfInBounds t v8 = (vs.set t v8).toArray := by simp
    rw [e] at this
    exact this
  · intro i u x hu hx2
    rcases hget i u hu with ⟨rfl, rfl⟩ | ⟨hi, hu2⟩
    · have hx3 : x = l ++ [q] := by
        rw [List.getElem?_set, if_pos rfl] at hx2
        split at hx2
        · cases hx2; rfl
        · cases hx2
      subst hx3
      refine ⟨xs ++ cq, ?_, Each.snoc (Each.mono (PlAt.step hs hlow) _ _ hx) (PlAt.step hs hlow _ _ hq)⟩
      rw [List.length_append]
      exact ownsRow_setCell_below hown (a := ⟨go, i, none⟩) hlt _
    · rw [List.getElem?_set, if_neg (fun e => hi e.symm)] at hx2
      obtain ⟨ys, h3, h4⟩ := h.row i u x hu2 hx2
      refine ⟨ys, owns_keep hs h3 (fun k hk e => ?_), Each.mono (PlAt.step hs hlow) _ _ h4⟩
      rcases e with e | e
      · have := (h3.lt k hk).1; omega
      · exact h.apart i t u v hi hu2 hv k hk e
  · intro i j u x hij hu hx2 q hq
    rcases hget i u hu with ⟨rfl, rfl⟩ | ⟨hi, hu2⟩
    · rcases hget j x hx2 with ⟨rfl, -⟩ | ⟨hj, hx3⟩
      · exact absurd rfl hij
      · exact fun e => hnew j x hj hx3 q e hq
    · rcases hget j x hx2 with ⟨rfl, rfl⟩ | ⟨hj, hx3⟩
      · exact hnew i u hi hu2 q hq
      · exact h.apart i j u x hij hu2 hx3 q hq
/- A slice that lies apart from all of them. -/
def ApartV (n : Nat) (u : Value) (go : Nat) (vs : List Value) : Prop := 0 < n → ∀ q, u.ownBlock = some q → q ≠ go ∧ ∀ (i : Nat) v, vs[i]? = some v → v.ownBlock ≠ some q
theorem ApartV.push {X : World} {B n go t : Nat} {u v v8 : Value} {ys : List Value} {vs : List Value} (h : ApartV n u go vs) (hr : Row X B u n ys) (hv : vs[t]? = some v) (hat : v8.ownBlock = v.ownBlock ∨ v8.ownBlock = some X.heap.size) : ApartV n u go (vs.set t v8) := by
  intro hn q hq
  obtain ⟨h1, h2⟩ := h hn q hq
  refine ⟨h1, fun i x hx e => ?_⟩
  rw [List.getElem?_set] at hx
  split at hx
  · split at hx
    · cases hx
      rcases hat with h3 | h3
      · exact h2 t v hv (by rw [← h3]; exact e)
      · rw [h3] at e
        have := Option.some.inj e
        have := hr.ownlt hn hq
        omega
    · cases hx
  · exact h2 i x hx e
theorem ApartV.fresh {X : World} {base go B n : Nat} {vs : List Value} {ls : List (List Pl)} {u : Value} (h : OutAt X base go B vs ls) (hu : ∀ q, u.ownBlock = some q → X.heap.size ≤ q) : ApartV n u go vs := by
  intro _ q hq
  have h1 := hu q hq
  refine ⟨by have := h.lt; have := h.le; omega, fun i v hv e => ?_⟩
  have := (h.own hv e).2
  omega

/- The statement that appends: what has come up so far. -/
structure AJ (X5 : World) (base go tn : Nat) (vals : List (Option Value)) (vt : Value) (lt : Nat) (xt cq : List Value) (L : Nat → Bool) (V : Nat → Value) (X : World) : Prop where
  det : ∀ (i : Nat) v, vals[i]? = some (some v) → L i = true → V i = v
  p16 : L 16 = true → L 17 = false → Row X X.heap.size (V 16) 1 cq
  s16 : L 17 = false → Step (fun _ => False) X5 X
  p17 : L 17 = true → ∃ XA X17, Step (fun _ => False) X5 XA ∧ XA.grownBy X17 vt.ownBlock ∧ X17.ownsRow base 47 2 (V 17) (lt + 1) (xt ++ cq) ∧ ((V 17).ownBlock = vt.ownBlock ∨ (V 17).ownBlock = some XA.heap.size) ∧ X = if L 19 = true then X17.setCell ⟨go, tn, none⟩ (V 17) else X17
  q17 : L 17 = true → L 16 = true ∧ L 15 = true ∧ L 11 = true
  q19 : L 19 = true → L 17 = true
  q16 : L 16 = true → L 15 = true
section
variable {X5 X X' : World} {base go tn lt : Nat} {vals : List (Option Value)} {vt : Value} {xt cq : List Value} {L : Nat → Bool} {V : Nat → Value}
theorem AJ.st (h : AJ X5 base go tn vals vt lt xt cq L V X) : Step (fun q => q = go ∨ vt.ownBlock = some q) X5 X := by
  cases e : L 17 with
  | false => exact (h.s16 e).mono (fun _ _ h => h.elim)
  | true =>
    obtain ⟨XA, X17, h1, h2, -, -, rfl⟩ := h.p17 e
    have h3 : Step (fun q => q = go ∨ vt.ownBlock = some q) X5 X17 := (h1.mono (fun _ _ h => h.elim)).trans ((grown_step h2).mono (fun _ _ h => .inr h))
    split
    · exact h3.setCell _ _ (fun _ => .inl rfl)
    · exact h3
/- An operation with one value. -/
theorem AJ.up (h : AJ X5 base go tn vals vt lt xt cq L V X) (i : Nat) {v : Value} (hv : vals[i]? = some (some v)) (h16 : i ≠ 16) (h17 : i ≠ 17) (h19 : i ≠ 19) : AJ X5 base go tn vals vt lt xt cq (updL L i) (updV V i v) X := by
  have e16 : updL L i 16 = L 16 := by unfold updL; rw [if_neg (Ne.symm h16)]
  have e17 : updL L i 17 = L 17 := by unfold updL; rw [if_neg (Ne.symm h17)]
  have e19 : updL L i 19 = L 19 := by unfold updL; rw [if_neg (Ne.symm h19)]
  have v16 : updV V i v 16 = V 16 := by unfold updV; rw [if_neg (Ne.symm h16)]
  have v17 : updV V i v 17 = V 17 := by unfold updV; rw [if_neg (Ne.symm h17)]
  have mono : ∀ j, L j = true → updL L i j = true := by
    intro j hj
    unfold updL
    split
    · rfl
    · exact hj
  refine ⟨fun j u hu hL => ?_, ?_, ?_, ?_, ?_, ?_, ?_⟩
  · unfold updL updV at *
    by_cases e : j = i
    · subst e
      rw [hv] at hu
      cases hu
      rw [if_pos rfl]
    · rw [if_neg e] at hL ⊢
      exact h.det j u hu hL
  · rw [e16, e17, v16]; exact h.p16
  · rw [e17]; exact h.s16
  · rw [e17, e19, v17]; exact h.p17
  · rw [e17]; exact fun h1 => ⟨mono _ (h.q17 h1).1, mono _ (h.q17 h1).2.1, mono _ (h.q17 h1).2.2⟩
  · rw [e19, e17]; exact h.q19
  · rw [e16]; exact fun h1 => mono _ (h.q16 h1)
theorem AJ.no17 (h : AJ X5 base go tn vals vt lt xt cq L V X) (hL : L 16 = false ∨ L 15 = false ∨ L 11 = false) : L 17 = false := by
  cases e : L 17 with
  | false => rfl
  | true =>
    obtain ⟨h1, h2, h3⟩ := h.q17 e
    rcases hL with h4 | h4 | h4
    · rw [h1] at h4; cases h4
    · rw [h2] at h4; cases h4
    · rw [h3] at h4; cases h4
theorem AJ.up16 (h : AJ X5 base go tn vals vt lt xt cq L V X) (hL : L 16 = false) (h15 : L 15 = true) (hv : vals[16]? = some none) : AJ X5 base go tn vals vt lt xt cq (updL L 16) (updV V 16 (.slice (some ⟨X.heap.size, 0, none⟩) 1 1)) (X.alloc (.cells cq.toArray 47)) := by
  have h17 := h.no17 (.inl hL)
  have h19 : L 19 = false := by
    cases e : L 19 with
    | false => rfl
    | true => rw [h.q19 e] at h17; cases h17
  refine ⟨fun j u hu hL' => ?_, fun _ _ => ?_, fun _ => (h.s16 h17).alloc _, fun e => ?_, fun e => ?_, fun e => ?_, fun _ => h15⟩
  · unfold updL updV at *
    by_cases e : j = 16
    · subst e; rw [hv] at hu; cases hu
    · rw [if_neg e] at hL' ⊢
      exact h.det j u hu hL'
  · exact (Row.new (cs := cq) (blk_new X (.cells cq.toArray 47)) (by decide)).mono (by simp)
  · have : L 17 = true := e
    rw [h17] at this; cases this
  · have : L 17 = true := e
    rw [h17] at this; cases this
  · have : L 19 = true := e
    rw [h19] at this; cases this
theorem AJ.up17 (h : AJ X5 base go tn vals vt lt xt cq L V X) {v8 : Value} (h16 : L 16 = true) (h15 : L 15 = true) (h11 : L 11 = true) (hL : L 17 = false) (hv : vals[17]? = some none) (hown : X'.ownsRow base 47 2 v8 (lt + 1) (xt ++ cq)) (hgrow : X.grownBy X' vt.ownBlock) (hat : v8.ownBlock = vt.ownBlock ∨ v8.ownBlock = some X.heap.size) :
    AJ X5 base go tn vals vt lt xt cq (updL L 17) (updV V 17 v8) X' := by
  have h19 : L 19 = false := by
    cases e : L 19 with
    | false => rfl
    | true => rw [h.q19 e] at hL; cases hL
  refine ⟨fun j u hu hL' => ?_, fun _ e => ?_, fun e => ?_, fun _ => ⟨X, X', h.s16 hL, hgrow, hown, hat, ?_⟩, fun _ => ⟨h16, h15, h11⟩, fun e => ?_, h.q16⟩
  · unfold updL updV at *
    by_cases e : j = 17
    · subst e; rw [hv] at hu; cases hu
    · rw [if_neg e] at hL' ⊢
      exact h.det j u hu hL'
  · cases e
  · cases e
  · have : updL L 17 19 = false := h19
    rw [this]; rfl
  · have : L 19 = true := e
    rw [h19] at this; cases this
theorem AJ.up19 (h : AJ X5 base go tn vals vt lt xt cq L V X) (h17 : L 17 = true) (hL : L 19 = false) (hv : vals[19]? = some none) (v : Value) : AJ X5 base go tn vals vt lt xt cq (updL L 19) (updV V 19 v) (X.setCell ⟨go, tn, none⟩ (V 17)) := by
  obtain ⟨XA, X17, h1, h2, h3, h4, h5⟩ := h.p17 h17
  rw [hL] at h5
  simp only [Bool.false_eq_true, if_false] at h5
  subst h5
  refine ⟨fun j u hu hL' => ?_, fun _ e => ?_, fun e => ?_, fun _ => ⟨XA, X, h1, h2, h3, h4, rfl⟩, fun _ => h.q17 h17, fun _ => h17, h.q16⟩
  · unfold updL updV at *
    by_cases e : j = 19
    · subst e; rw [hv] at hu; cases hu
    · rw [if_neg e] at hL' ⊢
      exact h.det j u hu hL'
  · have : L 17 = false := e
    rw [h17] at this; cases this
  · have : L 17 = false := e
    rw [h17] at this; cases this
end
theorem run_makePls (n : Nat) (hn : n ≤ 1000000) (W : World) : (Instr.makeSlice 64 (.int .i64 (n : Int)) (.int .i64 (n : Int))).run Try.prog W = .ok (.slice (some ⟨W.heap.size, 0, none⟩) n n) (W.alloc (.cells (Array.replicate n (Value.slice none 0 0)) 69)) := by
  obtain ⟨i0, hi, hz0, hz1, hz2⟩ := info_parts Try.infoPls
  have h := run_make (P := Try.prog) W 64 69 i0 (.slice none 0 0) Try.underlying64 hi hz0 .i64 .i64 (n : Int) (n : Int) (by omega) (Int.le_refl _) (by rw [hz2]; omega) (by omega)
  rw [hz1, Int.toNat_natCast, made_rep _ _ rfl] at h
  simpa using h

end Go.Proofs.Ytilipeigjkmldaa
