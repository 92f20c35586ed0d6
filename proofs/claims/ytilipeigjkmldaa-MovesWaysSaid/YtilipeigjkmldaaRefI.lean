/- The document's answer for moves: Do. -/
import Derived.Test.YtilipeigjkmldaaRefGH
namespace Go.Proofs.Ytilipeigjkmldaa
open Go.RowKit

def outR (a : Acc) (q : Pl) : Bool := (dirF a.pl && decide (4 ≤ a.kind) && begF a.pl q) || (dirF a.pl && decide (a.kind = 2) && sameF a.pl q)
def newR (a : Acc) : Bool := dirF a.pl && (decide (a.kind = 2) || (decide (a.kind = 5) || decide (a.kind = 6)))
def doR (a : Acc) (l : List Pl) : List Pl := l.filter (fun q => !outR a q) ++ (if newR a then [a.pl] else [])
theorem doR_len (a : Acc) (l : List Pl) : (doR a l).length ≤ l.length + 1 := by
  unfold doR
  rw [List.length_append]
  have := List.length_filter_le (fun q => !outR a q) l
  split <;> simp <;> omega
theorem filter_take_succ {α : Type} (p : α → Bool) {l : List α} {k : Nat} {q : α} (h : l[k]? = some q) : (l.take (k + 1)).filter p = (l.take k).filter p ++ (if p q = true then [q] else []) := by
  obtain ⟨hk, rfl⟩ := List.getElem?_eq_some_iff.1 h
  rw [List.take_succ_eq_append_getElem hk, List.filter_append]
  congr 1
  cases hp : p l[k] <;> simp [hp]
def PlsOwn (base B : Nat) (l : List Pl) (w : World) (e : Ending) (w' : World) : Prop := (∃ u xs, e = .returned u ∧ Each (PlAt w' B) l xs ∧ w'.ownsRow base 47 2 u l.length xs) ∧ Step (fun _ => False) w w'

set_option maxRecDepth 100000 in
set_option maxHeartbeats 4000000 in
theorem rdo_any (B B2 : Nat) (a : Acc) (cs : List Value) (l : List Pl) (xs : List Value) (v : Value) (w : World) (ha : AcAt w B a cs) (hel : Each (PlAt w B) l xs) (hrl : Row w B2 v l.length xs) (hll : l.length ≤ 1000000) (hB : B ≤ w.heap.size) :
    Calls Try.prog 69 #[.agg cs.toArray, v] w (PlsOwn w.heap.size B (doR a l) w) := by
  have HEL := Lib.hid hel
  have HRL := Lib.hid hrl
  obtain ⟨vo, vc, rfl, hvc, hvm, -⟩ := id hrl
  obtain ⟨va, rfl, hrow⟩ := ha
  have HROW := Lib.hid hrow
  obtain ⟨ap, cp, rfl, -⟩ := hrow
  obtain ⟨i0, hi0, hz0, hz1, hz2⟩ := info_parts Try.infoPlace
  have HI := Lib.hid hi0
  have HZ0 := Lib.hid hz0
  have HZ1 := Lib.hid hz1
  have HZ2 := Lib.hid hz2
  obtain ⟨w1, hw1⟩ : ∃ w1 : World, w1 = w.alloc (.cells #[.int .i64 a.pl.loc, .slice ap a.pl.path.length cp, .int .i64 a.kind] 90) := ⟨_, rfl⟩
  have HST : Hid (Step (fun _ => False) w w1) := by show Step _ _ _; rw [hw1]; exact (Step.refl _ _).alloc _
  have HB1 : Hid (w1.heap[w.heap.size]? = some (.cells #[.int .i64 a.pl.loc, .slice ap a.pl.path.length cp, .int .i64 a.kind] 90 (0, 0))) := by show _ = _; rw [hw1]; exact blk_new w _
  have HW1 := Lib.hid hw1
  have HKB : Hid (∀ X, Step (fun _ => False) w1 X → X.cell? ⟨w.heap.size, 0, none⟩ = some (.int .i64 a.pl.loc) ∧ X.cell? ⟨w.heap.size, 1, none⟩ = some (.slice ap a.pl.path.length cp) ∧ X.cell? ⟨w.heap.size, 2, none⟩ = some (.int .i64 a.kind)) := by
    show ∀ X, _
    intro X hX
    have hb := hX.keep HB1.out (fun h => h)
    exact ⟨blk_cell hb 0 _ rfl, blk_cell hb 1 _ rfl, blk_cell hb 2 _ rfl⟩
  have HPA : Hid (∀ X, Step (fun _ => False) w1 X → PlAt X B a.pl [.int .i64 a.pl.loc, .slice ap a.pl.path.length cp]) := by
    show ∀ X, _
    intro X hX
    exact ⟨_, rfl, HROW.out.step (HST.out.trans hX) (fun _ _ h => h)⟩
  have HD : Hid (Calls Try.prog 87 #[.agg #[.int .i64 a.pl.loc, .slice ap a.pl.path.length cp]] w1 (IsBool (dirF a.pl) w1)) := rdirect_any a.pl _ B w1 (HPA.out w1 (Step.refl _ _))
  have HBS : Hid (B ≤ w1.heap.size) := Nat.le_trans hB HST.out.size
  obtain ⟨d0, d1, d2⟩ := HKB.out w1 (Step.refl _ _)
  clear hw1 hel hrl hB hi0 hz0 hz1 hz2
  obtain ⟨dr, hdr⟩ : ∃ dr, dr = dirF a.pl := ⟨_, rfl⟩
  obtain ⟨x2, hx2⟩ : ∃ x2, x2 = decide (a.kind = 2) := ⟨_, rfl⟩
  obtain ⟨x4, hx4⟩ : ∃ x4, x4 = decide (4 ≤ a.kind) := ⟨_, rfl⟩
  have HOUT : Hid (∀ q, outR a q = ((dr && x4 && begF a.pl q) || (dr && x2 && sameF a.pl q))) := by
    show ∀ q, _
    intro q
    rw [hdr, hx2, hx4]; rfl
  have HX24 : Hid (x4 = true → x2 = false) := fun h => by
    rw [hx4] at h
    have := of_decide_eq_true h
    rw [hx2]; exact decide_eq_false (by omega)
  obtain ⟨x5, hx5⟩ : ∃ x5, x5 = decide (a.kind = 5) := ⟨_, rfl⟩
  obtain ⟨x6, hx6⟩ : ∃ x6, x6 = decide (a.kind = 6) := ⟨_, rfl⟩
  have HNEW : Hid (newR a = (dr && (x2 || (x5 || x6)))) := by show _ = _; unfold newR; rw [hdr, hx2, hx5, hx6]
  have e2 : (a.kind == 2) = x2 := by rw [hx2]; rfl
  have e5 : (a.kind == 5) = x5 := by rw [hx5]; rfl
  have e6 : (a.kind == 6) = x6 := by rw [hx6]; rfl
  have e4 : decide (4 ≤ a.kind) = x4 := hx4.symm
  rw [← hdr] at HD
  clear hdr hx2 hx4 hx5 hx6
  go_enter Try.func69, Try.ntmps69
  go_upto_region 1 with fail
  rw [← HW1.out]
  go_wp2_with fail
  refine HD.out.mono ?_
  rintro e w2 ⟨rfl, s2⟩
  have HST2 := Lib.hid s2
  clear d0 d1 d2 s2
  go_wp2_with fail
  go_loopg [5, 7] l.length (fun gg s5 s7 wr => ∃ (k : Nat) (lo : List Pl) (xo : List Value), s7 = .int .i64 k ∧ k ≤ l.length ∧ l.length - k ≤ gg ∧ lo = (l.take k).filter (fun q => !outR a q) ∧ Each (PlAt wr B) lo xo ∧ wr.ownsRow w1.heap.size 47 2 s5 lo.length xo ∧ Step (fun _ => False) w1 wr)
  case atStart => exact ⟨0, [], [], rfl, Nat.zero_le _, by omega, rfl, Each.nil, World.ownsRow_nil _ _ _ _, HST2.out⟩
  case round =>
    obtain ⟨k, lo, xo, rfl, hk, hgg, hlo, hxo, hown, hst⟩ := hrel
    have HLO := Lib.hid hlo
    have HXO := Lib.hid hxo
    have HOWN := Lib.hid hown
    have HSTR := Lib.hid hst
    have hlol : lo.length ≤ 1000000 := by rw [hlo]; exact Nat.le_trans (List.length_filter_le ..) (by rw [List.length_take]; omega)
    obtain ⟨ao, co, rfl⟩ := owns_slice hown
    obtain ⟨d0, d1, d2⟩ := HKB.out wr hst
    clear hlo hxo hown hst
    by_cases hlt : k < l.length
    · obtain ⟨q, hq⟩ : ∃ q, l[k]? = some q := ⟨l[k], List.getElem?_eq_getElem hlt⟩
      have HFT := Lib.hid (filter_take_succ (fun q => !outR a q) hq)
      have hsw : Step (fun _ => False) w wr := HST.out.trans HSTR.out
      obtain ⟨a', c', hva, -, -, -, hra⟩ := HRL.out.step hsw (fun _ _ h => h)
      obtain ⟨rfl, -, rfl⟩ : vo = a' ∧ True ∧ vc = c' := by cases hva; exact ⟨rfl, trivial, rfl⟩
      obtain ⟨gS, oS, rfl, hgS, -, hcS⟩ := hra (by omega)
      obtain ⟨cq, hat, f⟩ := Each.cells 2 PlAt.len (Each.mono (PlAt.step hsw (fun _ _ h => h)) _ _ HEL.out) hq hcS
      have HAT := Lib.hid hat
      obtain ⟨vv, rfl, hqr⟩ := hat
      obtain ⟨aq, cqq, rfl, -⟩ := hqr
      have HQ01 : Hid (∀ X, Step (fun _ => False) wr X → X.cell? ⟨gS, oS + k * 2, none⟩ = some (.int .i64 q.loc) ∧ X.cell? ⟨gS, oS + k * 2 + 1, none⟩ = some (.slice aq q.path.length cqq)) := by
        show ∀ X, _
        intro X hX
        have f0 := f 0 _ rfl
        have f1 := f 1 _ rfl
        rw [Nat.add_zero] at f0
        exact ⟨hX.cell f0 (fun h => h), hX.cell f1 (fun h => h)⟩
      have HC1 : Hid (∀ X, Step (fun _ => False) wr X → Calls Try.prog 86 #[.agg #[.int .i64 a.pl.loc, .slice ap a.pl.path.length cp], .agg #[.int .i64 q.loc, .slice aq q.path.length cqq]] X (IsBool (begF a.pl q) X)) := by
        show ∀ X, _
        intro X hX
        exact rbegins_any a.pl q [.int .i64 a.pl.loc, .slice ap a.pl.path.length cp] [.int .i64 q.loc, .slice aq q.path.length cqq] B X (HPA.out X (HSTR.out.trans hX)) (PlAt.step hX (fun _ _ h => h) _ _ HAT.out)
      have HC2 : Hid (∀ X, Step (fun _ => False) wr X → Calls Try.prog 70 #[.agg #[.int .i64 a.pl.loc, .slice ap a.pl.path.length cp], .agg #[.int .i64 q.loc, .slice aq q.path.length cqq]] X (IsBool (sameF a.pl q) X)) := by
        show ∀ X, _
        intro X hX
        exact rsame_any a.pl q [.int .i64 a.pl.loc, .slice ap a.pl.path.length cp] [.int .i64 q.loc, .slice aq q.path.length cqq] B X (HPA.out X (HSTR.out.trans hX)) (PlAt.step hX (fun _ _ h => h) _ _ HAT.out)
      have HOQ := Lib.hid (HOUT.out q)
      obtain ⟨bq, hbq⟩ : ∃ bq, bq = begF a.pl q := ⟨_, rfl⟩
      obtain ⟨sq, hsq⟩ : ∃ sq, sq = sameF a.pl q := ⟨_, rfl⟩
      rw [← hbq, ← hsq] at HOQ
      rw [← hbq] at HC1
      rw [← hsq] at HC2
      obtain ⟨oq, hoq⟩ : ∃ oq, oq = outR a q := ⟨_, rfl⟩
      rw [← hoq] at HOQ HFT
      have hi0 : (0 : Int) ≤ (k : Int) := by omega
      have hi1 : (k : Int) < (l.length : Int) := by omega
      clear hcS hra hva f hq hsw hbq hsq hoq
      go_upto_region 6 with fail
      go_cut [48] (fun s48 wx => s48 = .bool oq ∧ Step (fun _ => False) wr wx)
      case first =>
        cases dr with
        | false =>
          refine wp_region_relyG (by kernel_rfl) (Det [.bool false, .bool false, undef, undef, undef, .bool false, .bool false, undef, undef, undef, undef, undef, undef, undef, .bool false, .bool false, .bool false, .bool false, undef, undef, undef, .bool false, .bool false, undef, undef, undef, undef, undef, undef, undef, .bool false, .bool false] wr) 32 rfl (by kernel_rfl) (by kernel_rfl) (by kernel_rfl) (by kernel_rfl) ?h0 ?hs ?hdone
          case h0 => exact Det.zero ((Step.refl _ _).drew)
          case hs =>
            refine ⟨?_, ?_, ?_, ?_, ?_, ?_, ?_, ?_, ?_, ?_, ?_, ?_, ?_, ?_, ?_, ?_, ?_, ?_, ?_, ?_, ?_, ?_, ?_, ?_, ?_, ?_, ?_, ?_, ?_, ?_, ?_, ?_, trivial⟩
            · intro L V X a ev evo hL hdep hJ
              unfold GAct; dsimp only
              have o6 := evo 6 rfl
              change a.tmps[6]?.getD undef = .bool false at o6
              go_simp
              exact ⟨_, rfl, hJ.up 0 rfl⟩
            · intro L V X a ev evo hL hdep hJ
              unfold GAct; dsimp only
              have e17 := (ev 0 17 rfl (hdep 0 rfl)).trans (hJ.1 0 _ rfl (hdep 0 rfl))
              go_simp
              exact ⟨_, rfl, hJ.up 1 rfl⟩
            · intro L V X a ev evo hL hdep hJ
              unfold GAct; dsimp only
              exact .inr ⟨(by rw [hJ.1 1 _ rfl (hdep 1 rfl)]; intro h; cases h), hJ.up 2 rfl⟩
            · intro L V X a ev evo hL hdep hJ
              unfold GAct; dsimp only
              exact .inr ⟨(by rw [hJ.1 1 _ rfl (hdep 1 rfl)]; intro h; cases h), hJ.up 3 rfl⟩
            · intro L V X a ev evo hL hdep hJ
              unfold GAct; dsimp only
              exact .inr ⟨(by rw [hJ.1 1 _ rfl (hdep 1 rfl)]; intro h; cases h), hJ.up 4 rfl⟩
            · intro L V X a ev evo hL hdep hJ
              unfold GAct; dsimp only
              have e18 := (ev 1 18 rfl (hdep 1 rfl)).trans (hJ.1 1 _ rfl (hdep 1 rfl))
              go_simp
              exact ⟨_, rfl, hJ.up 5 rfl⟩
            · intro L V X a ev evo hL hdep hJ
              unfold GAct; dsimp only
              have e22 := (ev 5 22 rfl (hdep 5 rfl)).trans (hJ.1 5 _ rfl (hdep 5 rfl))
              go_simp
              exact ⟨_, rfl, hJ.up 6 rfl⟩
            · intro L V X a ev evo hL hdep hJ
              unfold GAct; dsimp only
              exact .inr ⟨(by rw [hJ.1 6 _ rfl (hdep 6 rfl)]; intro h; cases h), hJ.up 7 rfl⟩
            · intro L V X a ev evo hL hdep hJ
              unfold GAct; dsimp only
              exact .inr ⟨(by rw [hJ.1 6 _ rfl (hdep 6 rfl)]; intro h; cases h), hJ.up 8 rfl⟩
            · intro L V X a ev evo hL hdep hJ
              unfold GAct; dsimp only
              exact .inr ⟨(by rw [hJ.1 6 _ rfl (hdep 6 rfl)]; intro h; cases h), hJ.up 9 rfl⟩
            · intro L V X a ev evo hL hdep hJ
              unfold GAct; dsimp only
              exact .inr ⟨(by rw [hJ.1 6 _ rfl (hdep 6 rfl)]; intro h; cases h), hJ.up 10 rfl⟩
            · intro L V X a ev evo hL hdep hJ
              unfold GAct; dsimp only
              exact .inr ⟨(by rw [hJ.1 6 _ rfl (hdep 6 rfl)]; intro h; cases h), hJ.up 11 rfl⟩
            · intro L V X a ev evo hL hdep hJ
              unfold GAct; dsimp only
              exact .inr ⟨(by rw [hJ.1 6 _ rfl (hdep 6 rfl)]; intro h; cases h), hJ.up 12 rfl⟩
            · intro L V X a ev evo hL hdep hJ
              unfold GAct; dsimp only
              exact .inr ⟨(by rw [hJ.1 6 _ rfl (hdep 6 rfl)]; intro h; cases h), hJ.up 13 rfl⟩
            · intro L V X a ev evo hL hdep hJ
              unfold GAct; dsimp only
              have e23 := (ev 6 23 rfl (hdep 6 rfl)).trans (hJ.1 6 _ rfl (hdep 6 rfl))
              go_simp
              exact ⟨_, rfl, hJ.up 14 rfl⟩
            · intro L V X a ev evo hL hdep hJ
              unfold GAct; dsimp only
              have e31 := (ev 14 31 rfl (hdep 14 rfl)).trans (hJ.1 14 _ rfl (hdep 14 rfl))
              go_simp
              exact ⟨_, rfl, hJ.up 15 rfl⟩
            · intro L V X a ev evo hL hdep hJ
              unfold GAct; dsimp only
              refine .inl ⟨hJ.1 15 _ rfl (hdep 15 rfl), ?_⟩
              have o6 := evo 6 rfl
              change a.tmps[6]?.getD undef = .bool false at o6
              go_simp
              exact ⟨_, rfl, hJ.up 16 rfl⟩
            · intro L V X a ev evo hL hdep hJ
              unfold GAct; dsimp only
              refine .inl ⟨hJ.1 15 _ rfl (hdep 15 rfl), ?_⟩
              have e33 := (ev 16 33 rfl (hdep 16 rfl)).trans (hJ.1 16 _ rfl (hdep 16 rfl))
              go_simp
              exact ⟨_, rfl, hJ.up 17 rfl⟩
            · intro L V X a ev evo hL hdep hJ
              unfold GAct; dsimp only
              exact .inr ⟨(by rw [hJ.1 17 _ rfl (hdep 17 rfl)]; intro h; cases h), hJ.up 18 rfl⟩
            · intro L V X a ev evo hL hdep hJ
              unfold GAct; dsimp only
              exact .inr ⟨(by rw [hJ.1 17 _ rfl (hdep 17 rfl)]; intro h; cases h), hJ.up 19 rfl⟩
            · intro L V X a ev evo hL hdep hJ
              unfold GAct; dsimp only
              exact .inr ⟨(by rw [hJ.1 17 _ rfl (hdep 17 rfl)]; intro h; cases h), hJ.up 20 rfl⟩
            · intro L V X a ev evo hL hdep hJ
              unfold GAct; dsimp only
              refine .inl ⟨hJ.1 15 _ rfl (hdep 15 rfl), ?_⟩
              have e34 := (ev 17 34 rfl (hdep 17 rfl)).trans (hJ.1 17 _ rfl (hdep 17 rfl))
              go_simp
              exact ⟨_, rfl, hJ.up 21 rfl⟩
            · intro L V X a ev evo hL hdep hJ
              unfold GAct; dsimp only
              refine .inl ⟨hJ.1 15 _ rfl (hdep 15 rfl), ?_⟩
              have e38 := (ev 21 38 rfl (hdep 21 rfl)).trans (hJ.1 21 _ rfl (hdep 21 rfl))
              go_simp
              exact ⟨_, rfl, hJ.up 22 rfl⟩
            · intro L V X a ev evo hL hdep hJ
              unfold GAct; dsimp only
              exact .inr ⟨(by rw [hJ.1 22 _ rfl (hdep 22 rfl)]; intro h; cases h), hJ.up 23 rfl⟩
            · intro L V X a ev evo hL hdep hJ
              unfold GAct; dsimp only
              exact .inr ⟨(by rw [hJ.1 22 _ rfl (hdep 22 rfl)]; intro h; cases h), hJ.up 24 rfl⟩
            · intro L V X a ev evo hL hdep hJ
              unfold GAct; dsimp only
              exact .inr ⟨(by rw [hJ.1 22 _ rfl (hdep 22 rfl)]; intro h; cases h), hJ.up 25 rfl⟩
            · intro L V X a ev evo hL hdep hJ
              unfold GAct; dsimp only
              exact .inr ⟨(by rw [hJ.1 22 _ rfl (hdep 22 rfl)]; intro h; cases h), hJ.up 26 rfl⟩
            · intro L V X a ev evo hL hdep hJ
              unfold GAct; dsimp only
              exact .inr ⟨(by rw [hJ.1 22 _ rfl (hdep 22 rfl)]; intro h; cases h), hJ.up 27 rfl⟩
            · intro L V X a ev evo hL hdep hJ
              unfold GAct; dsimp only
              exact .inr ⟨(by rw [hJ.1 22 _ rfl (hdep 22 rfl)]; intro h; cases h), hJ.up 28 rfl⟩
            · intro L V X a ev evo hL hdep hJ
              unfold GAct; dsimp only
              exact .inr ⟨(by rw [hJ.1 22 _ rfl (hdep 22 rfl)]; intro h; cases h), hJ.up 29 rfl⟩
            · intro L V X a ev evo hL hdep hJ
              unfold GAct; dsimp only
              refine .inl ⟨hJ.1 15 _ rfl (hdep 15 rfl), ?_⟩
              have e39 := (ev 22 39 rfl (hdep 22 rfl)).trans (hJ.1 22 _ rfl (hdep 22 rfl))
              go_simp
              exact ⟨_, rfl, hJ.up 30 rfl⟩
            · intro L V X a ev evo hL hdep hJ
              unfold GAct; dsimp only
              have e32 := (ev 15 32 rfl (hdep 15 rfl)).trans (hJ.1 15 _ rfl (hdep 15 rfl))
              have e47 := (ev 30 47 rfl (hdep 30 rfl)).trans (hJ.1 30 _ rfl (hdep 30 rfl))
              go_simp
              exact ⟨_, rfl, hJ.up 31 rfl⟩
          case hdone =>
            intro L V X hall hJ
            have h31 := hJ.1 31 _ rfl (hall 31 (by decide))
            have HSTX := Lib.hid hJ.2
            rw [show List.range 32 = [0, 1, 2, 3, 4, 5, 6, 7, 8, 9, 10, 11, 12, 13, 14, 15, 16, 17, 18, 19, 20, 21, 22, 23, 24, 25, 26, 27, 28, 29, 30, 31] from rfl]
            simp only [putF, dstO, List.getElem?_toArray, List.getElem?_cons_zero, List.getElem?_cons_succ, Option.bind_some, Act.put, List.setIfInBounds_toArray, List.set_cons_zero, List.set_cons_succ, h31]
            clear hJ h31
            go_wp2_with fail
            go_meet
            case rel => exact ⟨by rw [HOQ.out]; rfl, HSTX.out⟩
        | true =>
          cases x4 with
          | true =>
            have h2 := HX24.out rfl
            subst h2
            cases bq with
            | true =>
              refine wp_region_relyG (by kernel_rfl) (Det [.bool true, .bool true, .pointer (some ⟨w.heap.size, 2, none⟩), .int .i64 a.kind, .bool true, .bool true, .bool true, .pointer (some ⟨w.heap.size, 0, none⟩), .agg #[.int .i64 a.pl.loc, .slice ap a.pl.path.length cp], .slice (some ⟨gS, oS, none⟩) l.length vc, .int .i64 (k : Int), .pointer (some ⟨gS, oS + k * 2, none⟩), .agg #[.int .i64 q.loc, .slice aq q.path.length cqq], .bool true, .bool true, .bool true, undef, undef, undef, undef, undef, undef, undef, undef, undef, undef, undef, undef, undef, undef, undef, .bool true] wr) 32 rfl (by kernel_rfl) (by kernel_rfl) (by kernel_rfl) (by kernel_rfl) ?h0 ?hs ?hdone
              case h0 => exact Det.zero ((Step.refl _ _).drew)
              case hs =>
                refine ⟨?_, ?_, ?_, ?_, ?_, ?_, ?_, ?_, ?_, ?_, ?_, ?_, ?_, ?_, ?_, ?_, ?_, ?_, ?_, ?_, ?_, ?_, ?_, ?_, ?_, ?_, ?_, ?_, ?_, ?_, ?_, ?_, trivial⟩
                · intro L V X a ev evo hL hdep hJ
                  unfold GAct; dsimp only
                  have o6 := evo 6 rfl
                  change a.tmps[6]?.getD undef = .bool true at o6
                  go_simp
                  exact ⟨_, rfl, hJ.up 0 rfl⟩
                · intro L V X a ev evo hL hdep hJ
                  unfold GAct; dsimp only
                  have e17 := (ev 0 17 rfl (hdep 0 rfl)).trans (hJ.1 0 _ rfl (hdep 0 rfl))
                  go_simp
                  exact ⟨_, rfl, hJ.up 1 rfl⟩
                · intro L V X a ev evo hL hdep hJ
                  unfold GAct; dsimp only
                  refine .inl ⟨hJ.1 1 _ rfl (hdep 1 rfl), ?_⟩
                  have o2 := evo 2 rfl
                  change a.tmps[2]?.getD undef = .pointer (some ⟨w.heap.size, 0, none⟩) at o2
                  go_simp
                  exact ⟨_, rfl, hJ.up 2 rfl⟩
                · intro L V X a ev evo hL hdep hJ
                  unfold GAct; dsimp only
                  refine .inl ⟨hJ.1 1 _ rfl (hdep 1 rfl), ?_⟩
                  have e19 := (ev 2 19 rfl (hdep 2 rfl)).trans (hJ.1 2 _ rfl (hdep 2 rfl))
                  obtain ⟨d0, d1, d2⟩ := HKB.out X (HSTR.out.trans hJ.2)
                  go_simp
                  exact ⟨_, rfl, hJ.up 3 rfl⟩
                · intro L V X a ev evo hL hdep hJ
                  unfold GAct; dsimp only
                  refine .inl ⟨hJ.1 1 _ rfl (hdep 1 rfl), ?_⟩
                  have e20 := (ev 3 20 rfl (hdep 3 rfl)).trans (hJ.1 3 _ rfl (hdep 3 rfl))
                  go_simp
                  exact ⟨_, rfl, hJ.up 4 rfl⟩
                · intro L V X a ev evo hL hdep hJ
                  unfold GAct; dsimp only
                  have e18 := (ev 1 18 rfl (hdep 1 rfl)).trans (hJ.1 1 _ rfl (hdep 1 rfl))
                  have e21 := (ev 4 21 rfl (hdep 4 rfl)).trans (hJ.1 4 _ rfl (hdep 4 rfl))
                  go_simp
                  exact ⟨_, rfl, hJ.up 5 rfl⟩
                · intro L V X a ev evo hL hdep hJ
                  unfold GAct; dsimp only
                  have e22 := (ev 5 22 rfl (hdep 5 rfl)).trans (hJ.1 5 _ rfl (hdep 5 rfl))
                  go_simp
                  exact ⟨_, rfl, hJ.up 6 rfl⟩
                · intro L V X a ev evo hL hdep hJ
                  unfold GAct; dsimp only
                  refine .inl ⟨hJ.1 6 _ rfl (hdep 6 rfl), ?_⟩
                  have o2 := evo 2 rfl
                  change a.tmps[2]?.getD undef = .pointer (some ⟨w.heap.size, 0, none⟩) at o2
                  go_simp
                  exact ⟨_, rfl, hJ.up 7 rfl⟩
                · intro L V X a ev evo hL hdep hJ
                  unfold GAct; dsimp only
                  refine .inl ⟨hJ.1 6 _ rfl (hdep 6 rfl), ?_⟩
                  have e24 := (ev 7 24 rfl (hdep 7 rfl)).trans (hJ.1 7 _ rfl (hdep 7 rfl))
                  obtain ⟨d0, d1, d2⟩ := HKB.out X (HSTR.out.trans hJ.2)
                  go_simp
                  exact ⟨_, rfl, hJ.up 8 rfl⟩
                · intro L V X a ev evo hL hdep hJ
                  unfold GAct; dsimp only
                  refine .inl ⟨hJ.1 6 _ rfl (hdep 6 rfl), ?_⟩
                  have o1 := evo 1 rfl
                  change a.tmps[1]?.getD undef = .slice (some ⟨gS, oS, none⟩) l.length vc at o1
                  go_simp
                  exact ⟨_, rfl, hJ.up 9 rfl⟩
                · intro L V X a ev evo hL hdep hJ
                  unfold GAct; dsimp only
                  refine .inl ⟨hJ.1 6 _ rfl (hdep 6 rfl), ?_⟩
                  have o7 := evo 7 rfl
                  change a.tmps[7]?.getD undef = .int .i64 (k : Int) at o7
                  go_simp
                  exact ⟨_, rfl, hJ.up 10 rfl⟩
                · intro L V X a ev evo hL hdep hJ
                  unfold GAct; dsimp only
                  refine .inl ⟨hJ.1 6 _ rfl (hdep 6 rfl), ?_⟩
                  have e26 := (ev 9 26 rfl (hdep 9 rfl)).trans (hJ.1 9 _ rfl (hdep 9 rfl))
                  have e27 := (ev 10 27 rfl (hdep 10 rfl)).trans (hJ.1 10 _ rfl (hdep 10 rfl))
                  go_simp
                  exact ⟨_, rfl, hJ.up 11 rfl⟩
                · intro L V X a ev evo hL hdep hJ
                  unfold GAct; dsimp only
                  refine .inl ⟨hJ.1 6 _ rfl (hdep 6 rfl), ?_⟩
                  have e28 := (ev 11 28 rfl (hdep 11 rfl)).trans (hJ.1 11 _ rfl (hdep 11 rfl))
                  obtain ⟨q0, q1⟩ := HQ01.out X hJ.2
                  go_simp
                  exact ⟨_, rfl, hJ.up 12 rfl⟩
                · intro L V X a ev evo hL hdep hJ
                  unfold GAct; dsimp only
                  refine .inl ⟨hJ.1 6 _ rfl (hdep 6 rfl), ?_⟩
                  have e25 := (ev 8 25 rfl (hdep 8 rfl)).trans (hJ.1 8 _ rfl (hdep 8 rfl))
                  have e29 := (ev 12 29 rfl (hdep 12 rfl)).trans (hJ.1 12 _ rfl (hdep 12 rfl))
                  go_simp
                  refine (HC1.out X hJ.2).mono ?_
                  rintro e wq ⟨rfl, sq⟩
                  exact ⟨_, rfl, (hJ.step sq).up 13 rfl⟩
                · intro L V X a ev evo hL hdep hJ
                  unfold GAct; dsimp only
                  have e23 := (ev 6 23 rfl (hdep 6 rfl)).trans (hJ.1 6 _ rfl (hdep 6 rfl))
                  have e30 := (ev 13 30 rfl (hdep 13 rfl)).trans (hJ.1 13 _ rfl (hdep 13 rfl))
                  go_simp
                  exact ⟨_, rfl, hJ.up 14 rfl⟩
                · intro L V X a ev evo hL hdep hJ
                  unfold GAct; dsimp only
                  have e31 := (ev 14 31 rfl (hdep 14 rfl)).trans (hJ.1 14 _ rfl (hdep 14 rfl))
                  go_simp
                  exact ⟨_, rfl, hJ.up 15 rfl⟩
                · intro L V X a ev evo hL hdep hJ
                  unfold GAct; dsimp only
                  exact .inr ⟨(by rw [hJ.1 15 _ rfl (hdep 15 rfl)]; intro h; cases h), hJ.up 16 rfl⟩
                · intro L V X a ev evo hL hdep hJ
                  unfold GAct; dsimp only
                  exact .inr ⟨(by rw [hJ.1 15 _ rfl (hdep 15 rfl)]; intro h; cases h), hJ.up 17 rfl⟩
                · intro L V X a ev evo hL hdep hJ
                  unfold GAct; dsimp only
                  exact .inr ⟨(by rw [hJ.1 17 _ rfl (hdep 17 rfl)]; exact undef_ne _), hJ.up 18 rfl⟩
                · intro L V X a ev evo hL hdep hJ
                  unfold GAct; dsimp only
                  exact .inr ⟨(by rw [hJ.1 17 _ rfl (hdep 17 rfl)]; exact undef_ne _), hJ.up 19 rfl⟩
                · intro L V X a ev evo hL hdep hJ
                  unfold GAct; dsimp only
                  exact .inr ⟨(by rw [hJ.1 17 _ rfl (hdep 17 rfl)]; exact undef_ne _), hJ.up 20 rfl⟩
                · intro L V X a ev evo hL hdep hJ
                  unfold GAct; dsimp only
                  exact .inr ⟨(by rw [hJ.1 15 _ rfl (hdep 15 rfl)]; intro h; cases h), hJ.up 21 rfl⟩
                · intro L V X a ev evo hL hdep hJ
                  unfold GAct; dsimp only
                  exact .inr ⟨(by rw [hJ.1 15 _ rfl (hdep 15 rfl)]; intro h; cases h), hJ.up 22 rfl⟩
                · intro L V X a ev evo hL hdep hJ
                  unfold GAct; dsimp only
                  exact .inr ⟨(by rw [hJ.1 22 _ rfl (hdep 22 rfl)]; exact undef_ne _), hJ.up 23 rfl⟩
                · intro L V X a ev evo hL hdep hJ
                  unfold GAct; dsimp only
                  exact .inr ⟨(by rw [hJ.1 22 _ rfl (hdep 22 rfl)]; exact undef_ne _), hJ.up 24 rfl⟩
                · intro L V X a ev evo hL hdep hJ
                  unfold GAct; dsimp only
                  exact .inr ⟨(by rw [hJ.1 22 _ rfl (hdep 22 rfl)]; exact undef_ne _), hJ.up 25 rfl⟩
                · intro L V X a ev evo hL hdep hJ
                  unfold GAct; dsimp only
                  exact .inr ⟨(by rw [hJ.1 22 _ rfl (hdep 22 rfl)]; exact undef_ne _), hJ.up 26 rfl⟩
                · intro L V X a ev evo hL hdep hJ
                  unfold GAct; dsimp only
                  exact .inr ⟨(by rw [hJ.1 22 _ rfl (hdep 22 rfl)]; exact undef_ne _), hJ.up 27 rfl⟩
                · intro L V X a ev evo hL hdep hJ
                  unfold GAct; dsimp only
                  exact .inr ⟨(by rw [hJ.1 22 _ rfl (hdep 22 rfl)]; exact undef_ne _), hJ.up 28 rfl⟩
                · intro L V X a ev evo hL hdep hJ
                  unfold GAct; dsimp only
                  exact .inr ⟨(by rw [hJ.1 22 _ rfl (hdep 22 rfl)]; exact undef_ne _), hJ.up 29 rfl⟩
                · intro L V X a ev evo hL hdep hJ
                  unfold GAct; dsimp only
                  exact .inr ⟨(by rw [hJ.1 15 _ rfl (hdep 15 rfl)]; intro h; cases h), hJ.up 30 rfl⟩
                · intro L V X a ev evo hL hdep hJ
                  unfold GAct; dsimp only
                  have e32 := (ev 15 32 rfl (hdep 15 rfl)).trans (hJ.1 15 _ rfl (hdep 15 rfl))
                  go_simp
                  exact ⟨_, rfl, hJ.up 31 rfl⟩
              case hdone =>
                intro L V X hall hJ
                have h31 := hJ.1 31 _ rfl (hall 31 (by decide))
                have HSTX := Lib.hid hJ.2
                rw [show List.range 32 = [0, 1, 2, 3, 4, 5, 6, 7, 8, 9, 10, 11, 12, 13, 14, 15, 16, 17, 18, 19, 20, 21, 22, 23, 24, 25, 26, 27, 28, 29, 30, 31] from rfl]
                simp only [putF, dstO, List.getElem?_toArray, List.getElem?_cons_zero, List.getElem?_cons_succ, Option.bind_some, Act.put, List.setIfInBounds_toArray, List.set_cons_zero, List.set_cons_succ, h31]
                clear hJ h31
                go_wp2_with fail
                go_meet
                case rel => exact ⟨by rw [HOQ.out]; rfl, HSTX.out⟩
            | false =>
              refine wp_region_relyG (by kernel_rfl) (Det [.bool true, .bool true, .pointer (some ⟨w.heap.size, 2, none⟩), .int .i64 a.kind, .bool true, .bool true, .bool true, .pointer (some ⟨w.heap.size, 0, none⟩), .agg #[.int .i64 a.pl.loc, .slice ap a.pl.path.length cp], .slice (some ⟨gS, oS, none⟩) l.length vc, .int .i64 (k : Int), .pointer (some ⟨gS, oS + k * 2, none⟩), .agg #[.int .i64 q.loc, .slice aq q.path.length cqq], .bool false, .bool false, .bool false, .bool true, .bool true, .pointer (some ⟨w.heap.size, 2, none⟩), .int .i64 a.kind, .bool false, .bool false, .bool false, undef, undef, undef, undef, undef, undef, undef, .bool false, .bool false] wr) 32 rfl (by kernel_rfl) (by kernel_rfl) (by kernel_rfl) (by kernel_rfl) ?h0 ?hs ?hdone
              case h0 => exact Det.zero ((Step.refl _ _).drew)
              case hs =>
                refine ⟨?_, ?_, ?_, ?_, ?_, ?_, ?_, ?_, ?_, ?_, ?_, ?_, ?_, ?_, ?_, ?_, ?_, ?_, ?_, ?_, ?_, ?_, ?_, ?_, ?_, ?_, ?_, ?_, ?_, ?_, ?_, ?_, trivial⟩
                · intro L V X a ev evo hL hdep hJ
                  unfold GAct; dsimp only
                  have o6 := evo 6 rfl
                  change a.tmps[6]?.getD undef = .bool true at o6
                  go_simp
                  exact ⟨_, rfl, hJ.up 0 rfl⟩
                · intro L V X a ev evo hL hdep hJ
                  unfold GAct; dsimp only
                  have e17 := (ev 0 17 rfl (hdep 0 rfl)).trans (hJ.1 0 _ rfl (hdep 0 rfl))
                  go_simp
                  exact ⟨_, rfl, hJ.up 1 rfl⟩
                · intro L V X a ev evo hL hdep hJ
                  unfold GAct; dsimp only
                  refine .inl ⟨hJ.1 1 _ rfl (hdep 1 rfl), ?_⟩
                  have o2 := evo 2 rfl
                  change a.tmps[2]?.getD undef = .pointer (some ⟨w.heap.size, 0, none⟩) at o2
                  go_simp
                  exact ⟨_, rfl, hJ.up 2 rfl⟩
                · intro L V X a ev evo hL hdep hJ
                  unfold GAct; dsimp only
                  refine .inl ⟨hJ.1 1 _ rfl (hdep 1 rfl), ?_⟩
                  have e19 := (ev 2 19 rfl (hdep 2 rfl)).trans (hJ.1 2 _ rfl (hdep 2 rfl))
                  obtain ⟨d0, d1, d2⟩ := HKB.out X (HSTR.out.trans hJ.2)
                  go_simp
                  exact ⟨_, rfl, hJ.up 3 rfl⟩
                · intro L V X a ev evo hL hdep hJ
                  unfold GAct; dsimp only
                  refine .inl ⟨hJ.1 1 _ rfl (hdep 1 rfl), ?_⟩
                  have e20 := (ev 3 20 rfl (hdep 3 rfl)).trans (hJ.1 3 _ rfl (hdep 3 rfl))
                  go_simp
                  exact ⟨_, rfl, hJ.up 4 rfl⟩
                · intro L V X a ev evo hL hdep hJ
                  unfold GAct; dsimp only
                  have e18 := (ev 1 18 rfl (hdep 1 rfl)).trans (hJ.1 1 _ rfl (hdep 1 rfl))
                  have e21 := (ev 4 21 rfl (hdep 4 rfl)).trans (hJ.1 4 _ rfl (hdep 4 rfl))
                  go_simp
                  exact ⟨_, rfl, hJ.up 5 rfl⟩
                · intro L V X a ev evo hL hdep hJ
                  unfold GAct; dsimp only
                  have e22 := (ev 5 22 rfl (hdep 5 rfl)).trans (hJ.1 5 _ rfl (hdep 5 rfl))
                  go_simp
                  exact ⟨_, rfl, hJ.up 6 rfl⟩
                · intro L V X a ev evo hL hdep hJ
                  unfold GAct; dsimp only
                  refine .inl ⟨hJ.1 6 _ rfl (hdep 6 rfl), ?_⟩
                  have o2 := evo 2 rfl
                  change a.tmps[2]?.getD undef = .pointer (some ⟨w.heap.size, 0, none⟩) at o2
                  go_simp
                  exact ⟨_, rfl, hJ.up 7 rfl⟩
                · intro L V X a ev evo hL hdep hJ
                  unfold GAct; dsimp only
                  refine .inl ⟨hJ.1 6 _ rfl (hdep 6 rfl), ?_⟩
                  have e24 := (ev 7 24 rfl (hdep 7 rfl)).trans (hJ.1 7 _ rfl (hdep 7 rfl))
                  obtain ⟨d0, d1, d2⟩ := HKB.out X (HSTR.out.trans hJ.2)
                  go_simp
                  exact ⟨_, rfl, hJ.up 8 rfl⟩
                · intro L V X a ev evo hL hdep hJ
                  unfold GAct; dsimp only
                  refine .inl ⟨hJ.1 6 _ rfl (hdep 6 rfl), ?_⟩
                  have o1 := evo 1 rfl
                  change a.tmps[1]?.getD undef = .slice (some ⟨gS, oS, none⟩) l.length vc at o1
                  go_simp
                  exact ⟨_, rfl, hJ.up 9 rfl⟩
                · intro L V X a ev evo hL hdep hJ
                  unfold GAct; dsimp only
                  refine .inl ⟨hJ.1 6 _ rfl (hdep 6 rfl), ?_⟩
                  have o7 := evo 7 rfl
                  change a.tmps[7]?.getD undef = .int .i64 (k : Int) at o7
                  go_simp
                  exact ⟨_, rfl, hJ.up 10 rfl⟩
                · intro L V X a ev evo hL hdep hJ
                  unfold GAct; dsimp only
                  refine .inl ⟨hJ.1 6 _ rfl (hdep 6 rfl), ?_⟩
                  have e26 := (ev 9 26 rfl (hdep 9 rfl)).trans (hJ.1 9 _ rfl (hdep 9 rfl))
                  have e27 := (ev 10 27 rfl (hdep 10 rfl)).trans (hJ.1 10 _ rfl (hdep 10 rfl))
                  go_simp
                  exact ⟨_, rfl, hJ.up 11 rfl⟩
                · intro L V X a ev evo hL hdep hJ
                  unfold GAct; dsimp only
                  refine .inl ⟨hJ.1 6 _ rfl (hdep 6 rfl), ?_⟩
                  have e28 := (ev 11 28 rfl (hdep 11 rfl)).trans (hJ.1 11 _ rfl (hdep 11 rfl))
                  obtain ⟨q0, q1⟩ := HQ01.out X hJ.2
                  go_simp
                  exact ⟨_, rfl, hJ.up 12 rfl⟩
                · intro L V X a ev evo hL hdep hJ
                  unfold GAct; dsimp only
                  refine .inl ⟨hJ.1 6 _ rfl (hdep 6 rfl), ?_⟩
                  have e25 := (ev 8 25 rfl (hdep 8 rfl)).trans (hJ.1 8 _ rfl (hdep 8 rfl))
                  have e29 := (ev 12 29 rfl (hdep 12 rfl)).trans (hJ.1 12 _ rfl (hdep 12 rfl))
                  go_simp
                  refine (HC1.out X hJ.2).mono ?_
                  rintro e wq ⟨rfl, sq⟩
                  exact ⟨_, rfl, (hJ.step sq).up 13 rfl⟩
                · intro L V X a ev evo hL hdep hJ
                  unfold GAct; dsimp only
                  have e23 := (ev 6 23 rfl (hdep 6 rfl)).trans (hJ.1 6 _ rfl (hdep 6 rfl))
                  have e30 := (ev 13 30 rfl (hdep 13 rfl)).trans (hJ.1 13 _ rfl (hdep 13 rfl))
                  go_simp
                  exact ⟨_, rfl, hJ.up 14 rfl⟩
                · intro L V X a ev evo hL hdep hJ
                  unfold GAct; dsimp only
                  have e31 := (ev 14 31 rfl (hdep 14 rfl)).trans (hJ.1 14 _ rfl (hdep 14 rfl))
                  go_simp
                  exact ⟨_, rfl, hJ.up 15 rfl⟩
                · intro L V X a ev evo hL hdep hJ
                  unfold GAct; dsimp only
                  refine .inl ⟨hJ.1 15 _ rfl (hdep 15 rfl), ?_⟩
                  have o6 := evo 6 rfl
                  change a.tmps[6]?.getD undef = .bool true at o6
                  go_simp
                  exact ⟨_, rfl, hJ.up 16 rfl⟩
                · intro L V X a ev evo hL hdep hJ
                  unfold GAct; dsimp only
                  refine .inl ⟨hJ.1 15 _ rfl (hdep 15 rfl), ?_⟩
                  have e33 := (ev 16 33 rfl (hdep 16 rfl)).trans (hJ.1 16 _ rfl (hdep 16 rfl))
                  go_simp
                  exact ⟨_, rfl, hJ.up 17 rfl⟩
                · intro L V X a ev evo hL hdep hJ
                  unfold GAct; dsimp only
                  refine .inl ⟨hJ.1 17 _ rfl (hdep 17 rfl), ?_⟩
                  have o2 := evo 2 rfl
                  change a.tmps[2]?.getD undef = .pointer (some ⟨w.heap.size, 0, none⟩) at o2
                  go_simp
                  exact ⟨_, rfl, hJ.up 18 rfl⟩
                · intro L V X a ev evo hL hdep hJ
                  unfold GAct; dsimp only
                  refine .inl ⟨hJ.1 17 _ rfl (hdep 17 rfl), ?_⟩
                  have e35 := (ev 18 35 rfl (hdep 18 rfl)).trans (hJ.1 18 _ rfl (hdep 18 rfl))
                  obtain ⟨d0, d1, d2⟩ := HKB.out X (HSTR.out.trans hJ.2)
                  go_simp
                  exact ⟨_, rfl, hJ.up 19 rfl⟩
                · intro L V X a ev evo hL hdep hJ
                  unfold GAct; dsimp only
                  refine .inl ⟨hJ.1 17 _ rfl (hdep 17 rfl), ?_⟩
                  have e36 := (ev 19 36 rfl (hdep 19 rfl)).trans (hJ.1 19 _ rfl (hdep 19 rfl))
                  go_simp
                  exact ⟨_, rfl, hJ.up 20 rfl⟩
                · intro L V X a ev evo hL hdep hJ
                  unfold GAct; dsimp only
                  refine .inl ⟨hJ.1 15 _ rfl (hdep 15 rfl), ?_⟩
                  have e34 := (ev 17 34 rfl (hdep 17 rfl)).trans (hJ.1 17 _ rfl (hdep 17 rfl))
                  have e37 := (ev 20 37 rfl (hdep 20 rfl)).trans (hJ.1 20 _ rfl (hdep 20 rfl))
                  go_simp
                  exact ⟨_, rfl, hJ.up 21 rfl⟩
                · intro L V X a ev evo hL hdep hJ
                  unfold GAct; dsimp only
                  refine .inl ⟨hJ.1 15 _ rfl (hdep 15 rfl), ?_⟩
                  have e38 := (ev 21 38 rfl (hdep 21 rfl)).trans (hJ.1 21 _ rfl (hdep 21 rfl))
                  go_simp
                  exact ⟨_, rfl, hJ.up 22 rfl⟩
                · intro L V X a ev evo hL hdep hJ
                  unfold GAct; dsimp only
                  exact .inr ⟨(by rw [hJ.1 22 _ rfl (hdep 22 rfl)]; intro h; cases h), hJ.up 23 rfl⟩
                · intro L V X a ev evo hL hdep hJ
                  unfold GAct; dsimp only
                  exact .inr ⟨(by rw [hJ.1 22 _ rfl (hdep 22 rfl)]; intro h; cases h), hJ.up 24 rfl⟩
                · intro L V X a ev evo hL hdep hJ
                  unfold GAct; dsimp only
                  exact .inr ⟨(by rw [hJ.1 22 _ rfl (hdep 22 rfl)]; intro h; cases h), hJ.up 25 rfl⟩
                · intro L V X a ev evo hL hdep hJ
                  unfold GAct; dsimp only
                  exact .inr ⟨(by rw [hJ.1 22 _ rfl (hdep 22 rfl)]; intro h; cases h), hJ.up 26 rfl⟩
                · intro L V X a ev evo hL hdep hJ
                  unfold GAct; dsimp only
                  exact .inr ⟨(by rw [hJ.1 22 _ rfl (hdep 22 rfl)]; intro h; cases h), hJ.up 27 rfl⟩
                · intro L V X a ev evo hL hdep hJ
                  unfold GAct; dsimp only
                  exact .inr ⟨(by rw [hJ.1 22 _ rfl (hdep 22 rfl)]; intro h; cases h), hJ.up 28 rfl⟩
                · intro L V X a ev evo hL hdep hJ
                  unfold GAct; dsimp only
                  exact .inr ⟨(by rw [hJ.1 22 _ rfl (hdep 22 rfl)]; intro h; cases h), hJ.up 29 rfl⟩
                · intro L V X a ev evo hL hdep hJ
                  unfold GAct; dsimp only
                  refine .inl ⟨hJ.1 15 _ rfl (hdep 15 rfl), ?_⟩
                  have e39 := (ev 22 39 rfl (hdep 22 rfl)).trans (hJ.1 22 _ rfl (hdep 22 rfl))
                  go_simp
                  exact ⟨_, rfl, hJ.up 30 rfl⟩
                · intro L V X a ev evo hL hdep hJ
                  unfold GAct; dsimp only
                  have e32 := (ev 15 32 rfl (hdep 15 rfl)).trans (hJ.1 15 _ rfl (hdep 15 rfl))
                  have e47 := (ev 30 47 rfl (hdep 30 rfl)).trans (hJ.1 30 _ rfl (hdep 30 rfl))
                  go_simp
                  exact ⟨_, rfl, hJ.up 31 rfl⟩
              case hdone =>
                intro L V X hall hJ
                have h31 := hJ.1 31 _ rfl (hall 31 (by decide))
                have HSTX := Lib.hid hJ.2
                rw [show List.range 32 = [0, 1, 2, 3, 4, 5, 6, 7, 8, 9, 10, 11, 12, 13, 14, 15, 16, 17, 18, 19, 20, 21, 22, 23, 24, 25, 26, 27, 28, 29, 30, 31] from rfl]
                simp only [putF, dstO, List.getElem?_toArray, List.getElem?_cons_zero, List.getElem?_cons_succ, Option.bind_some, Act.put, List.setIfInBounds_toArray, List.set_cons_zero, List.set_cons_succ, h31]
                clear hJ h31
                go_wp2_with fail
                go_meet
                case rel => exact ⟨by rw [HOQ.out]; rfl, HSTX.out⟩
          | false =>
            cases x2 with
            | true =>
              refine wp_region_relyG (by kernel_rfl) (Det [.bool true, .bool true, .pointer (some ⟨w.heap.size, 2, none⟩), .int .i64 a.kind, .bool false, .bool false, .bool false, undef, undef, undef, undef, undef, undef, undef, .bool false, .bool false, .bool true, .bool true, .pointer (some ⟨w.heap.size, 2, none⟩), .int .i64 a.kind, .bool true, .bool true, .bool true, .pointer (some ⟨w.heap.size, 0, none⟩), .agg #[.int .i64 a.pl.loc, .slice ap a.pl.path.length cp], .slice (some ⟨gS, oS, none⟩) l.length vc, .int .i64 (k : Int), .pointer (some ⟨gS, oS + k * 2, none⟩), .agg #[.int .i64 q.loc, .slice aq q.path.length cqq], .bool sq, .bool sq, .bool sq] wr) 32 rfl (by kernel_rfl) (by kernel_rfl) (by kernel_rfl) (by kernel_rfl) ?h0 ?hs ?hdone
              case h0 => exact Det.zero ((Step.refl _ _).drew)
              case hs =>
                refine ⟨?_, ?_, ?_, ?_, ?_, ?_, ?_, ?_, ?_, ?_, ?_, ?_, ?_, ?_, ?_, ?_, ?_, ?_, ?_, ?_, ?_, ?_, ?_, ?_, ?_, ?_, ?_, ?_, ?_, ?_, ?_, ?_, trivial⟩
                · intro L V X a ev evo hL hdep hJ
                  unfold GAct; dsimp only
                  have o6 := evo 6 rfl
                  change a.tmps[6]?.getD undef = .bool true at o6
                  go_simp
                  exact ⟨_, rfl, hJ.up 0 rfl⟩
                · intro L V X a ev evo hL hdep hJ
                  unfold GAct; dsimp only
                  have e17 := (ev 0 17 rfl (hdep 0 rfl)).trans (hJ.1 0 _ rfl (hdep 0 rfl))
                  go_simp
                  exact ⟨_, rfl, hJ.up 1 rfl⟩
                · intro L V X a ev evo hL hdep hJ
                  unfold GAct; dsimp only
                  refine .inl ⟨hJ.1 1 _ rfl (hdep 1 rfl), ?_⟩
                  have o2 := evo 2 rfl
                  change a.tmps[2]?.getD undef = .pointer (some ⟨w.heap.size, 0, none⟩) at o2
                  go_simp
                  exact ⟨_, rfl, hJ.up 2 rfl⟩
                · intro L V X a ev evo hL hdep hJ
                  unfold GAct; dsimp only
                  refine .inl ⟨hJ.1 1 _ rfl (hdep 1 rfl), ?_⟩
                  have e19 := (ev 2 19 rfl (hdep 2 rfl)).trans (hJ.1 2 _ rfl (hdep 2 rfl))
                  obtain ⟨d0, d1, d2⟩ := HKB.out X (HSTR.out.trans hJ.2)
                  go_simp
                  exact ⟨_, rfl, hJ.up 3 rfl⟩
                · intro L V X a ev evo hL hdep hJ
                  unfold GAct; dsimp only
                  refine .inl ⟨hJ.1 1 _ rfl (hdep 1 rfl), ?_⟩
                  have e20 := (ev 3 20 rfl (hdep 3 rfl)).trans (hJ.1 3 _ rfl (hdep 3 rfl))
                  go_simp
                  exact ⟨_, rfl, hJ.up 4 rfl⟩
                · intro L V X a ev evo hL hdep hJ
                  unfold GAct; dsimp only
                  have e18 := (ev 1 18 rfl (hdep 1 rfl)).trans (hJ.1 1 _ rfl (hdep 1 rfl))
                  have e21 := (ev 4 21 rfl (hdep 4 rfl)).trans (hJ.1 4 _ rfl (hdep 4 rfl))
                  go_simp
                  exact ⟨_, rfl, hJ.up 5 rfl⟩
                · intro L V X a ev evo hL hdep hJ
                  unfold GAct; dsimp only
                  have e22 := (ev 5 22 rfl (hdep 5 rfl)).trans (hJ.1 5 _ rfl (hdep 5 rfl))
                  go_simp
                  exact ⟨_, rfl, hJ.up 6 rfl⟩
                · intro L V X a ev evo hL hdep hJ
                  unfold GAct; dsimp only
                  exact .inr ⟨(by rw [hJ.1 6 _ rfl (hdep 6 rfl)]; intro h; cases h), hJ.up 7 rfl⟩
                · intro L V X a ev evo hL hdep hJ
                  unfold GAct; dsimp only
                  exact .inr ⟨(by rw [hJ.1 6 _ rfl (hdep 6 rfl)]; intro h; cases h), hJ.up 8 rfl⟩
                · intro L V X a ev evo hL hdep hJ
                  unfold GAct; dsimp only
                  exact .inr ⟨(by rw [hJ.1 6 _ rfl (hdep 6 rfl)]; intro h; cases h), hJ.up 9 rfl⟩
                · intro L V X a ev evo hL hdep hJ
                  unfold GAct; dsimp only
                  exact .inr ⟨(by rw [hJ.1 6 _ rfl (hdep 6 rfl)]; intro h; cases h), hJ.up 10 rfl⟩
                · intro L V X a ev evo hL hdep hJ
                  unfold GAct; dsimp only
                  exact .inr ⟨(by rw [hJ.1 6 _ rfl (hdep 6 rfl)]; intro h; cases h), hJ.up 11 rfl⟩
                · intro L V X a ev evo hL hdep hJ
                  unfold GAct; dsimp only
                  exact .inr ⟨(by rw [hJ.1 6 _ rfl (hdep 6 rfl)]; intro h; cases h), hJ.up 12 rfl⟩
                · intro L V X a ev evo hL hdep hJ
                  unfold GAct; dsimp only
                  exact .inr ⟨(by rw [hJ.1 6 _ rfl (hdep 6 rfl)]; intro h; cases h), hJ.up 13 rfl⟩
                · intro L V X a ev evo hL hdep hJ
                  unfold GAct; dsimp only
                  have e23 := (ev 6 23 rfl (hdep 6 rfl)).trans (hJ.1 6 _ rfl (hdep 6 rfl))
                  go_simp
                  exact ⟨_, rfl, hJ.up 14 rfl⟩
                · intro L V X a ev evo hL hdep hJ
                  unfold GAct; dsimp only
                  have e31 := (ev 14 31 rfl (hdep 14 rfl)).trans (hJ.1 14 _ rfl (hdep 14 rfl))
                  go_simp
                  exact ⟨_, rfl, hJ.up 15 rfl⟩
                · intro L V X a ev evo hL hdep hJ
                  unfold GAct; dsimp only
                  refine .inl ⟨hJ.1 15 _ rfl (hdep 15 rfl), ?_⟩
                  have o6 := evo 6 rfl
                  change a.tmps[6]?.getD undef = .bool true at o6
                  go_simp
                  exact ⟨_, rfl, hJ.up 16 rfl⟩
                · intro L V X a ev evo hL hdep hJ
                  unfold GAct; dsimp only
                  refine .inl ⟨hJ.1 15 _ rfl (hdep 15 rfl), ?_⟩
                  have e33 := (ev 16 33 rfl (hdep 16 rfl)).trans (hJ.1 16 _ rfl (hdep 16 rfl))
                  go_simp
                  exact ⟨_, rfl, hJ.up 17 rfl⟩
                · intro L V X a ev evo hL hdep hJ
                  unfold GAct; dsimp only
                  refine .inl ⟨hJ.1 17 _ rfl (hdep 17 rfl), ?_⟩
                  have o2 := evo 2 rfl
                  change a.tmps[2]?.getD undef = .pointer (some ⟨w.heap.size, 0, none⟩) at o2
                  go_simp
                  exact ⟨_, rfl, hJ.up 18 rfl⟩
                · intro L V X a ev evo hL hdep hJ
                  unfold GAct; dsimp only
                  refine .inl ⟨hJ.1 17 _ rfl (hdep 17 rfl), ?_⟩
                  have e35 := (ev 18 35 rfl (hdep 18 rfl)).trans (hJ.1 18 _ rfl (hdep 18 rfl))
                  obtain ⟨d0, d1, d2⟩ := HKB.out X (HSTR.out.trans hJ.2)
                  go_simp
                  exact ⟨_, rfl, hJ.up 19 rfl⟩
                · intro L V X a ev evo hL hdep hJ
                  unfold GAct; dsimp only
                  refine .inl ⟨hJ.1 17 _ rfl (hdep 17 rfl), ?_⟩
                  have e36 := (ev 19 36 rfl (hdep 19 rfl)).trans (hJ.1 19 _ rfl (hdep 19 rfl))
                  go_simp
                  exact ⟨_, rfl, hJ.up 20 rfl⟩
                · intro L V X a ev evo hL hdep hJ
                  unfold GAct; dsimp only
                  refine .inl ⟨hJ.1 15 _ rfl (hdep 15 rfl), ?_⟩
                  have e34 := (ev 17 34 rfl (hdep 17 rfl)).trans (hJ.1 17 _ rfl (hdep 17 rfl))
                  have e37 := (ev 20 37 rfl (hdep 20 rfl)).trans (hJ.1 20 _ rfl (hdep 20 rfl))
                  go_simp
                  exact ⟨_, rfl, hJ.up 21 rfl⟩
                · intro L V X a ev evo hL hdep hJ
                  unfold GAct; dsimp only
                  refine .inl ⟨hJ.1 15 _ rfl (hdep 15 rfl), ?_⟩
                  have e38 := (ev 21 38 rfl (hdep 21 rfl)).trans (hJ.1 21 _ rfl (hdep 21 rfl))
                  go_simp
                  exact ⟨_, rfl, hJ.up 22 rfl⟩
                · intro L V X a ev evo hL hdep hJ
                  unfold GAct; dsimp only
                  refine .inl ⟨hJ.1 22 _ rfl (hdep 22 rfl), ?_⟩
                  have o2 := evo 2 rfl
                  change a.tmps[2]?.getD undef = .pointer (some ⟨w.heap.size, 0, none⟩) at o2
                  go_simp
                  exact ⟨_, rfl, hJ.up 23 rfl⟩
                · intro L V X a ev evo hL hdep hJ
                  unfold GAct; dsimp only
                  refine .inl ⟨hJ.1 22 _ rfl (hdep 22 rfl), ?_⟩
                  have e40 := (ev 23 40 rfl (hdep 23 rfl)).trans (hJ.1 23 _ rfl (hdep 23 rfl))
                  obtain ⟨d0, d1, d2⟩ := HKB.out X (HSTR.out.trans hJ.2)
                  go_simp
                  exact ⟨_, rfl, hJ.up 24 rfl⟩
                · intro L V X a ev evo hL hdep hJ
                  unfold GAct; dsimp only
                  refine .inl ⟨hJ.1 22 _ rfl (hdep 22 rfl), ?_⟩
                  have o1 := evo 1 rfl
                  change a.tmps[1]?.getD undef = .slice (some ⟨gS, oS, none⟩) l.length vc at o1
                  go_simp
                  exact ⟨_, rfl, hJ.up 25 rfl⟩
                · intro L V X a ev evo hL hdep hJ
                  unfold GAct; dsimp only
                  refine .inl ⟨hJ.1 22 _ rfl (hdep 22 rfl), ?_⟩
                  have o7 := evo 7 rfl
                  change a.tmps[7]?.getD undef = .int .i64 (k : Int) at o7
                  go_simp
                  exact ⟨_, rfl, hJ.up 26 rfl⟩
                · intro L V X a ev evo hL hdep hJ
                  unfold GAct; dsimp only
                  refine .inl ⟨hJ.1 22 _ rfl (hdep 22 rfl), ?_⟩
                  have e42 := (ev 25 42 rfl (hdep 25 rfl)).trans (hJ.1 25 _ rfl (hdep 25 rfl))
                  have e43 := (ev 26 43 rfl (hdep 26 rfl)).trans (hJ.1 26 _ rfl (hdep 26 rfl))
                  go_simp
                  exact ⟨_, rfl, hJ.up 27 rfl⟩
                · intro L V X a ev evo hL hdep hJ
                  unfold GAct; dsimp only
                  refine .inl ⟨hJ.1 22 _ rfl (hdep 22 rfl), ?_⟩
                  have e44 := (ev 27 44 rfl (hdep 27 rfl)).trans (hJ.1 27 _ rfl (hdep 27 rfl))
                  obtain ⟨q0, q1⟩ := HQ01.out X hJ.2
                  go_simp
                  exact ⟨_, rfl, hJ.up 28 rfl⟩
                · intro L V X a ev evo hL hdep hJ
                  unfold GAct; dsimp only
                  refine .inl ⟨hJ.1 22 _ rfl (hdep 22 rfl), ?_⟩
                  have e41 := (ev 24 41 rfl (hdep 24 rfl)).trans (hJ.1 24 _ rfl (hdep 24 rfl))
                  have e45 := (ev 28 45 rfl (hdep 28 rfl)).trans (hJ.1 28 _ rfl (hdep 28 rfl))
                  go_simp
                  refine (HC2.out X hJ.2).mono ?_
                  rintro e wq ⟨rfl, sq⟩
                  exact ⟨_, rfl, (hJ.step sq).up 29 rfl⟩
                · intro L V X a ev evo hL hdep hJ
                  unfold GAct; dsimp only
                  refine .inl ⟨hJ.1 15 _ rfl (hdep 15 rfl), ?_⟩
                  have e39 := (ev 22 39 rfl (hdep 22 rfl)).trans (hJ.1 22 _ rfl (hdep 22 rfl))
                  have e46 := (ev 29 46 rfl (hdep 29 rfl)).trans (hJ.1 29 _ rfl (hdep 29 rfl))
                  go_simp
                  exact ⟨_, rfl, hJ.up 30 rfl⟩
                · intro L V X a ev evo hL hdep hJ
                  unfold GAct; dsimp only
                  have e32 := (ev 15 32 rfl (hdep 15 rfl)).trans (hJ.1 15 _ rfl (hdep 15 rfl))
                  have e47 := (ev 30 47 rfl (hdep 30 rfl)).trans (hJ.1 30 _ rfl (hdep 30 rfl))
                  go_simp
                  exact ⟨_, rfl, hJ.up 31 rfl⟩
              case hdone =>
                intro L V X hall hJ
                have h31 := hJ.1 31 _ rfl (hall 31 (by decide))
                have HSTX := Lib.hid hJ.2
                rw [show List.range 32 = [0, 1, 2, 3, 4, 5, 6, 7, 8, 9, 10, 11, 12, 13, 14, 15, 16, 17, 18, 19, 20, 21, 22, 23, 24, 25, 26, 27, 28, 29, 30, 31] from rfl]
                simp only [putF, dstO, List.getElem?_toArray, List.getElem?_cons_zero, List.getElem?_cons_succ, Option.bind_some, Act.put, List.setIfInBounds_toArray, List.set_cons_zero, List.set_cons_succ, h31]
                clear hJ h31
                go_wp2_with fail
                go_meet
                case rel => exact ⟨by rw [HOQ.out]; rfl, HSTX.out⟩
            | false =>
              refine wp_region_relyG (by kernel_rfl) (Det [.bool true, .bool true, .pointer (some ⟨w.heap.size, 2, none⟩), .int .i64 a.kind, .bool false, .bool false, .bool false, undef, undef, undef, undef, undef, undef, undef, .bool false, .bool false, .bool true, .bool true, .pointer (some ⟨w.heap.size, 2, none⟩), .int .i64 a.kind, .bool false, .bool false, .bool false, undef, undef, undef, undef, undef, undef, undef, .bool false, .bool false] wr) 32 rfl (by kernel_rfl) (by kernel_rfl) (by kernel_rfl) (by kernel_rfl) ?h0 ?hs ?hdone
              case h0 => exact Det.zero ((Step.refl _ _).drew)
              case hs =>
                refine ⟨?_, ?_, ?_, ?_, ?_, ?_, ?_, ?_, ?_, ?_, ?_, ?_, ?_, ?_, ?_, ?_, ?_, ?_, ?_, ?_, ?_, ?_, ?_, ?_, ?_, ?_, ?_, ?_, ?_, ?_, ?_, ?_, trivial⟩
                · intro L V X a ev evo hL hdep hJ
                  unfold GAct; dsimp only
                  have o6 := evo 6 rfl
                  change a.tmps[6]?.getD undef = .bool true at o6
                  go_simp
                  exact ⟨_, rfl, hJ.up 0 rfl⟩
                · intro L V X a ev evo hL hdep hJ
                  unfold GAct; dsimp only
                  have e17 := (ev 0 17 rfl (hdep 0 rfl)).trans (hJ.1 0 _ rfl (hdep 0 rfl))
                  go_simp
                  exact ⟨_, rfl, hJ.up 1 rfl⟩
                · intro L V X a ev evo hL hdep hJ
                  unfold GAct; dsimp only
                  refine .inl ⟨hJ.1 1 _ rfl (hdep 1 rfl), ?_⟩
                  have o2 := evo 2 rfl
                  change a.tmps[2]?.getD undef = .pointer (some ⟨w.heap.size, 0, none⟩) at o2
                  go_simp
                  exact ⟨_, rfl, hJ.up 2 rfl⟩
                · intro L V X a ev evo hL hdep hJ
                  unfold GAct; dsimp only
                  refine .inl ⟨hJ.1 1 _ rfl (hdep 1 rfl), ?_⟩
                  have e19 := (ev 2 19 rfl (hdep 2 rfl)).trans (hJ.1 2 _ rfl (hdep 2 rfl))
                  obtain ⟨d0, d1, d2⟩ := HKB.out X (HSTR.out.trans hJ.2)
                  go_simp
                  exact ⟨_, rfl, hJ.up 3 rfl⟩
                · intro L V X a ev evo hL hdep hJ
                  unfold GAct; dsimp only
                  refine .inl ⟨hJ.1 1 _ rfl (hdep 1 rfl), ?_⟩
                  have e20 := (ev 3 20 rfl (hdep 3 rfl)).trans (hJ.1 3 _ rfl (hdep 3 rfl))
                  go_simp
                  exact ⟨_, rfl, hJ.up 4 rfl⟩
                · intro L V X a ev evo hL hdep hJ
                  unfold GAct; dsimp only
                  have e18 := (ev 1 18 rfl (hdep 1 rfl)).trans (hJ.1 1 _ rfl (hdep 1 rfl))
                  have e21 := (ev 4 21 rfl (hdep 4 rfl)).trans (hJ.1 4 _ rfl (hdep 4 rfl))
                  go_simp
                  exact ⟨_, rfl, hJ.up 5 rfl⟩
                · intro L V X a ev evo hL hdep hJ
                  unfold GAct; dsimp only
                  have e22 := (ev 5 22 rfl (hdep 5 rfl)).trans (hJ.1 5 _ rfl (hdep 5 rfl))
                  go_simp
                  exact ⟨_, rfl, hJ.up 6 rfl⟩
                · intro L V X a ev evo hL hdep hJ
                  unfold GAct; dsimp only
                  exact .inr ⟨(by rw [hJ.1 6 _ rfl (hdep 6 rfl)]; intro h; cases h), hJ.up 7 rfl⟩
                · intro L V X a ev evo hL hdep hJ
                  unfold GAct; dsimp only
                  exact .inr ⟨(by rw [hJ.1 6 _ rfl (hdep 6 rfl)]; intro h; cases h), hJ.up 8 rfl⟩
                · intro L V X a ev evo hL hdep hJ
                  unfold GAct; dsimp only
                  exact .inr ⟨(by rw [hJ.1 6 _ rfl (hdep 6 rfl)]; intro h; cases h), hJ.up 9 rfl⟩
                · intro L V X a ev evo hL hdep hJ
                  unfold GAct; dsimp only
                  exact .inr ⟨(by rw [hJ.1 6 _ rfl (hdep 6 rfl)]; intro h; cases h), hJ.up 10 rfl⟩
                · intro L V X a ev evo hL hdep hJ
                  unfold GAct; dsimp only
                  exact .inr ⟨(by rw [hJ.1 6 _ rfl (hdep 6 rfl)]; intro h; cases h), hJ.up 11 rfl⟩
                · intro L V X a ev evo hL hdep hJ
                  unfold GAct; dsimp only
                  exact .inr ⟨(by rw [hJ.1 6 _ rfl (hdep 6 rfl)]; intro h; cases h), hJ.up 12 rfl⟩
                · intro L V X a ev evo hL hdep hJ
                  unfold GAct; dsimp only
                  exact .inr ⟨(by rw [hJ.1 6 _ rfl (hdep 6 rfl)]; intro h; cases h), hJ.up 13 rfl⟩
                · intro L V X a ev evo hL hdep hJ
                  unfold GAct; dsimp only
                  have e23 := (ev 6 23 rfl (hdep 6 rfl)).trans (hJ.1 6 _ rfl (hdep 6 rfl))
                  go_simp
                  exact ⟨_, rfl, hJ.up 14 rfl⟩
                · intro L V X a ev evo hL hdep hJ
                  unfold GAct; dsimp only
                  have e31 := (ev 14 31 rfl (hdep 14 rfl)).trans (hJ.1 14 _ rfl (hdep 14 rfl))
                  go_simp
                  exact ⟨_, rfl, hJ.up 15 rfl⟩
                · intro L V X a ev evo hL hdep hJ
                  unfold GAct; dsimp only
                  refine .inl ⟨hJ.1 15 _ rfl (hdep 15 rfl), ?_⟩
                  have o6 := evo 6 rfl
                  change a.tmps[6]?.getD undef = .bool true at o6
                  go_simp
                  exact ⟨_, rfl, hJ.up 16 rfl⟩
                · intro L V X a ev evo hL hdep hJ
                  unfold GAct; dsimp only
                  refine .inl ⟨hJ.1 15 _ rfl (hdep 15 rfl), ?_⟩
                  have e33 := (ev 16 33 rfl (hdep 16 rfl)).trans (hJ.1 16 _ rfl (hdep 16 rfl))
                  go_simp
                  exact ⟨_, rfl, hJ.up 17 rfl⟩
                · intro L V X a ev evo hL hdep hJ
                  unfold GAct; dsimp only
                  refine .inl ⟨hJ.1 17 _ rfl (hdep 17 rfl), ?_⟩
                  have o2 := evo 2 rfl
                  change a.tmps[2]?.getD undef = .pointer (some ⟨w.heap.size, 0, none⟩) at o2
                  go_simp
                  exact ⟨_, rfl, hJ.up 18 rfl⟩
                · intro L V X a ev evo hL hdep hJ
                  unfold GAct; dsimp only
                  refine .inl ⟨hJ.1 17 _ rfl (hdep 17 rfl), ?_⟩
                  have e35 := (ev 18 35 rfl (hdep 18 rfl)).trans (hJ.1 18 _ rfl (hdep 18 rfl))
                  obtain ⟨d0, d1, d2⟩ := HKB.out X (HSTR.out.trans hJ.2)
                  go_simp
                  exact ⟨_, rfl, hJ.up 19 rfl⟩
                · intro L V X a ev evo hL hdep hJ
                  unfold GAct; dsimp only
                  refine .inl ⟨hJ.1 17 _ rfl (hdep 17 rfl), ?_⟩
                  have e36 := (ev 19 36 rfl (hdep 19 rfl)).trans (hJ.1 19 _ rfl (hdep 19 rfl))
                  go_simp
                  exact ⟨_, rfl, hJ.up 20 rfl⟩
                · intro L V X a ev evo hL hdep hJ
                  unfold GAct; dsimp only
                  refine .inl ⟨hJ.1 15 _ rfl (hdep 15 rfl), ?_⟩
                  have e34 := (ev 17 34 rfl (hdep 17 rfl)).trans (hJ.1 17 _ rfl (hdep 17 rfl))
                  have e37 := (ev 20 37 rfl (hdep 20 rfl)).trans (hJ.1 20 _ rfl (hdep 20 rfl))
                  go_simp
                  exact ⟨_, rfl, hJ.up 21 rfl⟩
                · intro L V X a ev evo hL hdep hJ
                  unfold GAct; dsimp only
                  refine .inl ⟨hJ.1 15 _ rfl (hdep 15 rfl), ?_⟩
                  have e38 := (ev 21 38 rfl (hdep 21 rfl)).trans (hJ.1 21 _ rfl (hdep 21 rfl))
                  go_simp
                  exact ⟨_, rfl, hJ.up 22 rfl⟩
                · intro L V X a ev evo hL hdep hJ
                  unfold GAct; dsimp only
                  exact .inr ⟨(by rw [hJ.1 22 _ rfl (hdep 22 rfl)]; intro h; cases h), hJ.up 23 rfl⟩
                · intro L V X a ev evo hL hdep hJ
                  unfold GAct; dsimp only
                  exact .inr ⟨(by rw [hJ.1 22 _ rfl (hdep 22 rfl)]; intro h; cases h), hJ.up 24 rfl⟩
                · intro L V X a ev evo hL hdep hJ
                  unfold GAct; dsimp only
                  exact .inr ⟨(by rw [hJ.1 22 _ rfl (hdep 22 rfl)]; intro h; cases h), hJ.up 25 rfl⟩
                · intro L V X a ev evo hL hdep hJ
                  unfold GAct; dsimp only
                  exact .inr ⟨(by rw [hJ.1 22 _ rfl (hdep 22 rfl)]; intro h; cases h), hJ.up 26 rfl⟩
                · intro L V X a ev evo hL hdep hJ
                  unfold GAct; dsimp only
                  exact .inr ⟨(by rw [hJ.1 22 _ rfl (hdep 22 rfl)]; intro h; cases h), hJ.up 27 rfl⟩
                · intro L V X a ev evo hL hdep hJ
                  unfold GAct; dsimp only
                  exact .inr ⟨(by rw [hJ.1 22 _ rfl (hdep 22 rfl)]; intro h; cases h), hJ.up 28 rfl⟩
                · intro L V X a ev evo hL hdep hJ
                  unfold GAct; dsimp only
                  exact .inr ⟨(by rw [hJ.1 22 _ rfl (hdep 22 rfl)]; intro h; cases h), hJ.up 29 rfl⟩
                · intro L V X a ev evo hL hdep hJ
                  unfold GAct; dsimp only
                  refine .inl ⟨hJ.1 15 _ rfl (hdep 15 rfl), ?_⟩
                  have e39 := (ev 22 39 rfl (hdep 22 rfl)).trans (hJ.1 22 _ rfl (hdep 22 rfl))
                  go_simp
                  exact ⟨_, rfl, hJ.up 30 rfl⟩
                · intro L V X a ev evo hL hdep hJ
                  unfold GAct; dsimp only
                  have e32 := (ev 15 32 rfl (hdep 15 rfl)).trans (hJ.1 15 _ rfl (hdep 15 rfl))
                  have e47 := (ev 30 47 rfl (hdep 30 rfl)).trans (hJ.1 30 _ rfl (hdep 30 rfl))
                  go_simp
                  exact ⟨_, rfl, hJ.up 31 rfl⟩
              case hdone =>
                intro L V X hall hJ
                have h31 := hJ.1 31 _ rfl (hall 31 (by decide))
                have HSTX := Lib.hid hJ.2
                rw [show List.range 32 = [0, 1, 2, 3, 4, 5, 6, 7, 8, 9, 10, 11, 12, 13, 14, 15, 16, 17, 18, 19, 20, 21, 22, 23, 24, 25, 26, 27, 28, 29, 30, 31] from rfl]
                simp only [putF, dstO, List.getElem?_toArray, List.getElem?_cons_zero, List.getElem?_cons_succ, Option.bind_some, Act.put, List.setIfInBounds_toArray, List.set_cons_zero, List.set_cons_succ, h31]
                clear hJ h31
                go_wp2_with fail
                go_meet
                case rel => exact ⟨by rw [HOQ.out]; rfl, HSTX.out⟩
      case rest =>
        obtain ⟨rfl, hst5⟩ := hcut
        obtain ⟨w5, rfl⟩ : ∃ w5 : World, w5 = wc := ⟨_, rfl⟩
        have HST5 := Lib.hid hst5
        have HOWN5 := Lib.hid (hst5.owns HOWN.out (fun _ _ h => h))
        have HXO5 := Lib.hid (Each.mono (PlAt.step hst5 (fun _ _ h => h)) _ _ HXO.out)
        have HSTR5 : Hid (Step (fun _ => False) w1 w5) := HSTR.out.trans hst5
        have HAT5 := Lib.hid (PlAt.step hst5 (fun _ _ h => h) _ _ HAT.out)
        clear hst5
        cases oq with
        | true =>
          have HE : Hid (lo = (l.take (k + 1)).filter (fun q => !outR a q)) := by show _ = _; rw [HFT.out, HLO.out]; simp
          clear d0 d1 d2
          go_wp2
          go_roundg (gk - 1)
          case rel => exact ⟨k + 1, lo, xo, by go_num, hlt, by omega, HE.out, HXO5.out, HOWN5.out, HSTR5.out⟩
          case measure => omega
        | false =>
          have HE : Hid (lo ++ [q] = (l.take (k + 1)).filter (fun q => !outR a q)) := by show _ = _; rw [HFT.out, HLO.out]; simp
          obtain ⟨qq0, qq1⟩ := HQ01.out w5 HST5.out
          have HSA : Hid (Step (fun _ => False) w5 (w5.alloc (.cells #[.int .i64 q.loc, .slice aq q.path.length cqq] 47))) := (Step.refl _ _).alloc _
          have HROW5 : Hid (Row (w5.alloc (.cells #[.int .i64 q.loc, .slice aq q.path.length cqq] 47)) (w5.heap.size + 1) (.slice (some ⟨w5.heap.size, 0, none⟩) 1 1) 1 [.int .i64 q.loc, .slice aq q.path.length cqq]) := Row.new (cs := [.int .i64 q.loc, .slice aq q.path.length cqq]) (blk_new _ _) (by decide)
          have HOA := Lib.hid (HOWN5.out.alloc (.cells #[.int .i64 q.loc, .slice aq q.path.length cqq] 47))
          have HLE : Hid (w1.heap.size ≤ (w5.alloc (.cells #[.int .i64 q.loc, .slice aq q.path.length cqq] 47)).heap.size) := Nat.le_trans HSTR5.out.size HSA.out.size
          have HONE := Lib.hid (PlAt.one q _ HAT5.out)
          clear d0 d1 d2
          go_wp2_with (at_builtin; refine wpList_append_row _ rfl (w5.heap.size + 1) (.tmp 49) (.tmp 54) 69 rfl w1.heap.size 47 i0 (.agg #[.int .i64 0, .slice none 0 0]) 2 32 Try.underlying69 HI.out HZ0.out HZ1.out HZ2.out rfl (by decide) _ _ _ rfl HOA.out _ 1 _ rfl HROW5.out rfl HONE.out (by unfold maxLen; omega) (by omega) HLE.out ?_)
          intro v8 w8 hown8 hgrow8 hat8
          have HS8 : Hid (Step (fun q => w1.heap.size ≤ q) w5 w8) := (HSA.out.mono (fun _ _ h => h.elim)).trans ((grown_step hgrow8).mono (fun q _ e => (HOA.out.lt q e).1))
          have HX8 : Hid (Each (PlAt w8 B) (lo ++ [q]) (xo ++ [.int .i64 q.loc, .slice aq q.path.length cqq])) :=
            Each.snoc (Each.mono (PlAt.step HS8.out (fun k h1 h2 => by have := HBS.out; omega)) _ _ HXO5.out) (PlAt.step HS8.out (fun k h1 h2 => by have := HBS.out; omega) _ _ HAT5.out)
          have HO8 : Hid (w8.ownsRow w1.heap.size 47 2 v8 (lo ++ [q]).length (xo ++ [.int .i64 q.loc, .slice aq q.path.length cqq])) := by rw [List.length_append]; exact hown8
          have HST8 : Hid (Step (fun _ => False) w1 w8) := HSTR5.out.then HS8.out (fun q hq e => by omega)
          clear hown8 hgrow8 hat8 qq0 qq1
          go_wp2
          go_roundg (gk - 1)
          case rel => exact ⟨k + 1, lo ++ [q], _, by go_num, hlt, by omega, HE.out, HX8.out, HO8.out, HST8.out⟩
          case measure => omega
    · obtain rfl : k = l.length := by omega
      have HE : Hid (lo = l.filter (fun q => !outR a q)) := by show _ = _; rw [HLO.out, List.take_length]
      go_upto_region 8 with fail
      go_cut [71] (fun s71 wx => s71 = .bool (newR a) ∧ wx = wr)
      case first =>
        cases dr with
        | false =>
          go_wp2_with fail
          go_meet
          case rel => exact ⟨by rw [HNEW.out]; rfl, rfl⟩
        | true =>
          cases x2 with
          | true =>
            go_wp2_with fail
            go_meet
            case rel => exact ⟨by rw [HNEW.out]; rfl, rfl⟩
          | false =>
            cases x5 with
            | true =>
              go_wp2_with fail
              go_meet
              case rel => exact ⟨by rw [HNEW.out]; rfl, rfl⟩
            | false =>
              cases x6 with
              | true =>
                go_wp2_with fail
                go_meet
                case rel => exact ⟨by rw [HNEW.out]; rfl, rfl⟩
              | false =>
                go_wp2_with fail
                go_meet
                case rel => exact ⟨by rw [HNEW.out]; rfl, rfl⟩
      case rest =>
        obtain ⟨rfl, rfl⟩ := hcut
        obtain ⟨w5, rfl⟩ : ∃ w5 : World, w5 = wc := ⟨_, rfl⟩
        have hsz1 : w.heap.size ≤ w1.heap.size := HST.out.size
        cases hnw : newR a with
        | false =>
          have HD2 : Hid (doR a l = lo) := by show _ = _; unfold doR; rw [hnw, ← HE.out]; simp
          clear hnw d0 d1 d2
          go_wp2
          go_ret
          exact ⟨⟨_, xo, rfl, by rw [HD2.out]; exact HXO.out, by rw [HD2.out]; exact owns_base HOWN.out hsz1⟩, HST.out.trans HSTR.out⟩
        | true =>
          have HD2 : Hid (doR a l = lo ++ [a.pl]) := by show _ = _; unfold doR; rw [hnw, ← HE.out]; simp
          have HPA5 := Lib.hid (HPA.out w5 HSTR.out)
          have HSA : Hid (Step (fun _ => False) w5 (w5.alloc (.cells #[.int .i64 a.pl.loc, .slice ap a.pl.path.length cp] 47))) := (Step.refl _ _).alloc _
          have HROW5 : Hid (Row (w5.alloc (.cells #[.int .i64 a.pl.loc, .slice ap a.pl.path.length cp] 47)) (w5.heap.size + 1) (.slice (some ⟨w5.heap.size, 0, none⟩) 1 1) 1 [.int .i64 a.pl.loc, .slice ap a.pl.path.length cp]) := Row.new (cs := [.int .i64 a.pl.loc, .slice ap a.pl.path.length cp]) (blk_new _ _) (by decide)
          have HOA := Lib.hid (HOWN.out.alloc (.cells #[.int .i64 a.pl.loc, .slice ap a.pl.path.length cp] 47))
          have HLE : Hid (w1.heap.size ≤ (w5.alloc (.cells #[.int .i64 a.pl.loc, .slice ap a.pl.path.length cp] 47)).heap.size) := Nat.le_trans HSTR.out.size HSA.out.size
          have HONE := Lib.hid (PlAt.one a.pl _ HPA5.out)
          clear hnw
          go_wp2_with (at_builtin; refine wpList_append_row _ rfl (w5.heap.size + 1) (.tmp 72) (.tmp 75) 69 rfl w1.heap.size 47 i0 (.agg #[.int .i64 0, .slice none 0 0]) 2 32 Try.underlying69 HI.out HZ0.out HZ1.out HZ2.out rfl (by decide) _ _ _ rfl HOA.out _ 1 _ rfl HROW5.out rfl HONE.out (by unfold maxLen; omega) (by omega) HLE.out ?_)
          intro v8 w8 hown8 hgrow8 hat8
          have HS8 : Hid (Step (fun q => w1.heap.size ≤ q) w5 w8) := (HSA.out.mono (fun _ _ h => h.elim)).trans ((grown_step hgrow8).mono (fun q _ e => (HOA.out.lt q e).1))
          have HX8 : Hid (Each (PlAt w8 B) (lo ++ [a.pl]) (xo ++ [.int .i64 a.pl.loc, .slice ap a.pl.path.length cp])) :=
            Each.snoc (Each.mono (PlAt.step HS8.out (fun k h1 h2 => by have := HBS.out; omega)) _ _ HXO.out) (PlAt.step HS8.out (fun k h1 h2 => by have := HBS.out; omega) _ _ HPA5.out)
          have HO8 : Hid (w8.ownsRow w1.heap.size 47 2 v8 (lo ++ [a.pl]).length (xo ++ [.int .i64 a.pl.loc, .slice ap a.pl.path.length cp])) := by rw [List.length_append]; exact hown8
          have HST8 : Hid (Step (fun _ => False) w1 w8) := HSTR.out.then HS8.out (fun q hq e => by omega)
          clear hown8 hgrow8 hat8 d0 d1 d2
          go_wp2
          go_ret
          exact ⟨⟨_, _, rfl, by rw [HD2.out]; exact HX8.out, by rw [HD2.out]; exact owns_base HO8.out hsz1⟩, HST.out.trans HST8.out⟩

end Go.Proofs.Ytilipeigjkmldaa
