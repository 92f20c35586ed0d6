/- finder.add, finder.find: the places that may be missing. -/
import Derived.Test.YtilipeigjkmldaaFinH
import Derived.Test.YtilipeigjkmldaaAccF
namespace Go.Proofs.Ytilipeigjkmldaa
open Go.RowKit

/- A finder whose facts still grow. -/
structure Fnd (w : World) (B base g gb : Nat) (l : List Pl) (v : Value) (xs : List Value) : Prop where
  blk : w.heap[g]? = some (.cells #[.pointer (some ⟨gb, 0, none⟩), v] 103 (0, 0))
  el : Each (PlAt w B) l xs
  own : w.ownsRow base 47 2 v l.length xs
  lt : g < base
  hb : B ≤ g
  le : base ≤ w.heap.size
theorem Fnd.step {w w' : World} {B base g gb : Nat} {l : List Pl} {v : Value} {xs : List Value} (h : Fnd w B base g gb l v xs) (hs : Step (fun _ => False) w w') : Fnd w' B base g gb l v xs :=
  ⟨hs.keep h.blk (fun h => h), Each.mono (PlAt.step hs (fun _ _ h => h)) _ _ h.el, hs.owns h.own (fun _ _ h => h), h.lt, h.hb, Nat.le_trans h.le hs.size⟩
theorem Fnd.fr {w : World} {B base g gb : Nat} {l : List Pl} {v : Value} {xs : List Value} (h : Fnd w B base g gb l v xs) : FR w w.heap.size g gb l v xs :=
  ⟨Nat.lt_of_lt_of_le h.lt h.le, blk_cell h.blk 0 _ rfl, blk_cell h.blk 1 _ rfl, Each.mono (PlAt.mono (by have := h.hb; have := h.lt; have := h.le; omega)) _ _ h.el, Row.of_owns h.own (Nat.le_refl _)⟩
def addF (l : List Pl) (p : Pl) : List Pl := if l.any (sameF p) then l else l ++ [p]
theorem addF_len (l : List Pl) (p : Pl) : (addF l p).length ≤ l.length + 1 := by unfold addF; split <;> simp
theorem PlAt.one {w : World} {B : Nat} (p : Pl) (cs : List Value) (h : PlAt w B p cs) : ∀ u ∈ cs, u.oneCell' = true := by
  obtain ⟨v, rfl, h⟩ := h
  have := h.one
  intro u hu
  simp at hu
  rcases hu with rfl | rfl
  · rfl
  · exact this
theorem Fnd.add {W w6 : World} {B base g gb : Nat} {l : List Pl} {v v6 : Value} {xs cp : List Value} {p : Pl} (h : Fnd W B base g gb l v xs) (hown : w6.ownsRow base 47 2 v6 (l.length + 1) (xs ++ cp)) (hgrow : W.grownBy w6 v.ownBlock) (hp : PlAt W B p cp) :
    Fnd (w6.setCell ⟨g, 1, none⟩ v6) B base g gb (l ++ [p]) v6 (xs ++ cp) := by
  have hab6 := grown_keep hgrow h.blk (fun k hk e => by have := (h.own.lt k hk).1; have := h.lt; omega)
  have hs : Step (fun q => B ≤ q) W (w6.setCell ⟨g, 1, none⟩ v6) := ((Step.refl _ _).grown hgrow (fun q hq _ => by have := (h.own.lt q hq).1; have := h.lt; have := h.hb; omega)).setCell _ _ (fun _ => h.hb)
  refine ⟨blk_set hab6 1 v6, ?_, ?_, h.lt, h.hb, Nat.le_trans h.le hs.size⟩
  · exact Each.snoc (Each.mono (PlAt.step hs (fun k h1 h2 => by omega)) _ _ h.el) (PlAt.step hs (fun k h1 h2 => by omega) _ _ hp)
  · rw [List.length_append]; exact ownsRow_setCell_below hown (a := ⟨g, 1, none⟩) h.lt v6
def AddPost (B base g gb : Nat) (l : List Pl) (v : Value) (w : World) (e : Ending) (w' : World) : Prop :=
  e = .returned (.tuple #[]) ∧ (∃ v' xs', Fnd w' B base g gb l v' xs' ∧ (v'.ownBlock = v.ownBlock ∨ ∀ q, v'.ownBlock = some q → w.heap.size ≤ q)) ∧ Step (fun q => q = g ∨ v.ownBlock = some q) w w'
theorem Try.sizeAcc : (Try.prog.info? 90).map (·.size) = some 3 := by kernel_rfl
theorem Try.infoPlace : (Try.prog.info? 47).map (fun i => (i.zero, i.size, i.bytes)) = some (some (.agg #[.int .i64 0, .slice none 0 0]), 2, 32) := by kernel_rfl

set_option maxRecDepth 100000 in
set_option maxHeartbeats 4000000 in
theorem add_any (B base g gb : Nat) (p : Pl) (cp : List Value) (l : List Pl) (v : Value) (xs : List Value) (w : World) (h : Fnd w B base g gb l v xs) (hp : PlAt w B p cp) (hl : l.length ≤ 1000000) :
    Calls Try.prog 79 #[.pointer (some ⟨g, 0, none⟩), .agg cp.toArray] w (AddPost B base g gb (addF l p) v w) := by
  have H := Lib.hid h
  have HP := Lib.hid hp
  obtain ⟨v1, rfl, ⟨a1, c1, rfl, -⟩⟩ := hp
  obtain ⟨ao, co, rfl⟩ := owns_slice h.own
  obtain ⟨i0, hi0, hz0, hz1, hz2⟩ := info_parts Try.infoPlace
  have HI := Lib.hid hi0
  have HZ0 := Lib.hid hz0
  have HZ1 := Lib.hid hz1
  have HZ2 := Lib.hid hz2
  obtain ⟨w1, hw1⟩ : ∃ w1 : World, w1 = w.alloc (.cells #[.int .i64 p.loc, .slice a1 p.path.length c1] 47) := ⟨_, rfl⟩
  have HST : Hid (Step (fun _ => False) w w1) := by show Step _ _ _; rw [hw1]; exact (Step.refl _ _).alloc _
  have HB1 : Hid (w1.heap[w.heap.size]? = some (.cells #[.int .i64 p.loc, .slice a1 p.path.length c1] 47 (0, 0))) := by show _ = _; rw [hw1]; exact blk_new w _
  have HW1 := Lib.hid hw1
  have h1 := h.step HST.out
  have hfr := h1.fr
  have HFC : Hid (Calls Try.prog 81 #[.pointer (some ⟨g, 0, none⟩), .agg #[.int .i64 p.loc, .slice a1 p.path.length c1]] w1 fun e w' => e = .returned (.int .i64 (idxI (sameF p) l)) ∧ Step (fun _ => False) w1 w') :=
    fact_any p [.int .i64 p.loc, .slice a1 p.path.length c1] l xs _ g w1.heap.size w1 (PlAt.mono (by have := h1.hb; have := h1.lt; have := h1.le; omega) _ _ (PlAt.step HST.out (fun _ _ h => h) _ _ HP.out)) hfr.c1 hfr.el hfr.row
  have HGE := Lib.hid (idxI_ge (sameF p) l)
  obtain ⟨ix, hix⟩ : ∃ ix, ix = idxI (sameF p) l := ⟨_, rfl⟩
  rw [← hix] at HFC HGE
  have d0 := blk_cell HB1.out 0 _ rfl
  have d1 := blk_cell HB1.out 1 _ rfl
  obtain ⟨l', hl'⟩ : ∃ l', l' = addF l p := ⟨_, rfl⟩
  have HL' : Hid (l' = if l.any (sameF p) then l else l ++ [p]) := hl'
  rw [← hl']
  clear h hi0 hz0 hz1 hz2 hw1 h1 hfr hix hl'
  go_enter Try.func79, Try.ntmps79
  go_upto_region 1 with fail
  rw [← HW1.out]
  go_wp2_with fail
  refine HFC.out.mono ?_
  rintro e w3 ⟨rfl, s3⟩
  have HST3 : Hid (Step (fun _ => False) w w3) := HST.out.trans s3
  have HF3 := Lib.hid (H.out.step HST3.out)
  have HB3 := Lib.hid (s3.keep HB1.out (fun h => h))
  clear d0 d1 s3
  cases hany : l.any (sameF p) with
  | true =>
    have e1 : decide (ix < 0) = false := by
      have := HGE.out
      rw [hany] at this
      exact decide_eq_false (by have := of_decide_eq_true this; omega)
    have e2 : ¬ ix < 0 := of_decide_eq_false e1
    have HLL : Hid (l' = l) := by show _ = _; rw [HL'.out, hany]; rfl
    clear hany
    go_wp2
    refine bodyPost_ret (results_none rfl _ _ _) rfl ?_
    exact ⟨rfl, ⟨_, xs, by rw [HLL.out]; exact HF3.out, .inl rfl⟩, HST3.out.mono (fun _ _ h => h.elim)⟩
  | false =>
    have e2 : ix < 0 := by
      have := HGE.out
      rw [hany] at this
      have := of_decide_eq_false this; omega
    have e1 : decide (ix < 0) = true := decide_eq_true e2
    have HLL : Hid (l' = l ++ [p]) := by show _ = _; rw [HL'.out, hany]; rfl
    clear hany
    have d0 := blk_cell HB3.out 0 _ rfl
    have d1 := blk_cell HB3.out 1 _ rfl
    have f1 := blk_cell HF3.out.blk 1 _ rfl
    have f1A := cell_alloc (o := .cells #[.int .i64 p.loc, .slice a1 p.path.length c1] 47) f1
    have STA : Hid (Step (fun _ => False) w3 (w3.alloc (.cells #[.int .i64 p.loc, .slice a1 p.path.length c1] 47)).drew) := ((Step.refl _ _).alloc _).drew
    have HFA := Lib.hid (HF3.out.step STA.out)
    have HRW : Hid (Row (w3.alloc (.cells #[.int .i64 p.loc, .slice a1 p.path.length c1] 47)).drew (w3.heap.size + 1) (.slice (some ⟨w3.heap.size, 0, none⟩) 1 1) 1 [.int .i64 p.loc, .slice a1 p.path.length c1]) := Row.new (cs := [.int .i64 p.loc, .slice a1 p.path.length c1]) (blk_drew (blk_new _ _)) (by decide)
    have HP3 := Lib.hid (PlAt.step HST3.out (fun _ _ h => h) _ _ HP.out)
    go_wp2_with fail
    first
    | (go_region_law (first
        | (refine step_append_row _ rfl (w3.heap.size + 1) (.tmp 12) (.tmp 14) 69 rfl base 47 i0 (.agg #[.int .i64 0, .slice none 0 0]) 2 32 Try.underlying69 HI.out HZ0.out HZ1.out HZ2.out rfl (by decide) _ _ _ (by simp [Act.eval]) HFA.out.own _ 1 _ (by simp [Act.eval]) HRW.out rfl (PlAt.one p _ HP3.out) (by unfold maxLen; omega) (by omega) HFA.out.le ?_
           intro v6 w6 hown hgrow hat
           obtain ⟨oa6, oc6, rfl⟩ := owns_slice hown
           have hab6 : w6.heap[g]? = some (.cells #[.pointer (some ⟨gb, 0, none⟩), .slice ao l.length co] 103 (0, 0)) := grown_keep hgrow HFA.out.blk (fun k hk e => by have := (HFA.out.own.lt k hk).1; have := H.out.lt; omega)
           have c16 := blk_cell hab6 1 _ rfl
           have d16 := blk_free hab6 1
           have HAB6 := Lib.hid hab6
           have HOWN6 := Lib.hid hown
           have HGROW6 := Lib.hid hgrow
           have HAT6 : Hid (Value.ownBlock (.slice oa6 (l.length + 1) oc6) = (Value.slice ao l.length co).ownBlock ∨ Value.ownBlock (.slice oa6 (l.length + 1) oc6) = some ((w3.alloc (.cells #[.int .i64 p.loc, .slice a1 p.path.length c1] 47)).drew).heap.size) := hat
           clear hab6 hown hgrow hat)))
    | fail
    all_goals (
      refine bodyPost_ret (results_none rfl _ _ _) rfl ?_
      refine ⟨rfl, ⟨_, xs ++ [.int .i64 p.loc, .slice a1 p.path.length c1], by rw [HLL.out]; exact HFA.out.add HOWN6.out HGROW6.out (PlAt.step STA.out (fun _ _ h => h) _ _ HP3.out), ?_⟩, ?_⟩
      · rcases HAT6.out with h | h
        · exact .inl h
        · refine .inr (fun q hq => ?_)
          rw [h] at hq
          cases hq
          exact (HST3.out.trans STA.out).size
      · have e1 : Step (fun q => q = g ∨ (Value.slice ao l.length co).ownBlock = some q) w w6 := ((HST3.out.trans STA.out).mono (fun _ _ h => h.elim)).trans ((grown_step HGROW6.out).mono (fun _ _ h => .inr h))
        exact e1.setCell _ _ (fun _ => .inl rfl))

/- All places that are noted, in order. -/
def takesI (l : List Acc) : List Pl := (l.filter (fun a => decide (a.kind = 2) && dirF a.pl)).map (·.pl)
def locsP (n : Nat) : List Pl := (List.range n).map (fun (k : Nat) => ⟨(k : Int), []⟩)
def wantB (b : Bod) : List Pl := locsP b.locals ++ (List.range b.code.length).flatMap (fun i => takesI (accB b i))
def factsOf (l : List Pl) : List Pl := l.foldl addF []
def factsB (b : Bod) : List Pl := factsOf (wantB b)
theorem factsOf_snoc (l : List Pl) (p : Pl) : factsOf (l ++ [p]) = addF (factsOf l) p := by simp [factsOf]
theorem factsOf_len_aux (l : List Pl) : ∀ acc : List Pl, (l.foldl addF acc).length ≤ acc.length + l.length := by
  induction l with
  | nil => intro acc; simp
  | cons p r ih =>
    intro acc
    have h1 := ih (addF acc p)
    have h2 := addF_len acc p
    rw [List.foldl_cons, List.length_cons]; omega
theorem factsOf_len (l : List Pl) : (factsOf l).length ≤ l.length := by
  have := factsOf_len_aux l []
  unfold factsOf
  simpa using this
theorem takesI_take (l : List Acc) (i : Nat) (a : Acc) (h : l[i]? = some a) : takesI (l.take (i + 1)) = takesI (l.take i) ++ (if (decide (a.kind = 2) && dirF a.pl) = true then [a.pl] else []) := by
  unfold takesI
  obtain ⟨hi, rfl⟩ := List.getElem?_eq_some_iff.1 h
  rw [List.take_succ_eq_append_getElem hi, List.filter_append, List.map_append]
  congr 1
  cases h2 : (decide (l[i].kind = 2) && dirF l[i].pl) <;> simp [h2]
theorem takesI_len (l : List Acc) : (takesI l).length ≤ l.length := by unfold takesI; rw [List.length_map]; exact List.length_filter_le ..
/- What has been noted ahead of the j-th access of the i-th instruction. -/
def wantTo (b : Bod) (i j : Nat) : List Pl := locsP b.locals ++ ((List.range i).flatMap (fun i => takesI (accB b i)) ++ takesI ((accB b i).take j))
theorem wantTo_next (b : Bod) (i : Nat) : wantTo b (i + 1) 0 = wantTo b i (accB b i).length := by
  unfold wantTo
  rw [List.range_succ, List.flatMap_append, List.take_length, List.take_zero]
  simp [takesI]
theorem wantTo_succ (b : Bod) (i j : Nat) (a : Acc) (h : (accB b i)[j]? = some a) : wantTo b i (j + 1) = wantTo b i j ++ (if (decide (a.kind = 2) && dirF a.pl) = true then [a.pl] else []) := by
  unfold wantTo
  rw [takesI_take _ _ _ h]
  simp only [List.append_assoc]
theorem wantTo_end (b : Bod) : wantTo b b.code.length 0 = wantB b := by
  unfold wantTo wantB
  rw [List.take_zero]; simp [takesI]
theorem wantTo_zero (b : Bod) : wantTo b 0 0 = locsP b.locals := by simp [wantTo, takesI]
theorem locsP_succ (k : Nat) : locsP (k + 1) = locsP k ++ [⟨(k : Int), []⟩] := by simp [locsP, List.range_succ]
theorem flat_len (f : Nat → List Pl) (m : Nat) (hf : ∀ i, (f i).length ≤ m) : ∀ n, ((List.range n).flatMap f).length ≤ n * m
  | 0 => by simp
  | n + 1 => by
    rw [List.range_succ, List.flatMap_append, List.length_append, Nat.add_mul, Nat.one_mul]
    have h1 := flat_len f m hf n
    have h2 := hf n
    simp only [List.flatMap_cons, List.flatMap_nil, List.append_nil]
    omega

theorem flat_mono (f : Nat → List Pl) {i : Nat} : ∀ {n : Nat}, i ≤ n → ((List.range i).flatMap f).length ≤ ((List.range n).flatMap f).length
  | 0, h => by rw [Nat.le_zero.1 h]; exact Nat.le_refl _
  | n + 1, h => by
    rcases Nat.lt_or_ge i (n + 1) with h1 | h1
    · rw [List.range_succ, List.flatMap_append, List.length_append]
      have := flat_mono f (i := i) (n := n) (by omega)
      omega
    · rw [show i = n + 1 by omega]; exact Nat.le_refl _
theorem takesI_le (l : List Acc) (j : Nat) : (takesI (l.take j)).length ≤ (takesI l).length := by
  have e : takesI l = takesI (l.take j) ++ takesI (l.drop j) := by
    unfold takesI
    rw [← List.map_append, ← List.filter_append, List.take_append_drop]
  rw [e, List.length_append]; omega
theorem wantTo_le (b : Bod) {i : Nat} (j : Nat) (hi : i < b.code.length) : (wantTo b i j).length ≤ (wantB b).length := by
  have h1 := takesI_le (accB b i) j
  have h2 := flat_mono (fun i => takesI (accB b i)) (i := i + 1) (n := b.code.length) hi
  rw [List.range_succ, List.flatMap_append, List.length_append] at h2
  simp only [List.flatMap_cons, List.flatMap_nil, List.append_nil] at h2
  unfold wantTo wantB
  rw [List.length_append, List.length_append, List.length_append]
  omega
theorem locsP_le (b : Bod) {k : Nat} (hk : k ≤ b.locals) : (locsP k).length ≤ (wantB b).length := by
  unfold wantB locsP
  rw [List.length_append, List.length_map, List.length_map, List.length_range, List.length_range]; omega

def FindPost (B base g gb : Nat) (b : Bod) (w : World) (e : Ending) (w' : World) : Prop :=
  e = .returned (.tuple #[]) ∧ (∃ v xs, Fnd w' B base g gb (factsB b) v xs) ∧ Step (· = g) w w'

set_option maxRecDepth 100000 in
set_option maxHeartbeats 4000000 in
theorem find_any (B base g gb : Nat) (b : Bod) (w : World) (h : Fnd w B base g gb [] (.slice none 0 0) []) (hb : BodP w B gb b) (hs : BodSmall b) (hn : (wantB b).length ≤ 1000000) (hbase : base = w.heap.size) :
    Calls Try.prog 63 #[.pointer (some ⟨g, 0, none⟩)] w (FindPost B base g gb b w) := by
  have H := Lib.hid h
  have HB := Lib.hid hb
  have HSM := Lib.hid hs
  have HN := Lib.hid hn
  have HBASE := Lib.hid hbase
  have HGB : Hid (B ≤ g ∧ g < base ∧ gb < B) := ⟨h.hb, h.lt, hb.1⟩
  have HCODE : Hid (b.code.length ≤ 9223372036854775807 ∧ b.locals ≤ 100000) := by
    obtain ⟨-, -, a, c, -, h1, h2, -⟩ := hb.parts
    exact ⟨by omega, hs.1⟩
  have HLL : Hid (∀ i j, i < b.code.length → (factsOf (wantTo b i j)).length ≤ 1000000) := fun i j hi => Nat.le_trans (factsOf_len _) (Nat.le_trans (wantTo_le b j hi) HN.out)
  have HLK : Hid (∀ k, k ≤ b.locals → (factsOf (locsP k)).length ≤ 1000000) := fun k hk => Nat.le_trans (factsOf_len _) (Nat.le_trans (locsP_le b hk) HN.out)
  have HPARTS : Hid (∀ X, Step (· = g) w X → BodP X B gb b) := by
    show ∀ X, _
    intro X hX
    exact HB.out.step hX (fun q hq e => by have := HGB.out.1; omega)
  have c0 := blk_cell h.blk 0 _ rfl
  obtain ⟨-, ⟨la, lc, hla⟩, -⟩ := hb.parts
  have hcl := HCODE.out.1
  have hll := HCODE.out.2
  clear h hb hs hn hbase
  go_enter Try.func63, Try.ntmps63
  go_wp2_with fail
  clear c0 hla
  go_loopg [2, 14] b.locals (fun gg _ s14 wr => ∃ (k : Nat) (v : Value) (xs : List Value), s14 = .int .i64 k ∧ k ≤ b.locals ∧ b.locals - k ≤ gg ∧ Fnd wr B base g gb (factsOf (locsP k)) v xs ∧ Step (· = g) w wr)
  case atStart => exact ⟨0, _, [], rfl, Nat.zero_le _, by omega, H.out, Step.refl _ _⟩
  case round =>
    obtain ⟨k, v, xs, rfl, hk, hgg, hf, hst⟩ := hrel
    have HF := Lib.hid hf
    have HST := Lib.hid hst
    clear hf hst
    by_cases hlt : k < b.locals
    · have HADD : Hid (Calls Try.prog 79 #[.pointer (some ⟨g, 0, none⟩), .agg #[.int .i64 k, .slice none 0 0]] wr (AddPost B base g gb (factsOf (locsP (k + 1))) v wr)) := by
        have h1 := add_any B base g gb ⟨(k : Int), []⟩ [.int .i64 k, .slice none 0 0] _ v xs wr HF.out ⟨_, rfl, Row.nil _ _ _⟩ (HLK.out k hk)
        rw [← factsOf_snoc, ← locsP_succ] at h1
        exact h1
      go_wp2_with fail
      refine HADD.out.mono ?_
      rintro e w2 ⟨rfl, ⟨v', xs', hf', -⟩, s2⟩
      have HF' := Lib.hid hf'
      have HST' : Hid (Step (· = g) w w2) := HST.out.then s2 (fun q hq e => e.elim id (fun e => by have := (HF.out.own.lt q e).1; have := HBASE.out; omega))
      clear hf' s2
      go_wp2
      go_roundg (gk - 1)
      case rel => exact ⟨k + 1, v', xs', by go_num, hlt, by omega, HF'.out, HST'.out⟩
      case measure => omega
    · obtain rfl : k = b.locals := by omega
      have c0 := blk_cell HF.out.blk 0 _ rfl
      obtain ⟨-, -, ca, cc, hca, -⟩ := (HPARTS.out _ HST.out).parts
      clear hgg
      go_wp2_with fail
      clear c0 hca
      have HF0 : Hid (Fnd wr B base g gb (factsOf (wantTo b 0 0)) v xs) := by rw [wantTo_zero]; exact HF.out
      obtain ⟨w0, rfl⟩ : ∃ w0 : World, w0 = wr := ⟨_, rfl⟩
      obtain ⟨gk0, rfl⟩ : ∃ gk0, gk0 = gk := ⟨_, rfl⟩
      go_loopg [3, 5, 30, 38, 39, 40] b.code.length (fun gg _ _ s30 _ _ _ wr => ∃ (i : Nat) (v : Value) (xs : List Value), s30 = .int .i64 i ∧ i ≤ b.code.length ∧ b.code.length - i ≤ gg ∧ Fnd wr B base g gb (factsOf (wantTo b i 0)) v xs ∧ Step (· = g) w wr)
      case atStart => exact ⟨0, v, xs, rfl, Nat.zero_le _, by omega, HF0.out, HST.out⟩
      case round =>
        obtain ⟨i, v, xs, rfl, hi, hgg, hf, hst⟩ := hrel
        have HF2 := Lib.hid hf
        have HST2 := Lib.hid hst
        clear hf hst
        obtain ⟨go1, rfl⟩ : ∃ go1, go1 = gk := ⟨_, rfl⟩
        obtain ⟨wo, rfl⟩ : ∃ wo : World, wo = wr := ⟨_, rfl⟩
        by_cases hlt2 : i < b.code.length
        · have HACC := Lib.hid (acc_fresh B gb b i wo (HPARTS.out _ HST2.out) hlt2 HSM.out (by have := HF2.out.le; have := HGB.out; omega))
          have c0 := blk_cell HF2.out.blk 0 _ rfl
          go_wp2_with fail
          refine HACC.out.mono ?_
          rintro e w3 ⟨⟨⟨va, ys, rfl, hys, hr⟩, s3⟩, hfr⟩
          have HYS := Lib.hid hys
          have HR := Lib.hid hr
          have HFR := Lib.hid (hfr _ rfl)
          have HF3 := Lib.hid (HF2.out.step s3)
          have HST3 : Hid (Step (· = g) w w3) := HST2.out.trans (s3.mono (fun _ _ h => h.elim))
          obtain ⟨l, hl⟩ : ∃ l, l = accB b i := ⟨_, rfl⟩
          have HL := Lib.hid hl
          obtain ⟨aa, ac, rfl, hac1, hac2, -⟩ := hr
          rw [← hl] at hac1 HFR HYS HR
          rw [← hl]
          have HNE3 : Hid (∀ q, (Value.slice aa l.length ac).ownBlock = some q → v.ownBlock ≠ some q ∧ q ≠ g) := by
            show ∀ q, _
            intro q hq
            have h1 := HFR.out q hq
            refine ⟨fun e => ?_, fun e => ?_⟩
            · have := (HF2.out.own.lt q e).2; omega
            · have := HGB.out; have := HF2.out.le; omega
          clear hys s3 hfr hl c0
          go_wp2_with fail
          go_loopg [5, 40] l.length (fun gg _ s40 wr => ∃ (j : Nat) (v : Value) (xs : List Value), s40 = .int .i64 j ∧ j ≤ l.length ∧ l.length - j ≤ gg ∧ Fnd wr B base g gb (factsOf (wantTo b i j)) v xs ∧ Each (AcAt wr B) l ys ∧ Row wr w3.heap.size (.slice aa l.length ac) l.length ys ∧ w3.heap.size ≤ wr.heap.size ∧
            (∀ q, (Value.slice aa l.length ac).ownBlock = some q → v.ownBlock ≠ some q ∧ q ≠ g) ∧ Step (· = g) w wr)
          case atStart => exact ⟨0, v, xs, rfl, Nat.zero_le _, by omega, HF3.out, HYS.out, HR.out, Nat.le_refl _, HNE3.out, HST3.out⟩
          case round =>
            obtain ⟨w5, rfl⟩ : ∃ w5 : World, w5 = wr := ⟨_, rfl⟩
            obtain ⟨j, v5, xs5, rfl, hj, hgg5, hf5, hys5, hr5, hsz5, hne5, hst5⟩ := hrel
            have HF5 := Lib.hid hf5
            have HYS5 := Lib.hid hys5
            have HR5 := Lib.hid hr5
            have HNE5 := Lib.hid hne5
            have HST5 := Lib.hid hst5
            by_cases hlt3 : j < l.length
            · obtain ⟨a, ha⟩ : ∃ a, l[j]? = some a := ⟨l[j], List.getElem?_eq_getElem hlt3⟩
              obtain ⟨ax, cx, hax, -, -, -, hrr⟩ := hr5
              obtain ⟨rfl, -, rfl⟩ : aa = ax ∧ True ∧ ac = cx := by cases hax; exact ⟨rfl, trivial, rfl⟩
              obtain ⟨ga, oa, rfl, hga, -, hcell⟩ := hrr (by omega)
              obtain ⟨cs, hat, f⟩ := Each.cells 3 AcAt.len hys5 ha hcell
              have HAT := Lib.hid hat
              have HWS : Hid (wantTo b i (j + 1) = wantTo b i j ++ (if (decide (a.kind = 2) && dirF a.pl) = true then [a.pl] else [])) := wantTo_succ b i j a (by rw [← HL.out]; exact ha)
              obtain ⟨vp, rfl, hvp⟩ := hat
              have HVP := Lib.hid hvp
              obtain ⟨ap, cp, rfl, -⟩ := hvp
              have F := Lib.hid f
              have HGA : Hid (ga < w3.heap.size ∧ w3.heap.size ≤ w5.heap.size) := ⟨hga, hsz5⟩
              obtain ⟨w6, hw6⟩ : ∃ w6 : World, w6 = w5.alloc (.cells #[.int .i64 a.pl.loc, .slice ap a.pl.path.length cp, .int .i64 a.kind] 90) := ⟨_, rfl⟩
              have HS6 : Hid (Step (fun _ => False) w5 w6) := by show Step _ _ _; rw [hw6]; exact (Step.refl _ _).alloc _
              have HNB : Hid (w6.heap[w5.heap.size]? = some (.cells #[.int .i64 a.pl.loc, .slice ap a.pl.path.length cp, .int .i64 a.kind] 90 (0, 0))) := by show _ = _; rw [hw6]; exact blk_new w5 _
              have HW6 := Lib.hid hw6
              have HD : Hid (Calls Try.prog 80 #[.agg #[.int .i64 a.pl.loc, .slice ap a.pl.path.length cp]] w6 (IsBool (dirF a.pl) w6)) := direct_any a.pl [.int .i64 a.pl.loc, .slice ap a.pl.path.length cp] B w6 ⟨_, rfl, HVP.out.step HS6.out (fun _ _ h => h)⟩
              have HREL : Hid (∀ (X : World) (v' : Value) (xs' : List Value), Fnd X B base g gb (factsOf (wantTo b i (j + 1))) v' xs' → Step (fun q => q = g ∨ v5.ownBlock = some q) w5 X → (v'.ownBlock = v5.ownBlock ∨ ∀ q, v'.ownBlock = some q → w5.heap.size ≤ q) →
                  Fnd X B base g gb (factsOf (wantTo b i (j + 1))) v' xs' ∧ Each (AcAt X B) l ys ∧ Row X w3.heap.size (.slice (some ⟨ga, oa, none⟩) l.length ac) l.length ys ∧ w3.heap.size ≤ X.heap.size ∧ (∀ q, (Value.slice (some ⟨ga, oa, none⟩) l.length ac).ownBlock = some q → v'.ownBlock ≠ some q ∧ q ≠ g) ∧ Step (· = g) w X) := by
                show ∀ X v' xs', _
                intro X v' xs' hfx hsx hox
                have hgl := HGB.out
                refine ⟨hfx, Each.mono (AcAt.step hsx (fun q hq e => e.elim (fun e => by omega) (fun e => by have := (HF5.out.own.lt q e).1; omega))) _ _ HYS5.out, HR5.out.keep hsx (fun q hq e => ?_), Nat.le_trans HGA.out.2 hsx.size, fun q hq => ⟨fun e => ?_, (HNE5.out q hq).2⟩, HST5.out.then hsx (fun q hq e => e.elim id (fun e => by have := (HF5.out.own.lt q e).1; have := HBASE.out; omega))⟩
                · obtain ⟨h1, h2⟩ := HNE5.out q hq
                  exact e.elim h2 h1
                · rcases hox with h1 | h1
                  · exact (HNE5.out q hq).1 (by rw [← h1]; exact e)
                  · have := h1 q e
                    have hq' : ga = q := Option.some.inj hq
                    have := HGA.out
                    omega
              have hk0 : (0 : Int) ≤ (j : Int) := by omega
              have hk1 : (j : Int) < (l.length : Int) := by omega
              clear hrr hcell f ha hw6 hf5 hys5 hne5 hst5 hax hga hsz5
              obtain ⟨x2, e2⟩ : ∃ x, (a.kind == 2) = x := ⟨_, rfl⟩
              obtain ⟨dr, hdr⟩ : ∃ dr, dr = dirF a.pl := ⟨_, rfl⟩
              have HX : Hid ((decide (a.kind = 2) && dirF a.pl) = (x2 && dr)) := by
                show _ = _
                rw [← e2, hdr]; congr 1
              rw [← hdr] at HD
              rw [HX.out] at HWS
              clear hdr
              have d0 := blk_cell HNB.out 0 _ rfl
              have d1 := blk_cell HNB.out 1 _ rfl
              have d2 := blk_cell HNB.out 2 _ rfl
              rw [HW6.out] at d0 d1 d2
              cases x2 with
              | false =>
                have HWE : Hid (wantTo b i (j + 1) = wantTo b i j) := by show _ = _; rw [HWS.out]; simp
                go_wp2_with (refine wpList_load_whole rfl 90 (.tmp 42) rfl ga (oa + j * 3) rfl _ _ F.out Try.underlying90 rfl Try.sizeAcc ?_)
                rw [← HW6.out]
                go_roundg (gk - 1)
                case rel =>
                  obtain ⟨h1, h2, h3, h4, h5, h6⟩ := HREL.out w6 v5 xs5 (by rw [HWE.out]; exact HF5.out.step HS6.out) (HS6.out.mono (fun _ _ h => h.elim)) (.inl rfl)
                  exact ⟨j + 1, v5, xs5, by go_num, hlt3, by omega, h1, h2, h3, h4, h5, h6⟩
                case measure => omega
              | true =>
                go_wp2_with (refine wpList_load_whole rfl 90 (.tmp 42) rfl ga (oa + j * 3) rfl _ _ F.out Try.underlying90 rfl Try.sizeAcc ?_)
                rw [← HW6.out]
                refine HD.out.mono ?_
                rintro e w7 ⟨rfl, s7⟩
                have HS7 : Hid (Step (fun _ => False) w5 w7) := HS6.out.trans s7
                clear d0 d1 d2
                cases dr with
                | false =>
                  have HWE : Hid (wantTo b i (j + 1) = wantTo b i j) := by show _ = _; rw [HWS.out]; simp
                  go_wp2
                  go_roundg (gk - 1)
                  case rel =>
                    obtain ⟨h1, h2, h3, h4, h5, h6⟩ := HREL.out w7 v5 xs5 (by rw [HWE.out]; exact HF5.out.step HS7.out) (HS7.out.mono (fun _ _ h => h.elim)) (.inl rfl)
                    exact ⟨j + 1, v5, xs5, by go_num, hlt3, by omega, h1, h2, h3, h4, h5, h6⟩
                  case measure => omega
                | true =>
                  have HWE : Hid (wantTo b i (j + 1) = wantTo b i j ++ [a.pl]) := HWS.out
                  have hb7 := s7.keep HNB.out (fun h => h)
                  have d0 := blk_cell hb7 0 _ rfl
                  have d1 := blk_cell hb7 1 _ rfl
                  have HADD : Hid (Calls Try.prog 79 #[.pointer (some ⟨g, 0, none⟩), .agg #[.int .i64 a.pl.loc, .slice ap a.pl.path.length cp]] w7 (AddPost B base g gb (factsOf (wantTo b i (j + 1))) v5 w7)) := by
                    have h1 := add_any B base g gb a.pl [.int .i64 a.pl.loc, .slice ap a.pl.path.length cp] _ v5 xs5 w7 (HF5.out.step HS7.out) ⟨_, rfl, HVP.out.step HS7.out (fun _ _ h => h)⟩ (HLL.out i j hlt2)
                    rw [← factsOf_snoc, ← HWE.out] at h1
                    exact h1
                  clear hb7
                  go_wp2_with fail
                  refine HADD.out.mono ?_
                  rintro e w8 ⟨rfl, ⟨v8, xs8, hf8, ho8⟩, s8⟩
                  have HF8 := Lib.hid hf8
                  have HO8 := Lib.hid ho8
                  have HS8 := Lib.hid s8
                  clear hf8 ho8 s8 d0 d1
                  go_wp2
                  go_roundg (gk - 1)
                  case rel =>
                    obtain ⟨h1, h2, h3, h4, h5, h6⟩ := HREL.out w8 v8 xs8 HF8.out ((HS7.out.mono (fun _ _ h => h.elim)).trans HS8.out) (HO8.out.elim .inl (fun h => .inr (fun q hq => Nat.le_trans HS7.out.size (h q hq))))
                    exact ⟨j + 1, v8, xs8, by go_num, hlt3, by omega, h1, h2, h3, h4, h5, h6⟩
                  case measure => omega
            · obtain rfl : j = l.length := by omega
              have HE : Hid (Fnd w5 B base g gb (factsOf (wantTo b (i + 1) 0)) v5 xs5) := by rw [wantTo_next, ← HL.out]; exact hf5
              clear hf5 hys5 hr5 hsz5 hne5 hst5
              go_wp2
              go_roundg (go1 - 1)
              case rel => exact ⟨i + 1, v5, xs5, by go_num, hlt2, by rw [← Nat.sub_sub]; exact Nat.sub_le_sub_right hgg 1, HE.out, HST5.out⟩
              case measure => omega
        · obtain rfl : i = b.code.length := by omega
          have HE : Hid (Fnd wo B base g gb (factsB b) v xs) := by have := HF2.out; rw [wantTo_end] at this; exact this
          go_wp2
          refine bodyPost_ret (results_none rfl _ _ _) rfl ?_
          exact ⟨rfl, ⟨v, xs, HE.out⟩, HST2.out⟩

end Go.Proofs.Ytilipeigjkmldaa
