/- A region that draws its order, by rely, with guards: an operation may read a slot that a later one writes. / Contracts of the document's Check: what may be a place, an operand. / Contracts of the document's Check: a right side that a shape makes may be. -/
import Derived.Test.YtilipeigjkmldaaRefGH
import Derived.Test.YtilipeigjkmldaaMovABC
namespace Go.Proofs.Ytilipeigjkmldaa
open Go.RowKit

def oneD (ops : Array Oper) (is : List Nat) (k j0 : Nat) : Bool := is.all fun i => i == j0 || dstO ops i != some k
theorem frF_yet {ops : Array Oper} {L : Nat → Bool} {V : Nat → Value} {k : Nat} : ∀ (is : List Nat) (a : Act), (∀ j ∈ is, dstO ops j = some k → L j = false) → (frF ops L V is a).eval (.tmp k) = a.eval (.tmp k)
  | [], _, _ => rfl
  | i :: r, a, h => by
    simp only [frF]
    rw [frF_yet r _ (fun j hj => h j (List.mem_cons_of_mem _ hj))]
    split
    · rename_i hL
      exact Act.eval_put (fun d hd e => by cases e; rw [h i (List.mem_cons_self ..) hd] at hL; cases hL)
    · rfl

section
variable {P : Program} {md : Region.Mode} {ops : Array Oper} {Q : Exit → Act → World → Prop} {a0 : Act} {n : Nat} {J : (Nat → Bool) → (Nat → Value) → World → Prop}
def HSteps (P : Program) (md : Region.Mode) (ops : Array Oper) (Q : Exit → Act → World → Prop) (a0 : Act) (n : Nat) (J : (Nat → Bool) → (Nat → Value) → World → Prop) : Nat → List Oper → Prop
  | _, [] => True
  | i, o :: r => (∀ (L : Nat → Bool) (V : Nat → Value) (w : World) (a : Act), (∀ j k, dstO ops j = some k → L j = true → a.tmps[k]?.getD undef = V j) → (∀ k, oldD ops (List.range n) k = true → a.tmps[k]?.getD undef = a0.tmps[k]?.getD undef) → (∀ k j0, oneD ops (List.range n) k j0 = true → L j0 = false → a.tmps[k]?.getD undef = a0.tmps[k]?.getD undef) →
      L i = false → (∀ j, (depsD md o).contains j = true → L j = true) → J L V w → GAct P Q J L V w a i o) ∧ HSteps P md ops Q a0 n J (i + 1) r
theorem HSteps.get : ∀ (l : List Oper) (i k : Nat) (o : Oper), HSteps P md ops Q a0 n J k l → l[i]? = some o →
    ∀ (L : Nat → Bool) (V : Nat → Value) (w : World) (a : Act), (∀ j k, dstO ops j = some k → L j = true → a.tmps[k]?.getD undef = V j) → (∀ k, oldD ops (List.range n) k = true → a.tmps[k]?.getD undef = a0.tmps[k]?.getD undef) → (∀ k j0, oneD ops (List.range n) k j0 = true → L j0 = false → a.tmps[k]?.getD undef = a0.tmps[k]?.getD undef) →
      L (k + i) = false → (∀ j, (depsD md o).contains j = true → L j = true) → J L V w → GAct P Q J L V w a (k + i) o
  | [], i, k, o, _, h => by simp at h
  | x :: r, 0, k, o, hs, h => by
    simp at h; subst h
    exact hs.1
  | x :: r, i + 1, k, o, hs, h => by
    have := HSteps.get r i (k + 1) o hs.2 (by simpa using h)
    rwa [Nat.add_assoc, Nat.add_comm 1 i] at this

theorem wpAny_relyH (hn : ops.size = n) (hd : apartD ops (List.range n) = true) (hb : backD md ops = true) (hr : roomD ops (List.range n) a0.tmps.size = true) (hg : gdD md ops = true)
    (hs : HSteps P md ops Q a0 n J 0 ops.toList) (hdone : ∀ L V w, (∀ i, i < n → L i = true) → J L V w → Q .normal (putF ops V (List.range n) a0) w) :
    ∀ (fuel : Nat) (listed : Array Bool) (L : Nat → Bool) (V : Nat → Value) (w : World), listed.size = n → (∀ i, i < n → L i = listed.getD i true) → leftF listed ≤ fuel → J L V w →
      wpAny P md ops Q fuel listed (frF ops L V (List.range n) a0) w := by
  have hall : ∀ (listed : Array Bool) (L : Nat → Bool) (V : Nat → Value) (w : World), (∀ i, i < n → L i = listed.getD i true) → (∀ i, listed.getD i true = true) → J L V w → Q .normal (frF ops L V (List.range n) a0) w := by
    intro listed L V w hL h hJ
    rw [frF_all _ _ (fun i hi => by rw [hL i (List.mem_range.1 hi), h i])]
    exact hdone L V w (fun i hi => by rw [hL i hi, h i]) hJ
  have hmono : ∀ (i : Nat) (o : Oper), ops[i]? = some o → ∀ e ∈ o.after, Region.binds md e = true → e.on < i := by
    intro i o ho e he hbe
    have hi : i < ops.size := (Array.getElem?_eq_some_iff.1 ho).1
    have h := List.all_eq_true.1 hb i (List.mem_range.2 hi)
    simp only [ho] at h
    have h2 := Array.all_eq_true_iff_forall_mem.1 h e he
    simpa [hbe] using h2
  intro fuel
  induction fuel with
  | zero =>
    intro listed L V w hsz hL hc hJ
    have h0 := leftF_zero (Nat.le_zero.1 hc)
    refine ⟨List.eq_nil_iff_forall_not_mem.2 (fun i hi => ?_), hall listed L V w hL h0 hJ⟩
    have := (mem_ready.1 hi).1
    rw [h0 i] at this; cases this
  | succ fuel ih =>
    intro listed L V w hsz hL hc hJ
    refine ⟨fun hnil => ?_, fun i hi => ?_⟩
    · refine hall listed L V w hL (fun i => ?_) hJ
      induction i using Nat.strongRecOn with
      | ind i ihi =>
        cases hlt : listed.getD i true with
        | true => rfl
        | false =>
          have hi : i < listed.size := by
            rcases Nat.lt_or_ge i listed.size with h | h
            · exact h
            · rw [Array.getD_eq_getD_getElem?, Array.getElem?_eq_none h] at hlt; cases hlt
          have hmem : i ∈ Region.ready md ops listed := by
            refine mem_ready.2 ⟨hlt, ops[i]'(by omega), Array.getElem?_eq_getElem (by omega), fun e he hbe => ?_⟩
            have h1 := hmono i _ (Array.getElem?_eq_getElem (by omega)) e he hbe
            have h2 := ihi e.on h1
            rw [Array.getD_eq_getD_getElem?] at h2 ⊢
            rw [Array.getElem?_eq_getElem (show e.on < listed.size by omega)] at h2 ⊢
            simpa using h2
          rw [hnil] at hmem; cases hmem
    · obtain ⟨h1, o, ho, h2⟩ := mem_ready.1 hi
      have hin : i < n := by rw [← hn]; exact (Array.getElem?_eq_some_iff.1 ho).1
      have hLi : L i = false := by rw [hL i hin]; exact h1
      have hap : ∀ j, j ∈ List.range n → i ≠ j → ∀ d, dstO ops j = some d → dstO ops i ≠ some d := fun j hj hne d h3 => apartD_out hd hj (List.mem_range.2 hin) (Ne.symm hne) d h3
      have hev : ∀ j k, dstO ops j = some k → L j = true → (frF ops L V (List.range n) a0).tmps[k]?.getD undef = V j ∧ k < a0.tmps.size := (fun j k hjk hLj => by
          have hjn : j < n := by
            rw [← hn]
            rcases Nat.lt_or_ge j ops.size with h | h
            · exact h
            · simp [dstO, Array.getElem?_eq_none h] at hjk
          have hk : k < a0.tmps.size := by
            have := List.all_eq_true.1 hr j (List.mem_range.2 hjn)
            simp only [hjk] at this
            simpa using this
          rw [← evalTmp]
          exact ⟨frF_eval hjk hLj _ _ List.nodup_range (List.mem_range.2 hjn) (fun m hm hne => apartD_out hd (List.mem_range.2 hjn) hm hne k hjk) hk, hk⟩)
      have hdep : ∀ j, (depsD md o).contains j = true → L j = true := (fun j hj => by
          have hj' : j ∈ depsD md o := by simpa using hj
          obtain ⟨e, he, rfl⟩ := List.mem_map.1 hj'
          obtain ⟨he1, he2⟩ := List.mem_filter.1 he
          have h3 := h2 e (by simpa using he1) he2
          have h4 := hmono i o ho e (by simpa using he1) he2
          rw [hL e.on (by omega)]
          rw [Array.getD_eq_getD_getElem?] at h3 ⊢
          rw [Array.getElem?_eq_getElem (show e.on < listed.size by omega)] at h3 ⊢
          simpa using h3)
      have hob := HSteps.get ops.toList i 0 o hs (by simpa using ho) L V w (frF ops L V (List.range n) a0) (fun j k h1 h2 => (hev j k h1 h2).1)
        (fun k hk => by
          rw [← evalTmp, ← evalTmp]
          exact frF_old _ _ (fun j hj e => by
          have := List.all_eq_true.1 hk j hj
          simp [e] at this))
        (fun k j0 hk hj0 => by
          rw [← evalTmp, ← evalTmp]
          exact frF_yet _ _ (fun j hj e => by
            have := List.all_eq_true.1 hk j hj
            simp only [e, bne_self_eq_false, Bool.or_false, beq_iff_eq] at this
            rw [this]; exact hj0))
        (by rw [Nat.zero_add]; exact hLi)
        hdep hJ
      rw [Nat.zero_add] at hob
      have hdst : o.dst = dstO ops i := by simp [dstO, ho]
      have hnext : ∀ (v : Value) (w' : World), J (updL L i) (updV V i v) w' → wpAny P md ops Q fuel (listed.setIfInBounds i true) ((frF ops L V (List.range n) a0).put o.dst v) w' := by
        intro v w' hJ'
        rw [hdst, frF_step hLi _ _ List.nodup_range (List.mem_range.2 hin) hap]
        refine ih (listed.setIfInBounds i true) _ _ w' (by simp [hsz]) (fun j hj => ?_) (by have := leftF_set listed i h1; omega) hJ'
        unfold updL
        by_cases e : j = i
        · subst e
          rw [if_pos rfl, Array.getD_eq_getD_getElem?, Array.getElem?_setIfInBounds_self_of_lt (by omega)]; rfl
        · rw [if_neg e, hL j hj, Array.getD_eq_getD_getElem?, Array.getD_eq_getD_getElem?, Array.getElem?_setIfInBounds_ne (Ne.symm e)]
      unfold wpOp
      simp only [ho]
      unfold GAct at hob
      cases hgo : o.guard with
      | none =>
        rw [hgo] at hob
        have hw : Region.wanted o (yielded ops (frF ops L V (List.range n) a0).tmps) = true := by simp [Region.wanted, hgo]
        rw [if_pos hw]
        refine .inl (Oper.wp_mono ?_ hob)
        rintro a' w' ⟨v, rfl, hJ'⟩
        exact hnext v w' hJ'
      | some gw =>
        obtain ⟨j, want⟩ := gw
        rw [hgo] at hob
        have hgd := List.all_eq_true.1 hg i (List.mem_range.2 (by omega))
        simp only [ho, hgo, Bool.and_eq_true] at hgd
        have hLj := hdep j hgd.1
        obtain ⟨k, hk⟩ := Option.isSome_iff_exists.1 hgd.2
        obtain ⟨hv, hks⟩ := hev j k hk hLj
        have h3 : (ops[j]?).bind (·.dst) = some k := hk
        have h4 : (frF ops L V (List.range n) a0).tmps[k]? = some (V j) := by
          have hsz2 : k < (frF ops L V (List.range n) a0).tmps.size := by rw [frF_size]; exact hks
          rw [Array.getElem?_eq_getElem hsz2] at hv ⊢
          rw [← hv]; rfl
        have hyl : yielded ops (frF ops L V (List.range n) a0).tmps j = match V j with | .bool b => some b | _ => none := by
          unfold yielded
          rw [h3, Option.bind_some, h4]
          cases V j <;> rfl
        rcases hob with ⟨hb, hob⟩ | ⟨hb, hJ'⟩
        · have hw : Region.wanted o (yielded ops (frF ops L V (List.range n) a0).tmps) = true := by simp [Region.wanted, hgo, hyl, hb]
          rw [if_pos hw]
          refine .inl (Oper.wp_mono ?_ hob)
          rintro a' w' ⟨v, rfl, hJ'⟩
          exact hnext v w' hJ'
        · have hw : ¬ Region.wanted o (yielded ops (frF ops L V (List.range n) a0).tmps) = true := by
            simp only [Region.wanted, hgo, hyl]
            intro h5
            refine hb ?_
            cases e : V j with
            | bool b => rw [e] at h5; have h6 : some b = some want := by simpa using h5
                        cases h6; rfl
            | _ => rw [e] at h5; simp at h5
          rw [if_neg hw]
          exact hnext undef w hJ'

/- A region that draws its order. -/
theorem wp_region_relyH {id : Nat} {w : World} (hm : P.follows .mixedOrders = true) (J : (Nat → Bool) → (Nat → Value) → World → Prop) (n : Nat) (hn : ops.size = n) (hd : apartD ops (List.range n) = true) (hb : backD .any ops = true)
    (hr : roomD ops (List.range n) a0.tmps.size = true) (hg : gdD .any ops = true) (h0 : J (fun _ => false) (fun _ => undef) w.drew)
    (hs : HSteps P .any ops Q a0 n J 0 ops.toList) (hdone : ∀ L V w, (∀ i, i < n → L i = true) → J L V w → Q .normal (putF ops V (List.range n) a0) w) : (Code.region id ops true).wp P Q a0 w := by
  refine wp_region_any hm ?_
  have h := wpAny_relyH (P := P) hn hd hb hr hg hs hdone ops.size (Array.replicate ops.size false) (fun _ => false) (fun _ => undef) w.drew (by simp [hn])
    (fun i hi => by rw [Array.getD_eq_getD_getElem?, Array.getElem?_replicate, if_pos (by omega)]; rfl) (by
      unfold leftF
      simp only [Array.toList_replicate]
      exact Nat.le_trans List.countP_le_length (by simp)) h0
  rw [frF_none _ _ (fun _ => rfl)] at h
  exact h
end



/- As Det, where each operation comes up behind another one of its own. -/
def DetC (ch : Nat → Nat) (vals : List Value) (w : World) (L : Nat → Bool) (V : Nat → Value) (X : World) : Prop := Det vals w L V X ∧ ∀ i, L i = true → L (ch i) = true
theorem DetC.zero {ch : Nat → Nat} {vals : List Value} {w X : World} {V : Nat → Value} (h : Step (fun _ => False) w X) : DetC ch vals w (fun _ => false) V X := ⟨Det.zero h, fun _ h => nomatch h⟩
theorem DetC.up {ch : Nat → Nat} {vals : List Value} {w X : World} {L : Nat → Bool} {V : Nat → Value} (h : DetC ch vals w L V X) (i : Nat) (hi : ch i = i ∨ L (ch i) = true) {v : Value} (hv : vals[i]? = some v) : DetC ch vals w (updL L i) (updV V i v) X := by
  refine ⟨h.1.up i hv, fun j hj => ?_⟩
  unfold updL at hj ⊢
  by_cases e : ch j = i
  · rw [if_pos e]
  · rw [if_neg e]
    by_cases e2 : j = i
    · subst e2
      rcases hi with hi | hi
      · exact absurd hi e
      · exact hi
    · rw [if_neg e2] at hj
      exact h.2 j hj

end Go.Proofs.Ytilipeigjkmldaa

namespace Go.Proofs.Ytilipeigjkmldaa
open Go.RowKit

theorem plOk_no {n : Nat} {p : Pl} {x : Int} {i : Nat} (hx : p.path[i]? = some x) (h : x < -1) : plOk n p = false := by
  unfold plOk
  have h2 : p.path.all (fun x => decide (-1 ≤ x)) = false := List.all_eq_false.2 ⟨x, List.mem_of_getElem? hx, by simp; omega⟩
  rw [h2, Bool.and_false]
theorem plOk_yes {n : Nat} {p : Pl} (h : ∀ x ∈ p.path, -1 ≤ x) : plOk n p = (decide (0 ≤ p.loc) && decide (p.loc < n)) := by
  unfold plOk
  have h2 : p.path.all (fun x => decide (-1 ≤ x)) = true := List.all_eq_true.2 (fun x hx => decide_eq_true (h x hx))
  rw [h2, Bool.and_true]

set_option maxRecDepth 100000 in
set_option maxHeartbeats 2000000 in
theorem rplace_any (B n : Nat) (p : Pl) (cs : List Value) (w : World) (h : PlAt w B p cs) :
    Calls Try.prog 49 #[.agg cs.toArray, .int .i64 (n : Int)] w (IsBool (plOk n p) w) := by
  obtain ⟨v, rfl, hr⟩ := h
  have HR := Lib.hid hr
  obtain ⟨a, c, rfl, -⟩ := id hr
  have HST0 : Hid (Step (fun _ => False) w (w.alloc (.cells #[.int .i64 p.loc, .slice a p.path.length c] 47))) := (Step.refl _ _).alloc _
  have HNB := Lib.hid (blk_new w (.cells #[.int .i64 p.loc, .slice a p.path.length c] 47))
  have HK : Hid (∀ X, Step (fun _ => False) (w.alloc (.cells #[.int .i64 p.loc, .slice a p.path.length c] 47)) X → X.cell? ⟨w.heap.size, 0, none⟩ = some (.int .i64 p.loc) ∧ X.cell? ⟨w.heap.size, 1, none⟩ = some (.slice a p.path.length c)) := by
    show ∀ X, _
    intro X hX
    exact ⟨blk_cell (hX.keep HNB.out (fun h => h)) 0 _ rfl, blk_cell (hX.keep HNB.out (fun h => h)) 1 _ rfl⟩
  have hlen : p.path.length < 9223372036854775808 := by
    obtain ⟨a', c', e, hc, hm, -⟩ := hr
    have : maxLen < 9223372036854775808 := by decide
    cases e
    omega
  clear hr
  go_enter Try.func49, Try.ntmps49
  go_wp2_with fail
  go_loopg [5] p.path.length (fun gg s5 wr => ∃ i : Nat, s5 = .int .i64 i ∧ i ≤ p.path.length ∧ p.path.length - i ≤ gg ∧ (∀ j, j < i → ∀ y, p.path[j]? = some y → -1 ≤ y) ∧ Step (fun _ => False) (w.alloc (.cells #[.int .i64 p.loc, .slice a p.path.length c] 47)) wr)
  case atStart => exact ⟨0, rfl, Nat.zero_le _, by omega, fun j hj => absurd hj (Nat.not_lt_zero _), Step.refl _ _⟩
  case round =>
    obtain ⟨i, rfl, hi, hgg, hno, hst⟩ := hrel
    have HNO := Lib.hid hno
    have HST := Lib.hid hst
    obtain ⟨k0, k1⟩ := HK.out wr hst
    clear hno hst
    by_cases hlt : i < p.path.length
    · obtain ⟨x, hx⟩ : ∃ x, p.path[i]? = some x := ⟨_, List.getElem?_eq_getElem hlt⟩
      obtain ⟨a', c', hva, -, -, -, hra⟩ := HR.out
      obtain ⟨rfl, rfl⟩ : a' = a ∧ c' = c := by cases hva; exact ⟨rfl, rfl⟩
      obtain ⟨g, o, rfl, -, -, hcell⟩ := hra (by omega)
      have f0 := (HST0.out.trans HST.out).cell (hcell i _ (intsV_get p.path i x hx)) (fun h => h)
      have HX := Lib.hid hx
      clear hcell hx hva hra
      by_cases hd : x < -1
      · have e1 : decide (x < -1) = true := decide_eq_true hd
        have HF := Lib.hid (plOk_no (n := n) HX.out hd)
        clear hd
        go_wp2_with fail
        go_ret
        exact ⟨ret_bool HF.out.symm, HST0.out.trans HST.out⟩
      · have e1 : decide (x < -1) = false := decide_eq_false hd
        have HD : Hid (-1 ≤ x) := by show _ ≤ _; omega
        clear hd
        go_wp2_with fail
        go_roundg (gk - 1)
        case rel =>
          refine ⟨i + 1, by go_num, by omega, by omega, fun j hj y hy => ?_, HST.out⟩
          rcases Nat.lt_succ_iff_lt_or_eq.1 hj with h | rfl
          · exact HNO.out j h y hy
          · rw [HX.out] at hy; cases hy; exact HD.out
        case measure => omega
    · have HI : Hid (plOk n p = (decide (0 ≤ p.loc) && decide (p.loc < n))) := plOk_yes fun x hx => by
        obtain ⟨j, hj⟩ := List.getElem?_of_mem hx
        exact HNO.out j (by have := (List.getElem?_eq_some_iff.1 hj).1; omega) x hj
      by_cases h0 : 0 ≤ p.loc
      · by_cases h1 : p.loc < (n : Int)
        · have e1 : decide (0 ≤ p.loc) = true := decide_eq_true h0
          have e2 : decide (p.loc < (n : Int)) = true := decide_eq_true h1
          have HF : Hid (plOk n p = true) := by show _ = _; rw [HI.out, e1, e2]; rfl
          go_wp2_with fail
          go_ret
          exact ⟨ret_bool HF.out.symm, HST0.out.trans HST.out⟩
        · have e1 : decide (0 ≤ p.loc) = true := decide_eq_true h0
          have e2 : decide (p.loc < (n : Int)) = false := decide_eq_false h1
          have HF : Hid (plOk n p = false) := by show _ = _; rw [HI.out, e1, e2]; rfl
          go_wp2_with fail
          go_ret
          exact ⟨ret_bool HF.out.symm, HST0.out.trans HST.out⟩
      · have e1 : decide (0 ≤ p.loc) = false := decide_eq_false h0
        have HF : Hid (plOk n p = false) := by show _ = _; rw [HI.out, e1]; rfl
        go_wp2_with fail
        go_ret
        exact ⟨ret_bool HF.out.symm, HST0.out.trans HST.out⟩

set_option maxRecDepth 100000 in
set_option maxHeartbeats 2000000 in
theorem roperand_any (B n : Nat) (o : Opd) (cs : List Value) (w : World) (h : OpAt w B o cs) :
    Calls Try.prog 51 #[.agg cs.toArray, .int .i64 (n : Int)] w (IsBool (opOk n o) w) := by
  obtain ⟨v, rfl, hr⟩ := h
  have HR := Lib.hid hr
  obtain ⟨a, c, rfl, -⟩ := id hr
  have HST0 : Hid (Step (fun _ => False) w (w.alloc (.cells #[.int .i64 o.kind, .int .i64 o.pl.loc, .slice a o.pl.path.length c, .int .i64 o.ty, .int .u64 o.n] 53))) := (Step.refl _ _).alloc _
  have hn := blk_new w (.cells #[.int .i64 o.kind, .int .i64 o.pl.loc, .slice a o.pl.path.length c, .int .i64 o.ty, .int .u64 o.n] 53)
  have k0 := blk_cell hn 0 _ rfl
  have k1 := blk_cell hn 1 _ rfl
  have k2 := blk_cell hn 2 _ rfl
  have k3 := blk_cell hn 3 _ rfl
  have k4 := blk_cell hn 4 _ rfl
  clear hr hn
  unfold opOk
  by_cases h1 : o.kind = 1
  · have e1 : (o.kind == 1) = true := by simp [h1]
    rw [if_pos h1]
    by_cases h2 : 1 ≤ o.ty
    · by_cases h3 : o.ty ≤ 4
      · have e2 : decide (1 ≤ o.ty) = true := decide_eq_true h2
        have e3 : decide (o.ty ≤ 4) = true := decide_eq_true h3
        rw [e2, e3]
        clear h1
        go_enter Try.func51, Try.ntmps51
        go_wp2_with fail
        go_ret
        exact ⟨rfl, HST0.out⟩
      · have e2 : decide (1 ≤ o.ty) = true := decide_eq_true h2
        have e3 : decide (o.ty ≤ 4) = false := decide_eq_false h3
        rw [e2, e3]
        clear h1
        go_enter Try.func51, Try.ntmps51
        go_wp2_with fail
        go_ret
        exact ⟨rfl, HST0.out⟩
    · have e2 : decide (1 ≤ o.ty) = false := decide_eq_false h2
      rw [e2]
      clear h1
      go_enter Try.func51, Try.ntmps51
      go_wp2_with fail
      go_ret
      exact ⟨rfl, HST0.out⟩
  · have e1 : (o.kind == 1) = false := by simp [h1]
    rw [if_neg h1]
    have HC : Hid (∀ X, Step (fun _ => False) w X → Calls Try.prog 49 #[.agg #[.int .i64 o.pl.loc, .slice a o.pl.path.length c], .int .i64 (n : Int)] X (IsBool (plOk n o.pl) X)) := by
      show ∀ X, _
      intro X hX
      exact rplace_any B n o.pl [.int .i64 o.pl.loc, .slice a o.pl.path.length c] X ⟨_, rfl, HR.out.step hX (fun _ _ h => h)⟩
    by_cases h2 : o.kind = 2
    · have e2 : (o.kind == 2) = true := by simp [h2]
      rw [if_pos (.inl h2)]
      clear h1 h2
      go_enter Try.func51, Try.ntmps51
      go_wp2_with fail
      refine (HC.out _ HST0.out).mono ?_
      rintro e w1 ⟨rfl, s1⟩
      go_wp2_with fail
      go_ret
      exact ⟨rfl, HST0.out.trans s1⟩
    · have e2 : (o.kind == 2) = false := by simp [h2]
      by_cases h3 : o.kind = 3
      · have e3 : (o.kind == 3) = true := by simp [h3]
        rw [if_pos (.inr h3)]
        clear h1 h2 h3
        go_enter Try.func51, Try.ntmps51
        go_wp2_with fail
        refine (HC.out _ HST0.out).mono ?_
        rintro e w1 ⟨rfl, s1⟩
        go_wp2_with fail
        go_ret
        exact ⟨rfl, HST0.out.trans s1⟩
      · have e3 : (o.kind == 3) = false := by simp [h3]
        rw [if_neg (fun h => h.elim h2 h3)]
        clear h1 h2 h3
        go_enter Try.func51, Try.ntmps51
        go_wp2_with fail
        go_ret
        exact ⟨rfl, HST0.out⟩

end Go.Proofs.Ytilipeigjkmldaa

namespace Go.Proofs.Ytilipeigjkmldaa
open Go.RowKit

structure ShRight (n : Nat) (x : Ins) : Prop where
  ops : ∀ o ∈ x.args, opOk n o = true
  kind : (x.rkind = 1 ∧ x.args.length = 1) ∨ (x.rkind = 2 ∧ x.args.length = 0 ∧ plOk n x.rpl = true) ∨ (x.rkind = 10 ∧ x.args.length = 0)

set_option maxRecDepth 100000 in
set_option maxHeartbeats 2000000 in
theorem rright_ok (B n : Nat) (x : Ins) (va vp : Value) (at1 : Option Addr) (nt1 ct1 : Nat) (xa : List Value) (w : World) (hoa : Each (OpAt w B) x.args xa) (hra : Row w B va x.args.length xa) (hrp : Row w B vp x.rpl.path.length (intsV x.rpl.path)) (hk : ShRight n x) :
    Calls Try.prog 50 #[.agg #[.int .i64 x.rkind, va, .int .i64 x.rpl.loc, vp, .bool x.mu, .string x.rname, .int .i64 x.rn, .slice at1 nt1 ct1], .int .i64 (n : Int)] w (IsBool true w) := by
  have HOA := Lib.hid hoa
  have HRA := Lib.hid hra
  have HRP := Lib.hid hrp
  obtain ⟨aa1, ca1, rfl, -⟩ := id hra
  obtain ⟨ap1, cp1, rfl, -⟩ := hrp
  obtain ⟨W0, hW0⟩ : ∃ W0 : World, W0 = w.alloc (.cells #[.int .i64 x.rkind, .slice aa1 x.args.length ca1, .int .i64 x.rpl.loc, .slice ap1 x.rpl.path.length cp1, .bool x.mu, .string x.rname, .int .i64 x.rn, .slice at1 nt1 ct1] 51) := ⟨_, rfl⟩
  have HST0 : Hid (Step (fun _ => False) w W0) := by show Step _ _ _; rw [hW0]; exact (Step.refl _ _).alloc _
  have HNB : Hid (W0.heap[w.heap.size]? = some (.cells #[.int .i64 x.rkind, .slice aa1 x.args.length ca1, .int .i64 x.rpl.loc, .slice ap1 x.rpl.path.length cp1, .bool x.mu, .string x.rname, .int .i64 x.rn, .slice at1 nt1 ct1] 51 (0, 0))) := by show _ = _; rw [hW0]; exact blk_new _ _
  have HK : Hid (∀ X, Step (fun _ => False) W0 X → X.cell? ⟨w.heap.size, 0, none⟩ = some (.int .i64 x.rkind) ∧ X.cell? ⟨w.heap.size, 1, none⟩ = some (.slice aa1 x.args.length ca1) ∧ X.cell? ⟨w.heap.size, 2, none⟩ = some (.int .i64 x.rpl.loc) ∧ X.cell? ⟨w.heap.size, 3, none⟩ = some (.slice ap1 x.rpl.path.length cp1)) := by
    show ∀ X, _
    intro X hX
    have h := hX.keep HNB.out (fun h => h)
    exact ⟨blk_cell h 0 _ rfl, blk_cell h 1 _ rfl, blk_cell h 2 _ rfl, blk_cell h 3 _ rfl⟩
  have HW0 := Lib.hid hW0
  have HKD := Lib.hid hk
  have hlen : x.args.length ≤ 1 := by rcases hk.kind with ⟨-, h⟩ | ⟨-, h, -⟩ | ⟨-, h⟩ <;> omega
  obtain ⟨k0, k1, k2, k3⟩ := HK.out W0 (Step.refl _ _)
  clear hoa hra hk hW0
  go_enter Try.func50, Try.ntmps50
  go_wp2_with fail
  rw [← HW0.out]
  go_wp2_with fail
  go_loopg [6] x.args.length (fun gg s6 wr => ∃ i : Nat, s6 = .int .i64 i ∧ i ≤ x.args.length ∧ x.args.length - i ≤ gg ∧ Step (fun _ => False) W0 wr)
  case atStart => exact ⟨0, rfl, Nat.zero_le _, by omega, Step.refl _ _⟩
  case round =>
    obtain ⟨i, rfl, hi, hgg, hst⟩ := hrel
    have HST := Lib.hid hst
    clear k0 k1 k2 k3
    obtain ⟨k0, k1, k2, k3⟩ := HK.out wr hst
    clear hst
    by_cases hlt : i < x.args.length
    · obtain ⟨q, hq⟩ : ∃ q, x.args[i]? = some q := ⟨_, List.getElem?_eq_getElem hlt⟩
      obtain ⟨a', c', hva, -, -, -, hr⟩ := HRA.out.step (HST0.out.trans HST.out) (fun _ _ h => h)
      obtain ⟨rfl, rfl⟩ : a' = aa1 ∧ c' = ca1 := by cases hva; exact ⟨rfl, rfl⟩
      obtain ⟨g, o, rfl, -, -, hcell⟩ := hr (by omega)
      obtain ⟨co, hat, f⟩ := Each.cells 5 OpAt.len (Each.mono (OpAt.step (HST0.out.trans HST.out) (fun _ _ h => h)) _ _ HOA.out) hq hcell
      have HAT := Lib.hid hat
      have HT : Hid (opOk n q = true) := HKD.out.ops q (List.mem_of_getElem? hq)
      obtain ⟨vq, rfl, hrq⟩ := hat
      obtain ⟨aq, cq, rfl, -⟩ := hrq
      have f0 := f 0 _ rfl
      have f1 := f 1 _ rfl
      have f2 := f 2 _ rfl
      have f3 := f 3 _ rfl
      have f4 := f 4 _ rfl
      rw [Nat.add_zero] at f0
      clear hcell hq hva hr f
      go_wp2_with fail
      refine (roperand_any B n q [.int .i64 q.kind, .int .i64 q.pl.loc, .slice aq q.pl.path.length cq, .int .i64 q.ty, .int .u64 q.n] wr HAT.out).mono ?_
      rintro e w1 ⟨rfl, s1⟩
      rw [HT.out]
      go_wp2_with fail
      go_roundg (gk - 1)
      case rel => exact ⟨i + 1, by go_num, by omega, by omega, HST.out.trans s1⟩
      case measure => omega
    · have HS := Lib.hid (HST0.out.trans HST.out)
      rcases HKD.out.kind with ⟨hk1, hn⟩ | ⟨hk2, hn, hp⟩ | ⟨hk3, hn⟩
      · have e1 : (x.rkind == 1) = true := by simp [hk1]
        have en : ((x.args.length : Int) == 1) = true := by simp [hn]
        clear hk1 hn
        go_wp2_with fail
        go_ret
        exact ⟨rfl, HS.out⟩
      · have e1 : (x.rkind == 1) = false := by simp [hk2]
        have e2 : (x.rkind == 2) = true := by simp [hk2]
        have e4 : (x.rkind == 4) = false := by simp [hk2]
        have e5 : (x.rkind == 5) = false := by simp [hk2]
        have e6 : (x.rkind == 6) = false := by simp [hk2]
        have e11 : (x.rkind == 11) = false := by simp [hk2]
        have en : ((x.args.length : Int) == 0) = true := by simp [hn]
        have HP := Lib.hid hp
        clear hk2 hn hp
        go_wp2_with fail
        refine (rplace_any B n x.rpl [.int .i64 x.rpl.loc, .slice ap1 x.rpl.path.length cp1] wr ⟨_, rfl, HRP.out.step HS.out (fun _ _ h => h)⟩).mono ?_
        rintro e w1 ⟨rfl, s1⟩
        rw [HP.out]
        go_wp2_with fail
        go_ret
        exact ⟨rfl, HS.out.trans s1⟩
      · have e1 : (x.rkind == 1) = false := by simp [hk3]
        have e2 : (x.rkind == 2) = false := by simp [hk3]
        have e3 : (x.rkind == 3) = false := by simp [hk3]
        have e4 : (x.rkind == 4) = false := by simp [hk3]
        have e5 : (x.rkind == 5) = false := by simp [hk3]
        have e6 : (x.rkind == 6) = false := by simp [hk3]
        have e7 : (x.rkind == 7) = false := by simp [hk3]
        have e8 : (x.rkind == 8) = false := by simp [hk3]
        have e9 : (x.rkind == 9) = false := by simp [hk3]
        have e10 : (x.rkind == 10) = true := by simp [hk3]
        have e11 : (x.rkind == 11) = false := by simp [hk3]
        have en : ((x.args.length : Int) == 0) = true := by simp [hn]
        clear hk3 hn
        go_wp2_with fail
        go_ret
        exact ⟨rfl, HS.out⟩

end Go.Proofs.Ytilipeigjkmldaa
