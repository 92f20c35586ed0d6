/- The document's answer for moves: Own. / A region that draws its order, by rely, where operations may be guarded. / A region whose operations have one value each, whatever the order: it reads, it calls what turns nothing old. / The document's answer for moves: Bad. -/
import Derived.Test.YtilipeigjkmldaaFinSV
import Derived.Test.YtilipeigjkmldaaRefE
import Derived.Test.YtilipeigjkmldaaCoreA
namespace Go.Proofs.Ytilipeigjkmldaa
open Go.RowKit

set_option maxRecDepth 100000 in
set_option maxHeartbeats 4000000 in
theorem rown_any (p : Pl) (cs : List Value) (B : Nat) (w : World) (h : PlAt w B p cs) (hl : p.path.length ≤ 1000000) : Calls Try.prog 85 #[.agg cs.toArray] w (OwnPost p w) := by
  obtain ⟨v, rfl, hr⟩ := h
  have HR := Lib.hid hr
  obtain ⟨a, c, rfl, hc1, hc2, -, hg⟩ := hr
  have HG := Lib.hid hg
  obtain ⟨j0, hj0, hy0, hy1, hy2⟩ := info_parts Try.infoInt
  have HJ := Lib.hid hj0
  have HY0 := Lib.hid hy0
  have HY1 := Lib.hid hy1
  have HY2 := Lib.hid hy2
  obtain ⟨w3, hw3⟩ : ∃ w3 : World, w3 = ((w.alloc (.cells #[.int .i64 p.loc, .slice a p.path.length c] 47)).alloc (.cells #[.int .i64 0, .slice none 0 0] 47)).alloc (.cells #[.int .i64 p.loc, .slice none 0 0] 47) := ⟨_, rfl⟩
  have HST : Hid (Step (fun _ => False) w w3) := by show Step _ _ _; rw [hw3]; exact (((Step.refl _ _).alloc _).alloc _).alloc _
  have HB1 : Hid (w3.heap[w.heap.size]? = some (.cells #[.int .i64 p.loc, .slice a p.path.length c] 47 (0, 0))) := by show _ = _; rw [hw3]; exact blk_alloc (blk_alloc (blk_new w _))
  have HB2 : Hid (w3.heap[w.heap.size + 1]? = some (.cells #[.int .i64 0, .slice none 0 0] 47 (0, 0))) := by show _ = _; rw [hw3]; exact blk_alloc (blk_new2 _ _ _)
  have HB3 : Hid (w3.heap[w.heap.size + 2]? = some (.cells #[.int .i64 p.loc, .slice none 0 0] 47 (0, 0))) := by
    show _ = _
    rw [hw3]
    have := blk_new ((w.alloc (.cells #[.int .i64 p.loc, .slice a p.path.length c] 47)).alloc (.cells #[.int .i64 0, .slice none 0 0] 47)) (.cells #[.int .i64 p.loc, .slice none 0 0] 47)
    simpa using this
  have HSZ3 : Hid (w3.heap.size = w.heap.size + 3) := by show _ = _; rw [hw3]; simp
  have HW3 := Lib.hid hw3
  have b1 := blk_cell (blk_alloc (o' := .cells #[.int .i64 0, .slice none 0 0] 47) (blk_new w (.cells #[.int .i64 p.loc, .slice a p.path.length c] 47))) 0 _ rfl
  obtain ⟨g3, hg3⟩ : ∃ g3, g3 = w.heap.size + 2 := ⟨_, rfl⟩
  rw [← hg3] at HB3
  have HG3 := Lib.hid hg3
  have HKB : Hid (∀ X, Step (· = g3) w3 X → X.cell? ⟨w.heap.size, 0, none⟩ = some (.int .i64 p.loc) ∧ X.cell? ⟨w.heap.size, 1, none⟩ = some (.slice a p.path.length c)) := by
    show ∀ X, _
    intro X hX
    have hb := hX.keep HB1.out (by omega)
    exact ⟨blk_cell hb 0 _ rfl, blk_cell hb 1 _ rfl⟩
  clear hg hj0 hy0 hy1 hy2 hw3
  go_enter Try.func85, Try.ntmps85
  go_upto_region 2 with fail
  rw [← HG3.out, ← HW3.out]
  clear b1 hg3
  go_wp2_with fail
  go_loopg [4] p.path.length (fun gg s4 wr => ∃ (k : Nat) (v : Value), s4 = .int .i64 k ∧ k ≤ p.path.length ∧ p.path.length - k ≤ gg ∧ (∀ j, j < k → ∀ y, p.path[j]? = some y → ((-1 : Int) == y) = false) ∧ wr.heap[g3]? = some (.cells #[.int .i64 p.loc, v] 47 (0, 0)) ∧ wr.ownsRow w3.heap.size 3 1 v k (intsV (p.path.take k)) ∧ Step (· = g3) w3 wr)
  case atStart => exact ⟨0, _, rfl, Nat.zero_le _, by omega, (fun j hj => absurd hj (Nat.not_lt_zero _)), HB3.out, World.ownsRow_nil _ _ _ _, Step.refl _ _⟩
  case round =>
    obtain ⟨k, v, rfl, hk, hgg, hno, hblk, hown, hst⟩ := hrel
    have HNO := Lib.hid hno
    have HBLK := Lib.hid hblk
    have HOWN := Lib.hid hown
    have HSTR := Lib.hid hst
    obtain ⟨ao, co, rfl⟩ := owns_slice hown
    obtain ⟨d0, d1⟩ := HKB.out wr hst
    have FIN : Hid ((ownF p).path = p.path.take k → OwnPost p w (.returned (.agg #[.int .i64 p.loc, .slice ao k co])) ((wr.setCell ⟨w.heap.size + 1, 0, none⟩ (.int .i64 p.loc)).setCell ⟨w.heap.size + 1, 1, none⟩ (.slice ao k co))) := by
      show _ → _
      intro he
      have hsz := HSZ3.out
      have hg3 := HG3.out
      have hs2 : Step (· = w.heap.size + 1) wr ((wr.setCell ⟨w.heap.size + 1, 0, none⟩ (.int .i64 p.loc)).setCell ⟨w.heap.size + 1, 1, none⟩ (.slice ao k co)) := ((Step.refl (· = w.heap.size + 1) wr).setCell ⟨w.heap.size + 1, 0, none⟩ _ (fun _ => rfl)).setCell ⟨w.heap.size + 1, 1, none⟩ _ (fun _ => rfl)
      refine ⟨⟨.slice ao k co, rfl, ?_⟩, (HST.out.then HSTR.out (fun q hq e => by omega)).then hs2 (fun q hq e => by omega)⟩
      rw [he, List.length_take, Nat.min_eq_left hk]
      exact owns_base (owns_keep hs2 HOWN.out (fun q hq e => by have := (HOWN.out.lt q hq).1; omega)) HST.out.size
    have e0 := blk_cell hblk 0 _ rfl
    have e1 := blk_cell hblk 1 _ rfl
    have HRES : Hid (wr.heap[w.heap.size + 1]? = some (.cells #[.int .i64 0, .slice none 0 0] 47 (0, 0))) := hst.keep HB2.out (by have := HG3.out; omega)
    clear hno hblk hown hst
    by_cases hlt : k < p.path.length
    · obtain ⟨y, hy⟩ : ∃ y, p.path[k]? = some y := ⟨_, List.getElem?_eq_getElem hlt⟩
      obtain ⟨gp, op, rfl, -, -, hcell⟩ := HG.out (by omega)
      have HF0 : Hid (∀ X, Step (· = g3) w3 X → X.cell? ⟨gp, op + k, none⟩ = some (.int .i64 y)) := by
        show ∀ X, _
        intro X hX
        have h1 := hcell k _ (intsV_get p.path k y hy)
        have hb := World.block_lt_of_cell? w _ h1
        exact hX.cell (HST.out.cell h1 (fun h => h)) (fun e => by simp at e hb; have := HG3.out; omega)
      have f0 := HF0.out wr HSTR.out
      have HY := Lib.hid hy
      have hi0 : (0 : Int) ≤ (k : Int) := by omega
      have hi1 : (k : Int) < (p.path.length : Int) := by omega
      clear hcell hy
      by_cases e : y = -1
      · have en : (y != -1) = false := by simp [e]
        have HE : Hid ((ownF p).path = p.path.take k) := own_take HY.out (by simp [e]) HNO.out
        obtain ⟨⟨r0, r1⟩, r2, r3⟩ := blk2 HRES.out
        have HS2 := Lib.hid (set2 HRES.out (b0 := .int .i64 p.loc) (b1 := .slice ao k co))
        clear e
        go_wp2
        refine bodyPost_ret (results_cellB rfl _ (w.heap.size + 1) 47 [.int .i64 p.loc, .slice ao k co] _ rfl HS2.out.1 Try.underlying47 rfl Try.sizePlace) rfl ?_
        exact FIN.out HE.out
      · have en : (y != -1) = true := by simpa using e
        have HNX : Hid (∀ j, j < k + 1 → ∀ z, p.path[j]? = some z → ((-1 : Int) == z) = false) := by
          show ∀ j, _
          intro j hj z hz
          by_cases ej : j = k
          · rw [ej, HY.out] at hz
            cases hz
            simpa using fun h => e h.symm
          · exact HNO.out j (by omega) z hz
        have HTK : Hid (p.path.take (k + 1) = p.path.take k ++ [y]) := by
          obtain ⟨hj', hja⟩ := List.getElem?_eq_some_iff.1 HY.out
          show _ = _
          rw [List.take_succ_eq_append_getElem hj', hja]
        have HSA : Hid (Step (fun _ => False) wr (wr.alloc (.cells #[.int .i64 y] 3)).drew) := ((Step.refl _ _).alloc _).drew
        have HROW5 : Hid (Row (wr.alloc (.cells #[.int .i64 y] 3)).drew (wr.heap.size + 1) (.slice (some ⟨wr.heap.size, 0, none⟩) 1 1) 1 (intsV [y])) := Row.new (cs := [.int .i64 y]) (blk_drew (blk_new _ _)) (by decide)
        have HOA : Hid ((wr.alloc (.cells #[.int .i64 y] 3)).drew.ownsRow w3.heap.size 3 1 (.slice ao k co) k (intsV (p.path.take k))) := HSA.out.owns HOWN.out (fun _ _ h => h)
        have HLE : Hid (w3.heap.size ≤ (wr.alloc (.cells #[.int .i64 y] 3)).drew.heap.size) := Nat.le_trans HSTR.out.size HSA.out.size
        have e1A := cell_alloc (o := .cells #[.int .i64 y] 3) e1
        have HBA := Lib.hid (HSA.out.keep HBLK.out (fun h => h))
        clear e
        go_wp2_with fail
        first
        | (go_region_law (first
            | (refine step_append_row _ rfl (wr.heap.size + 1) (.tmp 24) (.tmp 30) 38 rfl w3.heap.size 3 j0 (.int .i64 0) 1 8 Try.underlying38 HJ.out HY0.out HY1.out HY2.out rfl (by decide) _ _ _ (by simp [Act.eval]) HOA.out _ 1 _ (by simp [Act.eval]) HROW5.out rfl (intsV_one [y]) (by unfold maxLen; omega) (by omega) HLE.out ?_
               intro v6 w6 hown hgrow hat
               obtain ⟨oa6, oc6, rfl⟩ := owns_slice hown
               have hab6 := grown_keep hgrow HBA.out (fun q hq e => by have := (HOA.out.lt q hq).1; have := HG3.out; have := HSZ3.out; omega)
               have c16 := blk_cell hab6 1 _ rfl
               have d16 := blk_free hab6 1
               have HAB6 := Lib.hid hab6
               have HOWN6 := Lib.hid hown
               have HGROW6 := Lib.hid hgrow
               clear hab6 hown hgrow hat)))
        | fail
        all_goals (
          have HB7 : Hid ((w6.setCell ⟨g3, 1, none⟩ (.slice oa6 (k + 1) oc6)).heap[g3]? = some (.cells #[.int .i64 p.loc, .slice oa6 (k + 1) oc6] 47 (0, 0))) := blk_set HAB6.out 1 _
          have HO7 : Hid ((w6.setCell ⟨g3, 1, none⟩ (.slice oa6 (k + 1) oc6)).ownsRow w3.heap.size 3 1 (.slice oa6 (k + 1) oc6) (k + 1) (intsV (p.path.take (k + 1)))) := by
            rw [HTK.out, intsV_append]
            exact ownsRow_setCell_below HOWN6.out (a := ⟨g3, 1, none⟩) (by show g3 < _; have := HG3.out; have := HSZ3.out; omega) _
          have HS7 : Hid (Step (· = g3) w3 (w6.setCell ⟨g3, 1, none⟩ (.slice oa6 (k + 1) oc6))) :=
            ((HSTR.out.trans (HSA.out.mono (fun _ _ h => h.elim))).then (grown_step HGROW6.out) (fun q hq e => by have := (HOA.out.lt q e).1; omega)).setCell _ _ (fun _ => rfl)
          clear e0 e1 e1A d0 d1 c16 d16 f0
          go_wp2
          go_roundg (gk - 1)
          case rel => exact ⟨k + 1, _, by go_num, hlt, by rw [← Nat.sub_sub]; exact Nat.sub_le_sub_right hgg 1, HNX.out, HB7.out, HO7.out, HS7.out⟩
          case measure => omega)
    · obtain rfl : k = p.path.length := by omega
      have HE : Hid ((ownF p).path = p.path.take p.path.length) := by
        show _ = _
        rw [List.take_length]
        refine own_all (fun x hx => ?_)
        obtain ⟨j, hj⟩ := List.getElem?_of_mem hx
        exact HNO.out j (List.getElem?_eq_some_iff.1 hj).1 x hj
      obtain ⟨⟨r0, r1⟩, r2, r3⟩ := blk2 HRES.out
      have HS2 := Lib.hid (set2 HRES.out (b0 := .int .i64 p.loc) (b1 := .slice ao p.path.length co))
      go_wp2
      refine bodyPost_ret (results_cellB rfl _ (w.heap.size + 1) 47 [.int .i64 p.loc, .slice ao p.path.length co] _ rfl HS2.out.1 Try.underlying47 rfl Try.sizePlace) rfl ?_
      exact FIN.out HE.out

end Go.Proofs.Ytilipeigjkmldaa

namespace Go.Proofs.Ytilipeigjkmldaa
open Go.RowKit

theorem frF_size {ops : Array Oper} {L : Nat → Bool} {V : Nat → Value} : ∀ (is : List Nat) (a : Act), (frF ops L V is a).tmps.size = a.tmps.size
  | [], _ => rfl
  | i :: r, a => by
    simp only [frF]
    rw [frF_size r]
    split
    · exact put_size _ _ _
    · rfl
/- Each guard's operation comes first, and has a slot. -/
def gdD (md : Region.Mode) (ops : Array Oper) : Bool := (List.range ops.size).all fun i => match ops[i]? with
  | some o => (match o.guard with
    | none => true
    | some (j, _) => (depsD md o).contains j && (dstO ops j).isSome)
  | none => true

section
variable {P : Program} {md : Region.Mode} {ops : Array Oper} {Q : Exit → Act → World → Prop} {a0 : Act} {n : Nat} {J : (Nat → Bool) → (Nat → Value) → World → Prop}

/- What is owed of an operation: that it goes well; or, where its guard says no, that nothing is asked of it. -/
def GAct (P : Program) (Q : Exit → Act → World → Prop) (J : (Nat → Bool) → (Nat → Value) → World → Prop) (L : Nat → Bool) (V : Nat → Value) (w : World) (a : Act) (i : Nat) (o : Oper) : Prop :=
  match o.guard with
  | none => o.wp P a w (fun a' w' => ∃ v, a' = a.put o.dst v ∧ J (updL L i) (updV V i v) w') Q
  | some (j, want) => (V j = .bool want ∧ o.wp P a w (fun a' w' => ∃ v, a' = a.put o.dst v ∧ J (updL L i) (updV V i v) w') Q) ∨ (V j ≠ .bool want ∧ J (updL L i) (updV V i undef) w)
def GSteps (P : Program) (md : Region.Mode) (ops : Array Oper) (Q : Exit → Act → World → Prop) (a0 : Act) (n : Nat) (J : (Nat → Bool) → (Nat → Value) → World → Prop) : Nat → List Oper → Prop
  | _, [] => True
  | i, o :: r => (∀ (L : Nat → Bool) (V : Nat → Value) (w : World) (a : Act), (∀ j k, dstO ops j = some k → L j = true → a.tmps[k]?.getD undef = V j) → (∀ k, oldD ops (List.range n) k = true → a.tmps[k]?.getD undef = a0.tmps[k]?.getD undef) →
      L i = false → (∀ j, (depsD md o).contains j = true → L j = true) → J L V w → GAct P Q J L V w a i o) ∧ GSteps P md ops Q a0 n J (i + 1) r
theorem GSteps.get : ∀ (l : List Oper) (i k : Nat) (o : Oper), GSteps P md ops Q a0 n J k l → l[i]? = some o →
    ∀ (L : Nat → Bool) (V : Nat → Value) (w : World) (a : Act), (∀ j k, dstO ops j = some k → L j = true → a.tmps[k]?.getD undef = V j) → (∀ k, oldD ops (List.range n) k = true → a.tmps[k]?.getD undef = a0.tmps[k]?.getD undef) →
      L (k + i) = false → (∀ j, (depsD md o).contains j = true → L j = true) → J L V w → GAct P Q J L V w a (k + i) o
  | [], i, k, o, _, h => by simp at h
  | x :: r, 0, k, o, hs, h => by
    simp at h; subst h
    exact hs.1
  | x :: r, i + 1, k, o, hs, h => by
    have := GSteps.get r i (k + 1) o hs.2 (by simpa using h)
    rwa [Nat.add_assoc, Nat.add_comm 1 i] at this

theorem wpAny_relyG (hn : ops.size = n) (hd : apartD ops (List.range n) = true) (hb : backD md ops = true) (hr : roomD ops (List.range n) a0.tmps.size = true) (hg : gdD md ops = true)
    (hs : GSteps P md ops Q a0 n J 0 ops.toList) (hdone : ∀ L V w, (∀ i, i < n → L i = true) → J L V w → Q .normal (putF ops V (List.range n) a0) w) :
    ∀ (fuel : Nat) (listed : Array Bool) (L : Nat → Bool) (V : Nat → Value) (w : World), listed.size = n → (∀ i, i < n → L i = listed.getD i true) → leftF listed ≤ fuel → J L V w →
      wpAny P md ops Q fuel listed (frF ops L V (List.range n) a0) w := by
  have hall : ∀ (listed : Array Bool) (L : Nat → Bool) (V : Nat → Value) (w : World), (∀ i, i < n → L i = listed.getD i true) → (∀ i, listed.getD i true = true) → J L V w → Q .normal (frF ops L V (List.range n) a0) w := by
    intro listed L V w hL h hJ
    rw [frF_all _ _ (fun i hi => by rw [hL i (List.mem_range.1 hi), h i])]
    exact hdone L V w (fun i hi => by rw [hL i hi, h i]) hJ
  have hmono : ∀ (i : Nat) (o : Oper), ops[i]? = some o → ∀ e ∈ o.after, Region.binds md e = true → e.on < i := by
    intro i o ho e he hbe
    have hi : i < ops.size := (Array.getElem?_eq_some_iff.1 ho).1
    have h := List.all_eq_true.1 hb i (List.mem_range.2 hi)
    simp only [ho] at h
    have h2 := Array.all_eq_true_iff_forall_mem.1 h e he
    simpa [hbe] using h2
  intro fuel
  induction fuel with
  | zero =>
    intro listed L V w hsz hL hc hJ
    have h0 := leftF_zero (Nat.le_zero.1 hc)
    refine ⟨List.eq_nil_iff_forall_not_mem.2 (fun i hi => ?_), hall listed L V w hL h0 hJ⟩
    have := (mem_ready.1 hi).1
    rw [h0 i] at this; cases this
  | succ fuel ih =>
    intro listed L V w hsz hL hc hJ
    refine ⟨fun hnil => ?_, fun i hi => ?_⟩
    · refine hall listed L V w hL (fun i => ?_) hJ
      induction i using Nat.strongRecOn with
      | ind i ihi =>
        cases hlt : listed.getD i true with
        | true => rfl
        | false =>
          have hi : i < listed.size := by
            rcases Nat.lt_or_ge i listed.size with h | h
            · exact h
            · rw [Array.getD_eq_getD_getElem?, Array.getElem?_eq_none h] at hlt; cases hlt
          have hmem : i ∈ Region.ready md ops listed := by
            refine mem_ready.2 ⟨hlt, ops[i]'(by omega), Array.getElem?_eq_getElem (by omega), fun e he hbe => ?_⟩
            have h1 := hmono i _ (Array.getElem?_eq_getElem (by omega)) e he hbe
            have h2 := ihi e.on h1
            rw [Array.getD_eq_getD_getElem?] at h2 ⊢
            rw [Array.getElem?_eq_getElem (show e.on < listed.size by omega)] at h2 ⊢
            simpa using h2
          rw [hnil] at hmem; cases hmem
    · obtain ⟨h1, o, ho, h2⟩ := mem_ready.1 hi
      have hin : i < n := by rw [← hn]; exact (Array.getElem?_eq_some_iff.1 ho).1
      have hLi : L i = false := by rw [hL i hin]; exact h1
      have hap : ∀ j, j ∈ List.range n → i ≠ j → ∀ d, dstO ops j = some d → dstO ops i ≠ some d := fun j hj hne d h3 => apartD_out hd hj (List.mem_range.2 hin) (Ne.symm hne) d h3
      have hev : ∀ j k, dstO ops j = some k → L j = true → (frF ops L V (List.range n) a0).tmps[k]?.getD undef = V j ∧ k < a0.tmps.size := (fun j k hjk hLj => by
          have hjn : j < n := by
            rw [← hn]
            rcases Nat.lt_or_ge j ops.size with h | h
            · exact h
            · simp [dstO, Array.getElem?_eq_none h] at hjk
          have hk : k < a0.tmps.size := by
            have := List.all_eq_true.1 hr j (List.mem_range.2 hjn)
            simp only [hjk] at this
            simpa using this
          rw [← evalTmp]
          exact ⟨frF_eval hjk hLj _ _ List.nodup_range (List.mem_range.2 hjn) (fun m hm hne => apartD_out hd (List.mem_range.2 hjn) hm hne k hjk) hk, hk⟩)
      have hdep : ∀ j, (depsD md o).contains j = true → L j = true := (fun j hj => by
          have hj' : j ∈ depsD md o := by simpa using hj
          obtain ⟨e, he, rfl⟩ := List.mem_map.1 hj'
          obtain ⟨he1, he2⟩ := List.mem_filter.1 he
          have h3 := h2 e (by simpa using he1) he2
          have h4 := hmono i o ho e (by simpa using he1) he2
          rw [hL e.on (by omega)]
          rw [Array.getD_eq_getD_getElem?] at h3 ⊢
          rw [Array.getElem?_eq_getElem (show e.on < listed.size by omega)] at h3 ⊢
          simpa using h3)
      have hob := GSteps.get ops.toList i 0 o hs (by simpa using ho) L V w (frF ops L V (List.range n) a0) (fun j k h1 h2 => (hev j k h1 h2).1)
        (fun k hk => by
          rw [← evalTmp, ← evalTmp]
          exact frF_old _ _ (fun j hj e => by
          have := List.all_eq_true.1 hk j hj
          simp [e] at this))
        (by rw [Nat.zero_add]; exact hLi)
        hdep hJ
      rw [Nat.zero_add] at hob
      have hdst : o.dst = dstO ops i := by simp [dstO, ho]
      have hnext : ∀ (v : Value) (w' : World), J (updL L i) (updV V i v) w' → wpAny P md ops Q fuel (listed.setIfInBounds i true) ((frF ops L V (List.range n) a0).put o.dst v) w' := by
        intro v w' hJ'
        rw [hdst, frF_step hLi _ _ List.nodup_range (List.mem_range.2 hin) hap]
        refine ih (listed.setIfInBounds i true) _ _ w' (by simp [hsz]) (fun j hj => ?_) (by have := leftF_set listed i h1; omega) hJ'
        unfold updL
        by_cases e : j = i
        · subst e
          rw [if_pos rfl, Array.getD_eq_getD_getElem?, Array.getElem?_setIfInBounds_self_of_lt (by omega)]; rfl
        · rw [if_neg e, hL j hj, Array.getD_eq_getD_getElem?, Array.getD_eq_getD_getElem?, Array.getElem?_setIfInBounds_ne (Ne.symm e)]
      unfold wpOp
      simp only [ho]
      unfold GAct at hob
      cases hgo : o.guard with
      | none =>
        rw [hgo] at hob
        have hw : Region.wanted o (yielded ops (frF ops L V (List.range n) a0).tmps) = true := by simp [Region.wanted, hgo]
        rw [if_pos hw]
        refine .inl (Oper.wp_mono ?_ hob)
        rintro a' w' ⟨v, rfl, hJ'⟩
        exact hnext v w' hJ'
      | some gw =>
        obtain ⟨j, want⟩ := gw
        rw [hgo] at hob
        have hgd := List.all_eq_true.1 hg i (List.mem_range.2 (by omega))
        simp only [ho, hgo, Bool.and_eq_true] at hgd
        have hLj := hdep j hgd.1
        obtain ⟨k, hk⟩ := Option.isSome_iff_exists.1 hgd.2
        obtain ⟨hv, hks⟩ := hev j k hk hLj
        have h3 : (ops[j]?).bind (·.dst) = some k := hk
        have h4 : (frF ops L V (List.range n) a0).tmps[k]? = some (V j) := by
          have hsz2 : k < (frF ops L V (List.range n) a0).tmps.size := by rw [frF_size]; exact hks
          rw [Array.getElem?_eq_getElem hsz2] at hv ⊢
          rw [← hv]; rfl
        have hyl : yielded ops (frF ops L V (List.range n) a0).tmps j = match V j with | .bool b => some b | _ => none := by
          unfold yielded
          rw [h3, Option.bind_some, h4]
          cases V j <;> rfl
        rcases hob with ⟨hb, hob⟩ | ⟨hb, hJ'⟩
        · have hw : Region.wanted o (yielded ops (frF ops L V (List.range n) a0).tmps) = true := by simp [Region.wanted, hgo, hyl, hb]
          rw [if_pos hw]
          refine .inl (Oper.wp_mono ?_ hob)
          rintro a' w' ⟨v, rfl, hJ'⟩
          exact hnext v w' hJ'
        · have hw : ¬ Region.wanted o (yielded ops (frF ops L V (List.range n) a0).tmps) = true := by
            simp only [Region.wanted, hgo, hyl]
            intro h5
            refine hb ?_
            cases e : V j with
            | bool b => rw [e] at h5; have h6 : some b = some want := by simpa using h5
                        cases h6; rfl
            | _ => rw [e] at h5; simp at h5
          rw [if_neg hw]
          exact hnext undef w hJ'

/- A region that draws its order. -/
theorem wp_region_relyG {id : Nat} {w : World} (hm : P.follows .mixedOrders = true) (J : (Nat → Bool) → (Nat → Value) → World → Prop) (n : Nat) (hn : ops.size = n) (hd : apartD ops (List.range n) = true) (hb : backD .any ops = true)
    (hr : roomD ops (List.range n) a0.tmps.size = true) (hg : gdD .any ops = true) (h0 : J (fun _ => false) (fun _ => undef) w.drew)
    (hs : GSteps P .any ops Q a0 n J 0 ops.toList) (hdone : ∀ L V w, (∀ i, i < n → L i = true) → J L V w → Q .normal (putF ops V (List.range n) a0) w) : (Code.region id ops true).wp P Q a0 w := by
  refine wp_region_any hm ?_
  have h := wpAny_relyG (P := P) hn hd hb hr hg hs hdone ops.size (Array.replicate ops.size false) (fun _ => false) (fun _ => undef) w.drew (by simp [hn])
    (fun i hi => by rw [Array.getD_eq_getD_getElem?, Array.getElem?_replicate, if_pos (by omega)]; rfl) (by
      unfold leftF
      simp only [Array.toList_replicate]
      exact Nat.le_trans List.countP_le_length (by simp)) h0
  rw [frF_none _ _ (fun _ => rfl)] at h
  exact h
end


theorem undef_ne (b : Bool) : undef ≠ .bool b := by
  intro h; unfold undef at h; cases h

def Det (vals : List Value) (w : World) (L : Nat → Bool) (V : Nat → Value) (X : World) : Prop := (∀ (i : Nat) v, vals[i]? = some v → L i = true → V i = v) ∧ Step (fun _ => False) w X
theorem Det.zero {vals : List Value} {w X : World} {V : Nat → Value} (h : Step (fun _ => False) w X) : Det vals w (fun _ => false) V X := ⟨fun _ _ _ h => (nomatch h), h⟩
theorem Det.up {vals : List Value} {w X : World} {L : Nat → Bool} {V : Nat → Value} (h : Det vals w L V X) (i : Nat) {v : Value} (hv : vals[i]? = some v) : Det vals w (updL L i) (updV V i v) X := by
  refine ⟨fun j u hu hL => ?_, h.2⟩
  unfold updL updV at *
  by_cases e : j = i
  · subst e
    rw [hv] at hu
    cases hu
    rw [if_pos rfl]
  · rw [if_neg e] at hL ⊢
    exact h.1 j u hu hL
theorem Det.step {vals : List Value} {w X X' : World} {L : Nat → Bool} {V : Nat → Value} (h : Det vals w L V X) (hs : Step (fun _ => False) X X') : Det vals w L V X' := ⟨h.1, h.2.trans hs⟩

end Go.Proofs.Ytilipeigjkmldaa

namespace Go.Proofs.Ytilipeigjkmldaa
open Go.RowKit

theorem begF_lt {q o : Pl} (h : begF q o = true) : (!begF o q) = decide (q.path.length < o.path.length) := by
  unfold begF at h ⊢
  simp only [Bool.and_eq_true, decide_eq_true_eq] at h
  obtain ⟨h1, h2, h3⟩ := h
  by_cases hlt : q.path.length < o.path.length
  · rw [decide_eq_true hlt, decide_eq_false (p := o.path.length ≤ q.path.length) (by omega)]
    simp
  · have he : o.path.length = q.path.length := by omega
    have hp : o.path = q.path := by
      rw [h3, ← he, List.take_length]
    rw [decide_eq_false hlt]
    simp [h1, hp]
theorem acc_kinds {n : Nat} {x : Ins} : ∀ a ∈ accI n x, 1 ≤ a.kind ∧ a.kind ≤ 6 := by
  intro a ha
  have hop : ∀ o : Opd, a ∈ opAcc o → 1 ≤ a.kind ∧ a.kind ≤ 6 := by
    intro o ho
    unfold opAcc at ho
    split at ho
    · rw [List.mem_singleton.1 ho]; constructor <;> simp
    · split at ho
      · rw [List.mem_singleton.1 ho]; constructor <;> simp
      · cases ho
  unfold accI at ha
  split at ha
  · rw [List.mem_singleton.1 ha]; constructor <;> simp
  split at ha
  · rw [List.mem_singleton.1 ha]; constructor <;> simp
  split at ha
  · rcases List.mem_append.1 ha with h | h
    · obtain ⟨o, _, ho⟩ := List.mem_flatMap.1 h
      exact hop o ho
    · rcases List.mem_append.1 h with h | h
      · split at h
        · rw [List.mem_singleton.1 h]
          split <;> (constructor <;> simp)
        · cases h
      · rw [List.mem_singleton.1 h]; constructor <;> simp
  split at ha
  · exact hop _ ha
  split at ha
  · rcases List.mem_cons.1 ha with h | h
    · rw [h]; constructor <;> simp
    · obtain ⟨k, _, rfl⟩ := List.mem_map.1 h; constructor <;> simp
  · cases ha
theorem accB_kinds {b : Bod} {i : Nat} {a : Acc} (h : a ∈ accB b i) : 1 ≤ a.kind ∧ a.kind ≤ 6 := by
  unfold accB at h
  cases hx : b.code[i]? with
  | none => rw [hx] at h; cases h
  | some x => rw [hx] at h; exact acc_kinds a h

set_option maxRecDepth 100000 in
set_option maxHeartbeats 4000000 in
theorem rbad_any (B : Nat) (a : Acc) (cs : List Value) (l : List Pl) (v : Value) (w : World) (ha : AcAt w B a cs) (hl : PlsAt w B l [v]) (hk : 1 ≤ a.kind ∧ a.kind ≤ 6) (hpl : a.pl.path.length ≤ 1000000) (hll : l.length ≤ 1000000) (hB : B ≤ w.heap.size) :
    Calls Try.prog 68 #[.agg cs.toArray, v] w (IsBool (l.any (badOne a)) w) := by
  obtain ⟨v', xs, hv, hel, hrl⟩ := hl
  cases hv
  have HEL := Lib.hid hel
  have HRL := Lib.hid hrl
  obtain ⟨vo, vc, rfl, -⟩ := id hrl
  obtain ⟨va, rfl, hrow⟩ := ha
  have HROW := Lib.hid hrow
  obtain ⟨ap, cp, rfl, -⟩ := hrow
  obtain ⟨w1, hw1⟩ : ∃ w1 : World, w1 = w.alloc (.cells #[.int .i64 a.pl.loc, .slice ap a.pl.path.length cp, .int .i64 a.kind] 90) := ⟨_, rfl⟩
  have HST : Hid (Step (fun _ => False) w w1) := by show Step _ _ _; rw [hw1]; exact (Step.refl _ _).alloc _
  have HB1 : Hid (w1.heap[w.heap.size]? = some (.cells #[.int .i64 a.pl.loc, .slice ap a.pl.path.length cp, .int .i64 a.kind] 90 (0, 0))) := by show _ = _; rw [hw1]; exact blk_new w _
  have HW1 := Lib.hid hw1
  have HKB : Hid (∀ X, Step (fun _ => False) w1 X → X.cell? ⟨w.heap.size, 0, none⟩ = some (.int .i64 a.pl.loc) ∧ X.cell? ⟨w.heap.size, 1, none⟩ = some (.slice ap a.pl.path.length cp) ∧ X.cell? ⟨w.heap.size, 2, none⟩ = some (.int .i64 a.kind)) := by
    show ∀ X, _
    intro X hX
    have hb := hX.keep HB1.out (fun h => h)
    exact ⟨blk_cell hb 0 _ rfl, blk_cell hb 1 _ rfl, blk_cell hb 2 _ rfl⟩
  have HPA : Hid (∀ X, Step (fun _ => False) w1 X → PlAt X B a.pl [.int .i64 a.pl.loc, .slice ap a.pl.path.length cp]) := by
    show ∀ X, _
    intro X hX
    exact ⟨_, rfl, HROW.out.step (HST.out.trans hX) (fun _ _ h => h)⟩
  have HD : Hid (∀ X, Step (fun _ => False) w1 X → Calls Try.prog 87 #[.agg #[.int .i64 a.pl.loc, .slice ap a.pl.path.length cp]] X (IsBool (dirF a.pl) X)) := by
    show ∀ X, _
    intro X hX
    exact rdirect_any a.pl _ B X (HPA.out X hX)
  have HOWN : Hid (Calls Try.prog 85 #[.agg #[.int .i64 a.pl.loc, .slice ap a.pl.path.length cp]] w1 (OwnPost a.pl w1)) := rown_any a.pl _ B w1 (HPA.out w1 (Step.refl _ _)) hpl
  have HBS : Hid (B ≤ w1.heap.size) := Nat.le_trans hB HST.out.size
  obtain ⟨d0, d1, d2⟩ := HKB.out w1 (Step.refl _ _)
  clear hw1 hel hrl hB
  obtain ⟨o, ho'⟩ : ∃ o, o = ownF a.pl := ⟨_, rfl⟩
  have HOE := Lib.hid ho'
  obtain ⟨dr, hdr⟩ : ∃ dr, dr = dirF a.pl := ⟨_, rfl⟩
  have HDR := Lib.hid hdr
  rw [← hdr] at HD
  clear hdr ho'
  obtain ⟨r, hr⟩ : ∃ r, r = l.any (badOne a) := ⟨_, rfl⟩
  have HR : Hid (r = l.any (badOne a)) := hr
  rw [← hr]
  clear hr
  obtain ⟨x1, e1⟩ : ∃ x, (a.kind == 1) = x := ⟨_, rfl⟩
  obtain ⟨x2, e2⟩ : ∃ x, (a.kind == 2) = x := ⟨_, rfl⟩
  obtain ⟨x3, e3⟩ : ∃ x, (a.kind == 3) = x := ⟨_, rfl⟩
  obtain ⟨x4, e4⟩ : ∃ x, (a.kind == 4) = x := ⟨_, rfl⟩
  have HBO : Hid (∀ q, badOne a q = if x1 || (x2 || x3) then (begF q o || begF o q) else if x4 then (if dr then begF q o && !begF o q else begF q o || begF o q) else false) := by
    show ∀ q, _
    intro q
    unfold badOne meetF
    rw [← e1, ← e2, ← e3, ← e4, HDR.out, HOE.out]
    obtain ⟨pl, kd⟩ := a
    simp only at hk ⊢
    have : kd = 1 ∨ kd = 2 ∨ kd = 3 ∨ kd = 4 ∨ kd = 5 ∨ kd = 6 := by omega
    rcases this with rfl | rfl | rfl | rfl | rfl | rfl
    · simp
    · simp
    · simp
    · cases hd : dirF pl with
      | false => simp
      | true =>
        cases hb : begF q (ownF pl) with
        | false => simp
        | true => rw [begF_lt hb]; simp
    · simp
    · simp
  go_enter Try.func68, Try.ntmps68
  go_upto_region 1 with fail
  rw [← HW1.out]
  go_wp2_with fail
  refine HOWN.out.mono ?_
  rintro e w2 ⟨⟨u, rfl, ho⟩, s2⟩
  rw [← HOE.out] at ho
  rw [← HOE.out]
  have hou := Row.of_owns (B := w2.heap.size) ho (Nat.le_refl _)
  have HOU := Lib.hid hou
  obtain ⟨au, cu, rfl⟩ := owns_slice ho
  have HST3 : Hid (Step (fun _ => False) w1 (w2.alloc (.cells #[.int .i64 o.loc, .slice au o.path.length cu] 47))) := s2.alloc _
  have HOB := Lib.hid (blk_new w2 (.cells #[.int .i64 o.loc, .slice au o.path.length cu] 47))
  clear d0 d1 d2 s2 hou ho
  go_upto_region 2 with fail
  obtain ⟨w3, hw3⟩ : ∃ w3 : World, w3 = w2.alloc (.cells #[.int .i64 o.loc, .slice au o.path.length cu] 47) := ⟨_, rfl⟩
  rw [← hw3] at HST3 HOB
  have HST23 : Hid (Step (fun _ => False) w2 w3) := by show Step _ _ _; rw [hw3]; exact (Step.refl _ _).alloc _
  have HSTW : Hid (Step (fun _ => False) w w3) := HST.out.trans HST3.out
  rw [← hw3]
  clear hw3
  have HKO : Hid (∀ X, Step (fun _ => False) w3 X → X.cell? ⟨w2.heap.size, 0, none⟩ = some (.int .i64 o.loc) ∧ X.cell? ⟨w2.heap.size, 1, none⟩ = some (.slice au o.path.length cu)) := by
    show ∀ X, _
    intro X hX
    have hb := hX.keep HOB.out (fun h => h)
    exact ⟨blk_cell hb 0 _ rfl, blk_cell hb 1 _ rfl⟩
  have HPO : Hid (∀ X, Step (fun _ => False) w3 X → PlAt X w3.heap.size o [.int .i64 o.loc, .slice au o.path.length cu]) := by
    show ∀ X, _
    intro X hX
    exact ⟨_, rfl, (HOU.out.step (HST23.out.trans hX) (fun _ _ h => h)).mono HST23.out.size⟩
  go_wp2_with fail
  go_loopg [6] l.length (fun gg s6 wr => ∃ k : Nat, s6 = .int .i64 k ∧ k ≤ l.length ∧ l.length - k ≤ gg ∧ (∀ j, j < k → ∀ y, l[j]? = some y → badOne a y = false) ∧ Step (fun _ => False) w3 wr)
  case atStart => exact ⟨0, rfl, Nat.zero_le _, by omega, (fun j hj => absurd hj (Nat.not_lt_zero _)), Step.refl _ _⟩
  case round =>
    obtain ⟨k, rfl, hkl, hgg, hno, hst⟩ := hrel
    have HNO := Lib.hid hno
    have HSTR := Lib.hid hst
    clear hno hst
    by_cases hlt : k < l.length
    · obtain ⟨q, hq⟩ : ∃ q, l[k]? = some q := ⟨l[k], List.getElem?_eq_getElem hlt⟩
      have HQ := Lib.hid hq
      have hsw : Step (fun _ => False) w wr := HSTW.out.trans HSTR.out
      obtain ⟨a', c', hva, -, -, -, hra⟩ := HRL.out.step hsw (fun _ _ h => h)
      obtain ⟨rfl, -, rfl⟩ : vo = a' ∧ True ∧ vc = c' := by cases hva; exact ⟨rfl, trivial, rfl⟩
      obtain ⟨gS, oS, rfl, hgS, -, hcS⟩ := hra (by omega)
      obtain ⟨cq, hat, f⟩ := Each.cells 2 PlAt.len (Each.mono (PlAt.step hsw (fun _ _ h => h)) _ _ HEL.out) hq hcS
      have HAT := Lib.hid (PlAt.mono (Nat.le_trans HBS.out HST3.out.size) _ _ hat)
      obtain ⟨vv, rfl, hqr⟩ := hat
      obtain ⟨aq, cqq, rfl, -⟩ := hqr
      have HQ01 : Hid (∀ X, Step (fun _ => False) wr X → X.cell? ⟨gS, oS + k * 2, none⟩ = some (.int .i64 q.loc) ∧ X.cell? ⟨gS, oS + k * 2 + 1, none⟩ = some (.slice aq q.path.length cqq)) := by
        show ∀ X, _
        intro X hX
        have f0 := f 0 _ rfl
        have f1 := f 1 _ rfl
        rw [Nat.add_zero] at f0
        exact ⟨hX.cell f0 (fun h => h), hX.cell f1 (fun h => h)⟩
      have HC1 : Hid (∀ X, Step (fun _ => False) wr X → Calls Try.prog 86 #[.agg #[.int .i64 q.loc, .slice aq q.path.length cqq], .agg #[.int .i64 o.loc, .slice au o.path.length cu]] X (IsBool (begF q o) X)) := by
        show ∀ X, _
        intro X hX
        exact rbegins_any q o [.int .i64 q.loc, .slice aq q.path.length cqq] [.int .i64 o.loc, .slice au o.path.length cu] w3.heap.size X (PlAt.step hX (fun _ _ h => h) _ _ HAT.out) (HPO.out X (HSTR.out.trans hX))
      have HC2 : Hid (∀ X, Step (fun _ => False) wr X → Calls Try.prog 86 #[.agg #[.int .i64 o.loc, .slice au o.path.length cu], .agg #[.int .i64 q.loc, .slice aq q.path.length cqq]] X (IsBool (begF o q) X)) := by
        show ∀ X, _
        intro X hX
        exact rbegins_any o q [.int .i64 o.loc, .slice au o.path.length cu] [.int .i64 q.loc, .slice aq q.path.length cqq] w3.heap.size X (HPO.out X (HSTR.out.trans hX)) (PlAt.step hX (fun _ _ h => h) _ _ HAT.out)
      have HGO : Hid (badOne a q = false → ∀ j, j < k + 1 → ∀ y, l[j]? = some y → badOne a y = false) := by
        show _ → ∀ j, _
        intro h j hj y hy
        rcases Nat.lt_succ_iff_lt_or_eq.1 hj with h1 | rfl
        · exact HNO.out j h1 y hy
        · rw [HQ.out] at hy; cases hy; exact h
      have HYES : Hid (badOne a q = true → r = true) := by
        show _ → _
        intro h
        rw [HR.out]
        exact List.any_eq_true.2 ⟨q, List.mem_of_getElem? HQ.out, h⟩
      have HBQ := Lib.hid (HBO.out q)
      obtain ⟨bi, hbi⟩ : ∃ bi, bi = begF q o := ⟨_, rfl⟩
      obtain ⟨bo, hbo⟩ : ∃ bo, bo = begF o q := ⟨_, rfl⟩
      rw [← hbi, ← hbo] at HBQ
      rw [← hbi] at HC1
      rw [← hbo] at HC2
      have hi0 : (0 : Int) ≤ (k : Int) := by omega
      have hi1 : (k : Int) < (l.length : Int) := by omega
      clear hcS hra hva f hq hsw hbi hbo
      go_upto_region 5 with fail
      go_cut [7, 8] (fun s7 s8 wx => s7 = .bool bi ∧ s8 = .bool bo ∧ Step (fun _ => False) wr wx)
      case first =>
        refine wp_region_rely (by kernel_rfl) (Det [.slice (some ⟨gS, oS, none⟩) l.length vc, .int .i64 (k : Int), .pointer (some ⟨gS, oS + k * 2, none⟩), .agg #[.int .i64 q.loc, .slice aq q.path.length cqq], .agg #[.int .i64 o.loc, .slice au o.path.length cu], .bool bi, .agg #[.int .i64 o.loc, .slice au o.path.length cu], .slice (some ⟨gS, oS, none⟩) l.length vc, .int .i64 (k : Int), .pointer (some ⟨gS, oS + k * 2, none⟩), .agg #[.int .i64 q.loc, .slice aq q.path.length cqq], .bool bo, .bool bi, .bool bo] wr) 14 rfl (by kernel_rfl) (by kernel_rfl) (by kernel_rfl) (by kernel_rfl) ?h0 ?hs ?hdone
        case h0 => exact Det.zero ((Step.refl _ _).drew)
        case hs =>
          refine ⟨?_, ?_, ?_, ?_, ?_, ?_, ?_, ?_, ?_, ?_, ?_, ?_, ?_, ?_, trivial⟩
          · intro L V X a ev evo hL hdep hJ
            have o1 := evo 1 rfl
            change a.tmps[1]?.getD undef = .slice (some ⟨gS, oS, none⟩) l.length vc at o1
            go_simp
            exact ⟨_, rfl, hJ.up 0 rfl⟩
          · intro L V X a ev evo hL hdep hJ
            have o6 := evo 6 rfl
            change a.tmps[6]?.getD undef = .int .i64 (k : Int) at o6
            go_simp
            exact ⟨_, rfl, hJ.up 1 rfl⟩
          · intro L V X a ev evo hL hdep hJ
            have e18 := (ev 0 18 rfl (hdep 0 rfl)).trans (hJ.1 0 _ rfl (hdep 0 rfl))
            have e19 := (ev 1 19 rfl (hdep 1 rfl)).trans (hJ.1 1 _ rfl (hdep 1 rfl))
            go_simp
            exact ⟨_, rfl, hJ.up 2 rfl⟩
          · intro L V X a ev evo hL hdep hJ
            have e20 := (ev 2 20 rfl (hdep 2 rfl)).trans (hJ.1 2 _ rfl (hdep 2 rfl))
            obtain ⟨q0, q1⟩ := HQ01.out X hJ.2
            go_simp
            exact ⟨_, rfl, hJ.up 3 rfl⟩
          · intro L V X a ev evo hL hdep hJ
            have o5 := evo 5 rfl
            change a.tmps[5]?.getD undef = .pointer (some ⟨w2.heap.size, 0, none⟩) at o5
            obtain ⟨o0, o1⟩ := HKO.out X (HSTR.out.trans hJ.2)
            go_simp
            exact ⟨_, rfl, hJ.up 4 rfl⟩
          · intro L V X a ev evo hL hdep hJ
            have e21 := (ev 3 21 rfl (hdep 3 rfl)).trans (hJ.1 3 _ rfl (hdep 3 rfl))
            have e22 := (ev 4 22 rfl (hdep 4 rfl)).trans (hJ.1 4 _ rfl (hdep 4 rfl))
            go_simp
            refine (HC1.out X hJ.2).mono ?_
            rintro e wq ⟨rfl, sq⟩
            exact ⟨_, rfl, (hJ.step sq).up 5 rfl⟩
          · intro L V X a ev evo hL hdep hJ
            have o5 := evo 5 rfl
            change a.tmps[5]?.getD undef = .pointer (some ⟨w2.heap.size, 0, none⟩) at o5
            obtain ⟨o0, o1⟩ := HKO.out X (HSTR.out.trans hJ.2)
            go_simp
            exact ⟨_, rfl, hJ.up 6 rfl⟩
          · intro L V X a ev evo hL hdep hJ
            have o1 := evo 1 rfl
            change a.tmps[1]?.getD undef = .slice (some ⟨gS, oS, none⟩) l.length vc at o1
            go_simp
            exact ⟨_, rfl, hJ.up 7 rfl⟩
          · intro L V X a ev evo hL hdep hJ
            have o6 := evo 6 rfl
            change a.tmps[6]?.getD undef = .int .i64 (k : Int) at o6
            go_simp
            exact ⟨_, rfl, hJ.up 8 rfl⟩
          · intro L V X a ev evo hL hdep hJ
            have e25 := (ev 7 25 rfl (hdep 7 rfl)).trans (hJ.1 7 _ rfl (hdep 7 rfl))
            have e26 := (ev 8 26 rfl (hdep 8 rfl)).trans (hJ.1 8 _ rfl (hdep 8 rfl))
            go_simp
            exact ⟨_, rfl, hJ.up 9 rfl⟩
          · intro L V X a ev evo hL hdep hJ
            have e27 := (ev 9 27 rfl (hdep 9 rfl)).trans (hJ.1 9 _ rfl (hdep 9 rfl))
            obtain ⟨q0, q1⟩ := HQ01.out X hJ.2
            go_simp
            exact ⟨_, rfl, hJ.up 10 rfl⟩
          · intro L V X a ev evo hL hdep hJ
            have e24 := (ev 6 24 rfl (hdep 6 rfl)).trans (hJ.1 6 _ rfl (hdep 6 rfl))
            have e28 := (ev 10 28 rfl (hdep 10 rfl)).trans (hJ.1 10 _ rfl (hdep 10 rfl))
            go_simp
            refine (HC2.out X hJ.2).mono ?_
            rintro e wq ⟨rfl, sq⟩
            exact ⟨_, rfl, (hJ.step sq).up 11 rfl⟩
          · intro L V X a ev evo hL hdep hJ
            have e23 := (ev 5 23 rfl (hdep 5 rfl)).trans (hJ.1 5 _ rfl (hdep 5 rfl))
            go_simp
            exact ⟨_, rfl, hJ.up 12 rfl⟩
          · intro L V X a ev evo hL hdep hJ
            have e29 := (ev 11 29 rfl (hdep 11 rfl)).trans (hJ.1 11 _ rfl (hdep 11 rfl))
            go_simp
            exact ⟨_, rfl, hJ.up 13 rfl⟩
        case hdone =>
          intro L V X hall hJ
          have h12 := hJ.1 12 _ rfl (hall 12 (by decide))
          have h13 := hJ.1 13 _ rfl (hall 13 (by decide))
          have HSTX := Lib.hid hJ.2
          rw [show List.range 14 = [0, 1, 2, 3, 4, 5, 6, 7, 8, 9, 10, 11, 12, 13] from rfl]
          simp only [putF, dstO, List.getElem?_toArray, List.getElem?_cons_zero, List.getElem?_cons_succ, Option.bind_some, Act.put, List.setIfInBounds_toArray, List.set_cons_zero, List.set_cons_succ, h12, h13]
          clear hJ h12 h13
          go_wp2_with fail
          go_meet
          case rel => exact ⟨rfl, rfl, HSTX.out⟩
      case rest =>
        obtain ⟨rfl, rfl, hst5⟩ := hcut
        obtain ⟨w5, rfl⟩ : ∃ w5 : World, w5 = wc := ⟨_, rfl⟩
        have HST5 := Lib.hid (HSTR.out.trans hst5)
        obtain ⟨d0, d1, d2⟩ := HKB.out w5 (HST3.out.trans HST5.out)
        clear hst5
        by_cases hx : (x1 || (x2 || x3)) = true
        · have HBM : Hid (badOne a q = (bi || bo)) := by show _ = _; rw [HBQ.out, if_pos hx]
          have hx3 : (x1 = true) ∨ (x1 = false ∧ x2 = true) ∨ (x1 = false ∧ x2 = false ∧ x3 = true) := by
            cases x1 <;> cases x2 <;> cases x3 <;> simp at hx ⊢
          clear hx
          rcases hx3 with rfl | ⟨rfl, rfl⟩ | ⟨rfl, rfl, rfl⟩
          all_goals (
            cases bi with
            | true =>
              have HF := Lib.hid (HYES.out HBM.out)
              go_wp2
              go_ret
              exact ⟨ret_bool HF.out.symm, HSTW.out.trans HST5.out⟩
            | false =>
              cases bo with
              | true =>
                have HF := Lib.hid (HYES.out HBM.out)
                go_wp2
                go_ret
                exact ⟨ret_bool HF.out.symm, HSTW.out.trans HST5.out⟩
              | false =>
                have HG2 := Lib.hid (HGO.out HBM.out)
                go_wp2
                go_roundg (gk - 1)
                case rel => exact ⟨k + 1, by go_num, hlt, by omega, HG2.out, HST5.out⟩
                case measure => omega)
        · obtain ⟨rfl, rfl, rfl⟩ : x1 = false ∧ x2 = false ∧ x3 = false := by
            cases x1 <;> cases x2 <;> cases x3 <;> simp at hx ⊢
          cases x4 with
          | false =>
            have HG2 := Lib.hid (HGO.out (by rw [HBQ.out]; rfl))
            clear hx
            go_wp2
            go_roundg (gk - 1)
            case rel => exact ⟨k + 1, by go_num, hlt, by omega, HG2.out, HST5.out⟩
            case measure => omega
          | true =>
            have HBM : Hid (badOne a q = (if dr then bi && !bo else bi || bo)) := by show _ = _; rw [HBQ.out]; rfl
            have HDX : Hid (∀ X, Step (fun _ => False) w3 X → Calls Try.prog 87 #[.agg #[.int .i64 a.pl.loc, .slice ap a.pl.path.length cp]] X (IsBool dr X)) := fun X hX => HD.out X (HST3.out.trans hX)
            clear hx
            go_upto_region 13 with fail
            go_cut [63] (fun s63 wx => s63 = .bool (badOne a q) ∧ Step (fun _ => False) w3 wx)
            case first =>
              go_wp2_with fail
              refine (HDX.out w5 HST5.out).mono ?_
              rintro e w6 ⟨rfl, s6⟩
              have HST6 := Lib.hid (HST5.out.trans s6)
              clear s6 d0 d1 d2
              obtain ⟨d0, d1, d2⟩ := HKB.out w6 (HST3.out.trans HST6.out)
              cases dr with
              | true =>
                cases bi with
                | true =>
                  cases bo with
                  | false =>
                    go_wp2_with fail
                    go_meet
                    case rel => exact ⟨by rw [HBM.out]; rfl, HST6.out⟩
                  | true =>
                    go_wp2_with fail
                    refine (HDX.out w6 HST6.out).mono ?_
                    rintro e w7 ⟨rfl, s7⟩
                    have HST7 := Lib.hid (HST6.out.trans s7)
                    clear s7
                    go_wp2_with fail
                    go_meet
                    case rel => exact ⟨by rw [HBM.out]; rfl, HST7.out⟩
                | false =>
                  go_wp2_with fail
                  refine (HDX.out w6 HST6.out).mono ?_
                  rintro e w7 ⟨rfl, s7⟩
                  have HST7 := Lib.hid (HST6.out.trans s7)
                  clear s7
                  go_wp2_with fail
                  go_meet
                  case rel => exact ⟨by rw [HBM.out]; rfl, HST7.out⟩
              | false =>
                go_wp2_with fail
                refine (HDX.out w6 HST6.out).mono ?_
                rintro e w7 ⟨rfl, s7⟩
                have HST7 := Lib.hid (HST6.out.trans s7)
                clear s7
                cases bi with
                | true =>
                  go_wp2_with fail
                  go_meet
                  case rel => exact ⟨by rw [HBM.out]; rfl, HST7.out⟩
                | false =>
                  go_wp2_with fail
                  go_meet
                  case rel => exact ⟨by rw [HBM.out]; rfl, HST7.out⟩
            case rest =>
              obtain ⟨rfl, hst6⟩ := hcut
              obtain ⟨w6, rfl⟩ : ∃ w6 : World, w6 = wc := ⟨_, rfl⟩
              have HST6 := Lib.hid hst6
              clear hst6 d0 d1 d2
              cases hb : badOne a q with
              | true =>
                have HF := Lib.hid (HYES.out hb)
                clear hb
                go_wp2
                go_ret
                exact ⟨ret_bool HF.out.symm, HSTW.out.trans HST6.out⟩
              | false =>
                have HG2 := Lib.hid (HGO.out hb)
                clear hb
                go_wp2
                go_roundg (gk - 1)
                case rel => exact ⟨k + 1, by go_num, hlt, by omega, HG2.out, HST6.out⟩
                case measure => omega
    · obtain rfl : k = l.length := by omega
      have HF : Hid (r = false) := by
        show _ = _
        rw [HR.out]
        cases e : l.any (badOne a) with
        | false => rfl
        | true =>
          obtain ⟨y, hy, he⟩ := List.any_eq_true.1 e
          obtain ⟨j, hj⟩ := List.getElem?_of_mem hy
          rw [HNO.out j (List.getElem?_eq_some_iff.1 hj).1 y hj] at he
          cases he
      go_wp2
      go_ret
      exact ⟨ret_bool HF.out.symm, HSTW.out.trans HSTR.out⟩

end Go.Proofs.Ytilipeigjkmldaa
