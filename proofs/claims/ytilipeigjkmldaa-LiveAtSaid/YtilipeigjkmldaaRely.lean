/- A region that draws its order, by rely: one obligation for each operation, whatever has come up ahead of it. -/
import Derived.Test.YtilipeigjkmldaaStoreB
import Derived.Orders
namespace Go.Proofs.Ytilipeigjkmldaa
open Go.RowKit

def dstO (ops : Array Oper) (i : Nat) : Option Tmp := (ops[i]?).bind (·.dst)
/- The frame when the operations of L have come up and have yielded V. -/
def frF (ops : Array Oper) (L : Nat → Bool) (V : Nat → Value) : List Nat → Act → Act
  | [], a => a
  | i :: r, a => frF ops L V r (if L i then a.put (dstO ops i) (V i) else a)
def putF (ops : Array Oper) (V : Nat → Value) : List Nat → Act → Act
  | [], a => a
  | i :: r, a => putF ops V r (a.put (dstO ops i) (V i))
def updL (L : Nat → Bool) (i : Nat) : Nat → Bool := fun j => if j = i then true else L j
def updV (V : Nat → Value) (i : Nat) (v : Value) : Nat → Value := fun j => if j = i then v else V j
def apartD (ops : Array Oper) (is : List Nat) : Bool := is.all fun i => is.all fun j => i == j || (dstO ops i).isNone || (dstO ops i != dstO ops j)
def backD (md : Region.Mode) (ops : Array Oper) : Bool := (List.range ops.size).all fun i => match ops[i]? with
  | some o => o.after.all fun e => !Region.binds md e || decide (e.on < i)
  | none => true
def roomD (ops : Array Oper) (is : List Nat) (n : Nat) : Bool := is.all fun i => match dstO ops i with
  | some d => decide (d < n)
  | none => true
def depsD (md : Region.Mode) (o : Oper) : List Nat := (o.after.toList.filter fun e => Region.binds md e).map (·.on)
def oldD (ops : Array Oper) (is : List Nat) (k : Nat) : Bool := is.all fun i => dstO ops i != some k

section
variable {ops : Array Oper} {L L' : Nat → Bool} {V V' : Nat → Value}
theorem apartD_out {is : List Nat} (h : apartD ops is = true) {i j : Nat} (hi : i ∈ is) (hj : j ∈ is) (hne : i ≠ j) : ∀ d, dstO ops i = some d → dstO ops j ≠ some d := by
  intro d h1 h2
  have h3 := List.all_eq_true.1 (List.all_eq_true.1 h i hi) j hj
  simp [h1, h2, hne] at h3
theorem frF_put {x : Option Tmp} {v : Value} : ∀ (is : List Nat) (a : Act), (∀ j ∈ is, ∀ d, dstO ops j = some d → x ≠ some d) → (frF ops L V is a).put x v = frF ops L V is (a.put x v)
  | [], _, _ => rfl
  | i :: r, a, h => by
    simp only [frF]
    rw [frF_put r _ (fun j hj => h j (List.mem_cons_of_mem _ hj))]
    congr 1
    split
    · exact Act.put_comm _ _ _ (h i (List.mem_cons_self ..))
    · rfl
theorem frF_congr : ∀ (is : List Nat) (a : Act), (∀ j ∈ is, L j = L' j ∧ V j = V' j) → frF ops L V is a = frF ops L' V' is a
  | [], _, _ => rfl
  | i :: r, a, h => by
    simp only [frF]
    rw [(h i (List.mem_cons_self ..)).1, (h i (List.mem_cons_self ..)).2]
    exact frF_congr r _ (fun j hj => h j (List.mem_cons_of_mem _ hj))
theorem frF_step {i : Nat} {v : Value} (hL : L i = false) : ∀ (is : List Nat) (a : Act), is.Nodup → i ∈ is → (∀ j ∈ is, i ≠ j → ∀ d, dstO ops j = some d → dstO ops i ≠ some d) → (frF ops L V is a).put (dstO ops i) v = frF ops (updL L i) (updV V i v) is a
  | [], _, _, hi, _ => nomatch hi
  | j :: r, a, hn, hi, hd => by
    obtain ⟨hj, hn⟩ := List.nodup_cons.1 hn
    by_cases e : j = i
    · subst e
      have h0 : updL L j j = true := by simp [updL]
      have h1 : updV V j v j = v := by simp [updV]
      have h2 : L j = false := hL
      simp only [frF]
      rw [h0, h1, h2]
      simp only [Bool.false_eq_true, if_false, if_true]
      rw [frF_put r a (fun k hk => hd k (List.mem_cons_of_mem _ hk) (fun e => hj (e ▸ hk)))]
      exact frF_congr r _ (fun k hk => by
        have : k ≠ j := fun e => hj (e ▸ hk)
        simp [updL, updV, this])
    · have h0 : updL L i j = L j := by simp [updL, e]
      have h1 : updV V i v j = V j := by simp [updV, e]
      simp only [frF]
      rw [h0, h1]
      exact frF_step hL r _ hn ((List.mem_cons.1 hi).resolve_left (fun h => e h.symm)) (fun k hk => hd k (List.mem_cons_of_mem _ hk))
theorem frF_old {k : Nat} : ∀ (is : List Nat) (a : Act), (∀ j ∈ is, dstO ops j ≠ some k) → (frF ops L V is a).eval (.tmp k) = a.eval (.tmp k)
  | [], _, _ => rfl
  | i :: r, a, h => by
    simp only [frF]
    rw [frF_old r _ (fun j hj => h j (List.mem_cons_of_mem _ hj))]
    split
    · exact Act.eval_put (fun d hd e => by cases e; exact h i (List.mem_cons_self ..) hd)
    · rfl
theorem evalTmp (a : Act) (k : Nat) : a.eval (.tmp k) = a.tmps[k]?.getD undef := by simp [Act.eval]
theorem put_size (a : Act) (x : Option Tmp) (v : Value) : (a.put x v).tmps.size = a.tmps.size := by cases x <;> simp [Act.put]
theorem frF_eval {i k : Nat} (hk : dstO ops i = some k) (hL : L i = true) : ∀ (is : List Nat) (a : Act), is.Nodup → i ∈ is → (∀ j ∈ is, i ≠ j → dstO ops j ≠ some k) → k < a.tmps.size → (frF ops L V is a).eval (.tmp k) = V i
  | [], _, _, hi, _, _ => nomatch hi
  | j :: r, a, hn, hi, hd, hs => by
    obtain ⟨hj, hn⟩ := List.nodup_cons.1 hn
    by_cases e : j = i
    · subst e
      have h2 : L j = true := hL
      simp only [frF]
      rw [h2]
      simp only [if_true]
      rw [frF_old r _ (fun m hm => hd m (List.mem_cons_of_mem _ hm) (fun e => hj (e ▸ hm))), hk]
      simp [Act.eval, Act.put, hs]
    · simp only [frF]
      refine frF_eval hk hL r _ hn ((List.mem_cons.1 hi).resolve_left (fun h => e h.symm)) (fun m hm => hd m (List.mem_cons_of_mem _ hm)) ?_
      split
      · rw [put_size]; exact hs
      · exact hs
theorem frF_all : ∀ (is : List Nat) (a : Act), (∀ i ∈ is, L i = true) → frF ops L V is a = putF ops V is a
  | [], _, _ => rfl
  | i :: r, a, h => by
    simp only [frF, putF]
    rw [h i (List.mem_cons_self ..)]
    exact frF_all r _ (fun j hj => h j (List.mem_cons_of_mem _ hj))
theorem frF_none : ∀ (is : List Nat) (a : Act), (∀ i, L i = false) → frF ops L V is a = a
  | [], _, _ => rfl
  | i :: r, a, h => by
    simp only [frF]
    rw [h i]
    exact frF_none r _ h
end

def leftF (listed : Array Bool) : Nat := listed.toList.countP (fun b => !b)
theorem leftF_set (listed : Array Bool) (i : Nat) (h : listed.getD i true = false) : leftF (listed.setIfInBounds i true) + 1 = leftF listed := by
  have key : ∀ (l : List Bool) (i : Nat), l[i]? = some false → (l.set i true).countP (fun b => !b) + 1 = l.countP (fun b => !b) := by
    intro l
    induction l with
    | nil => intro i h; simp at h
    | cons b r ih =>
      intro i h
      cases i with
      | zero => simp at h; subst h; simp
      | succ i =>
        have := ih i (by simpa using h)
        simp only [List.set_cons_succ, List.countP_cons]
        omega
  have hi : listed[i]? = some false := by
    rw [Array.getD_eq_getD_getElem?] at h
    cases e : listed[i]? with
    | none => rw [e] at h; simp at h
    | some b => rw [e] at h; simp at h; rw [h]
  unfold leftF
  rw [Array.toList_setIfInBounds]
  exact key _ _ (by simpa using hi)
theorem leftF_zero {listed : Array Bool} (h : leftF listed = 0) (i : Nat) : listed.getD i true = true := by
  rw [Array.getD_eq_getD_getElem?]
  cases e : listed[i]? with
  | none => rfl
  | some b =>
    unfold leftF at h
    have hm : b ∈ listed.toList := by simpa using Array.mem_of_getElem? e
    have := List.countP_eq_zero.1 h b hm
    simpa using this

section
variable {P : Program} {md : Region.Mode} {ops : Array Oper} {Q : Exit → Act → World → Prop} {a0 : Act} {n : Nat} {J : (Nat → Bool) → (Nat → Value) → World → Prop}

/- The obligations: of each operation that no guard holds. -/
def RSteps (P : Program) (md : Region.Mode) (ops : Array Oper) (Q : Exit → Act → World → Prop) (a0 : Act) (n : Nat) (J : (Nat → Bool) → (Nat → Value) → World → Prop) : Nat → List Oper → Prop
  | _, [] => True
  | i, o :: r => (∀ (L : Nat → Bool) (V : Nat → Value) (w : World) (a : Act), (∀ j k, dstO ops j = some k → L j = true → a.tmps[k]?.getD undef = V j) → (∀ k, oldD ops (List.range n) k = true → a.tmps[k]?.getD undef = a0.tmps[k]?.getD undef) →
      L i = false → (∀ j, (depsD md o).contains j = true → L j = true) → J L V w → o.wp P a w (fun a' w' => ∃ v, a' = a.put o.dst v ∧ J (updL L i) (updV V i v) w') Q) ∧ RSteps P md ops Q a0 n J (i + 1) r
theorem RSteps.get : ∀ (l : List Oper) (i k : Nat) (o : Oper), RSteps P md ops Q a0 n J k l → l[i]? = some o →
    ∀ (L : Nat → Bool) (V : Nat → Value) (w : World) (a : Act), (∀ j k, dstO ops j = some k → L j = true → a.tmps[k]?.getD undef = V j) → (∀ k, oldD ops (List.range n) k = true → a.tmps[k]?.getD undef = a0.tmps[k]?.getD undef) →
      L (k + i) = false → (∀ j, (depsD md o).contains j = true → L j = true) → J L V w → o.wp P a w (fun a' w' => ∃ v, a' = a.put o.dst v ∧ J (updL L (k + i)) (updV V (k + i) v) w') Q
  | [], i, k, o, _, h => by simp at h
  | x :: r, 0, k, o, hs, h => by
    simp at h; subst h
    exact hs.1
  | x :: r, i + 1, k, o, hs, h => by
    have := RSteps.get r i (k + 1) o hs.2 (by simpa using h)
    rwa [Nat.add_assoc, Nat.add_comm 1 i] at this

theorem wpAny_rely (hn : ops.size = n) (hd : apartD ops (List.range n) = true) (hb : backD md ops = true) (hr : roomD ops (List.range n) a0.tmps.size = true) (hg : (ops.toList.all fun o => o.guard.isNone) = true)
    (hs : RSteps P md ops Q a0 n J 0 ops.toList) (hdone : ∀ L V w, (∀ i, i < n → L i = true) → J L V w → Q .normal (putF ops V (List.range n) a0) w) :
    ∀ (fuel : Nat) (listed : Array Bool) (L : Nat → Bool) (V : Nat → Value) (w : World), listed.size = n → (∀ i, i < n → L i = listed.getD i true) → leftF listed ≤ fuel → J L V w →
      wpAny P md ops Q fuel listed (frF ops L V (List.range n) a0) w := by
  have hall : ∀ (listed : Array Bool) (L : Nat → Bool) (V : Nat → Value) (w : World), (∀ i, i < n → L i = listed.getD i true) → (∀ i, listed.getD i true = true) → J L V w → Q .normal (frF ops L V (List.range n) a0) w := by
    intro listed L V w hL h hJ
    rw [frF_all _ _ (fun i hi => by rw [hL i (List.mem_range.1 hi), h i])]
    exact hdone L V w (fun i hi => by rw [hL i hi, h i]) hJ
  have hmono : ∀ (i : Nat) (o : Oper), ops[i]? = some o → ∀ e ∈ o.after, Region.binds md e = true → e.on < i := by
    intro i o ho e he hbe
    have hi : i < ops.size := (Array.getElem?_eq_some_iff.1 ho).1
    have h := List.all_eq_true.1 hb i (List.mem_range.2 hi)
    simp only [ho] at h
    have h2 := Array.all_eq_true_iff_forall_mem.1 h e he
    simpa [hbe] using h2
  intro fuel
  induction fuel with
  | zero =>
    intro listed L V w hsz hL hc hJ
    have h0 := leftF_zero (Nat.le_zero.1 hc)
    refine ⟨List.eq_nil_iff_forall_not_mem.2 (fun i hi => ?_), hall listed L V w hL h0 hJ⟩
    have := (mem_ready.1 hi).1
    rw [h0 i] at this; cases this
  | succ fuel ih =>
    intro listed L V w hsz hL hc hJ
    refine ⟨fun hnil => ?_, fun i hi => ?_⟩
    · refine hall listed L V w hL (fun i => ?_) hJ
      induction i using Nat.strongRecOn with
      | ind i ihi =>
        cases hlt : listed.getD i true with
        | true => rfl
        | false =>
          have hi : i < listed.size := by
            rcases Nat.lt_or_ge i listed.size with h | h
            · exact h
            · rw [Array.getD_eq_getD_getElem?, Array.getElem?_eq_none h] at hlt; cases hlt
          have hmem : i ∈ Region.ready md ops listed := by
            refine mem_ready.2 ⟨hlt, ops[i]'(by omega), Array.getElem?_eq_getElem (by omega), fun e he hbe => ?_⟩
            have h1 := hmono i _ (Array.getElem?_eq_getElem (by omega)) e he hbe
            have h2 := ihi e.on h1
            rw [Array.getD_eq_getD_getElem?] at h2 ⊢
            rw [Array.getElem?_eq_getElem (show e.on < listed.size by omega)] at h2 ⊢
            simpa using h2
          rw [hnil] at hmem; cases hmem
    · obtain ⟨h1, o, ho, h2⟩ := mem_ready.1 hi
      have hin : i < n := by rw [← hn]; exact (Array.getElem?_eq_some_iff.1 ho).1
      have hLi : L i = false := by rw [hL i hin]; exact h1
      have hgo : o.guard = none := by
        have := List.all_eq_true.1 hg o (by simpa using Array.mem_of_getElem? ho)
        simpa using this
      have hap : ∀ j, j ∈ List.range n → i ≠ j → ∀ d, dstO ops j = some d → dstO ops i ≠ some d := fun j hj hne d h3 => apartD_out hd hj (List.mem_range.2 hin) (Ne.symm hne) d h3
      have hob := RSteps.get ops.toList i 0 o hs (by simpa using ho) L V w (frF ops L V (List.range n) a0)
        (fun j k hjk hLj => by
          have hjn : j < n := by
            rw [← hn]
            rcases Nat.lt_or_ge j ops.size with h | h
            · exact h
            · simp [dstO, Array.getElem?_eq_none h] at hjk
          rw [← evalTmp]
          refine frF_eval hjk hLj _ _ List.nodup_range (List.mem_range.2 hjn) (fun m hm hne => apartD_out hd (List.mem_range.2 hjn) hm hne k hjk) ?_
          have := List.all_eq_true.1 hr j (List.mem_range.2 hjn)
          simp only [hjk] at this
          simpa using this)
        (fun k hk => by
          rw [← evalTmp, ← evalTmp]
          exact frF_old _ _ (fun j hj e => by
          have := List.all_eq_true.1 hk j hj
          simp [e] at this))
        (by rw [Nat.zero_add]; exact hLi)
        (fun j hj => by
          have hj' : j ∈ depsD md o := by simpa using hj
          obtain ⟨e, he, rfl⟩ := List.mem_map.1 hj'
          obtain ⟨he1, he2⟩ := List.mem_filter.1 he
          have h3 := h2 e (by simpa using he1) he2
          have h4 := hmono i o ho e (by simpa using he1) he2
          rw [hL e.on (by omega)]
          rw [Array.getD_eq_getD_getElem?] at h3 ⊢
          rw [Array.getElem?_eq_getElem (show e.on < listed.size by omega)] at h3 ⊢
          simpa using h3) hJ
      rw [Nat.zero_add] at hob
      unfold wpOp
      simp only [ho]
      have hw : Region.wanted o (yielded ops (frF ops L V (List.range n) a0).tmps) = true := by simp [Region.wanted, hgo]
      rw [if_pos hw]
      refine .inl (Oper.wp_mono ?_ hob)
      rintro a' w' ⟨v, rfl, hJ'⟩
      have hdst : o.dst = dstO ops i := by simp [dstO, ho]
      rw [hdst, frF_step hLi _ _ List.nodup_range (List.mem_range.2 hin) hap]
      refine ih (listed.setIfInBounds i true) _ _ w' (by simp [hsz]) (fun j hj => ?_) (by have := leftF_set listed i h1; omega) hJ'
      unfold updL
      by_cases e : j = i
      · subst e
        rw [if_pos rfl, Array.getD_eq_getD_getElem?, Array.getElem?_setIfInBounds_self_of_lt (by omega)]; rfl
      · rw [if_neg e, hL j hj, Array.getD_eq_getD_getElem?, Array.getD_eq_getD_getElem?, Array.getElem?_setIfInBounds_ne (Ne.symm e)]

/- A region that draws its order. -/
theorem wp_region_rely {id : Nat} {w : World} (hm : P.follows .mixedOrders = true) (J : (Nat → Bool) → (Nat → Value) → World → Prop) (n : Nat) (hn : ops.size = n) (hd : apartD ops (List.range n) = true) (hb : backD .any ops = true)
    (hr : roomD ops (List.range n) a0.tmps.size = true) (hg : (ops.toList.all fun o => o.guard.isNone) = true) (h0 : J (fun _ => false) (fun _ => undef) w.drew)
    (hs : RSteps P .any ops Q a0 n J 0 ops.toList) (hdone : ∀ L V w, (∀ i, i < n → L i = true) → J L V w → Q .normal (putF ops V (List.range n) a0) w) : (Code.region id ops true).wp P Q a0 w := by
  refine wp_region_any hm ?_
  have h := wpAny_rely (P := P) hn hd hb hr hg hs hdone ops.size (Array.replicate ops.size false) (fun _ => false) (fun _ => undef) w.drew (by simp [hn])
    (fun i hi => by rw [Array.getD_eq_getD_getElem?, Array.getElem?_replicate, if_pos (by omega)]; rfl) (by
      unfold leftF
      simp only [Array.toList_replicate]
      exact Nat.le_trans List.countP_le_length (by simp)) h0
  rw [frF_none _ _ (fun _ => rfl)] at h
  exact h
end

/- A struct goes into a part of a block that is known: at one operation. -/
theorem wp_store_part {P : Program} {op : Oper} {a : Act} {w : World} {K : Act → World → Prop} {Q : Exit → Act → World → Prop} (ty : TypeId) (x y : Operand) (ho : op.op = .store ty x y)
    (b o t : Nat) (c : Array Value) (vs : List Value) (hx : a.eval x = .pointer (some ⟨b, o, none⟩)) (hy : a.eval y = .agg vs.toArray)
    (hb : w.heap[b]? = some (.cells c t (0, 0))) (hi : (P.info? ty).map (·.size) = some vs.length) (hc : o + vs.length ≤ c.size) (h1 : ∀ v ∈ vs, v.oneCell' = true)
    (h : ∀ w', w'.heap[b]? = some (.cells (c.toList.take o ++ (vs ++ c.toList.drop (o + vs.length))).toArray t (0, 0)) → Step (· = b) w w' → K (a.put op.dst undef) w') : op.wp P a w K Q := by
  refine wp_store_mid ty x y ho b o vs.toArray hx hy (fun j hj => ?_) (by simpa using hi) (all_oneCell_toArray h1) ?_
  · have hj' : o + j < c.size := by
      have : j < vs.length := by simpa using hj
      omega
    rw [blk_cell hb (o + j) _ (Array.getElem?_eq_getElem hj'), blk_free hb]
    exact ⟨rfl, rfl⟩
  · obtain ⟨h2, h3⟩ := setCells_fold vs o c w hb
    rw [fold_splice vs o c hc] at h2
    exact h _ (by simpa using h2) (by simpa using h3)

end Go.Proofs.Ytilipeigjkmldaa
