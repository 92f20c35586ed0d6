/- The document's answer for moves: All. -/
import Derived.Test.YtilipeigjkmldaaRefJN
namespace Go.Proofs.Ytilipeigjkmldaa
open Go.RowKit

def AllPost19 (B : Nat) (b : Bod) (w : World) (e : Ending) (w' : World) : Prop :=
  (∃ go gm vs ls m base, e = .returned (.tuple #[.slice (some ⟨go, 0, none⟩) b.code.length b.code.length, .slice (some ⟨gm, 0, none⟩) b.code.length b.code.length]) ∧ OutAt w' base go B vs ls ∧ w'.heap[gm]? = some (bitsO m) ∧ m.length = b.code.length ∧ (∀ i, i < b.code.length → (mg m i = true ↔ Rch b i)) ∧
    AllInv b ls ∧ ∀ i, i < b.code.length → ∀ q, q ∈ ls.getD i [] ↔ MissP b i q) ∧ Step (fun _ => False) w w'
/- The state of the loops. -/
structure AS (w4 : World) (base go gm B : Nat) (b : Bod) (m : List Bool) (X : World) (vs : List Value) (ls : List (List Pl)) : Prop where
  out : OutAt X base go B vs ls
  inv : AllInv b ls
  com : X.heap[gm]? = some (bitsO m)
  st : Step (fun q => q = go ∨ base ≤ q) w4 X
theorem AS.step {w4 X X' : World} {base go gm B : Nat} {b : Bod} {m : List Bool} {vs : List Value} {ls : List (List Pl)} (h : AS w4 base go gm B b m X vs ls) (hs : Step (fun _ => False) X X') : AS w4 base go gm B b m X' vs ls :=
  ⟨h.out.step hs, h.inv, hs.keep h.com (fun h => h), h.st.trans (hs.mono (fun _ _ h => h.elim))⟩

/- What the two inner loops read: where it goes on; what is missing behind. -/
structure LS (go B i : Nat) (va u : Value) (l : List Int) (lm : List Pl) (xm : List Value) (X : World) (vs : List Value) (ls : List (List Pl)) : Prop where
  tr : Row X X.heap.size va l.length (intsV l)
  trA : ApartV l.length va go vs
  el : Each (PlAt X B) lm xm
  ro : Row X X.heap.size u lm.length xm
  al : ApartV lm.length u go vs ∨ (vs[i]? = some u ∧ ls[i]? = some lm)
theorem LS.step {go B i : Nat} {va u : Value} {l : List Int} {lm : List Pl} {xm : List Value} {X X' : World} {vs : List Value} {ls : List (List Pl)} (h : LS go B i va u l lm xm X vs ls) (hs : Step (fun _ => False) X X') : LS go B i va u l lm xm X' vs ls :=
  ⟨(h.tr.step hs (fun _ _ h => h)).mono hs.size, h.trA, Each.mono (PlAt.step hs (fun _ _ h => h)) _ _ h.el, (h.ro.step hs (fun _ _ h => h)).mono hs.size, h.al⟩
theorem LS.push {go B base i t : Nat} {va u v v8 : Value} {l : List Int} {lm lt : List Pl} {xm : List Value} {X XA X' : World} {vs : List Value} {ls : List (List Pl)} {q : Pl} (h : LS go B i va u l lm xm X vs ls) (ho : OutAt X base go B vs ls) (hv : vs[t]? = some v)
    (hsA : Step (fun _ => False) X XA) (hs : Step (fun q => q = go ∨ v.ownBlock = some q) X X') (hat : v8.ownBlock = v.ownBlock ∨ v8.ownBlock = some XA.heap.size) (hne : (vs[i]? = some u ∧ ls[i]? = some lm) → i ≠ t) : LS go B i va u l lm xm X' (vs.set t v8) (ls.set t (lt ++ [q])) := by
  have hA := h.step hsA
  have hlt := ho.lt
  have hB := ho.hB
  refine ⟨(h.tr.keepN hs (fun hn q hq e => ?_)).mono hs.size, hA.trA.push hA.tr hv hat, Each.mono (PlAt.step hs (fun k hk e => ?_)) _ _ h.el, (h.ro.keepN hs (fun hn q hq e => ?_)).mono hs.size, ?_⟩
  · obtain ⟨h1, h2⟩ := h.trA hn q hq
    exact e.elim h1 (h2 t v hv)
  · rcases e with e | e
    · omega
    · have := (ho.own hv e).1; omega
  · rcases h.al with h1 | ⟨h1, h2⟩
    · obtain ⟨h3, h4⟩ := h1 hn q hq
      exact e.elim h3 (h4 t v hv)
    · rcases e with e | e
      · have := (ho.own h1 hq).1; omega
      · exact ho.apart i t u v (hne ⟨h1, h2⟩) h1 hv q hq e
  · rcases h.al with h1 | ⟨h1, h2⟩
    · exact .inl (h1.push hA.ro hv hat)
    · have := hne ⟨h1, h2⟩
      refine .inr ⟨?_, ?_⟩
      · rw [List.getElem?_set, if_neg (Ne.symm this)]; exact h1
      · rw [List.getElem?_set, if_neg (Ne.symm this)]; exact h2

set_option maxRecDepth 100000 in
set_option maxHeartbeats 8000000 in
theorem rall_any (B : Nat) (b : Bod) (bs : List Value) (w : World) (h : BodAt w B b bs) (hs : BodSmall b) (hB : B ≤ w.heap.size) (hok : bodOk b) (hn : b.code.length ≤ 100000) (hw : (factsB b).length ≤ 100000) (hp : ∀ i a, a ∈ accB b i → a.pl.path.length ≤ 1000000) :
    Calls Try.prog 25 #[.agg bs.toArray] w (AllPost19 B b w) := by
  have H := Lib.hid h
  have HSM := Lib.hid hs
  have HOK := Lib.hid hok
  have HP := Lib.hid hp
  have hpos : 0 < b.code.length := by
    have := hok.1
    unfold headOk at this
    simp at this; omega
  have hloc := hs.1
  obtain ⟨vl, vcd, xl, xc, hbs, hrl, hec, hrc⟩ := id h
  have HINS : Hid (InsP w B vcd b.code) := ⟨xc, hec, hrc⟩
  obtain ⟨a1, c1, rfl, -⟩ := hrl
  obtain ⟨a2, c2, rfl, -⟩ := hrc
  subst hbs
  obtain ⟨i0, hi0, hz0, hz1, hz2⟩ := info_parts Try.infoPlace
  have HI := Lib.hid hi0
  have HZ0 := Lib.hid hz0
  have HZ1 := Lib.hid hz1
  have HZ2 := Lib.hid hz2
  have hmk := run_makePls b.code.length (by omega)
  have e0 : ((b.code.length : Int) == 0) = false := by simpa using (by omega : ¬ (b.code.length : Int) = 0)
  have e1 : (b.code.length == 0) = false := by simpa using (by omega : ¬ b.code.length = 0)
  obtain ⟨w2, hw2⟩ : ∃ w2 : World, w2 = (w.alloc (.cells #[.string b.name, .int .i64 b.params, .slice a1 b.locals c1, .slice a2 b.code.length c2] 29)).alloc (.cells (Array.replicate b.code.length (Value.slice none 0 0)) 69) := ⟨_, rfl⟩
  have HST2 : Hid (Step (fun _ => False) w w2) := by show Step _ _ _; rw [hw2]; exact ((Step.refl _ _).alloc _).alloc _
  have HB2 : Hid (w2.heap[w.heap.size]? = some (.cells #[.string b.name, .int .i64 b.params, .slice a1 b.locals c1, .slice a2 b.code.length c2] 29 (0, 0))) := by show _ = _; rw [hw2]; exact blk_alloc (blk_new w _)
  have HO2 : Hid (w2.heap[w.heap.size + 1]? = some (.cells (Array.replicate b.code.length (Value.slice none 0 0)) 69 (0, 0))) := by show _ = _; rw [hw2]; exact blk_new2 _ _ _
  have HSZ2 : Hid (w2.heap.size = w.heap.size + 2) := by show _ = _; rw [hw2]; simp
  have HW2 := Lib.hid hw2
  have HREA := Lib.hid (rreach_any B b _ w2 (HINS.out.step HST2.out (fun _ _ h => h)) hok (by omega) hpos (Nat.le_trans hB HST2.out.size))
  have HKB : Hid (∀ X : World, X.heap[w.heap.size]? = some (.cells #[.string b.name, .int .i64 b.params, .slice a1 b.locals c1, .slice a2 b.code.length c2] 29 (0, 0)) → X.cell? ⟨w.heap.size, 0, none⟩ = some (.string b.name) ∧ X.cell? ⟨w.heap.size, 1, none⟩ = some (.int .i64 b.params) ∧ X.cell? ⟨w.heap.size, 2, none⟩ = some (.slice a1 b.locals c1) ∧ X.cell? ⟨w.heap.size, 3, none⟩ = some (.slice a2 b.code.length c2)) :=
    fun X hX => ⟨blk_cell hX 0 _ rfl, blk_cell hX 1 _ rfl, blk_cell hX 2 _ rfl, blk_cell hX 3 _ rfl⟩
  obtain ⟨d0, d1, d2, d3⟩ := HKB.out w2 HB2.out
  have b3 : (w.alloc (.cells #[.string b.name, .int .i64 b.params, .slice a1 b.locals c1, .slice a2 b.code.length c2] 29)).cell? ⟨w.heap.size, 3, none⟩ = some (.slice a2 b.code.length c2) := blk_cell (blk_new w _) 3 _ rfl
  clear h hs hok hp hec hi0 hz0 hz1 hz2 hw2
  go_enter Try.func25, Try.ntmps25
  go_upto_region 3 with fail
  rw [← HW2.out]
  obtain ⟨go, hgo⟩ : ∃ go, go = w.heap.size + 1 := ⟨_, rfl⟩
  have HGO := Lib.hid hgo
  rw [← hgo] at HO2
  rw [← hgo]
  clear hmk b3 hgo
  go_wp2_with fail
  refine HREA.out.mono ?_
  rintro e w4 ⟨⟨gm, m, rfl, hgm, hml, hmb, hmr⟩, s4⟩
  have HML := Lib.hid hml
  have HMB := Lib.hid hmb
  have HMR := Lib.hid hmr
  have HST4 := Lib.hid s4
  have HO4 := Lib.hid (s4.keep HO2.out (fun h => h))
  have HB4 := Lib.hid (s4.keep HB2.out (fun h => h))
  obtain ⟨base, hbase⟩ : ∃ base, base = w4.heap.size := ⟨_, rfl⟩
  have HBASE := Lib.hid hbase
  have HG : Hid (go < base ∧ gm < base ∧ go < gm ∧ B ≤ w.heap.size ∧ w.heap.size < go) := by
    show _ ∧ _
    have h1 := HSZ2.out
    have h2 := s4.size
    have h3 := blk_lt hmb
    have h4 := HGO.out
    omega
  have HFIR := Lib.hid (first_any B b [.string b.name, .int .i64 b.params, .slice a1 b.locals c1, .slice a2 b.code.length c2] w4 (BodAt.step (HST2.out.trans s4) (fun _ _ h => h) _ _ H.out) hloc)
  clear hgm hml hmb hmr s4 hbase d0 d1 d2 d3
  obtain ⟨d0, d1, d2, d3⟩ := HKB.out w4 HB4.out
  go_wp2_with fail
  refine HFIR.out.mono ?_
  rintro e w5 ⟨⟨u5, x5, rfl, hx5, ho5⟩, s5⟩
  obtain ⟨a5, c5, rfl⟩ := owns_slice ho5
  have HST5 := Lib.hid s5
  have hb5 := s5.keep HO4.out (fun h => h)
  have f5 : w5.frozen? ⟨go, 0, none⟩ = false := blk_free hb5 0
  have hc5 : w5.cell? ⟨go, 0, none⟩ = some (.slice none 0 0) := blk_cell hb5 0 _ (by rw [Array.getElem?_replicate, if_pos hpos])
  have hi00 : (0 : Int) < (b.code.length : Int) := by omega
  have HAS0 : Hid (AS w4 base go gm B b m (w5.setCell ⟨go, 0, none⟩ (.slice a5 (firstTo b b.locals).length c5)) ((List.replicate b.code.length (Value.slice none 0 0)).set 0 (.slice a5 (firstTo b b.locals).length c5)) ((List.replicate b.code.length []).set 0 (firstTo b b.locals))) := by
    have hg := HG.out
    have hbe := HBASE.out
    have hs1 : Step (fun q => q = go) w5 (w5.setCell ⟨go, 0, none⟩ (.slice a5 (firstTo b b.locals).length c5)) := (Step.refl (fun q => q = go) _).setCell ⟨go, 0, none⟩ _ (fun _ => rfl)
    have hget : ∀ (i : Nat) v, ((List.replicate b.code.length (Value.slice none 0 0)).set 0 (.slice a5 (firstTo b b.locals).length c5))[i]? = some v → (i = 0 ∧ v = .slice a5 (firstTo b b.locals).length c5) ∨ (i ≠ 0 ∧ v = .slice none 0 0) := by
      intro i v hv
      rw [List.getElem?_set] at hv
      split at hv
      · rename_i e
        split at hv
        · cases hv; exact .inl ⟨e.symm, rfl⟩
        · cases hv
      · rename_i e
        rw [List.getElem?_replicate] at hv
        split at hv
        · cases hv; exact .inr ⟨fun e2 => e e2.symm, rfl⟩
        · cases hv
    refine ⟨⟨?_, by simp, ?_, ?_, hg.1, by omega, ?_⟩, AllInv.first hpos, ?_, ?_⟩
    · have := blk_set hb5 0 (.slice a5 (firstTo b b.locals).length c5)
      have e : (Array.replicate b.code.length (Value.slice none 0 0)).setIfInBounds 0 (.slice a5 (firstTo b b.locals).length c5) = ((List.replicate b.code.length (Value.slice none 0 0)).set 0 (.slice a5 (firstTo b b.locals).length c5)).toArray := by
        apply Array.ext'
        simp
      rw [e] at this
      exact this
    · intro i v l hv hl
      rcases hget i v hv with ⟨rfl, rfl⟩ | ⟨hi, rfl⟩
      · have : l = firstTo b b.locals := by
          rw [List.getElem?_set, if_pos rfl] at hl
          split at hl
          · cases hl; rfl
          · cases hl
        subst this
        refine ⟨x5, ?_, Each.mono (PlAt.step hs1 (fun k h1 h2 => by omega)) _ _ hx5⟩
        rw [hbe]
        exact ownsRow_setCell_below ho5 (a := ⟨go, 0, none⟩) (by show go < _; omega) _
      · have : l = [] := by
          rw [List.getElem?_set, if_neg (Ne.symm hi), List.getElem?_replicate] at hl
          split at hl
          · cases hl; rfl
          · cases hl
        subst this
        exact ⟨[], World.ownsRow_nil _ _ _ _, Each.nil⟩
    · intro i j u v hij hu hv q hq
      rcases hget i u hu with ⟨rfl, rfl⟩ | ⟨hi, rfl⟩
      · rcases hget j v hv with ⟨rfl, -⟩ | ⟨hj, rfl⟩
        · exact absurd rfl hij
        · exact fun e => nomatch e
      · exact nomatch hq
    · rw [hbe]; exact Nat.le_trans s5.size hs1.size
    · exact hs1.keep (s5.keep HMB.out (fun h => h)) (by omega)
    · exact (s5.mono (fun _ _ h => h.elim)).trans (hs1.mono (fun _ _ h => .inl h))
  have HB5 : Hid ((w5.setCell ⟨go, 0, none⟩ (.slice a5 (firstTo b b.locals).length c5)).heap[w.heap.size]? = some (.cells #[.string b.name, .int .i64 b.params, .slice a1 b.locals c1, .slice a2 b.code.length c2] 29 (0, 0))) := by
    have hg := HG.out
    show _ = _
    rw [Below.heap_setCell _ _ _ _ (by show w.heap.size ≠ go; omega)]
    exact s5.keep HB4.out (fun h => h)
  -- what stays as it was, wherever the loops stand
  have HLOW : Hid (∀ X vs ls, AS w4 base go gm B b m X vs ls → BodAt X B b [.string b.name, .int .i64 b.params, .slice a1 b.locals c1, .slice a2 b.code.length c2] ∧ InsP X B (.slice a2 b.code.length c2) b.code ∧ X.heap[w.heap.size]? = some (.cells #[.string b.name, .int .i64 b.params, .slice a1 b.locals c1, .slice a2 b.code.length c2] 29 (0, 0)) ∧ B ≤ X.heap.size ∧ Step (fun _ => False) w X) := by
    show ∀ X vs ls, _
    intro X vs ls hX
    have hg := HG.out
    have h4 : Step (fun _ => False) w w4 := HST2.out.trans HST4.out
    have hl : ∀ k, k < B → ¬ (k = go ∨ base ≤ k) := fun k hk e => by omega
    refine ⟨BodAt.step hX.st hl _ _ (BodAt.step h4 (fun _ _ h => h) _ _ H.out), (HINS.out.step h4 (fun _ _ h => h)).step hX.st hl, hX.st.keep HB4.out (by omega), Nat.le_trans hB (Nat.le_trans h4.size hX.st.size), h4.then hX.st (fun q hq e => by have := h4.size; have := HBASE.out; omega)⟩
  clear hx5 ho5 s5 d0 d1 d2 d3
  go_upto_region 7 with fail
  obtain ⟨w6, hw6⟩ : ∃ w6 : World, w6 = w5.setCell ⟨go, 0, none⟩ (.slice a5 (firstTo b b.locals).length c5) := ⟨_, rfl⟩
  rw [← hw6] at HAS0 HB5
  rw [← hw6]
  clear hw6 hb5 f5 hc5 hi00 e0 e1
  go_wp2_with fail
  go_loopg [7, 8, 9, 10, 11, 12, 13] (lackP (factsB b).length ((List.replicate b.code.length []).set 0 (firstTo b b.locals)) + 1) (fun gg s7 _ _ _ _ _ _ wr => ∃ (ag : Bool) (vs : List Value) (ls : List (List Pl)), s7 = .bool ag ∧ lackP (factsB b).length ls + (if ag = true then 1 else 0) ≤ gg ∧ AS w4 base go gm B b m wr vs ls ∧ (ag = false → ∀ i, i < b.code.length → Rch b i → ClosA b ls i))
  case atStart => exact ⟨true, _, _, rfl, by simp, HAS0.out, (fun h => by cases h)⟩
  case round =>
    obtain ⟨ag, vs, ls, rfl, hgg, has, hclosed⟩ := hrel
    have HAS := Lib.hid has
    have HCLOSED := Lib.hid hclosed
    clear has hclosed
    cases ag with
    | false =>
      have HDONE : Hid (∀ i, i < b.code.length → ∀ q, q ∈ ls.getD i [] ↔ MissP b i q) := fun i hi q => HAS.out.inv.done HOK.out hpos (HCLOSED.out rfl) hi q
      go_wp2
      go_ret2
      exact ⟨⟨go, gm, vs, ls, m, base, rfl, HAS.out.out, HAS.out.com, HML.out, HMR.out, HAS.out.inv, HDONE.out⟩, (HLOW.out _ _ _ HAS.out).2.2.2.2⟩
    | true =>
      have HGG := Lib.hid (show lackP (factsB b).length ls + 1 ≤ gk by simpa using hgg)
      obtain ⟨go1, rfl⟩ : ∃ go1, go1 = gk := ⟨_, rfl⟩
      obtain ⟨wo, rfl⟩ : ∃ wo : World, wo = wr := ⟨_, rfl⟩
      clear hgg
      go_wp2_with fail
      go_loopg [7, 8, 9, 10, 11, 12, 13] b.code.length (fun gg s7 s8 _ _ _ _ _ wr => ∃ (i : Nat) (ag : Bool) (vs2 : List Value) (ls2 : List (List Pl)), s8 = .int .i64 i ∧ i ≤ b.code.length ∧ b.code.length - i ≤ gg ∧ s7 = .bool ag ∧ AS w4 base go gm B b m wr vs2 ls2 ∧
        lackP (factsB b).length ls2 ≤ lackP (factsB b).length ls ∧ (ag = true → lackP (factsB b).length ls2 < lackP (factsB b).length ls) ∧ (ag = false → ls2 = ls ∧ ∀ j, j < i → Rch b j → ClosA b ls j))
      case atStart => exact ⟨0, false, vs, ls, rfl, Nat.zero_le _, by omega, rfl, HAS.out, Nat.le_refl _, (fun h => by cases h), fun _ => ⟨rfl, fun j hj => absurd hj (Nat.not_lt_zero _)⟩⟩
      case round =>
        obtain ⟨i, ag, vs2, ls2, rfl, hi, hgg, rfl, has, hle, hlt, hsame⟩ := hrel
        have HAS2 := Lib.hid has
        have HLE := Lib.hid hle
        have HLT := Lib.hid hlt
        have HSAME := Lib.hid hsame
        clear has hle hlt hsame
        obtain ⟨go2, rfl⟩ : ∃ go2, go2 = gk := ⟨_, rfl⟩
        obtain ⟨w7, rfl⟩ : ∃ w7 : World, w7 = wr := ⟨_, rfl⟩
        by_cases hil : i < b.code.length
        · obtain ⟨mi, hmi⟩ : ∃ mi, mi = mg m i := ⟨_, rfl⟩
          have HMI := Lib.hid hmi
          have hcom := bits_cell HAS2.out.com (i := i) (b := mi) (by rw [hmi]; exact getD_some (by rw [HML.out]; exact hil))
          have hi0 : (0 : Int) ≤ (i : Int) := by omega
          have hi1 : (i : Int) < (b.code.length : Int) := by omega
          clear hmi
          cases mi with
          | false =>
            have hc2 : w7.cell? ⟨gm, i, none⟩ = some (.int .i64 0) := hcom
            have HSM2 : Hid (ag = false → ls2 = ls ∧ ∀ j, j < i + 1 → Rch b j → ClosA b ls j) := fun h => by
              obtain ⟨h1, h2⟩ := HSAME.out h
              refine ⟨h1, fun j hj hr => ?_⟩
              rcases Nat.lt_succ_iff_lt_or_eq.1 hj with h3 | rfl
              · exact h2 j h3 hr
              · have := (HMR.out j hil).2 hr
                rw [← HMI.out] at this; cases this
            clear hcom
            go_wp2
            go_roundg (go2 - 1)
            case rel => exact ⟨i + 1, ag, vs2, ls2, by go_num, hil, by omega, rfl, HAS2.out, HLE.out, HLT.out, HSM2.out⟩
            case measure => omega
          | true =>
            have hc2 : w7.cell? ⟨gm, i, none⟩ = some (.int .i64 1) := hcom
            have HRCH : Hid (Rch b i) := (HMR.out i hil).1 HMI.out.symm
            have hlen2 : i < vs2.length := by rw [HAS2.out.out.len, HAS2.out.inv.len]; exact hil
            obtain ⟨vi, hvi⟩ : ∃ vi, vs2[i]? = some vi := ⟨_, List.getElem?_eq_getElem hlen2⟩
            obtain ⟨li, hli⟩ : ∃ li, ls2[i]? = some li := ⟨_, List.getElem?_eq_getElem (by rw [HAS2.out.inv.len]; exact hil)⟩
            obtain ⟨xi, howni, hxi⟩ := HAS2.out.out.row i vi li hvi hli
            have HVI := Lib.hid hvi
            have HLI := Lib.hid hli
            have hlil := HAS2.out.inv.room HOK.out hli
            obtain ⟨hbod, hins, hbx, hBX, -⟩ := HLOW.out _ _ _ HAS2.out
            have HSTEP : Hid (∀ Y, Step (fun _ => False) w7 Y → Calls Try.prog 44 #[.agg #[.string b.name, .int .i64 b.params, .slice a1 b.locals c1, .slice a2 b.code.length c2], .int .i64 i, vi] Y (StepPost B (accB b i) li vi Y)) := by
              show ∀ Y, _
              intro Y hY
              exact step_any B Y.heap.size b [.string b.name, .int .i64 b.params, .slice a1 b.locals c1, .slice a2 b.code.length c2] i li xi vi Y (BodAt.step hY (fun _ _ h => h) _ _ hbod) hil HSM.out (Nat.le_trans hBX hY.size) (Each.mono (PlAt.step hY (fun _ _ h => h)) _ _ hxi) (Row.of_owns (hY.owns howni (fun _ _ h => h)) (Nat.le_refl _)) (Nat.le_refl _) (by omega) HP.out
            obtain ⟨lm, hlm⟩ : ∃ lm, lm = stepL (accB b i) li := ⟨_, rfl⟩
            have HLM := Lib.hid hlm
            have HLMS : Hid (accB b i = [] → lm = li) := fun h => by rw [hlm, h]; rfl
            have hlml : lm.length ≤ 400000 := by
              rw [hlm]
              have h1 := stepL_len (accB b i) li
              have h2 := accB_len b HSM.out i
              omega
            have hcg : w7.cell? ⟨go, i, none⟩ = some vi := blk_cell HAS2.out.out.blk i _ (by simpa using hvi)
            obtain ⟨ai, ci, hvis⟩ := owns_slice howni
            subst hvis
            obtain ⟨d0, d1, d2, d3⟩ := HKB.out w7 hbx
            have HBX7 := Lib.hid hbx
            clear hcom howni hxi hvi hli hbod hins hbx hBX hlm
            go_upto_region 14 with fail
            go_cut [9, 10] (fun s9 _ wx => ∃ xm, Each (PlAt wx B) lm xm ∧ Row wx wx.heap.size s9 lm.length xm ∧ ((accB b i = [] ∧ s9 = .slice ai li.length ci) ∨ ∀ q, s9.ownBlock = some q → w7.heap.size ≤ q) ∧ Step (fun _ => False) w7 wx)
            case first =>
              go_wp2_with fail
              first
              | (go_region_law (first
                  | (go_simp
                     go_at_call 44
                     refine (HSTEP.out _ ((Step.refl _ _).drew)).mono ?_
                     rintro e8 w8 ⟨⟨u8, xm8, rfl, hx8, hr8, hal8⟩, s8⟩
                     have HX8 := Lib.hid hx8
                     have HR8 := Lib.hid hr8
                     have HAL8 := Lib.hid hal8
                     have ST8 : Step (fun _ => False) w7 w8 := ((Step.refl _ _).drew).trans s8
                     clear hx8 hr8 hal8 s8)))
              | fail
              all_goals (
                clear d0 d1 d2 d3 hcg hc2
                go_wp2_with fail
                go_meet
                case rel => exact ⟨xm8, by rw [HLM.out]; exact HX8.out, by rw [HLM.out]; exact HR8.out, HAL8.out, ST8⟩)
            case rest =>
              obtain ⟨xm, hxm, hrm, halm, hst8⟩ := hcut
              obtain ⟨w8, rfl⟩ : ∃ w8 : World, w8 = wc := ⟨_, rfl⟩
              have HXM := Lib.hid hxm
              have HRM := Lib.hid hrm
              have HALM := Lib.hid halm
              have HAS8 := Lib.hid (HAS2.out.step hst8)
              obtain ⟨aU, cU, hu9, -⟩ := hrm
              subst hu9
              obtain ⟨-, hins8, hbx8, -, -⟩ := HLOW.out _ _ _ HAS8.out
              have HAL : Hid (ApartV lm.length (.slice aU lm.length cU) go vs2 ∨ (vs2[i]? = some (.slice aU lm.length cU) ∧ ls2[i]? = some lm)) := by
                rcases HALM.out with ⟨h1, h2⟩ | h1
                · exact .inr ⟨by rw [HVI.out, ← h2], by rw [HLI.out, HLMS.out h1]⟩
                · exact .inl (ApartV.fresh HAS2.out.out h1)
              obtain ⟨l, hl⟩ : ∃ l, l = succB b i := ⟨_, rfl⟩
              have HL := Lib.hid hl
              have HSUC : Hid (Calls Try.prog 36 #[.slice a2 b.code.length c2, .int .i64 i] w8 fun e w' => (∃ v, e = .returned v ∧ Row w' w'.heap.size v l.length (intsV l) ∧ ∀ q, v.ownBlock = some q → w8.heap.size ≤ q) ∧ Step (fun _ => False) w8 w') := by
                obtain ⟨x, hx⟩ : ∃ x, b.code[i]? = some x := ⟨_, List.getElem?_eq_getElem hil⟩
                have e : l = succI x i := by rw [hl]; unfold succB; rw [hx]
                rw [e]
                exact rsucc_fresh B b.code _ i x w8 hins8 hx
              have HTR : Hid (∀ t ∈ l, ∃ tn : Nat, t = tn ∧ tn < b.code.length) := by
                show ∀ t ∈ l, _
                intro t ht
                rw [hl] at ht
                have := HOK.out.succ i t ht
                exact ⟨t.toNat, by omega, by omega⟩
              have hll2 : l.length ≤ 2 := by
                rw [hl]
                unfold succB
                split
                · unfold succI
                  split
                  · simp
                  split
                  · split <;> simp
                  split <;> simp
                · simp
              obtain ⟨d0, d1, d2, d3⟩ := HKB.out w8 hbx8
              clear hxm halm hst8 hins8 hbx8 hl hc2 hcg
              go_wp2_with fail
              refine HSUC.out.mono ?_
              rintro e w9 ⟨⟨va, rfl, hrow, hfr⟩, s9⟩
              have HAS9 := Lib.hid (HAS8.out.step s9)
              have HLS9 : Hid (LS go B i va (.slice aU lm.length cU) l lm xm w9 vs2 ls2) :=
                ⟨hrow, ApartV.fresh HAS8.out.out hfr, Each.mono (PlAt.step s9 (fun _ _ h => h)) _ _ HXM.out, (HRM.out.step s9 (fun _ _ h => h)).mono s9.size, HAL.out⟩
              obtain ⟨aT, cT, rfl, -⟩ := hrow
              clear hfr s9 d0 d1 d2 d3
              go_wp2_with fail
              go_loopg [7, 12, 13] l.length (fun gg s7 s12 _ wr => ∃ (k : Nat) (ag3 : Bool) (vs3 : List Value) (ls3 : List (List Pl)), s12 = .int .i64 k ∧ k ≤ l.length ∧ l.length - k ≤ gg ∧ s7 = .bool ag3 ∧ AS w4 base go gm B b m wr vs3 ls3 ∧ lackP (factsB b).length ls3 ≤ lackP (factsB b).length ls ∧ (ag3 = true → lackP (factsB b).length ls3 < lackP (factsB b).length ls) ∧
                (ag3 = false → ag = false ∧ ls3 = ls2 ∧ ∀ t ∈ l.take k, ∀ q ∈ lm, q ∈ ls2.getD t.toNat []) ∧ LS go B i (.slice aT l.length cT) (.slice aU lm.length cU) l lm xm wr vs3 ls3)
              case atStart => exact ⟨0, ag, vs2, ls2, rfl, Nat.zero_le _, by omega, rfl, HAS9.out, HLE.out, HLT.out, (fun h => ⟨h, rfl, fun t ht => by simp at ht⟩), HLS9.out⟩
              case round =>
                obtain ⟨k, ag3, vs3, ls3, rfl, hk, hgg3, rfl, has3, hle3, hlt3, hsm3, hls3⟩ := hrel
                have HAS3 := Lib.hid has3
                have HLE3 := Lib.hid hle3
                have HLT3 := Lib.hid hlt3
                have HSM3 := Lib.hid hsm3
                have HLS3 := Lib.hid hls3
                clear has3 hle3 hlt3 hsm3 hls3
                obtain ⟨go3, rfl⟩ : ∃ go3, go3 = gk := ⟨_, rfl⟩
                obtain ⟨wk, rfl⟩ : ∃ wk : World, wk = wr := ⟨_, rfl⟩
                by_cases hkl : k < l.length
                · obtain ⟨t, ht⟩ : ∃ t, l[k]? = some t := ⟨_, List.getElem?_eq_getElem hkl⟩
                  obtain ⟨tn, rfl, htn⟩ := HTR.out t (List.mem_of_getElem? ht)
                  have HTL := Lib.hid ht
                  clear ht
                  go_wp2_with fail
                  go_loopg [7, 13] lm.length (fun gg s7 s13 wr => ∃ (j : Nat) (ag4 : Bool) (vs4 : List Value) (ls4 : List (List Pl)), s13 = .int .i64 j ∧ j ≤ lm.length ∧ lm.length - j ≤ gg ∧ s7 = .bool ag4 ∧ AS w4 base go gm B b m wr vs4 ls4 ∧ lackP (factsB b).length ls4 ≤ lackP (factsB b).length ls ∧ (ag4 = true → lackP (factsB b).length ls4 < lackP (factsB b).length ls) ∧
                    (ag4 = false → ag = false ∧ ls4 = ls2 ∧ (∀ t ∈ l.take k, ∀ q ∈ lm, q ∈ ls2.getD t.toNat []) ∧ ∀ q ∈ lm.take j, q ∈ ls2.getD tn []) ∧ LS go B i (.slice aT l.length cT) (.slice aU lm.length cU) l lm xm wr vs4 ls4)
                  case atStart => exact ⟨0, ag3, vs3, ls3, rfl, Nat.zero_le _, by omega, rfl, HAS3.out, HLE3.out, HLT3.out, (fun h => ⟨(HSM3.out h).1, (HSM3.out h).2.1, (HSM3.out h).2.2, fun q hq => by simp at hq⟩), HLS3.out⟩
                  case round =>
                    obtain ⟨j, ag4, vs4, ls4, rfl, hj, hgg4, rfl, has4, hle4, hlt4, hsm4, hls4⟩ := hrel
                    have HAS4 := Lib.hid has4
                    have HLE4 := Lib.hid hle4
                    have HLT4 := Lib.hid hlt4
                    have HSM4 := Lib.hid hsm4
                    have HLS4 := Lib.hid hls4
                    clear has4 hle4 hlt4 hsm4 hls4
                    obtain ⟨w10, rfl⟩ : ∃ w10 : World, w10 = wr := ⟨_, rfl⟩
                    by_cases hjl : j < lm.length
                    · obtain ⟨q, hq⟩ : ∃ q, lm[j]? = some q := ⟨_, List.getElem?_eq_getElem hjl⟩
                      obtain ⟨vt, hvt⟩ : ∃ vt, vs4[tn]? = some vt := ⟨_, List.getElem?_eq_getElem (by rw [HAS4.out.out.len, HAS4.out.inv.len]; exact htn)⟩
                      obtain ⟨lt, hlt⟩ : ∃ lt, ls4[tn]? = some lt := ⟨_, List.getElem?_eq_getElem (by rw [HAS4.out.inv.len]; exact htn)⟩
                      obtain ⟨xt, hownt, hxt⟩ := HAS4.out.out.row tn vt lt hvt hlt
                      have hltl := HAS4.out.inv.room HOK.out hlt
                      obtain ⟨at2, ct2, hvts⟩ := owns_slice hownt
                      subst hvts
                      have HVT' := Lib.hid hvt
                      have HVT : Hid (vs4.toArray[tn]? = some (.slice at2 lt.length ct2)) := by show _ = _; simpa using hvt
                      have HLT' := Lib.hid hlt
                      have HOWT := Lib.hid hownt
                      have HXT := Lib.hid hxt
                      -- the row of where it goes on
                      obtain ⟨aT', cT', hvaT, -, -, -, hraT⟩ := id HLS4.out.tr
                      obtain ⟨rfl, -, rfl⟩ : aT = aT' ∧ True ∧ cT = cT' := by cases hvaT; exact ⟨rfl, trivial, rfl⟩
                      obtain ⟨gT, oT, rfl, -, -, hcT⟩ := hraT (by omega)
                      have hT0 := hcT k _ (intsV_get l k tn HTL.out)
                      have HTO : Hid (∀ X, Step (fun x => x = go ∨ (Value.slice at2 lt.length ct2).ownBlock = some x) w10 X → X.cell? ⟨gT, oT + k, none⟩ = some (.int .i64 (tn : Int))) := by
                        show ∀ X, _
                        intro X hX
                        obtain ⟨h1, h2⟩ := HLS4.out.trA (by omega) gT rfl
                        exact hX.cell hT0 (fun e => e.elim h1 (h2 tn _ hvt))
                      -- the row of what is missing behind
                      obtain ⟨aU', cU', hvaU, -, -, -, hraU⟩ := id HLS4.out.ro
                      obtain ⟨rfl, -, rfl⟩ : aU = aU' ∧ True ∧ cU = cU' := by cases hvaU; exact ⟨rfl, trivial, rfl⟩
                      obtain ⟨gU, oU, rfl, -, -, hcU⟩ := hraU (by omega)
                      obtain ⟨cq, hat, f⟩ := Each.cells 2 PlAt.len HLS4.out.el hq hcU
                      have HATQ0 := Lib.hid hat
                      obtain ⟨vv, rfl, hqr⟩ := hat
                      obtain ⟨aq, cqq, rfl, -⟩ := hqr
                      have HATQ : Hid (PlAt w10 B q [.int .i64 q.loc, .slice aq q.path.length cqq]) := HATQ0.out
                      have HQ01 : Hid (∀ X, Step (fun _ => False) w10 X → X.cell? ⟨gU, oU + j * 2, none⟩ = some (.int .i64 q.loc) ∧ X.cell? ⟨gU, oU + j * 2 + 1, none⟩ = some (.slice aq q.path.length cqq)) := by
                        show ∀ X, _
                        intro X hX
                        have f0 := f 0 _ rfl
                        have f1 := f 1 _ rfl
                        rw [Nat.add_zero] at f0
                        exact ⟨hX.cell f0 (fun h => h), hX.cell f1 (fun h => h)⟩
                      have HGT : Hid (∀ X, Step (fun _ => False) w10 X → X.cell? ⟨go, tn, none⟩ = some (.slice at2 lt.length ct2)) := by
                        show ∀ X, _
                        intro X hX
                        exact blk_cell (hX.keep HAS4.out.out.blk (fun h => h)) tn _ HVT.out
                      have HGB : Hid (∀ {XA : World} (X17 : World), Step (fun _ => False) w10 XA → XA.grownBy X17 (Value.slice at2 lt.length ct2).ownBlock → X17.heap[go]? = some (.cells vs4.toArray 69 (0, 0))) := by
                        show ∀ {XA} X17, _
                        intro XA X17 h1 h2
                        exact grown_keep h2 (h1.keep HAS4.out.out.blk (fun h => h)) (fun x hx e => by have := (HAS4.out.out.own hvt hx).1; have := HG.out; omega)
                      obtain ⟨hb, hhb⟩ : ∃ hb, hb = hasF lt q := ⟨_, rfl⟩
                      have HHB := Lib.hid hhb
                      have HHAS : Hid (∀ X, Step (fun _ => False) w10 X → Calls Try.prog 48 #[.slice at2 lt.length ct2, .agg #[.int .i64 q.loc, .slice aq q.path.length cqq]] X (IsBool hb X)) := by
                        show ∀ X, _
                        intro X hX
                        rw [hhb]
                        exact has_any19 B X.heap.size q [.int .i64 q.loc, .slice aq q.path.length cqq] lt xt _ X (PlAt.step hX (fun _ _ h => h) _ _ HATQ.out) (Each.mono (PlAt.step hX (fun _ _ h => h)) _ _ hxt) (Row.of_owns (hX.owns hownt (fun _ _ h => h)) (Nat.le_refl _)) (by omega)
                      have hqlm : q ∈ lm := List.mem_of_getElem? hq
                      have HQ := Lib.hid hq
                      have HTB : Hid ((tn : Int) ∈ succB b i) := by show _ ∈ _; rw [← HL.out]; exact List.mem_of_getElem? HTL.out
                      have HMISS : Hid (MissP b tn q) := by
                        have := HAS2.out.inv.behind HRCH.out hil HTB.out (q := q) (by rw [getD_nil HLI.out, ← HLM.out]; exact hqlm)
                        rwa [Int.toNat_natCast] at this
                      have HONE := Lib.hid (PlAt.one q _ HATQ.out)
                      have hi0' : (0 : Int) ≤ (k : Int) := by omega
                      have hi1' : (k : Int) < (l.length : Int) := by omega
                      have hj0' : (0 : Int) ≤ (j : Int) := by omega
                      have hj1' : (j : Int) < (lm.length : Int) := by omega
                      have ht0' : (0 : Int) ≤ (tn : Int) := by omega
                      have ht1' : (tn : Int) < (b.code.length : Int) := by omega
                      clear hq hvt hlt hownt hxt hvaT hraT hcT hT0 hvaU hraU hcU f hhb
                      go_upto_region 22 with fail
                      go_cut [79] (fun s79 wx => s79 = .bool (!hb) ∧ Step (fun _ => False) w10 wx)
                      case first =>
                        refine wp_region_rely (by kernel_rfl) (Det [.slice (some ⟨go, 0, none⟩) b.code.length b.code.length, .slice (some ⟨gT, oT, none⟩) l.length cT, .int .i64 (k : Int), .pointer (some ⟨gT, oT + k, none⟩), .int .i64 (tn : Int), .pointer (some ⟨go, tn, none⟩), .slice at2 lt.length ct2, .slice (some ⟨gU, oU, none⟩) lm.length cU, .int .i64 (j : Int), .pointer (some ⟨gU, oU + j * 2, none⟩), .agg #[.int .i64 q.loc, .slice aq q.path.length cqq], .bool hb, .bool (!hb)] w10) 13 rfl (by kernel_rfl) (by kernel_rfl) (by kernel_rfl) (by kernel_rfl) ?h0 ?hs ?hdone
                        case h0 => exact Det.zero ((Step.refl _ _).drew)
                        case hs =>
                          refine ⟨?_, ?_, ?_, ?_, ?_, ?_, ?_, ?_, ?_, ?_, ?_, ?_, ?_, trivial⟩
                          · intro L V X a ev evo hL hdep hJ
                            have o5 := evo 5 rfl
                            change a.tmps[5]?.getD undef = .slice (some ⟨go, 0, none⟩) b.code.length b.code.length at o5
                            go_simp
                            exact ⟨_, rfl, hJ.up 0 rfl⟩
                          · intro L V X a ev evo hL hdep hJ
                            have o11 := evo 11 rfl
                            change a.tmps[11]?.getD undef = .slice (some ⟨gT, oT, none⟩) l.length cT at o11
                            go_simp
                            exact ⟨_, rfl, hJ.up 1 rfl⟩
                          · intro L V X a ev evo hL hdep hJ
                            have o12 := evo 12 rfl
                            change a.tmps[12]?.getD undef = .int .i64 (k : Int) at o12
                            go_simp
                            exact ⟨_, rfl, hJ.up 2 rfl⟩
                          · intro L V X a ev evo hL hdep hJ
                            have e68 := (ev 1 68 rfl (hdep 1 rfl)).trans (hJ.1 1 _ rfl (hdep 1 rfl))
                            have e69 := (ev 2 69 rfl (hdep 2 rfl)).trans (hJ.1 2 _ rfl (hdep 2 rfl))
                            go_simp
                            exact ⟨_, rfl, hJ.up 3 rfl⟩
                          · intro L V X a ev evo hL hdep hJ
                            have e70 := (ev 3 70 rfl (hdep 3 rfl)).trans (hJ.1 3 _ rfl (hdep 3 rfl))
                            have ft := HTO.out X (hJ.2.mono (fun _ _ h => h.elim))
                            go_simp
                            exact ⟨_, rfl, hJ.up 4 rfl⟩
                          · intro L V X a ev evo hL hdep hJ
                            have e67 := (ev 0 67 rfl (hdep 0 rfl)).trans (hJ.1 0 _ rfl (hdep 0 rfl))
                            have e71 := (ev 4 71 rfl (hdep 4 rfl)).trans (hJ.1 4 _ rfl (hdep 4 rfl))
                            go_simp
                            exact ⟨_, rfl, hJ.up 5 rfl⟩
                          · intro L V X a ev evo hL hdep hJ
                            have e72 := (ev 5 72 rfl (hdep 5 rfl)).trans (hJ.1 5 _ rfl (hdep 5 rfl))
                            have fg := HGT.out X hJ.2
                            go_simp
                            exact ⟨_, rfl, hJ.up 6 rfl⟩
                          · intro L V X a ev evo hL hdep hJ
                            have o9 := evo 9 rfl
                            change a.tmps[9]?.getD undef = .slice (some ⟨gU, oU, none⟩) lm.length cU at o9
                            go_simp
                            exact ⟨_, rfl, hJ.up 7 rfl⟩
                          · intro L V X a ev evo hL hdep hJ
                            have o13 := evo 13 rfl
                            change a.tmps[13]?.getD undef = .int .i64 (j : Int) at o13
                            go_simp
                            exact ⟨_, rfl, hJ.up 8 rfl⟩
                          · intro L V X a ev evo hL hdep hJ
                            have e74 := (ev 7 74 rfl (hdep 7 rfl)).trans (hJ.1 7 _ rfl (hdep 7 rfl))
                            have e75 := (ev 8 75 rfl (hdep 8 rfl)).trans (hJ.1 8 _ rfl (hdep 8 rfl))
                            go_simp
                            exact ⟨_, rfl, hJ.up 9 rfl⟩
                          · intro L V X a ev evo hL hdep hJ
                            have e76 := (ev 9 76 rfl (hdep 9 rfl)).trans (hJ.1 9 _ rfl (hdep 9 rfl))
                            obtain ⟨fq0, fq1⟩ := HQ01.out X hJ.2
                            go_simp
                            exact ⟨_, rfl, hJ.up 10 rfl⟩
                          · intro L V X a ev evo hL hdep hJ
                            have e73 := (ev 6 73 rfl (hdep 6 rfl)).trans (hJ.1 6 _ rfl (hdep 6 rfl))
                            have e77 := (ev 10 77 rfl (hdep 10 rfl)).trans (hJ.1 10 _ rfl (hdep 10 rfl))
                            go_simp
                            refine (HHAS.out X hJ.2).mono ?_
                            rintro e wq ⟨rfl, sq⟩
                            exact ⟨_, rfl, (hJ.step sq).up 11 rfl⟩
                          · intro L V X a ev evo hL hdep hJ
                            have e78 := (ev 11 78 rfl (hdep 11 rfl)).trans (hJ.1 11 _ rfl (hdep 11 rfl))
                            go_simp
                            exact ⟨_, rfl, hJ.up 12 rfl⟩
                        case hdone =>
                          intro L V X hall hJ
                          have h12 := hJ.1 12 _ rfl (hall 12 (by decide))
                          have HSTX := Lib.hid hJ.2
                          rw [show List.range 13 = [0, 1, 2, 3, 4, 5, 6, 7, 8, 9, 10, 11, 12] from rfl]
                          simp only [putF, dstO, List.getElem?_toArray, List.getElem?_cons_zero, List.getElem?_cons_succ, Option.bind_some, Act.put, List.setIfInBounds_toArray, List.set_cons_zero, List.set_cons_succ, h12]
                          clear hJ h12
                          go_wp2_with fail
                          go_meet
                          case rel => exact ⟨rfl, HSTX.out⟩
                      case rest =>
                        obtain ⟨rfl, hst11⟩ := hcut
                        obtain ⟨w11, rfl⟩ : ∃ w11 : World, w11 = wc := ⟨_, rfl⟩
                        have HST11 := Lib.hid hst11
                        clear hst11
                        cases hb with
                        | true =>
                          have HSM5 : Hid (ag4 = false → ag = false ∧ ls4 = ls2 ∧ (∀ t ∈ l.take k, ∀ q ∈ lm, q ∈ ls2.getD t.toNat []) ∧ ∀ q ∈ lm.take (j + 1), q ∈ ls2.getD tn []) := fun h => by
                            obtain ⟨h1, h2, h3, h4⟩ := HSM4.out h
                            refine ⟨h1, h2, h3, fun x hx => ?_⟩
                            obtain ⟨hj', hja⟩ := List.getElem?_eq_some_iff.1 HQ.out
                            rw [List.take_succ_eq_append_getElem hj', hja] at hx
                            rcases List.mem_append.1 hx with hx | hx
                            · exact h4 x hx
                            · rw [List.mem_singleton.1 hx, ← h2, getD_nil HLT'.out]
                              exact hasF_iff.1 HHB.out.symm
                          have HAS5 := Lib.hid (HAS4.out.step HST11.out)
                          have HLS5 := Lib.hid (HLS4.out.step HST11.out)
                          go_wp2
                          go_roundg (gk - 1)
                          case rel => exact ⟨j + 1, ag4, vs4, ls4, by go_num, hjl, by omega, rfl, HAS5.out, HLE4.out, HLT4.out, HSM5.out, HLS5.out⟩
                          case measure => omega
                        | false =>
                          have HNOT : Hid (q ∉ lt) := fun h => by
                            have := hasF_iff.2 h
                            rw [← HHB.out] at this; cases this
                          have HNEI : Hid ((vs4[i]? = some (.slice (some ⟨gU, oU, none⟩) lm.length cU) ∧ ls4[i]? = some lm) → i ≠ tn) := fun h e => by
                            have h1 := h.2
                            rw [e, HLT'.out] at h1
                            have h2 := Option.some.inj h1
                            exact HNOT.out (by rw [h2]; exact hqlm)
                          have HLP : Hid (lackP (factsB b).length (ls4.set tn (lt ++ [q])) < lackP (factsB b).length ls) := by
                            have h1 := (HAS4.out.inv.push HLT'.out HMISS.out HNOT.out).room HOK.out (t := tn) (l := lt ++ [q]) (by rw [List.getElem?_set, if_pos rfl, if_pos (by rw [HAS4.out.inv.len]; exact htn)])
                            rw [List.length_append] at h1
                            have h2 := lackP_set (factsB b).length ls4 tn lt q HLT'.out (by simp at h1; omega)
                            have h3 := HLE4.out
                            show _ < _
                            omega
                          go_upto_region 23 with fail
                          refine wp_region_rely (by kernel_rfl) (AJ w11 base go tn [some (.slice (some ⟨go, 0, none⟩) b.code.length b.code.length), some (.slice (some ⟨gT, oT, none⟩) l.length cT), some (.int .i64 (k : Int)), some (.pointer (some ⟨gT, oT + k, none⟩)), some (.int .i64 (tn : Int)), some (.slice (some ⟨go, 0, none⟩) b.code.length b.code.length), some (.slice (some ⟨gT, oT, none⟩) l.length cT), some (.int .i64 (k : Int)), some (.pointer (some ⟨gT, oT + k, none⟩)), some (.int .i64 (tn : Int)), some (.pointer (some ⟨go, tn, none⟩)), some (.slice at2 lt.length ct2), some (.slice (some ⟨gU, oU, none⟩) lm.length cU), some (.int .i64 (j : Int)), some (.pointer (some ⟨gU, oU + j * 2, none⟩)), some (.agg #[.int .i64 q.loc, .slice aq q.path.length cqq]), none, none, some (.pointer (some ⟨go, tn, none⟩)), none] (.slice at2 lt.length ct2) lt.length xt [.int .i64 q.loc, .slice aq q.path.length cqq]) 20 rfl (by kernel_rfl) (by kernel_rfl) (by kernel_rfl) (by kernel_rfl) ?h0 ?hs ?hdone
                          case h0 => exact ⟨fun _ _ _ h => (nomatch h), (fun h => nomatch h), fun _ => (Step.refl _ _).drew, (fun h => nomatch h), (fun h => nomatch h), (fun h => nomatch h), (fun h => nomatch h)⟩
                          case hs =>
                            refine ⟨?_, ?_, ?_, ?_, ?_, ?_, ?_, ?_, ?_, ?_, ?_, ?_, ?_, ?_, ?_, ?_, ?_, ?_, ?_, ?_, trivial⟩
                            · intro L V X a ev evo hL hdep hJ
                              have o5 := evo 5 rfl
                              change a.tmps[5]?.getD undef = .slice (some ⟨go, 0, none⟩) b.code.length b.code.length at o5
                              go_simp
                              exact ⟨_, rfl, hJ.up 0 rfl (by decide) (by decide) (by decide)⟩
                            · intro L V X a ev evo hL hdep hJ
                              have o11 := evo 11 rfl
                              change a.tmps[11]?.getD undef = .slice (some ⟨gT, oT, none⟩) l.length cT at o11
                              go_simp
                              exact ⟨_, rfl, hJ.up 1 rfl (by decide) (by decide) (by decide)⟩
                            · intro L V X a ev evo hL hdep hJ
                              have o12 := evo 12 rfl
                              change a.tmps[12]?.getD undef = .int .i64 (k : Int) at o12
                              go_simp
                              exact ⟨_, rfl, hJ.up 2 rfl (by decide) (by decide) (by decide)⟩
                            · intro L V X a ev evo hL hdep hJ
                              have e81 := (ev 1 81 rfl (hdep 1 rfl)).trans (hJ.det 1 _ rfl (hdep 1 rfl))
                              have e82 := (ev 2 82 rfl (hdep 2 rfl)).trans (hJ.det 2 _ rfl (hdep 2 rfl))
                              go_simp
                              exact ⟨_, rfl, hJ.up 3 rfl (by decide) (by decide) (by decide)⟩
                            · intro L V X a ev evo hL hdep hJ
                              have e83 := (ev 3 83 rfl (hdep 3 rfl)).trans (hJ.det 3 _ rfl (hdep 3 rfl))
                              have ft := HTO.out X ((HST11.out.mono (fun _ _ h => h.elim)).trans hJ.st)
                              go_simp
                              exact ⟨_, rfl, hJ.up 4 rfl (by decide) (by decide) (by decide)⟩
                            · intro L V X a ev evo hL hdep hJ
                              have o5 := evo 5 rfl
                              change a.tmps[5]?.getD undef = .slice (some ⟨go, 0, none⟩) b.code.length b.code.length at o5
                              go_simp
                              exact ⟨_, rfl, hJ.up 5 rfl (by decide) (by decide) (by decide)⟩
                            · intro L V X a ev evo hL hdep hJ
                              have o11 := evo 11 rfl
                              change a.tmps[11]?.getD undef = .slice (some ⟨gT, oT, none⟩) l.length cT at o11
                              go_simp
                              exact ⟨_, rfl, hJ.up 6 rfl (by decide) (by decide) (by decide)⟩
                            · intro L V X a ev evo hL hdep hJ
                              have o12 := evo 12 rfl
                              change a.tmps[12]?.getD undef = .int .i64 (k : Int) at o12
                              go_simp
                              exact ⟨_, rfl, hJ.up 7 rfl (by decide) (by decide) (by decide)⟩
                            · intro L V X a ev evo hL hdep hJ
                              have e86 := (ev 6 86 rfl (hdep 6 rfl)).trans (hJ.det 6 _ rfl (hdep 6 rfl))
                              have e87 := (ev 7 87 rfl (hdep 7 rfl)).trans (hJ.det 7 _ rfl (hdep 7 rfl))
                              go_simp
                              exact ⟨_, rfl, hJ.up 8 rfl (by decide) (by decide) (by decide)⟩
                            · intro L V X a ev evo hL hdep hJ
                              have e88 := (ev 8 88 rfl (hdep 8 rfl)).trans (hJ.det 8 _ rfl (hdep 8 rfl))
                              have ft := HTO.out X ((HST11.out.mono (fun _ _ h => h.elim)).trans hJ.st)
                              go_simp
                              exact ⟨_, rfl, hJ.up 9 rfl (by decide) (by decide) (by decide)⟩
                            · intro L V X a ev evo hL hdep hJ
                              have e85 := (ev 5 85 rfl (hdep 5 rfl)).trans (hJ.det 5 _ rfl (hdep 5 rfl))
                              have e89 := (ev 9 89 rfl (hdep 9 rfl)).trans (hJ.det 9 _ rfl (hdep 9 rfl))
                              go_simp
                              exact ⟨_, rfl, hJ.up 10 rfl (by decide) (by decide) (by decide)⟩
                            · intro L V X a ev evo hL hdep hJ
                              have e90 := (ev 10 90 rfl (hdep 10 rfl)).trans (hJ.det 10 _ rfl (hdep 10 rfl))
                              have fg := HGT.out X (HST11.out.trans (hJ.s16 (hJ.no17 (.inr (.inr hL)))))
                              go_simp
                              exact ⟨_, rfl, hJ.up 11 rfl (by decide) (by decide) (by decide)⟩
                            · intro L V X a ev evo hL hdep hJ
                              have o9 := evo 9 rfl
                              change a.tmps[9]?.getD undef = .slice (some ⟨gU, oU, none⟩) lm.length cU at o9
                              go_simp
                              exact ⟨_, rfl, hJ.up 12 rfl (by decide) (by decide) (by decide)⟩
                            · intro L V X a ev evo hL hdep hJ
                              have o13 := evo 13 rfl
                              change a.tmps[13]?.getD undef = .int .i64 (j : Int) at o13
                              go_simp
                              exact ⟨_, rfl, hJ.up 13 rfl (by decide) (by decide) (by decide)⟩
                            · intro L V X a ev evo hL hdep hJ
                              have e92 := (ev 12 92 rfl (hdep 12 rfl)).trans (hJ.det 12 _ rfl (hdep 12 rfl))
                              have e93 := (ev 13 93 rfl (hdep 13 rfl)).trans (hJ.det 13 _ rfl (hdep 13 rfl))
                              go_simp
                              exact ⟨_, rfl, hJ.up 14 rfl (by decide) (by decide) (by decide)⟩
                            · intro L V X a ev evo hL hdep hJ
                              have e94 := (ev 14 94 rfl (hdep 14 rfl)).trans (hJ.det 14 _ rfl (hdep 14 rfl))
                              obtain ⟨fq0, fq1⟩ := HQ01.out X (HST11.out.trans (hJ.s16 (hJ.no17 (.inr (.inl hL)))))
                              go_simp
                              exact ⟨_, rfl, hJ.up 15 rfl (by decide) (by decide) (by decide)⟩
                            · intro L V X a ev evo hL hdep hJ
                              have e95 := (ev 15 95 rfl (hdep 15 rfl)).trans (hJ.det 15 _ rfl (hdep 15 rfl))
                              have hu := hJ.up16 hL (hdep 15 rfl) rfl
                              go_simp
                              exact ⟨_, rfl, hu⟩
                            · intro L V X a ev evo hL hdep hJ
                              have e91 := (ev 11 91 rfl (hdep 11 rfl)).trans (hJ.det 11 _ rfl (hdep 11 rfl))
                              have e96 := ev 16 96 rfl (hdep 16 rfl)
                              have hrow := hJ.p16 (hdep 16 rfl) hL
                              have h11 := hdep 11 rfl
                              have h16 := hdep 16 rfl
                              have h15 : L 15 = true := hJ.q16 h16
                              have hsx : Step (fun _ => False) w10 X := HST11.out.trans (hJ.s16 hL)
                              refine wp_append_row _ X.heap.size (.tmp 91) (.tmp 96) 69 rfl base 47 i0 (.agg #[.int .i64 0, .slice none 0 0]) 2 32 Try.underlying69 HI.out HZ0.out HZ1.out HZ2.out rfl (by decide) _ _ _ (by rw [evalTmp]; exact e91) (hsx.owns HOWT.out (fun _ _ h => h)) (V 16) 1 _ (by rw [evalTmp]; exact e96) hrow rfl HONE.out (by unfold maxLen; omega) (by omega) (Nat.le_trans HAS4.out.out.le hsx.size) ?_
                              intro v8 w8 hown8 hgrow8 hat8
                              exact ⟨v8, rfl, hJ.up17 h16 h15 h11 hL rfl hown8 hgrow8 hat8⟩
                            · intro L V X a ev evo hL hdep hJ
                              have e80 := (ev 0 80 rfl (hdep 0 rfl)).trans (hJ.det 0 _ rfl (hdep 0 rfl))
                              have e84 := (ev 4 84 rfl (hdep 4 rfl)).trans (hJ.det 4 _ rfl (hdep 4 rfl))
                              go_simp
                              exact ⟨_, rfl, hJ.up 18 rfl (by decide) (by decide) (by decide)⟩
                            · intro L V X a ev evo hL hdep hJ
                              have e98 := (ev 18 98 rfl (hdep 18 rfl)).trans (hJ.det 18 _ rfl (hdep 18 rfl))
                              have e97 := ev 17 97 rfl (hdep 17 rfl)
                              have h17 := hdep 17 rfl
                              obtain ⟨XA, X17, k1, k2, k3, k4, k5⟩ := hJ.p17 h17
                              rw [hL] at k5
                              simp only [Bool.false_eq_true, if_false] at k5
                              subst k5
                              obtain ⟨a8, c8, hv8⟩ := owns_slice k3
                              rw [hv8] at e97
                              have hb8 := HGB.out X ((HST11.out.trans k1)) k2
                              have g1 := blk_free hb8 tn
                              have g2 := blk_cell hb8 tn _ HVT.out
                              have hu := hJ.up19 h17 hL rfl undef
                              rw [hv8] at hu
                              go_simp
                              exact ⟨undef, hu⟩
                          case hdone =>
                            intro L V X hall hJ
                            obtain ⟨XA, X17, k1, k2, k3, k4, k5⟩ := hJ.p17 (hall 17 (by decide))
                            have hst := hJ.st
                            rw [hall 19 (by decide)] at k5
                            simp only [if_true] at k5
                            subst k5
                            have hsA : Step (fun _ => False) w10 XA := HST11.out.trans k1
                            have hoA := HAS4.out.out.step hsA
                            have hXT := Each.mono (PlAt.step hsA (fun _ _ h => h)) _ _ HXT.out
                            have HOUT : Hid (OutAt (X17.setCell ⟨go, tn, none⟩ (V 17)) base go B (vs4.set tn (V 17)) (ls4.set tn (lt ++ [q]))) := hoA.push HVT'.out HLT'.out hXT k3 k2 k4 (PlAt.step hsA (fun _ _ h => h) _ _ HATQ.out)
                            have hst2 : Step (fun x => x = go ∨ (.slice at2 lt.length ct2 : Value).ownBlock = some x) w10 (X17.setCell ⟨go, tn, none⟩ (V 17)) := (HST11.out.mono (fun _ _ h => h.elim)).trans hst
                            have HAS5 : Hid (AS w4 base go gm B b m (X17.setCell ⟨go, tn, none⟩ (V 17)) (vs4.set tn (V 17)) (ls4.set tn (lt ++ [q]))) := by
                              refine ⟨HOUT.out, HAS4.out.inv.push HLT'.out HMISS.out HNOT.out, hst2.keep HAS4.out.com (fun e => e.elim (fun e => by have := HG.out; omega) (fun e => by have := (HAS4.out.out.own HVT'.out e).1; have := HG.out; omega)), HAS4.out.st.trans (hst2.mono (fun x _ e => e.elim .inl (fun e => .inr (HAS4.out.out.own HVT'.out e).1)))⟩
                            have HLS5 : Hid (LS go B i (.slice (some ⟨gT, oT, none⟩) l.length cT) (.slice (some ⟨gU, oU, none⟩) lm.length cU) l lm xm (X17.setCell ⟨go, tn, none⟩ (V 17)) (vs4.set tn (V 17)) (ls4.set tn (lt ++ [q]))) := HLS4.out.push HAS4.out.out HVT'.out hsA hst2 k4 HNEI.out
                            rw [show List.range 20 = [0, 1, 2, 3, 4, 5, 6, 7, 8, 9, 10, 11, 12, 13, 14, 15, 16, 17, 18, 19] from rfl]
                            simp only [putF, dstO, List.getElem?_toArray, List.getElem?_cons_zero, List.getElem?_cons_succ, Option.bind_some, Act.put, List.setIfInBounds_toArray, List.set_cons_zero, List.set_cons_succ]
                            clear hJ k1 k2 k3 k4 hst hsA hoA hXT hst2
                            go_wp2
                            go_roundg (gk - 1)
                            case rel => exact ⟨j + 1, true, _, _, by go_num, hjl, by omega, rfl, HAS5.out, Nat.le_of_lt HLP.out, (fun _ => HLP.out), (fun h => by cases h), HLS5.out⟩
                            case measure => omega
                    · obtain rfl : j = lm.length := by omega
                      have HSM5 : Hid (ag4 = false → ag = false ∧ ls4 = ls2 ∧ ∀ t ∈ l.take (k + 1), ∀ q ∈ lm, q ∈ ls2.getD t.toNat []) := fun h => by
                        obtain ⟨h1, h2, h3, h4⟩ := HSM4.out h
                        refine ⟨h1, h2, fun t ht q hq => ?_⟩
                        obtain ⟨hj', hja⟩ := List.getElem?_eq_some_iff.1 HTL.out
                        rw [List.take_succ_eq_append_getElem hj', hja] at ht
                        rcases List.mem_append.1 ht with ht | ht
                        · exact h3 t ht q hq
                        · rw [List.mem_singleton.1 ht, Int.toNat_natCast]
                          exact h4 q (by rw [List.take_length]; exact hq)
                      clear hgg4
                      go_wp2
                      go_roundg (go3 - 1)
                      case rel => exact ⟨k + 1, ag4, vs4, ls4, by go_num, hkl, by omega, rfl, HAS4.out, HLE4.out, HLT4.out, HSM5.out, HLS4.out⟩
                      case measure => omega
                · obtain rfl : k = l.length := by omega
                  have HSM5 : Hid (ag3 = false → ls3 = ls ∧ ∀ j, j < i + 1 → Rch b j → ClosA b ls j) := fun h => by
                    obtain ⟨h1, h2, h3⟩ := HSM3.out h
                    obtain ⟨h4, h5⟩ := HSAME.out h1
                    refine ⟨h2.trans h4, fun j hj hr => ?_⟩
                    rcases Nat.lt_succ_iff_lt_or_eq.1 hj with h6 | rfl
                    · exact h5 j h6 hr
                    · intro t ht q hq
                      rw [← HL.out] at ht
                      rw [List.take_length] at h3
                      rw [← h4] at hq ⊢
                      rw [getD_nil HLI.out, ← HLM.out] at hq
                      exact h3 t ht q hq
                  clear hgg3
                  go_wp2
                  go_roundg (go2 - 1)
                  case rel => exact ⟨i + 1, ag3, vs3, ls3, by go_num, hil, by omega, rfl, HAS3.out, HLE3.out, HLT3.out, HSM5.out⟩
                  case measure => omega
        · obtain rfl : i = b.code.length := by omega
          have HREL : Hid (lackP (factsB b).length ls2 + (if ag = true then 1 else 0) ≤ go1 - 1) := by
            have h1 := HGG.out
            have h2 := HLE.out
            show _ ≤ _
            cases ag with
            | false => simp; omega
            | true => have := HLT.out rfl; simp; omega
          have HCL2 : Hid (ag = false → ∀ i, i < b.code.length → Rch b i → ClosA b ls2 i) := fun h i hi hr => by
            obtain ⟨h1, h2⟩ := HSAME.out h
            rw [h1]; exact h2 i hi hr
          have HMM : Hid (go1 - 1 < go1) := by have := HGG.out; show _ < _; omega
          clear hgg
          go_wp2
          go_roundg (go1 - 1)
          case rel => exact ⟨ag, vs2, ls2, rfl, HREL.out, HAS2.out, HCL2.out⟩
          case measure => exact HMM.out

end Go.Proofs.Ytilipeigjkmldaa
