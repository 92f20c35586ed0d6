/- Contract of chattelref20.Live: is there a way to a use of a local, not by those that are on the way already? -/
import Derived.Test.YtilipeigjkmldaaLivR
import Derived.Test.YtilipeigjkmldaaRefA
namespace Go.Proofs.Ytilipeigjkmldaa
open Go.RowKit

structure LvJ (W5 : World) (bb : Value) (ar : Option Addr) (n cr gr orr j : Nat) (t x i : Int) (vseen : Value) (seen : List Nat) (r : Bool) (L : Nat → Bool) (V : Nat → Value) (X : World) : Prop where
  st : Step (fun _ => False) W5 X
  p0 : L 0 = true → V 0 = bb
  p1 : L 1 = true → V 1 = .slice ar n cr
  p2 : L 2 = true → V 2 = .int .i64 j
  p3 : L 3 = true → V 3 = .pointer (some ⟨gr, orr + j, none⟩)
  p4 : L 4 = true → V 4 = .int .i64 t
  p5 : L 5 = true → V 5 = .int .i64 x
  p6 : L 6 = true → L 8 = false → X.ownsRow W5.heap.size 3 1 (V 6) 0 []
  p7 : L 7 = true → V 7 = vseen
  p8 : L 8 = true → L 11 = false → X.ownsRow W5.heap.size 3 1 (V 8) seen.length (natV seen)
  p9 : L 9 = true → V 9 = .int .i64 i
  p10 : L 10 = true → ∃ g, V 10 = .slice (some ⟨g, 0, none⟩) 1 1 ∧ W5.heap.size ≤ g ∧ X.heap[g]? = some (.cells #[.int .i64 i] 3 (0, 0))
  n6 : L 6 = true → L 8 = false → L 10 = true → ∀ g, (V 6).ownBlock = some g → (V 10).ownBlock ≠ some g
  n8 : L 8 = true → L 11 = false → L 10 = true → ∀ g, (V 8).ownBlock = some g → (V 10).ownBlock ≠ some g
  p11 : L 11 = true → X.ownsRow W5.heap.size 3 1 (V 11) (seen.length + 1) (natV seen ++ [.int .i64 i])
  p12 : L 12 = true → V 12 = .bool r
  q8 : L 8 = true → L 6 = true
  q11 : L 11 = true → L 8 = true ∧ L 10 = true

section
variable {W5 X X' : World} {bb : Value} {ar : Option Addr} {n cr gr orr j : Nat} {t x i : Int} {vseen : Value} {seen : List Nat} {r : Bool} {L : Nat → Bool} {V : Nat → Value} {v' : Value}
theorem LvJ.step (h : LvJ W5 bb ar n cr gr orr j t x i vseen seen r L V X) (hs : Step (fun _ => False) X X') : LvJ W5 bb ar n cr gr orr j t x i vseen seen r L V X' :=
  { h with
    st := h.st.trans hs
    p6 := fun e1 e2 => hs.owns (h.p6 e1 e2) (fun _ _ h => h)
    p8 := fun e1 e2 => hs.owns (h.p8 e1 e2) (fun _ _ h => h)
    p10 := fun e => let ⟨g, h1, h2, h3⟩ := h.p10 e; ⟨g, h1, h2, hs.keep h3 (fun h => h)⟩
    p11 := fun e => hs.owns (h.p11 e) (fun _ _ h => h) }
theorem LvJ.f11 (h : LvJ W5 bb ar n cr gr orr j t x i vseen seen r L V X) (hL : L 8 = false ∨ L 10 = false) : L 11 = false := by
  cases e : L 11 with
  | false => rfl
  | true => rcases hL with h1 | h1 <;> simp [(h.q11 e).1, (h.q11 e).2] at h1
theorem LvJ.f8 (h : LvJ W5 bb ar n cr gr orr j t x i vseen seen r L V X) (hL : L 6 = false) : L 8 = false := by
  cases e : L 8 with
  | false => rfl
  | true => rw [h.q8 e] at hL; cases hL
theorem LvJ.lt10 (h : LvJ W5 bb ar n cr gr orr j t x i vseen seen r L V X) (hL : L 10 = true) : ∀ g, (V 10).ownBlock = some g → g < X.heap.size := by
  intro g hg
  obtain ⟨g', h1, h2, h3⟩ := h.p10 hL
  rw [h1] at hg
  cases hg
  exact blk_lt h3
theorem LvJ.up6 (h : LvJ W5 bb ar n cr gr orr j t x i vseen seen r L V X) : LvJ W5 bb ar n cr gr orr j t x i vseen seen r (updL L 6) (updV V 6 (.slice (some ⟨X.heap.size, 0, none⟩) 0 0)) (X.alloc (.cells #[] 3)) :=
  { h.step ((Step.refl _ _).alloc (.cells #[] 3)) with
    p6 := fun _ _ => ⟨rfl, .inr ⟨X.heap.size, 0, #[], rfl, h.st.size, blk_new _ _, Nat.le_refl _, by decide, rfl, rfl⟩⟩
    n6 := fun _ _ e g hg e2 => by
      have h1 := h.lt10 e g e2
      have h2 : X.heap.size = g := Option.some.inj hg
      omega
    q8 := fun _ => rfl }
theorem LvJ.up10 (h : LvJ W5 bb ar n cr gr orr j t x i vseen seen r L V X) : LvJ W5 bb ar n cr gr orr j t x i vseen seen r (updL L 10) (updV V 10 (.slice (some ⟨X.heap.size, 0, none⟩) 1 1)) (X.alloc (.cells #[.int .i64 i] 3)) :=
  { h.step ((Step.refl _ _).alloc (.cells #[.int .i64 i] 3)) with
    p10 := fun _ => ⟨X.heap.size, rfl, h.st.size, blk_new _ _⟩
    n6 := fun e1 e2 _ g hg e3 => by
      have := ((h.p6 e1 e2).lt g hg).2
      cases e3
      exact Nat.lt_irrefl _ this
    n8 := fun e1 e2 _ g hg e3 => by
      have := ((h.p8 e1 e2).lt g hg).2
      cases e3
      exact Nat.lt_irrefl _ this
    q11 := fun e => ⟨(h.q11 e).1, rfl⟩ }
theorem LvJ.up8 (h : LvJ W5 bb ar n cr gr orr j t x i vseen seen r L V X) (hL : L 8 = false) (h6 : L 6 = true) (hown : X'.ownsRow W5.heap.size 3 1 v' seen.length (natV seen)) (hgrow : X.grownBy X' (V 6).ownBlock) (hat : v'.ownBlock = (V 6).ownBlock ∨ v'.ownBlock = some X.heap.size) :
    LvJ W5 bb ar n cr gr orr j t x i vseen seen r (updL L 8) (updV V 8 v') X' := by
  have h11 := h.f11 (.inl hL)
  have ho := h.p6 h6 hL
  exact { h with
    st := h.st.then (grown_step hgrow) (fun q hq e => by have := (ho.lt q e).1; omega)
    p6 := fun _ e => (nomatch (show true = false from e))
    p8 := fun _ _ => hown
    p10 := fun e => by
      obtain ⟨g, h1, h2, h3⟩ := h.p10 e
      refine ⟨g, h1, h2, grown_keep hgrow h3 (fun q hq e2 => ?_)⟩
      subst e2
      have h1' : V 10 = _ := h1
      exact h.n6 h6 hL e g hq (by rw [h1']; rfl)
    n6 := fun _ e => (nomatch (show true = false from e))
    n8 := fun _ _ e g hg => by
      have e' : L 10 = true := e
      exact ne_grow (a := v') (b := V 6) (c := V 10) hat (h.n6 h6 hL e') (fun e2 => by have := h.lt10 e' _ e2; omega) g hg
    p11 := fun e => absurd (show L 11 = true from e) (by rw [h11]; decide)
    q8 := fun _ => h6
    q11 := fun e => absurd (show L 11 = true from e) (by rw [h11]; decide) }
theorem LvJ.up11 (h : LvJ W5 bb ar n cr gr orr j t x i vseen seen r L V X) (hL : L 11 = false) (h8 : L 8 = true) (h10 : L 10 = true) (hown : X'.ownsRow W5.heap.size 3 1 v' (seen.length + 1) (natV seen ++ [.int .i64 i])) (hgrow : X.grownBy X' (V 8).ownBlock) :
    LvJ W5 bb ar n cr gr orr j t x i vseen seen r (updL L 11) (updV V 11 v') X' := by
  have ho := h.p8 h8 hL
  exact { h with
    st := h.st.then (grown_step hgrow) (fun q hq e => by have := (ho.lt q e).1; omega)
    p6 := fun _ e => absurd (show L 8 = true from h8) (by rw [show L 8 = false from e]; decide)
    p8 := fun _ e => (nomatch (show true = false from e))
    p10 := fun e => by
      obtain ⟨g, h1, h2, h3⟩ := h.p10 e
      refine ⟨g, h1, h2, grown_keep hgrow h3 (fun q hq e2 => ?_)⟩
      subst e2
      have h1' : V 10 = _ := h1
      exact h.n8 h8 hL h10 g hq (by rw [h1']; rfl)
    n8 := fun _ e => (nomatch (show true = false from e))
    p11 := fun _ => hown
    q11 := fun _ => ⟨h8, h10⟩ }
end

theorem succI_len (x : Ins) (i : Nat) : (succI x i).length ≤ 2 := by
  unfold succI
  (repeat' split) <;> simp

def LivP (b : Bod) (x : Nat) (f : Nat) : Prop := ∀ (B i : Nat) (seen : List Nat) (bs : List Value) (v : Value) (w : World), BodAt w B b bs → B ≤ w.heap.size → Row w w.heap.size v seen.length (natV seen) → i < b.code.length → seen.Nodup → (∀ q ∈ seen, q < b.code.length) → f + seen.length = b.code.length + 1 →
  Calls Try.prog 16 #[.agg bs.toArray, .int .i64 i, .int .i64 x, v] w (IsBool (liveR b x f i seen) w)

set_option maxRecDepth 100000 in
set_option maxHeartbeats 8000000 in
theorem liv_any (b : Bod) (x : Nat) (hok : bodOk b) (hs : BodSmall b) (hn : b.code.length ≤ 1000) (hx : x ≤ 100000) : ∀ f, LivP b x f
  | 0 => fun B i seen bs v w _ _ _ _ hnd hsl hf => by have := nodup_bound _ _ hnd hsl; omega
  | f + 1 => by
    intro B i seen bs v w hat hB hrow hi hnd hsl hf
    have IH := Lib.hid (liv_any b x hok hs hn hx f)
    have HOK := Lib.hid hok
    have HSM := Lib.hid hs
    have HAT := Lib.hid hat
    have HROW := Lib.hid hrow
    have hsn := nodup_bound _ _ hnd hsl
    have HND := Lib.hid hnd
    have HSL := Lib.hid hsl
    obtain ⟨vl, vc, xl, xs, rfl, ⟨a1, c1, rfl, -⟩, hxs, hrw⟩ := hat
    have HXS := Lib.hid hxs
    have HRW := Lib.hid hrw
    obtain ⟨a2, c2, rfl, -⟩ := hrw
    obtain ⟨sa, cs, rfl, hcs1, hcs2, -, hrr⟩ := hrow
    have HRR := Lib.hid hrr
    obtain ⟨r0, hr0⟩ : ∃ r0, r0 = liveR b x (f + 1) i seen := ⟨_, rfl⟩
    have HR0 : Hid (seen.contains i = true → r0 = false) := by
      show _ → _
      intro h
      rw [hr0]; unfold liveR; rw [if_pos h]
    have HR1 : Hid (seen.contains i = false → r0 = if usedB b i x = true then true else if lostB b i x = true then false else (succB b i).any (fun t => liveR b x f t.toNat (seen ++ [i]))) := by
      show _ → _
      intro h
      rw [hr0, liveR, if_neg (by rw [h]; decide)]
    rw [← hr0]
    obtain ⟨w1, hw1⟩ : ∃ w1 : World, w1 = w.alloc (.cells #[.string b.name, .int .i64 b.params, .slice a1 b.locals c1, .slice a2 b.code.length c2] 29) := ⟨_, rfl⟩
    have HST1 : Hid (Step (fun _ => False) w w1) := by show Step _ _ _; rw [hw1]; exact (Step.refl _ _).alloc _
    have HBX1 : Hid (w1.heap[w.heap.size]? = some (.cells #[.string b.name, .int .i64 b.params, .slice a1 b.locals c1, .slice a2 b.code.length c2] 29 (0, 0))) := by show _ = _; rw [hw1]; exact blk_new _ _
    have HW1 := Lib.hid hw1
    clear hw1 hr0 hnd hsl hxs hrr hok hs
    go_enter Try.func16, Try.ntmps16
    go_upto_region 1 with fail
    rw [← HW1.out]
    go_upto_block 0 with fail
    go_wp2_with fail
    go_loopg [9] seen.length (fun gg s9 wr => ∃ k : Nat, s9 = .int .i64 k ∧ k ≤ seen.length ∧ seen.length - k ≤ gg ∧ (∀ j, j < k → seen[j]? ≠ some i) ∧ wr = w1)
    case atStart => exact ⟨0, rfl, Nat.zero_le _, by omega, (fun j hj => by omega), rfl⟩
    case round =>
      obtain ⟨k, rfl, hk, hgg, hno, rfl⟩ := hrel
      have HNO := Lib.hid hno
      clear hno
      by_cases hlt : k < seen.length
      · obtain ⟨y, hy⟩ : ∃ y, seen[k]? = some y := ⟨_, List.getElem?_eq_getElem hlt⟩
        obtain ⟨gs, os, rfl, -, -, hc⟩ := HRR.out (by omega)
        have f1 := HST1.out.cell (hc k _ (natV_get seen k y hy)) (fun h => h)
        have hi0 : (0 : Int) ≤ (k : Int) := by omega
        have hi1 : (k : Int) < (seen.length : Int) := by omega
        have HY := Lib.hid hy
        clear hc hy
        by_cases e : y = i
        · have e1 : ((y : Int) == (i : Int)) = true := by simp [e]
          have HRF : Hid (r0 = false) := HR0.out (by rw [← e]; simpa using List.mem_of_getElem? HY.out)
          clear e
          go_wp2_with fail
          go_ret
          exact ⟨ret_bool HRF.out.symm, HST1.out⟩
        · have e1 : ((y : Int) == (i : Int)) = false := by simp; omega
          have HNX : Hid (∀ j, j < k + 1 → seen[j]? ≠ some i) := by
            show ∀ j, _
            intro j hj
            by_cases ej : j = k
            · rw [ej, HY.out]; intro h; cases h; exact e rfl
            · exact HNO.out j (by omega)
          clear e
          go_wp2_with fail
          go_roundg (gk - 1)
          case rel => exact ⟨k + 1, by go_num, hlt, by rw [← Nat.sub_sub]; exact Nat.sub_le_sub_right hgg 1, HNX.out, rfl⟩
          case measure => omega
      · obtain rfl : k = seen.length := by omega
        have HNI : Hid (seen.contains i = false) := by
          show _ = _
          cases e : seen.contains i with
          | false => rfl
          | true =>
            obtain ⟨j, hj⟩ := List.getElem?_of_mem (show i ∈ seen by simpa using e)
            exact absurd hj (HNO.out j (List.getElem?_eq_some_iff.1 hj).1)
        have HR2 := Lib.hid (HR1.out HNI.out)
        have b0 := blk_cell HBX1.out 0 _ rfl
        have b1 := blk_cell HBX1.out 1 _ rfl
        have b2 := blk_cell HBX1.out 2 _ rfl
        have b3 := blk_cell HBX1.out 3 _ rfl
        obtain ⟨w2, rfl⟩ : ∃ w2 : World, w2 = wr := ⟨_, rfl⟩
        have HDO := Lib.hid (does_any B b [.string b.name, .int .i64 b.params, .slice a1 b.locals c1, .slice a2 b.code.length c2] i x w2 (BodAt.step HST1.out (fun _ _ h => h) _ _ HAT.out) hi HSM.out (Nat.le_trans hB HST1.out.size))
        obtain ⟨uu, huu⟩ : ∃ uu, uu = usedB b i x := ⟨_, rfl⟩
        obtain ⟨lo, hlo⟩ : ∃ lo, lo = lostB b i x := ⟨_, rfl⟩
        rw [← huu, ← hlo] at HDO HR2
        clear huu hlo
        go_wp2_with fail
        refine HDO.out.mono ?_
        rintro e w3 ⟨rfl, h3⟩
        have HS3 := Lib.hid (HST1.out.trans h3)
        have HBX3 := Lib.hid (h3.keep HBX1.out (fun h => h))
        clear b0 b1 b2 b3 h3
        cases uu with
        | true =>
          have HRF : Hid (r0 = true) := by show _ = _; rw [HR2.out]; rfl
          go_wp2_with fail
          go_ret
          exact ⟨ret_bool HRF.out.symm, HS3.out⟩
        | false =>
          cases lo with
          | true =>
            have HRF : Hid (r0 = false) := by show _ = _; rw [HR2.out]; rfl
            go_wp2_with fail
            go_ret
            exact ⟨ret_bool HRF.out.symm, HS3.out⟩
          | false =>
            obtain ⟨l, hl⟩ : ∃ l, l = succB b i := ⟨_, rfl⟩
            have HR3 : Hid (r0 = l.any (fun t => liveR b x f t.toNat (seen ++ [i]))) := by show _ = _; rw [HR2.out, hl]; rfl
            obtain ⟨x0, hx0⟩ : ∃ x0, b.code[i]? = some x0 := ⟨_, List.getElem?_eq_getElem hi⟩
            have HLS : Hid (succI x0 i = l) := by show _ = _; rw [hl]; unfold succB; rw [hx0]
            have HTL : Hid (∀ t ∈ l, 0 ≤ t ∧ t < (b.code.length : Int)) := by show ∀ t ∈ l, _; rw [hl]; exact HOK.out.succ i
            have HSUC := Lib.hid (rsucc_any B b.code (.slice a2 b.code.length c2) i x0 w3 ⟨xs, Each.mono (InAt.step HS3.out (fun _ _ h => h)) _ _ HXS.out, HRW.out.step HS3.out (fun _ _ h => h)⟩ hx0)
            have b3 := blk_cell HBX3.out 3 _ rfl
            have hl2 : l.length ≤ 2 := by rw [← HLS.out]; exact succI_len _ _
            clear hl hx0
            go_wp2_with fail
            refine HSUC.out.mono ?_
            rintro e w4 ⟨⟨vr, rfl, hrow4⟩, h4⟩
            rw [HLS.out] at hrow4
            obtain ⟨ar, cr, rfl, -, -, -, hr4⟩ := hrow4
            have HR4 := Lib.hid hr4
            have HS4 := Lib.hid (HS3.out.trans h4)
            have HBX4 := Lib.hid (h4.keep HBX3.out (fun h => h))
            clear b3 hr4 h4
            go_wp2_with fail
            go_loopg [13] l.length (fun gg s13 wr => ∃ j : Nat, s13 = .int .i64 j ∧ j ≤ l.length ∧ l.length - j ≤ gg ∧ ((l.take j).any (fun t => liveR b x f t.toNat (seen ++ [i]))) = false ∧ Step (fun _ => False) w4 wr)
            case atStart => exact ⟨0, rfl, Nat.zero_le _, by omega, rfl, Step.refl _ _⟩
            case round =>
              obtain ⟨j, rfl, hj, hgg2, hno, hst⟩ := hrel
              have HNO2 := Lib.hid hno
              have HST := Lib.hid hst
              clear hno hst
              by_cases hjl : j < l.length
              · obtain ⟨t, ht⟩ : ∃ t, l[j]? = some t := ⟨_, List.getElem?_eq_getElem hjl⟩
                obtain ⟨gr, orr, rfl, -, -, hc⟩ := HR4.out (by omega)
                have f1 := HST.out.cell (hc j _ (intsV_get l j t ht)) (fun h => h)
                have HF1 := Lib.hid f1
                have htr := HTL.out t (List.mem_of_getElem? ht)
                obtain ⟨tn, htn⟩ : ∃ tn : Nat, (tn : Int) = t := ⟨t.toNat, Int.toNat_of_nonneg htr.1⟩
                have HTN : Hid (t.toNat = tn) := by show _ = _; omega
                have HTLT : Hid (tn < b.code.length) := by show _ < _; omega
                obtain ⟨r, hr⟩ : ∃ r, r = liveR b x f tn (seen ++ [i]) := ⟨_, rfl⟩
                have HRT := Lib.hid hr
                have HTJ := Lib.hid ht
                have HT : Hid ((l.take (j + 1)).any (fun t => liveR b x f t.toNat (seen ++ [i])) = r) := by
                  show _ = _
                  obtain ⟨hj', e⟩ := List.getElem?_eq_some_iff.1 ht
                  rw [List.take_succ_eq_append_getElem hj', List.any_append, HNO2.out, e, List.any_cons, HTN.out, hr]
                  simp
                have HTR : Hid (r = true → r0 = true) := by
                  show _ → _
                  intro h
                  rw [HR3.out]
                  exact List.any_eq_true.2 ⟨t, List.mem_of_getElem? ht, by rw [HTN.out, ← hr]; exact h⟩
                obtain ⟨w5, rfl⟩ : ∃ w5 : World, w5 = wr := ⟨_, rfl⟩
                have HS5 : Hid (Step (fun _ => False) w w5) := HS4.out.trans HST.out
                have HBX5 := Lib.hid (HST.out.keep HBX4.out (fun h => h))
                have HLOC : Hid (i < b.code.length ∧ seen.contains i = false) := ⟨hi, HNI.out⟩
                have hi0 : (0 : Int) ≤ (j : Int) := by omega
                have hi1 : (j : Int) < (l.length : Int) := by omega
                have ha2 : l.length - (j + 1) ≤ gk - 1 := by rw [← Nat.sub_sub]; exact Nat.sub_le_sub_right hgg2 1
                have HMM : Hid (gk - 1 < gk) := by show _ < _; omega
                obtain ⟨j0, hj0, hy0, hy1, hy2⟩ := info_parts Try.infoInt
                have HJ := Lib.hid hj0
                have HY0 := Lib.hid hy0
                have HY1 := Lib.hid hy1
                have HY2 := Lib.hid hy2
                clear hc ht htr htn hr hj0 hy0 hy1 hy2 f1
                go_upto_region 15 with fail
                go_cut [57] (fun s57 wx => s57 = .bool r ∧ Step (fun _ => False) w5 wx)
                case first =>
                  refine wp_region_rely (by kernel_rfl) (LvJ w5 (.agg #[.string b.name, .int .i64 b.params, .slice a1 b.locals c1, .slice a2 b.code.length c2]) (some ⟨gr, orr, none⟩) l.length cr gr orr j t x i (.slice sa seen.length cs) seen r) 13 rfl (by kernel_rfl) (by kernel_rfl) (by kernel_rfl) (by kernel_rfl) ?h0 ?hs ?hdone
                  case h0 => exact ⟨(Step.refl _ _).drew, (fun h => nomatch h), (fun h => nomatch h), (fun h => nomatch h), (fun h => nomatch h), (fun h => nomatch h), (fun h => nomatch h), (fun h => nomatch h), (fun h => nomatch h), (fun h => nomatch h), (fun h => nomatch h), (fun h => nomatch h), (fun h => nomatch h), (fun h => nomatch h), (fun h => nomatch h), (fun h => nomatch h), (fun h => nomatch h), (fun h => nomatch h)⟩
                  case hs =>
                    refine ⟨?_, ?_, ?_, ?_, ?_, ?_, ?_, ?_, ?_, ?_, ?_, ?_, ?_, trivial⟩
                    · intro L V X a ev evo hL hdep hJ
                      have o1 := evo 4 rfl
                      change a.tmps[4]?.getD undef = .pointer (some ⟨w.heap.size, 0, none⟩) at o1
                      have hb := hJ.st.keep HBX5.out (fun h => h)
                      have d0 := blk_cell hb 0 _ rfl
                      have d1 := blk_cell hb 1 _ rfl
                      have d2 := blk_cell hb 2 _ rfl
                      have d3 := blk_cell hb 3 _ rfl
                      go_simp
                      exact ⟨_, rfl, { hJ with p0 := fun _ => rfl }⟩
                    · intro L V X a ev evo hL hdep hJ
                      have o1 := evo 12 rfl
                      change a.tmps[12]?.getD undef = .slice (some ⟨gr, orr, none⟩) l.length cr at o1
                      go_simp
                      exact ⟨_, rfl, { hJ with p1 := fun _ => rfl }⟩
                    · intro L V X a ev evo hL hdep hJ
                      have o1 := evo 13 rfl
                      change a.tmps[13]?.getD undef = .int .i64 (j : Int) at o1
                      go_simp
                      exact ⟨_, rfl, { hJ with p2 := fun _ => rfl }⟩
                    · intro L V X a ev evo hL hdep hJ
                      have e201 := (ev 1 46 rfl (hdep 1 rfl)).trans (hJ.p1 (hdep 1 rfl))
                      have e202 := (ev 2 47 rfl (hdep 2 rfl)).trans (hJ.p2 (hdep 2 rfl))
                      go_simp
                      exact ⟨_, rfl, { hJ with p3 := fun _ => rfl }⟩
                    · intro L V X a ev evo hL hdep hJ
                      have e203 := (ev 3 48 rfl (hdep 3 rfl)).trans (hJ.p3 (hdep 3 rfl))
                      have d1 := hJ.st.cell HF1.out (fun h => h)
                      go_simp
                      exact ⟨_, rfl, { hJ with p4 := fun _ => rfl }⟩
                    · intro L V X a ev evo hL hdep hJ
                      have o1 := evo 2 rfl
                      change a.tmps[2]?.getD undef = .int .i64 (x : Int) at o1
                      go_simp
                      exact ⟨_, rfl, { hJ with p5 := fun _ => rfl }⟩
                    · intro L V X a ev evo hL hdep hJ
                      have hu := hJ.up6
                      go_simp
                      exact ⟨_, rfl, hu⟩
                    · intro L V X a ev evo hL hdep hJ
                      have o1 := evo 3 rfl
                      change a.tmps[3]?.getD undef = .slice sa seen.length cs at o1
                      go_simp
                      exact ⟨_, rfl, { hJ with p7 := fun _ => rfl }⟩
                    · intro L V X a ev evo hL hdep hJ
                      have e206 := ev 6 51 rfl (hdep 6 rfl)
                      have e207 := (ev 7 52 rfl (hdep 7 rfl)).trans (hJ.p7 (hdep 7 rfl))
                      have ho := hJ.p6 (hdep 6 rfl) hL
                      have hrow := HROW.out.step (HS5.out.trans hJ.st) (S := fun _ => False) (fun _ _ h => h)
                      refine wp_append_row _ w.heap.size (.tmp 51) (.tmp 52) 38 rfl w5.heap.size 3 j0 (.int .i64 0) 1 8 Try.underlying38 HJ.out HY0.out HY1.out HY2.out rfl (by decide) (V 6) 0 [] (by rw [evalTmp]; exact e206) ho _ seen.length (natV seen) (by rw [evalTmp]; exact e207) hrow (by simp [natV, intsV]) (intsV_one _) (by unfold maxLen; omega) (by omega) hJ.st.size ?_
                      intro v8 w8 hown8 hgrow8 hat8
                      rw [Nat.zero_add, List.nil_append] at hown8
                      exact ⟨v8, rfl, hJ.up8 hL (hdep 6 rfl) hown8 hgrow8 hat8⟩
                    · intro L V X a ev evo hL hdep hJ
                      have o1 := evo 1 rfl
                      change a.tmps[1]?.getD undef = .int .i64 (i : Int) at o1
                      go_simp
                      exact ⟨_, rfl, { hJ with p9 := fun _ => rfl }⟩
                    · intro L V X a ev evo hL hdep hJ
                      have e209 := (ev 9 54 rfl (hdep 9 rfl)).trans (hJ.p9 (hdep 9 rfl))
                      have hu := hJ.up10
                      go_simp
                      exact ⟨_, rfl, hu⟩
                    · intro L V X a ev evo hL hdep hJ
                      have e208 := ev 8 53 rfl (hdep 8 rfl)
                      have e210 := ev 10 55 rfl (hdep 10 rfl)
                      have ho := hJ.p8 (hdep 8 rfl) hL
                      obtain ⟨g10, hv10, hg10, hb10⟩ := hJ.p10 (hdep 10 rfl)
                      rw [hv10] at e210
                      refine wp_append_row _ X.heap.size (.tmp 53) (.tmp 55) 38 rfl w5.heap.size 3 j0 (.int .i64 0) 1 8 Try.underlying38 HJ.out HY0.out HY1.out HY2.out rfl (by decide) (V 8) seen.length (natV seen) (by rw [evalTmp]; exact e208) ho _ 1 [.int .i64 (i : Int)] (by rw [evalTmp]; exact e210) ((Row.new (cs := [.int .i64 (i : Int)]) hb10 (by decide)).mono (blk_lt hb10)) rfl (by intro u hu; rw [List.mem_singleton.1 hu]; rfl) (by unfold maxLen; omega) (by omega) hJ.st.size ?_
                      intro v8 w8 hown8 hgrow8 hat8
                      exact ⟨v8, rfl, hJ.up11 hL (hdep 8 rfl) (hdep 10 rfl) hown8 hgrow8⟩
                    · intro L V X a ev evo hL hdep hJ
                      have e200 := (ev 0 45 rfl (hdep 0 rfl)).trans (hJ.p0 (hdep 0 rfl))
                      have e204 := (ev 4 49 rfl (hdep 4 rfl)).trans (hJ.p4 (hdep 4 rfl))
                      have e205 := (ev 5 50 rfl (hdep 5 rfl)).trans (hJ.p5 (hdep 5 rfl))
                      have e211 := ev 11 56 rfl (hdep 11 rfl)
                      have ho := hJ.p11 (hdep 11 rfl)
                      have hs := HS5.out.trans hJ.st
                      have hni : ¬ i ∈ seen := by have := HLOC.out.2; simpa using this
                      have hc := IH.out B tn (seen ++ [i]) [.string b.name, .int .i64 b.params, .slice a1 b.locals c1, .slice a2 b.code.length c2] (V 11) X (BodAt.step hs (fun _ _ h => h) _ _ HAT.out) (Nat.le_trans hB hs.size)
                        (by rw [List.length_append, natV_snoc]; exact Row.of_owns ho (Nat.le_refl _)) HTLT.out
                        (by
                          rw [List.nodup_append]
                          exact ⟨HND.out, by simp, fun a ha c hc e => by rw [List.mem_singleton.1 hc] at e; exact hni (e ▸ ha)⟩)
                        (fun q hq => by
                          rcases List.mem_append.1 hq with h | h
                          · exact HSL.out q h
                          · rw [List.mem_singleton.1 h]; exact HLOC.out.1)
                        (by simp; omega)
                      have htn : (t : Int) = (tn : Int) := by have h1 := HTN.out; have h2 := (HTL.out t (List.mem_of_getElem? HTJ.out)).1; omega
                      rw [htn] at e204
                      clear htn
                      rw [← HRT.out] at hc
                      go_simp
                      refine hc.mono ?_
                      rintro e w9 ⟨rfl, h9⟩
                      exact ⟨_, rfl, { hJ.step h9 with p12 := fun _ => rfl }⟩
                  case hdone =>
                    intro L V X hall hJ
                    have h12 := hJ.p12 (hall 12 (by decide))
                    have hst := hJ.st
                    rw [show List.range 13 = [0, 1, 2, 3, 4, 5, 6, 7, 8, 9, 10, 11, 12] from rfl]
                    simp only [putF, dstO, List.getElem?_toArray, List.getElem?_cons_zero, List.getElem?_cons_succ, Option.bind_some, Act.put, List.setIfInBounds_toArray, List.set_cons_zero, List.set_cons_succ]
                    clear hJ
                    go_wp2_with fail
                    go_meet
                    case rel => exact ⟨by first | exact h12 | rfl, hst⟩
                case rest =>
                  obtain ⟨w6, rfl⟩ : ∃ w6 : World, w6 = wc := ⟨_, rfl⟩
                  obtain ⟨rfl, h6⟩ := hcut
                  have HS6 := Lib.hid h6
                  clear h6
                  cases r with
                  | true =>
                    have HRF : Hid (r0 = true) := HTR.out rfl
                    go_wp2_with fail
                    go_ret
                    exact ⟨ret_bool HRF.out.symm, HS5.out.trans HS6.out⟩
                  | false =>
                    go_wp2_with fail
                    go_roundg (gk - 1)
                    case rel => exact ⟨j + 1, by go_num, hjl, ha2, HT.out, HST.out.trans HS6.out⟩
                    case measure => exact HMM.out
              · obtain rfl : j = l.length := by omega
                have HRF : Hid (r0 = false) := by show _ = _; rw [HR3.out]; have := HNO2.out; rw [List.take_length] at this; exact this
                go_wp2_with fail
                go_ret
                exact ⟨ret_bool HRF.out.symm, HS4.out.trans HST.out⟩

end Go.Proofs.Ytilipeigjkmldaa
