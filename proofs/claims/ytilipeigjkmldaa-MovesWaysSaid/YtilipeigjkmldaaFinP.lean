/- finder.problem: how what may be missing goes along a body. -/
import Derived.Test.YtilipeigjkmldaaFinI
import Derived.Test.YtilipeigjkmldaaFinR
import Derived.Test.YtilipeigjkmldaaProbC
namespace Go.Proofs.Ytilipeigjkmldaa
open Go.RowKit

def doL (l : List Acc) (s : Pl → Bool) : Pl → Bool := l.foldl (fun s a => doB a s) s
theorem doL_snoc (l : List Acc) (a : Acc) (s : Pl → Bool) : doL (l ++ [a]) s = doB a (doL l s) := by simp [doL]
theorem doL_take {l : List Acc} {j : Nat} {a : Acc} (h : l[j]? = some a) (s : Pl → Bool) : doL (l.take (j + 1)) s = doB a (doL (l.take j) s) := by
  obtain ⟨hj, rfl⟩ := List.getElem?_eq_some_iff.1 h
  rw [List.take_succ_eq_append_getElem hj, doL_snoc]
/- The facts that an instruction makes, and that it ends: by their numbers. -/
def genM (l : List Pl) (acc : List Acc) : List Int := ints ((List.range l.length).filter (fun k => (l.map (doL acc (fun _ => false))).getD k false))
def killM (l : List Pl) (acc : List Acc) : List Int := ints ((List.range l.length).filter (fun k => !(l.map (doL acc (fun _ => true))).getD k false))
def succM (m : List Bool) (b : Bod) (i : Nat) : List Int := if m.getD i false then succB b i else []
def isEntry (b : Bod) (k : Nat) : Bool := decide (k = 0) || decide (b.params < (k : Int))
def entryM (l : List Pl) (b : Bod) (n : Nat) : List Int := ((List.range n).filter (isEntry b)).map (fun (k : Nat) => idxI (sameF ⟨(k : Int), []⟩) l)
theorem entryM_succ (l : List Pl) (b : Bod) (n : Nat) : entryM l b (n + 1) = entryM l b n ++ (if isEntry b n = true then [idxI (sameF ⟨(n : Int), []⟩) l] else []) := by
  unfold entryM
  rw [filter_range_succ, List.map_append]
  congr 1
  split <;> simp
theorem entryM_len (l : List Pl) (b : Bod) (n : Nat) : (entryM l b n).length ≤ n := by
  unfold entryM
  rw [List.length_map]
  have := List.length_filter_le (isEntry b) (List.range n)
  simpa using this
def succsM (m : List Bool) (b : Bod) : List (List Int) := (List.range b.code.length).map (succM m b)
def gensM (l : List Pl) (b : Bod) : List (List Int) := (List.range b.code.length).map (fun i => genM l (accB b i))
def killsM (l : List Pl) (b : Bod) : List (List Int) := (List.range b.code.length).map (fun i => killM l (accB b i))
/- Two rows of truth values are made side by side: what has come up so far. -/
structure TwoB (wo : World) (g : Nat) (vo : Option Addr) (n vc : Nat) (L : Nat → Bool) (V : Nat → Value) (X : World) : Prop where
  p0 : L 0 = true → V 0 = .pointer (some ⟨g, 0, none⟩)
  p1 : L 1 = true → V 1 = .pointer (some ⟨g, 0, none⟩)
  p2 : L 2 = true → V 2 = .pointer (some ⟨g, 1, none⟩)
  p3 : L 3 = true → V 3 = .slice vo n vc
  p4 : L 4 = true → V 4 = .int .i64 n
  p5 : L 5 = true → ∃ q, V 5 = .slice (some ⟨q, 0, none⟩) n n ∧ wo.heap.size ≤ q ∧ X.heap[q]? = some (boolsO (List.replicate n false))
  p6 : L 6 = true → V 6 = .pointer (some ⟨g, 0, none⟩)
  p7 : L 7 = true → V 7 = .pointer (some ⟨g, 0, none⟩)
  p8 : L 8 = true → V 8 = .pointer (some ⟨g, 1, none⟩)
  p9 : L 9 = true → V 9 = .slice vo n vc
  p10 : L 10 = true → V 10 = .int .i64 n
  p11 : L 11 = true → ∃ q, V 11 = .slice (some ⟨q, 0, none⟩) n n ∧ wo.heap.size ≤ q ∧ X.heap[q]? = some (boolsO (List.replicate n false))
  p12 : L 12 = true → V 12 = V 5 ∧ L 5 = true
  p13 : L 13 = true → V 13 = V 11 ∧ L 11 = true
  ne : L 5 = true → L 11 = true → V 5 ≠ V 11
  st : Step (fun _ => False) wo X
section
variable {wo X : World} {g : Nat} {vo : Option Addr} {n vc : Nat} {L : Nat → Bool} {V : Nat → Value}
theorem TwoB.up5 (h : TwoB wo g vo n vc L V X) (hL : L 5 = false) : TwoB wo g vo n vc (updL L 5) (updV V 5 (.slice (some ⟨X.heap.size, 0, none⟩) n n)) (X.alloc (.cells (Array.replicate n (Value.bool false)) 4)) :=
  { h with
    p5 := fun _ => ⟨X.heap.size, rfl, h.st.size, by rw [repl_bools]; exact blk_new _ _⟩
    p11 := fun e => by
      obtain ⟨q, h1, h2, h3⟩ := h.p11 e
      exact ⟨q, h1, h2, blk_alloc h3⟩
    p12 := fun e => by have := (h.p12 e).2; rw [hL] at this; cases this
    ne := fun _ e2 => by
      obtain ⟨q, h1, h2, h3⟩ := h.p11 e2
      show Value.slice (some ⟨X.heap.size, 0, none⟩) n n ≠ V 11
      rw [h1]
      intro h4
      injection h4 with h5
      injection h5 with h6
      injection h6 with h7
      have := blk_lt h3
      omega
    st := h.st.alloc _ }
theorem TwoB.up11 (h : TwoB wo g vo n vc L V X) (hL : L 11 = false) : TwoB wo g vo n vc (updL L 11) (updV V 11 (.slice (some ⟨X.heap.size, 0, none⟩) n n)) (X.alloc (.cells (Array.replicate n (Value.bool false)) 4)) :=
  { h with
    p11 := fun _ => ⟨X.heap.size, rfl, h.st.size, by rw [repl_bools]; exact blk_new _ _⟩
    p5 := fun e => by
      obtain ⟨q, h1, h2, h3⟩ := h.p5 e
      exact ⟨q, h1, h2, blk_alloc h3⟩
    p13 := fun e => by have := (h.p13 e).2; rw [hL] at this; cases this
    ne := fun e2 _ => by
      obtain ⟨q, h1, h2, h3⟩ := h.p5 e2
      show V 5 ≠ Value.slice (some ⟨X.heap.size, 0, none⟩) n n
      rw [h1]
      intro h4
      injection h4 with h5
      injection h5 with h6
      injection h6 with h7
      have := blk_lt h3
      omega
    st := h.st.alloc _ }
end

def ProbMPost (l : List Pl) (b : Bod) (w : World) (e : Ending) (w' : World) : Prop :=
  (∃ vs vg vk ve m, e = .returned (.agg #[vs, .int .i64 l.length, vg, vk, ve]) ∧ m.length = b.code.length ∧ (∀ i, i < b.code.length → (m.getD i false = true ↔ Rch b i)) ∧ Rows2 w' w'.heap.size vs (succsM m b) ∧ Rows2 w' w'.heap.size vg (gensM l b) ∧ Rows2 w' w'.heap.size vk (killsM l b) ∧
    Row w' w'.heap.size ve (entryM l b b.locals).length (intsV (entryM l b b.locals))) ∧ Step (fun _ => False) w w'

set_option maxRecDepth 100000 in
set_option maxHeartbeats 8000000 in
theorem fproblem_any (B g gb : Nat) (b : Bod) (l : List Pl) (v : Value) (xs : List Value) (w : World) (hf : FR w B g gb l v xs) (hb : BodP w B gb b) (hs : BodSmall b) (hok : bodOk b) (hn : l.Nodup) (hB : B ≤ w.heap.size) (hl : l.length ≤ 4000) (hc : b.code.length ≤ 100000)
    (hin : ∀ i a, a ∈ accB b i → (a.kind = 2 ∨ a.kind = 5 ∨ a.kind = 6) → dirF a.pl = true → a.pl ∈ l) :
    Calls Try.prog 65 #[.pointer (some ⟨g, 0, none⟩)] w (ProbMPost l b w) := by
  have HF := Lib.hid hf
  have HBOD := Lib.hid hb
  have HSM := Lib.hid hs
  have HOK := Lib.hid hok
  have HND := Lib.hid hn
  have HIN := Lib.hid hin
  obtain ⟨i0, hi0, hz0, hz1, hz2⟩ := info_parts Try.infoIntsL
  have HI := Lib.hid hi0
  have HZ0 := Lib.hid hz0
  have HZ1 := Lib.hid hz1
  have HZ2 := Lib.hid hz2
  obtain ⟨j0, hj0, hy0, hy1, hy2⟩ := info_parts Try.infoInt
  have HJ := Lib.hid hj0
  have HY0 := Lib.hid hy0
  have HY1 := Lib.hid hy1
  have HY2 := Lib.hid hy2
  obtain ⟨w2, hw2⟩ : ∃ w2 : World, w2 = (w.alloc (.cells #[.slice none 0 0, .int .i64 0, .slice none 0 0, .slice none 0 0, .slice none 0 0] 82)).alloc (.cells #[.slice none 0 0, .int .i64 l.length, .slice none 0 0, .slice none 0 0, .slice none 0 0] 82) := ⟨_, rfl⟩
  have hst2 : Step (fun _ => False) w w2 := by rw [hw2]; exact ((Step.refl _ _).alloc _).alloc _
  have HST2 := Lib.hid hst2
  have HSZ2 : Hid (w2.heap.size = w.heap.size + 2) := by show _ = _; rw [hw2]; simp
  obtain ⟨g3, hg3⟩ : ∃ g3, g3 = w.heap.size + 1 := ⟨_, rfl⟩
  have HG3 := Lib.hid hg3
  have HBLK2 : Hid (w2.heap[g3]? = some (.cells #[.slice none 0 0, .int .i64 l.length, .slice none 0 0, .slice none 0 0, .slice none 0 0] 82 (0, 0))) := by show _ = _; rw [hw2, hg3]; exact blk_new2 _ _ _
  have HRES2 : Hid (w2.heap[w.heap.size]? = some (.cells #[.slice none 0 0, .int .i64 0, .slice none 0 0, .slice none 0 0, .slice none 0 0] 82 (0, 0))) := by show _ = _; rw [hw2]; exact blk_alloc (blk_new w _)
  have HW2 := Lib.hid hw2
  have HG3L : Hid (g3 < w2.heap.size ∧ B ≤ g3 ∧ w.heap.size ≤ g3 ∧ w.heap.size < w2.heap.size) := by show _ ∧ _; have h1 := HSZ2.out; omega
  have HFX : Hid (∀ X, Step (· = g3) w2 X → FR X B g gb l v xs ∧ BodP X B gb b) := by
    show ∀ X, _
    intro X hX
    have h1 := HG3L.out
    exact ⟨(HF.out.step HST2.out (fun _ _ h => h)).step hX (fun q hq e => by omega), (HBOD.out.step HST2.out (fun _ _ h => h)).step hX (fun q hq e => by omega)⟩
  have hloc := hs.1
  obtain ⟨vo, vc, hv, hvc, hvm, -, -⟩ := hf.row
  subst hv
  have c1 := hf.c1
  have c1M := cell_alloc (o := .cells #[.slice none 0 0, .int .i64 0, .slice none 0 0, .slice none 0 0, .slice none 0 0] 82) c1
  obtain ⟨hfr2, hbod2⟩ := HFX.out w2 (Step.refl _ _)
  have c0 := hfr2.c0
  obtain ⟨-, ⟨la, lc, hla⟩, -⟩ := hbod2.parts
  clear hw2 hst2 hi0 hz0 hz1 hz2 hj0 hy0 hy1 hy2 hf hb hs hok hn hin hg3 hfr2 hbod2
  go_enter Try.func65, Try.ntmps65
  go_upto_region 2 with fail
  rw [← HG3.out, ← HW2.out]
  clear c1 c1M
  go_wp2_with fail
  clear c0 hla
  go_loopg [4, 30] b.locals (fun gg _ s30 wr => ∃ (k : Nat) (ve : Value), s30 = .int .i64 k ∧ k ≤ b.locals ∧ b.locals - k ≤ gg ∧ wr.heap[g3]? = some (.cells #[.slice none 0 0, .int .i64 l.length, .slice none 0 0, .slice none 0 0, ve] 82 (0, 0)) ∧ wr.ownsRow w2.heap.size 3 1 ve (entryM l b k).length (intsV (entryM l b k)) ∧ Step (· = g3) w2 wr)
  case atStart => exact ⟨0, _, rfl, Nat.zero_le _, by omega, HBLK2.out, World.ownsRow_nil _ _ _ _, Step.refl _ _⟩
  case round =>
    obtain ⟨k, ve, rfl, hk, hgg, hblk, hown, hst⟩ := hrel
    have HBLK := Lib.hid hblk
    have HOWN := Lib.hid hown
    have HST := Lib.hid hst
    obtain ⟨hfr, hbod⟩ := HFX.out wr hst
    obtain ⟨ea, ec, rfl⟩ := owns_slice hown
    by_cases hlt : k < b.locals
    · have c0 := hfr.c0
      obtain ⟨hpar, -⟩ := hbod.parts
      have HES := Lib.hid (entryM_succ l b k)
      obtain ⟨x1, e1⟩ : ∃ x, ((k : Int) == 0) = x := ⟨_, rfl⟩
      obtain ⟨x2, e2⟩ : ∃ x, decide (b.params < (k : Int)) = x := ⟨_, rfl⟩
      have e1n : decide (k = 0) = x1 := by
        rw [← e1]
        by_cases h : k = 0 <;> simp [h]
      have HXX : Hid (isEntry b k = (x1 || x2)) := by show _ = _; unfold isEntry; rw [e2, e1n]
      have hel := entryM_len l b k
      have HFC : Hid (∀ X, Step (· = g3) w2 X → Calls Try.prog 81 #[.pointer (some ⟨g, 0, none⟩), .agg #[.int .i64 k, .slice none 0 0]] X fun e w' => e = .returned (.int .i64 (idxI (sameF ⟨(k : Int), []⟩) l)) ∧ Step (fun _ => False) X w') := by
        show ∀ X, _
        intro X hX
        obtain ⟨h1, -⟩ := HFX.out X hX
        exact fact_any ⟨(k : Int), []⟩ [.int .i64 k, .slice none 0 0] l xs _ g B X ⟨_, rfl, Row.nil _ _ _⟩ h1.c1 h1.el h1.row
      obtain ⟨ix, hix⟩ : ∃ ix, ix = idxI (sameF ⟨(k : Int), []⟩) l := ⟨_, rfl⟩
      rw [← hix] at HFC HES
      obtain ⟨eb, heb⟩ : ∃ eb, eb = isEntry b k := ⟨_, rfl⟩
      rw [← heb] at HXX HES
      obtain ⟨el, hel2⟩ : ∃ el, el = entryM l b k := ⟨_, rfl⟩
      have HEL := Lib.hid hel2
      rw [← hel2] at HES HOWN HBLK hel
      clear hblk hown hst hfr hbod e1n hix heb hel2
      go_upto_region 5 with fail
      go_cut [45] (fun s45 wx => s45 = .bool eb ∧ wx = wr)
      case first =>
        cases x1 with
        | true =>
          go_wp2_with fail
          go_meet
          case rel => exact ⟨by rw [HXX.out]; rfl, rfl⟩
        | false =>
          go_wp2_with fail
          go_meet
          case rel => exact ⟨by rw [HXX.out]; rfl, rfl⟩
      case rest =>
        obtain ⟨rfl, rfl⟩ := hcut
        obtain ⟨w3, rfl⟩ : ∃ w3 : World, w3 = wc := ⟨_, rfl⟩
        clear c0 hpar e1 e2
        cases eb with
        | false =>
          have HE2 : Hid (entryM l b (k + 1) = el) := by show _ = _; rw [HES.out]; simp
          go_wp2
          go_roundg (gk - 1)
          case rel => exact ⟨k + 1, _, by go_num, hlt, by omega, HBLK.out, by rw [HE2.out]; exact HOWN.out, HST.out⟩
          case measure => omega
        | true =>
          have HE2 : Hid (entryM l b (k + 1) = el ++ [ix]) := HES.out
          have c4 := blk_cell HBLK.out 4 _ rfl
          go_wp2_with fail
          first
          | (go_region_law (first
              | (refine step_append_row _ rfl (w5.heap.size + 1) (.tmp 47) (.tmp 52) 38 rfl w2.heap.size 3 j0 (.int .i64 0) 1 8 Try.underlying38 HJ.out HY0.out HY1.out HY2.out rfl (by decide) _ _ _ (by simp [Act.eval]) HOWNA.out _ 1 _ (by simp [Act.eval]) HROW5.out rfl (intsV_one [ix]) (by unfold maxLen; omega) (by omega) HLEA.out ?_
                 intro v6 w6 hown hgrow hat
                 obtain ⟨oa6, oc6, rfl⟩ := owns_slice hown
                 have hab6 := grown_keep hgrow (cell_keep.out (w5.alloc (.cells #[.int .i64 ix] 3)) ((Step.refl _ _).alloc _)) (fun q hq e => by have := (HOWNA.out.lt q hq).1; have := HG3L.out; omega)
                 have c16 := blk_cell hab6 4 _ rfl
                 have d16 := blk_free hab6 4
                 have HAB6 := Lib.hid hab6
                 have HOWN6 := Lib.hid hown
                 have HGROW6 := Lib.hid hgrow
                 clear hab6 hown hgrow hat)
              | (go_simp
                 go_at_call 81
                 refine (HFC.out _ (HST.out.drew)).mono ?_
                 rintro e5 w5 ⟨rfl, s5⟩
                 have HST5 : Hid (Step (fun _ => False) w3 w5) := ((Step.refl _ _).drew).trans s5
                 have cell_keep : Hid (∀ X, Step (fun _ => False) w5 X → X.heap[g3]? = some (.cells #[.slice none 0 0, .int .i64 l.length, .slice none 0 0, .slice none 0 0, .slice ea el.length ec] 82 (0, 0))) := fun X hX => (HST5.out.trans hX).keep HBLK.out (fun h => h)
                 have c45 := blk_cell (cell_keep.out w5 (Step.refl _ _)) 4 _ rfl
                 have c45A := cell_alloc (o := .cells #[.int .i64 ix] 3) c45
                 have HOWNA := Lib.hid ((HST5.out.owns HOWN.out (fun _ _ h => h)).alloc (.cells #[.int .i64 ix] 3))
                 have HROW5 : Hid (Row (w5.alloc (.cells #[.int .i64 ix] 3)) (w5.heap.size + 1) (.slice (some ⟨w5.heap.size, 0, none⟩) 1 1) 1 (intsV [ix])) := Row.new (cs := [.int .i64 ix]) (blk_new _ _) (by decide)
                 have HLEA : Hid (w2.heap.size ≤ (w5.alloc (.cells #[.int .i64 ix] 3)).heap.size) := by
                   show _ ≤ _
                   have := HST.out.size; have := HST5.out.size; simp; omega
                 clear s5)))
          | fail
          all_goals (
            have HO7 : Hid ((w6.setCell ⟨g3, 4, none⟩ (.slice oa6 (el.length + 1) oc6)).ownsRow w2.heap.size 3 1 (.slice oa6 (el.length + 1) oc6) (entryM l b (k + 1)).length (intsV (entryM l b (k + 1)))) := by
              rw [HE2.out, List.length_append, intsV_append]
              exact ownsRow_setCell_below HOWN6.out (a := ⟨g3, 4, none⟩) HG3L.out.1 _
            have HB7 : Hid ((w6.setCell ⟨g3, 4, none⟩ (.slice oa6 (el.length + 1) oc6)).heap[g3]? = some (.cells #[.slice none 0 0, .int .i64 l.length, .slice none 0 0, .slice none 0 0, .slice oa6 (el.length + 1) oc6] 82 (0, 0))) := blk_set HAB6.out 4 _
            have HS7 : Hid (Step (· = g3) w2 (w6.setCell ⟨g3, 4, none⟩ (.slice oa6 (el.length + 1) oc6))) := by
              have e1 : Step (· = g3) w2 (w5.alloc (.cells #[.int .i64 ix] 3)) := (HST.out.trans (HST5.out.mono (fun _ _ h => h.elim))).alloc _
              exact (e1.then (grown_step HGROW6.out) (fun q hq e => by have := (HOWNA.out.lt q e).1; omega)).setCell _ _ (fun _ => rfl)
            clear c4 c45 c45A c16 d16
            go_wp2
            go_roundg (gk - 1)
            case rel => exact ⟨k + 1, _, by go_num, hlt, by omega, HB7.out, HO7.out, HS7.out⟩
            case measure => omega)
    · obtain rfl : k = b.locals := by omega
      obtain ⟨el, hel⟩ : ∃ el, el = entryM l b b.locals := ⟨_, rfl⟩
      have HEL := Lib.hid hel
      rw [← hel] at HOWN HBLK
      have hpos : 0 < b.code.length := by
        have := HOK.out.1
        unfold headOk at this
        simp at this; omega
      have HREA := Lib.hid (reach_any B gb b wr hbod HOK.out (by omega) hpos)
      have c0 := hfr.c0
      clear hblk hown hst hbod hgg hel
      go_wp2_with fail
      refine HREA.out.mono ?_
      rintro e w4 ⟨⟨gm, m, rfl, hgm, hml, hmb, hmr⟩, s4⟩
      have HST4 : Hid (Step (· = g3) w2 w4) := HST.out.trans (s4.mono (fun _ _ h => h.elim))
      have HBLK4 := Lib.hid (s4.keep HBLK.out (fun h => h))
      have HVE4 : Hid (Row w4 w4.heap.size (.slice ea el.length ec) el.length (intsV el)) := (Row.of_owns HOWN.out (Nat.le_refl _)).step s4 (fun _ _ h => h) |>.mono s4.size
      obtain ⟨ve, hve⟩ : ∃ ve, ve = Value.slice ea el.length ec := ⟨_, rfl⟩
      have HVO : Hid (∀ q, ve.ownBlock = some q → w2.heap.size ≤ q) := by
        show ∀ q, _
        intro q hq
        rw [hve] at hq
        exact (HOWN.out.lt q hq).1
      have HMB4 := Lib.hid hmb
      have HML := Lib.hid hml
      have HMR := Lib.hid hmr
      rw [← hve] at HVE4 HBLK4
      have HVEF : Hid (∃ a n c, ve = .slice a n c) := ⟨_, _, _, hve⟩
      have HG4 : Hid (w2.heap.size ≤ gm ∧ gm < w4.heap.size ∧ g3 < w4.heap.size ∧ w2.heap.size ≤ w4.heap.size) := by
        show _ ∧ _
        have h1 := HST.out.size
        have h2 := s4.size
        have h3 := HG3L.out
        exact ⟨by omega, blk_lt hmb, by omega, by omega⟩
      clear s4 hgm hml hmb hmr hve c0 HOWN HBLK HST hfr
      obtain ⟨hfr4, hbod4⟩ := HFX.out w4 HST4.out
      have c0 := hfr4.c0
      obtain ⟨-, -, ca, cc, hca, -⟩ := hbod4.parts
      clear hfr4 hbod4
      go_wp2_with fail
      clear c0 hca
      go_loopg [69] b.code.length (fun gg s69 wr => ∃ (k : Nat) (ls : List (List Int)) (vs : Value) (lg : List (List Int)) (vg : Value) (lk : List (List Int)) (vk : Value) (G : Nat → Bool) (xs xg xk : List Value), s69 = .int .i64 k ∧ k ≤ b.code.length ∧ b.code.length - k ≤ gg ∧ ls = (succsM m b).take k ∧ lg = (gensM l b).take k ∧ lk = (killsM l b).take k ∧ PS w4.heap.size wr ls vs lg vg lk vk G xs xg xk ∧ wr.heap[g3]? = some (.cells #[vs, .int .i64 l.length, vg, vk, ve] 82 (0, 0)) ∧ Step (· = g3) w4 wr)
      case atStart => exact ⟨0, [], _, [], _, [], _, _, [], [], [], rfl, Nat.zero_le _, by omega, rfl, rfl, rfl, PS.nil rfl, HBLK4.out, Step.refl _ _⟩
      case round =>
        obtain ⟨k, ls, vs, lg, vg, lk, vk, G, xs1, xg1, xk1, rfl, hk, hgg, hls, hlg, hlk, hps, hblk, hst⟩ := hrel
        have HLS := Lib.hid hls
        have HLG := Lib.hid hlg
        have HLK := Lib.hid hlk
        have HPS := Lib.hid hps
        have HBLK := Lib.hid hblk
        have HST := Lib.hid hst
        have HL1 : Hid (ls.length = k) := by show _ = _; rw [hls]; simp [succsM]; omega
        have HL2 : Hid (lg.length = k) := by show _ = _; rw [hlg]; simp [gensM]; omega
        have HL3 : Hid (lk.length = k) := by show _ = _; rw [hlk]; simp [killsM]; omega
        have HS24 : Hid (Step (· = g3) w2 wr) := HST4.out.trans hst
        clear hls hlg hlk hps hblk hst
        obtain ⟨go1, rfl⟩ : ∃ go1, go1 = gk := ⟨_, rfl⟩
        obtain ⟨wo, rfl⟩ : ∃ wo : World, wo = wr := ⟨_, rfl⟩
        by_cases hlt : k < b.code.length
        · obtain ⟨hfr5, hbod5⟩ := HFX.out wo HS24.out
          have c1 := hfr5.c1
          have hmk := run_makeBools l.length (by omega)
          clear hfr5 hbod5
          go_upto_region 13 with fail
          go_cut [9, 10] (fun s9 s10 wx => ∃ gn ga, s9 = .slice (some ⟨gn, 0, none⟩) l.length l.length ∧ s10 = .slice (some ⟨ga, 0, none⟩) l.length l.length ∧ gn ≠ ga ∧ wo.heap.size ≤ gn ∧ wo.heap.size ≤ ga ∧ wx.heap[gn]? = some (boolsO (List.replicate l.length false)) ∧ wx.heap[ga]? = some (boolsO (List.replicate l.length false)) ∧ Step (fun _ => False) wo wx)
          case first =>
            refine wp_region_rely (by kernel_rfl) (TwoB wo g vo l.length vc) 14 rfl (by kernel_rfl) (by kernel_rfl) (by kernel_rfl) (by kernel_rfl) ?h0 ?hs ?hdone
            case h0 =>
              exact ⟨(fun h => nomatch h), (fun h => nomatch h), (fun h => nomatch h), (fun h => nomatch h), (fun h => nomatch h), (fun h => nomatch h), (fun h => nomatch h), (fun h => nomatch h), (fun h => nomatch h), (fun h => nomatch h), (fun h => nomatch h), (fun h => nomatch h), (fun h => nomatch h), (fun h => nomatch h), (fun h => nomatch h), (Step.refl _ _).drew⟩
            case hs =>
              refine ⟨?_, ?_, ?_, ?_, ?_, ?_, ?_, ?_, ?_, ?_, ?_, ?_, ?_, ?_, trivial⟩
              · intro L V X a ev evo hL hdep hJ
                have o1 := evo 0 rfl
                change a.tmps[0]?.getD undef = .pointer (some ⟨g, 0, none⟩) at o1
                go_simp
                exact ⟨_, rfl, { hJ with p0 := fun _ => rfl }⟩
              · intro L V X a ev evo hL hdep hJ
                have e200 := (ev 0 72 rfl (hdep 0 rfl)).trans (hJ.p0 (hdep 0 rfl))
                go_simp
                exact ⟨_, rfl, { hJ with p1 := fun _ => rfl }⟩
              · intro L V X a ev evo hL hdep hJ
                have e200 := (ev 1 73 rfl (hdep 1 rfl)).trans (hJ.p1 (hdep 1 rfl))
                go_simp
                exact ⟨_, rfl, { hJ with p2 := fun _ => rfl }⟩
              · intro L V X a ev evo hL hdep hJ
                have e200 := (ev 2 74 rfl (hdep 2 rfl)).trans (hJ.p2 (hdep 2 rfl))
                have d1 := hJ.st.cell c1 (fun h => h)
                go_simp
                exact ⟨_, rfl, { hJ with p3 := fun _ => rfl }⟩
              · intro L V X a ev evo hL hdep hJ
                have e200 := (ev 3 75 rfl (hdep 3 rfl)).trans (hJ.p3 (hdep 3 rfl))
                go_simp
                exact ⟨_, rfl, { hJ with p4 := fun _ => rfl }⟩
              · intro L V X a ev evo hL hdep hJ
                have e200 := (ev 4 76 rfl (hdep 4 rfl)).trans (hJ.p4 (hdep 4 rfl))
                have hu := hJ.up5 hL
                go_simp
                exact ⟨_, rfl, hu⟩
              · intro L V X a ev evo hL hdep hJ
                have o1 := evo 0 rfl
                change a.tmps[0]?.getD undef = .pointer (some ⟨g, 0, none⟩) at o1
                go_simp
                exact ⟨_, rfl, { hJ with p6 := fun _ => rfl }⟩
              · intro L V X a ev evo hL hdep hJ
                have e200 := (ev 6 78 rfl (hdep 6 rfl)).trans (hJ.p6 (hdep 6 rfl))
                go_simp
                exact ⟨_, rfl, { hJ with p7 := fun _ => rfl }⟩
              · intro L V X a ev evo hL hdep hJ
                have e200 := (ev 7 79 rfl (hdep 7 rfl)).trans (hJ.p7 (hdep 7 rfl))
                go_simp
                exact ⟨_, rfl, { hJ with p8 := fun _ => rfl }⟩
              · intro L V X a ev evo hL hdep hJ
                have e200 := (ev 8 80 rfl (hdep 8 rfl)).trans (hJ.p8 (hdep 8 rfl))
                have d1 := hJ.st.cell c1 (fun h => h)
                go_simp
                exact ⟨_, rfl, { hJ with p9 := fun _ => rfl }⟩
              · intro L V X a ev evo hL hdep hJ
                have e200 := (ev 9 81 rfl (hdep 9 rfl)).trans (hJ.p9 (hdep 9 rfl))
                go_simp
                exact ⟨_, rfl, { hJ with p10 := fun _ => rfl }⟩
              · intro L V X a ev evo hL hdep hJ
                have e200 := (ev 10 82 rfl (hdep 10 rfl)).trans (hJ.p10 (hdep 10 rfl))
                have hu := hJ.up11 hL
                go_simp
                exact ⟨_, rfl, hu⟩
              · intro L V X a ev evo hL hdep hJ
                have e200 := ev 5 77 rfl (hdep 5 rfl)
                have h5 := hdep 5 rfl
                go_simp
                exact ⟨_, rfl, { hJ with p12 := fun _ => ⟨rfl, h5⟩ }⟩
              · intro L V X a ev evo hL hdep hJ
                have e200 := ev 11 83 rfl (hdep 11 rfl)
                have h5 := hdep 11 rfl
                go_simp
                exact ⟨_, rfl, { hJ with p13 := fun _ => ⟨rfl, h5⟩ }⟩
            case hdone =>
              intro L V X hall hJ
              obtain ⟨gn, hn1, hn2, hn3⟩ := hJ.p5 (hall 5 (by decide))
              obtain ⟨ga, ha1, ha2, ha3⟩ := hJ.p11 (hall 11 (by decide))
              have hne := hJ.ne (hall 5 (by decide)) (hall 11 (by decide))
              have h12 := (hJ.p12 (hall 12 (by decide))).1
              have h13 := (hJ.p13 (hall 13 (by decide))).1
              have HSTX := Lib.hid hJ.st
              rw [hn1, ha1] at hne
              rw [hn1] at h12
              rw [ha1] at h13
              have HNEX : Hid (gn ≠ ga) := fun e => hne (by rw [e])
              rw [show List.range 14 = [0, 1, 2, 3, 4, 5, 6, 7, 8, 9, 10, 11, 12, 13] from rfl]
              simp only [putF, dstO, List.getElem?_toArray, List.getElem?_cons_zero, List.getElem?_cons_succ, Option.bind_some, Act.put, List.setIfInBounds_toArray, List.set_cons_zero, List.set_cons_succ, h12, h13]
              have HN3 := Lib.hid hn3
              have HA3 := Lib.hid ha3
              clear hJ hne h12 h13 hn1 ha1 hn3 ha3
              go_wp2_with fail
              go_meet
              case rel => exact ⟨gn, ga, rfl, rfl, HNEX.out, hn2, ha2, HN3.out, HA3.out, HSTX.out⟩
          case rest =>
            obtain ⟨gn, ga, rfl, rfl, hne, hgn, hga, hbn, hba, hst6⟩ := hcut
            have HNE := Lib.hid hne
            have HGN : Hid (wo.heap.size ≤ gn ∧ wo.heap.size ≤ ga) := ⟨hgn, hga⟩
            have HBN := Lib.hid hbn
            have HBA := Lib.hid hba
            have HST6 := Lib.hid hst6
            obtain ⟨w6, rfl⟩ : ∃ w6 : World, w6 = wc := ⟨_, rfl⟩
            clear hne hgn hga hbn hba hst6 c1
            go_upto_block 4 with fail
            go_cut [] (fun wx => wx.heap[ga]? = some (boolsO (List.replicate l.length true)) ∧ Step (· = ga) w6 wx)
            case first =>
              go_wp2_with fail
              go_loopg [86] l.length (fun gg s86 wr => ∃ j : Nat, s86 = .int .i64 j ∧ j ≤ l.length ∧ l.length - j ≤ gg ∧ wr.heap[ga]? = some (boolsO (List.replicate j true ++ List.replicate (l.length - j) false)) ∧ Step (· = ga) w6 wr)
              case atStart => exact ⟨0, rfl, Nat.zero_le _, by omega, by simpa using HBA.out, Step.refl _ _⟩
              case round =>
                obtain ⟨j, rfl, hj, hgg2, hb2, hst7⟩ := hrel
                have HB2 := Lib.hid hb2
                by_cases hlt2 : j < l.length
                · have hcell := bools_cell hb2 (i := j) (b := false) (by rw [List.getElem?_append_right (by simp), List.length_replicate, Nat.sub_self, List.getElem?_replicate, if_pos (by omega)])
                  have hfz := bools_free hb2 j
                  have hi0 : (0 : Int) ≤ (j : Int) := by omega
                  have hi1 : (j : Int) < (l.length : Int) := by omega
                  have HB3 : Hid ((wr.setCell ⟨ga, j, none⟩ (.bool true)).heap[ga]? = some (boolsO (List.replicate (j + 1) true ++ List.replicate (l.length - (j + 1)) false))) := by
                    have h1 := bools_set (i := j) true hb2
                    have e : (List.replicate j true ++ List.replicate (l.length - j) false).set j true = List.replicate (j + 1) true ++ List.replicate (l.length - (j + 1)) false := by
                      rw [List.set_append_right _ _ (by simp), List.length_replicate, Nat.sub_self, show l.length - j = (l.length - (j + 1)) + 1 by omega, List.replicate_succ, List.set_cons_zero, List.replicate_succ', List.append_assoc]; rfl
                    rw [e] at h1
                    exact h1
                  have HST8 : Hid (Step (· = ga) w6 (wr.setCell ⟨ga, j, none⟩ (.bool true))) := hst7.setCell _ _ (fun _ => rfl)
                  clear hb2 hst7
                  go_wp2
                  go_roundg (gk - 1)
                  case rel => exact ⟨j + 1, by go_num, hlt2, by omega, HB3.out, HST8.out⟩
                  case measure => omega
                · obtain rfl : j = l.length := by omega
                  have HST8 := Lib.hid hst7
                  clear hb2 hst7
                  go_wp2_with fail
                  go_meet
                  case rel => exact ⟨by have := HB2.out; simpa using this, HST8.out⟩
            case rest =>
              obtain ⟨hba7, hst7⟩ := hcut
              obtain ⟨w7, rfl⟩ : ∃ w7 : World, w7 = wc := ⟨_, rfl⟩
              have HBA7 := Lib.hid hba7
              have HBN7 := Lib.hid (hst7.keep HBN.out (fun e => HNE.out e))
              have HST7 : Hid (Step (fun _ => False) wo w7) := HST6.out.then hst7 (fun q hq e => by have := HGN.out; omega)
              clear hba7 hst7
              have HX7 : Hid (Step (· = g3) w2 w7) := HS24.out.trans (HST7.out.mono (fun _ _ h => h.elim))
              obtain ⟨hfr7, hbod7⟩ := HFX.out w7 HX7.out
              have HACC := Lib.hid (acc_fresh B gb b k w7 hbod7 hlt HSM.out (by have := HX7.out.size; have := HG3L.out; omega))
              have c0 := hfr7.c0
              have HGL7 : Hid (g3 < wo.heap.size ∧ w4.heap.size ≤ wo.heap.size ∧ w2.heap.size ≤ wo.heap.size) := by
                show _ ∧ _
                have h1 := HPS.out.le
                have h2 := HG4.out
                omega
              have HGB7 : Hid (gn < w7.heap.size ∧ ga < w7.heap.size) := ⟨blk_lt HBN7.out, blk_lt HBA7.out⟩
              clear hfr7 hbod7
              go_wp2_with fail
              refine HACC.out.mono ?_
              rintro e w8 ⟨⟨⟨va, ys, rfl, hys, hr⟩, s8⟩, hfr⟩
              obtain ⟨la, hla⟩ : ∃ la, la = accB b k := ⟨_, rfl⟩
              have HLA := Lib.hid hla
              obtain ⟨aa, ac, rfl, hac1, hac2, -⟩ := id hr
              have HYS := Lib.hid hys
              have HR := Lib.hid hr
              have HFR := Lib.hid (hfr _ rfl)
              rw [← hla] at hac1 HFR HYS HR
              rw [← hla]
              have HBN8 := Lib.hid (s8.keep HBN7.out (fun h => h))
              have HBA8 := Lib.hid (s8.keep HBA7.out (fun h => h))
              have HST8 := Lib.hid (HST7.out.trans s8)
              have HX8 : Hid (Step (· = g3) w2 w8) := HS24.out.trans (HST8.out.mono (fun _ _ h => h.elim))
              have HSZ8 : Hid (w7.heap.size ≤ w8.heap.size) := s8.size
              clear hys hr hfr s8 hla c0
              go_upto_block 6 with fail
              go_cut [] (fun wx => wx.heap[gn]? = some (boolsO (l.map (doL la (fun _ => false)))) ∧ wx.heap[ga]? = some (boolsO (l.map (doL la (fun _ => true)))) ∧ Step (fun q => q = gn ∨ q = ga) w8 wx)
              case first =>
                go_wp2_with fail
                go_loopg [100] la.length (fun gg s100 wr => ∃ j : Nat, s100 = .int .i64 j ∧ j ≤ la.length ∧ la.length - j ≤ gg ∧ wr.heap[gn]? = some (boolsO (l.map (doL (la.take j) (fun _ => false)))) ∧ wr.heap[ga]? = some (boolsO (l.map (doL (la.take j) (fun _ => true)))) ∧ Step (fun q => q = gn ∨ q = ga) w8 wr)
                case atStart =>
                  refine ⟨0, rfl, Nat.zero_le _, by omega, ?_, ?_, Step.refl _ _⟩
                  · have e : l.map (doL (la.take 0) (fun _ => false)) = List.replicate l.length false := by rw [List.take_zero]; exact List.map_const' ..
                    rw [e]; exact HBN8.out
                  · have e : l.map (doL (la.take 0) (fun _ => true)) = List.replicate l.length true := by rw [List.take_zero]; exact List.map_const' ..
                    rw [e]; exact HBA8.out
                case round =>
                  obtain ⟨j, rfl, hj, hgg2, hbn, hba, hst⟩ := hrel
                  obtain ⟨w9, rfl⟩ : ∃ w9 : World, w9 = wr := ⟨_, rfl⟩
                  have HBN9 := Lib.hid hbn
                  have HBA9 := Lib.hid hba
                  have HST9 := Lib.hid hst
                  clear hbn hba hst
                  by_cases hlt2 : j < la.length
                  · obtain ⟨a, ha⟩ : ∃ a, la[j]? = some a := ⟨la[j], List.getElem?_eq_getElem hlt2⟩
                    have hr9 := HR.out.keep HST9.out (fun q hq e => by
                      have := HFR.out q hq
                      have := HGB7.out
                      omega)
                    have hys9 := Each.mono (AcAt.step HST9.out (fun q hq e => by have := HGN.out; have := HGL7.out; have := HG3L.out; omega)) _ _ HYS.out
                    obtain ⟨ax, cx, hax, -, -, -, hrr⟩ := hr9
                    obtain ⟨rfl, -, rfl⟩ : aa = ax ∧ True ∧ ac = cx := by cases hax; exact ⟨rfl, trivial, rfl⟩
                    obtain ⟨gA, oA, rfl, hgA, -, hcell⟩ := hrr (by omega)
                    obtain ⟨cs, hat, f⟩ := Each.cells 3 AcAt.len hys9 ha hcell
                    have HAT := Lib.hid hat
                    obtain ⟨vp, rfl, hvp⟩ := hat
                    obtain ⟨ap, cp, rfl, -⟩ := hvp
                    have F := Lib.hid f
                    obtain ⟨w10, hw10⟩ : ∃ w10 : World, w10 = w9.alloc (.cells #[.int .i64 a.pl.loc, .slice ap a.pl.path.length cp, .int .i64 a.kind] 90) := ⟨_, rfl⟩
                    have HS10 : Hid (Step (fun _ => False) w9 w10) := by show Step _ _ _; rw [hw10]; exact (Step.refl _ _).alloc _
                    have HNB : Hid (w10.heap[w9.heap.size]? = some (.cells #[.int .i64 a.pl.loc, .slice ap a.pl.path.length cp, .int .i64 a.kind] 90 (0, 0))) := by show _ = _; rw [hw10]; exact blk_new w9 _
                    have HW10 := Lib.hid hw10
                    have HND9 : Hid (w9.heap.size ≠ gn ∧ w9.heap.size ≠ ga) := by show _ ∧ _; have h1 := blk_lt HBN9.out; have h2 := blk_lt HBA9.out; omega
                    have HX9 : Hid (∀ X, Step (fun q => q = gn ∨ q = ga) w9 X → Step (· = g3) w2 X) := by
                      show ∀ X, _
                      intro X hX
                      exact HX8.out.then (HST9.out.trans hX) (fun q hq e => by have := HGN.out; have := HGL7.out; omega)
                    have HNEED : Hid ((a.kind = 2 ∨ a.kind = 5 ∨ a.kind = 6) → dirF a.pl = true → a.pl ∈ l) := HIN.out k a (by rw [← HLA.out]; exact List.mem_of_getElem? ha)
                    have HDO : Hid (∀ (gi : Nat) (sb : Pl → Bool) X, Step (fun q => q = gn ∨ q = ga) w9 X → (gi = gn ∨ gi = ga) → X.heap[gi]? = some (boolsO (l.map sb)) → Calls Try.prog 67 #[.pointer (some ⟨g, 0, none⟩), .agg #[.int .i64 a.pl.loc, .slice ap a.pl.path.length cp, .int .i64 a.kind], .slice (some ⟨gi, 0, none⟩) l.length l.length] X (DoPost gi (l.map (doB a sb)) X)) := by
                      show ∀ gi sb X, _
                      intro gi sb X hX hgi hb
                      obtain ⟨h1, -⟩ := HFX.out X (HX9.out X hX)
                      exact do_any B g gb gi a [.int .i64 a.pl.loc, .slice ap a.pl.path.length cp, .int .i64 a.kind] l sb _ xs X h1 (AcAt.step hX (fun q hq e => by have := HGN.out; have := HGL7.out; have := HG3L.out; omega) _ _ HAT.out) HND.out hb (by have := HGN.out; have := HGL7.out; have := HG3L.out; omega) HNEED.out
                    have HTK := Lib.hid (fun s => doL_take ha s)
                    have hk0 : (0 : Int) ≤ (j : Int) := by omega
                    have hk1 : (j : Int) < (la.length : Int) := by omega
                    have d0 := blk_cell HNB.out 0 _ rfl
                    have d1 := blk_cell HNB.out 1 _ rfl
                    have d2 := blk_cell HNB.out 2 _ rfl
                    rw [HW10.out] at d0 d1 d2
                    clear hrr hcell f ha hw10 hys9 hax
                    go_wp2_with (refine wpList_load_whole rfl 90 (.tmp 102) rfl gA (oA + j * 3) rfl _ _ F.out Try.underlying90 rfl Try.sizeAcc ?_)
                    rw [← HW10.out]
                    refine (HDO.out gn _ w10 (HS10.out.mono (fun _ _ h => h.elim)) (.inl rfl) (HS10.out.keep HBN9.out (fun h => h))).mono ?_
                    rintro e w11 ⟨rfl, hb11, s11⟩
                    have HB11 := Lib.hid hb11
                    have HS11 : Hid (Step (fun q => q = gn ∨ q = ga) w9 w11) := (HS10.out.mono (fun _ _ h => h.elim)).trans (s11.mono (fun _ _ h => .inl h))
                    have HBA11 := Lib.hid (s11.keep (HS10.out.keep HBA9.out (fun h => h)) (fun e => HNE.out e.symm))
                    have hnb := s11.keep HNB.out HND9.out.1
                    have HNB11 := Lib.hid hnb
                    clear d0 d1 d2 hb11 s11 hnb
                    have d0 := blk_cell HNB11.out 0 _ rfl
                    have d1 := blk_cell HNB11.out 1 _ rfl
                    have d2 := blk_cell HNB11.out 2 _ rfl
                    go_wp2_with fail
                    refine (HDO.out ga _ w11 HS11.out (.inr rfl) HBA11.out).mono ?_
                    rintro e w12 ⟨rfl, hb12, s12⟩
                    have HB12 := Lib.hid hb12
                    have HBN12 := Lib.hid (s12.keep HB11.out (fun e => HNE.out e))
                    have HS12 : Hid (Step (fun q => q = gn ∨ q = ga) w8 w12) := HST9.out.trans (HS11.out.trans (s12.mono (fun _ _ h => .inr h)))
                    clear d0 d1 d2 hb12 s12
                    go_wp2
                    go_roundg (gk - 1)
                    case rel => exact ⟨j + 1, by go_num, hlt2, by omega, by rw [HTK.out]; exact HBN12.out, by rw [HTK.out]; exact HB12.out, HS12.out⟩
                    case measure => omega
                  · obtain rfl : j = la.length := by omega
                    go_wp2_with fail
                    go_meet
                    case rel => exact ⟨by have := HBN9.out; rw [List.take_length] at this; exact this, by have := HBA9.out; rw [List.take_length] at this; exact this, HST9.out⟩
              case rest =>
                obtain ⟨hbn9, hba9, hst9⟩ := hcut
                obtain ⟨w9, rfl⟩ : ∃ w9 : World, w9 = wc := ⟨_, rfl⟩
                obtain ⟨rn, hrn⟩ : ∃ rn, rn = l.map (doL la (fun _ => false)) := ⟨_, rfl⟩
                obtain ⟨ra, hra⟩ : ∃ ra, ra = l.map (doL la (fun _ => true)) := ⟨_, rfl⟩
                rw [← hrn] at hbn9
                rw [← hra] at hba9
                have HBN9 := Lib.hid hbn9
                have HBA9 := Lib.hid hba9
                have HRN := Lib.hid hrn
                have HRA := Lib.hid hra
                have HRL : Hid (rn.length = l.length ∧ ra.length = l.length) := by show _ ∧ _; rw [hrn, hra]; simp
                have HST9 : Hid (Step (fun _ => False) wo w9) := HST8.out.then hst9 (fun q hq e => by have := HGN.out; omega)
                have HX9 : Hid (Step (· = g3) w2 w9) := HS24.out.trans (HST9.out.mono (fun _ _ h => h.elim))
                have c1 := (HFX.out w9 HX9.out).1.c1
                clear hbn9 hba9 hst9 hrn hra HYS HR HFR HBN8 HBA8
                go_upto_block 8 with fail
                go_cut [7, 8] (fun s7 s8 wx => ∃ (kg kk : List Int), kg = genM l la ∧ kk = killM l la ∧ wx.ownsRow w9.heap.size 3 1 s7 kg.length (intsV kg) ∧ wx.ownsRow w9.heap.size 3 1 s8 kk.length (intsV kk) ∧ Step (fun _ => False) w9 wx)
                case first =>
                  go_wp2_with fail
                  clear c1
                  go_loopg [7, 8, 118] l.length (fun gg s7 s8 s118 wr => ∃ (j : Nat) (kg kk : List Int), s118 = .int .i64 j ∧ j ≤ l.length ∧ l.length - j ≤ gg ∧ kg = ints ((List.range j).filter (fun k => rn.getD k false)) ∧ kk = ints ((List.range j).filter (fun k => !ra.getD k false)) ∧ wr.ownsRow w9.heap.size 3 1 s7 kg.length (intsV kg) ∧ wr.ownsRow w9.heap.size 3 1 s8 kk.length (intsV kk) ∧ (∀ q, s7.ownBlock = some q → s8.ownBlock ≠ some q) ∧ Step (fun _ => False) w9 wr)
                  case atStart => exact ⟨0, [], [], rfl, Nat.zero_le _, by omega, rfl, rfl, World.ownsRow_nil _ _ _ _, World.ownsRow_nil _ _ _ _, (fun q h => nomatch h), Step.refl _ _⟩
                  case round =>
                    obtain ⟨j, kg, kk, rfl, hj, hgg2, hkg, hkk, ho7, ho8, hne, hst⟩ := hrel
                    obtain ⟨wr5, rfl⟩ : ∃ wr5 : World, wr5 = wr := ⟨_, rfl⟩
                    have HKG := Lib.hid hkg
                    have HKK := Lib.hid hkk
                    obtain ⟨a7, c7, rfl⟩ := owns_slice ho7
                    obtain ⟨a8, c8, rfl⟩ := owns_slice ho8
                    have hgl : kg.length ≤ 4000 := by rw [hkg, ints, List.length_map]; exact Nat.le_trans (List.length_filter_le ..) (by rw [List.length_range]; omega)
                    have hkl : kk.length ≤ 4000 := by rw [hkk, ints, List.length_map]; exact Nat.le_trans (List.length_filter_le ..) (by rw [List.length_range]; omega)
                    have HO7 := Lib.hid ho7
                    have HO8 := Lib.hid ho8
                    have HNE7 := Lib.hid hne
                    have HST5 := Lib.hid hst
                    clear hkg hkk ho7 ho8 hne hst
                    by_cases hlt2 : j < l.length
                    · obtain ⟨bn, hbn⟩ : ∃ bn, bn = rn.getD j false := ⟨_, rfl⟩
                      obtain ⟨ba, hba⟩ : ∃ ba, ba = ra.getD j false := ⟨_, rfl⟩
                      have n1 := bools_cell (HST5.out.keep HBN9.out (fun h => h)) (i := j) (b := bn) (by rw [hbn, List.getD_eq_getElem?_getD, List.getElem?_eq_getElem (by rw [HRL.out.1]; exact hlt2)]; rfl)
                      have HFG : Hid (ints ((List.range (j + 1)).filter (fun k => rn.getD k false)) = kg ++ (if bn = true then [(j : Int)] else [])) := by
                        show _ = _
                        rw [filter_range_succ, ← hbn, HKG.out, ints, List.map_append]
                        congr 1
                        cases bn <;> rfl
                      have HFK : Hid (ints ((List.range (j + 1)).filter (fun k => !ra.getD k false)) = kk ++ (if ba = true then [] else [(j : Int)])) := by
                        show _ = _
                        rw [filter_range_succ, ← hba, HKK.out, ints, List.map_append]
                        congr 1
                        cases ba <;> rfl
                      have HBA : Hid (ra[j]? = some ba) := by show _ = _; rw [hba, List.getD_eq_getElem?_getD, List.getElem?_eq_getElem (by rw [HRL.out.2]; exact hlt2)]; rfl
                      have hi0 : (0 : Int) ≤ (j : Int) := by omega
                      have hi1 : (j : Int) < (l.length : Int) := by omega
                      clear hbn hba
                      go_upto_if 124 with fail
                      go_cut [7] (fun s7 wx => ∃ kg2, kg2 = ints ((List.range (j + 1)).filter (fun k => rn.getD k false)) ∧ wx.ownsRow w9.heap.size 3 1 s7 kg2.length (intsV kg2) ∧ wx.ownsRow w9.heap.size 3 1 (.slice a8 kk.length c8) kk.length (intsV kk) ∧ (∀ q, s7.ownBlock = some q → (Value.slice a8 kk.length c8).ownBlock ≠ some q) ∧ Step (fun _ => False) w9 wx)
                      case first =>
                        clear n1
                        cases bn with
                        | true =>
                          have HROW5 : Hid (Row (wr5.alloc (.cells #[.int .i64 j] 3)) (wr5.heap.size + 1) (.slice (some ⟨wr5.heap.size, 0, none⟩) 1 1) 1 (intsV [(j : Int)])) := Row.new (cs := [.int .i64 j]) (blk_new _ _) (by decide)
                          have HOA := Lib.hid (HO7.out.alloc (.cells #[.int .i64 j] 3))
                          have HKA := Lib.hid (HO8.out.alloc (.cells #[.int .i64 j] 3))
                          have HSA : Hid (Step (fun _ => False) w9 (wr5.alloc (.cells #[.int .i64 j] 3))) := HST5.out.alloc _
                          go_wp2_with (at_builtin; refine wpList_append_row _ rfl (wr5.heap.size + 1) (.tmp 125) (.tmp 127) 38 rfl w9.heap.size 3 j0 (.int .i64 0) 1 8 Try.underlying38 HJ.out HY0.out HY1.out HY2.out rfl (by decide) _ _ _ rfl HOA.out _ 1 _ rfl HROW5.out rfl (intsV_one _) (by unfold maxLen; omega) (by omega) HSA.out.size ?_)
                          intro v8 w8 hown8 hgrow8 hat8
                          have HGRW : Hid (World.grownBy (wr5.alloc (.cells #[.int .i64 j] 3)) w8 (Value.slice a7 kg.length c7).ownBlock) := hgrow8
                          have HAT8 : Hid (v8.ownBlock = (Value.slice a7 kg.length c7).ownBlock ∨ v8.ownBlock = some (wr5.heap.size + 1)) := hat8
                          rw [← intsV_append] at hown8
                          have HOWN8 := Lib.hid hown8
                          clear hown8 hgrow8 hat8
                          go_wp2_with fail
                          go_meet
                          case rel =>
                            have hs8 := grown_step HGRW.out
                            refine ⟨kg ++ [(j : Int)], HFG.out.symm, by rw [List.length_append]; exact HOWN8.out, owns_keep hs8 HKA.out (fun q hq e => HNE7.out q e hq), ne_grow HAT8.out (fun q hq e => HNE7.out q hq e) (fun e => by have := (HKA.out.lt _ e).2; simp at this), HSA.out.then hs8 (fun q hq e => by have := (HOA.out.lt q e).1; omega)⟩
                        | false =>
                          go_wp2_with fail
                          go_meet
                          case rel => exact ⟨kg, by rw [HFG.out]; simp, HO7.out, HO8.out, HNE7.out, HST5.out⟩
                      case rest =>
                        obtain ⟨w10, rfl⟩ : ∃ w10 : World, w10 = wc := ⟨_, rfl⟩
                        obtain ⟨kg2, hkg2, ho72, ho82, hne2, hst2⟩ := hcut
                        have HKG2 := Lib.hid hkg2
                        obtain ⟨a72, c72, rfl⟩ := owns_slice ho72
                        have HO72 := Lib.hid ho72
                        have HO82 := Lib.hid ho82
                        have HNE2 := Lib.hid hne2
                        have HST10 := Lib.hid hst2
                        have n2 := bools_cell (HST10.out.keep HBA9.out (fun h => h)) HBA.out
                        clear n1 hkg2 ho72 ho82 hne2 hst2
                        cases ba with
                        | true =>
                          have HE : Hid (kk = ints ((List.range (j + 1)).filter (fun k => !ra.getD k false))) := by show _ = _; rw [HFK.out]; simp
                          go_wp2
                          go_roundg (gk - 1)
                          case rel => exact ⟨j + 1, kg2, kk, by go_num, hlt2, by omega, HKG2.out, HE.out, HO72.out, HO82.out, HNE2.out, HST10.out⟩
                          case measure => omega
                        | false =>
                          have HE : Hid (kk ++ [(j : Int)] = ints ((List.range (j + 1)).filter (fun k => !ra.getD k false))) := by show _ = _; rw [HFK.out]; simp
                          have HROW5 : Hid (Row (w10.alloc (.cells #[.int .i64 j] 3)) (w10.heap.size + 1) (.slice (some ⟨w10.heap.size, 0, none⟩) 1 1) 1 (intsV [(j : Int)])) := Row.new (cs := [.int .i64 j]) (blk_new _ _) (by decide)
                          have HOA := Lib.hid (HO82.out.alloc (.cells #[.int .i64 j] 3))
                          have HGA := Lib.hid (HO72.out.alloc (.cells #[.int .i64 j] 3))
                          have HSA : Hid (Step (fun _ => False) w9 (w10.alloc (.cells #[.int .i64 j] 3))) := HST10.out.alloc _
                          go_wp2_with (at_builtin; refine wpList_append_row _ rfl (w10.heap.size + 1) (.tmp 134) (.tmp 136) 38 rfl w9.heap.size 3 j0 (.int .i64 0) 1 8 Try.underlying38 HJ.out HY0.out HY1.out HY2.out rfl (by decide) _ _ _ rfl HOA.out _ 1 _ rfl HROW5.out rfl (intsV_one _) (by unfold maxLen; omega) (by omega) HSA.out.size ?_)
                          intro v8 w8 hown8 hgrow8 hat8
                          have HGRW : Hid (World.grownBy (w10.alloc (.cells #[.int .i64 j] 3)) w8 (Value.slice a8 kk.length c8).ownBlock) := hgrow8
                          have HAT8 : Hid (v8.ownBlock = (Value.slice a8 kk.length c8).ownBlock ∨ v8.ownBlock = some (w10.heap.size + 1)) := hat8
                          rw [← intsV_append] at hown8
                          have HOWN8 := Lib.hid hown8
                          clear hown8 hgrow8 hat8 n2
                          go_wp2
                          go_roundg (gk - 1)
                          case rel =>
                            have hs8 := grown_step HGRW.out
                            refine ⟨j + 1, kg2, kk ++ [(j : Int)], by go_num, hlt2, by omega, HKG2.out, HE.out, owns_keep hs8 HGA.out (fun q hq e => HNE2.out q hq e), by rw [List.length_append]; exact HOWN8.out, ?_, HSA.out.then hs8 (fun q hq e => by have := (HOA.out.lt q e).1; omega)⟩
                            exact ne_symm (ne_grow HAT8.out (fun q hq e => HNE2.out q e hq) (fun e => by have := (HGA.out.lt _ e).2; simp at this))
                          case measure => omega
                    · obtain rfl : j = l.length := by omega
                      have HE1 : Hid (kg = genM l la) := by show _ = _; rw [HKG.out, HRN.out]; rfl
                      have HE2 : Hid (kk = killM l la) := by show _ = _; rw [HKK.out, HRA.out]; rfl
                      go_wp2_with fail
                      go_meet
                      case rel => exact ⟨kg, kk, HE1.out, HE2.out, HO7.out, HO8.out, HST5.out⟩
                case rest =>
                  obtain ⟨w10, rfl⟩ : ∃ w10 : World, w10 = wc := ⟨_, rfl⟩
                  obtain ⟨kg, kk, hkg, hkk, ho5, ho6, hst10⟩ := hcut
                  obtain ⟨a5, c5, rfl⟩ := owns_slice ho5
                  obtain ⟨a6, c6, rfl⟩ := owns_slice ho6
                  have HKG := Lib.hid hkg
                  have HKK := Lib.hid hkk
                  have HO5 := Lib.hid ho5
                  have HO6 := Lib.hid ho6
                  have HST10 : Hid (Step (fun _ => False) wo w10) := HST9.out.trans hst10
                  have HSZ9 : Hid (wo.heap.size ≤ w9.heap.size) := HST9.out.size
                  have HX10 : Hid (Step (· = g3) w2 w10) := HS24.out.trans (HST10.out.mono (fun _ _ h => h.elim))
                  obtain ⟨bm, hbm⟩ : ∃ bm, bm = m.getD k false := ⟨_, rfl⟩
                  have HMB10 : Hid (w10.heap[gm]? = some (boolsO m)) := HST10.out.keep (HST.out.keep HMB4.out (by have := HG4.out; have := HG3L.out; omega)) (fun h => h)
                  have n1 := bools_cell HMB10.out (i := k) (b := bm) (by rw [hbm, List.getD_eq_getElem?_getD, List.getElem?_eq_getElem (by rw [HML.out]; exact hlt)]; rfl)
                  obtain ⟨sl, hsl⟩ : ∃ sl, sl = succM m b k := ⟨_, rfl⟩
                  have HSL : Hid (sl = if bm = true then succB b k else []) := by show _ = _; rw [hsl, hbm]; rfl
                  have HSLM := Lib.hid hsl
                  obtain ⟨x, hx⟩ : ∃ x, b.code[k]? = some x := ⟨b.code[k], List.getElem?_eq_getElem hlt⟩
                  have HSX : Hid (succB b k = succI x k) := by show _ = _; unfold succB; rw [hx]
                  obtain ⟨hfr10, hbod10⟩ := HFX.out w10 HX10.out
                  have HSUC := Lib.hid (succ_fresh B gb b k x w10 hbod10 hx)
                  have c0 := hfr10.c0
                  have hi0 : (0 : Int) ≤ (k : Int) := by omega
                  have hi1 : (k : Int) < (b.code.length : Int) := by omega
                  clear hkg hkk ho5 ho6 hst10 hbm hsl hfr10 hbod10 hx c1 HBN9 HBA9 HBN7 HBA7 HBN HBA
                  go_upto_if 142 with fail
                  go_cut [15] (fun s15 wx => Row wx wx.heap.size s15 sl.length (intsV sl) ∧ (∀ q, s15.ownBlock = some q → w10.heap.size ≤ q) ∧ Step (fun _ => False) w10 wx)
                  case first =>
                    clear n1
                    cases bm with
                    | true =>
                      have HE : Hid (sl = succI x k) := by show _ = _; rw [HSL.out, HSX.out]; rfl
                      go_wp2_with fail
                      refine HSUC.out.mono ?_
                      rintro e w11 ⟨⟨v11, rfl, hr11, hfr11⟩, s11⟩
                      have HR11 := Lib.hid hr11
                      have HFR11 := Lib.hid hfr11
                      have HS11 := Lib.hid s11
                      clear hr11 hfr11 s11 c0
                      go_wp2_with fail
                      go_meet
                      case rel => exact ⟨by rw [HE.out]; exact HR11.out, HFR11.out, HS11.out⟩
                    | false =>
                      have HE : Hid (sl = []) := by show _ = _; rw [HSL.out]; rfl
                      clear c0
                      go_wp2_with fail
                      go_meet
                      case rel => exact ⟨by rw [HE.out]; exact Row.nil _ _ _, (fun q hq => nomatch hq), Step.refl _ _⟩
                  case rest =>
                    obtain ⟨w11, rfl⟩ : ∃ w11 : World, w11 = wc := ⟨_, rfl⟩
                    obtain ⟨hr11, hfr11, hst11⟩ := hcut
                    have HR11 := Lib.hid hr11
                    obtain ⟨a15, c15, rfl, -⟩ := hr11
                    have HST11 : Hid (Step (fun _ => False) wo w11) := HST10.out.trans hst11
                    have HSA : Hid (Step (fun _ => False) wo (w11.alloc (.cells #[.slice a15 sl.length c15] 38))) := HST11.out.alloc _
                    have HST1A : Hid (Step (fun _ => False) w10 (w11.alloc (.cells #[.slice a15 sl.length c15] 38))) := hst11.alloc _
                    have HPSA := Lib.hid (HPS.out.keep HSA.out (fun _ _ h => h.elim))
                    have HRT : Hid (Row (veil G (w11.alloc (.cells #[.slice a15 sl.length c15] 38))) (w11.alloc (.cells #[.slice a15 sl.length c15] 38)).heap.size (.slice a15 sl.length c15) sl.length (intsV sl)) :=
                      ((HR11.out.step ((Step.refl (fun _ => False) w11).alloc _) (fun _ _ h => h)).mono (by simp)).veil (fun q hq => HPS.out.up q (by have := hfr11 q hq; have := HST10.out.size; omega))
                    have HR5 : Hid (Row (veil G (w11.alloc (.cells #[.slice a15 sl.length c15] 38))) (w11.alloc (.cells #[.slice a15 sl.length c15] 38)).heap.size (.slice a5 kg.length c5) kg.length (intsV kg)) :=
                      Row.owns_veil (HST1A.out.owns HO5.out (fun _ _ h => h)) (Nat.le_refl _) (fun q hq => HPS.out.up q (by have := HSZ9.out; omega))
                    have HR6 : Hid (Row (veil G (w11.alloc (.cells #[.slice a15 sl.length c15] 38))) (w11.alloc (.cells #[.slice a15 sl.length c15] 38)).heap.size (.slice a6 kk.length c6) kk.length (intsV kk)) :=
                      Row.owns_veil (HST1A.out.owns HO6.out (fun _ _ h => h)) (Nat.le_refl _) (fun q hq => HPS.out.up q (by have := HSZ9.out; omega))
                    have HBA11 := Lib.hid (HSA.out.keep HBLK.out (fun h => h))
                    obtain ⟨gas, gac, hvs⟩ := owns_slice HPS.out.s.own
                    subst hvs
                    have b0 : w11.cell? ⟨g3, 0, none⟩ = some (.slice gas ls.length gac) := blk_cell (HST11.out.keep HBLK.out (fun h => h)) 0 _ rfl
                    have HROW5 : Hid (Row (w11.alloc (.cells #[.slice a15 sl.length c15] 38)) (w11.heap.size + 1) (.slice (some ⟨w11.heap.size, 0, none⟩) 1 1) 1 [.slice a15 sl.length c15]) := Row.new (cs := [.slice a15 sl.length c15]) (blk_new _ _) (by decide)
                    have hll1 : ls.length ≤ 100000 := by have := HL1.out; omega
                    clear hfr11 hst11 n1 c0
                    go_wp2_with (at_builtin; refine wpList_append_row _ rfl (w11.heap.size + 1) (.tmp 150) (.tmp 152) 31 rfl w4.heap.size 38 i0 (.slice none 0 0) 1 24 Try.underlying31 HI.out HZ0.out HZ1.out HZ2.out rfl (by decide) _ _ _ rfl HPSA.out.s.own _ 1 _ rfl HROW5.out rfl (by intro u hu; rw [List.mem_singleton.1 hu]; rfl) (by unfold maxLen; omega) (by omega) HPSA.out.le ?_)
                    intro v12 w12 hown12 hgrow12 hat12
                    obtain ⟨oa12, oc12, rfl⟩ := owns_slice hown12
                    have hsz12 : (w11.alloc (.cells #[.slice a15 sl.length c15] 38)).heap.size = w11.heap.size + 1 := by simp
                    rw [← hsz12] at hat12
                    have HPS12 := Lib.hid (HPSA.out.addS HRT.out hown12 hgrow12 hat12)
                    have HR512 := Lib.hid (row_grow HPSA.out.s hgrow12 hat12 HR5.out)
                    have HR612 := Lib.hid (row_grow HPSA.out.s hgrow12 hat12 HR6.out)
                    have HB12 := Lib.hid (grown_keep hgrow12 HBA11.out (fun q hq e => by have := (HPSA.out.s.own.lt q hq).1; have := HG4.out; omega))
                    have d0 := blk_free HB12.out 0
                    have d1 := blk_cell HB12.out 0 _ rfl
                    have HS12 : Hid (Step (· = g3) w4 w12) := HST.out.trans ((HSA.out.mono (fun _ _ h => h.elim))) |>.then (grown_step hgrow12) (fun q hq e => by have := (HPSA.out.s.own.lt q e).1; omega)
                    clear hown12 hgrow12 hat12 b0 hsz12
                    go_upto_region 37 with fail
                    obtain ⟨G2, hG2⟩ : ∃ G2, G2 = addG G (.slice oa12 (ls.length + 1) oc12) := ⟨_, rfl⟩
                    rw [← hG2] at HPS12 HR512 HR612
                    obtain ⟨v1, hv1⟩ : ∃ v1, v1 = Value.slice oa12 (ls.length + 1) oc12 := ⟨_, rfl⟩
                    rw [← hv1] at HPS12
                    obtain ⟨w13, hw13⟩ : ∃ w13 : World, w13 = w12.setCell ⟨g3, 0, none⟩ (.slice oa12 (ls.length + 1) oc12) := ⟨_, rfl⟩
                    have hs13 : Step (· = g3) w12 w13 := by rw [hw13]; exact (Step.refl (· = g3) w12).setCell ⟨g3, 0, none⟩ _ (fun _ => rfl)
                    have HPS6 := Lib.hid (HPS12.out.keep hs13 (fun q _ e => by have := HG4.out; omega))
                    have HR56 := Lib.hid (row_keep HR512.out hs13 (fun q _ e => by subst e; exact HPS12.out.low _ HG4.out.2.2.1))
                    have HR66 := Lib.hid (row_keep HR612.out hs13 (fun q _ e => by subst e; exact HPS12.out.low _ HG4.out.2.2.1))
                    have HB6 : Hid (w13.heap[g3]? = some (.cells #[v1, .int .i64 l.length, vg, vk, ve] 82 (0, 0))) := by show _ = _; rw [hw13, hv1]; exact blk_set HB12.out 0 _
                    have HST6' : Hid (Step (· = g3) w4 w13) := HS12.out.trans hs13
                    rw [← hw13]
                    clear hG2 hv1 hw13 hs13 d0 d1 HPS12 HR512 HR612 HB12 HPSA HRT HR5 HR6 HBA11 HROW5 HST6
                    have HST6 := HST6'
                    clear HST6'
                    refine wp_region_rely (by kernel_rfl) (J14e w4 w4.heap.size g3 l.length ve kg kk (.slice a5 kg.length c5) (.slice a6 kk.length c6) (ls ++ [sl]) v1 lg vg lk vk) 14 rfl (by kernel_rfl) (by kernel_rfl) (by kernel_rfl) (by kernel_rfl) ?h0 ?hs ?hdone
                    case h0 =>
                      have hd : Step (fun _ => False) w13 w13.drew := (Step.refl _ _).drew
                      exact ⟨G2, _, xg1, xk1, HPS6.out.keep hd (fun _ _ h => h.elim), row_keep HR56.out hd (fun _ _ h => h.elim), row_keep HR66.out hd (fun _ _ h => h.elim), (fun h => nomatch h), (fun h => nomatch h), (fun h => nomatch h), (fun h => nomatch h), (fun h => nomatch h), (fun h => nomatch h), (fun h => nomatch h), (fun h => nomatch h), (fun h => nomatch h), (fun h => nomatch h), hd.keep HB6.out (fun h => h), (fun h => nomatch h), (fun h => nomatch h), HST6.out.trans (hd.mono (fun _ _ h => h.elim))⟩
                    case hs =>
                      refine ⟨?_, ?_, ?_, ?_, ?_, ?_, ?_, ?_, ?_, ?_, ?_, ?_, ?_, ?_, trivial⟩
                      · intro L V X a ev evo hL hdep ⟨G1, xs1, xg1, xk1, hJ⟩
                        have o1 := evo 3 rfl
                        change a.tmps[3]?.getD undef = .pointer (some ⟨g3, 0, none⟩) at o1
                        go_simp
                        exact ⟨_, rfl, G1, xs1, xg1, xk1, { hJ with p0 := fun _ => rfl }⟩
                      · intro L V X a ev evo hL hdep ⟨G1, xs1, xg1, xk1, hJ⟩
                        have e200 := (ev 0 155 rfl (hdep 0 rfl)).trans (hJ.p0 (hdep 0 rfl))
                        have hq := hJ.n11 (.inr hL)
                        have hb := hJ.blk
                        simp only [hq, Bool.false_eq_true, if_false] at hb
                        have d1 := blk_cell hb 2 _ rfl
                        go_simp
                        exact ⟨_, rfl, G1, xs1, xg1, xk1, { hJ with p1 := fun _ => rfl, q11 := fun e => absurd (show L 11 = true from e) (by rw [hq]; decide) }⟩
                      · intro L V X a ev evo hL hdep ⟨G1, xs1, xg1, xk1, hJ⟩
                        have o1 := evo 7 rfl
                        change a.tmps[7]?.getD undef = .slice a5 kg.length c5 at o1
                        go_simp
                        exact ⟨_, rfl, G1, xs1, xg1, xk1, { hJ with p2 := fun _ => rfl }⟩
                      · intro L V X a ev evo hL hdep ⟨G1, xs1, xg1, xk1, hJ⟩
                        have e202 := (ev 2 157 rfl (hdep 2 rfl)).trans (hJ.p2 (hdep 2 rfl))
                        have hu := hJ.up3
                        go_simp
                        exact ⟨_, rfl, G1, xs1, xg1, xk1, hu⟩
                      · intro L V X a ev evo hL hdep ⟨G1, xs1, xg1, xk1, hJ⟩
                        have e201 := (ev 1 156 rfl (hdep 1 rfl)).trans (hJ.p1 (hdep 1 rfl))
                        have e203 := ev 3 158 rfl (hdep 3 rfl)
                        have hps := hJ.gen4 hL
                        have h15 := (hJ.p3 (hdep 3 rfl)).unveil
                        have h1l := HL2.out
                        refine wp_append_row _ X.heap.size (.tmp 156) (.tmp 158) 31 rfl w4.heap.size 38 i0 _ 1 24 Try.underlying31 HI.out HZ0.out HZ1.out HZ2.out rfl (by decide) vg lg.length xg1 (by rw [evalTmp]; exact e201) hps.g.own (V 3) 1 [.slice a5 kg.length c5] (by rw [evalTmp]; exact e203) h15 rfl (by intro u hu; rw [List.mem_singleton.1 hu]; rfl) (by unfold maxLen; omega) (by omega) hps.le ?_
                        intro v8 w8 hown8 hgrow8 hat8
                        exact ⟨v8, rfl, addG G1 v8, xs1, xg1 ++ [.slice a5 kg.length c5], xk1, hJ.up4 hL HG4.out.2.2.1 (Nat.le_refl _) hown8 hgrow8 hat8⟩
                      · intro L V X a ev evo hL hdep ⟨G1, xs1, xg1, xk1, hJ⟩
                        have o1 := evo 3 rfl
                        change a.tmps[3]?.getD undef = .pointer (some ⟨g3, 0, none⟩) at o1
                        go_simp
                        exact ⟨_, rfl, G1, xs1, xg1, xk1, { hJ with p5 := fun _ => rfl }⟩
                      · intro L V X a ev evo hL hdep ⟨G1, xs1, xg1, xk1, hJ⟩
                        have e205 := (ev 5 160 rfl (hdep 5 rfl)).trans (hJ.p5 (hdep 5 rfl))
                        have hq := hJ.n13 (.inr hL)
                        have hb := hJ.blk
                        simp only [hq, Bool.false_eq_true, if_false] at hb
                        have d1 := blk_cell hb 3 _ rfl
                        go_simp
                        exact ⟨_, rfl, G1, xs1, xg1, xk1, { hJ with p6 := fun _ => rfl, q13 := fun e => absurd (show L 13 = true from e) (by rw [hq]; decide) }⟩
                      · intro L V X a ev evo hL hdep ⟨G1, xs1, xg1, xk1, hJ⟩
                        have o1 := evo 8 rfl
                        change a.tmps[8]?.getD undef = .slice a6 kk.length c6 at o1
                        go_simp
                        exact ⟨_, rfl, G1, xs1, xg1, xk1, { hJ with p7 := fun _ => rfl }⟩
                      · intro L V X a ev evo hL hdep ⟨G1, xs1, xg1, xk1, hJ⟩
                        have e207 := (ev 7 162 rfl (hdep 7 rfl)).trans (hJ.p7 (hdep 7 rfl))
                        have hu := hJ.up8
                        go_simp
                        exact ⟨_, rfl, G1, xs1, xg1, xk1, hu⟩
                      · intro L V X a ev evo hL hdep ⟨G1, xs1, xg1, xk1, hJ⟩
                        have e206 := (ev 6 161 rfl (hdep 6 rfl)).trans (hJ.p6 (hdep 6 rfl))
                        have e208 := ev 8 163 rfl (hdep 8 rfl)
                        have hps := hJ.kill9 hL
                        have h15 := (hJ.p8 (hdep 8 rfl)).unveil
                        have h1l := HL3.out
                        refine wp_append_row _ X.heap.size (.tmp 161) (.tmp 163) 31 rfl w4.heap.size 38 i0 _ 1 24 Try.underlying31 HI.out HZ0.out HZ1.out HZ2.out rfl (by decide) vk lk.length xk1 (by rw [evalTmp]; exact e206) hps.k.own (V 8) 1 [.slice a6 kk.length c6] (by rw [evalTmp]; exact e208) h15 rfl (by intro u hu; rw [List.mem_singleton.1 hu]; rfl) (by unfold maxLen; omega) (by omega) hps.le ?_
                        intro v8 w8 hown8 hgrow8 hat8
                        exact ⟨v8, rfl, addG G1 v8, xs1, xg1, xk1 ++ [.slice a6 kk.length c6], hJ.up9 hL HG4.out.2.2.1 (Nat.le_refl _) hown8 hgrow8 hat8⟩
                      · intro L V X a ev evo hL hdep ⟨G1, xs1, xg1, xk1, hJ⟩
                        have o1 := evo 3 rfl
                        change a.tmps[3]?.getD undef = .pointer (some ⟨g3, 0, none⟩) at o1
                        go_simp
                        exact ⟨_, rfl, G1, xs1, xg1, xk1, { hJ with p10 := fun _ => rfl }⟩
                      · intro L V X a ev evo hL hdep ⟨G1, xs1, xg1, xk1, hJ⟩
                        have e210 := (ev 10 165 rfl (hdep 10 rfl)).trans (hJ.p10 (hdep 10 rfl))
                        have e204 := ev 4 159 rfl (hdep 4 rfl)
                        have h6 := hdep 4 rfl
                        have hps := hJ.ps
                        simp only [h6, if_true] at hps
                        obtain ⟨ar6, n6, cr6, hv6⟩ : ∃ a n c, V 4 = .slice a n c := by
                          obtain ⟨a, c, h⟩ := owns_slice hps.g.own
                          exact ⟨a, _, c, h⟩
                        rw [hv6] at e204
                        have hb := hJ.blk
                        have d1 := blk_cell hb 2 _ rfl
                        have d2 := blk_free hb 2
                        have hu := hJ.up11 h6 (hdep 1 rfl) HG4.out.2.2.1 undef
                        rw [hv6] at hu
                        go_simp
                        exact ⟨undef, G1, xs1, xg1, xk1, hu⟩
                      · intro L V X a ev evo hL hdep ⟨G1, xs1, xg1, xk1, hJ⟩
                        have o1 := evo 3 rfl
                        change a.tmps[3]?.getD undef = .pointer (some ⟨g3, 0, none⟩) at o1
                        go_simp
                        exact ⟨_, rfl, G1, xs1, xg1, xk1, { hJ with p12 := fun _ => rfl }⟩
                      · intro L V X a ev evo hL hdep ⟨G1, xs1, xg1, xk1, hJ⟩
                        have e212 := (ev 12 166 rfl (hdep 12 rfl)).trans (hJ.p12 (hdep 12 rfl))
                        have e209 := ev 9 164 rfl (hdep 9 rfl)
                        have h6 := hdep 9 rfl
                        have hps := hJ.ps
                        simp only [h6, if_true] at hps
                        obtain ⟨ar6, n6, cr6, hv6⟩ : ∃ a n c, V 9 = .slice a n c := by
                          obtain ⟨a, c, h⟩ := owns_slice hps.k.own
                          exact ⟨a, _, c, h⟩
                        rw [hv6] at e209
                        have hb := hJ.blk
                        have d1 := blk_cell hb 3 _ rfl
                        have d2 := blk_free hb 3
                        have hu := hJ.up13 h6 (hdep 6 rfl) HG4.out.2.2.1 undef
                        rw [hv6] at hu
                        go_simp
                        exact ⟨undef, G1, xs1, xg1, xk1, hu⟩
                    case hdone =>
                      intro L V X hall ⟨G1, xs5, xg5, xk5, hJ⟩
                      have hps := hJ.ps
                      have hb := hJ.blk
                      simp only [hall 4 (by decide), hall 9 (by decide), if_true] at hps
                      simp only [hall 11 (by decide), hall 13 (by decide), if_true] at hb
                      rw [show List.range 14 = [0, 1, 2, 3, 4, 5, 6, 7, 8, 9, 10, 11, 12, 13] from rfl]
                      simp only [putF, dstO, List.getElem?_toArray, List.getElem?_cons_zero, List.getElem?_cons_succ, Option.bind_some, Act.put, List.setIfInBounds_toArray, List.set_cons_zero, List.set_cons_succ]
                      have HPS7 := Lib.hid hps
                      have HB7 := Lib.hid hb
                      have HST7' := Lib.hid hJ.st
                      clear hps hb hJ
                      go_wp2_with fail
                      go_roundg (go1 - 1)
                      case rel =>
                        have e1 : ls ++ [sl] = (succsM m b).take (k + 1) := by
                          rw [HLS.out, HSLM.out]; exact (map_take_succ (succM m b) _ _ hlt).symm
                        have e2 : lg ++ [kg] = (gensM l b).take (k + 1) := by
                          rw [HLG.out, HKG.out, HLA.out]; exact (map_take_succ (fun i => genM l (accB b i)) _ _ hlt).symm
                        have e3 : lk ++ [kk] = (killsM l b).take (k + 1) := by
                          rw [HLK.out, HKK.out, HLA.out]; exact (map_take_succ (fun i => killM l (accB b i)) _ _ hlt).symm
                        exact ⟨k + 1, _, v1, _, V 4, _, V 9, G1, xs5, xg5, xk5, by go_num, hlt, by rw [← Nat.sub_sub]; exact Nat.sub_le_sub_right hgg 1, e1, e2, e3, HPS7.out, HB7.out, HST7'.out⟩
                      case measure => omega
        · obtain rfl : k = b.code.length := by omega
          have E1 : Hid (ls = succsM m b) := by show _ = _; rw [HLS.out]; exact List.take_of_length_le (by simp [succsM])
          have E2 : Hid (lg = gensM l b) := by show _ = _; rw [HLG.out]; exact List.take_of_length_le (by simp [gensM])
          have E3 : Hid (lk = killsM l b) := by show _ = _; rw [HLK.out]; exact List.take_of_length_le (by simp [killsM])
          have HRESW : Hid (wo.heap[w.heap.size]? = some (.cells #[.slice none 0 0, .int .i64 0, .slice none 0 0, .slice none 0 0, .slice none 0 0] 82 (0, 0))) := HS24.out.keep HRES2.out (by have := HG3.out; omega)
          have HLD : Hid (∀ (j : Nat) v, [vs, .int .i64 l.length, vg, vk, ve][j]? = some v → wo.cell? ⟨g3, 0 + j, none⟩ = some v) := fun j v hv => by rw [Nat.zero_add]; exact blk_cell HBLK.out j v (by simpa using hv)
          obtain ⟨gas, gac, hvs⟩ := owns_slice HPS.out.s.own
          obtain ⟨gag, gcg, hvg⟩ := owns_slice HPS.out.g.own
          obtain ⟨gak, gck, hvk⟩ := owns_slice HPS.out.k.own
          obtain ⟨gae, gne, gce, hve⟩ := HVEF.out
          have HONE : Hid (∀ u ∈ [vs, .int .i64 l.length, vg, vk, ve], u.oneCell' = true) := by
            show ∀ u ∈ _, _
            intro u hu
            rw [hvs, hvg, hvk, hve] at hu
            simp at hu
            rcases hu with rfl | rfl | rfl | rfl | rfl <;> rfl
          have HVEW : Hid (Row wo w4.heap.size ve el.length (intsV el)) := HVE4.out.keep HST.out (fun q hq e => by have := HVO.out q hq; have := HG3L.out; omega)
          clear hvs hvg hvk hve
          go_wp2_with (first
            | (refine wpList_load_whole rfl 82 (.tmp 3) rfl g3 0 rfl [vs, .int .i64 l.length, vg, vk, ve] _ HLD.out Try.underlying82 rfl Try.sizeProb ?_)
            | (refine wpList_store_part (w := _) rfl 82 (.tmp 2) (.tmp 168) rfl w.heap.size 0 82 _ [vs, .int .i64 l.length, vg, vk, ve] rfl rfl HRESW.out Try.sizeProb (Nat.le_of_eq rfl) HONE.out ?_
               intro w10 hb10 hst10))
          have hb10' : w10.heap[w.heap.size]? = some (.cells [vs, .int .i64 l.length, vg, vk, ve].toArray 82 (0, 0)) := hb10
          have hps10 := HPS.out.keep hst10 (fun q _ e => by have := HG3L.out; have := HG4.out; omega)
          refine bodyPost_ret (v := .agg [vs, .int .i64 l.length, vg, vk, ve].toArray) ?_ rfl ⟨⟨vs, vg, vk, ve, m, rfl, HML.out, HMR.out, ?_, ?_, ?_, ?_⟩, ?_⟩
          · exact results_cellB rfl _ w.heap.size 82 _ _ rfl hb10' Try.underlying82 rfl Try.sizeProb
          · rw [← E1.out]; exact hps10.s.rows2
          · rw [← E2.out]; exact hps10.g.rows2
          · rw [← E3.out]; exact hps10.k.rows2
          · rw [← HEL.out]; exact (HVEW.out.keep hst10 (fun q hq e => by have := HVO.out q hq; have := HG3L.out; omega)).mono (Nat.le_trans HST.out.size hst10.size)
          · exact ((HST2.out.then HS24.out (fun q hq e => by have := HG3L.out; omega))).then hst10 (fun q hq e => by omega)

end Go.Proofs.Ytilipeigjkmldaa
