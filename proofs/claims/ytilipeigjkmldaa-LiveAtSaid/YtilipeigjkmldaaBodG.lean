/- Contracts of package mir: Check. -/
import Derived.Test.YtilipeigjkmldaaBodF
namespace Go.Proofs.Ytilipeigjkmldaa
open Go.RowKit

def tgtOk (n : Nat) (t : Int) : Bool := decide (0 ≤ t) && decide (t < n)

set_option maxHeartbeats 400000 in
theorem check1_any (B g bx : Nat) (b : Bod) (t : Int) (w : World) (h : BodP w B g b) (hbx : w.cell? ⟨bx, 0, none⟩ = some (.pointer (some ⟨g, 0, none⟩))) :
    Calls Try.prog 55 #[.int .i64 t, .pointer (some ⟨bx, 0, none⟩)] w (IsBool (!tgtOk b.code.length t) w) := by
  obtain ⟨-, -, a, c, b3, -, -, -⟩ := h.parts
  clear h
  unfold tgtOk
  by_cases h0 : 0 ≤ t
  · have e0 : decide (t < 0) = false := decide_eq_false (by omega)
    by_cases h1 : t < b.code.length
    · have e1 : decide ((b.code.length : Int) ≤ t) = false := decide_eq_false (by omega)
      rw [decide_eq_true h0, decide_eq_true h1]
      go_enter Try.func55, Try.ntmps55
      go_wp2
      go_ret
      exact ⟨rfl, Step.refl _ _⟩
    · have e1 : decide ((b.code.length : Int) ≤ t) = true := decide_eq_true (by omega)
      rw [decide_eq_true h0, decide_eq_false h1]
      go_enter Try.func55, Try.ntmps55
      go_wp2
      go_ret
      exact ⟨rfl, Step.refl _ _⟩
  · have e0 : decide (t < 0) = true := decide_eq_true (by omega)
    rw [decide_eq_false h0]
    go_enter Try.func55, Try.ntmps55
    go_wp2
    go_ret
    exact ⟨rfl, Step.refl _ _⟩

theorem check1_has (B g bx i : Nat) (b : Bod) (x : Ins) (v : Value) (w : World) (h : BodP w B g b) (hbx : w.cell? ⟨bx, 0, none⟩ = some (.pointer (some ⟨g, 0, none⟩))) (hr : Row w w.heap.size v (succI x i).length (intsV (succI x i))) :
    Calls Try.prog 53 #[v, .func (.func 55) #[] #[.pointer (some ⟨bx, 0, none⟩)]] w (IsBool ((succI x i).any fun t => !tgtOk b.code.length t) w) :=
  contains_any 55 #[.pointer (some ⟨bx, 0, none⟩)] w.heap.size (fun t => !tgtOk b.code.length t) (succI x i) v w (fun xs w => by go_simp) hr
    fun t _ w' hst => check1_any B g bx b t w' (h.step hst (fun _ _ h => h)) (hst.cell hbx (fun h => h))

theorem new_cells {w : World} {t : Nat} {cs : List Value} (j : Nat) (v : Value) (h : cs[j]? = some v) : (w.alloc (.cells cs.toArray t)).cell? ⟨w.heap.size, 0 + j, none⟩ = some v := by
  rw [Nat.zero_add]; exact blk_cell (blk_new _ _) j v (by simpa using h)

def chkF (b : Bod) : Int := if headOk b = true then idxI (fun i => !atOk b i) (List.range b.code.length) else 0
theorem chkF_bad {b : Bod} (h : headOk b = false) : chkF b = 0 := by unfold chkF; rw [if_neg (by rw [h]; decide)]
theorem chkF_at {b : Bod} (h : headOk b = true) {i : Nat} (hi : i < b.code.length) (hb : atOk b i = false) (hno : ∀ j, j < i → atOk b j = true) : chkF b = i := by
  unfold chkF
  rw [if_pos h]
  exact idxI_some (i := i) (x := i) (by simp [hi]) (by rw [hb]; rfl) (fun j hj y hy => by
    have : y = j := by
      rw [List.getElem?_range (by omega)] at hy; exact (Option.some.inj hy).symm
    rw [this, hno j hj]; rfl)
theorem chkF_ok {b : Bod} (h : headOk b = true) (hno : ∀ j, j < b.code.length → atOk b j = true) : chkF b = -1 := by
  unfold chkF
  rw [if_pos h]
  exact idxI_none fun x hx => by rw [hno x (List.mem_range.1 hx)]; rfl
theorem atOk_at {b : Bod} {i : Nat} {x : Ins} (hx : b.code[i]? = some x) : atOk b i = (insOk b.locals x && !((succI x i).any fun t => !tgtOk b.code.length t)) := by
  unfold atOk; rw [hx, any_not]; rfl

theorem check_nil (w : World) : Calls Try.prog 32 #[.pointer none] w fun e w' => e = .returned (.int .i64 0) ∧ Step (fun _ => False) w w' := by
  go_enter Try.func32, Try.ntmps32
  go_wp2
  go_quiet (fail)
  go_wp2
  go_ret
  exact ⟨rfl, ((Step.refl _ _).alloc _).drewN _⟩

set_option maxRecDepth 100000 in
set_option maxHeartbeats 2000000 in
theorem check_any (B g : Nat) (b : Bod) (w : World) (h : BodP w B g b) :
    Calls Try.prog 32 #[.pointer (some ⟨g, 0, none⟩)] w fun e w' => e = .returned (.int .i64 (chkF b)) ∧ Step (fun _ => False) w w' := by
  obtain ⟨b1, ⟨al, cl, b2⟩, a, c, b3, hc1, hc2, hcode⟩ := h.parts
  have HB := Lib.hid h
  have HCO := Lib.hid hcode
  clear h hcode
  have HH : Hid (headOk b = (decide (0 ≤ b.params) && (decide (b.params < b.locals) && decide (0 < b.code.length)))) := rfl
  have hgl := HB.out.2.1
  have e5 : (binOp .eql 35 (.pointer (some ⟨g, 0, none⟩)) (.pointer none)).run Try.prog w = .ok (.bool false) w := by kernel_rfl
  by_cases hp : b.params < 0
  · have e0 : decide (b.params < 0) = true := decide_eq_true hp
    have HV := Lib.hid (chkF_bad (b := b) (by rw [HH.out, decide_eq_false (show ¬ 0 ≤ b.params by omega)]; rfl))
    as_aux_lemma =>
      go_enter Try.func32, Try.ntmps32
      go_wp2
      go_quiet (fail)
      go_wp2
      go_ret
      exact ⟨ret_int HV.out.symm, ((Step.refl _ _).alloc _).drewN _⟩
  have e0 : decide (b.params < 0) = false := decide_eq_false hp
  by_cases hl : (b.locals : Int) ≤ b.params
  · have e1 : decide ((b.locals : Int) ≤ b.params) = true := decide_eq_true hl
    have HV := Lib.hid (chkF_bad (b := b) (by rw [HH.out, decide_eq_false (show ¬ b.params < b.locals by omega)]; simp))
    as_aux_lemma =>
      go_enter Try.func32, Try.ntmps32
      go_wp2
      go_quiet (fail)
      go_wp2
      go_ret
      exact ⟨ret_int HV.out.symm, ((Step.refl _ _).alloc _).drewN _⟩
  have e1 : decide ((b.locals : Int) ≤ b.params) = false := decide_eq_false hl
  by_cases hn : b.code.length = 0
  · have en : ((b.code.length : Int) == 0) = true := by simp [hn]
    have HV := Lib.hid (chkF_bad (b := b) (by rw [HH.out, decide_eq_false (show ¬ 0 < b.code.length by omega)]; simp))
    clear hn
    as_aux_lemma =>
      go_enter Try.func32, Try.ntmps32
      go_wp2
      go_quiet (fail)
      go_wp2
      go_ret
      exact ⟨ret_int HV.out.symm, ((Step.refl _ _).alloc _).drewN _⟩
  have en : ((b.code.length : Int) == 0) = false := by simp [hn]
  have HOK : Hid (headOk b = true) := by
    show _ = _; rw [HH.out, decide_eq_true (show 0 ≤ b.params by omega), decide_eq_true (show b.params < b.locals by omega), decide_eq_true (show 0 < b.code.length by omega)]; rfl
  have ST0 : ∀ n, Step (fun _ => False) w ((w.alloc (.cells #[.pointer (some ⟨g, 0, none⟩)] 35)).drewN n) := fun n => ((Step.refl _ _).alloc _).drewN _
  have HST0 := Lib.hid ST0
  have hpos : 0 < b.code.length := by omega
  obtain ⟨g', o', rfl, hcode⟩ := HCO.out hpos
  have HCODE := Lib.hid hcode
  clear HCO hcode hn ST0
  go_enter Try.func32, Try.ntmps32
  go_wp2
  go_quiet (fail)
  go_wp2_with fail
  have STW := HST0.out nq
  have HBX : Hid (((w.alloc (.cells #[.pointer (some ⟨g, 0, none⟩)] 35)).drewN nq).heap[w.heap.size]? = some (.cells #[.pointer (some ⟨g, 0, none⟩)] 35 (0, 0))) := blk_new _ _
  go_loopg [3, 4, 39] b.code.length (fun gg _ _ s39 wr => ∃ i : Nat, s39 = .int .i64 i ∧ i ≤ b.code.length ∧ b.code.length - i ≤ gg ∧ (∀ j, j < i → atOk b j = true) ∧ Step (fun _ => False) ((w.alloc (.cells #[.pointer (some ⟨g, 0, none⟩)] 35)).drewN nq) wr)
  case atStart => exact ⟨0, rfl, Nat.zero_le _, by omega, fun j hj => absurd hj (Nat.not_lt_zero _), Step.refl _ _⟩
  case round =>
    obtain ⟨i, rfl, hi, hgg, hno, hst⟩ := hrel
    have HNO := Lib.hid hno
    clear hno
    by_cases hlt : i < b.code.length
    · obtain ⟨x, hx⟩ : ∃ x, b.code[i]? = some x := ⟨b.code[i], List.getElem?_eq_getElem hlt⟩
      have STR : Step (fun _ => False) w wr := STW.trans hst
      obtain ⟨cs, hat, f⟩ := HCODE.out i x hx
      have HAT := Lib.hid (InAt.step STR (fun _ _ h => h) _ _ hat)
      have HONE := Lib.hid (InAt.one _ _ hat)
      have HLEN := Lib.hid (InAt.len _ _ hat)
      have F : Hid (∀ (j : Nat) y, cs[j]? = some y → wr.cell? ⟨g', o' + i * 21 + j, none⟩ = some y) := fun j y hy => STR.cell (f j y hy) (fun h => h)
      have HX := Lib.hid hx
      have HAO := Lib.hid (atOk_at hx)
      have hbxr := blk_cell (hst.keep HBX.out (fun h => h)) 0 _ rfl
      have STA : Step (fun _ => False) wr (wr.alloc (.cells cs.toArray 57)) := (Step.refl _ _).alloc _
      have hbxa := STA.cell hbxr (fun h => h)
      have ei : decide ((i : Int) < 0) = false := decide_eq_false (by omega)
      clear hat f hx
      have hinf : (Try.prog.info? 57).map (·.size) = some cs.length := by rw [HLEN.out]; exact Try.sizeIns
      go_wp2_with (first
        | (refine wpList_load_whole rfl 57 (.tmp 42) rfl g' (o' + i * 21) rfl cs _ F.out Try.underlying57 rfl hinf ?_)
        | (refine wpList_store_new rfl 57 (.tmp 4) (.tmp 43) rfl _ cs rfl rfl hinf (by rw [HLEN.out]; rfl) HONE.out ?_)
        | (refine wpList_load_whole rfl 57 (.tmp 4) rfl wr.heap.size 0 rfl cs _ (fun j v h => new_cells j v h) Try.underlying57 rfl hinf ?_))
      have STI : Step (fun _ => False) w (wr.alloc (.cells cs.toArray 57)) := STR.trans STA
      refine (instr_any B g b x cs _ (HB.out.step STI (fun _ _ h => h)) (InAt.step STA (fun _ _ h => h) _ _ HAT.out)).mono ?_
      rintro e w1 ⟨rfl, h1⟩
      clear hbxr hbxa
      have ST1 := STI.trans h1
      have hbx1 := blk_cell (h1.keep (STA.keep (hst.keep HBX.out (fun h => h)) (fun h => h)) (fun h => h)) 0 _ rfl
      cases hio : insOk b.locals x with
      | false =>
        have HV := Lib.hid (chkF_at HOK.out hlt (by rw [HAO.out, hio]; rfl) HNO.out)
        clear hio
        go_wp2
        go_ret
        exact ⟨ret_int HV.out.symm, ST1⟩
      | true =>
        have HIO := Lib.hid hio
        clear hio
        go_wp2_with fail
        refine (succ_any B g b i x w1 (HB.out.step ST1 (fun _ _ h => h)) HX.out).mono ?_
        rintro e w2 ⟨⟨v2, rfl, hr2⟩, h2⟩
        have ST2 := ST1.trans h2
        have HR2 := Lib.hid hr2
        have HB2 := Lib.hid (HB.out.step ST2 (fun _ _ h => h))
        have hbx2 := h2.cell hbx1 (fun h => h)
        obtain ⟨a2, c2, rfl, -⟩ := hr2
        clear hbx1
        go_wp2_with fail
        refine (check1_has B g w.heap.size i b x _ w2 HB2.out hbx2 HR2.out).mono ?_
        rintro e w3 ⟨rfl, h3⟩
        have ST3 := ST2.trans h3
        have H03 := Lib.hid (hst.trans (STA.trans (h1.trans (h2.trans h3))))
        clear hbx2
        cases hso : ((succI x i).any fun t => !tgtOk b.code.length t) with
        | true =>
          have HV := Lib.hid (chkF_at HOK.out hlt (by rw [HAO.out, HIO.out, hso]; rfl) HNO.out)
          clear hso
          go_wp2
          go_ret
          exact ⟨ret_int HV.out.symm, ST3⟩
        | false =>
          have HA : Hid (atOk b i = true) := by show _ = _; rw [HAO.out, HIO.out, hso]; rfl
          clear hso
          go_wp2
          go_roundg (gk - 1)
          case rel =>
            refine ⟨i + 1, by go_num, by omega, by omega, fun j hj => ?_, H03.out⟩
            rcases Nat.lt_succ_iff_lt_or_eq.1 hj with h | rfl
            · exact HNO.out j h
            · exact HA.out
          case measure => omega
    · have HV := Lib.hid (chkF_ok HOK.out (fun j hj => HNO.out j (by omega)))
      go_wp2
      go_ret
      exact ⟨ret_int HV.out.symm, STW.trans hst⟩

end Go.Proofs.Ytilipeigjkmldaa
