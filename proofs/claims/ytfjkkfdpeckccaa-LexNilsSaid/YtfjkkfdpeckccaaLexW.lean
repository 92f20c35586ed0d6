/- The statement LexAgain walked. -/
import Derived.Test.YtfjkkfdpeckccaaLexV
namespace Go.Proofs.Ytfjkkfdpeckccaa
open Go.RowKit

theorem allF_err : ∀ (k : Nat) (r : List UInt8) (p l f : Nat) (acc : List Tok) (c ln col : Nat), r.length < k → allF k r p l f acc = .error (c, ln, col) → c ≠ 0 := by
  intro k
  induction k with
  | zero => intro r p l f acc c ln col h; omega
  | succ k ih =>
    intro r p l f acc c ln col hk h
    rw [allF] at h
    generalize blankF false r p l f = q at *
    obtain ⟨q1, q2, q3⟩ := q
    dsimp only at h
    split at h
    · simp at h
    · split at h
      · simp at h; omega
      · split at h
        · rename_i e he
          simp at h
          have := nextF_err he
          omega
        · rename_i kind n val hn
          obtain ⟨hn1, hn2, _⟩ := nextF_pos hn
          refine ih _ _ _ _ _ _ _ _ ?_ h
          simp only [List.length_drop] at hn2 ⊢
          omega
theorem lexF_err {s : List UInt8} {c ln col : Nat} (h : lexF s = .error (c, ln, col)) : c ≠ 0 := by
  unfold lexF at h
  split at h
  · simp at h; omega
  · exact allF_err _ _ _ _ _ _ _ _ _ (by omega) h

theorem lexF_some {s : List UInt8} {l : List Tok} (h : lexF s = .ok l) : 0 < l.length := by
  unfold lexF at h
  split at h
  · simp at h
  · obtain ⟨body, e, rfl, _⟩ := allF_good _ _ _ _ _ _ _ h (Nat.le_refl _) (by simp) (by simp [sumLen]) (by simp)
    simp

theorem Same.length {a b : List Tok} (h : Same a b) : a.length = b.length := by
  have := congrArg List.length h
  simpa using this
theorem Same.get {a b : List Tok} (h : Same a b) {i : Nat} {t : Tok} (ht : b[i]? = some t) : ∃ t', a[i]? = some t' ∧ t'.kind = t.kind ∧ t'.text = t.text ∧ t'.val = t.val := by
  have := congrArg (fun l => l[i]?) h
  simp only [List.getElem?_map, ht, Option.map_some] at this
  cases ha : a[i]? with
  | none => rw [ha] at this; simp at this
  | some t' => rw [ha] at this; simp at this; exact ⟨t', rfl, this.1, this.2.1, this.2.2⟩

theorem Try.infoStr : (Try.prog.info? 9).map (fun i => (i.zero, i.size, i.bytes)) = some (some (.string ⟨#[]⟩), 1, 16) := by kernel_rfl

/- A row of texts of the call's own. -/
def textV (l : List Tok) : List Value := l.map fun t => .string (toB t.text)
theorem owns_strs {w : World} {base e : Nat} {v : Value} {l : List Tok} (h : w.ownsRow base e 1 v l.length (textV l)) (hl : 0 < l.length) : Strs w v (l.map fun t => toB t.text) := by
  obtain ⟨g, c, hv, hb, hg, hc⟩ := owns_some h hl
  refine ⟨g, 0, c, by rw [hv, List.length_map], hg, by rw [List.length_map]; exact hc, ?_⟩
  intro i x hx
  have hu : (textV l)[i]? = some (.string x) := by
    rw [List.getElem?_map] at hx
    rw [textV, List.getElem?_map]
    cases hi : l[i]? with
    | none => rw [hi] at hx; simp at hx
    | some t => rw [hi] at hx; simp at hx; subst hx; rfl
  have := h.cells (g := g) (by rw [hv]; rfl) i _ hu
  have hadd : (⟨g, 0, none⟩ : Addr).add i = ⟨g, 0 + i, none⟩ := by unfold Addr.add; split <;> simp_all
  rwa [hadd] at this

set_option maxRecDepth 100000 in
set_option maxHeartbeats 400000 in
theorem lexAgain_err (s : ByteArray) (w : World) (m : Int) (hm : w.cell? ⟨0, 0, none⟩ = some (.int .i64 m)) (c ln col : Nat) (hl : lexF s.data.toList = .error (c, ln, col)) :
    Calls Try.prog 6 #[.string s] w fun e w' => e = .returned (.bool true) ∧ Step (fun _ => False) w w' := by
  have hc := lexF_err hl
  have bc : ((c : Int) == 0) = false := by rw [beq_eq_false_iff_ne]; omega
  have HL := Lib.hid hl
  clear hl hc
  go_enter Try.func6, Try.ntmps6
  go_wp2_with fail
  refine (all_err s w m c ln col hm HL.out).mono ?_
  rintro e w1 ⟨rfl, h1⟩
  have hm1 := h1.cell hm (fun h => h)
  go_wp2_with fail
  refine (cut_any _ m (cell_alloc hm1)).mono ?_
  rintro e w2 ⟨rfl, h2⟩
  obtain ⟨⟨g0, g1, g2⟩, k0, k1, k2⟩ := blk3 (h2.keep (blk_new w1 _) (fun h => h))
  have hm2 := h2.cell (cell_alloc hm1) (fun h => h)
  go_wp2_with fail
  refine (cut_any _ m hm2).mono ?_
  rintro e w3 ⟨rfl, h3⟩
  go_wp2
  go_ret
  exact ⟨rfl, ((h1.alloc _).trans h2).trans h3⟩

set_option maxRecDepth 100000 in
set_option maxHeartbeats 400000 in
theorem lexAgain_big (s : ByteArray) (w : World) (m : Int) (hm : w.cell? ⟨0, 0, none⟩ = some (.int .i64 m)) (l : List Tok) (hl : lexF s.data.toList = .ok l) (hbig : 9000 < s.size) (hs : s.size ≤ 9223372036854775807) :
    Calls Try.prog 6 #[.string s] w fun e w' => e = .returned (.bool true) ∧ Step (fun _ => False) w w' := by
  have hd : decide ((9000 : Int) < s.size) = true := by rw [decide_eq_true_eq]; omega
  have HL := Lib.hid hl
  clear hl hbig
  go_enter Try.func6, Try.ntmps6
  go_wp2_with fail
  refine (all_ok s w m l hm HL.out).mono ?_
  rintro e w1 ⟨v, rfl, hown, h1⟩
  clear hown
  have hm1 := h1.cell hm (fun h => h)
  go_wp2_with fail
  refine (cut_any _ m (cell_alloc hm1)).mono ?_
  rintro e w2 ⟨rfl, h2⟩
  obtain ⟨⟨g0, g1, g2⟩, k0, k1, k2⟩ := blk3 (h2.keep (blk_new w1 _) (fun h => h))
  have hm2 := h2.cell (cell_alloc hm1) (fun h => h)
  go_wp2_with fail
  refine (cut_any _ m hm2).mono ?_
  rintro e w3 ⟨rfl, h3⟩
  go_wp2
  go_ret
  exact ⟨rfl, ((h1.alloc _).trans h2).trans h3⟩

/- Texts that lie behind one another, or none at all: what Put makes of them. -/
theorem put_owned (l : List Tok) (v : Value) (base : Nat) (w : World) (h : w.ownsRow base 9 1 v l.length (textV l)) (hlen : (putF (l.map (·.text))).length ≤ 18000) (hl : l.length ≤ 8000) :
    Calls Try.prog 27 #[v] w fun e w' => e = .returned (.string (toB (putF (l.map (·.text))))) ∧ Step (fun _ => False) w w' := by
  have hp : putB (l.map fun t => toB t.text) = toB (putF (l.map (·.text))) := by
    apply str_ext
    rw [putB_list, List.map_map]; rfl
  rcases Nat.eq_zero_or_pos l.length with h0 | hpos
  · obtain ⟨a, c, rfl⟩ := owns_slice h
    have : l = [] := List.length_eq_zero_iff.1 h0
    subst this
    exact (put_none a c w).mono fun e w' q => ⟨by rw [q.1]; rfl, q.2⟩
  · refine (put_any _ v w (owns_strs h hpos) ?_ (by rw [List.length_map]; omega)).mono fun e w' q => ⟨by rw [q.1, hp], q.2⟩
    rw [hp, Lib.size_eq, toB_list]; omega

set_option maxRecDepth 100000 in
set_option maxHeartbeats 1000000 in
theorem lexAgain_ok (s : ByteArray) (w : World) (m : Int) (hm : w.cell? ⟨0, 0, none⟩ = some (.int .i64 m)) (l : List Tok) (hl : lexF s.data.toList = .ok l) (hs : s.size ≤ 9000) :
    Calls Try.prog 6 #[.string s] w fun e w' => e = .returned (.bool true) ∧ Step (fun _ => False) w w' := by
  have hd : decide ((9000 : Int) < s.size) = false := by rw [decide_eq_false_iff_not]; omega
  obtain ⟨body, en, l', hbe, hl', hsame, hput⟩ := lexF_again s.data.toList l hl (by rw [← Lib.size_eq]; exact hs)
  have hlen := lexF_length hl
  have hbl : l.length = body.length + 1 := by rw [hbe]; simp
  have hll := hsame.length
  have hpos : 0 < l.length := by omega
  have hpos' : 0 < l'.length := by omega
  have HL := Lib.hid hl
  have HL' := Lib.hid hl'
  have HS := Lib.hid hsame
  have HB := Lib.hid hbe
  have HBL := Lib.hid hbl
  have HLL := Lib.hid hll
  have hb8 : body.length ≤ 8000 := by omega
  have hb1 : body.length < l.length := by omega
  clear hl hl' hsame hbe hbl hll
  obtain ⟨i0, hi0, hz00, hz10, hz20⟩ := info_parts Try.infoStr
  have hi := Lib.hid hi0
  have hz0 := Lib.hid hz00
  have hz1 := Lib.hid hz10
  have hz2 := Lib.hid hz20
  clear hi0 hz00 hz10 hz20
  go_enter Try.func6, Try.ntmps6
  go_wp2_with fail
  refine (all_ok s w m l hm HL.out).mono ?_
  rintro e w1 ⟨v, rfl, hown, h1⟩
  obtain ⟨g, gc, rfl, hgb, hgl, hgc⟩ := owns_some hown hpos
  have hm1 := h1.cell hm (fun h => h)
  go_wp2_with fail
  refine (cut_any _ m (cell_alloc hm1)).mono ?_
  rintro e w2 ⟨rfl, h2⟩
  obtain ⟨⟨g0, g1, g2⟩, k0, k1, k2⟩ := blk3 (h2.keep (blk_new w1 _) (fun h => h))
  have hm2 := h2.cell (cell_alloc hm1) (fun h => h)
  have HO : Hid (w2.ownsRow w.heap.size 58 5 (.slice (some ⟨g, 0, none⟩) l.length gc) l.length (toksV l)) := h2.owns (hown.alloc _) (fun k _ h => h)
  have hg2 : g < w2.heap.size := by have := h2.size; simp at this; omega
  clear hown
  go_wp2_with fail
  go_loopg [5, 6] l.length (fun gg s5 s6 wr => ∃ i : Nat, s6 = .int .i64 i ∧ i ≤ body.length ∧ body.length - i ≤ gg ∧ wr.ownsRow w2.heap.size 9 1 s5 i (textV (body.take i)) ∧ Step (fun _ => False) w2 wr)
  case atStart => exact ⟨0, rfl, Nat.zero_le _, by omega, World.ownsRow_nil _ _ _ _, Step.refl _ _⟩
  case round =>
    obtain ⟨i, rfl, hib, hgg, hox, hst⟩ := hrel
    have HX := Lib.hid hox
    clear hox
    by_cases hlt : i < body.length
    · obtain ⟨t, ht⟩ : ∃ t, body[i]? = some t := ⟨body[i], List.getElem?_eq_getElem hlt⟩
      have hlt' : l[i]? = some t := by rw [HB.out, List.getElem?_append_left hlt]; exact ht
      have hcell : wr.cell? ⟨g, i * 5 + 1, none⟩ = some (.string ⟨t.text.toArray⟩) := hst.cell (owns_tok HO.out rfl i 1 t _ hlt' rfl) (fun h => h)
      have htk : Hid (body.take (i + 1) = body.take i ++ [t]) := by
        show _ = _
        rw [List.take_succ_eq_append_getElem hlt]
        rw [List.getElem?_eq_getElem hlt] at ht
        simp at ht; rw [ht]
      have htest : decide ((i : Int) < (l.length : Int) - 1) = true := by rw [decide_eq_true_eq]; have := HBL.out; omega
      clear ht hlt'
      go_wp2_with (at_builtin; refine wpList_append_own _ rfl _ _ 24 rfl w2.heap.size 9 i0 (.string ⟨#[]⟩) 1 16 Try.underlying24 hi.out hz0.out hz1.out hz2.out rfl (by decide) _ _ _ rfl (HX.out.alloc _) ⟨wr.heap.size, 0, none⟩ 1 1 [.string ⟨t.text.toArray⟩] rfl rfl ?_ ?_ ?_ ?_ ?_ ?_)
      · exact news_cells (cs := [_]) (blk_new _ _)
      · intro u hu; simp at hu; rcases hu with rfl; rfl
      · unfold maxLen; omega
      · omega
      · have := hst.size; simp; omega
      intro v' w4 hown4 hgrow _
      have hrow := owned_row HX.out
      have H4 := Lib.hid hown4
      have HG := Lib.hid hgrow
      have HRW := Lib.hid hrow
      clear hown4 hgrow hrow
      go_wp2
      go_roundg (gk - 1)
      case rel =>
        refine ⟨i + 1, by go_num, by omega, by omega, ?_, (hst.alloc _).grown HG.out (fun k hk hlt => by have := HRW.out k hk; omega)⟩
        have := H4.out
        rw [htk.out, textV, List.map_append]
        exact this
      case measure => omega
    · have hie : Hid (i = body.length) := show _ = _ by omega
      have htest : decide ((i : Int) < (l.length : Int) - 1) = false := by rw [decide_eq_false_iff_not]; have := HBL.out; omega
      have HX2 : Hid (wr.ownsRow w2.heap.size 9 1 u5 body.length (textV body)) := by
        have := HX.out
        rw [hie.out, List.take_length] at this
        exact this
      have HO2 : Hid (wr.ownsRow w.heap.size 58 5 (.slice (some ⟨g, 0, none⟩) l.length gc) l.length (toksV l)) := hst.owns HO.out (fun k _ h => h)
      have hm3 := hst.cell hm2 (fun h => h)
      clear hlt g0 g1 g2 k0 k1 k2
      go_wp2_with fail
      refine (put_owned body _ _ _ HX2.out hput hb8).mono ?_
      rintro e w5 ⟨rfl, h5⟩
      have hm5 := h5.cell hm3 (fun h => h)
      go_wp2_with fail
      refine (all_ok _ _ m l' hm5 HL'.out).mono ?_
      rintro e w6 ⟨v6, rfl, hown6, h6⟩
      obtain ⟨g6, gc6, rfl, hgb6, hgl6, hgc6⟩ := owns_some hown6 hpos'
      have HO6 := Lib.hid hown6
      clear hown6
      have hleq : ((l'.length : Int) != l.length) = false := by rw [HLL.out]; simp
      have HOa : Hid (∀ o : Obj, (w6.alloc o).ownsRow w.heap.size 58 5 (.slice (some ⟨g, 0, none⟩) l.length gc) l.length (toksV l)) := fun o => (h6.owns (h5.owns HO2.out (fun k _ h => h)) (fun k _ h => h)).alloc o
      have HOb : Hid (∀ o : Obj, (w6.alloc o).ownsRow w5.heap.size 58 5 (.slice (some ⟨g6, 0, none⟩) l'.length gc6) l'.length (toksV l')) := fun o => HO6.out.alloc o
      go_wp2_with fail
      have hcap6 : l'.length ≤ gc6 := hgc6
      go_loopg [9] l.length (fun g9 s9 wr => ∃ (j n : Nat), s9 = .int .i64 j ∧ j ≤ l.length ∧ l.length - j ≤ g9 ∧ wr = (w6.alloc (.cells #[.int .i64 0, .int .i64 0, .int .i64 0] 44)).drewN n)
      case atStart => exact ⟨0, 0, rfl, Nat.zero_le _, by omega, rfl⟩
      case round =>
        obtain ⟨j, n, rfl, hj, hg9, rfl⟩ := hrel
        by_cases hltj : j < l.length
        · obtain ⟨t, ht⟩ : ∃ t, l[j]? = some t := ⟨l[j], List.getElem?_eq_getElem hltj⟩
          obtain ⟨t', ht', hk1, hk2, hk3⟩ := HS.out.get ht
          have hltj' : j < l'.length := by have := HLL.out; omega
          have a0 : (w6.alloc (.cells #[.int .i64 0, .int .i64 0, .int .i64 0] 44)).cell? ⟨g, j * 5, none⟩ = some (.int .i64 t.kind) := owns_tok (HOa.out _) rfl j 0 t _ ht rfl
          have a1 : (w6.alloc (.cells #[.int .i64 0, .int .i64 0, .int .i64 0] 44)).cell? ⟨g, j * 5 + 1, none⟩ = some (.string ⟨t.text.toArray⟩) := owns_tok (HOa.out _) rfl j 1 t _ ht rfl
          have a4 : (w6.alloc (.cells #[.int .i64 0, .int .i64 0, .int .i64 0] 44)).cell? ⟨g, j * 5 + 4, none⟩ = some (.int .u64 t.val) := owns_tok (HOa.out _) rfl j 4 t _ ht rfl
          have d0 : (w6.alloc (.cells #[.int .i64 0, .int .i64 0, .int .i64 0] 44)).cell? ⟨g6, j * 5, none⟩ = some (.int .i64 t.kind) := by
            have := owns_tok (HOb.out (.cells #[.int .i64 0, .int .i64 0, .int .i64 0] 44)) rfl j 0 t' _ ht' rfl
            simpa only [hk1, hk2, hk3, Nat.add_zero] using this
          have d1 : (w6.alloc (.cells #[.int .i64 0, .int .i64 0, .int .i64 0] 44)).cell? ⟨g6, j * 5 + 1, none⟩ = some (.string ⟨t.text.toArray⟩) := by
            have := owns_tok (HOb.out (.cells #[.int .i64 0, .int .i64 0, .int .i64 0] 44)) rfl j 1 t' _ ht' rfl
            simpa only [hk1, hk2, hk3] using this
          have d4 : (w6.alloc (.cells #[.int .i64 0, .int .i64 0, .int .i64 0] 44)).cell? ⟨g6, j * 5 + 4, none⟩ = some (.int .u64 t.val) := by
            have := owns_tok (HOb.out (.cells #[.int .i64 0, .int .i64 0, .int .i64 0] 44)) rfl j 4 t' _ ht' rfl
            simpa only [hk1, hk2, hk3] using this
          clear ht ht' hk1 hk2 hk3
          go_wp2
          go_quiet (fail)
          go_wp2
          go_roundg (gk - 1)
          case rel => exact ⟨j + 1, _, by go_num, by omega, by omega, rfl⟩
          case measure => omega
        · go_wp2
          go_ret
          exact ⟨rfl, ((((((h1.alloc _).trans h2).trans hst).trans h5).trans h6).alloc _).drewN _⟩

theorem lexAgain_any (s : ByteArray) (w : World) (m : Int) (hm : w.cell? ⟨0, 0, none⟩ = some (.int .i64 m)) (hs : s.size ≤ 9223372036854775807) :
    Calls Try.prog 6 #[.string s] w fun e w' => e = .returned (.bool true) ∧ Step (fun _ => False) w w' := by
  cases hl : lexF s.data.toList with
  | error x => obtain ⟨c, ln, col⟩ := x; exact lexAgain_err s w m hm c ln col hl
  | ok l =>
    by_cases hbig : 9000 < s.size
    · exact lexAgain_big s w m hm l hl hbig hs
    · exact lexAgain_ok s w m hm l hl (by omega)

end Go.Proofs.Ytfjkkfdpeckccaa
