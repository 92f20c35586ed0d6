/- Contracts of package lex: all tokens of a text. -/
import Derived.Test.YtfjkkfdpeckccaaLexJ
namespace Go.Proofs.Ytfjkkfdpeckccaa
open Go.RowKit

/- A token as plain data, and its five cells. -/
structure Tok where
  kind : Nat
  text : List UInt8
  line : Nat
  col : Nat
  val : Nat
def Tok.cells (t : Tok) : List Value := [.int .i64 t.kind, .string ⟨t.text.toArray⟩, .int .i64 t.line, .int .i64 t.col, .int .u64 t.val]
def toksV (l : List Tok) : List Value := l.flatMap Tok.cells
theorem toksV_length (l : List Tok) : (toksV l).length = l.length * 5 := by
  induction l with
  | nil => rfl
  | cons t r ih => simp only [toksV, List.flatMap_cons, List.length_append, List.length_cons] at ih ⊢; rw [ih]; simp [Tok.cells]; omega
theorem toksV_snoc (l : List Tok) (t : Tok) : toksV (l ++ [t]) = toksV l ++ t.cells := by simp [toksV]

/- All tokens: what is left of the text, the place, the line, where it begins, what has been read. -/
def allF : Nat → List UInt8 → Nat → Nat → Nat → List Tok → Except (Nat × Nat × Nat) (List Tok)
  | 0, _, _, _, _, _ => .error (0, 0, 0)
  | k + 1, r, p, l, f, acc =>
    let q := blankF false r p l f
    let r' := r.drop (q.1 - p)
    let col := q.1 - q.2.2 + 1
    if r' = [] then .ok (acc ++ [⟨0, [], q.2.1, col, 0⟩])
    else if acc.length = 8000 then .error (2, q.2.1, col)
    else match nextF r' with
      | .error c => .error (c, q.2.1, col)
      | .ok (kind, n, val) => allF k (r'.drop n) (q.1 + n) q.2.1 q.2.2 (acc ++ [⟨kind, r'.take n, q.2.1, col, val⟩])
def lexF (s : List UInt8) : Except (Nat × Nat × Nat) (List Tok) :=
  if 20000 < s.length then .error (2, 0, 0) else allF (s.length + 1) s 0 1 0 []

theorem blankF_inv : ∀ (r : List UInt8) (b : Bool) (p l f p' l' f' : Nat), (p', l', f') = blankF b r p l f → f ≤ p → p ≤ p' ∧ p' ≤ p + r.length ∧ f' ≤ p' ∧ l ≤ l' ∧ l' - l ≤ p' - p := by
  intro r
  induction r with
  | nil => intro b p l f p' l' f' h hf; simp [blankF] at h; obtain ⟨rfl, rfl, rfl⟩ := h; simp; omega
  | cons c r ih =>
    intro b p l f p' l' f' h hf
    have hl : (c :: r).length = r.length + 1 := rfl
    cases b
    · rw [blankF] at h
      split at h
      · have := ih _ _ _ _ _ _ _ h (Nat.le_refl _); omega
      · split at h
        · have := ih _ _ _ _ _ _ _ h (by omega); omega
        · split at h
          · have := ih _ _ _ _ _ _ _ h (by omega); omega
          · simp at h; obtain ⟨rfl, rfl, rfl⟩ := h; omega
    · rw [blankF] at h
      split at h
      · have := ih _ _ _ _ _ _ _ h (Nat.le_refl _); omega
      · have := ih _ _ _ _ _ _ _ h (by omega); omega

theorem runF_pos {c : UInt8} {r : List UInt8} (h : isWordy c.toNat = true) : 1 ≤ runF (c :: r) := by
  rw [runF_yes h]; omega
theorem intF_err {c0 : UInt8} : ∀ (l : List UInt8) (i v e : Nat), intF c0 l i v = .error e → e ≠ 0 := by
  intro l
  induction l with
  | nil => intro i v e h; simp [intF] at h
  | cons c r ih =>
    intro i v e h
    rw [intF] at h
    split at h
    · simp at h; omega
    · split at h
      · simp at h; omega
      · exact ih _ _ _ h

theorem nextF_pos {r : List UInt8} {kind n val : Nat} (h : nextF r = .ok (kind, n, val)) : 1 ≤ n ∧ n ≤ r.length ∧ kind ≠ 0 := by
  cases r with
  | nil => simp [nextF] at h
  | cons c r =>
    have hle := runF_le (c :: r)
    have hle' := runF_le r
    rw [nextF] at h
    split at h
    · rename_i hL
      have := runF_pos (r := r) (show isWordy c.toNat = true by simp [isWordy, hL])
      unfold nameF at h
      split at h
      · simp at h
      · simp at h; omega
    · split at h
      · rw [lifeF] at h
        split at h
        · simp at h
        · split at h
          · simp at h
          · simp at h; simp; omega
      · split at h
        · rename_i hD
          have := runF_pos (r := r) (show isWordy c.toNat = true by simp [isWordy, hD])
          have hl : ((c :: r).take (runF (c :: r))).length = runF (c :: r) := by rw [List.length_take]; omega
          unfold numberF numF at h
          rw [hl] at h
          split at h
          · split at h
            · simp at h; omega
            · simp at h
          · split at h
            · simp at h; omega
            · simp at h
        · cases r with
          | nil => rw [markF] at h; split at h <;> simp at h; simp; omega
          | cons d r =>
            rw [markF] at h
            split at h
            · simp at h; simp; omega
            · split at h
              · simp at h; simp; omega
              · simp at h
theorem nextF_err {r : List UInt8} {e : Nat} (h : nextF r = .error e) : e ≠ 0 := by
  cases r with
  | nil => simp [nextF] at h; omega
  | cons c r =>
    rw [nextF] at h
    split at h
    · unfold nameF at h
      split at h
      · simp at h; omega
      · simp at h
    · split at h
      · rw [lifeF] at h
        split at h
        · simp at h; omega
        · split at h
          · simp at h; omega
          · simp at h
      · split at h
        · unfold numberF numF at h
          split at h
          · split at h
            · simp at h
            · simp at h; omega
          · split at h
            · simp at h
            · rename_i hI
              simp at h
              subst h
              exact intF_err _ _ _ _ hI
        · cases r with
          | nil => rw [markF] at h; split at h <;> simp at h; omega
          | cons d r =>
            rw [markF] at h
            split at h
            · simp at h
            · split at h
              · simp at h
              · simp at h; omega

theorem Try.infoTok : (Try.prog.info? 58).map (fun i => (i.zero, i.size, i.bytes)) = some (some (.agg #[.int .i64 0, .string ⟨#[]⟩, .int .i64 0, .int .i64 0, .int .u64 0]), 5, 48) := by kernel_rfl

/- What 'All' hands back: the tokens in memory of its own, or what is wrong with the text. -/
def AllPost (B : Nat) (w : World) (r : Except (Nat × Nat × Nat) (List Tok)) (e : Ending) (w' : World) : Prop :=
  (match r with
    | .ok l => ∃ v, e = .returned (.tuple #[v, .agg #[.int .i64 0, .int .i64 0, .int .i64 0]]) ∧ w'.ownsRow B 58 5 v l.length (toksV l)
    | .error (c, ln, col) => e = .returned (.tuple #[.slice none 0 0, .agg #[.int .i64 c, .int .i64 ln, .int .i64 col]])) ∧ Step (fun _ => False) w w'

/- A block of three cells, known whole. -/
theorem blk3 {w : World} {b t : Nat} {a0 a1 a2 : Value} (h : w.heap[b]? = some (.cells #[a0, a1, a2] t (0, 0))) :
    (w.cell? ⟨b, 0, none⟩ = some a0 ∧ w.cell? ⟨b, 1, none⟩ = some a1 ∧ w.cell? ⟨b, 2, none⟩ = some a2) ∧
    (w.frozen? ⟨b, 0, none⟩ = false ∧ w.frozen? ⟨b, 1, none⟩ = false ∧ w.frozen? ⟨b, 2, none⟩ = false) :=
  ⟨⟨blk_cell h 0 _ rfl, blk_cell h 1 _ rfl, blk_cell h 2 _ rfl⟩, ⟨blk_free h 0, blk_free h 1, blk_free h 2⟩⟩

theorem news_cells {w : World} {b t : Nat} {cs : List Value} (h : w.heap[b]? = some (.cells cs.toArray t (0, 0))) : ∀ (j : Nat) (u : Value), cs[j]? = some u → w.cell? ((⟨b, 0, none⟩ : Addr).add j) = some u := by
  intro j u hu
  have hadd : (⟨b, 0, none⟩ : Addr).add j = ⟨b, j, none⟩ := by unfold Addr.add; split <;> simp_all
  rw [hadd]
  exact blk_cell h j u (by simpa using hu)
theorem blk_new2 (w : World) (o1 o2 : Obj) : ((w.alloc o1).alloc o2).heap[w.heap.size + 1]? = some o2 := by
  have := heap_alloc_new (w.alloc o1) o2
  simpa using this
theorem owned_row {w : World} {base : Nat} {e : TypeId} {size : Nat} {v : Value} {n : Nat} {xs : List Value} (h : w.ownsRow base e size v n xs) : ∀ k, v.ownBlock = some k → base ≤ k := fun k hk => (h.lt k hk).1
theorem grown_keep {w w' : World} {row : Option Nat} (hg : w.grownBy w' row) {b : Nat} {o : Obj} (hb : w.heap[b]? = some o) (hn : ∀ k, row = some k → b ≠ k) : w'.heap[b]? = some o := by
  rw [hg.block b (blk_lt hb) (fun e => hn b e.symm rfl)]; exact hb

theorem owns_base {w : World} {base base' : Nat} {e : TypeId} {size : Nat} {v : Value} {n : Nat} {xs : List Value} (h : w.ownsRow base e size v n xs) (hb : base' ≤ base) : w.ownsRow base' e size v n xs := by
  refine ⟨h.1, ?_⟩
  rcases h.2 with hz | ⟨g, cap, cur, rfl, hg, rest⟩
  · exact .inl hz
  · exact .inr ⟨g, cap, cur, rfl, by omega, rest⟩
theorem owns_three {w : World} {base : Nat} {e : TypeId} {size : Nat} {v : Value} {n r : Nat} {xs : List Value} {v0 v1 v2 : Value} (h : w.ownsRow base e size v n xs) (hr : r < base) :
    (((w.setCell ⟨r, 0, none⟩ v0).setCell ⟨r, 1, none⟩ v1).setCell ⟨r, 2, none⟩ v2).ownsRow base e size v n xs :=
  ownsRow_setCell_below (ownsRow_setCell_below (ownsRow_setCell_below h hr _) hr _) hr _
theorem Step.three {S : Nat → Prop} {a w : World} {r : Nat} {v0 v1 v2 : Value} (h : Step S a w) (hr : a.heap.size ≤ r) :
    Step S a (((w.setCell ⟨r, 0, none⟩ v0).setCell ⟨r, 1, none⟩ v1).setCell ⟨r, 2, none⟩ v2) := by
  have hq : ∀ i, (⟨r, i, none⟩ : Addr).block < a.heap.size → S r := fun i h => absurd h (Nat.not_lt.2 hr)
  exact ((h.setCell _ _ (hq 0)).setCell _ _ (hq 1)).setCell _ _ (hq 2)
theorem blk2 {w : World} {b t : Nat} {a0 a1 : Value} (h : w.heap[b]? = some (.cells #[a0, a1] t (0, 0))) :
    (w.cell? ⟨b, 0, none⟩ = some a0 ∧ w.cell? ⟨b, 1, none⟩ = some a1) ∧ (w.frozen? ⟨b, 0, none⟩ = false ∧ w.frozen? ⟨b, 1, none⟩ = false) :=
  ⟨⟨blk_cell h 0 _ rfl, blk_cell h 1 _ rfl⟩, ⟨blk_free h 0, blk_free h 1⟩⟩
theorem cut_bytes (s : ByteArray) (p n : Nat) : s.extract p (p + n) = ⟨((s.data.toList.drop p).take n).toArray⟩ := str_ext (by rw [extract_list])

theorem owns_slice {w : World} {base : Nat} {e : TypeId} {size : Nat} {v : Value} {n : Nat} {xs : List Value} (h : w.ownsRow base e size v n xs) : ∃ a c, v = .slice a n c := by
  rcases h.2 with ⟨hv, h0⟩ | ⟨g, cap, cur, hv, _⟩
  · exact ⟨none, 0, by rw [hv, h0]⟩
  · exact ⟨_, _, hv⟩

theorem Step.owns {S : Nat → Prop} {w w' : World} {base : Nat} {e : TypeId} {size : Nat} {v : Value} {n : Nat} {xs : List Value} (hs : Step S w w') (h : w.ownsRow base e size v n xs) (hn : ∀ k, base ≤ k → ¬ S k) : w'.ownsRow base e size v n xs := by
  refine ⟨h.1, ?_⟩
  rcases h.2 with hz | ⟨g, cap, cur, rfl, hb, hgg, rest⟩
  · exact .inl hz
  · exact .inr ⟨g, cap, cur, rfl, hb, hs.keep hgg (hn g hb), rest⟩

set_option maxRecDepth 100000 in
set_option maxHeartbeats 1000000 in
theorem all_any (s : ByteArray) (w : World) (m : Int) (hm : w.cell? ⟨0, 0, none⟩ = some (.int .i64 m)) (hs : s.size ≤ 20000) :
    Calls Try.prog 20 #[.string s] w (AllPost w.heap.size w (lexF s.data.toList)) := by
  have hw0 : 0 < w.heap.size := World.block_lt_of_cell? w _ hm
  have HR : Hid (allF (s.data.toList.length + 1) s.data.toList 0 1 0 [] = lexF s.data.toList) := by
    show _ = _
    rw [lexF, if_neg (by rw [← Lib.size_eq]; omega)]
  generalize hRes : lexF s.data.toList = Res at *
  clear hRes
  obtain ⟨i0, hi0, hz00, hz10, hz20⟩ := info_parts Try.infoTok
  have hi := Lib.hid hi0
  have hz0 := Lib.hid hz00
  have hz1 := Lib.hid hz10
  have hz2 := Lib.hid hz20
  clear hi0 hz00 hz10 hz20
  have hsl : Hid (s.data.toList.length = s.size) := (Lib.size_eq s).symm
  go_enter Try.func20, Try.ntmps20
  go_wp2_with fail
  rw [hsl.out] at HR
  go_loopg [5] (s.size + 1) (fun g v wr => ∃ (p l f : Nat) (toks : List Tok), f ≤ p ∧ p ≤ s.size ∧ l ≤ p + 1 ∧ toks.length ≤ 8000 ∧ s.size - p < g ∧ allF g (s.data.toList.drop p) p l f toks = Res ∧
    Cut wr (w.heap.size + 1) s p l f ∧ wr.heap[w.heap.size]? = some (.cells #[.int .i64 0, .int .i64 0, .int .i64 0] 44 (0, 0)) ∧ wr.ownsRow (w.heap.size + 2) 58 5 v toks.length (toksV toks) ∧
    Step (fun _ => False) w wr ∧ w.heap.size + 2 ≤ wr.heap.size)
  case atStart =>
    refine ⟨0, 1, 0, [], Nat.le_refl _, Nat.zero_le _, by omega, by simp, by omega, HR.out, ⟨?_⟩, ?_, World.ownsRow_nil _ _ _ _, ((Step.refl _ w).alloc _).alloc _, by simp⟩
    · have := blk_new (w.alloc (.cells #[.int .i64 0, .int .i64 0, .int .i64 0] 44)) (.cells #[.string s, .int .i64 0, .int .i64 1, .int .i64 0] 78)
      simpa using this
    · exact blk_alloc (blk_new w _)
  case round =>
    obtain ⟨p, l, f, toks, hf, hp, hl, htk, hg, heq, hc, hE, hown, hst, hsz⟩ := hrel
    obtain ⟨k, rfl⟩ : ∃ k, gk = k + 1 := ⟨gk - 1, by omega⟩
    obtain ⟨oa, oc, rfl⟩ := owns_slice hown
    have HE := Lib.hid heq
    have HOW := Lib.hid hown
    clear heq hown
    go_wp2_with fail
    refine (blank_any (w.heap.size + 1) s p l f wr hc hf hp (by omega) hl).mono ?_
    rintro e w1 ⟨rfl, p', l', f', hbl, hc1, hst1⟩
    have hinv := blankF_inv _ _ _ _ _ _ _ _ hbl hf
    rw [List.length_drop, hsl.out] at hinv
    obtain ⟨i1, i2, i3, i4, i5⟩ := hinv
    have hp' : p' ≤ s.size := by omega
    have hl' : l' ≤ p' + 1 := by omega
    have HB := Lib.hid hbl
    clear hbl
    go_wp2_with fail
    refine (pos_any (w.heap.size + 1) s p' l' f' w1 hc1 i3 (by omega)).mono ?_
    rintro e w2 ⟨rfl, hst2⟩
    have hc2 := hc1.step hst2 (fun h => h)
    obtain ⟨c0, c1, c2, c3, f0, f1, f2, f3⟩ := hc2.cells
    have hlt : w.heap.size + 1 < w2.heap.size := blk_lt hc2.out
    have hltE : w.heap.size < w2.heap.size := by omega
    have hst12 : Step (· = w.heap.size + 1) wr w2 := hst1.then hst2 (fun _ _ h => h.elim)
    have hstw : Step (fun _ => False) w w2 := ⟨hst12.os.trans hst.os, hst12.tape.trans hst.tape, hst12.output.trans hst.output, Nat.le_trans hst.size hst12.size, fun i hi hn => (hst12.block i (by omega) (by omega)).trans (hst.block i hi hn)⟩
    have HOW2 : Hid (w2.ownsRow (w.heap.size + 2) 58 5 (.slice oa toks.length oc) toks.length (toksV toks)) := hst12.owns HOW.out (fun k hk => by omega)
    obtain ⟨⟨g0, g1, g2⟩, k0, k1, k2⟩ := blk3 (hst12.keep hE (by omega))
    have HCOL : Hid (((p' : Int) - f' + 1) = ((p' - f' + 1 : Nat) : Int)) := show _ = _ by omega
    have HA : Hid (allF (k + 1) (s.data.toList.drop p) p l f toks =
        if s.data.toList.drop p' = [] then .ok (toks ++ [⟨0, [], l', p' - f' + 1, 0⟩])
        else if toks.length = 8000 then .error (2, l', p' - f' + 1)
        else match nextF (s.data.toList.drop p') with
          | .error c => .error (c, l', p' - f' + 1)
          | .ok (kind, n, val) => allF k ((s.data.toList.drop p').drop n) (p' + n) l' f' (toks ++ [⟨kind, (s.data.toList.drop p').take n, l', p' - f' + 1, val⟩])) := by
      show _ = _
      rw [allF]
      simp only [← HB.out, List.drop_drop]
      rw [show p + (p' - p) = p' by omega]
    by_cases hend : p' = s.size
    · have hr0 : Hid (Res = .ok (toks ++ [⟨0, [], l', p' - f' + 1, 0⟩])) := by
        show _ = _
        rw [← HE.out, HA.out, if_pos (List.drop_of_length_le (by rw [hsl.out]; omega))]
      have hb1 : ((p' : Int) == s.size) = true := by rw [beq_iff_eq]; omega
      clear hend
      go_wp2_with (at_builtin; refine wpList_append_own _ rfl _ _ 41 rfl (w.heap.size + 2) 58 i0 (.agg #[.int .i64 0, .string ⟨#[]⟩, .int .i64 0, .int .i64 0, .int .u64 0]) 5 48 Try.underlying41 hi.out hz0.out hz1.out hz2.out rfl (by decide) _ _ _ rfl ((HOW2.out.alloc _).alloc _) ⟨w2.heap.size + 1, 0, none⟩ 1 1 [.int .i64 0, .string ⟨#[]⟩, .int .i64 l', .int .i64 ((p' : Int) - f' + 1), .int .u64 0] rfl rfl ?c1 ?c2 ?c3 ?c4 ?c5 ?_)
      case c1 => exact news_cells (cs := [_, _, _, _, _]) (blk_new2 _ _ _)
      case c2 => intro u hu; simp at hu; rcases hu with rfl | rfl | rfl | rfl | rfl <;> rfl
      case c3 => unfold maxLen; omega
      case c4 => omega
      case c5 => simp; omega
      intro v' w3 hown3 hgrow _
      have hrow := owned_row HOW2.out
      obtain ⟨⟨g0', g1', g2'⟩, k0', k1', k2'⟩ := blk3 (grown_keep hgrow (blk_alloc (blk_alloc (hst12.keep hE (by omega)))) (fun k hk => by have := hrow k hk; omega))
      have hst3 : Step (fun _ => False) w w3 := ((hstw.alloc _).alloc _).grown hgrow (fun k hk hlt => by have := hrow k hk; omega)
      have H3 := Lib.hid hown3
      clear hown3 hgrow hrow
      go_wp2
      refine bodyPost_ret (v := .tuple #[v', .agg #[.int .i64 0, .int .i64 0, .int .i64 0]]) (by simp [results, Try.results20, go_sem, g0', g1', g2']) rfl ?_
      rw [hr0.out]
      refine ⟨⟨v', rfl, ?_⟩, ?_⟩
      · have := owns_three (r := w.heap.size) (v0 := .int .i64 0) (v1 := .int .i64 0) (v2 := .int .i64 0) H3.out (by omega)
        rw [toksV_snoc, List.length_append]
        rw [HCOL.out] at this
        exact owns_base this (by omega)
      · exact hst3.three (Nat.le_refl _)
    · have hb1 : ((p' : Int) == s.size) = false := by rw [beq_eq_false_iff_ne]; omega
      have hp1 : p' < s.size := by omega
      have hne : Hid (s.data.toList.drop p' ≠ []) := fun e => by
        have := congrArg List.length e
        rw [List.length_drop, hsl.out] at this
        simp at this; omega
      by_cases h8 : toks.length = 8000
      · have hr0 : Hid (Res = .error (2, l', p' - f' + 1)) := by
          show _ = _
          rw [← HE.out, HA.out, if_neg hne.out, if_pos h8]
        have hb2 : ((toks.length : Int) == 8000) = true := by rw [h8]; rfl
        clear h8
        obtain ⟨⟨q0, q1⟩, r0, r1⟩ := blk2 (a0 := .int .i64 l') (a1 := .int .i64 ((p' : Int) - f' + 1)) (blk_new w2 (.cells #[.int .i64 l', .int .i64 ((p' : Int) - f' + 1)] 27))
        go_wp2
        go_region
        go_wp2
        refine bodyPost_ret (v := .tuple #[.slice none 0 0, .agg #[.int .i64 2, .int .i64 l', .int .i64 ((p' : Int) - f' + 1)]]) (by simp [results, Try.results20, go_sem, g0, g1, g2, hltE]) rfl ?_
        rw [hr0.out]
        refine ⟨by rw [HCOL.out]; rfl, ?_⟩
        exact ((hstw.three (Nat.le_refl _)).alloc _).drew
      · have hb2 : ((toks.length : Int) == 8000) = false := by rw [beq_eq_false_iff_ne]; omega
        have hm2 : w2.cell? ⟨0, 0, none⟩ = some (.int .i64 m) := hstw.cell hm (fun h => h)
        have hE2 := hst12.keep hE (by omega)
        have hE2' : Hid (w2.heap[w.heap.size]? = _) := hE2
        clear hE2
        cases hn : nextF (s.data.toList.drop p') with
        | error c =>
          have hr0 : Hid (Res = .error (c, l', p' - f' + 1)) := by
            show _ = _
            rw [← HE.out, HA.out, if_neg hne.out, if_neg h8, hn]
          have hc0 : ((c : Int) != 0) = true := by rw [bne_iff_ne]; have := nextF_err hn; omega
          have HN := Lib.hid hn
          clear hn h8
          go_wp2_with fail
          refine (next_gives.bad _ s p' l' f' _ c m (hc2.alloc _) hp1 (by omega) (cell_alloc hm2) (by omega) trivial HN.out).mono ?_
          rintro e w3 ⟨rfl, hst3⟩
          obtain ⟨⟨q0, q1⟩, r0, r1⟩ := blk2 (hst3.keep (blk_new w2 _) (by omega))
          obtain ⟨⟨g0', g1', g2'⟩, k0', k1', k2'⟩ := blk3 (hst3.keep (blk_alloc hE2'.out) (by omega))
          have hz3 := hst3.size
          simp at hz3
          have hlt3 : w2.heap.size < w3.heap.size := by omega
          have hltE3 : w.heap.size < w3.heap.size := by omega
          go_wp2
          go_region
          go_wp2
          refine bodyPost_ret (v := .tuple #[.slice none 0 0, .agg #[.int .i64 c, .int .i64 l', .int .i64 ((p' : Int) - f' + 1)]]) (by simp [results, Try.results20, go_sem, g0', g1', g2', hltE3]) rfl ?_
          rw [hr0.out]
          refine ⟨by rw [HCOL.out], ?_⟩
          have hw3 : Step (fun _ => False) w w3 := ⟨hst3.os.trans hstw.os, hst3.tape.trans hstw.tape, hst3.output.trans hstw.output, by have := hstw.size; omega, fun i hi hn => (hst3.block i (by simp; have := hstw.size; omega) (by omega)).trans ((Below.heap_alloc w2 _ i (by have := hstw.size; omega)).trans (hstw.block i hi hn))⟩
          exact ((hw3.three (Nat.le_refl _)).alloc _).drew
        | ok x =>
          obtain ⟨kind, n, val⟩ := x
          have hr0 : Hid (allF k ((s.data.toList.drop p').drop n) (p' + n) l' f' (toks ++ [⟨kind, (s.data.toList.drop p').take n, l', p' - f' + 1, val⟩]) = Res) := by
            show _ = _
            rw [← HE.out, HA.out, if_neg hne.out, if_neg h8, hn]
          obtain ⟨hn1, hn2, _⟩ := nextF_pos hn
          rw [List.length_drop, hsl.out] at hn2
          have HN := Lib.hid hn
          clear hn
          go_wp2_with fail
          refine (next_gives.ok _ s p' l' f' _ kind n val m (hc2.alloc _) hp1 (by omega) (cell_alloc hm2) (by omega) trivial HN.out).mono ?_
          rintro e w3 ⟨rfl, hc3, hst3⟩
          obtain ⟨⟨q0, q1⟩, r0, r1⟩ := blk2 (hst3.keep (blk_new w2 _) (by omega))
          have HE3 : Hid (w3.heap[w.heap.size]? = some (.cells #[.int .i64 0, .int .i64 0, .int .i64 0] 44 (0, 0))) := hst3.keep (blk_alloc hE2'.out) (by omega)
          have hz3 := hst3.size
          simp at hz3
          have hlt3 : w2.heap.size < w3.heap.size := by omega
          have hltE3 : w.heap.size < w3.heap.size := by omega
          have HOW3 : Hid (w3.ownsRow (w.heap.size + 2) 58 5 (.slice oa toks.length oc) toks.length (toksV toks)) := hst3.owns (HOW2.out.alloc _) (fun k hk => by omega)
          have hw3 : Step (fun _ => False) w w3 := ⟨hst3.os.trans hstw.os, hst3.tape.trans hstw.tape, hst3.output.trans hstw.output, by have := hstw.size; omega, fun i hi hn => (hst3.block i (by simp; have := hstw.size; omega) (by omega)).trans ((Below.heap_alloc w2 _ i (by have := hstw.size; omega)).trans (hstw.block i hi hn))⟩
          clear c0 c1 c2 c3 f0 f1 f2 f3 g0 g1 g2 k0 k1 k2
          go_wp2_with (at_builtin; refine wpList_append_own _ rfl _ _ 41 rfl (w.heap.size + 2) 58 i0 (.agg #[.int .i64 0, .string ⟨#[]⟩, .int .i64 0, .int .i64 0, .int .u64 0]) 5 48 Try.underlying41 hi.out hz0.out hz1.out hz2.out rfl (by decide) _ _ _ rfl ((HOW3.out.alloc _).alloc _) ⟨w3.heap.size + 1, 0, none⟩ 1 1 [.int .i64 kind, .string (s.extract p' (p' + n)), .int .i64 l', .int .i64 ((p' : Int) - f' + 1), .int .u64 val] rfl rfl ?c1 ?c2 ?c3 ?c4 ?c5 ?_)
          case c1 => exact news_cells (cs := [_, _, _, _, _]) (blk_new2 _ _ _)
          case c2 => intro u hu; simp at hu; rcases hu with rfl | rfl | rfl | rfl | rfl <;> rfl
          case c3 => unfold maxLen; omega
          case c4 => omega
          case c5 => simp; omega
          intro v' w4 hown4 hgrow _
          have hrow := owned_row HOW3.out
          have H4 := Lib.hid hown4
          have HG := Lib.hid hgrow
          have HRW := Lib.hid hrow
          clear hown4 hgrow hrow
          go_wp2
          go_roundg k
          case rel =>
            have hn3 : ∀ (o1 o2 : Obj) (b : Nat) (o : Obj), b < w.heap.size + 2 → w3.heap[b]? = some o → w4.heap[b]? = some o := fun o1 o2 b o hb h =>
              grown_keep HG.out (blk_alloc (blk_alloc h)) (fun k hk => by have := HRW.out k hk; omega)
            refine ⟨p' + n, l', f', toks ++ [⟨kind, (s.data.toList.drop p').take n, l', p' - f' + 1, val⟩], by omega, by omega, by omega, by simp; omega, by omega, ?_, ⟨hn3 default default _ _ (by omega) hc3.out⟩, hn3 default default _ _ (by omega) HE3.out, ?_, ?_, ?_⟩
            · rw [← hr0.out, List.drop_drop]
            · have := H4.out
              rw [toksV_snoc, List.length_append]
              rw [HCOL.out, cut_bytes] at this
              exact this
            · exact ((hw3.alloc _).alloc _).grown HG.out (fun k hk hlt => by have := HRW.out k hk; omega)
            · have := HG.out.size
              simp at this; omega
          case measure => omega

set_option maxRecDepth 100000 in
set_option maxHeartbeats 400000 in
theorem all_long (s : ByteArray) (w : World) (hs : 20000 < s.size) :
    Calls Try.prog 20 #[.string s] w (AllPost w.heap.size w (lexF s.data.toList)) := by
  have HR : Hid (lexF s.data.toList = .error (2, 0, 0)) := by
    show _ = _
    rw [lexF, if_pos (by rw [← Lib.size_eq]; omega)]
  generalize lexF s.data.toList = Res at *
  go_enter Try.func20, Try.ntmps20
  go_wp2
  refine bodyPost_ret (v := .tuple #[.slice none 0 0, .agg #[.int .i64 2, .int .i64 0, .int .i64 0]]) (by simp [results, Try.results20, go_sem]) rfl ?_
  rw [HR.out]
  refine ⟨rfl, ?_⟩
  exact (Step.refl _ w).alloc _

end Go.Proofs.Ytfjkkfdpeckccaa
