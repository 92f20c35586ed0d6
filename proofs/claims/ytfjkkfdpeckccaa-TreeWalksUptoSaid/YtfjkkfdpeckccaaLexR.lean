/- Contracts of the statements' own helpers of layer 1: the same tokens, the same error, a small text cut. -/
import Derived.Test.YtfjkkfdpeckccaaLexQ
namespace Go.Proofs.Ytfjkkfdpeckccaa
open Go.RowKit

theorem toksV_get (l : List Tok) (i k : Nat) (t : Tok) (u : Value) (ht : l[i]? = some t) (hu : t.cells[k]? = some u) : (toksV l)[i * 5 + k]? = some u := by
  induction l generalizing i with
  | nil => simp at ht
  | cons a l ih =>
    have hk : k < 5 := by
      have := (List.getElem?_eq_some_iff.1 hu).1
      simpa [Tok.cells] using this
    have hal : a.cells.length = 5 := rfl
    cases i with
    | zero =>
      simp at ht; subst ht
      simp only [toksV, List.flatMap_cons]
      rw [List.getElem?_append_left (by omega)]
      simpa using hu
    | succ i =>
      simp at ht
      simp only [toksV, List.flatMap_cons]
      rw [List.getElem?_append_right (by omega), hal, show (i + 1) * 5 + k - 5 = i * 5 + k by omega]
      exact ih i ht
/- A cell of an owned row of tokens. -/
theorem owns_tok {w : World} {b e : Nat} {v : Value} {l : List Tok} {g c : Nat} (h : w.ownsRow b e 5 v l.length (toksV l)) (hv : v = .slice (some ⟨g, 0, none⟩) l.length c) (i k : Nat) (t : Tok) (u : Value) (ht : l[i]? = some t) (hu : t.cells[k]? = some u) : w.cell? ⟨g, i * 5 + k, none⟩ = some u := by
  have := h.cells (g := g) (by rw [hv]; rfl) (i * 5 + k) u (toksV_get l i k t u ht hu)
  have hadd : (⟨g, 0, none⟩ : Addr).add (i * 5 + k) = ⟨g, i * 5 + k, none⟩ := by unfold Addr.add; split <;> simp_all
  rwa [hadd] at this
theorem owns_some {w : World} {base : Nat} {e : TypeId} {size : Nat} {v : Value} {n : Nat} {xs : List Value} (h : w.ownsRow base e size v n xs) (hn : 0 < n) : ∃ g c, v = .slice (some ⟨g, 0, none⟩) n c ∧ base ≤ g ∧ g < w.heap.size ∧ n ≤ c := by
  rcases h.2 with ⟨_, h0⟩ | ⟨g, cap, cur, hv, hb, hg, hcap, _⟩
  · omega
  · exact ⟨g, cap, hv, hb, blk_lt hg, hcap⟩

set_option maxHeartbeats 400000 in
theorem fault_any (c l k : Nat) (w : World) :
    Calls Try.prog 22 #[.agg #[.int .i64 c, .int .i64 l, .int .i64 k], .agg #[.int .i64 c, .int .i64 l, .int .i64 k]] w fun e w' => e = .returned (.bool true) ∧ Step (fun _ => False) w w' := by
  go_enter Try.func22, Try.ntmps22
  go_wp2
  go_ret
  exact ⟨rfl, ((Step.refl _ w).alloc _).alloc _⟩

set_option maxHeartbeats 400000 in
theorem same_any (l : List Tok) (v1 v2 : Value) (b1 b2 : Nat) (w : World) (hl : l.length ≤ 10000) (h1 : w.ownsRow b1 58 5 v1 l.length (toksV l)) (h2 : w.ownsRow b2 82 5 v2 l.length (toksV l)) :
    Calls Try.prog 23 #[v1, v2] w fun e w' => e = .returned (.bool true) ∧ Step (fun _ => False) w w' := by
  rcases Nat.eq_zero_or_pos l.length with h0 | hpos
  · obtain ⟨a1, c1, rfl⟩ := owns_slice h1
    obtain ⟨a2, c2, rfl⟩ := owns_slice h2
    rw [h0]
    clear h1 h2 h0
    go_enter Try.func23, Try.ntmps23
    go_wp2_with fail
    go_loopg [5] 1 (fun g s5 wr => s5 = .int .i64 0 ∧ wr = w)
    case atStart => exact ⟨rfl, rfl⟩
    case round =>
      obtain ⟨rfl, rfl⟩ := hrel
      go_wp2
      go_ret
      exact ⟨rfl, Step.refl _ _⟩
  · obtain ⟨g1, c1, rfl, _, _, _⟩ := owns_some h1 hpos
    obtain ⟨g2, c2, rfl, _, _, _⟩ := owns_some h2 hpos
    have H1 := Lib.hid h1
    have H2 := Lib.hid h2
    clear h1 h2
    go_enter Try.func23, Try.ntmps23
    go_wp2_with fail
    go_loopg [5] l.length (fun g s5 wr => ∃ i : Nat, s5 = .int .i64 i ∧ i ≤ l.length ∧ l.length - i ≤ g ∧ ∃ n, wr = w.drewN n)
    case atStart => exact ⟨0, rfl, Nat.zero_le _, by omega, 0, rfl⟩
    case round =>
      obtain ⟨i, rfl, hi, hg, n, rfl⟩ := hrel
      by_cases hlt : i < l.length
      · obtain ⟨t, ht⟩ : ∃ t, l[i]? = some t := ⟨l[i], List.getElem?_eq_getElem hlt⟩
        have a0 : w.cell? ⟨g1, i * 5, none⟩ = some (.int .i64 t.kind) := owns_tok H1.out rfl i 0 t _ ht rfl
        have a1 : w.cell? ⟨g1, i * 5 + 1, none⟩ = some (.string ⟨t.text.toArray⟩) := owns_tok H1.out rfl i 1 t _ ht rfl
        have a2 : w.cell? ⟨g1, i * 5 + 2, none⟩ = some (.int .i64 t.line) := owns_tok H1.out rfl i 2 t _ ht rfl
        have a3 : w.cell? ⟨g1, i * 5 + 3, none⟩ = some (.int .i64 t.col) := owns_tok H1.out rfl i 3 t _ ht rfl
        have a4 : w.cell? ⟨g1, i * 5 + 4, none⟩ = some (.int .u64 t.val) := owns_tok H1.out rfl i 4 t _ ht rfl
        have d0 : w.cell? ⟨g2, i * 5, none⟩ = some (.int .i64 t.kind) := owns_tok H2.out rfl i 0 t _ ht rfl
        have d1 : w.cell? ⟨g2, i * 5 + 1, none⟩ = some (.string ⟨t.text.toArray⟩) := owns_tok H2.out rfl i 1 t _ ht rfl
        have d2 : w.cell? ⟨g2, i * 5 + 2, none⟩ = some (.int .i64 t.line) := owns_tok H2.out rfl i 2 t _ ht rfl
        have d3 : w.cell? ⟨g2, i * 5 + 3, none⟩ = some (.int .i64 t.col) := owns_tok H2.out rfl i 3 t _ ht rfl
        have d4 : w.cell? ⟨g2, i * 5 + 4, none⟩ = some (.int .u64 t.val) := owns_tok H2.out rfl i 4 t _ ht rfl
        clear ht
        go_wp2
        go_quiet (fail)
        go_wp2
        go_roundg (gk - 1)
        case rel => exact ⟨i + 1, by go_num, by omega, by omega, _, rfl⟩
        case measure => omega
      · go_wp2
        go_ret
        exact ⟨rfl, (Step.refl _ w).drewN _⟩

end Go.Proofs.Ytfjkkfdpeckccaa
