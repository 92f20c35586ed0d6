/- Contracts of the statements' own helpers of layer 1: a small text cut; the statement LexCuts walked. -/
import Derived.Test.YtfjkkfdpeckccaaLexR
namespace Go.Proofs.Ytfjkkfdpeckccaa
open Go.RowKit

def cutToks : List Tok := [⟨1, [97], 1, 1, 0⟩, ⟨5, [45, 62], 1, 2, 0⟩, ⟨2, [39, 98], 1, 4, 0⟩, ⟨3, [55], 1, 7, 7⟩, ⟨0, [], 1, 13, 0⟩]
theorem lexF_cut : lexF [97, 45, 62, 39, 98, 32, 55, 32, 47, 47, 32, 99] = .ok cutToks := by kernel_rfl

theorem allPost_any (s : ByteArray) (w : World) (m : Int) (hm : w.cell? ⟨0, 0, none⟩ = some (.int .i64 m)) :
    Calls Try.prog 20 #[.string s] w (AllPost w.heap.size w (lexF s.data.toList)) := by
  by_cases h : s.size ≤ 20000
  · exact all_any s w m hm h
  · exact all_long s w (by omega)
theorem all_ok (s : ByteArray) (w : World) (m : Int) (l : List Tok) (hm : w.cell? ⟨0, 0, none⟩ = some (.int .i64 m)) (h : lexF s.data.toList = .ok l) :
    Calls Try.prog 20 #[.string s] w fun e w' => ∃ v, e = .returned (.tuple #[v, .agg #[.int .i64 0, .int .i64 0, .int .i64 0]]) ∧ w'.ownsRow w.heap.size 58 5 v l.length (toksV l) ∧ Step (fun _ => False) w w' := by
  have := allPost_any s w m hm
  rw [h] at this
  exact this.mono fun e w' q => by obtain ⟨⟨v, h1, h2⟩, h3⟩ := q; exact ⟨v, h1, h2, h3⟩
theorem all_err (s : ByteArray) (w : World) (m : Int) (c ln col : Nat) (hm : w.cell? ⟨0, 0, none⟩ = some (.int .i64 m)) (h : lexF s.data.toList = .error (c, ln, col)) :
    Calls Try.prog 20 #[.string s] w fun e w' => e = .returned (.tuple #[.slice none 0 0, .agg #[.int .i64 c, .int .i64 ln, .int .i64 col]]) ∧ Step (fun _ => False) w w' := by
  have := allPost_any s w m hm
  rw [h] at this
  exact this

set_option maxRecDepth 100000 in
set_option maxHeartbeats 400000 in
theorem cut_any (w : World) (m : Int) (hm : w.cell? ⟨0, 0, none⟩ = some (.int .i64 m)) :
    Calls Try.prog 19 #[] w fun e w' => e = .returned (.bool true) ∧ Step (fun _ => False) w w' := by
  go_enter Try.func19, Try.ntmps19
  go_wp2_with fail
  refine (all_ok _ _ m cutToks hm lexF_cut).mono ?_
  rintro e w1 ⟨v, rfl, hown, hst⟩
  obtain ⟨g, c, rfl, hg, hgl, hc⟩ := owns_some hown (by decide)
  have t1 : w1.cell? ⟨g, 6, none⟩ = some (.string ⟨#[45, 62]⟩) := owns_tok hown rfl 1 1 _ _ rfl rfl
  have t2 : w1.cell? ⟨g, 10, none⟩ = some (.int .i64 2) := owns_tok hown rfl 2 0 _ _ rfl rfl
  have t3 : w1.cell? ⟨g, 19, none⟩ = some (.int .u64 7) := owns_tok hown rfl 3 4 _ _ rfl rfl
  have t4 : w1.cell? ⟨g, 20, none⟩ = some (.int .i64 0) := owns_tok hown rfl 4 0 _ _ rfl rfl
  have t5 : w1.cell? ⟨g, 22, none⟩ = some (.int .i64 1) := owns_tok hown rfl 4 2 _ _ rfl rfl
  have t6 : w1.cell? ⟨g, 23, none⟩ = some (.int .i64 13) := owns_tok hown rfl 4 3 _ _ rfl rfl
  clear hown
  go_wp2
  go_ret
  exact ⟨rfl, hst.alloc _⟩

theorem refAllPost_any (s : ByteArray) (w : World) : Calls Try.prog 21 #[.string s] w (RefAllPost w.heap.size w (lexF s.data.toList)) := by
  by_cases h : s.size ≤ 20000
  · exact refAll_any s w h
  · exact refAll_long s w (by omega)
theorem refAll_ok (s : ByteArray) (w : World) (l : List Tok) (h : lexF s.data.toList = .ok l) :
    Calls Try.prog 21 #[.string s] w fun e w' => ∃ v, e = .returned (.tuple #[v, .agg #[.int .i64 0, .int .i64 0, .int .i64 0]]) ∧ w'.ownsRow w.heap.size 82 5 v l.length (toksV l) ∧ Step (fun _ => False) w w' := by
  have := refAllPost_any s w
  rw [h] at this
  exact this.mono fun e w' q => by obtain ⟨⟨v, h1, h2⟩, h3⟩ := q; exact ⟨v, h1, h2, h3⟩
theorem refAll_err (s : ByteArray) (w : World) (c ln col : Nat) (h : lexF s.data.toList = .error (c, ln, col)) :
    Calls Try.prog 21 #[.string s] w fun e w' => e = .returned (.tuple #[.slice none 0 0, .agg #[.int .i64 c, .int .i64 ln, .int .i64 col]]) ∧ Step (fun _ => False) w w' := by
  have := refAllPost_any s w
  rw [h] at this
  exact this

theorem allF_length : ∀ (k : Nat) (r : List UInt8) (p l f : Nat) (acc res : List Tok), acc.length ≤ 8000 → allF k r p l f acc = .ok res → res.length ≤ 8001 := by
  intro k
  induction k with
  | zero => intro r p l f acc res _ h; simp [allF] at h
  | succ k ih =>
    intro r p l f acc res hacc h
    rw [allF] at h
    split at h
    · simp at h; subst h; simp; omega
    · split at h
      · simp at h
      · split at h
        · simp at h
        · refine ih _ _ _ _ _ _ ?_ h
          simp; omega
theorem lexF_length {s : List UInt8} {l : List Tok} (h : lexF s = .ok l) : l.length ≤ 8001 := by
  unfold lexF at h
  split at h
  · simp at h
  · exact allF_length _ _ _ _ _ _ _ (by simp) h

set_option maxRecDepth 100000 in
set_option maxHeartbeats 400000 in
theorem lexCuts_any (s : ByteArray) (w : World) (m : Int) (hm : w.cell? ⟨0, 0, none⟩ = some (.int .i64 m)) (hs : s.size ≤ 9223372036854775807) :
    Calls Try.prog 4 #[.string s] w fun e w' => e = .returned (.bool true) ∧ Step (fun _ => False) w w' := by
  by_cases hbig : 25000 < s.size
  · have hd : decide ((25000 : Int) < s.size) = true := by rw [decide_eq_true_eq]; omega
    clear hbig
    go_enter Try.func4, Try.ntmps4
    go_wp2_with fail
    refine (cut_any w m hm).mono ?_
    rintro e w1 ⟨rfl, h1⟩
    go_wp2_with fail
    refine (cut_any w1 m (h1.cell hm (fun h => h))).mono ?_
    rintro e w2 ⟨rfl, h2⟩
    go_wp2
    go_ret
    exact ⟨rfl, h1.trans h2⟩
  · have hd : decide ((25000 : Int) < s.size) = false := by rw [decide_eq_false_iff_not]; omega
    clear hbig
    cases hl : lexF s.data.toList with
    | ok l =>
      have HL := Lib.hid hl
      have hlen := lexF_length hl
      clear hl
      go_enter Try.func4, Try.ntmps4
      go_wp2_with fail
      refine (cut_any w m hm).mono ?_
      rintro e w1 ⟨rfl, h1⟩
      go_wp2_with fail
      refine (all_ok s w1 m l (h1.cell hm (fun h => h)) HL.out).mono ?_
      rintro e w2 ⟨v2, rfl, ho2, h2⟩
      have HO2 := Lib.hid ho2
      clear ho2
      go_wp2_with fail
      refine (refAll_ok s _ l HL.out).mono ?_
      rintro e w3 ⟨v3, rfl, ho3, h3⟩
      have HO2' : Hid (w3.ownsRow w1.heap.size 58 5 v2 l.length (toksV l)) := h3.owns (HO2.out.alloc _) (fun k _ h => h)
      have HO3 := Lib.hid ho3
      obtain ⟨⟨a0, a1, a2⟩, b0, b1, b2⟩ := blk3 (h3.keep (blk_new w2 _) (fun h => h))
      have hz : w2.heap.size < w3.heap.size := by have := h3.size; simp at this; omega
      clear ho3
      go_wp2_with fail
      refine (fault_any 0 0 0 _).mono ?_
      rintro e w4 ⟨rfl, h4⟩
      have HO2'' : Hid (w4.ownsRow w1.heap.size 58 5 v2 l.length (toksV l)) := h4.owns (HO2'.out.alloc _) (fun k _ h => h)
      have HO3'' : Hid (w4.ownsRow (w2.heap.size + 1) 82 5 v3 l.length (toksV l)) := h4.owns ((by simpa using HO3.out.alloc _)) (fun k _ h => h)
      go_wp2_with fail
      refine (same_any l v2 v3 _ _ _ (by omega) HO2''.out HO3''.out).mono ?_
      rintro e w5 ⟨rfl, h5⟩
      go_wp2
      go_ret
      exact ⟨rfl, ((((h1.trans h2).alloc _).trans h3).alloc _).trans (h4.trans h5)⟩
    | error x =>
      obtain ⟨c, ln, col⟩ := x
      have HL := Lib.hid hl
      clear hl
      go_enter Try.func4, Try.ntmps4
      go_wp2_with fail
      refine (cut_any w m hm).mono ?_
      rintro e w1 ⟨rfl, h1⟩
      go_wp2_with fail
      refine (all_err s w1 m c ln col (h1.cell hm (fun h => h)) HL.out).mono ?_
      rintro e w2 ⟨rfl, h2⟩
      go_wp2_with fail
      refine (refAll_err s _ c ln col HL.out).mono ?_
      rintro e w3 ⟨rfl, h3⟩
      obtain ⟨⟨a0, a1, a2⟩, b0, b1, b2⟩ := blk3 (h3.keep (blk_new w2 _) (fun h => h))
      have hz : w2.heap.size < w3.heap.size := by have := h3.size; simp at this; omega
      go_wp2_with fail
      refine (fault_any c ln col _).mono ?_
      rintro e w4 ⟨rfl, h4⟩
      go_wp2_with fail
      refine (same_any [] (.slice none 0 0) (.slice none 0 0) 0 0 _ (by simp) (World.ownsRow_nil _ _ _ _) (World.ownsRow_nil _ _ _ _)).mono ?_
      rintro e w5 ⟨rfl, h5⟩
      go_wp2
      go_ret
      exact ⟨rfl, ((((h1.trans h2).alloc _).trans h3).alloc _).trans (h4.trans h5)⟩

end Go.Proofs.Ytfjkkfdpeckccaa
