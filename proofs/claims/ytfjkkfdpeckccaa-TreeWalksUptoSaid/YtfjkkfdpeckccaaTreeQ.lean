/- What is read as an expression, as statements, lies in memory as plain trees; they have no more expressions than the reading has values. -/
import Derived.Test.YtfjkkfdpeckccaaTreeE
import Derived.Test.YtfjkkfdpeckccaaRead
namespace Go.Proofs.Ytfjkkfdpeckccaa
open Go.RowKit Go.WideShapes Go.ChangeShapes

theorem list2 {α : Type} {l : List α} (h : l.length = 2) : ∃ a0 a1, l = [a0, a1] := by
  match l, h with
  | [a0, a1], _ => exact ⟨a0, a1, rfl⟩
theorem list7 {α : Type} {l : List α} (h : l.length = 7) : ∃ a0 a1 a2 a3 a4 a5 a6, l = [a0, a1, a2, a3, a4, a5, a6] := by
  match l, h with
  | [a0, a1, a2, a3, a4, a5, a6], _ => exact ⟨a0, a1, a2, a3, a4, a5, a6, rfl⟩
theorem list8 {α : Type} {l : List α} (h : l.length = 8) : ∃ a0 a1 a2 a3 a4 a5 a6 a7, l = [a0, a1, a2, a3, a4, a5, a6, a7] := by
  match l, h with
  | [a0, a1, a2, a3, a4, a5, a6, a7], _ => exact ⟨a0, a1, a2, a3, a4, a5, a6, a7, rfl⟩
theorem list9 {α : Type} {l : List α} (h : l.length = 9) : ∃ a0 a1 a2 a3 a4 a5 a6 a7 a8, l = [a0, a1, a2, a3, a4, a5, a6, a7, a8] := by
  match l, h with
  | [a0, a1, a2, a3, a4, a5, a6, a7, a8], _ => exact ⟨a0, a1, a2, a3, a4, a5, a6, a7, a8, rfl⟩
theorem list17 {α : Type} {l : List α} (h : l.length = 17) : ∃ a0 a1 a2 a3 a4 a5 a6 a7 a8 a9 a10 a11 a12 a13 a14 a15 a16, l = [a0, a1, a2, a3, a4, a5, a6, a7, a8, a9, a10, a11, a12, a13, a14, a15, a16] := by
  match l, h with
  | [a0, a1, a2, a3, a4, a5, a6, a7, a8, a9, a10, a11, a12, a13, a14, a15, a16], _ => exact ⟨a0, a1, a2, a3, a4, a5, a6, a7, a8, a9, a10, a11, a12, a13, a14, a15, a16, rfl⟩
theorem Try.cellsInt : Try.prog.cellsOf 3 = 1 := by kernel_rfl
theorem Try.cellsU64 : Try.prog.cellsOf 22 = 1 := by kernel_rfl
theorem Try.cellsBool : Try.prog.cellsOf 4 = 1 := by kernel_rfl
theorem Try.cellsStr : Try.prog.cellsOf 9 = 1 := by kernel_rfl
theorem Try.cellsStrs : Try.prog.cellsOf 24 = 1 := by kernel_rfl
theorem Try.cellsExs : Try.prog.cellsOf 23 = 1 := by kernel_rfl
theorem Try.cellsSts : Try.prog.cellsOf 25 = 1 := by kernel_rfl
theorem Try.cellsTys : Try.prog.cellsOf 69 = 1 := by kernel_rfl
theorem Try.cellsPos : Try.prog.cellsOf 27 = 2 := by kernel_rfl
theorem Try.cellsTy : Try.prog.cellsOf 71 = 8 := by kernel_rfl
theorem Try.cellsEx : Try.prog.cellsOf 29 = 9 := by kernel_rfl
theorem Try.cellsSt : Try.prog.cellsOf 74 = 17 := by kernel_rfl

section
variable {H : Type} {enc : TypeId × Value → H} {w : World} {spare : Nat → Bool} {held : Bool}

theorem read_int {n : Nat} {cs : List Value} {x : DataW H × List MemPlace} (h : DataW.trod enc Try.prog w 0 spare held n 3 cs = some x) : ∃ k, cs = [.int .i64 k] ∧ Rows.uptoBulk x.1 = 1 := by
  obtain ⟨k, rfl, rfl, -⟩ := DataW.trod_int Try.underlying3 h
  exact ⟨k, rfl, rfl⟩
theorem read_u64 {n : Nat} {cs : List Value} {x : DataW H × List MemPlace} (h : DataW.trod enc Try.prog w 0 spare held n 22 cs = some x) : ∃ k, cs = [.int .u64 k] := by
  obtain ⟨k, rfl, rfl, -⟩ := DataW.trod_int Try.underlying22 h
  exact ⟨k, rfl⟩
theorem read_bool {n : Nat} {cs : List Value} {x : DataW H × List MemPlace} (h : DataW.trod enc Try.prog w 0 spare held n 4 cs = some x) : ∃ k, cs = [.bool k] := by
  obtain ⟨k, rfl, rfl⟩ := DataW.trod_bool Try.underlying4 h
  exact ⟨k, rfl⟩
theorem read_str {n : Nat} {cs : List Value} {x : DataW H × List MemPlace} (h : DataW.trod enc Try.prog w 0 spare held n 9 cs = some x) : ∃ s : ByteArray, cs = [.string s] ∧ s.size ≤ 9223372036854775807 := by
  obtain ⟨k, rfl, rfl, hs⟩ := DataW.trod_string Try.underlying9 h
  exact ⟨k, rfl, by simpa [maxLen] using hs⟩
theorem strs_of : ∀ (l : List (List Value × DataW H)) (n : Nat), (∀ y ∈ l, y.1.length = Try.prog.cellsOf 9 ∧ ∃ p, DataW.trod enc Try.prog w 0 spare held n 9 y.1 = some (y.2, p)) → ∃ ss : List ByteArray, ss.length = l.length ∧ l.flatMap (·.1) = ss.map .string ∧ ∀ s ∈ ss, s.size ≤ 9223372036854775807
  | [], n, h => ⟨[], rfl, rfl, (fun s hs => nomatch hs)⟩
  | y :: r, n, h => by
    obtain ⟨_, p, hp⟩ := h y (List.mem_cons_self ..)
    obtain ⟨s, hs, hsz⟩ := read_str hp
    obtain ⟨ss, h1, h2, h3⟩ := strs_of r n (fun y hy => h y (List.mem_cons_of_mem _ hy))
    refine ⟨s :: ss, by simp [h1], by simp [hs, h2], fun t ht => ?_⟩
    rcases List.mem_cons.1 ht with rfl | ht
    · exact hsz
    · exact h3 t ht
theorem read_strs {n : Nat} {cs : List Value} {x : DataW H × List MemPlace} (h : DataW.trod enc Try.prog w 0 spare held n 24 cs = some x) : ∃ (v : Value) (ss : List ByteArray), cs = [v] ∧ Row w w.heap.size v ss.length (ss.map .string) ∧ ∀ s ∈ ss, s.size ≤ 9223372036854775807 := by
  obtain ⟨v, l, m, rfl, rfl, hr, hl, -⟩ := trod_row Try.underlying24 (by rw [Try.cellsStr]; decide) h
  obtain ⟨ss, h1, h2, h3⟩ := strs_of l m hl
  rw [h2, ← h1] at hr
  exact ⟨v, ss, rfl, hr, h3⟩
theorem read_pos {n : Nat} {cs : List Value} {x : DataW H × List MemPlace} (h : DataW.trod enc Try.prog w 0 spare held n 27 cs = some x) : ∃ l c, cs = [.int .i64 l, .int .i64 c] := by
  obtain ⟨xs, m, rfl, -, hl, hx, hf⟩ := trod_fields Try.underlying27 h
  rw [Try.cellsPos] at hl
  obtain ⟨c0, c1, rfl⟩ := list2 hl
  obtain ⟨x0, x1, rfl⟩ := list2 hx
  simp only [FieldsAt, Try.cellsInt] at hf
  obtain ⟨f0, f1, -⟩ := hf
  obtain ⟨l, h0, -⟩ := read_int f0
  obtain ⟨c, h1, -⟩ := read_int f1
  simp at h0 h1
  exact ⟨l, c, by rw [h0, h1]⟩

theorem ty_read : ∀ (N n : Nat), n < N → ∀ (cs : List Value) (x : DataW H × List MemPlace), DataW.trod enc Try.prog w 0 spare held n 71 cs = some x → ∃ t, TyAt w w.heap.size t cs
  | 0, _, hn, _, _, _ => absurd hn (Nat.not_lt_zero _)
  | N + 1, n, hn, cs, x, h => by
    obtain ⟨xs, m, rfl, -, hl, hx, hf⟩ := trod_fields Try.underlying71 h
    rw [Try.cellsTy] at hl
    obtain ⟨c0, c1, c2, c3, c4, c5, c6, c7, rfl⟩ := list8 hl
    obtain ⟨x0, x1, x2, x3, x4, x5, x6, rfl⟩ := list7 hx
    simp only [FieldsAt, Try.cellsInt, Try.cellsStr, Try.cellsBool, Try.cellsStrs, Try.cellsTys, Try.cellsPos] at hf
    obtain ⟨f0, f1, f2, f3, f4, f5, f6, -⟩ := hf
    obtain ⟨k0, h0, -⟩ := read_int f0
    obtain ⟨k1, h1, s1⟩ := read_str f1
    obtain ⟨k2, h2, s2⟩ := read_str f2
    obtain ⟨k3, h3⟩ := read_bool f3
    obtain ⟨k4, ss, h4, r4, s4⟩ := read_strs f4
    obtain ⟨k5, l, m', rfl, h5, r5, hl5, -⟩ := trod_row Try.underlying69 (by rw [Try.cellsTy]; decide) f5
    obtain ⟨k6, k7, h6⟩ := read_pos f6
    simp at h0 h1 h2 h3 h4 h5 h6
    obtain ⟨rfl, rfl⟩ := h6
    subst h0 h1 h2 h3 h4 h5
    have hall : ∀ (l : List (List Value × DataW H)), (∀ y ∈ l, y.1.length = Try.prog.cellsOf 71 ∧ ∃ p, DataW.trod enc Try.prog w 0 spare held m' 71 y.1 = some (y.2, p)) → ∃ ts : List Ty, ts.length = l.length ∧ TysAt w w.heap.size ts (l.flatMap (·.1)) := by
      intro l
      induction l with
      | nil => exact fun _ => ⟨[], rfl, by rw [TysAt]; rfl⟩
      | cons y r ih =>
        intro hy
        obtain ⟨_, p, hp⟩ := hy y (List.mem_cons_self ..)
        obtain ⟨t, ht⟩ := ty_read N m' (by omega) _ _ hp
        obtain ⟨ts, h1, h2⟩ := ih (fun y h => hy y (List.mem_cons_of_mem _ h))
        exact ⟨t :: ts, by simp [h1], by rw [TysAt]; exact ⟨_, _, by simp, ht, h2⟩⟩
    obtain ⟨ts, ht1, ht2⟩ := hall l hl5
    rw [← ht1] at r5
    exact ⟨.mk k0 k1 k2 k3 ss ts k6 k7, by rw [TyAt]; exact ⟨_, _, _, rfl, s1, s2, s4, r4, ht2, r5⟩⟩

def ReadEx (enc : TypeId × Value → H) (w : World) (spare : Nat → Bool) (held : Bool) (N : Nat) : Prop := ∀ n, n < N → ∀ (cs : List Value) (x : DataW H × List MemPlace), DataW.trod enc Try.prog w 0 spare held n 29 cs = some x → ∃ e, ExAt w w.heap.size e cs ∧ (seenE e).length ≤ Rows.uptoBulk x.1
def ReadSt (enc : TypeId × Value → H) (w : World) (spare : Nat → Bool) (held : Bool) (N : Nat) : Prop := ∀ n, n < N → ∀ (cs : List Value) (x : DataW H × List MemPlace), DataW.trod enc Try.prog w 0 spare held n 74 cs = some x → ∃ e, StAt w w.heap.size e cs ∧ (seenT e).length ≤ Rows.uptoBulk x.1

theorem read_exs {N n : Nat} (hE : ReadEx enc w spare held N) (hn : n ≤ N) {cs : List Value} {x : DataW H × List MemPlace} (h : DataW.trod enc Try.prog w 0 spare held n 23 cs = some x) :
    ∃ (v : Value) (l : List Ex) (ys : List Value), cs = [v] ∧ ExsAt w w.heap.size l ys ∧ Row w w.heap.size v l.length ys ∧ (seenEs l).length ≤ Rows.uptoBulk x.1 := by
  obtain ⟨v, l, m, rfl, rfl, hr, hl, hb⟩ := trod_row Try.underlying23 (by rw [Try.cellsEx]; decide) h
  have hall : ∀ (l : List (List Value × DataW H)), (∀ y ∈ l, y.1.length = Try.prog.cellsOf 29 ∧ ∃ p, DataW.trod enc Try.prog w 0 spare held m 29 y.1 = some (y.2, p)) → ∃ ts : List Ex, ts.length = l.length ∧ ExsAt w w.heap.size ts (l.flatMap (·.1)) ∧ (seenEs ts).length ≤ Rows.uptoBulkAll (l.map (·.2)) := by
    intro l
    induction l with
    | nil => exact fun _ => ⟨[], rfl, by rw [ExsAt]; rfl, by simp [seenEs]⟩
    | cons y r ih =>
      intro hy
      obtain ⟨_, p, hp⟩ := hy y (List.mem_cons_self ..)
      obtain ⟨t, ht, hs⟩ := hE m (by omega) _ _ hp
      obtain ⟨ts, h1, h2, h3⟩ := ih (fun y h => hy y (List.mem_cons_of_mem _ h))
      refine ⟨t :: ts, by simp [h1], by rw [ExsAt]; exact ⟨_, _, by simp, ht, h2⟩, ?_⟩
      simp only [seenEs, List.length_append, List.map_cons, Rows.uptoBulkAll]
      simp only at hs
      omega
  obtain ⟨ts, h1, h2, h3⟩ := hall l hl
  rw [← h1] at hr
  exact ⟨v, ts, _, rfl, h2, hr, by omega⟩
theorem read_sts {N n : Nat} (hE : ReadSt enc w spare held N) (hn : n ≤ N) {cs : List Value} {x : DataW H × List MemPlace} (h : DataW.trod enc Try.prog w 0 spare held n 25 cs = some x) :
    ∃ (v : Value) (l : List St) (ys : List Value), cs = [v] ∧ StsAt w w.heap.size l ys ∧ Row w w.heap.size v l.length ys ∧ (seenS l).length ≤ Rows.uptoBulk x.1 := by
  obtain ⟨v, l, m, rfl, rfl, hr, hl, hb⟩ := trod_row Try.underlying25 (by rw [Try.cellsSt]; decide) h
  have hall : ∀ (l : List (List Value × DataW H)), (∀ y ∈ l, y.1.length = Try.prog.cellsOf 74 ∧ ∃ p, DataW.trod enc Try.prog w 0 spare held m 74 y.1 = some (y.2, p)) → ∃ ts : List St, ts.length = l.length ∧ StsAt w w.heap.size ts (l.flatMap (·.1)) ∧ (seenS ts).length ≤ Rows.uptoBulkAll (l.map (·.2)) := by
    intro l
    induction l with
    | nil => exact fun _ => ⟨[], rfl, by rw [StsAt]; rfl, by simp [seenS]⟩
    | cons y r ih =>
      intro hy
      obtain ⟨_, p, hp⟩ := hy y (List.mem_cons_self ..)
      obtain ⟨t, ht, hs⟩ := hE m (by omega) _ _ hp
      obtain ⟨ts, h1, h2, h3⟩ := ih (fun y h => hy y (List.mem_cons_of_mem _ h))
      refine ⟨t :: ts, by simp [h1], by rw [StsAt]; exact ⟨_, _, by simp, ht, h2⟩, ?_⟩
      simp only [seenS, List.length_append, List.map_cons, Rows.uptoBulkAll]
      simp only at hs
      omega
  obtain ⟨ts, h1, h2, h3⟩ := hall l hl
  rw [← h1] at hr
  exact ⟨v, ts, _, rfl, h2, hr, by omega⟩

theorem ex_read {N : Nat} (hE : ReadEx enc w spare held N) (hS : ReadSt enc w spare held N) : ReadEx enc w spare held (N + 1) := by
  intro n hn cs x h
  obtain ⟨xs, m, rfl, rfl, hl, hx, hf⟩ := trod_fields Try.underlying29 h
  rw [Try.cellsEx] at hl
  obtain ⟨c0, c1, c2, c3, c4, c5, c6, c7, c8, rfl⟩ := list9 hl
  obtain ⟨x0, x1, x2, x3, x4, x5, x6, x7, rfl⟩ := list8 hx
  simp only [FieldsAt, Try.cellsInt, Try.cellsStr, Try.cellsBool, Try.cellsStrs, Try.cellsExs, Try.cellsSts, Try.cellsPos, Try.cellsU64] at hf
  obtain ⟨f0, f1, f2, f3, f4, f5, f6, f7, -⟩ := hf
  obtain ⟨k0, h0, b0⟩ := read_int f0
  obtain ⟨k1, h1, s1⟩ := read_str f1
  obtain ⟨k2, h2⟩ := read_u64 f2
  obtain ⟨k3, h3⟩ := read_bool f3
  obtain ⟨k4, l4, y4, h4, e4, r4, b4⟩ := read_exs hE (by omega) f4
  obtain ⟨k5, ss, h5, r5, s5⟩ := read_strs f5
  obtain ⟨k6, l6, y6, h6, e6, r6, b6⟩ := read_sts hS (by omega) f6
  obtain ⟨k7, k8, h7⟩ := read_pos f7
  simp at h0 h1 h2 h3 h4 h5 h6 h7
  obtain ⟨rfl, rfl⟩ := h7
  subst h0 h1 h2 h3 h4 h5 h6
  refine ⟨.mk k0 k1 k2 k3 l4 ss l6 k7 k8, by rw [ExAt]; exact ⟨_, _, _, y4, y6, rfl, s1, s5, e4, r4, r5, e6, r6⟩, ?_⟩
  simp only [seenE, List.length_append, List.map_cons, Rows.uptoBulk, Rows.uptoBulkAll, List.length_singleton]
  omega
theorem st_read {N : Nat} (hE : ReadEx enc w spare held N) (hS : ReadSt enc w spare held N) : ReadSt enc w spare held (N + 1) := by
  intro n hn cs x h
  obtain ⟨xs, m, rfl, rfl, hl, hx, hf⟩ := trod_fields Try.underlying74 h
  rw [Try.cellsSt] at hl
  obtain ⟨c0, c1, t0, t1, t2, t3, t4, t5, t6, t7, c2, c3, c4, c5, c6, c7, c8, rfl⟩ := list17 hl
  obtain ⟨x0, x1, x2, x3, x4, x5, x6, x7, x8, rfl⟩ := list9 hx
  simp only [FieldsAt, Try.cellsInt, Try.cellsStr, Try.cellsBool, Try.cellsTy, Try.cellsExs, Try.cellsSts, Try.cellsPos] at hf
  obtain ⟨f0, f1, f2, f3, f4, f5, f6, f7, f8, -⟩ := hf
  obtain ⟨k0, h0, b0⟩ := read_int f0
  obtain ⟨k1, h1, s1⟩ := read_str f1
  obtain ⟨ty, h2⟩ := ty_read (m + 1) m (Nat.lt_succ_self m) _ _ f2
  obtain ⟨k3, l3, y3, h3, e3, r3, b3⟩ := read_exs hE (by omega) f3
  obtain ⟨k4, l4, y4, h4, e4, r4, b4⟩ := read_exs hE (by omega) f4
  obtain ⟨k5, l5, y5, h5, e5, r5, b5⟩ := read_sts hS (by omega) f5
  obtain ⟨k6, l6, y6, h6, e6, r6, b6⟩ := read_sts hS (by omega) f6
  obtain ⟨k7, h7⟩ := read_bool f7
  obtain ⟨k8, k9, h8⟩ := read_pos f8
  simp at h0 h1 h2 h3 h4 h5 h6 h7 h8
  obtain ⟨rfl, rfl⟩ := h8
  subst h0 h1 h3 h4 h5 h6 h7
  refine ⟨.mk k0 k1 ty l3 l4 l5 l6 k7 k8 k9, by rw [StAt]; exact ⟨_, _, _, _, _, y3, y4, y5, y6, rfl, s1, h2, e3, r3, e4, r4, e5, r5, e6, r6⟩, ?_⟩
  simp only [seenT, List.length_append, List.map_cons, Rows.uptoBulk, Rows.uptoBulkAll]
  omega
theorem read_both : ∀ N, ReadEx enc w spare held N ∧ ReadSt enc w spare held N
  | 0 => ⟨fun _ hn => absurd hn (Nat.not_lt_zero _), fun _ hn => absurd hn (Nat.not_lt_zero _)⟩
  | N + 1 => ⟨ex_read (read_both N).1 (read_both N).2, st_read (read_both N).1 (read_both N).2⟩

end
end Go.Proofs.Ytfjkkfdpeckccaa
