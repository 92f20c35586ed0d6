/- Texts put together: the contracts of lex.Put and chattelref01.Put; the statement LexPuts walked. -/
import Derived.Test.YtfjkkfdpeckccaaLexT
namespace Go.Proofs.Ytfjkkfdpeckccaa
open Go.RowKit

/- Texts put together, a blank between each two. -/
def putF (l : List (List UInt8)) : List UInt8 := Lib.join l [32]
def putB (l : List ByteArray) : ByteArray := ⟨(Lib.join (l.map (·.data.toList)) [32]).toArray⟩
theorem putB_list (l : List ByteArray) : (putB l).data.toList = putF (l.map (·.data.toList)) := rfl

theorem join_snoc (l : List (List UInt8)) (x sep : List UInt8) (hl : l ≠ []) : Lib.join (l ++ [x]) sep = Lib.join l sep ++ sep ++ x := by
  cases l with
  | nil => exact absurd rfl hl
  | cons a l =>
    rw [List.cons_append, Lib.join_cons, Lib.join_cons, Lib.joinTail, Lib.joinTail, List.map_append, List.flatten_append]
    simp
theorem putB_one (x : ByteArray) : putB [x] = x := str_ext (by rw [putB_list]; simp [putF, Lib.join_one])
theorem putB_snoc (l : List ByteArray) (x : ByteArray) (hl : l ≠ []) : putB (l ++ [x]) = putB l ++ ⟨#[32]⟩ ++ x := by
  apply str_ext
  rw [putB_list, ByteArray.data_append, Array.toList_append, ByteArray.data_append, Array.toList_append, putB_list]
  rw [List.map_append, putF, List.map_cons, List.map_nil, join_snoc _ _ _ (by simpa using hl)]
  rfl
theorem putB_size_snoc (l : List ByteArray) (x : ByteArray) : (putB (l ++ [x])).size ≤ (putB l).size + 1 + x.size := by
  cases l with
  | nil => rw [List.nil_append, putB_one]; omega
  | cons a l =>
    rw [putB_snoc _ _ (by simp), Lib.size_eq, ByteArray.data_append, Array.toList_append, ByteArray.data_append, Array.toList_append, List.length_append, List.length_append, ← Lib.size_eq, ← Lib.size_eq]
    exact Nat.le_refl _
theorem putB_size (l : List ByteArray) (n : Nat) (h : ∀ x ∈ l, x.size ≤ n) : (putB l).size ≤ l.length * (n + 1) := by
  have key : ∀ k, k ≤ l.length → (putB (l.take k)).size ≤ k * (n + 1) := by
    intro k
    induction k with
    | zero => intro _; rw [List.take_zero]; exact Nat.le_of_eq (by rw [Nat.zero_mul]; rfl)
    | succ k ih =>
      intro hk
      have hlt : k < l.length := by omega
      rw [List.take_succ_eq_append_getElem hlt]
      have := putB_size_snoc (l.take k) l[k]
      have h2 := h l[k] (List.getElem_mem hlt)
      have h3 := ih (by omega)
      rw [Nat.succ_mul]; omega
  have := key l.length (Nat.le_refl _)
  rwa [List.take_length] at this

theorem put_any (l : List ByteArray) (v : Value) (w : World) (h : Strs w v l) (hlen : (putB l).size ≤ 100000000) (hl : l.length ≤ 100000000) :
    Calls Try.prog 27 #[v] w fun e w' => e = .returned (.string (putB l)) ∧ Step (fun _ => False) w w' := by
  obtain ⟨g, o, c, rfl, hg, hc, hcell⟩ := h
  have HC := Lib.hid hcell
  have HL : Hid ((Lib.join (l.map (·.data.toList)) [32]).length ≤ 140737488355328) := by
    show _ ≤ _
    have := Lib.size_eq (putB l)
    rw [putB_list, putF] at this
    omega
  clear hcell
  go_enter Try.func27, Try.ntmps27
  go_wp2_with fail
  refine (Try.strings_Join g o c l _ _ HC.out hg (by omega) hc HL.out).mono ?_
  rintro e w1 ⟨rfl, hb⟩
  go_wp2
  go_ret
  exact ⟨rfl, (Step.refl _ _).below hb⟩
theorem put_none (a : Option Addr) (c : Nat) (w : World) :
    Calls Try.prog 27 #[.slice a 0 c] w fun e w' => e = .returned (.string (putB [])) ∧ Step (fun _ => False) w w' := by
  go_enter Try.func27, Try.ntmps27
  go_wp2_with fail
  refine (Try.strings_Join_none a c _ _).mono ?_
  rintro e w1 ⟨rfl, rfl⟩
  go_wp2
  go_ret
  exact ⟨rfl, Step.refl _ _⟩

set_option maxHeartbeats 400000 in
theorem refPut_none (a : Option Addr) (c : Nat) (w : World) :
    Calls Try.prog 28 #[.slice a 0 c] w fun e w' => e = .returned (.string (putB [])) ∧ Step (fun _ => False) w w' := by
  go_enter Try.func28, Try.ntmps28
  go_wp2_with fail
  go_loopg [3, 4] 1 (fun g s3 s4 wr => s3 = .string ⟨#[]⟩ ∧ s4 = .int .i64 0 ∧ wr = w)
  case atStart => exact ⟨rfl, rfl, rfl⟩
  case round =>
    obtain ⟨rfl, rfl, rfl⟩ := hrel
    go_wp2
    go_ret
    exact ⟨rfl, Step.refl _ _⟩

set_option maxRecDepth 100000 in
set_option maxHeartbeats 400000 in
theorem refPut_any (l : List ByteArray) (v : Value) (w : World) (h : Strs w v l) (hl : l.length ≤ 10000) (hn : ∀ x ∈ l, x.size ≤ 1000) :
    Calls Try.prog 28 #[v] w fun e w' => e = .returned (.string (putB l)) ∧ Step (fun _ => False) w w' := by
  obtain ⟨g, o, c, rfl, hg, hc, hcell⟩ := h
  have HC := Lib.hid hcell
  have HN := Lib.hid hn
  clear hcell hn
  go_enter Try.func28, Try.ntmps28
  go_wp2_with fail
  go_loopg [3, 4] l.length (fun gg s3 s4 wr => ∃ (i : Nat) (t : ByteArray), s3 = .string t ∧ t = putB (l.take i) ∧ t.size ≤ i * 1001 ∧ s4 = .int .i64 i ∧ i ≤ l.length ∧ l.length - i ≤ gg ∧ wr = w)
  case atStart => exact ⟨0, ⟨#[]⟩, rfl, rfl, by decide, rfl, Nat.zero_le _, by omega, rfl⟩
  case round =>
    obtain ⟨i, t, rfl, ht, hts, rfl, hi, hgg, rfl⟩ := hrel
    have HT := Lib.hid ht
    clear ht
    by_cases hlt : i < l.length
    · obtain ⟨x, hx⟩ : ∃ x, l[i]? = some x := ⟨l[i], List.getElem?_eq_getElem hlt⟩
      have hcell := HC.out i x hx
      have hxs : x.size ≤ 1000 := HN.out x (List.mem_of_getElem? hx)
      have htk : Hid (l.take (i + 1) = l.take i ++ [x]) := by
        show _ = _
        rw [List.take_succ_eq_append_getElem hlt]
        rw [List.getElem?_eq_getElem hlt] at hx
        simp at hx; rw [hx]
      clear hx
      rcases Nat.eq_zero_or_pos i with h0 | hpos
      · subst h0
        rw [Nat.add_zero] at hcell
        go_wp2
        go_roundg (gk - 1)
        case rel =>
          refine ⟨1, t ++ x, rfl, ?_, ?_, by go_num, by omega, by omega, rfl⟩
          · rw [htk.out, HT.out, List.take_zero, List.nil_append, putB_one]
            apply str_ext
            rw [ByteArray.data_append, Array.toList_append]; rfl
          · rw [ByteArray.size_append]; omega
        case measure => omega
      · go_wp2
        go_roundg (gk - 1)
        case rel =>
          refine ⟨i + 1, t ++ ⟨#[32]⟩ ++ x, rfl, ?_, ?_, by go_num, by omega, by omega, rfl⟩
          · rw [htk.out, HT.out, putB_snoc _ _ (by intro e; have := congrArg List.length e; rw [List.length_take, List.length_nil] at this; omega)]
          · rw [ByteArray.size_append, ByteArray.size_append]
            have : (⟨#[32]⟩ : ByteArray).size = 1 := rfl
            omega
        case measure => omega
    · have hr0 : Hid (t = putB l) := by
        show _ = _
        rw [HT.out, List.take_of_length_le (by omega)]
      go_wp2
      go_ret
      exact ⟨by rw [hr0.out]; rfl, Step.refl _ _⟩

set_option maxRecDepth 100000 in
set_option maxHeartbeats 400000 in
theorem lexPuts_many (v : Value) (w : World) (m : Int) (a : Option Addr) (n c : Nat) (hv : v = .slice a n c) (hm : w.cell? ⟨0, 0, none⟩ = some (.int .i64 m)) (hn : 40 < n) (hn2 : n ≤ 9223372036854775807) :
    Calls Try.prog 7 #[v] w fun e w' => e = .returned (.bool true) ∧ Step (fun _ => False) w w' := by
  subst hv
  have hd : decide ((40 : Int) < n) = true := by rw [decide_eq_true_eq]; omega
  clear hn
  go_enter Try.func7, Try.ntmps7
  go_wp2_with fail
  refine (cut_any w m hm).mono ?_
  rintro e w1 ⟨rfl, h1⟩
  go_wp2_with fail
  refine (cut_any w1 m (h1.cell hm (fun h => h))).mono ?_
  rintro e w2 ⟨rfl, h2⟩
  go_wp2
  go_ret
  exact ⟨rfl, h1.trans h2⟩

set_option maxRecDepth 100000 in
set_option maxHeartbeats 400000 in
theorem lexPuts_none (w : World) (m : Int) (a : Option Addr) (c : Nat) (hm : w.cell? ⟨0, 0, none⟩ = some (.int .i64 m)) :
    Calls Try.prog 7 #[.slice a 0 c] w fun e w' => e = .returned (.bool true) ∧ Step (fun _ => False) w w' := by
  go_enter Try.func7, Try.ntmps7
  go_wp2_with fail
  refine (cut_any w m hm).mono ?_
  rintro e w1 ⟨rfl, h1⟩
  go_wp2_with fail
  go_loopg [3] 1 (fun g s3 wr => s3 = .int .i64 0 ∧ wr = w1)
  case atStart => exact ⟨rfl, rfl⟩
  case round =>
    obtain ⟨rfl, rfl⟩ := hrel
    go_wp2_with fail
    refine (put_none a c _).mono ?_
    rintro e w2 ⟨rfl, h2⟩
    go_wp2_with fail
    refine (refPut_none a c _).mono ?_
    rintro e w3 ⟨rfl, h3⟩
    go_wp2
    go_ret
    exact ⟨rfl, h1.trans (h2.trans h3)⟩

theorem Strs.step {w w' : World} {v : Value} {l : List ByteArray} (h : Strs w v l) (hs : Step (fun _ => False) w w') : Strs w' v l := by
  obtain ⟨g, o, c, hv, hg, hc, hcell⟩ := h
  exact ⟨g, o, c, hv, Nat.lt_of_lt_of_le hg hs.size, hc, fun i x hx => hs.cell (hcell i x hx) (fun h => h)⟩

set_option maxRecDepth 100000 in
set_option maxHeartbeats 400000 in
theorem lexPuts_any (l : List ByteArray) (v : Value) (w : World) (m : Int) (h : Strs w v l) (hm : w.cell? ⟨0, 0, none⟩ = some (.int .i64 m)) (hl : l.length ≤ 40) (hmax : ∀ x ∈ l, x.size ≤ 9223372036854775807) :
    Calls Try.prog 7 #[v] w fun e w' => e = .returned (.bool true) ∧ Step (fun _ => False) w w' := by
  have HS := Lib.hid h
  obtain ⟨g, o, c, rfl, hg, hc, hcell⟩ := h
  clear hcell hg
  have HMX := Lib.hid hmax
  clear hmax
  have hd : decide ((40 : Int) < l.length) = false := by rw [decide_eq_false_iff_not]; omega
  go_enter Try.func7, Try.ntmps7
  go_wp2_with fail
  refine (cut_any w m hm).mono ?_
  rintro e w1 ⟨rfl, h1⟩
  obtain ⟨g', o', c', hv, hg', hc', hcell'⟩ := HS.out.step h1
  simp at hv
  obtain ⟨⟨rfl, rfl⟩, rfl⟩ := hv
  have HS1 := Lib.hid (HS.out.step h1)
  have HC := Lib.hid hcell'
  clear hcell'
  go_wp2_with fail
  go_loopg [3] l.length (fun gg s3 wr => ∃ i : Nat, s3 = .int .i64 i ∧ i ≤ l.length ∧ l.length - i ≤ gg ∧ (∀ x ∈ l.take i, x.size ≤ 200) ∧ wr = w1)
  case atStart => exact ⟨0, rfl, Nat.zero_le _, by omega, by simp, rfl⟩
  case round =>
    obtain ⟨i, rfl, hi, hgg, hall, rfl⟩ := hrel
    have HA := Lib.hid hall
    clear hall
    by_cases hlt : i < l.length
    · obtain ⟨x, hx⟩ : ∃ x, l[i]? = some x := ⟨l[i], List.getElem?_eq_getElem hlt⟩
      have hcell := HC.out i x hx
      have hxm := HMX.out x (List.mem_of_getElem? hx)
      have htk : Hid (l.take (i + 1) = l.take i ++ [x]) := by
        show _ = _
        rw [List.take_succ_eq_append_getElem hlt]
        rw [List.getElem?_eq_getElem hlt] at hx
        simp at hx; rw [hx]
      clear hx
      by_cases hbig : 200 < x.size
      · have hd2 : decide ((200 : Int) < x.size) = true := by rw [decide_eq_true_eq]; omega
        clear hbig
        go_wp2
        go_ret
        exact ⟨rfl, h1⟩
      · have hd2 : decide ((200 : Int) < x.size) = false := by rw [decide_eq_false_iff_not]; omega
        go_wp2
        go_roundg (gk - 1)
        case rel =>
          refine ⟨i + 1, by go_num, by omega, by omega, ?_, rfl⟩
          rw [htk.out]
          intro y hy
          rcases List.mem_append.1 hy with h | h
          · exact HA.out y h
          · simp at h; subst h; omega
        case measure => omega
    · have HA2 : Hid (∀ x ∈ l, x.size ≤ 200) := by
        have := HA.out
        rwa [List.take_of_length_le (by omega)] at this
      have hps := putB_size l 200 HA2.out
      have hps2 : (putB l).size ≤ 8040 := by
        have : l.length * (200 + 1) ≤ 40 * 201 := Nat.mul_le_mul_right _ hl
        omega
      clear hps
      go_wp2_with fail
      refine (put_any l _ _ HS1.out (by omega) (by omega)).mono ?_
      rintro e w2 ⟨rfl, h2⟩
      go_wp2_with fail
      refine (refPut_any l _ _ (HS1.out.step h2) (by omega) (fun x hx => by have := HA2.out x hx; omega)).mono ?_
      rintro e w3 ⟨rfl, h3⟩
      go_wp2
      go_ret
      exact ⟨rfl, h1.trans (h2.trans h3)⟩

end Go.Proofs.Ytfjkkfdpeckccaa
