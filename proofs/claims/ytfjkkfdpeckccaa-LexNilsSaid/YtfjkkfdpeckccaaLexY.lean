/- Contracts of a reader of nothing, and of a nil one; the statement LexNils walked. -/
import Derived.Test.YtfjkkfdpeckccaaLexX
namespace Go.Proofs.Ytfjkkfdpeckccaa
open Go.RowKit

set_option maxRecDepth 100000 in
set_option maxHeartbeats 400000 in
theorem read_ok (a : Option Addr) (n cap k : Nat) (caps : List Value) (w : World) (Q : World → Prop) (hk : Enters k)
    (hby : Calls Try.prog k (.pointer (some ⟨w.heap.size + 1, 0, none⟩) :: caps).toArray (readW w (.slice a n cap)) fun e w' =>
      e = .returned (.tuple #[]) ∧ (w'.heap[w.heap.size]? = some (.cells #[.int .i64 0, .int .i64 0, .int .i64 0] 44 (0, 0))) ∧ Q w') :
    Calls Try.prog 29 #[.slice a n cap, .func (.func k) #[] caps.toArray] w fun e w' =>
      e = .returned (.agg #[.int .i64 0, .int .i64 0, .int .i64 0]) ∧ ∃ w1, Q w1 ∧ Step (· = w.heap.size) w1 w' := by
  have hmf : ∀ (fn : Fn) (first cap : Array Value) (w : World), (Instr.makeFunc fn first cap).run Try.prog w = .ok (.func fn first cap) w := fun _ _ _ _ => rfl
  have hfe : ∀ (fn : Fn) (x y : Array Value) (w : World), (binOp .eql 68 (.func fn x y) .nilFunc).run Try.prog w = .ok (.bool false) w := fun _ _ _ _ => by kernel_rfl
  have hen : Enters k := hk
  unfold Enters at hen
  have HB := Lib.hid hby
  clear hby hk
  go_enter_defers Try.func29, Try.ntmps29
  go_wp2_with fail
  refine HB.out.mono ?_
  rintro e w1 ⟨rfl, hE, hQ⟩
  obtain ⟨⟨g0, g1, g2⟩, k0, k1, k2⟩ := blk3 hE
  go_wp2
  refine leaves_cons (f := 47) (args := #[.pointer (some ⟨w.heap.size, 0, none⟩)]) (by simp) (by simp [go_sem]) ?_
  refine (catch_idle w.heap.size _).mono ?_
  rintro e u' w2 ⟨rfl, rfl, rfl⟩
  simp [Leaves, settle, results, Try.results29, go_sem, g0, g1, g2]
  exact ⟨w1, hQ, (((Step.refl (· = w.heap.size) w1).setCell ⟨w.heap.size, 0, none⟩ _ (fun _ => rfl)).setCell ⟨w.heap.size, 1, none⟩ _ (fun _ => rfl)).setCell ⟨w.heap.size, 2, none⟩ _ (fun _ => rfl)⟩

set_option maxHeartbeats 400000 in
theorem read_nil (v : Value) (w : World) :
    Calls Try.prog 29 #[v, .nilFunc] w fun e w' => e = .returned (.agg #[.int .i64 0, .int .i64 0, .int .i64 0]) ∧ Step (fun _ => False) w w' := by
  have hfe : ∀ (w : World), (binOp .eql 68 .nilFunc .nilFunc).run Try.prog w = .ok (.bool true) w := fun _ => by kernel_rfl
  go_enter_defers Try.func29, Try.ntmps29
  go_wp2
  simp [bodyPostD, Leaves, results, Try.results29, go_sem]
  exact (Step.refl _ w).alloc _

/- A reader of nothing, or a nil one. -/
def NoToks (w : World) (v : Value) : Prop := v = .pointer none ∨ ∃ b, v = .pointer (some ⟨b, 0, none⟩) ∧ w.heap[b]? = some (.cells #[.slice none 0 0, .int .i64 0, .int .i64 0] 90 (0, 0))
theorem NoToks.step {w w' : World} {v : Value} (h : NoToks w v) (hs : Step (fun _ => False) w w') : NoToks w' v := by
  rcases h with h | ⟨b, h, hb⟩
  · exact .inl h
  · exact .inr ⟨b, h, hs.keep hb (fun h => h)⟩

set_option maxHeartbeats 400000 in
theorem peek_none (v : Value) (w : World) (h : NoToks w v) :
    Calls Try.prog 37 #[v] w fun e w' => e = .returned (.agg #[.int .i64 0, .string ⟨#[]⟩, .int .i64 0, .int .i64 0, .int .u64 0]) ∧ Step (fun _ => False) w w' := by
  rcases h with rfl | ⟨b, rfl, hb⟩
  · go_enter Try.func37, Try.ntmps37
    go_wp2
    refine bodyPost_ret (v := .agg #[.int .i64 0, .string ⟨#[]⟩, .int .i64 0, .int .i64 0, .int .u64 0]) (by simp [results, Try.results37, go_sem]) rfl ⟨rfl, ?_⟩
    exact (Step.refl _ w).alloc _
  · obtain ⟨⟨c0, c1, c2⟩, k0, k1, k2⟩ := blk3 hb
    have hlt := blk_lt hb
    go_enter Try.func37, Try.ntmps37
    go_wp2
    refine bodyPost_ret (v := .agg #[.int .i64 0, .string ⟨#[]⟩, .int .i64 0, .int .i64 0, .int .u64 0]) (by simp [results, Try.results37, go_sem]) rfl ⟨rfl, ?_⟩
    exact (Step.refl _ w).alloc _

set_option maxHeartbeats 400000 in
theorem next_none (v : Value) (w : World) (h : NoToks w v) :
    Calls Try.prog 31 #[v] w fun e w' => e = .returned (.agg #[.int .i64 0, .string ⟨#[]⟩, .int .i64 0, .int .i64 0, .int .u64 0]) ∧ Step (fun _ => False) w w' := by
  have H := Lib.hid h
  clear h
  go_enter Try.func31, Try.ntmps31
  go_wp2_with fail
  refine (peek_none v _ (H.out.step ((Step.refl _ w).alloc _))).mono ?_
  rintro e w1 ⟨rfl, h1⟩
  obtain ⟨⟨d0, d1, d2, d3, d4⟩, e0, e1, e2, e3, e4⟩ := blk5 (h1.keep (blk_new w _) (fun h => h))
  have hz : w.heap.size < w1.heap.size := by have := h1.size; simp at this; omega
  go_wp2
  refine bodyPost_ret (v := .agg #[.int .i64 0, .string ⟨#[]⟩, .int .i64 0, .int .i64 0, .int .u64 0]) (by simp [results, Try.results31, go_sem, d0, d1, d2, d3, d4, hz]) rfl ⟨rfl, ?_⟩
  have hs : Step (fun _ => False) w w1 := ((Step.refl _ w).alloc _).trans h1
  exact (hs.five (Nat.le_refl _)).alloc _

set_option maxRecDepth 100000 in
set_option maxHeartbeats 400000 in
theorem at_none (v : Value) (w : World) (h : NoToks w v) :
    Calls Try.prog 33 #[v] w fun e w' => e = .returned (.agg #[.int .i64 0, .int .i64 0]) ∧ Step (fun _ => False) w w' := by
  have H := Lib.hid h
  clear h
  have hfd : ∀ (a0 a1 a2 a3 a4 : Value) (w : World), (Instr.field 58 (.agg #[a0, a1, a2, a3, a4]) 2).run Try.prog w = .ok (.agg #[a2, a3]) w := fun _ _ _ _ _ _ => by kernel_rfl
  go_enter Try.func33, Try.ntmps33
  go_wp2_with fail
  refine (peek_none v _ (H.out.step ((Step.refl _ w).alloc _))).mono ?_
  rintro e w1 ⟨rfl, h1⟩
  obtain ⟨⟨d0, d1⟩, e0, e1⟩ := blk2 (h1.keep (blk_new w _) (fun h => h))
  go_wp2
  refine bodyPost_ret (v := .agg #[.int .i64 0, .int .i64 0]) (by simp [results, Try.results33, go_sem, d0, d1]) rfl ⟨rfl, ?_⟩
  have hs : Step (fun _ => False) w w1 := ((Step.refl _ w).alloc _).trans h1
  exact (hs.setCell _ _ (fun hl => absurd hl (Nat.lt_irrefl _))).setCell _ _ (fun hl => absurd hl (Nat.lt_irrefl _))

set_option maxHeartbeats 400000 in
theorem fail_none (v : Value) (c : Nat) (w : World) (h : NoToks w v) :
    Calls Try.prog 48 #[v, .int .i64 c] w fun e w' => e = .panicked [{ v := .iface 88 (.agg #[.int .i64 c, .int .i64 0, .int .i64 0]), recovered := false }] ∧ Step (fun _ => False) w w' := by
  have H := Lib.hid h
  clear h
  go_enter Try.func48, Try.ntmps48
  go_wp2_with fail
  refine (at_none v _ H.out).mono ?_
  rintro e w1 ⟨rfl, h1⟩
  go_wp2
  exact ⟨rfl, rfl, h1⟩

set_option maxRecDepth 100000 in
set_option maxHeartbeats 400000 in
theorem sees_none (v : Value) (t : ByteArray) (w : World) (h : NoToks w v) :
    Calls Try.prog 38 #[v, .string t] w fun e w' => e = .returned (.bool false) ∧ Step (fun _ => False) w w' := by
  have H := Lib.hid h
  clear h
  rcases Nat.eq_zero_or_pos t.size with h0 | hpos
  · have ht : t = ⟨#[]⟩ := by
      apply str_ext
      rw [Lib.size_eq] at h0
      exact List.length_eq_zero_iff.1 h0
    subst ht
    clear h0
    go_enter Try.func38, Try.ntmps38
    go_wp2_with fail
    refine (peek_none v _ H.out).mono ?_
    rintro e w1 ⟨rfl, h1⟩
    go_wp2
    go_ret
    exact ⟨rfl, h1.alloc _⟩
  · have he := toList_ne t hpos
    have he' := isEmpty_no t hpos
    have he2 : (([] : List UInt8) == t.toList) = false := by
      cases e : t.toList with
      | nil => exact absurd e he
      | cons a l => rfl
    go_enter Try.func38, Try.ntmps38
    go_wp2_with fail
    refine (peek_none v _ H.out).mono ?_
    rintro e w1 ⟨rfl, h1⟩
    go_wp2
    go_ret
    exact ⟨rfl, h1.alloc _⟩

set_option maxHeartbeats 400000 in
theorem is_none (v : Value) (t : ByteArray) (w : World) (h : NoToks w v) :
    Calls Try.prog 32 #[v, .string t] w fun e w' => e = .returned (.bool false) ∧ Step (fun _ => False) w w' := by
  have H := Lib.hid h
  clear h
  go_enter Try.func32, Try.ntmps32
  go_wp2_with fail
  refine (sees_none v t _ H.out).mono ?_
  rintro e w1 ⟨rfl, h1⟩
  go_wp2
  go_ret
  exact ⟨rfl, h1⟩

set_option maxRecDepth 100000 in
set_option maxHeartbeats 400000 in
theorem name_none (v : Value) (w : World) (h : NoToks w v) :
    Calls Try.prog 35 #[v] w fun e w' => e = .panicked [{ v := .iface 88 (.agg #[.int .i64 1, .int .i64 0, .int .i64 0]), recovered := false }] ∧ Step (fun _ => False) w w' := by
  have H := Lib.hid h
  clear h
  go_enter Try.func35, Try.ntmps35
  go_wp2_with fail
  refine (peek_none v _ H.out).mono ?_
  rintro e w1 ⟨rfl, h1⟩
  go_wp2_with fail
  refine (fail_none v 1 _ ((H.out.step h1).step ((Step.refl _ w1).alloc _))).mono ?_
  rintro e w2 ⟨rfl, h2⟩
  exact ⟨rfl, rfl, (h1.alloc _).trans h2⟩

set_option maxHeartbeats 400000 in
theorem deep_nilfn (b : Nat) (w : World) :
    Calls Try.prog 34 #[.pointer (some ⟨b, 0, none⟩), .nilFunc] w fun e w' => e = .returned (.tuple #[]) ∧ w = w' := by
  have hfe : ∀ (w : World), (binOp .eql 1 .nilFunc .nilFunc).run Try.prog w = .ok (.bool true) w := fun _ => by kernel_rfl
  go_enter Try.func34, Try.ntmps34
  go_wp2
  refine bodyPost_ret (results_none rfl _ _ _) rfl ?_
  exact ⟨rfl, rfl⟩
set_option maxHeartbeats 400000 in
theorem deep_nil (v : Value) (w : World) :
    Calls Try.prog 34 #[.pointer none, v] w fun e w' => e = .returned (.tuple #[]) ∧ w = w' := by
  go_enter Try.func34, Try.ntmps34
  go_wp2
  refine bodyPost_ret (results_none rfl _ _ _) rfl ?_
  exact ⟨rfl, rfl⟩

/- The function that LexNils hands to Read: it counts once, then gives up. -/
set_option maxRecDepth 100000 in
set_option maxHeartbeats 400000 in
theorem nils1_any (b tb sb : Nat) (t : ByteArray) (w : World) (hb : w.heap[b]? = some (.cells #[.slice none 0 0, .int .i64 0, .int .i64 0] 90 (0, 0)))
    (ht : w.heap[tb]? = some (.cells #[.string t] 9 (0, 0))) (hs : w.heap[sb]? = some (.cells #[.int .i64 0] 3 (0, 0))) (hbs : b ≠ sb) (_hts : tb ≠ sb) :
    Calls Try.prog 30 #[.pointer (some ⟨b, 0, none⟩), .pointer (some ⟨tb, 0, none⟩), .pointer (some ⟨sb, 0, none⟩)] w fun e w' =>
      e = .panicked [{ v := .iface 88 (.agg #[.int .i64 1, .int .i64 0, .int .i64 0]), recovered := false }] ∧ w'.heap[sb]? = some (.cells #[.int .i64 1] 3 (0, 0)) ∧ Step (· = sb) w w' := by
  have H : NoToks w (.pointer (some ⟨b, 0, none⟩)) := .inr ⟨b, rfl, hb⟩
  go_enter Try.func30, Try.ntmps30
  go_wp2_with fail
  refine (next_none _ _ H).mono ?_
  rintro e w1 ⟨rfl, h1⟩
  have H1 := H.step h1
  have ht1 := h1.keep ht (fun h => h)
  have c1 := blk_cell ht1 0 _ rfl
  go_wp2_with fail
  refine (is_none _ t _ H1).mono ?_
  rintro e w2 ⟨rfl, h2⟩
  have H2 := H1.step h2
  go_wp2_with fail
  refine (at_none _ _ H2).mono ?_
  rintro e w3 ⟨rfl, h3⟩
  have hs3 := h3.keep (h2.keep (h1.keep hs (fun h => h)) (fun h => h)) (fun h => h)
  have s3 := blk_cell hs3 0 _ rfl
  have f3 := blk_free hs3 0
  have hb3 := h3.keep (h2.keep (h1.keep hb (fun h => h)) (fun h => h)) (fun h => h)
  go_wp2_with fail
  refine (deep_nilfn b _).mono ?_
  rintro e w4 ⟨rfl, rfl⟩
  have hb4 : (w3.setCell ⟨sb, 0, none⟩ (.int .i64 1)).heap[b]? = some (.cells #[.slice none 0 0, .int .i64 0, .int .i64 0] 90 (0, 0)) := by
    rw [Below.heap_setCell _ _ _ _ hbs]; exact hb3
  go_wp2_with fail
  refine (name_none _ _ (.inr ⟨b, rfl, hb4⟩)).mono ?_
  rintro e w5 ⟨rfl, h5⟩
  exact ⟨rfl, rfl, h5.keep (blk_set hs3 0 _) (fun h => h), (Step.setCell (S := (· = sb)) (((h1.trans h2).trans h3).mono (fun _ _ h => h.elim)) ⟨sb, 0, none⟩ _ (fun _ => rfl)).trans (h5.mono (fun _ _ h => h.elim))⟩

theorem enters_nils1 : Enters 30 := fun xs w => by go_simp
theorem enters_nils2 : Enters 36 := fun xs w => by go_simp

theorem read_nils (tb sb : Nat) (t : ByteArray) (w : World) (ht : w.heap[tb]? = some (.cells #[.string t] 9 (0, 0))) (hs : w.heap[sb]? = some (.cells #[.int .i64 0] 3 (0, 0))) (hts : tb ≠ sb) :
    Calls Try.prog 29 #[.slice none 0 0, .func (.func 30) #[] #[.pointer (some ⟨tb, 0, none⟩), .pointer (some ⟨sb, 0, none⟩)]] w fun e w' =>
      e = .returned (.agg #[.int .i64 1, .int .i64 0, .int .i64 0]) ∧ w'.heap[sb]? = some (.cells #[.int .i64 1] 3 (0, 0)) ∧ Step (· = sb) w w' := by
  have hsl := blk_lt hs
  have htl := blk_lt ht
  refine (read_fail none 0 0 30 [.pointer (some ⟨tb, 0, none⟩), .pointer (some ⟨sb, 0, none⟩)] w 1 0 0 (fun w' => w'.heap[sb]? = some (.cells #[.int .i64 1] 3 (0, 0)) ∧ Step (· = sb) w w') enters_nils1 ?_).mono ?_
  · refine (nils1_any (w.heap.size + 1) tb sb t _ (blk_new2 _ _ _) (blk_alloc (blk_alloc ht)) (blk_alloc (blk_alloc hs)) (by omega) hts).mono ?_
    rintro e w1 ⟨rfl, h1, h2⟩
    exact ⟨rfl, h2.keep (blk_alloc (blk_new w _)) (by omega), h1, (((Step.refl (· = sb) w).alloc _).alloc _).trans h2⟩
  · rintro e w2 ⟨rfl, w1, ⟨h1, h2⟩, h3⟩
    refine ⟨rfl, h3.keep h1 (by omega), ?_⟩
    exact h2.then h3 (fun i hi hT => by omega)

set_option maxRecDepth 100000 in
set_option maxHeartbeats 400000 in
theorem lexNils_any (t : ByteArray) (w : World) (m : Int) (hm : w.cell? ⟨0, 0, none⟩ = some (.int .i64 m)) :
    Calls Try.prog 8 #[.string t] w fun e w' => e = .returned (.bool true) ∧ Step (fun _ => False) w w' := by
  have hmf : ∀ (fn : Fn) (first cap : Array Value) (w : World), (Instr.makeFunc fn first cap).run Try.prog w = .ok (.func fn first cap) w := fun _ _ _ _ => rfl
  have hw0 : 0 < w.heap.size := World.block_lt_of_cell? w _ hm
  go_enter Try.func8, Try.ntmps8
  go_wp2_with fail
  refine (read_nils w.heap.size (w.heap.size + 1) t _ (blk_alloc (blk_new w _)) (blk_new2 w _ _) (by omega)).mono ?_
  rintro e w1 ⟨rfl, hsb, h1⟩
  have h1w : Step (fun _ => False) w w1 := (((Step.refl (fun _ => False) w).alloc _).alloc _).then (h1.mono (T := (· = w.heap.size + 1)) (fun _ _ h => h)) (fun i hi hT => by omega)
  have ht1 := h1.keep (blk_alloc (blk_new w _)) (by omega)
  have hm1 := h1w.cell hm (fun h => h)
  go_wp2_with fail
  refine (deep_nil _ _).mono ?_
  rintro e w' ⟨rfl, rfl⟩
  go_wp2_with fail
  refine (cut_any _ m (cell_alloc hm1)).mono ?_
  rintro e w2 ⟨rfl, h2⟩
  obtain ⟨⟨g0, g1, g2⟩, k0, k1, k2⟩ := blk3 (h2.keep (blk_new w1 _) (fun h => h))
  have s2 := blk_cell (h2.keep (blk_alloc hsb) (fun h => h)) 0 _ rfl
  have ht2 := h2.keep (blk_alloc ht1) (fun h => h)
  go_wp2_with fail
  refine (peek_none _ _ (.inl rfl)).mono ?_
  rintro e w3 ⟨rfl, h3⟩
  go_wp2_with fail
  refine (next_none _ _ (.inl rfl)).mono ?_
  rintro e w4 ⟨rfl, h4⟩
  have t4 := blk_cell (h4.keep (h3.keep ht2 (fun h => h)) (fun h => h)) 0 _ rfl
  go_wp2_with fail
  refine (sees_none _ t _ (.inl rfl)).mono ?_
  rintro e w5 ⟨rfl, h5⟩
  go_wp2_with fail
  refine (at_none _ _ (.inl rfl)).mono ?_
  rintro e w6 ⟨rfl, h6⟩
  go_wp2_with fail
  refine (read_nil _ _).mono ?_
  rintro e w7 ⟨rfl, h7⟩
  go_wp2
  go_ret
  exact ⟨rfl, ((((((h1w.alloc _).trans h2).trans h3).trans h4).trans h5).trans h6).trans h7⟩

end Go.Proofs.Ytfjkkfdpeckccaa
