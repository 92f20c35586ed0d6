/- Contracts of the reader: what it gives up with is caught; Read. -/
import Derived.Test.YtfjkkfdpeckccaaLexW
namespace Go.Proofs.Ytfjkkfdpeckccaa
open Go.RowKit

set_option maxRecDepth 100000 in
set_option maxHeartbeats 400000 in
theorem catch_panicking (b : Nat) (c ln col : Int) (v0 v1 v2 : Value) (older : List PanicEntry) (w : World) (hc : w.heap[b]? = some (.cells #[v0, v1, v2] 44 (0, 0))) :
    CallsD Try.prog 47 #[.pointer (some ⟨b, 0, none⟩)] (.panicking ({ v := .iface 88 (.agg #[.int .i64 c, .int .i64 ln, .int .i64 col]), recovered := false } :: older)) w fun e u' w' =>
      e = .returned (.tuple #[]) ∧ u' = .panicking ({ v := .iface 88 (.agg #[.int .i64 c, .int .i64 ln, .int .i64 col]), recovered := true } :: older) ∧ w'.heap[b]? = some (.cells #[.int .i64 c, .int .i64 ln, .int .i64 col] 44 (0, 0)) ∧ Step (· = b) w w' := by
  refine callsD_of_wpS Try.func47 rfl fun c₀ cs hu => ?_
  obtain ⟨⟨g0, g1, g2⟩, k0, k1, k2⟩ := blk3 hc
  have hlt : b < w.heap.size := blk_lt hc
  apply wpS_seq
  apply wpS_region
  have hta : ∀ (x : Value) (w : World), (Instr.typeAssert (.iface 88 x) 20 88 true).run Try.prog w = .ok (.tuple #[x, .bool true]) w := fun _ _ => by kernel_rfl
  simp [wpOpsS, go_sem, recoverD, hu, Try.ntmps47, Exit.thenS]
  refine wpS_of_wp ?_
  simp only [Array.replicate_succ, Array.replicate_zero, List.push_toArray, List.append_toArray, List.nil_append, List.cons_append, List.setIfInBounds_toArray, List.set_cons_zero, List.set_cons_succ]
  go_wp2
  refine ⟨rfl, _, rfl, .tuple #[], by simp [results, Try.results47, go_sem], rfl, rfl, ?_, ?_⟩
  · have := blk_set (blk_set (blk_set hc 0 (.int .i64 c)) 1 (.int .i64 ln)) 2 (.int .i64 col)
    exact blk_alloc this
  · exact ((((Step.refl (· = b) w).setCell ⟨b, 0, none⟩ _ (fun _ => rfl)).setCell ⟨b, 1, none⟩ _ (fun _ => rfl)).setCell ⟨b, 2, none⟩ _ (fun _ => rfl)).alloc _

set_option maxRecDepth 100000 in
set_option maxHeartbeats 400000 in
theorem catch_idle (b : Nat) (w : World) :
    CallsD Try.prog 47 #[.pointer (some ⟨b, 0, none⟩)] .returning w fun e u' w' => e = .returned (.tuple #[]) ∧ u' = .returning ∧ w' = w := by
  refine callsD_of_wpS Try.func47 rfl fun c₀ cs hu => ?_
  apply wpS_seq
  apply wpS_region
  simp [wpOpsS, go_sem, recoverD, hu, Try.ntmps47, Exit.thenS]
  refine wpS_of_wp ?_
  simp only [Array.replicate_succ, Array.replicate_zero, List.push_toArray, List.append_toArray, List.nil_append, List.cons_append, List.setIfInBounds_toArray, List.set_cons_zero, List.set_cons_succ]
  go_wp2
  cases c₀
  simp_all [bodyPostS, results, Try.results47, go_sem]

/- A function that is called where its value says so. -/
def Enters (k : Nat) : Prop := ∀ (xs : Array Value) (w : World), Sem.run Try.prog (callFunc k xs) w = .ok (.enter k xs) w

/- The world in which a reader begins. -/
def readW (w : World) (lv : Value) : World := (w.alloc (.cells #[.int .i64 0, .int .i64 0, .int .i64 0] 44)).alloc (.cells #[lv, .int .i64 0, .int .i64 0] 90)

set_option maxRecDepth 100000 in
set_option maxHeartbeats 400000 in
theorem read_fail (a : Option Addr) (n cap k : Nat) (caps : List Value) (w : World) (c ln col : Nat) (Q : World → Prop) (hk : Enters k)
    (hby : Calls Try.prog k (.pointer (some ⟨w.heap.size + 1, 0, none⟩) :: caps).toArray (readW w (.slice a n cap)) fun e w' =>
      e = .panicked [{ v := .iface 88 (.agg #[.int .i64 c, .int .i64 ln, .int .i64 col]), recovered := false }] ∧ (w'.heap[w.heap.size]? = some (.cells #[.int .i64 0, .int .i64 0, .int .i64 0] 44 (0, 0))) ∧ Q w') :
    Calls Try.prog 29 #[.slice a n cap, .func (.func k) #[] caps.toArray] w fun e w' =>
      e = .returned (.agg #[.int .i64 c, .int .i64 ln, .int .i64 col]) ∧ ∃ w1, Q w1 ∧ Step (· = w.heap.size) w1 w' := by
  have hmf : ∀ (fn : Fn) (first cap : Array Value) (w : World), (Instr.makeFunc fn first cap).run Try.prog w = .ok (.func fn first cap) w := fun _ _ _ _ => rfl
  have hfe : ∀ (fn : Fn) (x y : Array Value) (w : World), (binOp .eql 68 (.func fn x y) .nilFunc).run Try.prog w = .ok (.bool false) w := fun _ _ _ _ => by kernel_rfl
  have hen : Enters k := hk
  unfold Enters at hen
  have HB := Lib.hid hby
  clear hby hk
  go_enter_defers Try.func29, Try.ntmps29
  go_wp2_with fail
  refine HB.out.mono ?_
  rintro e w1 ⟨rfl, hE, hQ⟩
  refine leaves_cons (f := 47) (args := #[.pointer (some ⟨w.heap.size, 0, none⟩)]) (by simp) (by simp [go_sem]) ?_
  refine (catch_panicking w.heap.size c ln col _ _ _ [] w1 hE).mono ?_
  rintro e u' w2 ⟨rfl, rfl, hE2, hst⟩
  obtain ⟨⟨g0, g1, g2⟩, _⟩ := blk3 hE2
  simp [Leaves, settle, results, Try.results29, go_sem, g0, g1, g2]
  exact ⟨w1, hQ, hst⟩

end Go.Proofs.Ytfjkkfdpeckccaa
