/- Contracts: Walk, WalkAll. -/
import Derived.Test.YtfjkkfdpeckccaaTreeE
namespace Go.Proofs.Ytfjkkfdpeckccaa
open Go.RowKit

def Enters' (k : Nat) : Prop := ∀ (xs : Array Value) (w : World), Sem.run Try.prog (callFunc k xs) w = .ok (.enter k xs) w

def seeV (kf ab : Nat) : Value := .func (.func kf) #[] #[.pointer (some ⟨ab, 0, none⟩)]
def WalkE (kf B base ab n : Nat) : Prop := ∀ (e : Ex) (cs : List Value) (w : World) (v : Value) (ks : List Int), SizeOf.sizeOf e < n → ExAt w B e cs → Gath w base ab v ks → ks.length + (seenE e).length ≤ 4000000 →
  Calls Try.prog 12 #[.agg cs.toArray, .func (.func kf) #[] #[.pointer (some ⟨ab, 0, none⟩)]] w (WalkPost base ab v w (ks ++ seenE e))
def WalkS (kf B base ab n : Nat) : Prop := ∀ (l : List St) (u : Value) (xs : List Value) (w : World) (v : Value) (ks : List Int), SizeOf.sizeOf l < n → StsAt w B l xs → Row w B u l.length xs → Gath w base ab v ks → ks.length + (seenS l).length ≤ 4000000 →
  Calls Try.prog 14 #[u, .func (.func kf) #[] #[.pointer (some ⟨ab, 0, none⟩)]] w (WalkPost base ab v w (ks ++ seenS l))

set_option maxRecDepth 100000 in
set_option maxHeartbeats 2000000 in
theorem walkE_succ (kf B base ab n : Nat) (hen : Enters' kf) (hsee : Sees kf B base ab) (hB : B ≤ ab) (hab : ab < base) (ihE : WalkE kf B base ab n) (ihS : WalkS kf B base ab n) : WalkE kf B base ab (n + 1) := by
  intro e cs w v ks hn h hg hks
  have HX := Lib.hid h
  obtain ⟨k, name, val, m, args, names, body, l, c⟩ := e
  rw [ExAt] at h
  obtain ⟨va, vn, vb, xa, xb, rfl, -, -, ha, hra, -, hb, hrb⟩ := h
  have ST0 : Step (fun _ => False) w (w.alloc (.cells #[.int .i64 k, .string name, .int .u64 val, .bool m, va, vn, vb, .int .i64 l, .int .i64 c] 29)) := (Step.refl _ _).alloc _
  have HG0 := Lib.hid (hg.step ST0)
  have HL : Hid (¬ Turns ab v w.heap.size) := by
    show ¬ _
    rintro (h | h)
    · have := blk_lt hg.cell; omega
    · have := (hg.lt _ h).2; omega
  have HA := Lib.hid (ExsAt.step ST0 (fun _ _ h => h) args xa ha)
  have HB := Lib.hid (StsAt.step ST0 (fun _ _ h => h) body xb hb)
  have HRB := Lib.hid (hrb.step ST0 (fun _ _ h => h))
  obtain ⟨aa, ca, rfl, hca, hcma, -, hrA⟩ := hra.step ST0 (fun _ _ h => h)
  obtain ⟨ab', cb, hvb, hcb, hcmb, -, -⟩ := hrb
  subst hvb
  have HRA := Lib.hid hrA
  have HG := Lib.hid hg
  have IHE := Lib.hid ihE
  have IHS := Lib.hid ihS
  have HSEE := Lib.hid hsee
  have hsz : Hid (∀ x ∈ args, SizeOf.sizeOf x < n) := by
    intro x hx
    have := List.sizeOf_lt_of_mem hx
    simp at hn
    omega
  have hszb : Hid (SizeOf.sizeOf body < n) := by
    show _ < _
    simp at hn
    omega
  have hseen : Hid (seenE (.mk k name val m args names body l c) = seenEs args ++ (seenS body ++ [k])) := by show _ = _; rw [seenE]
  have hks' := hks
  rw [hseen.out] at hks'
  simp only [List.length_append, List.length_singleton] at hks'
  unfold Enters' at hen
  have hmf : (binOp .eql 35 (.func (.func kf) #[] #[.pointer (some ⟨ab, 0, none⟩)]) .nilFunc).run Try.prog (w.alloc (.cells #[.int .i64 k, .string name, .int .u64 val, .bool m, .slice aa args.length ca, vn, .slice ab' body.length cb, .int .i64 l, .int .i64 c] 29)) = .ok (.bool false) (w.alloc (.cells #[.int .i64 k, .string name, .int .u64 val, .bool m, .slice aa args.length ca, vn, .slice ab' body.length cb, .int .i64 l, .int .i64 c] 29)) := by kernel_rfl
  clear ha hra hb hrA hg ihE ihS hsee hn hks
  go_enter Try.func12, Try.ntmps12
  go_wp2_with fail
  go_loopg [5, 11] args.length (fun gg _ s11 wr => ∃ (i : Nat) (v' : Value), s11 = .int .i64 i ∧ i ≤ args.length ∧ args.length - i ≤ gg ∧ Gath wr base ab v' (ks ++ seenEs (args.take i)) ∧
    Carry ab v (w.alloc (.cells #[.int .i64 k, .string name, .int .u64 val, .bool m, .slice aa args.length ca, vn, .slice ab' body.length cb, .int .i64 l, .int .i64 c] 29)) v' wr)
  case atStart => exact ⟨0, v, rfl, Nat.zero_le _, by omega, by simpa [seenEs] using HG0.out, Carry.refl _ _ _⟩
  case round =>
    obtain ⟨i, v1, rfl, hi, hgg, hg1, hc1⟩ := hrel
    by_cases hlt : i < args.length
    · obtain ⟨x, hx⟩ : ∃ x, args[i]? = some x := ⟨args[i], List.getElem?_eq_getElem hlt⟩
      obtain ⟨g, o, rfl, hgb, hgw, hcell⟩ := HRA.out (by omega)
      obtain ⟨cs, hat, f⟩ := ExsAt.cells (HA.out.carry hc1 HG0.out hB hab) hx (fun i x hx => hc1.step.cell (hcell i x hx) (Carry.old HG0.out hB hab g hgb))
      have HXM := Lib.hid (hsz.out x (List.mem_of_getElem? hx))
      have HTK := Lib.hid (seenEs_take args i x hx)
      have HLE := Lib.hid (seenEs_le args (i + 1))
      have HAT := Lib.hid hat
      obtain ⟨k1, name1, v2, m1, args1, names1, body1, l1, c1⟩ := x
      rw [ExAt] at hat
      obtain ⟨va1, vn1, vb1, xa1, xb1, rfl, -, -, -, ⟨a5, c5, rfl, -⟩, ⟨a6, c6, rfl, -⟩, -, ⟨a7, c7, rfl, -⟩⟩ := hat
      have f0 := f 0 _ rfl
      have f1 := f 1 _ rfl
      have f2 := f 2 _ rfl
      have f3 := f 3 _ rfl
      have f4 := f 4 _ rfl
      have f5 := f 5 _ rfl
      have f6 := f 6 _ rfl
      have f7 := f 7 _ rfl
      have f8 := f 8 _ rfl
      rw [Nat.add_zero] at f0
      have HG1 := Lib.hid hg1
      have HC1 := Lib.hid hc1
      clear f hcell hx hg1 hc1
      go_wp2_with fail
      have st2 : Step (fun _ => False) wr (wr.alloc (.cells #[.int .i64 k1, .string name1, .int .u64 v2, .bool m1, .slice a5 args1.length c5, .slice a6 names1.length c6, .slice a7 body1.length c7, .int .i64 l1, .int .i64 c1] 29)) := (Step.refl _ _).alloc _
      have hln := HLE.out
      rw [HTK.out, List.length_append] at hln
      refine (IHE.out _ _ _ v1 (ks ++ seenEs (args.take i)) HXM.out (ExAt.step st2 (fun _ _ h => h) _ _ HAT.out) (HG1.out.step st2) (by rw [List.length_append]; omega)).mono ?_
      rintro e w3 ⟨rfl, v3, hg3, hc3⟩
      have HG3 := Lib.hid hg3
      have HC3 : Hid (Carry ab v1 wr v3 w3) := Carry.pre (st2.mono (fun _ _ h => h.elim)) hc3
      clear hg3 hc3
      go_wp2
      go_roundg (gk - 1)
      case rel =>
        refine ⟨i + 1, v3, by go_num, by omega, by omega, ?_, HC1.out.trans HC3.out⟩
        rw [HTK.out, ← List.append_assoc]; exact HG3.out
      case measure => omega
    · have htk : args.take i = args := List.take_of_length_le (by omega)
      rw [htk] at hg1
      have HG1 := Lib.hid hg1
      have HC1 := Lib.hid hc1
      have hblk := hc1.step.keep (blk_new w _) HL.out
      have c6 : wr.cell? ⟨w.heap.size, 6, none⟩ = some (.slice ab' body.length cb) := blk_cell hblk 6 _ rfl
      have HBLK := Lib.hid hblk
      clear hg1 hc1 htk hblk
      go_wp2_with fail
      refine (IHS.out body _ xb wr v1 (ks ++ seenEs args) hszb.out (HB.out.carry HC1.out HG0.out hB hab) (HRB.out.carry HC1.out HG0.out hB hab) HG1.out (by rw [List.length_append]; omega)).mono ?_
      rintro e w3 ⟨rfl, v3, hg3, hc3⟩
      have HG3 := Lib.hid hg3
      have HC3 := Lib.hid (HC1.out.trans hc3)
      clear hg3 hc3 c6
      have hblk := HC3.out.step.keep (blk_new w _) HL.out
      have e0 : w3.cell? ⟨w.heap.size, 0, none⟩ = some (.int .i64 k) := blk_cell hblk 0 _ rfl
      have e1 : w3.cell? ⟨w.heap.size, 1, none⟩ = some (.string name) := blk_cell hblk 1 _ rfl
      have e2 : w3.cell? ⟨w.heap.size, 2, none⟩ = some (.int .u64 val) := blk_cell hblk 2 _ rfl
      have e3 : w3.cell? ⟨w.heap.size, 3, none⟩ = some (.bool m) := blk_cell hblk 3 _ rfl
      have e4 : w3.cell? ⟨w.heap.size, 4, none⟩ = some (.slice aa args.length ca) := blk_cell hblk 4 _ rfl
      have e5 : w3.cell? ⟨w.heap.size, 5, none⟩ = some vn := blk_cell hblk 5 _ rfl
      have e6 : w3.cell? ⟨w.heap.size, 6, none⟩ = some (.slice ab' body.length cb) := blk_cell hblk 6 _ rfl
      have e7 : w3.cell? ⟨w.heap.size, 7, none⟩ = some (.int .i64 l) := blk_cell hblk 7 _ rfl
      have e8 : w3.cell? ⟨w.heap.size, 8, none⟩ = some (.int .i64 c) := blk_cell hblk 8 _ rfl
      clear hblk
      have HE : Hid (ExAt w3 B (.mk k name val m args names body l c) [.int .i64 k, .string name, .int .u64 val, .bool m, .slice aa args.length ca, vn, .slice ab' body.length cb, .int .i64 l, .int .i64 c]) :=
        ExAt.carry (ExAt.step ST0 (fun _ _ h => h) _ _ HX.out) HC3.out HG0.out hB hab
      go_wp2_with fail
      refine (HSEE.out _ _ w3 v3 _ k HE.out HG3.out hab (by simp only [List.length_append]; omega) rfl).mono ?_
      rintro e w4 ⟨rfl, v4, hg4, hc4⟩
      have HG4 := Lib.hid hg4
      have HC4 := Lib.hid hc4
      clear hg4 hc4 e0 e1 e2 e3 e4 e5 e6 e7 e8
      go_wp2
      go_end0
      refine ⟨rfl, v4, ?_, Carry.pre (ST0.mono (fun _ _ h => h.elim)) (HC3.out.trans HC4.out)⟩
      rw [hseen.out, ← List.append_assoc, ← List.append_assoc]; exact HG4.out

end Go.Proofs.Ytfjkkfdpeckccaa
