/- Contracts: the printer of types: lists of one type; Box and reference. -/
import Derived.Test.YtfjkkfdpeckccaaTreeJ
namespace Go.Proofs.Ytfjkkfdpeckccaa
open Go.RowKit

def Enters1 (k : Nat) : Prop := ∀ (xs : Array Value) (w : World), Sem.run Try.prog (callFunc k xs) w = .ok (.enter k xs) w

set_option maxRecDepth 100000 in
set_option maxHeartbeats 400000 in
theorem list_one (pp p1 p2 : Value) (w : World) (R : World → Prop) (hen : Enters1 89)
    (h : Calls Try.prog 89 #[.int .i64 0, p1, p2] w fun e w' => e = .returned (.tuple #[]) ∧ R w') :
    Calls Try.prog 81 #[pp, .int .i64 1, .func (.func 89) #[] #[p1, p2]] w fun e w' => e = .returned (.tuple #[]) ∧ R w' := by
  have HB := Lib.hid h
  unfold Enters1 at hen
  clear h
  go_enter Try.func81, Try.ntmps81
  go_wp2_with fail
  go_loopg [6, 8] 2 (fun g _ s8 wr => (s8 = .int .i64 0 ∧ wr = w ∧ 2 ≤ g) ∨ (s8 = .int .i64 1 ∧ R wr))
  case atStart => exact .inl ⟨rfl, rfl, Nat.le_refl _⟩
  case round =>
    rcases hrel with ⟨rfl, rfl, hg⟩ | ⟨rfl, hR⟩
    · go_wp2_with fail
      refine HB.out.mono ?_
      rintro e w1 ⟨rfl, hR⟩
      go_wp2
      go_roundg (gk - 1)
      case rel => exact .inr ⟨by go_num, hR⟩
      case measure => omega
    · go_wp2
      go_end0
      exact ⟨rfl, hR⟩

set_option maxRecDepth 100000 in
set_option maxHeartbeats 1000000 in
theorem eachOne (M B base pb b1 b2 : Nat) (t : Ty) (toks : List ByteArray) (u : Value) (xs : List Value) (w : World) (v : Value) (l : List ByteArray) (h : TypOK M B base pb t toks) (ht : TysAt w B [t] xs) (hr : Row w B u 1 xs) (hg : Prt w base pb v l) (hl : l.length ≤ M)
    (h1 : w.heap[b1]? = some (.cells #[.func (.func 49) #[.pointer (some ⟨pb, 0, none⟩)] #[]] 95 (0, 0))) (h2 : w.heap[b2]? = some (.cells #[u] 69 (0, 0))) (hk1 : ¬ Turns pb v b1) (hk2 : ¬ Turns pb v b2) (hB : B ≤ pb) (hab : pb < base) :
    Calls Try.prog 89 #[.int .i64 0, .pointer (some ⟨b1, 0, none⟩), .pointer (some ⟨b2, 0, none⟩)] w (PutPost base pb v w (l ++ toks)) := by
  have d1 : w.cell? ⟨b1, 0, none⟩ = some (.func (.func 49) #[.pointer (some ⟨pb, 0, none⟩)] #[]) := blk_cell h1 0 _ rfl
  have d2 : w.cell? ⟨b2, 0, none⟩ = some u := blk_cell h2 0 _ rfl
  obtain ⟨a, c, rfl, hc, hcm, -, hrr⟩ := hr
  obtain ⟨g, o, rfl, hgB, hgw, hcell⟩ := hrr (by omega)
  obtain ⟨cs, hat, f⟩ := TysAt.cells (i := 0) ht rfl hcell
  have HAT := Lib.hid hat
  have HG := Lib.hid hg
  have HT := Lib.hid h
  obtain ⟨k1, name1, life1, m1, lifes1, args1, l1, c1⟩ := t
  rw [TyAt] at hat
  obtain ⟨vl1, va1, xs1, rfl, -⟩ := hat
  simp only [Nat.zero_mul, Nat.add_zero] at f
  have f0 := f 0 _ rfl
  have f1 := f 1 _ rfl
  have f2 := f 2 _ rfl
  have f3 := f 3 _ rfl
  have f4 := f 4 _ rfl
  have f5 := f 5 _ rfl
  have f6 := f 6 _ rfl
  have f7 := f 7 _ rfl
  rw [Nat.add_zero] at f0
  have STD : Step (fun _ => False) w w.drew := (Step.refl _ _).drew
  clear h1 h2 hrr ht f hcell h hg
  go_enter Try.func89, Try.ntmps89
  go_wp2
  have hkg : ¬ Turns pb v g := Prt.old HG.out hB hab g hgB
  go_region_held3 (fun X => X.cell? ⟨b1, 0, none⟩ = some (.func (.func 49) #[.pointer (some ⟨pb, 0, none⟩)] #[]) ∧ X.cell? ⟨b2, 0, none⟩ = some (.slice (some ⟨g, o, none⟩) 1 c) ∧ X.cell? ⟨g, o, none⟩ = some (.int .i64 k1) ∧ X.cell? ⟨g, o + 1, none⟩ = some (.string name1) ∧ X.cell? ⟨g, o + 2, none⟩ = some (.string life1) ∧ X.cell? ⟨g, o + 3, none⟩ = some (.bool m1) ∧ X.cell? ⟨g, o + 4, none⟩ = some vl1 ∧ X.cell? ⟨g, o + 5, none⟩ = some va1 ∧ X.cell? ⟨g, o + 6, none⟩ = some (.int .i64 l1) ∧ X.cell? ⟨g, o + 7, none⟩ = some (.int .i64 c1))
    (first | exact ⟨d1, d2, f0, f1, f2, f3, f4, f5, f6, f7⟩ | exact ⟨hst3.cell d1 hk1, hst3.cell d2 hk2, hst3.cell f0 hkg, hst3.cell f1 hkg, hst3.cell f2 hkg, hst3.cell f3 hkg, hst3.cell f4 hkg, hst3.cell f5 hkg, hst3.cell f6 hkg, hst3.cell f7 hkg⟩)
    (first
      | (go_at_call 49
         refine (HT.out _ w.drew v l (TyAt.step STD (fun _ _ h => h) _ _ HAT.out) (HG.out.step STD) hl).mono ?_
         rintro e w3 ⟨rfl, v3, hg3, hc3⟩
         have HG3 := Lib.hid hg3
         have HC3 := Lib.hid hc3
         have hst3 : Step (Turns pb v) w.drew w3 := hc3.step
         clear hg3 hc3))
  go_wp2
  go_end0
  exact ⟨rfl, v3, HG3.out, Carry.pre (STD.mono (fun _ _ h => h.elim)) HC3.out⟩

set_option maxRecDepth 100000 in
set_option maxHeartbeats 1000000 in
theorem each_one (M B base pb : Nat) (t : Ty) (toks : List ByteArray) (u : Value) (xs : List Value) (w : World) (v : Value) (l : List ByteArray) (h : TypOK M B base pb t toks) (ht : TysAt w B [t] xs) (hr : Row w B u 1 xs) (hg : Prt w base pb v l) (hl : l.length ≤ M) (hB : B ≤ pb) (hab : pb < base) (hen : Enters1 89) :
    Calls Try.prog 80 #[.pointer (some ⟨pb, 0, none⟩), u, .func (.func 49) #[.pointer (some ⟨pb, 0, none⟩)] #[]] w (PutPost base pb v w (l ++ toks)) := by
  have hst : Step (fun _ => False) w ((w.alloc (.cells #[u] 69)).alloc (.cells #[.func (.func 49) #[.pointer (some ⟨pb, 0, none⟩)] #[]] 95)) := ((Step.refl _ _).alloc _).alloc _
  have HOK := Lib.hid (eachOne M B base pb (w.heap.size + 1) w.heap.size t toks u xs _ v l h (TysAt.step hst (fun _ _ h => h) _ _ ht) (hr.step hst (fun _ _ h => h)) (hg.step hst) hl (blk_new2 _ _ _) (blk_alloc (blk_new _ _)) (hg.new _ (by omega)) (hg.new _ (Nat.le_refl _)) hB hab)
  have HR := Lib.hid hr
  obtain ⟨a, c, rfl, hc, hcm, -, hrr⟩ := hr
  have hmf : ∀ (fn : Fn) (first cap : Array Value) (w : World), (Instr.makeFunc fn first cap).run Try.prog w = .ok (.func fn first cap) w := fun _ _ _ _ => rfl
  clear h ht hrr hg
  go_enter Try.func80, Try.ntmps80
  go_wp2_with fail
  refine (list_one _ _ _ _ (fun w' => ∃ v', Prt w' base pb v' (l ++ toks) ∧ Carry pb v ((w.alloc (.cells #[.slice a 1 c] 69)).alloc (.cells #[.func (.func 49) #[.pointer (some ⟨pb, 0, none⟩)] #[]] 95)) v' w') hen HOK.out).mono ?_
  rintro e w3 ⟨rfl, v3, hg3, hc3⟩
  have HG3 := Lib.hid hg3
  have HC3 := Lib.hid hc3
  clear hg3 hc3
  go_wp2
  go_end0
  exact ⟨rfl, v3, HG3.out, Carry.pre (hst.mono (fun _ _ h => h.elim)) HC3.out⟩

set_option maxRecDepth 100000 in
set_option maxHeartbeats 1000000 in
theorem types_one (M B base pb : Nat) (t : Ty) (toks : List ByteArray) (u : Value) (xs : List Value) (w : World) (v : Value) (l : List ByteArray) (h : TypOK M B base pb t toks) (ht : TysAt w B [t] xs) (hr : Row w B u 1 xs) (hg : Prt w base pb v l) (hl : l.length ≤ M) (hB : B ≤ pb) (hab : pb < base) (hen : Enters1 89) :
    Calls Try.prog 67 #[.pointer (some ⟨pb, 0, none⟩), u] w (PutPost base pb v w (l ++ toks)) := by
  have HOK := Lib.hid (each_one M B base pb t toks u xs w v l h ht hr hg hl hB hab hen)
  have hmf : ∀ (fn : Fn) (first cap : Array Value) (w : World), (Instr.makeFunc fn first cap).run Try.prog w = .ok (.func fn first cap) w := fun _ _ _ _ => rfl
  clear h ht hr hg
  go_enter Try.func67, Try.ntmps67
  go_wp2_with fail
  refine HOK.out.mono ?_
  rintro e w3 ⟨rfl, v3, hg3, hc3⟩
  have HG3 := Lib.hid hg3
  have HC3 := Lib.hid hc3
  clear hg3 hc3
  go_wp2
  go_end0
  exact ⟨rfl, v3, HG3.out, HC3.out⟩

end Go.Proofs.Ytfjkkfdpeckccaa
