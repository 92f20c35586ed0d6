/- Pb, TyA, TyB, Own, AppB, RelyD -/
import Derived.Test.YtppekkbaoimpgaaPkB
set_option maxRecDepth 100000
set_option maxHeartbeats 8000000
namespace Go.Proofs.Ytppekkbaoimpgaa
open Go.RowKit
/- What is answered of what was read: it, the reader behind it; or it gives up. -/
def PPost {α : Type} (R : Rdr) (d : Nat) (At : World → α → Value → Prop) (r : Res α) (w : World) (e : Ending) (w' : World) : Prop :=
 match r with
 | .ok a j => (∃ v, e = .returned v ∧ At w' a v) ∧ RdAt R w' j d ∧ Step (· = R.rb) w w'
 | .err c ln col => e = .panicked [{ v := .iface 89 (.agg #[.int .i64 c, .int .i64 ln, .int .i64 col]), recovered := false }] ∧ Step (· = R.rb) w w'
 | .out => True
def UnitV (_ : World) (_ : Unit) (v : Value) : Prop := v = .tuple #[]
def StrV (_ : World) (s : ByteArray) (v : Value) : Prop := v = .string s
theorem tokA_get {l : List Tok} {i : Nat} (h : i < l.length) : l[i]? = some (tokA l i) := by
 rw [tokA, List.getD_eq_getElem?_getD, List.getElem?_eq_getElem h]; rfl
theorem RdAt.tok {R : Rdr} {w : World} {i d : Nat} (h : RdAt R w i d) : R.l[i]? = some (tokA R.l i) := tokA_get h.lt
theorem needR_out {l : List Tok} {i : Nat} {s : List UInt8} (h : needR l i s = .out) : False := by unfold needR at h; split at h <;> cases h
theorem nameR_out {l : List Tok} {i : Nat} (h : nameR l i = .out) : False := by unfold nameR at h; split at h <;> cases h
theorem lifeR_out {l : List Tok} {i : Nat} (h : lifeR l i = .out) : False := by unfold lifeR at h; split at h <;> cases h
theorem roomR_out {n m : Nat} {l : List Tok} {i : Nat} (h : roomR n m l i = .out) : False := by unfold roomR at h; split at h <;> cases h
theorem is_any (R : Rdr) (hl : LOk R.l) (s : ByteArray) (w : World) (i d : Nat) (h : RdAt R w i d) (hs : s.size ≤ 100000) :
  Calls Try.prog 36 #[.pointer (some ⟨R.rb, 0, none⟩), .string s] w fun e w' => e = .returned (.bool (isF R.l i s.data.toList)) ∧ RdAt R w' (takeI R.l i s.data.toList) d ∧ Step (· = R.rb) w w' :=
 is_at R hl s w i d _ h h.tok hs
theorem is_yes (R : Rdr) (hl : LOk R.l) (s : ByteArray) (w : World) (i d : Nat) (h : RdAt R w i d) (hs : s.size ≤ 100000) (hb : isF R.l i s.data.toList = true) :
  Calls Try.prog 36 #[.pointer (some ⟨R.rb, 0, none⟩), .string s] w fun e w' => e = .returned (.bool true) ∧ RdAt R w' (i + 1) d ∧ Step (· = R.rb) w w' := by
 have h1 := is_any R hl s w i d h hs
 unfold takeI at h1
 rw [hb, if_pos rfl] at h1
 exact h1
theorem is_no (R : Rdr) (hl : LOk R.l) (s : ByteArray) (w : World) (i d : Nat) (h : RdAt R w i d) (hs : s.size ≤ 100000) (hb : isF R.l i s.data.toList = false) :
  Calls Try.prog 36 #[.pointer (some ⟨R.rb, 0, none⟩), .string s] w fun e w' => e = .returned (.bool false) ∧ RdAt R w' i d ∧ Step (· = R.rb) w w' := by
 have h1 := is_any R hl s w i d h hs
 unfold takeI at h1
 rw [hb, if_neg (by decide)] at h1
 exact h1
theorem sees_any (R : Rdr) (s : ByteArray) (w : World) (i d : Nat) (h : RdAt R w i d) (hs : s.size ≤ 100000) (b : Bool) (hb : isF R.l i s.data.toList = b) :
  Calls Try.prog 54 #[.pointer (some ⟨R.rb, 0, none⟩), .string s] w fun e w' => e = .returned (.bool b) ∧ Step (fun _ => False) w w' := by
 rw [← hb]; exact sees_at R s w i d _ h h.tok hs
theorem need_any (R : Rdr) (hl : LOk R.l) (g : Nat) (s : ByteArray) (w : World) (i d : Nat) (h : RdAt R w i d) (hs : s.size ≤ 100000) (hg : w.cell? ⟨g, 0, none⟩ = some (.string s)) :
  Calls Try.prog 40 #[.pointer (some ⟨R.rb, 0, none⟩), .slice (some ⟨g, 0, none⟩) 1 1] w (PPost R d UnitV (needR R.l i s.data.toList) w) :=
 (need_at R hl g s w i d _ h h.tok hs hg).mono fun e w' hp => by
  unfold NeedPost at hp
  unfold needR isF
  split at hp
  ·rename_i hh
   rw [if_pos hh]
   exact ⟨⟨_, hp.1.1, rfl⟩, hp.1.2, hp.2⟩
  ·rename_i hh
   rw [if_neg hh]
   exact hp
theorem name_any (R : Rdr) (hl : LOk R.l) (w : World) (i d : Nat) (h : RdAt R w i d) :
  Calls Try.prog 38 #[.pointer (some ⟨R.rb, 0, none⟩)] w (PPost R d StrV (nameR R.l i) w) :=
 (name_at R hl w i d _ h h.tok).mono fun e w' hp => by
  unfold NamePost at hp
  unfold nameR
  split at hp
  ·rename_i hh
   rw [if_pos hh]
   exact ⟨⟨_, hp.1.1, rfl⟩, hp.1.2, hp.2⟩
  ·rename_i hh
   rw [if_neg hh]
   exact hp
theorem room_any (R : Rdr) (w : World) (n m i d : Nat) (h : RdAt R w i d) :
  Calls Try.prog 28 #[.agg #[.pointer (some ⟨R.rb, 0, none⟩)], .int .i64 n, .int .i64 m] w (PPost R d UnitV (roomR n m R.l i) w) := by
 have H := Lib.hid h
 have HT := Lib.hid h.tok
 clear h
 by_cases hh : m ≤ n
 ·have hr : roomR n m R.l i = failR 2 R.l i := by unfold roomR; rw [if_pos hh]
  have HR := Lib.hid hr
  have e1 : decide (m ≤ n) = true := decide_eq_true hh
  clear hr hh
  go_enter Try.func28, Try.ntmps28
  go_wp2_with fail
  refine (fail_at R 2 _ i d _ (H.out.quiet ((Step.refl _ _).alloc _)) HT.out).mono ?_
  rintro e w1 ⟨rfl, h1⟩
  refine ⟨rfl, ?_⟩
  rw [HR.out]
  exact ⟨rfl, (((Step.refl _ _).alloc _).trans h1).mono (fun _ _ h => h.elim)⟩
 ·have hr : roomR n m R.l i = .ok () i := by unfold roomR; rw [if_neg hh]
  have HR := Lib.hid hr
  have e1 : decide (m ≤ n) = false := decide_eq_false hh
  clear hr hh
  go_enter Try.func28, Try.ntmps28
  go_wp2_with fail
  refine bodyPost_end (results_none rfl _ _ _) rfl ?_
  rw [HR.out]
  exact ⟨⟨_, rfl, rfl⟩, H.out.quiet ((Step.refl _ _).alloc _), (Step.refl _ _).alloc _⟩
theorem life_any (R : Rdr) (hl : LOk R.l) (w : World) (i d : Nat) (h : RdAt R w i d) :
  Calls Try.prog 59 #[.agg #[.pointer (some ⟨R.rb, 0, none⟩)]] w (PPost R d StrV (lifeR R.l i) w) := by
 obtain ⟨t, ht⟩ : ∃ t, t = tokA R.l i := ⟨_, rfl⟩
 have HT := Lib.hid h.tok
 have HTE := Lib.hid ht
 rw [← ht] at HT
 obtain ⟨w1, hw1⟩ : ∃ w1 : World, w1 = w.alloc (.cells #[.pointer (some ⟨R.rb, 0, none⟩)] 45) := ⟨_, rfl⟩
 have HS1 : Hid (Step (fun _ => False) w w1) := by show Step _ _ _; rw [hw1]; exact (Step.refl _ _).alloc _
 have HB1 : Hid (w1.heap[w.heap.size]? = some (.cells #[.pointer (some ⟨R.rb, 0, none⟩)] 45 (0, 0))) := by show _ = _; rw [hw1]; exact blk_new _ _
 have HW1 := Lib.hid hw1
 have H1 := Lib.hid (h.quiet HS1.out)
 have HL := Lib.hid hl
 have hfd0 : ∀ (a0 a1 a2 a3 a4 : Value) (w : World), (Instr.field 73 (.agg #[a0, a1, a2, a3, a4]) 0).run Try.prog w = .ok a0 w := fun _ _ _ _ _ _ => by kernel_rfl
 have hfd1 : ∀ (a0 a1 a2 a3 a4 : Value) (w : World), (Instr.field 73 (.agg #[a0, a1, a2, a3, a4]) 1).run Try.prog w = .ok a1 w := fun _ _ _ _ _ _ => by kernel_rfl
 have k0 : w1.cell? ⟨w.heap.size, 0, none⟩ = some (.pointer (some ⟨R.rb, 0, none⟩)) := blk_cell HB1.out 0 _ rfl
 have HX : Hid ((toB t.text) = ⟨t.text.toArray⟩) := rfl
 clear h hw1 hl ht
 by_cases hk : t.kind = 2
 ·have e1 : ((t.kind : Int) != 2) = false := by rw [bne, kindN t.kind 2 2 rfl, hk]; rfl
  have HR : Hid (lifeR R.l i = .ok (toB t.text) (i + 1)) := by show _ = _; unfold lifeR; rw [← HTE.out, if_pos hk]
  have hk0 : t.kind ≠ 0 := by omega
  have HK0 := Lib.hid hk0
  clear hk hk0
  go_enter Try.func59, Try.ntmps59
  go_upto_region 1 with fail
  rw [← HW1.out]
  go_wp2_with fail
  refine (peek_at R _ i d t H1.out HT.out).mono ?_
  rintro e w2 ⟨rfl, h2⟩
  have H2 := Lib.hid (H1.out.quiet h2)
  have HS2 := Lib.hid (HS1.out.trans h2)
  have k0' : w2.cell? ⟨w.heap.size, 0, none⟩ = some (.pointer (some ⟨R.rb, 0, none⟩)) := h2.cell k0 (fun h => h)
  clear h2 k0
  go_wp2_with fail
  refine (next_at R HL.out _ i d t H2.out HT.out HK0.out).mono ?_
  rintro e w3 ⟨rfl, hr, h3⟩
  have H3 := Lib.hid hr
  have HS3 := Lib.hid h3
  clear k0' hr h3
  go_wp2_with fail
  go_ret
  rw [HR.out]
  exact ⟨⟨_, rfl, rfl⟩, H3.out, (HS2.out.mono (fun _ _ h => h.elim)).trans HS3.out⟩
 ·have e1 : ((t.kind : Int) != 2) = true := by rw [bne, kindN t.kind 2 2 rfl, beq_eq_false_iff_ne.2 hk]; rfl
  have HR : Hid (lifeR R.l i = failR 1 R.l i) := by show _ = _; unfold lifeR; rw [← HTE.out, if_neg hk]
  clear hk
  go_enter Try.func59, Try.ntmps59
  go_upto_region 1 with fail
  rw [← HW1.out]
  go_wp2_with fail
  refine (peek_at R _ i d t H1.out HT.out).mono ?_
  rintro e w2 ⟨rfl, h2⟩
  have H2 := Lib.hid (H1.out.quiet h2)
  have HS2 := Lib.hid (HS1.out.trans h2)
  have k0' : w2.cell? ⟨w.heap.size, 0, none⟩ = some (.pointer (some ⟨R.rb, 0, none⟩)) := h2.cell k0 (fun h => h)
  clear h2 k0
  go_wp2_with fail
  refine (fail_at R 1 _ i d t H2.out HT.out).mono ?_
  rintro e w3 ⟨rfl, h3⟩
  refine ⟨rfl, ?_⟩
  rw [HR.out]
  unfold failR
  rw [← HTE.out]
  exact ⟨rfl, (HS2.out.trans h3).mono (fun _ _ h => h.elim)⟩
theorem opt_any (R : Rdr) (hl : LOk R.l) (w : World) (i d : Nat) (h : RdAt R w i d) :
  Calls Try.prog 77 #[.agg #[.pointer (some ⟨R.rb, 0, none⟩)]] w fun e w' => e = .returned (.string (optF R.l i)) ∧ RdAt R w' (optI R.l i) d ∧ Step (· = R.rb) w w' := by
 obtain ⟨t, ht⟩ : ∃ t, t = tokA R.l i := ⟨_, rfl⟩
 have HT := Lib.hid h.tok
 have HTE := Lib.hid ht
 rw [← ht] at HT
 obtain ⟨w1, hw1⟩ : ∃ w1 : World, w1 = w.alloc (.cells #[.pointer (some ⟨R.rb, 0, none⟩)] 45) := ⟨_, rfl⟩
 have HS1 : Hid (Step (fun _ => False) w w1) := by show Step _ _ _; rw [hw1]; exact (Step.refl _ _).alloc _
 have HB1 : Hid (w1.heap[w.heap.size]? = some (.cells #[.pointer (some ⟨R.rb, 0, none⟩)] 45 (0, 0))) := by show _ = _; rw [hw1]; exact blk_new _ _
 have HW1 := Lib.hid hw1
 have H1 := Lib.hid (h.quiet HS1.out)
 have HL := Lib.hid hl
 have hfd0 : ∀ (a0 a1 a2 a3 a4 : Value) (w : World), (Instr.field 73 (.agg #[a0, a1, a2, a3, a4]) 0).run Try.prog w = .ok a0 w := fun _ _ _ _ _ _ => by kernel_rfl
 have hfd1 : ∀ (a0 a1 a2 a3 a4 : Value) (w : World), (Instr.field 73 (.agg #[a0, a1, a2, a3, a4]) 1).run Try.prog w = .ok a1 w := fun _ _ _ _ _ _ => by kernel_rfl
 have k0 : w1.cell? ⟨w.heap.size, 0, none⟩ = some (.pointer (some ⟨R.rb, 0, none⟩)) := blk_cell HB1.out 0 _ rfl
 clear h hw1 hl ht
 by_cases hk : t.kind = 2
 ·have e1 : ((t.kind : Int) != 2) = false := by rw [bne, kindN t.kind 2 2 rfl, hk]; rfl
  have HO : Hid (optF R.l i = ⟨t.text.toArray⟩ ∧ optI R.l i = i + 1) := by show _ ∧ _; unfold optF optI; rw [← HTE.out, if_pos hk, if_pos hk]; exact ⟨rfl, rfl⟩
  have hk0 : t.kind ≠ 0 := by omega
  have HK0 := Lib.hid hk0
  clear hk hk0
  go_enter Try.func77, Try.ntmps77
  go_upto_region 1 with fail
  rw [← HW1.out]
  go_wp2_with fail
  refine (peek_at R _ i d t H1.out HT.out).mono ?_
  rintro e w2 ⟨rfl, h2⟩
  have H2 := Lib.hid (H1.out.quiet h2)
  have HS2 := Lib.hid (HS1.out.trans h2)
  have k0' : w2.cell? ⟨w.heap.size, 0, none⟩ = some (.pointer (some ⟨R.rb, 0, none⟩)) := h2.cell k0 (fun h => h)
  clear h2 k0
  go_wp2_with fail
  refine (next_at R HL.out _ i d t H2.out HT.out HK0.out).mono ?_
  rintro e w3 ⟨rfl, hr, h3⟩
  have H3 := Lib.hid hr
  have HS3 := Lib.hid h3
  clear k0' hr h3
  go_wp2_with fail
  go_ret
  exact ⟨by rw [HO.out.1]; rfl, by rw [HO.out.2]; exact H3.out, (HS2.out.mono (fun _ _ h => h.elim)).trans HS3.out⟩
 ·have e1 : ((t.kind : Int) != 2) = true := by rw [bne, kindN t.kind 2 2 rfl, beq_eq_false_iff_ne.2 hk]; rfl
  have HO : Hid (optF R.l i = ⟨#[]⟩ ∧ optI R.l i = i) := by show _ ∧ _; unfold optF optI; rw [← HTE.out, if_neg hk, if_neg hk]; exact ⟨rfl, rfl⟩
  clear hk
  go_enter Try.func77, Try.ntmps77
  go_upto_region 1 with fail
  rw [← HW1.out]
  go_wp2_with fail
  refine (peek_at R _ i d t H1.out HT.out).mono ?_
  rintro e w2 ⟨rfl, h2⟩
  have H2 := Lib.hid (H1.out.quiet h2)
  have HS2 := Lib.hid (HS1.out.trans h2)
  clear h2 k0
  go_wp2_with fail
  go_ret
  exact ⟨by rw [HO.out.1]; rfl, by rw [HO.out.2]; exact H2.out, HS2.out.mono (fun _ _ h => h.elim)⟩
def typB (f : Nat) (l : List Tok) (i d : Nat) : Res Ty :=
 if isF l i [105, 110, 116] then .ok (.mk 1 noB noB false [] [] (tokA l i).line (tokA l i).col) (i + 1)
 else if isF l i [98, 111, 111, 108] then .ok (.mk 2 noB noB false [] [] (tokA l i).line (tokA l i).col) (i + 1)
 else if isF l i [102, 54, 52] then .ok (.mk 3 noB noB false [] [] (tokA l i).line (tokA l i).col) (i + 1)
 else if isF l i [40] then (needR l (i + 1) [41]).bind fun _ j => .ok (.mk 4 noB noB false [] [] (tokA l i).line (tokA l i).col) j
 else if isF l i [66, 111, 120] then (needR l (i + 1) [60]).bind fun _ j => (typR f l j d).bind fun a j => (needR l j [62]).bind fun _ j => .ok (.mk 6 noB noB false [] [a] (tokA l i).line (tokA l i).col) j
 else if isF l i [38] then (typR f l (takeI l (optI l (i + 1)) [109, 117, 116]) d).bind fun a j => .ok (.mk 7 noB (optF l (i + 1)) (isF l (optI l (i + 1)) [109, 117, 116]) [] [a] (tokA l i).line (tokA l i).col) j
 else if isF l i [100, 121, 110] then (nameR l (i + 1)).bind fun n j => if isF l j [43] then (lifeR l (j + 1)).bind fun x j => .ok (.mk 8 n x false [] [] (tokA l i).line (tokA l i).col) j else .ok (.mk 8 n noB false [] [] (tokA l i).line (tokA l i).col) j
 else (nameR l i).bind fun n j => if isF l j [60] then (argsR f l (j + 1) d [] []).bind fun p j => .ok (.mk 5 n noB false p.1 p.2 (tokA l i).line (tokA l i).col) j else .ok (.mk 5 n noB false [] [] (tokA l i).line (tokA l i).col) j
theorem typR_succ (f : Nat) (l : List Tok) (i d : Nat) : typR (f + 1) l i d = if d = 40 then failR 2 l i else typB f l i (d + 1) := by
 rw [typR]; rfl
def TyV (n0 : Nat) (w' : World) (a : Ty) (v : Value) : Prop := ∃ cs : List Value, v = .agg cs.toArray ∧ TyP w' (fun k => n0 ≤ k) a cs
def TypOk (f : Nat) : Prop := ∀ (R : Rdr) (w : World) (i d : Nat), LOk R.l → RdAt R w i d → d ≤ 40 → typR f R.l i d ≠ .out →
 Calls Try.prog 60 #[.agg #[.pointer (some ⟨R.rb, 0, none⟩)]] w (PPost R d (TyV w.heap.size) (typR f R.l i d) w)
def argsF (f : Nat) (l : List Tok) (i d : Nat) : Res (List ByteArray × List Ty) := if isF l i [60] then argsR f l (i + 1) d [] [] else .ok ([], []) i
def ArgV (w w' : World) (bt : Nat) (k : Int) (nm : ByteArray) (t : Tok) (p : List ByteArray × List Ty) : Prop :=
 ∃ vl va xs, w'.heap[bt]? = some (.cells #[.int .i64 k, .string nm, .string noB, .bool false, vl, va, .int .i64 t.line, .int .i64 t.col] 54 (0, 0)) ∧ (∀ s ∈ p.1, s.size ≤ 9223372036854775807) ∧ RowP w' (fun k => w.heap.size ≤ k) vl p.1.length (p.1.map .string) ∧ TysP w' (fun k => w.heap.size ≤ k) p.2 xs ∧ RowP w' (fun k => w.heap.size ≤ k) va p.2.length xs
def ArgPost (R : Rdr) (d bt : Nat) (k : Int) (nm : ByteArray) (t : Tok) (r : Res (List ByteArray × List Ty)) (w : World) (e : Ending) (w' : World) : Prop :=
 match r with
 | .ok p j => e = .returned (.tuple #[]) ∧ ArgV w w' bt k nm t p ∧ RdAt R w' j d ∧ Step (fun k => k = R.rb ∨ k = bt) w w'
 | .err c ln col => e = .panicked [{ v := .iface 89 (.agg #[.int .i64 c, .int .i64 ln, .int .i64 col]), recovered := false }] ∧ Step (fun k => k = R.rb ∨ k = bt) w w'
 | .out => True
def ArgsOk (f : Nat) : Prop := ∀ (R : Rdr) (w : World) (i d bt : Nat) (k : Int) (nm : ByteArray) (t : Tok), LOk R.l → RdAt R w i d → d ≤ 40 → R.rb < bt → w.heap[bt]? = some (.cells #[.int .i64 k, .string nm, .string noB, .bool false, .slice none 0 0, .slice none 0 0, .int .i64 t.line, .int .i64 t.col] 54 (0, 0)) → argsF f R.l i d ≠ .out →
 Calls Try.prog 78 #[.agg #[.pointer (some ⟨R.rb, 0, none⟩)], .pointer (some ⟨bt, 0, none⟩)] w (ArgPost R d bt k nm t (argsF f R.l i d) w)
theorem typB_last {f : Nat} {l : List Tok} {i d : Nat} (h0 : isF l i [105, 110, 116] = false) (h1 : isF l i [98, 111, 111, 108] = false) (h2 : isF l i [102, 54, 52] = false) (h3 : isF l i [40] = false) (h4 : isF l i [66, 111, 120] = false) (h5 : isF l i [38] = false) (h6 : isF l i [100, 121, 110] = false) :
  typB f l i d = (nameR l i).bind fun n j => (argsF f l j d).bind fun p j => .ok (.mk 5 n noB false p.1 p.2 (tokA l i).line (tokA l i).col) j := by
 unfold typB
 simp only [h0, h1, h2, h3, h4, h5, h6, Bool.false_eq_true, if_false]
 congr 1
 funext n j
 unfold argsF
 split <;> rfl
/- What typ's closure leaves in t. -/
def TyLeft (n0 bt : Nat) (w' : World) (a : Ty) : Prop := ∃ cs : List Value, w'.heap[bt]? = some (.cells cs.toArray 54 (0, 0)) ∧ TyP w' (fun k => n0 ≤ k) a cs
def CloPost {α : Type} (R : Rdr) (d bt : Nat) (Left : World → α → Prop) (r : Res α) (w : World) (e : Ending) (w' : World) : Prop :=
 match r with
 | .ok a j => e = .returned (.tuple #[]) ∧ Left w' a ∧ RdAt R w' j d ∧ Step (fun k => k = R.rb ∨ k = bt) w w'
 | .err c ln col => e = .panicked [{ v := .iface 89 (.agg #[.int .i64 c, .int .i64 ln, .int .i64 col]), recovered := false }] ∧ Step (fun k => k = R.rb ∨ k = bt) w w'
 | .out => True
theorem CloPost.of_ok {α : Type} {R : Rdr} {d bt : Nat} {Left : World → α → Prop} {r : Res α} {w w' : World} {e : Ending} {a : α} {j : Nat} (hr : r = .ok a j) (he : e = .returned (.tuple #[])) (hl : Left w' a) (h : RdAt R w' j d) (hs : Step (fun k => k = R.rb ∨ k = bt) w w') : CloPost R d bt Left r w e w' := by
 rw [hr]; exact ⟨he, hl, h, hs⟩
theorem CloPost.of_err {α : Type} {R : Rdr} {d bt : Nat} {Left : World → α → Prop} {r : Res α} {w w' : World} {e : Ending} {c ln col : Nat} (hr : r = .err c ln col) (he : e = .panicked [{ v := .iface 89 (.agg #[.int .i64 c, .int .i64 ln, .int .i64 col]), recovered := false }]) (hs : Step (fun k => k = R.rb ∨ k = bt) w w') : CloPost R d bt Left r w e w' := by
 rw [hr]; exact ⟨he, hs⟩
theorem toB_size {l : List UInt8} (h : l.length ≤ 20000) : (toB l).size ≤ 9223372036854775807 := by
 show l.toArray.size ≤ _
 simp; omega
theorem nameR_size {R : Rdr} (hl : LOk R.l) {i j : Nat} {s : ByteArray} (hi : i < R.l.length) (h : nameR R.l i = .ok s j) : s.size ≤ 9223372036854775807 := by
 unfold nameR at h
 split at h
 ·cases h; exact toB_size (hl.text _ (List.mem_of_getElem? (tokA_get hi)))
 ·cases h
theorem lifeR_size {R : Rdr} (hl : LOk R.l) {i j : Nat} {s : ByteArray} (hi : i < R.l.length) (h : lifeR R.l i = .ok s j) : s.size ≤ 9223372036854775807 := by
 unfold lifeR at h
 split at h
 ·cases h; exact toB_size (hl.text _ (List.mem_of_getElem? (tokA_get hi)))
 ·cases h
theorem tok_size {R : Rdr} (hl : LOk R.l) {i : Nat} (hi : i < R.l.length) : (toB (tokA R.l i).text).size ≤ 9223372036854775807 := toB_size (hl.text _ (List.mem_of_getElem? (tokA_get hi)))
theorem typ1_any (R : Rdr) (f : Nat) (ih : TypOk f) (iha : ArgsOk f) (bp bt : Nat) (w : World) (i d : Nat) (t : Tok) (hl : LOk R.l) (h : RdAt R w i d) (hd : d ≤ 40) (hbp : w.heap[bp]? = some (.cells #[.pointer (some ⟨R.rb, 0, none⟩)] 45 (0, 0)))
  (hbt : w.heap[bt]? = some (.cells #[.int .i64 0, .string noB, .string noB, .bool false, .slice none 0 0, .slice none 0 0, .int .i64 t.line, .int .i64 t.col] 54 (0, 0))) (hb1 : R.rb < bp) (hb2 : bp < bt) (ht : t = tokA R.l i) (hno : typB f R.l i d ≠ .out) :
  Calls Try.prog 76 #[.pointer (some ⟨bp, 0, none⟩), .pointer (some ⟨bt, 0, none⟩)] w (CloPost R d bt (TyLeft w.heap.size bt) (typB f R.l i d) w) := by
 have HL := Lib.hid hl
 have H0 := Lib.hid h
 have HT := Lib.hid ht
 have IH := Lib.hid ih
 have IHA := Lib.hid iha
 obtain ⟨r, hr⟩ : ∃ r, r = typB f R.l i d := ⟨_, rfl⟩
 have HRR := Lib.hid hr
 rw [← hr] at hno ⊢
 have HNO := Lib.hid hno
 have hil := h.lt
 have hbtl := blk_lt hbt
 have HKB : Hid (∀ X : World, Step (· = R.rb) w X → X.cell? ⟨bp, 0, none⟩ = some (.pointer (some ⟨R.rb, 0, none⟩)) ∧ X.heap[bt]? = some (.cells #[.int .i64 0, .string noB, .string noB, .bool false, .slice none 0 0, .slice none 0 0, .int .i64 t.line, .int .i64 t.col] 54 (0, 0))) := by
  show ∀ X, _
  intro X hX
  exact ⟨blk_cell (hX.keep hbp (by omega)) 0 _ rfl, hX.keep hbt (by omega)⟩
 have HBP : Hid (w.cell? ⟨bp, 0, none⟩ = some (.pointer (some ⟨R.rb, 0, none⟩))) := blk_cell hbp 0 _ rfl
 obtain ⟨p0, -⟩ := HKB.out w (Step.refl _ _)
 clear ih iha hl h hbp hbt hr hno ht
 go_enter Try.func76, Try.ntmps76
 go_wp2_with fail
 cases hb0 : isF R.l i [105, 110, 116] with
 | true =>
  have HB0 := Lib.hid hb0
  clear hb0
  refine (is_yes R HL.out ⟨#[105, 110, 116]⟩ _ i d H0.out (by decide) HB0.out).mono ?_
  rintro e wy ⟨rfl, hry, hsy⟩
  have HRY := Lib.hid hry
  have HSY : Hid (Step (· = R.rb) w wy) := (Step.refl _ _).trans hsy
  clear hry hsy p0
  obtain ⟨p0, hbt⟩ := HKB.out wy HSY.out
  have HBT := Lib.hid hbt
  clear hbt
  have bt0 := blk_cell HBT.out 0 _ rfl
  have bz0 := blk_free HBT.out 0
  go_wp2_with fail
  refine bodyPost_end (results_none rfl _ _ _) rfl ?_
  have hst : Step (· = bt) wy (wy.setCell ⟨bt, 0, none⟩ (.int .i64 1)) := (Step.refl _ _).setCell _ _ (fun _ => rfl)
  refine CloPost.of_ok (a := .mk 1 noB noB false [] [] (tokA R.l i).line (tokA R.l i).col) (j := i + 1) (by rw [HRR.out]; unfold typB; simp only [HB0.out, if_true]) rfl ⟨[.int .i64 1, .string noB, .string noB, .bool false, .slice none 0 0, .slice none 0 0, .int .i64 t.line, .int .i64 t.col], blk_set HBT.out 0 (.int .i64 1), ?_⟩ (HRY.out.step hst (fun k hk e => by omega)) ((HSY.out.mono (fun _ _ e => .inl e)).trans (hst.mono (fun _ _ e => .inr e)))
  rw [TyP, ← HT.out]
  exact ⟨_, _, [], rfl, by decide, by decide, (fun _ h => nomatch h), RowP.nil _ _ _, by rw [TysP], RowP.nil _ _ _⟩
 | false =>
  have HB0 := Lib.hid hb0
  clear hb0
  refine (is_no R HL.out ⟨#[105, 110, 116]⟩ _ i d H0.out (by decide) HB0.out).mono ?_
  rintro e wn0 ⟨rfl, hrn, hsn⟩
  have HRN0 := Lib.hid hrn
  have HSN0 : Hid (Step (· = R.rb) w wn0) := (Step.refl _ _).trans hsn
  clear hrn hsn p0
  obtain ⟨p0, -⟩ := HKB.out wn0 HSN0.out
  go_wp2_with fail
  cases hb1 : isF R.l i [98, 111, 111, 108] with
  | true =>
   have HB1 := Lib.hid hb1
   clear hb1
   refine (is_yes R HL.out ⟨#[98, 111, 111, 108]⟩ _ i d HRN0.out (by decide) HB1.out).mono ?_
   rintro e wy ⟨rfl, hry, hsy⟩
   have HRY := Lib.hid hry
   have HSY : Hid (Step (· = R.rb) w wy) := HSN0.out.trans hsy
   clear hry hsy p0
   obtain ⟨p0, hbt⟩ := HKB.out wy HSY.out
   have HBT := Lib.hid hbt
   clear hbt
   have bt0 := blk_cell HBT.out 0 _ rfl
   have bz0 := blk_free HBT.out 0
   go_wp2_with fail
   refine bodyPost_end (results_none rfl _ _ _) rfl ?_
   have hst : Step (· = bt) wy (wy.setCell ⟨bt, 0, none⟩ (.int .i64 2)) := (Step.refl _ _).setCell _ _ (fun _ => rfl)
   refine CloPost.of_ok (a := .mk 2 noB noB false [] [] (tokA R.l i).line (tokA R.l i).col) (j := i + 1) (by rw [HRR.out]; unfold typB; simp only [HB0.out, HB1.out, Bool.false_eq_true, if_false, if_true]) rfl ⟨[.int .i64 2, .string noB, .string noB, .bool false, .slice none 0 0, .slice none 0 0, .int .i64 t.line, .int .i64 t.col], blk_set HBT.out 0 (.int .i64 2), ?_⟩ (HRY.out.step hst (fun k hk e => by omega)) ((HSY.out.mono (fun _ _ e => .inl e)).trans (hst.mono (fun _ _ e => .inr e)))
   rw [TyP, ← HT.out]
   exact ⟨_, _, [], rfl, by decide, by decide, (fun _ h => nomatch h), RowP.nil _ _ _, by rw [TysP], RowP.nil _ _ _⟩
  | false =>
   have HB1 := Lib.hid hb1
   clear hb1
   refine (is_no R HL.out ⟨#[98, 111, 111, 108]⟩ _ i d HRN0.out (by decide) HB1.out).mono ?_
   rintro e wn1 ⟨rfl, hrn, hsn⟩
   have HRN1 := Lib.hid hrn
   have HSN1 : Hid (Step (· = R.rb) w wn1) := HSN0.out.trans hsn
   clear hrn hsn p0
   obtain ⟨p0, -⟩ := HKB.out wn1 HSN1.out
   go_wp2_with fail
   cases hb2 : isF R.l i [102, 54, 52] with
   | true =>
    have HB2 := Lib.hid hb2
    clear hb2
    refine (is_yes R HL.out ⟨#[102, 54, 52]⟩ _ i d HRN1.out (by decide) HB2.out).mono ?_
    rintro e wy ⟨rfl, hry, hsy⟩
    have HRY := Lib.hid hry
    have HSY : Hid (Step (· = R.rb) w wy) := HSN1.out.trans hsy
    clear hry hsy p0
    obtain ⟨p0, hbt⟩ := HKB.out wy HSY.out
    have HBT := Lib.hid hbt
    clear hbt
    have bt0 := blk_cell HBT.out 0 _ rfl
    have bz0 := blk_free HBT.out 0
    go_wp2_with fail
    refine bodyPost_end (results_none rfl _ _ _) rfl ?_
    have hst : Step (· = bt) wy (wy.setCell ⟨bt, 0, none⟩ (.int .i64 3)) := (Step.refl _ _).setCell _ _ (fun _ => rfl)
    refine CloPost.of_ok (a := .mk 3 noB noB false [] [] (tokA R.l i).line (tokA R.l i).col) (j := i + 1) (by rw [HRR.out]; unfold typB; simp only [HB0.out, HB1.out, HB2.out, Bool.false_eq_true, if_false, if_true]) rfl ⟨[.int .i64 3, .string noB, .string noB, .bool false, .slice none 0 0, .slice none 0 0, .int .i64 t.line, .int .i64 t.col], blk_set HBT.out 0 (.int .i64 3), ?_⟩ (HRY.out.step hst (fun k hk e => by omega)) ((HSY.out.mono (fun _ _ e => .inl e)).trans (hst.mono (fun _ _ e => .inr e)))
    rw [TyP, ← HT.out]
    exact ⟨_, _, [], rfl, by decide, by decide, (fun _ h => nomatch h), RowP.nil _ _ _, by rw [TysP], RowP.nil _ _ _⟩
   | false =>
    have HB2 := Lib.hid hb2
    clear hb2
    refine (is_no R HL.out ⟨#[102, 54, 52]⟩ _ i d HRN1.out (by decide) HB2.out).mono ?_
    rintro e wn2 ⟨rfl, hrn, hsn⟩
    have HRN2 := Lib.hid hrn
    have HSN2 : Hid (Step (· = R.rb) w wn2) := HSN1.out.trans hsn
    clear hrn hsn p0
    obtain ⟨p0, -⟩ := HKB.out wn2 HSN2.out
    go_wp2_with fail
    cases hb3 : isF R.l i [40] with
    | true =>
     have HB3 := Lib.hid hb3
     clear hb3
     refine (is_yes R HL.out ⟨#[40]⟩ _ i d HRN2.out (by decide) HB3.out).mono ?_
     rintro e wy ⟨rfl, hry, hsy⟩
     have HRY := Lib.hid hry
     have HSY : Hid (Step (· = R.rb) w wy) := HSN2.out.trans hsy
     clear hry hsy p0
     obtain ⟨p0, hbt⟩ := HKB.out wy HSY.out
     have HBT := Lib.hid hbt
     clear hbt
     go_wp2_with fail
     cases hn0 : needR R.l (i + 1) [41] with
     | out => exact (needR_out hn0).elim
     | err c ln col =>
      have HN0 := Lib.hid hn0
      clear hn0
      refine (need_any R HL.out wy.heap.size ⟨#[41]⟩ _ (i + 1) d (HRY.out.quiet ((Step.refl _ _).alloc _)) (by decide) (blk_cell (blk_new _ _) 0 _ rfl)).mono ?_
      rintro e wq hp
      have hp2 : PPost R d UnitV (needR R.l (i + 1) [41]) _ e wq := hp
      rw [HN0.out] at hp2
      obtain ⟨rfl, sq⟩ := hp2
      refine ⟨rfl, CloPost.of_err (c := c) (ln := ln) (col := col) (by rw [HRR.out]; unfold typB; simp only [HB0.out, HB1.out, HB2.out, HB3.out, HN0.out, Bool.false_eq_true, if_false, if_true, Res.bind_err]) rfl ?_⟩
      exact ((HSY.out).mono (fun _ _ e => .inl e)).trans ((((Step.refl (· = R.rb) _).alloc _).trans sq).mono (fun _ _ e => .inl e))
     | ok u j0 =>
      have HN0 := Lib.hid hn0
      clear hn0
      refine (need_any R HL.out wy.heap.size ⟨#[41]⟩ _ (i + 1) d (HRY.out.quiet ((Step.refl _ _).alloc _)) (by decide) (blk_cell (blk_new _ _) 0 _ rfl)).mono ?_
      rintro e wq0 hp
      have hp2 : PPost R d UnitV (needR R.l (i + 1) [41]) _ e wq0 := hp
      rw [HN0.out] at hp2
      obtain ⟨⟨v, rfl, rfl⟩, hrq, sq⟩ := hp2
      have HRQ0 := Lib.hid hrq
      have HSQ0 : Hid (Step (· = R.rb) wy wq0) := ((Step.refl (· = R.rb) _).alloc _).trans sq
      clear hrq sq p0 hp
      obtain ⟨p0, hbt⟩ := HKB.out wq0 (HSY.out.trans HSQ0.out)
      have HBT2 := Lib.hid hbt
      have bt0 := blk_cell hbt 0 _ rfl
      have bz0 := blk_free hbt 0
      clear hbt
      go_wp2_with fail
      refine bodyPost_end (results_none rfl _ _ _) rfl ?_
      have hst : Step (· = bt) wq0 (wq0.setCell ⟨bt, 0, none⟩ (.int .i64 4)) := (Step.refl _ _).setCell _ _ (fun _ => rfl)
      refine CloPost.of_ok (a := .mk 4 noB noB false [] [] (tokA R.l i).line (tokA R.l i).col) (j := j0) (by rw [HRR.out]; unfold typB; simp only [HB0.out, HB1.out, HB2.out, HB3.out, HN0.out, Bool.false_eq_true, if_false, if_true, Res.bind_ok]) rfl ⟨[.int .i64 4, .string noB, .string noB, .bool false, .slice none 0 0, .slice none 0 0, .int .i64 t.line, .int .i64 t.col], blk_set HBT2.out 0 (.int .i64 4), ?_⟩ (HRQ0.out.step hst (fun k hk e => by omega)) (((HSY.out.trans HSQ0.out).mono (fun _ _ e => .inl e)).trans (hst.mono (fun _ _ e => .inr e)))
      rw [TyP, ← HT.out]
      exact ⟨_, _, [], rfl, by decide, by decide, (fun _ h => nomatch h), RowP.nil _ _ _, by rw [TysP], RowP.nil _ _ _⟩
    | false =>
     have HB3 := Lib.hid hb3
     clear hb3
     refine (is_no R HL.out ⟨#[40]⟩ _ i d HRN2.out (by decide) HB3.out).mono ?_
     rintro e wn3 ⟨rfl, hrn, hsn⟩
     have HRN3 := Lib.hid hrn
     have HSN3 : Hid (Step (· = R.rb) w wn3) := HSN2.out.trans hsn
     clear hrn hsn p0
     obtain ⟨p0, -⟩ := HKB.out wn3 HSN3.out
     go_wp2_with fail
     cases hb4 : isF R.l i [66, 111, 120] with
     | true =>
      have HB4 := Lib.hid hb4
      clear hb4
      refine (is_yes R HL.out ⟨#[66, 111, 120]⟩ _ i d HRN3.out (by decide) HB4.out).mono ?_
      rintro e wy ⟨rfl, hry, hsy⟩
      have HRY := Lib.hid hry
      have HSY : Hid (Step (· = R.rb) w wy) := HSN3.out.trans hsy
      clear hry hsy p0
      obtain ⟨p0, hbt⟩ := HKB.out wy HSY.out
      have HBT := Lib.hid hbt
      clear hbt
      go_wp2_with fail
      cases hn1 : needR R.l (i + 1) [60] with
      | out => exact (needR_out hn1).elim
      | err c ln col =>
       have HN1 := Lib.hid hn1
       clear hn1
       refine (need_any R HL.out wy.heap.size ⟨#[60]⟩ _ (i + 1) d (HRY.out.quiet ((Step.refl _ _).alloc _)) (by decide) (blk_cell (blk_new _ _) 0 _ rfl)).mono ?_
       rintro e wq hp
       have hp2 : PPost R d UnitV (needR R.l (i + 1) [60]) _ e wq := hp
       rw [HN1.out] at hp2
       obtain ⟨rfl, sq⟩ := hp2
       refine ⟨rfl, CloPost.of_err (c := c) (ln := ln) (col := col) (by rw [HRR.out]; unfold typB; simp only [HB0.out, HB1.out, HB2.out, HB3.out, HB4.out, HN1.out, Bool.false_eq_true, if_false, if_true, Res.bind_err]) rfl ?_⟩
       exact ((HSY.out).mono (fun _ _ e => .inl e)).trans ((((Step.refl (· = R.rb) _).alloc _).trans sq).mono (fun _ _ e => .inl e))
      | ok u j1 =>
       have HN1 := Lib.hid hn1
       clear hn1
       refine (need_any R HL.out wy.heap.size ⟨#[60]⟩ _ (i + 1) d (HRY.out.quiet ((Step.refl _ _).alloc _)) (by decide) (blk_cell (blk_new _ _) 0 _ rfl)).mono ?_
       rintro e wq1 hp
       have hp2 : PPost R d UnitV (needR R.l (i + 1) [60]) _ e wq1 := hp
       rw [HN1.out] at hp2
       obtain ⟨⟨v, rfl, rfl⟩, hrq, sq⟩ := hp2
       have HRQ1 := Lib.hid hrq
       have HSQ1 : Hid (Step (· = R.rb) wy wq1) := ((Step.refl (· = R.rb) _).alloc _).trans sq
       clear hrq sq p0 hp
       obtain ⟨p0, hbt⟩ := HKB.out wq1 (HSY.out.trans HSQ1.out)
       have HSA : Hid (Step (· = R.rb) w wq1) := HSY.out.trans HSQ1.out
       clear hbt
       go_wp2_with fail
       cases hx0 : typR f R.l j1 d with
       | out => exact absurd (by rw [HRR.out]; unfold typB; simp only [HB0.out, HB1.out, HB2.out, HB3.out, HB4.out, HN1.out, (Lib.hid hx0).out, Bool.false_eq_true, if_false, if_true, Res.bind_ok, Res.bind_out]) HNO.out
       | err c ln col =>
        have HX0 := Lib.hid hx0
        clear hx0
        refine (IH.out R _ j1 d HL.out HRQ1.out hd (by rw [HX0.out]; intro h; cases h)).mono ?_
        rintro e wq hp
        rw [HX0.out] at hp
        obtain ⟨rfl, sq⟩ := hp
        refine ⟨rfl, CloPost.of_err (c := c) (ln := ln) (col := col) (by rw [HRR.out]; unfold typB; simp only [HB0.out, HB1.out, HB2.out, HB3.out, HB4.out, HN1.out, HX0.out, Bool.false_eq_true, if_false, if_true, Res.bind_ok, Res.bind_err]) rfl ?_⟩
        exact (HSA.out.mono (fun _ _ e => .inl e)).trans (sq.mono (fun _ _ e => .inl e))
       | ok ty0 jx0 =>
        have HX0 := Lib.hid hx0
        clear hx0
        refine (IH.out R _ j1 d HL.out HRQ1.out hd (by rw [HX0.out]; intro h; cases h)).mono ?_
        rintro e wx0 hp
        rw [HX0.out] at hp
        obtain ⟨⟨v, rfl, cs, rfl, hty⟩, hrx, hsx⟩ := hp
        have HTY0 := Lib.hid hty
        obtain ⟨ty, hty0⟩ : ∃ ty, ty = ty0 := ⟨_, rfl⟩
        have HTE0 := Lib.hid hty0
        obtain ⟨k0, nm0, lf0, mu0, lifes0, args0, l0, c0⟩ := ty0
        rw [TyP] at hty
        obtain ⟨vl0, va0, xs0, rfl, -, -, -, ⟨a1, c1, rfl, -⟩, -, ⟨a2, c2, rfl, -⟩⟩ := hty
        have HRX0 := Lib.hid hrx
        have HSX0 := Lib.hid hsx
        clear hrx hsx hty0
        have HSB : Hid (Step (· = R.rb) w wx0) := HSA.out.trans HSX0.out
        obtain ⟨-, hbt⟩ := HKB.out wx0 HSB.out
        obtain ⟨w3, hw3⟩ : ∃ w3 : World, w3 = wx0.alloc (.cells #[.int .i64 k0, .string nm0, .string lf0, .bool mu0, .slice a1 lifes0.length c1, .slice a2 args0.length c2, .int .i64 l0, .int .i64 c0] 54) := ⟨_, rfl⟩
        have HS3 : Hid (Step (fun _ => False) wx0 w3) := by show Step _ _ _; rw [hw3]; exact (Step.refl _ _).alloc _
        have HK3 : Hid (w3.heap[wx0.heap.size]? = some (.cells #[.int .i64 k0, .string nm0, .string lf0, .bool mu0, .slice a1 lifes0.length c1, .slice a2 args0.length c2, .int .i64 l0, .int .i64 c0] 54 (0, 0))) := by show _ = _; rw [hw3]; exact blk_new _ _
        have hbt3 := HS3.out.keep hbt (fun h => h)
        have HBT3 := Lib.hid hbt3
        have bt0 := blk_cell hbt3 0 _ rfl
        have bz0 := blk_free hbt3 0
        have bt5 := blk_cell hbt3 5 _ rfl
        have bz5 := blk_free hbt3 5
        have p0' : w3.cell? ⟨bp, 0, none⟩ = some (.pointer (some ⟨R.rb, 0, none⟩)) := (HKB.out w3 (HSB.out.trans (HS3.out.mono (fun _ _ h => h.elim)))).1
        have hxz := HSB.out.size
        obtain ⟨w4, hw4⟩ : ∃ w4 : World, w4 = (w3.setCell ⟨bt, 0, none⟩ (.int .i64 6)).setCell ⟨bt, 5, none⟩ (.slice (some ⟨wx0.heap.size, 0, none⟩) 1 1) := ⟨_, rfl⟩
        have HS4 : Hid (Step (· = bt) w3 w4) := by show Step _ _ _; rw [hw4]; exact ((Step.refl (· = bt) _).setCell _ _ (fun _ => rfl)).setCell _ _ (fun _ => rfl)
        have HBT4 : Hid (w4.heap[bt]? = some (.cells #[.int .i64 6, .string noB, .string noB, .bool false, .slice none 0 0, .slice (some ⟨wx0.heap.size, 0, none⟩) 1 1, .int .i64 t.line, .int .i64 t.col] 54 (0, 0))) := by show _ = _; rw [hw4]; exact blk_set (blk_set hbt3 0 (.int .i64 6)) 5 _
        have HK4 := Lib.hid (HS4.out.keep HK3.out (by omega))
        have HS04 : Hid (Step (fun k => k = R.rb ∨ k = bt) w w4) := ((HSB.out.trans (HS3.out.mono (fun _ _ h => h.elim))).mono (fun _ _ e => .inl e)).trans (HS4.out.mono (fun _ _ e => .inr e))
        have HR4 := Lib.hid ((HRX0.out.quiet HS3.out).step HS4.out (fun k hk e => by omega))
        have p0 : w4.cell? ⟨bp, 0, none⟩ = some (.pointer (some ⟨R.rb, 0, none⟩)) := HS4.out.cell p0' (fun e => by have e2 : bp = bt := e; omega)
        rw [hw3] at bt0 bz0 bt5 bz5
        clear hbt hbt3 p0'
        go_upto_region 14 with fail
        rw [← hw3, ← hw4]
        clear bt0 bz0 bt5 bz5 hw3 hw4
        go_wp2_with fail
        cases hn2 : needR R.l jx0 [62] with
        | out => exact (needR_out hn2).elim
        | err c ln col =>
         have HN2 := Lib.hid hn2
         clear hn2
         refine (need_any R HL.out w4.heap.size ⟨#[62]⟩ _ jx0 d (HR4.out.quiet ((Step.refl _ _).alloc _)) (by decide) (blk_cell (blk_new _ _) 0 _ rfl)).mono ?_
         rintro e wq hp
         have hp2 : PPost R d UnitV (needR R.l jx0 [62]) _ e wq := hp
         rw [HN2.out] at hp2
         obtain ⟨rfl, sq⟩ := hp2
         refine ⟨rfl, CloPost.of_err (c := c) (ln := ln) (col := col) (by rw [HRR.out]; unfold typB; simp only [HB0.out, HB1.out, HB2.out, HB3.out, HB4.out, HN1.out, HX0.out, HN2.out, Bool.false_eq_true, if_false, if_true, Res.bind_ok, Res.bind_err]) rfl ?_⟩
         exact (HS04.out).trans ((((Step.refl (· = R.rb) _).alloc _).trans sq).mono (fun _ _ e => .inl e))
        | ok u j2 =>
         have HN2 := Lib.hid hn2
         clear hn2
         refine (need_any R HL.out w4.heap.size ⟨#[62]⟩ _ jx0 d (HR4.out.quiet ((Step.refl _ _).alloc _)) (by decide) (blk_cell (blk_new _ _) 0 _ rfl)).mono ?_
         rintro e wq2 hp
         have hp2 : PPost R d UnitV (needR R.l jx0 [62]) _ e wq2 := hp
         rw [HN2.out] at hp2
         obtain ⟨⟨v, rfl, rfl⟩, hrq, sq⟩ := hp2
         have HRQ2 := Lib.hid hrq
         have HSQ2 : Hid (Step (· = R.rb) w4 wq2) := ((Step.refl (· = R.rb) _).alloc _).trans sq
         clear hrq sq p0 hp
         go_wp2_with fail
         refine bodyPost_end (results_none rfl _ _ _) rfl ?_
         have hsf : Step (· = R.rb) w4 wq2 := HSQ2.out
         refine CloPost.of_ok (a := .mk 6 noB noB false [] [Ty.mk k0 nm0 lf0 mu0 lifes0 args0 l0 c0] (tokA R.l i).line (tokA R.l i).col) (j := j2) (by rw [HRR.out]; unfold typB; simp only [HB0.out, HB1.out, HB2.out, HB3.out, HB4.out, HN1.out, HX0.out, HN2.out, Bool.false_eq_true, if_false, if_true, Res.bind_ok]) rfl ⟨[.int .i64 6, .string noB, .string noB, .bool false, .slice none 0 0, .slice (some ⟨wx0.heap.size, 0, none⟩) 1 1, .int .i64 t.line, .int .i64 t.col], hsf.keep HBT4.out (by omega), ?_⟩ HRQ2.out (HS04.out.trans (hsf.mono (fun _ _ e => .inl e)))
         rw [TyP, ← HT.out]
         have hsx2 : Step (fun k => k = R.rb ∨ k = bt) wx0 wq2 := ((HS3.out.mono (fun _ _ h => h.elim)).trans (HS4.out.mono (fun _ _ e => .inr e))).trans (hsf.mono (fun _ _ e => .inl e))
         refine ⟨_, _, [.int .i64 k0, .string nm0, .string lf0, .bool mu0, .slice a1 lifes0.length c1, .slice a2 args0.length c2, .int .i64 l0, .int .i64 c0], rfl, by decide, by decide, (fun _ h => nomatch h), RowP.nil _ _ _, ?_, RowP.new (hsf.keep HK4.out (by omega)) (by decide) (by omega)⟩
         rw [TysP]
         refine ⟨_, [], (List.append_nil _).symm, TyP.mono (fun k _ hk => ?_) _ _ (TyP.step hsx2 (fun k hk e => ?_) _ _ HTY0.out), by rw [TysP]⟩
         ·have := HSA.out.size; omega
         ·have := HSA.out.size; omega
     | false =>
      have HB4 := Lib.hid hb4
      clear hb4
      refine (is_no R HL.out ⟨#[66, 111, 120]⟩ _ i d HRN3.out (by decide) HB4.out).mono ?_
      rintro e wn4 ⟨rfl, hrn, hsn⟩
      have HRN4 := Lib.hid hrn
      have HSN4 : Hid (Step (· = R.rb) w wn4) := HSN3.out.trans hsn
      clear hrn hsn p0
      obtain ⟨p0, -⟩ := HKB.out wn4 HSN4.out
      go_wp2_with fail
      cases hb5 : isF R.l i [38] with
      | true =>
       have HB5 := Lib.hid hb5
       clear hb5
       refine (is_yes R HL.out ⟨#[38]⟩ _ i d HRN4.out (by decide) HB5.out).mono ?_
       rintro e wy ⟨rfl, hry, hsy⟩
       have HRY := Lib.hid hry
       have HSY : Hid (Step (· = R.rb) w wy) := HSN4.out.trans hsy
       clear hry hsy p0
       obtain ⟨p0, hbt⟩ := HKB.out wy HSY.out
       have HBT := Lib.hid hbt
       clear hbt
       obtain ⟨oj, hoj⟩ : ∃ oj, oj = optI R.l (i + 1) := ⟨_, rfl⟩
       obtain ⟨os, hos⟩ : ∃ os, os = optF R.l (i + 1) := ⟨_, rfl⟩
       obtain ⟨mb, hmb⟩ : ∃ mb, mb = isF R.l oj [109, 117, 116] := ⟨_, rfl⟩
       obtain ⟨mj, hmj⟩ : ∃ mj, mj = takeI R.l oj [109, 117, 116] := ⟨_, rfl⟩
       have hos2 : os.size ≤ 9223372036854775807 := by
        rw [hos]; unfold optF; split
        ·exact tok_size HL.out HRY.out.lt
        ·decide
       have HOS := Lib.hid hos2
       have HOPT : Hid (∀ X, RdAt R X (i + 1) d → Calls Try.prog 77 #[.agg #[.pointer (some ⟨R.rb, 0, none⟩)]] X fun e w' => e = .returned (.string os) ∧ RdAt R w' oj d ∧ Step (· = R.rb) X w') := by
        show ∀ X, _
        intro X hX
        rw [hoj, hos]; exact opt_any R HL.out X (i + 1) d hX
       have HIS : Hid (∀ X, RdAt R X oj d → Calls Try.prog 36 #[.pointer (some ⟨R.rb, 0, none⟩), .string ⟨#[109, 117, 116]⟩] X fun e w' => e = .returned (.bool mb) ∧ RdAt R w' mj d ∧ Step (· = R.rb) X w') := by
        show ∀ X, _
        intro X hX
        rw [hmb, hmj]; exact is_any R HL.out ⟨#[109, 117, 116]⟩ X oj d hX (by decide)
       have HEQ : Hid (r = (typR f R.l mj d).bind fun a j => .ok (.mk 7 noB os mb [] [a] (tokA R.l i).line (tokA R.l i).col) j) := by
        show _ = _
        rw [HRR.out, hmj, hmb, hos, hoj]; unfold typB; simp only [HB0.out, HB1.out, HB2.out, HB3.out, HB4.out, HB5.out, Bool.false_eq_true, if_false, if_true]
       clear hoj hos hmb hmj hos2
       go_upto_region 16 with fail
       go_cut [] (fun wx => RdAt R wx mj d ∧ wx.heap[bt]? = some (.cells #[.int .i64 7, .string noB, .string os, .bool mb, .slice none 0 0, .slice none 0 0, .int .i64 t.line, .int .i64 t.col] 54 (0, 0)) ∧ Step (fun k => k = R.rb ∨ k = bt) w wx)
       case first =>
        first
        | (go_region_law (first
            | (go_simp
               go_at_call 36
               refine (HIS.out _ HRO.out).mono ?_
               rintro e9 w9 ⟨rfl, hr9, hs9⟩
               have HR9 := Lib.hid hr9
               have HS9 : Hid (Step (· = R.rb) w w9) := (HSO.out).trans hs9
               clear hr9 hs9
               obtain ⟨p9, hb9⟩ := HKB.out w9 HS9.out
               have HBT9 := Lib.hid hb9
               have bt0 := blk_cell hb9 0 _ rfl
               have bz0 := blk_free hb9 0
               have bt2 := blk_cell hb9 2 _ rfl
               have bz2 := blk_free hb9 2
               have bt3 := blk_cell hb9 3 _ rfl
               have bz3 := blk_free hb9 3
               clear hb9)
            | (go_simp
               go_at_call 77
               refine (HOPT.out _ (HRY.out.quiet ((Step.refl _ _).drew))).mono ?_
               rintro e8 w8 ⟨rfl, hr8, hs8⟩
               have HRO := Lib.hid hr8
               have HSO : Hid (Step (· = R.rb) w w8) := HSY.out.trans (((Step.refl (· = R.rb) _).drew).trans hs8)
               clear hr8 hs8
               obtain ⟨p8, -⟩ := HKB.out w8 HSO.out)))
        | fail
        all_goals (
         go_wp2_with fail
         go_meet
         case rel => exact ⟨HR9.out.step ((((Step.refl (· = bt) w9).setCell _ _ (fun _ => rfl)).setCell _ _ (fun _ => rfl)).setCell _ _ (fun _ => rfl)) (fun k hk e => by omega), blk_set (blk_set (blk_set HBT9.out 0 (.int .i64 7)) 2 (.string os)) 3 (.bool mb), (HS9.out.mono (fun _ _ e => .inl e)).trans (((((Step.refl (· = bt) w9).setCell _ _ (fun _ => rfl)).setCell _ _ (fun _ => rfl)).setCell _ _ (fun _ => rfl)).mono (fun _ _ e => .inr e))⟩)
       case rest =>
        obtain ⟨hrc, hbc, hsc⟩ := hcut
        obtain ⟨w4, rfl⟩ : ∃ w4 : World, w4 = wc := ⟨_, rfl⟩
        have HR4 := Lib.hid hrc
        have HBT4 := Lib.hid hbc
        have HS04 := Lib.hid hsc
        clear hrc hbc p0
        have p0 : w4.cell? ⟨bp, 0, none⟩ = some (.pointer (some ⟨R.rb, 0, none⟩)) := hsc.cell HBP.out (fun e => by have e2 : bp = R.rb ∨ bp = bt := e; omega)
        clear hsc
        go_wp2_with fail
        cases hx1 : typR f R.l mj d with
        | out => exact absurd (by rw [HEQ.out]; simp only [(Lib.hid hx1).out, Res.bind_out]) HNO.out
        | err c ln col =>
         have HX1 := Lib.hid hx1
         clear hx1
         refine (IH.out R _ mj d HL.out HR4.out hd (by rw [HX1.out]; intro h; cases h)).mono ?_
         rintro e wq hp
         rw [HX1.out] at hp
         obtain ⟨rfl, sq⟩ := hp
         refine ⟨rfl, CloPost.of_err (c := c) (ln := ln) (col := col) (by rw [HEQ.out]; simp only [HX1.out, Res.bind_err]) rfl ?_⟩
         exact (HS04.out).trans (sq.mono (fun _ _ e => .inl e))
        | ok ty1 jx1 =>
         have HX1 := Lib.hid hx1
         clear hx1
         refine (IH.out R _ mj d HL.out HR4.out hd (by rw [HX1.out]; intro h; cases h)).mono ?_
         rintro e wx1 hp
         rw [HX1.out] at hp
         obtain ⟨⟨v, rfl, cs, rfl, hty⟩, hrx, hsx⟩ := hp
         have HTY1 := Lib.hid hty
         obtain ⟨ty, hty0⟩ : ∃ ty, ty = ty1 := ⟨_, rfl⟩
         have HTE1 := Lib.hid hty0
         obtain ⟨k0, nm0, lf0, mu0, lifes0, args0, l0, c0⟩ := ty1
         rw [TyP] at hty
         obtain ⟨vl0, va0, xs0, rfl, -, -, -, ⟨a1, c1, rfl, -⟩, -, ⟨a2, c2, rfl, -⟩⟩ := hty
         have HRX1 := Lib.hid hrx
         have HSX1 := Lib.hid hsx
         clear hrx hsx hty0
         obtain ⟨w5, hw5⟩ : ∃ w5 : World, w5 = wx1.alloc (.cells #[.int .i64 k0, .string nm0, .string lf0, .bool mu0, .slice a1 lifes0.length c1, .slice a2 args0.length c2, .int .i64 l0, .int .i64 c0] 54) := ⟨_, rfl⟩
         have HS5 : Hid (Step (fun _ => False) wx1 w5) := by show Step _ _ _; rw [hw5]; exact (Step.refl _ _).alloc _
         have HK5 : Hid (w5.heap[wx1.heap.size]? = some (.cells #[.int .i64 k0, .string nm0, .string lf0, .bool mu0, .slice a1 lifes0.length c1, .slice a2 args0.length c2, .int .i64 l0, .int .i64 c0] 54 (0, 0))) := by show _ = _; rw [hw5]; exact blk_new _ _
         have hbt5 := HS5.out.keep (HSX1.out.keep HBT4.out (by omega)) (fun h => h)
         have HBT5 := Lib.hid hbt5
         have bt5 := blk_cell hbt5 5 _ rfl
         have bz5 := blk_free hbt5 5
         have hxz := HSX1.out.size
         have hxy := HS04.out.size
         obtain ⟨w6, hw6⟩ : ∃ w6 : World, w6 = w5.setCell ⟨bt, 5, none⟩ (.slice (some ⟨wx1.heap.size, 0, none⟩) 1 1) := ⟨_, rfl⟩
         have HS6 : Hid (Step (· = bt) w5 w6) := by show Step _ _ _; rw [hw6]; exact (Step.refl _ _).setCell _ _ (fun _ => rfl)
         have HBT6 : Hid (w6.heap[bt]? = some (.cells #[.int .i64 7, .string noB, .string os, .bool mb, .slice none 0 0, .slice (some ⟨wx1.heap.size, 0, none⟩) 1 1, .int .i64 t.line, .int .i64 t.col] 54 (0, 0))) := by show _ = _; rw [hw6]; exact blk_set hbt5 5 _
         have HK6 := Lib.hid (HS6.out.keep HK5.out (by omega))
         rw [hw5] at bt5 bz5
         clear hbt5
         go_wp2_with fail
         rw [← hw5, ← hw6]
         clear bt5 bz5 hw5 hw6
         refine bodyPost_end (results_none rfl _ _ _) rfl ?_
         have hsx2 : Step (fun k => k = R.rb ∨ k = bt) wx1 w6 := (HS5.out.mono (fun _ _ h => h.elim)).trans (HS6.out.mono (fun _ _ e => .inr e))
         refine CloPost.of_ok (a := .mk 7 noB os mb [] [Ty.mk k0 nm0 lf0 mu0 lifes0 args0 l0 c0] (tokA R.l i).line (tokA R.l i).col) (j := jx1) (by rw [HEQ.out]; simp only [HX1.out, Res.bind_ok]) rfl ⟨[.int .i64 7, .string noB, .string os, .bool mb, .slice none 0 0, .slice (some ⟨wx1.heap.size, 0, none⟩) 1 1, .int .i64 t.line, .int .i64 t.col], HBT6.out, ?_⟩ ((HRX1.out.quiet HS5.out).step HS6.out (fun k hk e => by omega)) (HS04.out.trans ((HSX1.out.mono (fun _ _ e => .inl e)).trans hsx2))
         rw [TyP, ← HT.out]
         refine ⟨_, _, [.int .i64 k0, .string nm0, .string lf0, .bool mu0, .slice a1 lifes0.length c1, .slice a2 args0.length c2, .int .i64 l0, .int .i64 c0], rfl, by decide, HOS.out, (fun _ h => nomatch h), RowP.nil _ _ _, ?_, RowP.new HK6.out (by decide) (by omega)⟩
         rw [TysP]
         exact ⟨_, [], (List.append_nil _).symm, TyP.mono (fun k _ hk => by omega) _ _ (TyP.step hsx2 (fun k hk e => by omega) _ _ HTY1.out), by rw [TysP]⟩
      | false =>
       have HB5 := Lib.hid hb5
       clear hb5
       refine (is_no R HL.out ⟨#[38]⟩ _ i d HRN4.out (by decide) HB5.out).mono ?_
       rintro e wn5 ⟨rfl, hrn, hsn⟩
       have HRN5 := Lib.hid hrn
       have HSN5 : Hid (Step (· = R.rb) w wn5) := HSN4.out.trans hsn
       clear hrn hsn p0
       obtain ⟨p0, -⟩ := HKB.out wn5 HSN5.out
       go_wp2_with fail
       cases hb6 : isF R.l i [100, 121, 110] with
       | true =>
        have HB6 := Lib.hid hb6
        clear hb6
        refine (is_yes R HL.out ⟨#[100, 121, 110]⟩ _ i d HRN5.out (by decide) HB6.out).mono ?_
        rintro e wy ⟨rfl, hry, hsy⟩
        have HRY := Lib.hid hry
        have HSY : Hid (Step (· = R.rb) w wy) := HSN5.out.trans hsy
        clear hry hsy p0
        obtain ⟨p0, hbt⟩ := HKB.out wy HSY.out
        have HBT := Lib.hid hbt
        clear hbt
        go_wp2_with fail
        cases hn3 : nameR R.l (i + 1) with
        | out => exact (nameR_out hn3).elim
        | err c ln col =>
         have HN3 := Lib.hid hn3
         clear hn3
         refine (name_any R HL.out _ (i + 1) d HRY.out).mono ?_
         rintro e wq hp
         rw [HN3.out] at hp
         obtain ⟨rfl, sq⟩ := hp
         refine ⟨rfl, CloPost.of_err (c := c) (ln := ln) (col := col) (by rw [HRR.out]; unfold typB; simp only [HB0.out, HB1.out, HB2.out, HB3.out, HB4.out, HB5.out, HB6.out, HN3.out, Bool.false_eq_true, if_false, if_true, Res.bind_err]) rfl ?_⟩
         exact (HSY.out.mono (fun _ _ e => .inl e)).trans (sq.mono (fun _ _ e => .inl e))
        | ok nm j3 =>
         have HN3 := Lib.hid hn3
         have HNS3 := Lib.hid (nameR_size HL.out (HRY.out).lt hn3)
         clear hn3
         refine (name_any R HL.out _ (i + 1) d HRY.out).mono ?_
         rintro e wq3 hp
         rw [HN3.out] at hp
         obtain ⟨⟨v, rfl, rfl⟩, hrq, sq⟩ := hp
         have HRQ3 := Lib.hid hrq
         have HSQ3 : Hid (Step (· = R.rb) wy wq3) := sq
         clear hrq sq p0
         obtain ⟨p0, hbt⟩ := HKB.out wq3 (HSY.out.trans HSQ3.out)
         have HSA : Hid (Step (· = R.rb) w wq3) := HSY.out.trans HSQ3.out
         have HBTX := Lib.hid hbt
         clear hbt
         have bt0 := blk_cell HBTX.out 0 _ rfl
         have bz0 := blk_free HBTX.out 0
         have bt1 := blk_cell HBTX.out 1 _ rfl
         have bz1 := blk_free HBTX.out 1
         obtain ⟨w4, hw4⟩ : ∃ w4 : World, w4 = ((wq3.setCell ⟨bt, 0, none⟩ (.int .i64 8)).setCell ⟨bt, 1, none⟩ (.string nm)) := ⟨_, rfl⟩
         have HS4 : Hid (Step (· = bt) wq3 w4) := by show Step _ _ _; rw [hw4]; exact (((Step.refl (· = bt) _).setCell _ _ (fun _ => rfl)).setCell _ _ (fun _ => rfl))
         have HBT4 : Hid (w4.heap[bt]? = some (.cells #[.int .i64 8, .string nm, .string noB, .bool false, .slice none 0 0, .slice none 0 0, .int .i64 t.line, .int .i64 t.col] 54 (0, 0))) := by show _ = _; rw [hw4]; exact (blk_set (blk_set HBTX.out 0 (.int .i64 8)) 1 (.string nm))
         have HS04 : Hid (Step (fun k => k = R.rb ∨ k = bt) w w4) := (HSA.out.mono (fun _ _ e => .inl e)).trans (HS4.out.mono (fun _ _ e => .inr e))
         have HR4 := Lib.hid ((HRQ3.out).step HS4.out (fun k hk e => by omega))
         have p4 : w4.cell? ⟨bp, 0, none⟩ = some (.pointer (some ⟨R.rb, 0, none⟩)) := HS4.out.cell p0 (fun e => by have e2 : bp = bt := e; omega)
         go_upto_region 20 with fail
         rw [← hw4]
         clear p0 hw4 bt0 bz0 bt1 bz1
         have p0 := p4
         clear p4
         go_wp2_with fail
         cases hb7 : isF R.l j3 [43] with
         | false =>
          have HB7 := Lib.hid hb7
          clear hb7
          refine (is_no R HL.out ⟨#[43]⟩ _ j3 d HR4.out (by decide) HB7.out).mono ?_
          rintro e wz ⟨rfl, hrz, hsz⟩
          have HRZ := Lib.hid hrz
          have HSZ := Lib.hid hsz
          clear hrz hsz p0
          go_wp2_with fail
          refine bodyPost_end (results_none rfl _ _ _) rfl ?_
          refine CloPost.of_ok (a := .mk 8 nm noB false [] [] (tokA R.l i).line (tokA R.l i).col) (j := j3) (by rw [HRR.out]; unfold typB; simp only [HB0.out, HB1.out, HB2.out, HB3.out, HB4.out, HB5.out, HB6.out, HN3.out, HB7.out, Bool.false_eq_true, if_false, if_true, Res.bind_ok]) rfl ⟨[.int .i64 8, .string nm, .string noB, .bool false, .slice none 0 0, .slice none 0 0, .int .i64 t.line, .int .i64 t.col], HSZ.out.keep HBT4.out (by omega), ?_⟩ HRZ.out (HS04.out.trans (HSZ.out.mono (fun _ _ e => .inl e)))
          rw [TyP, ← HT.out]
          exact ⟨_, _, [], rfl, HNS3.out, by decide, (fun _ h => nomatch h), RowP.nil _ _ _, by rw [TysP], RowP.nil _ _ _⟩
         | true =>
          have HB7 := Lib.hid hb7
          clear hb7
          refine (is_yes R HL.out ⟨#[43]⟩ _ j3 d HR4.out (by decide) HB7.out).mono ?_
          rintro e wz ⟨rfl, hrz, hsz⟩
          have HRZ := Lib.hid hrz
          have HSZ := Lib.hid hsz
          have HBT5 := Lib.hid (hsz.keep HBT4.out (by omega))
          have HS05 : Hid (Step (fun k => k = R.rb ∨ k = bt) w wz) := HS04.out.trans (hsz.mono (fun _ _ e => .inl e))
          have p1 := hsz.cell p0 (fun e => by have e2 : bp = R.rb := e; omega)
          clear hrz hsz p0
          have p0 := p1
          clear p1
          go_wp2_with fail
          cases hn4 : lifeR R.l (j3 + 1) with
          | out => exact (lifeR_out hn4).elim
          | err c ln col =>
           have HN4 := Lib.hid hn4
           clear hn4
           refine (life_any R HL.out _ (j3 + 1) d HRZ.out).mono ?_
           rintro e wq hp
           rw [HN4.out] at hp
           obtain ⟨rfl, sq⟩ := hp
           refine ⟨rfl, CloPost.of_err (c := c) (ln := ln) (col := col) (by rw [HRR.out]; unfold typB; simp only [HB0.out, HB1.out, HB2.out, HB3.out, HB4.out, HB5.out, HB6.out, HN3.out, HB7.out, HN4.out, Bool.false_eq_true, if_false, if_true, Res.bind_ok, Res.bind_err]) rfl ?_⟩
           exact HS05.out.trans (sq.mono (fun _ _ e => .inl e))
          | ok lf j4 =>
           have HN4 := Lib.hid hn4
           have HLS := Lib.hid (lifeR_size HL.out (HRZ.out).lt hn4)
           clear hn4
           refine (life_any R HL.out _ (j3 + 1) d HRZ.out).mono ?_
           rintro e wq4 hp
           rw [HN4.out] at hp
           obtain ⟨⟨v, rfl, rfl⟩, hrq, sq⟩ := hp
           have HRL := Lib.hid hrq
           have HBT6 := Lib.hid (sq.keep HBT5.out (by omega))
           have HS06 : Hid (Step (fun k => k = R.rb ∨ k = bt) w wq4) := HS05.out.trans (sq.mono (fun _ _ e => .inl e))
           clear hrq sq p0
           have bt2 := blk_cell HBT6.out 2 _ rfl
           have bz2 := blk_free HBT6.out 2
           go_wp2_with fail
           refine bodyPost_end (results_none rfl _ _ _) rfl ?_
           have hst : Step (· = bt) wq4 (wq4.setCell ⟨bt, 2, none⟩ (.string lf)) := (Step.refl _ _).setCell _ _ (fun _ => rfl)
           refine CloPost.of_ok (a := .mk 8 nm lf false [] [] (tokA R.l i).line (tokA R.l i).col) (j := j4) (by rw [HRR.out]; unfold typB; simp only [HB0.out, HB1.out, HB2.out, HB3.out, HB4.out, HB5.out, HB6.out, HN3.out, HB7.out, HN4.out, Bool.false_eq_true, if_false, if_true, Res.bind_ok]) rfl ⟨[.int .i64 8, .string nm, .string lf, .bool false, .slice none 0 0, .slice none 0 0, .int .i64 t.line, .int .i64 t.col], blk_set HBT6.out 2 (.string lf), ?_⟩ (HRL.out.step hst (fun k hk e => by omega)) (HS06.out.trans (hst.mono (fun _ _ e => .inr e)))
           rw [TyP, ← HT.out]
           exact ⟨_, _, [], rfl, HNS3.out, HLS.out, (fun _ h => nomatch h), RowP.nil _ _ _, by rw [TysP], RowP.nil _ _ _⟩
       | false =>
        have HB6 := Lib.hid hb6
        clear hb6
        refine (is_no R HL.out ⟨#[100, 121, 110]⟩ _ i d HRN5.out (by decide) HB6.out).mono ?_
        rintro e wn6 ⟨rfl, hrn, hsn⟩
        have HRN6 := Lib.hid hrn
        have HSN6 : Hid (Step (· = R.rb) w wn6) := HSN5.out.trans hsn
        clear hrn hsn p0
        obtain ⟨p0, -⟩ := HKB.out wn6 HSN6.out
        go_wp2_with fail
        cases hn5 : nameR R.l i with
        | out => exact (nameR_out hn5).elim
        | err c ln col =>
         have HN5 := Lib.hid hn5
         clear hn5
         refine (name_any R HL.out _ i d HRN6.out).mono ?_
         rintro e wq hp
         rw [HN5.out] at hp
         obtain ⟨rfl, sq⟩ := hp
         refine ⟨rfl, CloPost.of_err (c := c) (ln := ln) (col := col) (by rw [HRR.out]; unfold typB; simp only [HB0.out, HB1.out, HB2.out, HB3.out, HB4.out, HB5.out, HB6.out, HN5.out, Bool.false_eq_true, if_false, Res.bind_err]) rfl ?_⟩
         exact (HSN6.out.mono (fun _ _ e => .inl e)).trans (sq.mono (fun _ _ e => .inl e))
        | ok nm j5 =>
         have HN5 := Lib.hid hn5
         have HNS5 := Lib.hid (nameR_size HL.out (HRN6.out).lt hn5)
         clear hn5
         refine (name_any R HL.out _ i d HRN6.out).mono ?_
         rintro e wq5 hp
         rw [HN5.out] at hp
         obtain ⟨⟨v, rfl, rfl⟩, hrq, sq⟩ := hp
         have HRQ5 := Lib.hid hrq
         have HSQ5 : Hid (Step (· = R.rb) wn6 wq5) := sq
         clear hrq sq p0
         obtain ⟨p0, hbt⟩ := HKB.out wq5 (HSN6.out.trans HSQ5.out)
         have HSA : Hid (Step (· = R.rb) w wq5) := HSN6.out.trans HSQ5.out
         have HBTX := Lib.hid hbt
         clear hbt
         have bt0 := blk_cell HBTX.out 0 _ rfl
         have bz0 := blk_free HBTX.out 0
         have bt1 := blk_cell HBTX.out 1 _ rfl
         have bz1 := blk_free HBTX.out 1
         obtain ⟨w4, hw4⟩ : ∃ w4 : World, w4 = ((wq5.setCell ⟨bt, 0, none⟩ (.int .i64 5)).setCell ⟨bt, 1, none⟩ (.string nm)) := ⟨_, rfl⟩
         have HS4 : Hid (Step (· = bt) wq5 w4) := by show Step _ _ _; rw [hw4]; exact (((Step.refl (· = bt) _).setCell _ _ (fun _ => rfl)).setCell _ _ (fun _ => rfl))
         have HBT4 : Hid (w4.heap[bt]? = some (.cells #[.int .i64 5, .string nm, .string noB, .bool false, .slice none 0 0, .slice none 0 0, .int .i64 t.line, .int .i64 t.col] 54 (0, 0))) := by show _ = _; rw [hw4]; exact (blk_set (blk_set HBTX.out 0 (.int .i64 5)) 1 (.string nm))
         have HS04 : Hid (Step (fun k => k = R.rb ∨ k = bt) w w4) := (HSA.out.mono (fun _ _ e => .inl e)).trans (HS4.out.mono (fun _ _ e => .inr e))
         have HR4 := Lib.hid ((HRQ5.out).step HS4.out (fun k hk e => by omega))
         have p4 : w4.cell? ⟨bp, 0, none⟩ = some (.pointer (some ⟨R.rb, 0, none⟩)) := HS4.out.cell p0 (fun e => by have e2 : bp = bt := e; omega)
         go_upto_region 1 with fail
         rw [← hw4]
         clear p0 hw4 bt0 bz0 bt1 bz1
         have p0 := p4
         clear p4
         go_wp2_with fail
         have hbr : R.rb < bt := by omega
         cases hx : argsF f R.l j5 d with
         | out =>
          have HX := Lib.hid hx
          exact absurd (by rw [HRR.out, typB_last HB0.out HB1.out HB2.out HB3.out HB4.out HB5.out HB6.out, HN5.out, Res.bind_ok, HX.out]; rfl) HNO.out
         | err c ln col =>
          have HX := Lib.hid hx
          clear hx
          refine (IHA.out R _ j5 d bt 5 nm t HL.out HR4.out hd hbr HBT4.out (by rw [HX.out]; intro h; cases h)).mono ?_
          rintro e wq hp
          rw [HX.out] at hp
          obtain ⟨rfl, sq⟩ := hp
          refine ⟨rfl, CloPost.of_err (c := c) (ln := ln) (col := col) (by rw [HRR.out, typB_last HB0.out HB1.out HB2.out HB3.out HB4.out HB5.out HB6.out, HN5.out, Res.bind_ok, HX.out]; rfl) rfl ?_⟩
          exact HS04.out.trans sq
         | ok p jx =>
          have HX := Lib.hid hx
          clear hx
          refine (IHA.out R _ j5 d bt 5 nm t HL.out HR4.out hd hbr HBT4.out (by rw [HX.out]; intro h; cases h)).mono ?_
          rintro e wx hp
          rw [HX.out] at hp
          obtain ⟨rfl, ⟨vl, va, xs, hbx, hsz, hrl, hts, hra⟩, hrx, hsx⟩ := hp
          have HP := Lib.hid hsz
          have HBX := Lib.hid hbx
          have HRL := Lib.hid hrl
          have HTS := Lib.hid hts
          have HRA := Lib.hid hra
          have HRX := Lib.hid hrx
          have HSX := Lib.hid hsx
          clear hsz hbx hrl hts hra hrx hsx p0
          go_wp2_with fail
          refine bodyPost_end (results_none rfl _ _ _) rfl ?_
          have hz := HS04.out.size
          refine CloPost.of_ok (a := .mk 5 nm noB false p.1 p.2 (tokA R.l i).line (tokA R.l i).col) (j := jx) (by rw [HRR.out, typB_last HB0.out HB1.out HB2.out HB3.out HB4.out HB5.out HB6.out, HN5.out, Res.bind_ok, HX.out]; rfl) rfl ⟨[.int .i64 5, .string nm, .string noB, .bool false, vl, va, .int .i64 t.line, .int .i64 t.col], HBX.out, ?_⟩ HRX.out (HS04.out.trans HSX.out)
          rw [TyP, ← HT.out]
          exact ⟨_, _, xs, rfl, HNS5.out, by decide, HP.out, HRL.out.mono (fun k _ hk => by omega), TysP.mono (fun k _ hk => by omega) _ _ HTS.out, HRA.out.mono (fun k _ hk => by omega)⟩
theorem Try.sizeWType : (Try.prog.info? 54).map (·.size) = some 8 := by kernel_rfl
theorem enters_typ1 : Enters 76 := fun xs w => by go_simp
theorem TyP.parts {w : World} {P : Nat → Prop} {ty : Ty} {cs : List Value} (h : TyP w P ty cs) : ∃ (k : Int) (nm lf : ByteArray) (m : Bool) (a1 : Option Addr) (n1 c1 : Nat) (a2 : Option Addr) (n2 c2 : Nat) (l c : Int),
  cs = [.int .i64 k, .string nm, .string lf, .bool m, .slice a1 n1 c1, .slice a2 n2 c2, .int .i64 l, .int .i64 c] := by
 obtain ⟨k0, nm0, lf0, mu0, lifes0, args0, l0, c0⟩ := ty
 rw [TyP] at h
 obtain ⟨vl0, va0, xs0, rfl, -, -, -, ⟨a1, c1, rfl, -⟩, -, ⟨a2, c2, rfl, -⟩⟩ := h
 exact ⟨_, _, _, _, _, _, _, _, _, _, _, _, rfl⟩
theorem typ_step (f : Nat) (ih : TypOk f) (iha : ArgsOk f) : TypOk (f + 1) := by
 intro R w i d hl h hd hno
 have hmf : ∀ (fn : Fn) (first cap : Array Value) (w : World), (Instr.makeFunc fn first cap).run Try.prog w = .ok (.func fn first cap) w := fun _ _ _ _ => rfl
 have HL := Lib.hid hl
 have H0 := Lib.hid h
 have HNO := Lib.hid hno
 obtain ⟨r, hr⟩ : ∃ r, r = typR (f + 1) R.l i d := ⟨_, rfl⟩
 have HRR := Lib.hid hr
 rw [← hr]
 obtain ⟨t, ht⟩ : ∃ t, t = tokA R.l i := ⟨_, rfl⟩
 have HT := Lib.hid ht
 have hrlt := blk_lt h.blk
 obtain ⟨w1, hw1⟩ : ∃ w1 : World, w1 = (w.alloc (.cells #[.pointer (some ⟨R.rb, 0, none⟩)] 45)).alloc (.cells #[.int .i64 0, .string ⟨#[]⟩, .string ⟨#[]⟩, .bool false, .slice none 0 0, .slice none 0 0, .int .i64 0, .int .i64 0] 54) := ⟨_, rfl⟩
 have HS1 : Hid (Step (fun _ => False) w w1) := by show Step _ _ _; rw [hw1]; exact ((Step.refl _ _).alloc _).alloc _
 have HP1 : Hid (w1.heap[w.heap.size]? = some (.cells #[.pointer (some ⟨R.rb, 0, none⟩)] 45 (0, 0))) := by show _ = _; rw [hw1]; exact blk_alloc (blk_new _ _)
 have HN1 : Hid (w1.heap[w.heap.size + 1]? = some (.cells #[.int .i64 0, .string ⟨#[]⟩, .string ⟨#[]⟩, .bool false, .slice none 0 0, .slice none 0 0, .int .i64 0, .int .i64 0] 54 (0, 0))) := by show _ = _; rw [hw1]; exact blk_new2 _ _ _
 have HW1 := Lib.hid hw1
 have H1 := Lib.hid (h.quiet HS1.out)
 have p0 : w1.cell? ⟨w.heap.size, 0, none⟩ = some (.pointer (some ⟨R.rb, 0, none⟩)) := blk_cell HP1.out 0 _ rfl
 have HAT := Lib.hid (at_at R w1 i d t H1.out (by rw [ht]; exact H1.out.tok))
 clear hl h hno hr hw1 ht
 go_enter Try.func60, Try.ntmps60
 go_upto_region 1 with fail
 rw [← HW1.out]
 go_wp2_with fail
 refine HAT.out.mono ?_
 rintro e w2 ⟨rfl, h2⟩
 have HS2 := Lib.hid (HS1.out.trans h2)
 have HP2 := Lib.hid (h2.keep HP1.out (fun h => h))
 have HN2 := Lib.hid (h2.keep HN1.out (fun h => h))
 have hn1 := blk_lt HN2.out
 obtain ⟨w3, hw3⟩ : ∃ w3 : World, w3 = w2.alloc (.cells #[.int .i64 0, .string noB, .string noB, .bool false, .slice none 0 0, .slice none 0 0, .int .i64 t.line, .int .i64 t.col] 54) := ⟨_, rfl⟩
 have HS23 : Hid (Step (fun _ => False) w2 w3) := by show Step _ _ _; rw [hw3]; exact (Step.refl _ _).alloc _
 have HB3 : Hid (w3.heap[w2.heap.size]? = some (.cells #[.int .i64 0, .string noB, .string noB, .bool false, .slice none 0 0, .slice none 0 0, .int .i64 t.line, .int .i64 t.col] 54 (0, 0))) := by show _ = _; rw [hw3]; exact blk_new _ _
 have HS3 := Lib.hid (HS2.out.trans HS23.out)
 have HP3 := Lib.hid (HS23.out.keep HP2.out (fun h => h))
 have HN3 := Lib.hid (HS23.out.keep HN2.out (fun h => h))
 have H3 := Lib.hid (H0.out.quiet HS3.out)
 have HW3 := Lib.hid hw3
 clear h2 hw3 p0
 have p0 : w3.cell? ⟨w.heap.size, 0, none⟩ = some (.pointer (some ⟨R.rb, 0, none⟩)) := blk_cell HP3.out 0 _ rfl
 go_upto_region 2 with fail
 have hx3 : w2.alloc (.cells #[.int .i64 0, .string ⟨#[]⟩, .string ⟨#[]⟩, .bool false, .slice none 0 0, .slice none 0 0, .int .i64 t.line, .int .i64 t.col] 54) = w3 := HW3.out.symm
 rw [hx3]
 clear hx3
 go_wp2_with fail
 by_cases h40 : d = 40
 ·refine (deep_limit R _ [.pointer (some ⟨w.heap.size, 0, none⟩), .pointer (some ⟨w2.heap.size, 0, none⟩)] w3 i d t H3.out (by rw [HT.out]; exact H3.out.tok) h40).mono ?_
  rintro e w4 ⟨rfl, h4⟩
  refine ⟨rfl, ?_⟩
  rw [HRR.out, typR_succ, if_pos h40, failR, ← HT.out]
  exact ⟨rfl, (HS3.out.trans h4).mono (fun _ _ h => h.elim)⟩
 ·have HRB : Hid (r = typB f R.l i (d + 1)) := by show _ = _; rw [HRR.out, typR_succ, if_neg h40]
  have hnb : typB f R.l i (d + 1) ≠ .out := fun e => HNO.out (by rw [← HRR.out, HRB.out, e])
  have HCLO : Hid (∀ X, RdAt R X i (d + 1) → Step (· = R.rb) w3 X → Calls Try.prog 76 #[.pointer (some ⟨w.heap.size, 0, none⟩), .pointer (some ⟨w2.heap.size, 0, none⟩)] X (CloPost R (d + 1) w2.heap.size (TyLeft X.heap.size w2.heap.size) (typB f R.l i (d + 1)) X)) := by
   show ∀ X, _
   intro X hX hs
   exact typ1_any R f ih iha w.heap.size w2.heap.size X i (d + 1) t HL.out hX (by omega) (hs.keep HP3.out (by omega)) (hs.keep HB3.out (by omega)) (by omega) (by omega) HT.out hnb
  have hd40 : d < 40 := by omega
  cases hb : typB f R.l i (d + 1) with
  | out => exact absurd hb hnb
  | err c ln col =>
   have HB := Lib.hid hb
   clear hb
   refine (deep_err R _ [.pointer (some ⟨w.heap.size, 0, none⟩), .pointer (some ⟨w2.heap.size, 0, none⟩)] w3 i d (Q := fun X => Step (fun k => k = R.rb ∨ k = w2.heap.size) w3 X) (hk := enters_typ1) (h := H3.out) (hd := hd40) (hby := fun X hX hs => ?_) (es := [{ v := .iface 89 (.agg #[.int .i64 c, .int .i64 ln, .int .i64 col]), recovered := false }])).mono ?_
   ·refine (HCLO.out X hX hs).mono ?_
    intro e X2 hp
    rw [HB.out] at hp
    exact ⟨hp.1, (hs.mono (fun _ _ e => .inl e)).trans hp.2⟩
   ·rintro e w4 ⟨rfl, h4⟩
    refine ⟨rfl, ?_⟩
    rw [HRB.out, HB.out]
    exact ⟨rfl, (HS3.out.mono (fun _ _ h => h.elim)).then h4 (fun q hq e => by omega)⟩
  | ok ty j =>
   have HB := Lib.hid hb
   clear hb
   refine (deep_ok R _ [.pointer (some ⟨w.heap.size, 0, none⟩), .pointer (some ⟨w2.heap.size, 0, none⟩)] w3 i d (fun i' X => i' = j ∧ TyLeft w3.heap.size w2.heap.size X ty ∧ Step (fun k => k = R.rb ∨ k = w2.heap.size) w3 X) enters_typ1 H3.out hd40 (fun X hX hs => ?_)).mono ?_
   ·refine (HCLO.out X hX hs).mono ?_
    intro e X2 hp
    rw [HB.out] at hp
    obtain ⟨he, ⟨cs, hc, ht⟩, hr, hs2⟩ := hp
    exact ⟨he, j, hr, rfl, ⟨cs, hc, TyP.mono (fun k _ hk => by have := hs.size; omega) _ _ ht⟩, (hs.mono (fun _ _ e => .inl e)).trans hs2⟩
   ·rintro e w4 ⟨rfl, i', X, ⟨rfl, ⟨cs, hc, hty⟩, hsx⟩, hr4, hs4⟩
    have hlt3 := blk_lt HB3.out
    have hb4 := hs4.keep hc (by omega)
    have hty4 := TyP.step hs4 (fun k hk e => by omega) _ _ hty
    have hs34 : Step (fun k => k = R.rb ∨ k = w2.heap.size) w3 w4 := hsx.trans (hs4.mono (fun _ _ e => .inl e))
    obtain ⟨k0, nm0, lf0, mu0, a1, n1, c1, a2, n2, c2, l0, c0, rfl⟩ := hty4.parts
    have HR4 := Lib.hid hr4
    have HTY := Lib.hid hty4
    have HS34 := Lib.hid hs34
    have HB4 := Lib.hid hb4
    have HN4 := Lib.hid (hs34.keep HN3.out (by omega))
    have HLD : Hid (∀ (jj : Nat) v, [Value.int .i64 k0, .string nm0, .string lf0, .bool mu0, .slice a1 n1 c1, .slice a2 n2 c2, .int .i64 l0, .int .i64 c0][jj]? = some v → w4.cell? ⟨w2.heap.size, 0 + jj, none⟩ = some v) := by
     show ∀ jj v, _
     intro jj v hv
     rw [Nat.zero_add]; exact blk_cell HB4.out jj v (by simpa using hv)
    have HONE := Lib.hid (TyP.one hty4)
    have hsz3 := HS23.out.size
    clear hc hty hsx hr4 hs4 hb4 hty4 hs34 p0
    go_wp2_with (first
     | (refine wpList_load_whole rfl 54 (.tmp 3) rfl w2.heap.size 0 rfl [.int .i64 k0, .string nm0, .string lf0, .bool mu0, .slice a1 n1 c1, .slice a2 n2 c2, .int .i64 l0, .int .i64 c0] _ HLD.out Try.underlying54 rfl Try.sizeWType ?_)
     | (refine wpList_store_part (w := w4) rfl 54 (.tmp 2) (.tmp 12) rfl (w.heap.size + 1) 0 54 _ [.int .i64 k0, .string nm0, .string lf0, .bool mu0, .slice a1 n1 c1, .slice a2 n2 c2, .int .i64 l0, .int .i64 c0] rfl rfl HN4.out Try.sizeWType (Nat.le_of_eq rfl) HONE.out ?_
        intro w5 hb5 hst5))
    have hb5' : w5.heap[w.heap.size + 1]? = some (.cells [Value.int .i64 k0, .string nm0, .string lf0, .bool mu0, .slice a1 n1 c1, .slice a2 n2 c2, .int .i64 l0, .int .i64 c0].toArray 54 (0, 0)) := hb5
    refine bodyPost_ret (results_cellB rfl _ (w.heap.size + 1) 54 _ _ rfl hb5' Try.underlying54 rfl Try.sizeWType) rfl ?_
    rw [HRB.out, HB.out]
    refine ⟨⟨_, rfl, _, rfl, TyP.mono (fun k _ hk => by have := HS3.out.size; omega) _ _ (TyP.step hst5 (fun k hk e => by omega) _ _ HTY.out)⟩, HR4.out.step hst5 (fun k hk e => by omega), ?_⟩
    have hs04 : Step (· = R.rb) w w4 := (HS3.out.mono (fun _ _ h => h.elim)).then HS34.out (fun q hq e => by omega)
    exact hs04.then hst5 (fun q hq e => by omega)
/- A row whose last thing is put in behind. -/
theorem owns_put {w w' : World} {base size n g c : Nat} {e : TypeId} {xs zs cs : List Value} {cur : Array Value} (h : w.ownsRow base e size (.slice (some ⟨g, 0, none⟩) (n + 1) c) (n + 1) (xs ++ zs)) (hx : xs.length = n * size) (hc : cs.length = size)
  (hg : w.heap[g]? = some (.cells cur e (0, 0))) (hb : w'.heap[g]? = some (.cells (cur.toList.take (n * size) ++ (cs ++ cur.toList.drop (n * size + cs.length))).toArray e (0, 0))) : w'.ownsRow base e size (.slice (some ⟨g, 0, none⟩) (n + 1) c) (n + 1) (xs ++ cs) := by
 rcases h.2 with ⟨h1, -⟩ | ⟨g', cap, cur', h1, h2, h3, h4, h5, h6, h7⟩
 ·cases h1
 ·cases h1
  rw [hg] at h3
  cases h3
  have hsz : (n + 1) * size = n * size + size := by rw [Nat.add_mul, Nat.one_mul]
  have hcap : (n + 1) * size ≤ c * size := Nat.mul_le_mul_right _ h4
  have hct : (cur.toList.take (n * size)).length = n * size := by simp; omega
  have hxt : cur.toList.take (n * size) = xs := by
   have h8 : (cur.toList.take ((n + 1) * size)).take (n * size) = (xs ++ zs).take (n * size) := by rw [h7]
   rw [List.take_take, Nat.min_eq_left (by omega)] at h8
   rw [h8, ← hx, List.take_left]
  refine ⟨by rw [List.length_append, hx, hc, hsz], .inr ⟨g, c, _, rfl, h2, hb, h4, h5, ?_, ?_⟩⟩
  ·simp; omega
  ·show (cur.toList.take (n * size) ++ (cs ++ cur.toList.drop (n * size + cs.length))).take ((n + 1) * size) = xs ++ cs
   rw [← List.append_assoc, List.take_append_of_le_length (by rw [List.length_append, hct, hc]; omega), List.take_of_length_le (by rw [List.length_append, hct, hc]; omega), hxt]
/- .. what it is made of. -/
theorem owns_cells {w : World} {base size n : Nat} {e : TypeId} {v : Value} {xs : List Value} (h : w.ownsRow base e size v n xs) (hn : 0 < n) : ∃ g c cur, v = .slice (some ⟨g, 0, none⟩) n c ∧ base ≤ g ∧ w.heap[g]? = some (.cells cur e (0, 0)) ∧ n * size ≤ cur.size := by
 rcases h.2 with ⟨-, h2⟩ | ⟨g, cap, cur, h1, h2, h3, h4, h5, h6, h7⟩
 ·omega
 ·exact ⟨g, cap, cur, h1, h2, h3, by rw [h6]; exact Nat.mul_le_mul_right _ h4⟩
structure ElOk (El : World → (Nat → Prop) → List Value → Prop) : Prop where
 step : ∀ (w w' : World) (P S : Nat → Prop) (cs : List Value), Step S w w' → (∀ q, P q → ¬ S q) → El w P cs → El w' P cs
 mono : ∀ (w : World) (P P' : Nat → Prop) (cs : List Value), (∀ q, q < w.heap.size → P q → P' q) → El w P cs → El w P' cs
structure AppB (R : Rdr) (j1 j2 d : Nat) (w0 : World) (ic ib ia iy sx iz bt : Nat) (blkO : Value → Obj) (base : Nat) (e : TypeId) (size n : Nat) (va : Value) (xs zs : List Value) (El : World → (Nat → Prop) → List Value → Prop) (vals : List (Option Value))
  (L : Nat → Bool) (V : Nat → Value) (X : World) : Prop where
 det : ∀ (i : Nat) v, vals[i]? = some (some v) → L i = true → V i = v
 st : Step (fun q => q = R.rb ∨ q = bt ∨ va.ownBlock = some q) w0 X
 rd : RdAt R X (if L ic then j2 else j1) d
 el : L ic = true → ∃ cs : List Value, V ic = .agg cs.toArray ∧ El X (fun q => w0.heap.size ≤ q ∧ (L ia = true → (V ia).ownBlock ≠ some q)) cs
 bl : L ib = true → L ia = false → ∃ zb, V ib = .slice (some ⟨zb, 0, none⟩) 1 1 ∧ w0.heap.size ≤ zb ∧ X.heap[zb]? = some (.cells zs.toArray e (0, 0))
 old : L ia = false → X.ownsRow base e size va n xs
 new : L ia = true → ∃ g c, V ia = .slice (some ⟨g, 0, none⟩) (n + 1) c ∧ (va.ownBlock = some g ∨ w0.heap.size ≤ g) ∧ ∃ ys, X.ownsRow base e size (V ia) (n + 1) (xs ++ ys) ∧ ys.length = size ∧ (L sx = true → V ic = .agg ys.toArray)
 blk : X.heap[bt]? = some (blkO (if L iz then V ia else va))
 pa : L ia = true → ∀ i, i < ia → L i = true
 ps : L sx = true → L ia = true
 pz : L iz = true → L ia = true
 ix : L iy = true → L ia = true ∧ ∀ g c, V ia = .slice (some ⟨g, 0, none⟩) (n + 1) c → V iy = .pointer (some ⟨g, n * size, none⟩)
/- What stands ahead of the region. -/
structure AppOk (R : Rdr) (w0 : World) (ic ib ia iy sx iz bt : Nat) (base size n : Nat) (va : Value) (xs zs : List Value) : Prop where
 hc : ic < ia
 hb : ib < ia
 cb : ic ≠ ib
 hs : ia < sx
 hy : ia < iy
 ys : sx ≠ iy
 yz : iz ≠ iy
 hz : ia < iz
 sz : sx ≠ iz
 rb : R.rb < bt
 bt : bt < base
 bw : base ≤ w0.heap.size
 own : ∀ q, va.ownBlock = some q → base ≤ q ∧ q < w0.heap.size
 xs : xs.length = n * size
 zs : zs.length = size
section
variable {R : Rdr} {j1 j2 d : Nat} {w0 : World} {ic ib ia iy sx iz bt : Nat} {blkO : Value → Obj} {base : Nat} {e : TypeId} {size n : Nat} {va : Value} {xs zs : List Value} {El : World → (Nat → Prop) → List Value → Prop} {vals : List (Option Value)} {L : Nat → Bool} {V : Nat → Value} {X X' : World}
theorem updL_ne (L : Nat → Bool) {i j : Nat} (h : j ≠ i) : updL L i j = L j := by unfold updL; rw [if_neg h]
theorem updL_eq (L : Nat → Bool) (i : Nat) : updL L i i = true := by unfold updL; rw [if_pos rfl]
theorem updV_ne (V : Nat → Value) {i j : Nat} (v : Value) (h : j ≠ i) : updV V i v j = V j := by unfold updV; rw [if_neg h]
theorem updV_eq (V : Nat → Value) (i : Nat) (v : Value) : updV V i v i = v := by unfold updV; rw [if_pos rfl]
theorem det_up (h : ∀ (i : Nat) v, vals[i]? = some (some v) → L i = true → V i = v) (i : Nat) (v : Value) (hv : ∀ u, vals[i]? = some (some u) → v = u) : ∀ (k : Nat) u, vals[k]? = some (some u) → updL L i k = true → updV V i v k = u := by
 intro k u hu hL
 by_cases e : k = i
 ·subst e; rw [updV_eq]; exact hv u hu
 ·rw [updV_ne _ _ e]; rw [updL_ne _ e] at hL; exact h k u hu hL
theorem pa_up (h : L ia = true → ∀ i, i < ia → L i = true) (k : Nat) (hk : k ≠ ia) : updL L k ia = true → ∀ i, i < ia → updL L k i = true := by
 intro hL i hi
 rw [updL_ne _ (Ne.symm hk)] at hL
 by_cases e : i = k
 ·rw [e, updL_eq]
 ·rw [updL_ne _ e]; exact h hL i hi
theorem AppB.up (h : AppB R j1 j2 d w0 ic ib ia iy sx iz bt blkO base e size n va xs zs El vals L V X) (i : Nat) (h1 : i ≠ ic) (h2 : i ≠ ib) (h3 : i ≠ ia) (h4 : i ≠ sx) (h5 : i ≠ iz) (h6 : i ≠ iy) {v : Value} (hv : vals[i]? = some (some v)) :
  AppB R j1 j2 d w0 ic ib ia iy sx iz bt blkO base e size n va xs zs El vals (updL L i) (updV V i v) X := by
 refine ⟨det_up h.det i v (fun u hu => by rw [hv] at hu; cases hu; rfl), h.st, ?_, ?_, ?_, ?_, ?_, ?_, pa_up h.pa i h3, ?_, ?_, ?_⟩
 ·rw [updL_ne _ (Ne.symm h1)]; exact h.rd
 ·rw [updL_ne _ (Ne.symm h1), updL_ne _ (Ne.symm h3), updV_ne _ _ (Ne.symm h1), updV_ne _ _ (Ne.symm h3)]; exact h.el
 ·rw [updL_ne _ (Ne.symm h2), updL_ne _ (Ne.symm h3), updV_ne _ _ (Ne.symm h2)]; exact h.bl
 ·rw [updL_ne _ (Ne.symm h3)]; exact h.old
 ·rw [updL_ne _ (Ne.symm h3), updV_ne _ _ (Ne.symm h3), updL_ne _ (Ne.symm h4), updV_ne _ _ (Ne.symm h1)]; exact h.new
 ·rw [updL_ne _ (Ne.symm h5), updV_ne _ _ (Ne.symm h3)]; exact h.blk
 ·rw [updL_ne _ (Ne.symm h4), updL_ne _ (Ne.symm h3)]; exact h.ps
 ·rw [updL_ne _ (Ne.symm h5), updL_ne _ (Ne.symm h3)]; exact h.pz
 ·rw [updL_ne _ (Ne.symm h6), updL_ne _ (Ne.symm h3), updV_ne _ _ (Ne.symm h3), updV_ne _ _ (Ne.symm h6)]; exact h.ix
theorem AppB.noA (h : AppB R j1 j2 d w0 ic ib ia iy sx iz bt blkO base e size n va xs zs El vals L V X) {i : Nat} (hi : i < ia) (hL : L i = false) : L ia = false := by
 cases e : L ia with
 | false => rfl
 | true => rw [h.pa e i hi] at hL; cases hL
theorem AppB.noZ (h : AppB R j1 j2 d w0 ic ib ia iy sx iz bt blkO base e size n va xs zs El vals L V X) (hL : L ia = false) : L iz = false ∧ L sx = false ∧ L iy = false := by
 refine ⟨?_, ?_, ?_⟩
 ·cases e : L iz with
  | false => rfl
  | true => rw [h.pz e] at hL; cases hL
 ·cases e : L sx with
  | false => rfl
  | true => rw [h.ps e] at hL; cases hL
 ·cases e : L iy with
  | false => rfl
  | true => rw [(h.ix e).1] at hL; cases hL
theorem AppB.zero (hs : Step (fun _ => False) w0 X) (hr : RdAt R w0 j1 d) (hown : w0.ownsRow base e size va n xs) (hb : w0.heap[bt]? = some (blkO va)) :
  AppB R j1 j2 d w0 ic ib ia iy sx iz bt blkO base e size n va xs zs El vals (fun _ => false) V X :=
 ⟨fun _ _ _ h => (nomatch h), hs.mono (fun _ _ h => h.elim), hr.quiet hs, (fun h => nomatch h), (fun h => nomatch h), fun _ => hs.owns hown (fun _ _ h => h), (fun h => nomatch h), hs.keep hb (fun h => h), (fun h => nomatch h), (fun h => nomatch h), (fun h => nomatch h), (fun h => nomatch h)⟩
theorem AppB.call (hE : ElOk El) (ho : AppOk R w0 ic ib ia iy sx iz bt base size n va xs zs) (h : AppB R j1 j2 d w0 ic ib ia iy sx iz bt blkO base e size n va xs zs El vals L V X) (hL : L ic = false) (hvals : vals[ic]? = some none) (hs : Step (· = R.rb) X X') (hr : RdAt R X' j2 d) {cs : List Value} (hc : El X' (fun q => X.heap.size ≤ q) cs) :
  AppB R j1 j2 d w0 ic ib ia iy sx iz bt blkO base e size n va xs zs El vals (updL L ic) (updV V ic (.agg cs.toArray)) X' := by
 have hA := h.noA ho.hc hL
 have hZ := h.noZ hA
 have n1 : ia ≠ ic := by have := ho.hc; omega
 have n2 : iz ≠ ic := by have := ho.hc; have := ho.hz; omega
 have n5 : iy ≠ ic := by have := ho.hc; have := ho.hy; omega
 have n3 : sx ≠ ic := by have := ho.hc; have := ho.hs; omega
 refine ⟨det_up h.det ic _ (fun u hu => by rw [hvals] at hu; cases hu), h.st.trans (hs.mono (fun _ _ e => .inl e)), ?_, ?_, ?_, ?_, ?_, ?_, pa_up h.pa ic (Ne.symm n1), ?_, ?_, ?_⟩
 ·rw [updL_eq, if_pos rfl]; exact hr
 ·intro _
  refine ⟨cs, updV_eq _ _ _, hE.mono _ _ _ _ (fun q _ hq => ⟨Nat.le_trans h.st.size hq, fun h1 => ?_⟩) hc⟩
  rw [updL_ne _ n1, hA] at h1; cases h1
 ·intro h1 h2
  rw [updL_ne _ (Ne.symm ho.cb)] at h1
  obtain ⟨zb, z1, z2, z3⟩ := h.bl h1 hA
  exact ⟨zb, by rw [updV_ne _ _ (Ne.symm ho.cb)]; exact z1, z2, hs.keep z3 (by have := ho.rb; have := ho.bt; have := ho.bw; omega)⟩
 ·intro _
  exact hs.owns (h.old hA) (fun q hq e => by have := ho.rb; have := ho.bt; omega)
 ·intro h1; rw [updL_ne _ n1, hA] at h1; cases h1
 ·rw [updL_ne _ n2, hZ.1]
  have h2 := h.blk
  rw [hZ.1] at h2
  exact hs.keep h2 (by have := ho.rb; omega)
 ·intro h1; rw [updL_ne _ n3, hZ.2.1] at h1; cases h1
 ·intro h1; rw [updL_ne _ n2, hZ.1] at h1; cases h1
 ·intro h1; rw [updL_ne _ n5, hZ.2.2] at h1; cases h1
theorem AppB.build (hE : ElOk El) (ho : AppOk R w0 ic ib ia iy sx iz bt base size n va xs zs) (h : AppB R j1 j2 d w0 ic ib ia iy sx iz bt blkO base e size n va xs zs El vals L V X) (hL : L ib = false) (hvals : vals[ib]? = some none) :
  AppB R j1 j2 d w0 ic ib ia iy sx iz bt blkO base e size n va xs zs El vals (updL L ib) (updV V ib (.slice (some ⟨X.heap.size, 0, none⟩) 1 1)) (X.alloc (.cells zs.toArray e)) := by
 have hA := h.noA ho.hb hL
 have hZ := h.noZ hA
 have n1 : ia ≠ ib := by have := ho.hb; omega
 have n2 : iz ≠ ib := by have := ho.hb; have := ho.hz; omega
 have n5 : iy ≠ ib := by have := ho.hb; have := ho.hy; omega
 have n3 : sx ≠ ib := by have := ho.hb; have := ho.hs; omega
 have hs : Step (fun _ => False) X (X.alloc (.cells zs.toArray e)) := (Step.refl _ _).alloc _
 refine ⟨det_up h.det ib _ (fun u hu => by rw [hvals] at hu; cases hu), h.st.alloc _, ?_, ?_, ?_, ?_, ?_, ?_, pa_up h.pa ib (Ne.symm n1), ?_, ?_, ?_⟩
 ·rw [updL_ne _ ho.cb]; exact h.rd.quiet hs
 ·intro h1
  rw [updL_ne _ ho.cb] at h1
  obtain ⟨cs, c1, c2⟩ := h.el h1
  refine ⟨cs, by rw [updV_ne _ _ ho.cb]; exact c1, ?_⟩
  rw [updL_ne _ n1, updV_ne _ _ n1]
  exact hE.step _ _ _ _ _ hs (fun _ _ h => h) c2
 ·intro _ _
  exact ⟨X.heap.size, updV_eq _ _ _, h.st.size, blk_new _ _⟩
 ·intro _
  exact hs.owns (h.old hA) (fun _ _ h => h)
 ·intro h1; rw [updL_ne _ n1, hA] at h1; cases h1
 ·rw [updL_ne _ n2, hZ.1]
  have h2 := h.blk
  rw [hZ.1] at h2
  exact blk_alloc h2
 ·intro h1; rw [updL_ne _ n3, hZ.2.1] at h1; cases h1
 ·intro h1; rw [updL_ne _ n2, hZ.1] at h1; cases h1
 ·intro h1; rw [updL_ne _ n5, hZ.2.2] at h1; cases h1
theorem AppB.app (hE : ElOk El) (ho : AppOk R w0 ic ib ia iy sx iz bt base size n va xs zs) (h : AppB R j1 j2 d w0 ic ib ia iy sx iz bt blkO base e size n va xs zs El vals L V X) (hL : L ia = false) (hall : ∀ i, i < ia → L i = true) (hvals : vals[ia]? = some none) {v' : Value}
  (hown : X'.ownsRow base e size v' (n + 1) (xs ++ zs)) (hgrow : X.grownBy X' va.ownBlock) (hat : v'.ownBlock = va.ownBlock ∨ v'.ownBlock = some X.heap.size) :
  AppB R j1 j2 d w0 ic ib ia iy sx iz bt blkO base e size n va xs zs El vals (updL L ia) (updV V ia v') X' := by
 have hZ := h.noZ hL
 have n1 : ic ≠ ia := by have := ho.hc; omega
 have n2 : iz ≠ ia := by have := ho.hz; omega
 have n5 : iy ≠ ia := by have := ho.hy; omega
 have n3 : sx ≠ ia := by have := ho.hs; omega
 have n4 : ib ≠ ia := by have := ho.hb; omega
 have hs : Step (fun k => va.ownBlock = some k) X X' := grown_step hgrow
 obtain ⟨g, c, cur, hv', hbg, hcur, -⟩ := owns_cells hown (by omega)
 have hg : va.ownBlock = some g ∨ X.heap.size ≤ g := by
  rcases hat with h1 | h1
  ·left; rw [← h1, hv']; rfl
  ·right; rw [hv'] at h1; have : g = X.heap.size := Option.some.inj h1; omega
 have hX := h.st.size
 refine ⟨det_up h.det ia _ (fun u hu => by rw [hvals] at hu; cases hu), h.st.trans (hs.mono (fun q _ e => .inr (.inr e))), ?_, ?_, ?_, ?_, ?_, ?_, ?_, ?_, ?_, ?_⟩
 ·rw [updL_ne _ n1]
  exact h.rd.step hs (fun k hk e => by have := ho.own k e; have := ho.rb; have := ho.bt; omega)
 ·intro h1
  rw [updL_ne _ n1] at h1
  obtain ⟨cs, c1, c2⟩ := h.el h1
  refine ⟨cs, by rw [updV_ne _ _ n1]; exact c1, ?_⟩
  rw [updV_eq]
  have c3 := hE.mono _ _ (fun q => w0.heap.size ≤ q ∧ q < X.heap.size) _ (fun q h1 h2 => ⟨h2.1, h1⟩) c2
  have c4 := hE.step _ _ _ _ _ hs (fun q hq e => by have := ho.own q e; omega) c3
  refine hE.mono _ _ _ _ (fun q _ hq => ⟨hq.1, fun _ e => ?_⟩) c4
  rw [hv'] at e
  have e2 : g = q := Option.some.inj e
  rcases hg with h5 | h5
  ·have := ho.own g h5; omega
  ·omega
 ·intro _ h2; rw [updL_eq] at h2; cases h2
 ·intro h2; rw [updL_eq] at h2; cases h2
 ·intro _
  refine ⟨g, c, by rw [updV_eq]; exact hv', ?_, zs, by rw [updV_eq]; exact hown, ho.zs, fun h1 => ?_⟩
  ·rcases hg with h5 | h5
   ·exact .inl h5
   ·exact .inr (by omega)
  ·rw [updL_ne _ n3, hZ.2.1] at h1; cases h1
 ·rw [updL_ne _ n2, hZ.1]
  have h2 := h.blk
  rw [hZ.1] at h2
  exact hs.keep h2 (fun e => by have := ho.own bt e; have := ho.bt; omega)
 ·intro _ i hi
  rw [updL_ne _ (by omega)]; exact hall i hi
 ·intro _; exact updL_eq _ _
 ·intro _; exact updL_eq _ _
 ·intro h1; rw [updL_ne _ n5, hZ.2.2] at h1; cases h1
theorem AppB.put (hE : ElOk El) (ho : AppOk R w0 ic ib ia iy sx iz bt base size n va xs zs) (h : AppB R j1 j2 d w0 ic ib ia iy sx iz bt blkO base e size n va xs zs El vals L V X) (hA : L ia = true) (hvals : ∀ u, vals[sx]? = some (some u) → undef = u) {g c : Nat} (hV : V ia = .slice (some ⟨g, 0, none⟩) (n + 1) c) {cs : List Value} (hcs : V ic = .agg cs.toArray) (hcl : cs.length = size)
  {cur : Array Value} (hcur : X.heap[g]? = some (.cells cur e (0, 0))) (hnew : X'.heap[g]? = some (.cells (cur.toList.take (n * size) ++ (cs ++ cur.toList.drop (n * size + cs.length))).toArray e (0, 0))) (hs : Step (· = g) X X') :
  AppB R j1 j2 d w0 ic ib ia iy sx iz bt blkO base e size n va xs zs El vals (updL L sx) (updV V sx undef) X' := by
 have n1 : ic ≠ sx := by have := ho.hc; have := ho.hs; omega
 have n2 : iz ≠ sx := Ne.symm ho.sz
 have n5 : iy ≠ sx := Ne.symm ho.ys
 have n3 : ia ≠ sx := by have := ho.hs; omega
 have n4 : ib ≠ sx := by have := ho.hb; have := ho.hs; omega
 obtain ⟨g', c', hV', hg, ys, hown, hyl, -⟩ := h.new hA
 rw [hV] at hV'
 cases hV'
 have hgb : base ≤ g := by rw [hV] at hown; exact (hown.lt g rfl).1
 rw [hV] at hown
 refine ⟨det_up h.det sx _ hvals, h.st.then hs (fun q hq e => ?_), ?_, ?_, ?_, ?_, ?_, ?_, pa_up h.pa sx (Ne.symm n3), ?_, ?_, ?_⟩
 ·subst e
  rcases hg with h5 | h5
  ·exact .inr (.inr h5)
  ·omega
 ·rw [updL_ne _ n1]
  exact h.rd.step hs (fun k hk e => by have := ho.rb; have := ho.bt; omega)
 ·intro h1
  rw [updL_ne _ n1] at h1
  obtain ⟨cs2, c1, c2⟩ := h.el h1
  refine ⟨cs2, by rw [updV_ne _ _ n1]; exact c1, ?_⟩
  rw [updL_ne _ n3, updV_ne _ _ n3]
  refine hE.step _ _ _ _ _ hs (fun q hq e => ?_) c2
  exact hq.2 hA (by rw [hV, e]; rfl)
 ·intro _ h2; rw [updL_ne _ n3, hA] at h2; cases h2
 ·intro h2; rw [updL_ne _ n3, hA] at h2; cases h2
 ·intro _
  refine ⟨g, c, by rw [updV_ne _ _ n3]; exact hV, hg, cs, ?_, hcl, fun _ => by rw [updV_ne _ _ n1]; exact hcs⟩
  rw [updV_ne _ _ n3, hV]
  exact owns_put hown ho.xs hcl hcur hnew
 ·rw [updL_ne _ n2, updV_ne _ _ n3]
  exact hs.keep h.blk (fun e => by have := ho.bt; omega)
 ·intro _; rw [updL_ne _ n3]; exact hA
 ·intro _; rw [updL_ne _ n3]; exact hA
 ·rw [updL_ne _ n5, updL_ne _ n3, updV_ne _ _ n3, updV_ne _ _ n5]; exact h.ix
theorem AppB.last (hE : ElOk El) (ho : AppOk R w0 ic ib ia iy sx iz bt base size n va xs zs) (h : AppB R j1 j2 d w0 ic ib ia iy sx iz bt blkO base e size n va xs zs El vals L V X) (hA : L ia = true) (hvals : ∀ u, vals[iz]? = some (some u) → undef = u)
  (hnew : X'.heap[bt]? = some (blkO (V ia))) (hs : Step (· = bt) X X') :
  AppB R j1 j2 d w0 ic ib ia iy sx iz bt blkO base e size n va xs zs El vals (updL L iz) (updV V iz undef) X' := by
 have n1 : ic ≠ iz := by have := ho.hc; have := ho.hz; omega
 have n2 : sx ≠ iz := ho.sz
 have n5 : iy ≠ iz := Ne.symm ho.yz
 have n3 : ia ≠ iz := by have := ho.hz; omega
 obtain ⟨g, c, hV, hg, ys, hown, hyl, hys⟩ := h.new hA
 refine ⟨det_up h.det iz _ hvals, h.st.trans (hs.mono (fun q _ e => .inr (.inl e))), ?_, ?_, ?_, ?_, ?_, ?_, pa_up h.pa iz (Ne.symm n3), ?_, ?_, ?_⟩
 ·rw [updL_ne _ n1]
  exact h.rd.step hs (fun k hk e => by have := ho.rb; omega)
 ·intro h1
  rw [updL_ne _ n1] at h1
  obtain ⟨cs2, c1, c2⟩ := h.el h1
  refine ⟨cs2, by rw [updV_ne _ _ n1]; exact c1, ?_⟩
  rw [updL_ne _ n3, updV_ne _ _ n3]
  exact hE.step _ _ _ _ _ hs (fun q hq e => by have := ho.bt; have := ho.bw; omega) c2
 ·intro _ h2; rw [updL_ne _ n3, hA] at h2; cases h2
 ·intro h2; rw [updL_ne _ n3, hA] at h2; cases h2
 ·intro _
  refine ⟨g, c, by rw [updV_ne _ _ n3]; exact hV, hg, ys, ?_, hyl, ?_⟩
  ·rw [updV_ne _ _ n3]
   exact hs.owns hown (fun q hq e => by have := ho.bt; omega)
  ·rw [updL_ne _ n2, updV_ne _ _ n1]; exact hys
 ·rw [updL_eq, if_pos rfl, updV_ne _ _ n3]; exact hnew
 ·intro _; rw [updL_ne _ n3]; exact hA
 ·intro _; rw [updL_ne _ n3]; exact hA
 ·rw [updL_ne _ n5, updL_ne _ n3, updV_ne _ _ n3, updV_ne _ _ n5]; exact h.ix
theorem AppB.index (ho : AppOk R w0 ic ib ia iy sx iz bt base size n va xs zs) (h : AppB R j1 j2 d w0 ic ib ia iy sx iz bt blkO base e size n va xs zs El vals L V X) (hA : L ia = true) (hvals : vals[iy]? = some none) {g c : Nat} (hV : V ia = .slice (some ⟨g, 0, none⟩) (n + 1) c) :
  AppB R j1 j2 d w0 ic ib ia iy sx iz bt blkO base e size n va xs zs El vals (updL L iy) (updV V iy (.pointer (some ⟨g, n * size, none⟩))) X := by
 have n1 : ic ≠ iy := by have := ho.hc; have := ho.hy; omega
 have n2 : iz ≠ iy := ho.yz
 have n3 : ia ≠ iy := by have := ho.hy; omega
 have n4 : ib ≠ iy := by have := ho.hb; have := ho.hy; omega
 have n5 : sx ≠ iy := ho.ys
 refine ⟨det_up h.det iy _ (fun u hu => by rw [hvals] at hu; cases hu), h.st, ?_, ?_, ?_, ?_, ?_, ?_, pa_up h.pa iy (Ne.symm n3), ?_, ?_, ?_⟩
 ·rw [updL_ne _ n1]; exact h.rd
 ·rw [updL_ne _ n1, updL_ne _ n3, updV_ne _ _ n1, updV_ne _ _ n3]; exact h.el
 ·rw [updL_ne _ n4, updL_ne _ n3, updV_ne _ _ n4]; exact h.bl
 ·rw [updL_ne _ n3]; exact h.old
 ·rw [updL_ne _ n3, updV_ne _ _ n3, updL_ne _ n5, updV_ne _ _ n1]; exact h.new
 ·rw [updL_ne _ n2, updV_ne _ _ n3]; exact h.blk
 ·rw [updL_ne _ n5, updL_ne _ n3]; exact h.ps
 ·rw [updL_ne _ n2, updL_ne _ n3]; exact h.pz
 ·intro _
  refine ⟨by rw [updL_ne _ n3]; exact hA, fun g2 c2 h2 => ?_⟩
  rw [updV_ne _ _ n3, hV] at h2
  cases h2
  rw [updV_eq]
/- What stands behind the region. -/
theorem AppB.done (h : AppB R j1 j2 d w0 ic ib ia iy sx iz bt blkO base e size n va xs zs El vals L V X) (hall : L ic = true ∧ L ia = true ∧ L sx = true ∧ L iz = true) :
  ∃ (g c : Nat) (cs : List Value), RdAt R X j2 d ∧ X.heap[bt]? = some (blkO (.slice (some ⟨g, 0, none⟩) (n + 1) c)) ∧ X.ownsRow base e size (.slice (some ⟨g, 0, none⟩) (n + 1) c) (n + 1) (xs ++ cs) ∧ El X (fun q => w0.heap.size ≤ q ∧ q ≠ g) cs ∧ (va.ownBlock = some g ∨ w0.heap.size ≤ g) ∧ Step (fun q => q = R.rb ∨ q = bt ∨ va.ownBlock = some q) w0 X ∧ base ≤ g := by
 obtain ⟨h1, h2, h3, h4⟩ := hall
 obtain ⟨g, c, hV, hg, ys, hown, hyl, hys⟩ := h.new h2
 obtain ⟨cs, c1, c2⟩ := h.el h1
 have e := hys h3
 rw [c1] at e
 have e2 : cs = ys := by
  have e3 : cs.toArray = ys.toArray := by injection e
  have := congrArg Array.toList e3
  simpa using this
 subst e2
 have hr := h.rd
 have hb := h.blk
 rw [h1, if_pos rfl] at hr
 rw [h4, if_pos rfl, hV] at hb
 rw [hV] at hown c2
 refine ⟨g, c, cs, hr, hb, hown, ?_, hg, h.st, (hown.lt g rfl).1⟩
 have hP : (fun q => w0.heap.size ≤ q ∧ (L ia = true → (Value.slice (some ⟨g, 0, none⟩) (n + 1) c).ownBlock ≠ some q)) = (fun q => w0.heap.size ≤ q ∧ q ≠ g) := by
  funext q
  apply propext
  constructor
  ·rintro ⟨a, b⟩; exact ⟨a, fun e => b h2 (by rw [e]; rfl)⟩
  ·rintro ⟨a, b⟩; exact ⟨a, fun _ e => b (Option.some.inj e).symm⟩
 rw [hP] at c2
 exact c2
end
theorem TyEl (a : Ty) : ElOk (fun w P cs => TyP w P a cs) := ⟨fun _ _ _ _ cs hs hP h => TyP.step hs hP a cs h, fun _ _ _ cs hp h => TyP.mono hp a cs h⟩
theorem frF_defers {ops : Array Oper} {L : Nat → Bool} {V : Nat → Value} : ∀ (is : List Nat) (a : Act), (frF ops L V is a).defers = a.defers
 | [], _ => rfl
 | i :: r, a => by
  simp only [frF]
  rw [frF_defers r]
  split
  ·cases dstO ops i <;> rfl
  ·rfl
section
variable {P : Program} {md : Region.Mode} {ops : Array Oper} {Q : Exit → Act → World → Prop} {a0 : Act} {n : Nat} {J : (Nat → Bool) → (Nat → Value) → World → Prop}
def DSteps (P : Program) (md : Region.Mode) (ops : Array Oper) (Q : Exit → Act → World → Prop) (a0 : Act) (n : Nat) (J : (Nat → Bool) → (Nat → Value) → World → Prop) : Nat → List Oper → Prop
 | _, [] => True
 | i, o :: r => (∀ (L : Nat → Bool) (V : Nat → Value) (w : World) (a : Act), (∀ j k, dstO ops j = some k → L j = true → a.tmps[k]?.getD undef = V j) → (∀ k, oldD ops (List.range n) k = true → a.tmps[k]?.getD undef = a0.tmps[k]?.getD undef) → a.defers = a0.defers →
   L i = false → (∀ j, (depsD md o).contains j = true → L j = true) → J L V w → o.wp P a w (fun a' w' => ∃ v, a' = a.put o.dst v ∧ J (updL L i) (updV V i v) w') Q) ∧ DSteps P md ops Q a0 n J (i + 1) r
theorem DSteps.get : ∀ (l : List Oper) (i k : Nat) (o : Oper), DSteps P md ops Q a0 n J k l → l[i]? = some o →
  ∀ (L : Nat → Bool) (V : Nat → Value) (w : World) (a : Act), (∀ j k, dstO ops j = some k → L j = true → a.tmps[k]?.getD undef = V j) → (∀ k, oldD ops (List.range n) k = true → a.tmps[k]?.getD undef = a0.tmps[k]?.getD undef) → a.defers = a0.defers →
   L (k + i) = false → (∀ j, (depsD md o).contains j = true → L j = true) → J L V w → o.wp P a w (fun a' w' => ∃ v, a' = a.put o.dst v ∧ J (updL L (k + i)) (updV V (k + i) v) w') Q
 | [], i, k, o, _, h => by simp at h
 | x :: r, 0, k, o, hs, h => by
  simp at h; subst h
  exact hs.1
 | x :: r, i + 1, k, o, hs, h => by
  have := DSteps.get r i (k + 1) o hs.2 (by simpa using h)
  rwa [Nat.add_assoc, Nat.add_comm 1 i] at this
theorem wpAny_relyD (hn : ops.size = n) (hd : apartD ops (List.range n) = true) (hb : backD md ops = true) (hr : roomD ops (List.range n) a0.tmps.size = true) (hg : (ops.toList.all fun o => o.guard.isNone) = true)
  (hs : DSteps P md ops Q a0 n J 0 ops.toList) (hdone : ∀ L V w, (∀ i, i < n → L i = true) → J L V w → Q .normal (putF ops V (List.range n) a0) w) :
  ∀ (fuel : Nat) (listed : Array Bool) (L : Nat → Bool) (V : Nat → Value) (w : World), listed.size = n → (∀ i, i < n → L i = listed.getD i true) → leftF listed ≤ fuel → J L V w →
   wpAny P md ops Q fuel listed (frF ops L V (List.range n) a0) w := by
 have hall : ∀ (listed : Array Bool) (L : Nat → Bool) (V : Nat → Value) (w : World), (∀ i, i < n → L i = listed.getD i true) → (∀ i, listed.getD i true = true) → J L V w → Q .normal (frF ops L V (List.range n) a0) w := by
  intro listed L V w hL h hJ
  rw [frF_all _ _ (fun i hi => by rw [hL i (List.mem_range.1 hi), h i])]
  exact hdone L V w (fun i hi => by rw [hL i hi, h i]) hJ
 have hmono : ∀ (i : Nat) (o : Oper), ops[i]? = some o → ∀ e ∈ o.after, Region.binds md e = true → e.on < i := by
  intro i o ho e he hbe
  have hi : i < ops.size := (Array.getElem?_eq_some_iff.1 ho).1
  have h := List.all_eq_true.1 hb i (List.mem_range.2 hi)
  simp only [ho] at h
  have h2 := Array.all_eq_true_iff_forall_mem.1 h e he
  simpa [hbe] using h2
 intro fuel
 induction fuel with
 | zero =>
  intro listed L V w hsz hL hc hJ
  have h0 := leftF_zero (Nat.le_zero.1 hc)
  refine ⟨List.eq_nil_iff_forall_not_mem.2 (fun i hi => ?_), hall listed L V w hL h0 hJ⟩
  have := (mem_ready.1 hi).1
  rw [h0 i] at this; cases this
 | succ fuel ih =>
  intro listed L V w hsz hL hc hJ
  refine ⟨fun hnil => ?_, fun i hi => ?_⟩
  ·refine hall listed L V w hL (fun i => ?_) hJ
   induction i using Nat.strongRecOn with
   | ind i ihi =>
    cases hlt : listed.getD i true with
    | true => rfl
    | false =>
     have hi : i < listed.size := by
      rcases Nat.lt_or_ge i listed.size with h | h
      ·exact h
      ·rw [Array.getD_eq_getD_getElem?, Array.getElem?_eq_none h] at hlt; cases hlt
     have hmem : i ∈ Region.ready md ops listed := by
      refine mem_ready.2 ⟨hlt, ops[i]'(by omega), Array.getElem?_eq_getElem (by omega), fun e he hbe => ?_⟩
      have h1 := hmono i _ (Array.getElem?_eq_getElem (by omega)) e he hbe
      have h2 := ihi e.on h1
      rw [Array.getD_eq_getD_getElem?] at h2 ⊢
      rw [Array.getElem?_eq_getElem (show e.on < listed.size by omega)] at h2 ⊢
      simpa using h2
     rw [hnil] at hmem; cases hmem
  ·obtain ⟨h1, o, ho, h2⟩ := mem_ready.1 hi
   have hin : i < n := by rw [← hn]; exact (Array.getElem?_eq_some_iff.1 ho).1
   have hLi : L i = false := by rw [hL i hin]; exact h1
   have hgo : o.guard = none := by
    have := List.all_eq_true.1 hg o (by simpa using Array.mem_of_getElem? ho)
    simpa using this
   have hap : ∀ j, j ∈ List.range n → i ≠ j → ∀ d, dstO ops j = some d → dstO ops i ≠ some d := fun j hj hne d h3 => apartD_out hd hj (List.mem_range.2 hin) (Ne.symm hne) d h3
   have hob := DSteps.get ops.toList i 0 o hs (by simpa using ho) L V w (frF ops L V (List.range n) a0)
    (fun j k hjk hLj => by
     have hjn : j < n := by
      rw [← hn]
      rcases Nat.lt_or_ge j ops.size with h | h
      ·exact h
      ·simp [dstO, Array.getElem?_eq_none h] at hjk
     rw [← evalTmp]
     refine frF_eval hjk hLj _ _ List.nodup_range (List.mem_range.2 hjn) (fun m hm hne => apartD_out hd (List.mem_range.2 hjn) hm hne k hjk) ?_
     have := List.all_eq_true.1 hr j (List.mem_range.2 hjn)
     simp only [hjk] at this
     simpa using this)
    (fun k hk => by
     rw [← evalTmp, ← evalTmp]
     exact frF_old _ _ (fun j hj e => by
     have := List.all_eq_true.1 hk j hj
     simp [e] at this))
    (frF_defers _ _)
    (by rw [Nat.zero_add]; exact hLi)
    (fun j hj => by
     have hj' : j ∈ depsD md o := by simpa using hj
     obtain ⟨e, he, rfl⟩ := List.mem_map.1 hj'
     obtain ⟨he1, he2⟩ := List.mem_filter.1 he
     have h3 := h2 e (by simpa using he1) he2
     have h4 := hmono i o ho e (by simpa using he1) he2
     rw [hL e.on (by omega)]
     rw [Array.getD_eq_getD_getElem?] at h3 ⊢
     rw [Array.getElem?_eq_getElem (show e.on < listed.size by omega)] at h3 ⊢
     simpa using h3) hJ
   rw [Nat.zero_add] at hob
   unfold wpOp
   simp only [ho]
   have hw : Region.wanted o (yielded ops (frF ops L V (List.range n) a0).tmps) = true := by simp [Region.wanted, hgo]
   rw [if_pos hw]
   refine .inl (Oper.wp_mono ?_ hob)
   rintro a' w' ⟨v, rfl, hJ'⟩
   have hdst : o.dst = dstO ops i := by simp [dstO, ho]
   rw [hdst, frF_step hLi _ _ List.nodup_range (List.mem_range.2 hin) hap]
   refine ih (listed.setIfInBounds i true) _ _ w' (by simp [hsz]) (fun j hj => ?_) (by have := leftF_set listed i h1; omega) hJ'
   unfold updL
   by_cases e : j = i
   ·subst e
    rw [if_pos rfl, Array.getD_eq_getD_getElem?, Array.getElem?_setIfInBounds_self_of_lt (by omega)]; rfl
   ·rw [if_neg e, hL j hj, Array.getD_eq_getD_getElem?, Array.getD_eq_getD_getElem?, Array.getElem?_setIfInBounds_ne (Ne.symm e)]
/- A region that draws its order. -/
theorem wp_region_relyD {id : Nat} {w : World} (hm : P.follows .mixedOrders = true) (J : (Nat → Bool) → (Nat → Value) → World → Prop) (n : Nat) (hn : ops.size = n) (hd : apartD ops (List.range n) = true) (hb : backD .any ops = true)
  (hr : roomD ops (List.range n) a0.tmps.size = true) (hg : (ops.toList.all fun o => o.guard.isNone) = true) (h0 : J (fun _ => false) (fun _ => undef) w.drew)
  (hs : DSteps P .any ops Q a0 n J 0 ops.toList) (hdone : ∀ L V w, (∀ i, i < n → L i = true) → J L V w → Q .normal (putF ops V (List.range n) a0) w) : (Code.region id ops true).wp P Q a0 w := by
 refine wp_region_any hm ?_
 have h := wpAny_relyD (P := P) hn hd hb hr hg hs hdone ops.size (Array.replicate ops.size false) (fun _ => false) (fun _ => undef) w.drew (by simp [hn])
  (fun i hi => by rw [Array.getD_eq_getD_getElem?, Array.getElem?_replicate, if_pos (by omega)]; rfl) (by
   unfold leftF
   simp only [Array.toList_replicate]
   exact Nat.le_trans List.countP_le_length (by simp)) h0
 rw [frF_none _ _ (fun _ => rfl)] at h
 exact h
end
end Go.Proofs.Ytppekkbaoimpgaa
