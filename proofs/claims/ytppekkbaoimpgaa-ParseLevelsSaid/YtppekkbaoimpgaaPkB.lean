/- LxB, LxW, Rd, Tr, Pa -/
import Derived.Test.YtppekkbaoimpgaaPkA
import Derived.Lib.IndexMore
import Derived.StillTailTactics
import Derived.Deep.DeepCutAuto
import Derived.Deep.CutBlock
set_option maxRecDepth 100000
set_option maxHeartbeats 8000000
namespace Go.Proofs.Ytppekkbaoimpgaa
open Go.RowKit
theorem contains_cons (b : UInt8) (l sub : List UInt8) : Lib.contains (b :: l) sub = (sub.isPrefixOf (b :: l) || Lib.contains l sub) := by
 unfold Lib.contains
 rw [Lib.index]
 have := Lib.index_ge l sub
 cases h : sub.isPrefixOf (b :: l)
 ·by_cases h1 : Lib.index l sub = -1
  ·simp [h1]
  ·have : (Lib.index l sub == -1) = false := by rw [beq_eq_false_iff_ne]; exact h1
   simp [this]; omega
 ·simp
theorem contains_nil (a : UInt8) (l : List UInt8) : Lib.contains [] (a :: l) = false := rfl
def isTwo (a b : UInt8) : Bool := (a == 45 && b == 62) || (a == 61 && b == 61) || (a == 38 && b == 38)
def isOne (a : UInt8) : Bool := [40, 41, 123, 125, 60, 62, 44, 59, 58, 61, 38, 124, 43, 45, 42, 47, 33, 46].contains a
theorem two_contains (a b : UInt8) (ha : a ≠ 32) (hb : b ≠ 32) : Lib.contains [45, 62, 32, 61, 61, 32, 38, 38, 32] [a, b] = isTwo a b := by
 have ha' : (a == 32) = false := by rw [beq_eq_false_iff_ne]; exact ha
 have hb' : (b == 32) = false := by rw [beq_eq_false_iff_ne]; exact hb
 simp only [contains_cons, contains_nil, List.isPrefixOf, ha', hb', isTwo, Bool.and_true, Bool.and_false, Bool.false_and, Bool.or_false, Bool.false_or, Bool.or_assoc]
theorem one_contains (a : UInt8) : Lib.contains [40, 41, 123, 125, 60, 62, 44, 59, 58, 61, 38, 124, 43, 45, 42, 47, 33, 46] [a] = isOne a := by
 simp only [contains_cons, contains_nil, List.isPrefixOf, isOne, List.contains_cons, List.contains_nil, Bool.and_true]
def markF : List UInt8 → Except Nat (Nat × Nat × Nat)
 | a :: b :: _ => if isTwo a b then .ok (5, 2, 0) else if isOne a then .ok (5, 1, 0) else .error 1
 | [a] => if isOne a then .ok (5, 1, 0) else .error 1
 | [] => .error 1
theorem cell_drewN {w : World} {a : Addr} {v : Value} {n : Nat} (h : w.cell? a = some v) : (w.drewN n).cell? a = some v := h
theorem two_any (u : ByteArray) (v : Bool) (m : Int) (w : World) (hu : Lib.contains [45, 62, 32, 61, 61, 32, 38, 38, 32] u.data.toList = v) (hm : w.cell? ⟨0, 0, none⟩ = some (.int .i64 m)) :
  Calls Try.prog 72 #[.string ⟨#[45, 62, 32, 61, 61, 32, 38, 38, 32]⟩, .string u] w fun e w' => e = .returned (.bool v) ∧ w = w' :=
 (Try.strings_Contains _ _ m _ (by decide) hm).mono fun _ _ h => ⟨by rw [h.1]; exact ret_bool hu, h.2.symm⟩
theorem one_any (u : ByteArray) (v : Bool) (m : Int) (w : World) (hu : Lib.contains [40, 41, 123, 125, 60, 62, 44, 59, 58, 61, 38, 124, 43, 45, 42, 47, 33, 46] u.data.toList = v) (hm : w.cell? ⟨0, 0, none⟩ = some (.int .i64 m)) :
  Calls Try.prog 72 #[.string ⟨#[40, 41, 123, 125, 60, 62, 44, 59, 58, 61, 38, 124, 43, 45, 42, 47, 33, 46]⟩, .string u] w fun e w' => e = .returned (.bool v) ∧ w = w' :=
 (Try.strings_Contains _ _ m _ (by decide) hm).mono fun _ _ h => ⟨by rw [h.1]; exact ret_bool hu, h.2.symm⟩
theorem extract_extract (s : ByteArray) (p n : Nat) (_h : p + n ≤ s.size) : (s.extract p s.size).extract 0 n = s.extract p (p + n) := by
 apply str_ext
 rw [Lib.extract_data, extract_end, extract_list]; rfl
theorem mark_two (b : Nat) (s : ByteArray) (p l f : Nat) (w : World) (m : Int) (h : Cut w b s p l f) (hp : p + 1 < s.size) (hs : s.size ≤ 100000) (hm : w.cell? ⟨0, 0, none⟩ = some (.int .i64 m))
  (c d : UInt8) (rest : List UInt8) (hd : s.data.toList.drop p = c :: d :: rest) (h2 : isTwo c d = true) :
  Calls Try.prog 53 #[.pointer (some ⟨b, 0, none⟩)] w fun e w' =>
   e = .returned (.tuple #[.agg #[.int .i64 5, .string (s.extract p (p + 2)), .int .i64 0, .int .i64 0, .int .u64 0], .int .i64 0]) ∧ Cut w' b s (p + 2) l f ∧ Step (· = b) w w' := by
 obtain ⟨c0, c1, c2, c3, f0, f1, f2, f3⟩ := h.cells
 have hlt : b < w.heap.size := blk_lt h.out
 have hts : (s.extract p s.size).size = s.size - p := by rw [ByteArray.size_extract]; omega
 have htl := extract_end s p
 rw [hd] at htl
 have htx := extract_extract s p 2 (by omega)
 generalize ht : s.extract p s.size = t at *
 have h0 : 0 < t.size := by omega
 have h1 : 1 < t.size := by omega
 have g0 : t[0] = c := by rw [get_list t 0 h0, htl]; rfl
 have g1 : t[1] = d := by rw [get_list t 1 h1, htl]; rfl
 have hcd : c ≠ 32 ∧ d ≠ 32 := by
  unfold isTwo at h2
  constructor <;> (rintro rfl; revert h2; simp)
 have b0 : ((t[0].toNat : Int) != 32) = true := by rw [bne_iff_ne, g0]; exact fun e => hcd.1 (byte_is 32 e)
 have b1 : ((t[1].toNat : Int) != 32) = true := by rw [bne_iff_ne, g1]; exact fun e => hcd.2 (byte_is 32 e)
 have HC : Hid (Lib.contains [45, 62, 32, 61, 61, 32, 38, 38, 32] (t.extract 0 2).data.toList = true) := by
  show _ = _
  rw [Lib.extract_data, htl]
  exact (two_contains c d hcd.1 hcd.2).trans h2
 have HT := Lib.hid ht
 have HX := Lib.hid htx
 clear hd h2 htl g0 g1 hcd ht htx hts
 go_enter Try.func53, Try.ntmps53
 go_wp2
 go_quiet (fail)
 rw [HT.out]
 go_wp2_with (go_at_call 72; refine (two_any _ true m _ HC.out (cell_drewN (cell_alloc hm))).mono ?_; rintro e w' ⟨rfl, rfl⟩)
 rw [HX.out]
 refine bodyPost_ret (v := .tuple #[.agg #[.int .i64 5, .string (s.extract p (p + 2)), .int .i64 0, .int .i64 0, .int .u64 0], .int .i64 0]) (by simp [results, Try.results53, go_sem]) rfl ⟨rfl, ?_, ?_⟩
 ·exact (((h.alloc _).drewN _).set1 (q := p + 2) (by omega)).five (by omega)
 ·exact ((((Step.refl (· = b) w).alloc _).drewN _).setCell ⟨b, 1, none⟩ _ (fun _ => rfl)).five (Nat.le_refl _)
/- How the first of mark's two tests comes out false. -/
inductive NoTwo (c : UInt8) (r : List UInt8) : Prop where
 | short : r = [] → NoTwo c r
 | blank0 : r ≠ [] → c = 32 → NoTwo c r
 | blank1 (d : UInt8) (r' : List UInt8) : r = d :: r' → c ≠ 32 → d = 32 → NoTwo c r
 | other (d : UInt8) (r' : List UInt8) : r = d :: r' → c ≠ 32 → d ≠ 32 → isTwo c d = false → NoTwo c r
theorem mark_one (v : Bool) (b : Nat) (s : ByteArray) (p l f : Nat) (w : World) (m : Int) (h : Cut w b s p l f) (hp : p < s.size) (hs : s.size ≤ 100000) (hm : w.cell? ⟨0, 0, none⟩ = some (.int .i64 m))
  (c : UInt8) (r : List UInt8) (hd : s.data.toList.drop p = c :: r) (h2 : NoTwo c r) (h1v : isOne c = v) :
  Calls Try.prog 53 #[.pointer (some ⟨b, 0, none⟩)] w (NumPost 1 b s p l f w (if v then .ok (5, 0) else .error 1)) := by
 obtain ⟨c0, c1, c2, c3, f0, f1, f2, f3⟩ := h.cells
 have hlt : b < w.heap.size := blk_lt h.out
 have hts : (s.extract p s.size).size = s.size - p := by rw [ByteArray.size_extract]; omega
 have htl := extract_end s p
 rw [hd] at htl
 have htx := extract_extract s p 1 (by omega)
 generalize ht : s.extract p s.size = t at *
 have h0 : 0 < t.size := by omega
 have g0 : t[0] = c := by rw [get_list t 0 h0, htl]; rfl
 have hsz : t.size = r.length + 1 := by rw [Lib.size_eq, htl]; rfl
 have HC : Hid (Lib.contains [40, 41, 123, 125, 60, 62, 44, 59, 58, 61, 38, 124, 43, 45, 42, 47, 33, 46] (t.extract 0 1).data.toList = v) := by
  show _ = _
  rw [Lib.extract_data, htl]
  exact (one_contains c).trans h1v
 have HT := Lib.hid ht
 have HX := Lib.hid htx
 have ht100 : t.size ≤ 100000 := by omega
 have htl' : Hid (t.data.toList = c :: r) := htl
 clear h1v ht htx hts hd htl
 cases h2 with
 | short he =>
  have hn1 : ¬ 1 < t.size := by rw [hsz, he]; simp
  clear hsz he g0
  cases v
  ·show Calls _ _ _ _ (NumPost 1 b s p l f w (.error 1))
   go_enter Try.func53, Try.ntmps53
   go_wp2
   go_quiet (fail)
   rw [HT.out]
   go_wp2_with (go_at_call 72; refine (one_any _ _ m _ HC.out (cell_drewN (cell_alloc hm))).mono ?_; rintro e w' ⟨rfl, rfl⟩)
   refine bodyPost_ret (v := .tuple #[.agg #[.int .i64 0, .string ⟨#[]⟩, .int .i64 0, .int .i64 0, .int .u64 0], .int .i64 1]) (by simp [results, Try.results53, go_sem]) rfl ⟨rfl, ?_⟩
   exact (((Step.refl (· = b) w).alloc _).drewN _).five (Nat.le_refl _)
  ·show Calls _ _ _ _ (NumPost 1 b s p l f w (.ok (5, 0)))
   go_enter Try.func53, Try.ntmps53
   go_wp2
   go_quiet (fail)
   rw [HT.out]
   go_wp2_with (go_at_call 72; refine (one_any _ _ m _ HC.out (cell_drewN (cell_alloc hm))).mono ?_; rintro e w' ⟨rfl, rfl⟩)
   rw [HX.out]
   refine bodyPost_ret (v := .tuple #[.agg #[.int .i64 5, .string (s.extract p (p + 1)), .int .i64 0, .int .i64 0, .int .u64 0], .int .i64 0]) (by simp [results, Try.results53, go_sem]) rfl ⟨⟨rfl, ?_⟩, ?_⟩
   ·exact (((h.alloc _).drewN _).set1 (q := p + 1) (by omega)).five (by omega)
   ·exact ((((Step.refl (· = b) w).alloc _).drewN _).setCell ⟨b, 1, none⟩ _ (fun _ => rfl)).five (Nat.le_refl _)
 | blank0 hne hc =>
  have hl1 : 1 < t.size := by
   rw [hsz]; cases r with
   | nil => exact absurd rfl hne
   | cons _ _ => simp
  have b0 : ((t[0].toNat : Int) != 32) = false := by rw [g0, hc]; rfl
  clear hsz g0 hc
  cases v
  ·show Calls _ _ _ _ (NumPost 1 b s p l f w (.error 1))
   go_enter Try.func53, Try.ntmps53
   go_wp2
   go_quiet (fail)
   rw [HT.out]
   go_wp2_with (go_at_call 72; refine (one_any _ _ m _ HC.out (cell_drewN (cell_alloc hm))).mono ?_; rintro e w' ⟨rfl, rfl⟩)
   refine bodyPost_ret (v := .tuple #[.agg #[.int .i64 0, .string ⟨#[]⟩, .int .i64 0, .int .i64 0, .int .u64 0], .int .i64 1]) (by simp [results, Try.results53, go_sem]) rfl ⟨rfl, ?_⟩
   exact (((Step.refl (· = b) w).alloc _).drewN _).five (Nat.le_refl _)
  ·show Calls _ _ _ _ (NumPost 1 b s p l f w (.ok (5, 0)))
   go_enter Try.func53, Try.ntmps53
   go_wp2
   go_quiet (fail)
   rw [HT.out]
   go_wp2_with (go_at_call 72; refine (one_any _ _ m _ HC.out (cell_drewN (cell_alloc hm))).mono ?_; rintro e w' ⟨rfl, rfl⟩)
   rw [HX.out]
   refine bodyPost_ret (v := .tuple #[.agg #[.int .i64 5, .string (s.extract p (p + 1)), .int .i64 0, .int .i64 0, .int .u64 0], .int .i64 0]) (by simp [results, Try.results53, go_sem]) rfl ⟨⟨rfl, ?_⟩, ?_⟩
   ·exact (((h.alloc _).drewN _).set1 (q := p + 1) (by omega)).five (by omega)
   ·exact ((((Step.refl (· = b) w).alloc _).drewN _).setCell ⟨b, 1, none⟩ _ (fun _ => rfl)).five (Nat.le_refl _)
 | blank1 d r' hr hc hd =>
  have hl1 : 1 < t.size := by rw [hsz, hr]; simp
  have g1 : t[1] = d := by rw [get_list t 1 hl1, htl'.out, hr]; rfl
  have b0 : ((t[0].toNat : Int) != 32) = true := by rw [bne_iff_ne, g0]; exact fun e => hc (byte_is 32 e)
  have b1 : ((t[1].toNat : Int) != 32) = false := by rw [g1, hd]; rfl
  clear hsz g0 g1 hd hr
  cases v
  ·show Calls _ _ _ _ (NumPost 1 b s p l f w (.error 1))
   go_enter Try.func53, Try.ntmps53
   go_wp2
   go_quiet (fail)
   rw [HT.out]
   go_wp2_with (go_at_call 72; refine (one_any _ _ m _ HC.out (cell_drewN (cell_alloc hm))).mono ?_; rintro e w' ⟨rfl, rfl⟩)
   refine bodyPost_ret (v := .tuple #[.agg #[.int .i64 0, .string ⟨#[]⟩, .int .i64 0, .int .i64 0, .int .u64 0], .int .i64 1]) (by simp [results, Try.results53, go_sem]) rfl ⟨rfl, ?_⟩
   exact (((Step.refl (· = b) w).alloc _).drewN _).five (Nat.le_refl _)
  ·show Calls _ _ _ _ (NumPost 1 b s p l f w (.ok (5, 0)))
   go_enter Try.func53, Try.ntmps53
   go_wp2
   go_quiet (fail)
   rw [HT.out]
   go_wp2_with (go_at_call 72; refine (one_any _ _ m _ HC.out (cell_drewN (cell_alloc hm))).mono ?_; rintro e w' ⟨rfl, rfl⟩)
   rw [HX.out]
   refine bodyPost_ret (v := .tuple #[.agg #[.int .i64 5, .string (s.extract p (p + 1)), .int .i64 0, .int .i64 0, .int .u64 0], .int .i64 0]) (by simp [results, Try.results53, go_sem]) rfl ⟨⟨rfl, ?_⟩, ?_⟩
   ·exact (((h.alloc _).drewN _).set1 (q := p + 1) (by omega)).five (by omega)
   ·exact ((((Step.refl (· = b) w).alloc _).drewN _).setCell ⟨b, 1, none⟩ _ (fun _ => rfl)).five (Nat.le_refl _)
 | other d r' hr hc hd ho =>
  have hl1 : 1 < t.size := by rw [hsz, hr]; simp
  have g1 : t[1] = d := by rw [get_list t 1 hl1, htl'.out, hr]; rfl
  have b0 : ((t[0].toNat : Int) != 32) = true := by rw [bne_iff_ne, g0]; exact fun e => hc (byte_is 32 e)
  have b1 : ((t[1].toNat : Int) != 32) = true := by rw [bne_iff_ne, g1]; exact fun e => hd (byte_is 32 e)
  have HD : Hid (Lib.contains [45, 62, 32, 61, 61, 32, 38, 38, 32] (t.extract 0 2).data.toList = false) := by
   show _ = _
   rw [Lib.extract_data, htl'.out, hr]
   exact (two_contains c d hc hd).trans ho
  clear hsz g0 g1 hr ho
  cases v
  ·show Calls _ _ _ _ (NumPost 1 b s p l f w (.error 1))
   go_enter Try.func53, Try.ntmps53
   go_wp2
   go_quiet (fail)
   rw [HT.out]
   go_wp2_with fail
   refine (two_any _ _ m _ HD.out (cell_drewN (cell_alloc hm))).mono ?_
   rintro e w' ⟨rfl, rfl⟩
   go_wp2_with fail
   refine (one_any _ _ m _ HC.out (cell_drewN (cell_alloc hm))).mono ?_
   rintro e w' ⟨rfl, rfl⟩
   go_wp2
   refine bodyPost_ret (v := .tuple #[.agg #[.int .i64 0, .string ⟨#[]⟩, .int .i64 0, .int .i64 0, .int .u64 0], .int .i64 1]) (by simp [results, Try.results53, go_sem]) rfl ⟨rfl, ?_⟩
   exact (((Step.refl (· = b) w).alloc _).drewN _).five (Nat.le_refl _)
  ·show Calls _ _ _ _ (NumPost 1 b s p l f w (.ok (5, 0)))
   go_enter Try.func53, Try.ntmps53
   go_wp2
   go_quiet (fail)
   rw [HT.out]
   go_wp2_with fail
   refine (two_any _ _ m _ HD.out (cell_drewN (cell_alloc hm))).mono ?_
   rintro e w' ⟨rfl, rfl⟩
   go_wp2_with fail
   refine (one_any _ _ m _ HC.out (cell_drewN (cell_alloc hm))).mono ?_
   rintro e w' ⟨rfl, rfl⟩
   go_wp2
   rw [HX.out]
   refine bodyPost_ret (v := .tuple #[.agg #[.int .i64 5, .string (s.extract p (p + 1)), .int .i64 0, .int .i64 0, .int .u64 0], .int .i64 0]) (by simp [results, Try.results53, go_sem]) rfl ⟨⟨rfl, ?_⟩, ?_⟩
   ·exact (((h.alloc _).drewN _).set1 (q := p + 1) (by omega)).five (by omega)
   ·exact ((((Step.refl (· = b) w).alloc _).drewN _).setCell ⟨b, 1, none⟩ _ (fun _ => rfl)).five (Nat.le_refl _)
theorem mark_gives : Gives 53 markF (fun _ => True) where
 ok b s p l f w kind n val m h hp hs hm _ _ he := by
  cases hd : s.data.toList.drop p with
  | nil => rw [hd, markF] at he; simp at he
  | cons c r =>
   rw [hd] at he
   by_cases h2 : ∃ d r', r = d :: r' ∧ isTwo c d = true
   ·obtain ⟨d, r', rfl, h2⟩ := h2
    rw [markF, if_pos h2] at he
    simp at he
    obtain ⟨rfl, rfl, rfl⟩ := he
    have hp1 : p + 1 < s.size := by
     have := congrArg List.length hd
     simp at this; omega
    exact mark_two b s p l f w m h hp1 hs hm c d r' hd h2
   ·have hno : NoTwo c r ∧ (markF (c :: r) = if isOne c then .ok (5, 1, 0) else .error 1) := by
      cases r with
      | nil => exact ⟨.short rfl, rfl⟩
      | cons d r' =>
       have h3 : isTwo c d = false := by
        cases e : isTwo c d
        ·rfl
        ·exact absurd ⟨d, r', rfl, e⟩ h2
       refine ⟨?_, by rw [markF, h3]; rfl⟩
       by_cases hc : c = 32
       ·exact .blank0 (by simp) hc
       ·by_cases hd' : d = 32
        ·exact .blank1 d r' rfl hc hd'
        ·exact .other d r' rfl hc hd' h3
    rw [hno.2] at he
    cases h1 : isOne c
    ·rw [h1] at he; simp at he
    ·rw [h1] at he
     simp at he
     obtain ⟨rfl, rfl, rfl⟩ := he
     exact (mark_one true b s p l f w m h hp hs hm c r hd hno.1 h1).mono fun e w' q => ⟨q.1.1, q.1.2, q.2⟩
 bad b s p l f w e0 m h hp hs hm _ _ he := by
  cases hd : s.data.toList.drop p with
  | nil =>
   have := congrArg List.length hd
   simp at this; omega
  | cons c r =>
   rw [hd] at he
   by_cases h2 : ∃ d r', r = d :: r' ∧ isTwo c d = true
   ·obtain ⟨d, r', rfl, h2⟩ := h2
    rw [markF, if_pos h2] at he
    simp at he
   ·have hno : NoTwo c r ∧ (markF (c :: r) = if isOne c then .ok (5, 1, 0) else .error 1) := by
      cases r with
      | nil => exact ⟨.short rfl, rfl⟩
      | cons d r' =>
       have h3 : isTwo c d = false := by
        cases e : isTwo c d
        ·rfl
        ·exact absurd ⟨d, r', rfl, e⟩ h2
       refine ⟨?_, by rw [markF, h3]; rfl⟩
       by_cases hc : c = 32
       ·exact .blank0 (by simp) hc
       ·by_cases hd' : d = 32
        ·exact .blank1 d r' rfl hc hd'
        ·exact .other d r' rfl hc hd' h3
    rw [hno.2] at he
    cases h1 : isOne c
    ·rw [h1] at he
     simp at he
     subst he
     exact (mark_one false b s p l f w m h hp hs hm c r hd hno.1 h1).mono fun e w' q => q
    ·rw [h1] at he; simp at he
def nextF : List UInt8 → Except Nat (Nat × Nat × Nat)
 | [] => .error 1
 | c :: r => if isLetter c.toNat then nameF (c :: r) else if c = 39 then lifeF (c :: r) else if isDigit c.toNat then numberF (c :: r) else markF (c :: r)
theorem next_name_ok (b : Nat) (s : ByteArray) (p l f : Nat) (w : World) (kind n val : Nat) (m : Int) (h : Cut w b s p l f) (hp : p < s.size) (hs : s.size ≤ 100000) (hm : w.cell? ⟨0, 0, none⟩ = some (.int .i64 m)) (hb0 : b ≠ 0)
  (hL : isLetter (s[p].toNat : Int) = true)  (he : nameF (s.data.toList.drop p) = .ok (kind, n, val)) :
  Calls Try.prog 32 #[.pointer (some ⟨b, 0, none⟩)] w fun e w' => e = .returned (.tuple #[.agg #[.int .i64 kind, .string (s.extract p (p + n)), .int .i64 0, .int .i64 0, .int .u64 val], .int .i64 0]) ∧ Cut w' b s (p + n) l f ∧ Step (· = b) w w' := by
 obtain ⟨c0, c1, c2, c3, f0, f1, f2, f3⟩ := h.cells
 have hlt : b < w.heap.size := blk_lt h.out
 have hb255 : ((s[p].toNat : Int)) ≤ 255 := by have := s[p].toNat_lt; omega
 have hq := letter_any (s[p].toNat : Int)
 rw [hL] at hq
 have HQ := Lib.hid hq
 have HE := Lib.hid he
 clear hq hL he
 go_enter Try.func32, Try.ntmps32
 go_wp2
 go_quiet (fail)
 go_wp2_with ((go_at_call 48; refine (HQ.out _ (by omega) hb255).mono ?_; rintro e w' ⟨rfl, rfl⟩))
 refine ((name_gives.ok b s p l f _ kind n val m ((h.alloc _).drewN _) hp hs (cell_drewN (cell_alloc hm)) hb0 trivial HE.out)).mono ?_
 rintro e w1 ⟨rfl, hc1, hst⟩
 have hnb := hst.keep (blk_drewN (blk_new w _)) (by omega)
 obtain ⟨⟨d0, d1, d2, d3, d4⟩, e0, e1, e2, e3, e4⟩ := blk5 hnb
 have hst' : Step (· = b) w w1 := (((Step.refl _ w).alloc _).drewN _).trans hst
 clear hnb hst
 go_wp2
 refine bodyPost_ret (v := .tuple #[.agg #[.int .i64 kind, .string (s.extract p (p + n)), .int .i64 0, .int .i64 0, .int .u64 val], .int .i64 0]) (by simp [results, Try.results32, go_sem, d0, d1, d2, d3, d4]) rfl ⟨rfl, ?_, ?_⟩
 ·exact hc1.five (by omega)
 ·exact hst'.five (Nat.le_refl _)
theorem next_name_bad (b : Nat) (s : ByteArray) (p l f : Nat) (w : World) (c : Nat) (m : Int) (h : Cut w b s p l f) (hp : p < s.size) (hs : s.size ≤ 100000) (hm : w.cell? ⟨0, 0, none⟩ = some (.int .i64 m)) (hb0 : b ≠ 0)
  (hL : isLetter (s[p].toNat : Int) = true)  (he : nameF (s.data.toList.drop p) = .error c) :
  Calls Try.prog 32 #[.pointer (some ⟨b, 0, none⟩)] w fun e w' => e = .returned (.tuple #[.agg #[.int .i64 0, .string ⟨#[]⟩, .int .i64 0, .int .i64 0, .int .u64 0], .int .i64 c]) ∧ Step (· = b) w w' := by
 obtain ⟨c0, c1, c2, c3, f0, f1, f2, f3⟩ := h.cells
 have hlt : b < w.heap.size := blk_lt h.out
 have hb255 : ((s[p].toNat : Int)) ≤ 255 := by have := s[p].toNat_lt; omega
 have hq := letter_any (s[p].toNat : Int)
 rw [hL] at hq
 have HQ := Lib.hid hq
 have HE := Lib.hid he
 clear hq hL he
 go_enter Try.func32, Try.ntmps32
 go_wp2
 go_quiet (fail)
 go_wp2_with ((go_at_call 48; refine (HQ.out _ (by omega) hb255).mono ?_; rintro e w' ⟨rfl, rfl⟩))
 refine ((name_gives.bad b s p l f _ c m ((h.alloc _).drewN _) hp hs (cell_drewN (cell_alloc hm)) hb0 trivial HE.out)).mono ?_
 rintro e w1 ⟨rfl, hst⟩
 have hnb := hst.keep (blk_drewN (blk_new w _)) (by omega)
 obtain ⟨⟨d0, d1, d2, d3, d4⟩, e0, e1, e2, e3, e4⟩ := blk5 hnb
 have hst' : Step (· = b) w w1 := (((Step.refl _ w).alloc _).drewN _).trans hst
 clear hnb hst
 go_wp2
 refine bodyPost_ret (v := .tuple #[.agg #[.int .i64 0, .string ⟨#[]⟩, .int .i64 0, .int .i64 0, .int .u64 0], .int .i64 c]) (by simp [results, Try.results32, go_sem, d0, d1, d2, d3, d4]) rfl ⟨rfl, ?_⟩
 exact hst'.five (Nat.le_refl _)
theorem next_life_ok (b : Nat) (s : ByteArray) (p l f : Nat) (w : World) (kind n val : Nat) (m : Int) (h : Cut w b s p l f) (hp : p < s.size) (hs : s.size ≤ 100000) (hm : w.cell? ⟨0, 0, none⟩ = some (.int .i64 m)) (hb0 : b ≠ 0)
  (hL : isLetter (s[p].toNat : Int) = false) (hc : s[p] = 39) (he : lifeF (s.data.toList.drop p) = .ok (kind, n, val)) :
  Calls Try.prog 32 #[.pointer (some ⟨b, 0, none⟩)] w fun e w' => e = .returned (.tuple #[.agg #[.int .i64 kind, .string (s.extract p (p + n)), .int .i64 0, .int .i64 0, .int .u64 val], .int .i64 0]) ∧ Cut w' b s (p + n) l f ∧ Step (· = b) w w' := by
 obtain ⟨c0, c1, c2, c3, f0, f1, f2, f3⟩ := h.cells
 have hlt : b < w.heap.size := blk_lt h.out
 have hb255 : ((s[p].toNat : Int)) ≤ 255 := by have := s[p].toNat_lt; omega
 have hq := letter_any (s[p].toNat : Int)
 rw [hL] at hq
 have HQ := Lib.hid hq
 have HE := Lib.hid he
 clear hq hL he
 have hb39 : ((s[p].toNat : Int) == 39) = true := by rw [hc]; rfl
 have hg : (s.data.toList.drop p).headD 0 = 39 := by rw [drop_cons s p hp]; exact hc
 clear hc
 go_enter Try.func32, Try.ntmps32
 go_wp2
 go_quiet (fail)
 go_wp2_with ((go_at_call 48; refine (HQ.out _ (by omega) hb255).mono ?_; rintro e w' ⟨rfl, rfl⟩))
 refine ((life_gives.ok b s p l f _ kind n val m ((h.alloc _).drewN _) hp hs (cell_drewN (cell_alloc hm)) hb0 hg HE.out)).mono ?_
 rintro e w1 ⟨rfl, hc1, hst⟩
 have hnb := hst.keep (blk_drewN (blk_new w _)) (by omega)
 obtain ⟨⟨d0, d1, d2, d3, d4⟩, e0, e1, e2, e3, e4⟩ := blk5 hnb
 have hst' : Step (· = b) w w1 := (((Step.refl _ w).alloc _).drewN _).trans hst
 clear hnb hst
 go_wp2
 refine bodyPost_ret (v := .tuple #[.agg #[.int .i64 kind, .string (s.extract p (p + n)), .int .i64 0, .int .i64 0, .int .u64 val], .int .i64 0]) (by simp [results, Try.results32, go_sem, d0, d1, d2, d3, d4]) rfl ⟨rfl, ?_, ?_⟩
 ·exact hc1.five (by omega)
 ·exact hst'.five (Nat.le_refl _)
theorem next_life_bad (b : Nat) (s : ByteArray) (p l f : Nat) (w : World) (c : Nat) (m : Int) (h : Cut w b s p l f) (hp : p < s.size) (hs : s.size ≤ 100000) (hm : w.cell? ⟨0, 0, none⟩ = some (.int .i64 m)) (hb0 : b ≠ 0)
  (hL : isLetter (s[p].toNat : Int) = false) (hc : s[p] = 39) (he : lifeF (s.data.toList.drop p) = .error c) :
  Calls Try.prog 32 #[.pointer (some ⟨b, 0, none⟩)] w fun e w' => e = .returned (.tuple #[.agg #[.int .i64 0, .string ⟨#[]⟩, .int .i64 0, .int .i64 0, .int .u64 0], .int .i64 c]) ∧ Step (· = b) w w' := by
 obtain ⟨c0, c1, c2, c3, f0, f1, f2, f3⟩ := h.cells
 have hlt : b < w.heap.size := blk_lt h.out
 have hb255 : ((s[p].toNat : Int)) ≤ 255 := by have := s[p].toNat_lt; omega
 have hq := letter_any (s[p].toNat : Int)
 rw [hL] at hq
 have HQ := Lib.hid hq
 have HE := Lib.hid he
 clear hq hL he
 have hb39 : ((s[p].toNat : Int) == 39) = true := by rw [hc]; rfl
 have hg : (s.data.toList.drop p).headD 0 = 39 := by rw [drop_cons s p hp]; exact hc
 clear hc
 go_enter Try.func32, Try.ntmps32
 go_wp2
 go_quiet (fail)
 go_wp2_with ((go_at_call 48; refine (HQ.out _ (by omega) hb255).mono ?_; rintro e w' ⟨rfl, rfl⟩))
 refine ((life_gives.bad b s p l f _ c m ((h.alloc _).drewN _) hp hs (cell_drewN (cell_alloc hm)) hb0 hg HE.out)).mono ?_
 rintro e w1 ⟨rfl, hst⟩
 have hnb := hst.keep (blk_drewN (blk_new w _)) (by omega)
 obtain ⟨⟨d0, d1, d2, d3, d4⟩, e0, e1, e2, e3, e4⟩ := blk5 hnb
 have hst' : Step (· = b) w w1 := (((Step.refl _ w).alloc _).drewN _).trans hst
 clear hnb hst
 go_wp2
 refine bodyPost_ret (v := .tuple #[.agg #[.int .i64 0, .string ⟨#[]⟩, .int .i64 0, .int .i64 0, .int .u64 0], .int .i64 c]) (by simp [results, Try.results32, go_sem, d0, d1, d2, d3, d4]) rfl ⟨rfl, ?_⟩
 exact hst'.five (Nat.le_refl _)
theorem next_number_ok (b : Nat) (s : ByteArray) (p l f : Nat) (w : World) (kind n val : Nat) (m : Int) (h : Cut w b s p l f) (hp : p < s.size) (hs : s.size ≤ 100000) (hm : w.cell? ⟨0, 0, none⟩ = some (.int .i64 m)) (hb0 : b ≠ 0)
  (hL : isLetter (s[p].toNat : Int) = false) (hc : s[p] ≠ 39) (hD : isDigit (s[p].toNat : Int) = true) (he : numberF (s.data.toList.drop p) = .ok (kind, n, val)) :
  Calls Try.prog 32 #[.pointer (some ⟨b, 0, none⟩)] w fun e w' => e = .returned (.tuple #[.agg #[.int .i64 kind, .string (s.extract p (p + n)), .int .i64 0, .int .i64 0, .int .u64 val], .int .i64 0]) ∧ Cut w' b s (p + n) l f ∧ Step (· = b) w w' := by
 obtain ⟨c0, c1, c2, c3, f0, f1, f2, f3⟩ := h.cells
 have hlt : b < w.heap.size := blk_lt h.out
 have hb255 : ((s[p].toNat : Int)) ≤ 255 := by have := s[p].toNat_lt; omega
 have hq := letter_any (s[p].toNat : Int)
 rw [hL] at hq
 have HQ := Lib.hid hq
 have HE := Lib.hid he
 clear hq hL he
 have hb39 : ((s[p].toNat : Int) == 39) = false := by rw [beq_eq_false_iff_ne]; exact fun e => hc (byte_is 39 e)
 clear hc
 have hq2 := digit_any (s[p].toNat : Int)
 rw [hD] at hq2
 have HQ2 := Lib.hid hq2
 clear hq2 hD
 go_enter Try.func32, Try.ntmps32
 go_wp2
 go_quiet (fail)
 go_wp2_with (first | (go_at_call 48; refine (HQ.out _ (by omega) hb255).mono ?_; rintro e w' ⟨rfl, rfl⟩) | (go_at_call 51; refine (HQ2.out _ (by omega) hb255).mono ?_; rintro e w' ⟨rfl, rfl⟩))
 refine ((number_gives.ok b s p l f _ kind n val m ((h.alloc _).drewN _) hp hs (cell_drewN (cell_alloc hm)) hb0 trivial HE.out)).mono ?_
 rintro e w1 ⟨rfl, hc1, hst⟩
 have hnb := hst.keep (blk_drewN (blk_new w _)) (by omega)
 obtain ⟨⟨d0, d1, d2, d3, d4⟩, e0, e1, e2, e3, e4⟩ := blk5 hnb
 have hst' : Step (· = b) w w1 := (((Step.refl _ w).alloc _).drewN _).trans hst
 clear hnb hst
 go_wp2
 refine bodyPost_ret (v := .tuple #[.agg #[.int .i64 kind, .string (s.extract p (p + n)), .int .i64 0, .int .i64 0, .int .u64 val], .int .i64 0]) (by simp [results, Try.results32, go_sem, d0, d1, d2, d3, d4]) rfl ⟨rfl, ?_, ?_⟩
 ·exact hc1.five (by omega)
 ·exact hst'.five (Nat.le_refl _)
theorem next_number_bad (b : Nat) (s : ByteArray) (p l f : Nat) (w : World) (c : Nat) (m : Int) (h : Cut w b s p l f) (hp : p < s.size) (hs : s.size ≤ 100000) (hm : w.cell? ⟨0, 0, none⟩ = some (.int .i64 m)) (hb0 : b ≠ 0)
  (hL : isLetter (s[p].toNat : Int) = false) (hc : s[p] ≠ 39) (hD : isDigit (s[p].toNat : Int) = true) (he : numberF (s.data.toList.drop p) = .error c) :
  Calls Try.prog 32 #[.pointer (some ⟨b, 0, none⟩)] w fun e w' => e = .returned (.tuple #[.agg #[.int .i64 0, .string ⟨#[]⟩, .int .i64 0, .int .i64 0, .int .u64 0], .int .i64 c]) ∧ Step (· = b) w w' := by
 obtain ⟨c0, c1, c2, c3, f0, f1, f2, f3⟩ := h.cells
 have hlt : b < w.heap.size := blk_lt h.out
 have hb255 : ((s[p].toNat : Int)) ≤ 255 := by have := s[p].toNat_lt; omega
 have hq := letter_any (s[p].toNat : Int)
 rw [hL] at hq
 have HQ := Lib.hid hq
 have HE := Lib.hid he
 clear hq hL he
 have hb39 : ((s[p].toNat : Int) == 39) = false := by rw [beq_eq_false_iff_ne]; exact fun e => hc (byte_is 39 e)
 clear hc
 have hq2 := digit_any (s[p].toNat : Int)
 rw [hD] at hq2
 have HQ2 := Lib.hid hq2
 clear hq2 hD
 go_enter Try.func32, Try.ntmps32
 go_wp2
 go_quiet (fail)
 go_wp2_with (first | (go_at_call 48; refine (HQ.out _ (by omega) hb255).mono ?_; rintro e w' ⟨rfl, rfl⟩) | (go_at_call 51; refine (HQ2.out _ (by omega) hb255).mono ?_; rintro e w' ⟨rfl, rfl⟩))
 refine ((number_gives.bad b s p l f _ c m ((h.alloc _).drewN _) hp hs (cell_drewN (cell_alloc hm)) hb0 trivial HE.out)).mono ?_
 rintro e w1 ⟨rfl, hst⟩
 have hnb := hst.keep (blk_drewN (blk_new w _)) (by omega)
 obtain ⟨⟨d0, d1, d2, d3, d4⟩, e0, e1, e2, e3, e4⟩ := blk5 hnb
 have hst' : Step (· = b) w w1 := (((Step.refl _ w).alloc _).drewN _).trans hst
 clear hnb hst
 go_wp2
 refine bodyPost_ret (v := .tuple #[.agg #[.int .i64 0, .string ⟨#[]⟩, .int .i64 0, .int .i64 0, .int .u64 0], .int .i64 c]) (by simp [results, Try.results32, go_sem, d0, d1, d2, d3, d4]) rfl ⟨rfl, ?_⟩
 exact hst'.five (Nat.le_refl _)
theorem next_mark_ok (b : Nat) (s : ByteArray) (p l f : Nat) (w : World) (kind n val : Nat) (m : Int) (h : Cut w b s p l f) (hp : p < s.size) (hs : s.size ≤ 100000) (hm : w.cell? ⟨0, 0, none⟩ = some (.int .i64 m)) (hb0 : b ≠ 0)
  (hL : isLetter (s[p].toNat : Int) = false) (hc : s[p] ≠ 39) (hD : isDigit (s[p].toNat : Int) = false) (he : markF (s.data.toList.drop p) = .ok (kind, n, val)) :
  Calls Try.prog 32 #[.pointer (some ⟨b, 0, none⟩)] w fun e w' => e = .returned (.tuple #[.agg #[.int .i64 kind, .string (s.extract p (p + n)), .int .i64 0, .int .i64 0, .int .u64 val], .int .i64 0]) ∧ Cut w' b s (p + n) l f ∧ Step (· = b) w w' := by
 obtain ⟨c0, c1, c2, c3, f0, f1, f2, f3⟩ := h.cells
 have hlt : b < w.heap.size := blk_lt h.out
 have hb255 : ((s[p].toNat : Int)) ≤ 255 := by have := s[p].toNat_lt; omega
 have hq := letter_any (s[p].toNat : Int)
 rw [hL] at hq
 have HQ := Lib.hid hq
 have HE := Lib.hid he
 clear hq hL he
 have hb39 : ((s[p].toNat : Int) == 39) = false := by rw [beq_eq_false_iff_ne]; exact fun e => hc (byte_is 39 e)
 clear hc
 have hq2 := digit_any (s[p].toNat : Int)
 rw [hD] at hq2
 have HQ2 := Lib.hid hq2
 clear hq2 hD
 go_enter Try.func32, Try.ntmps32
 go_wp2
 go_quiet (fail)
 go_wp2_with (first | (go_at_call 48; refine (HQ.out _ (by omega) hb255).mono ?_; rintro e w' ⟨rfl, rfl⟩) | (go_at_call 51; refine (HQ2.out _ (by omega) hb255).mono ?_; rintro e w' ⟨rfl, rfl⟩))
 refine ((mark_gives.ok b s p l f _ kind n val m ((h.alloc _).drewN _) hp hs (cell_drewN (cell_alloc hm)) hb0 trivial HE.out)).mono ?_
 rintro e w1 ⟨rfl, hc1, hst⟩
 have hnb := hst.keep (blk_drewN (blk_new w _)) (by omega)
 obtain ⟨⟨d0, d1, d2, d3, d4⟩, e0, e1, e2, e3, e4⟩ := blk5 hnb
 have hst' : Step (· = b) w w1 := (((Step.refl _ w).alloc _).drewN _).trans hst
 clear hnb hst
 go_wp2
 refine bodyPost_ret (v := .tuple #[.agg #[.int .i64 kind, .string (s.extract p (p + n)), .int .i64 0, .int .i64 0, .int .u64 val], .int .i64 0]) (by simp [results, Try.results32, go_sem, d0, d1, d2, d3, d4]) rfl ⟨rfl, ?_, ?_⟩
 ·exact hc1.five (by omega)
 ·exact hst'.five (Nat.le_refl _)
theorem next_mark_bad (b : Nat) (s : ByteArray) (p l f : Nat) (w : World) (c : Nat) (m : Int) (h : Cut w b s p l f) (hp : p < s.size) (hs : s.size ≤ 100000) (hm : w.cell? ⟨0, 0, none⟩ = some (.int .i64 m)) (hb0 : b ≠ 0)
  (hL : isLetter (s[p].toNat : Int) = false) (hc : s[p] ≠ 39) (hD : isDigit (s[p].toNat : Int) = false) (he : markF (s.data.toList.drop p) = .error c) :
  Calls Try.prog 32 #[.pointer (some ⟨b, 0, none⟩)] w fun e w' => e = .returned (.tuple #[.agg #[.int .i64 0, .string ⟨#[]⟩, .int .i64 0, .int .i64 0, .int .u64 0], .int .i64 c]) ∧ Step (· = b) w w' := by
 obtain ⟨c0, c1, c2, c3, f0, f1, f2, f3⟩ := h.cells
 have hlt : b < w.heap.size := blk_lt h.out
 have hb255 : ((s[p].toNat : Int)) ≤ 255 := by have := s[p].toNat_lt; omega
 have hq := letter_any (s[p].toNat : Int)
 rw [hL] at hq
 have HQ := Lib.hid hq
 have HE := Lib.hid he
 clear hq hL he
 have hb39 : ((s[p].toNat : Int) == 39) = false := by rw [beq_eq_false_iff_ne]; exact fun e => hc (byte_is 39 e)
 clear hc
 have hq2 := digit_any (s[p].toNat : Int)
 rw [hD] at hq2
 have HQ2 := Lib.hid hq2
 clear hq2 hD
 go_enter Try.func32, Try.ntmps32
 go_wp2
 go_quiet (fail)
 go_wp2_with (first | (go_at_call 48; refine (HQ.out _ (by omega) hb255).mono ?_; rintro e w' ⟨rfl, rfl⟩) | (go_at_call 51; refine (HQ2.out _ (by omega) hb255).mono ?_; rintro e w' ⟨rfl, rfl⟩))
 refine ((mark_gives.bad b s p l f _ c m ((h.alloc _).drewN _) hp hs (cell_drewN (cell_alloc hm)) hb0 trivial HE.out)).mono ?_
 rintro e w1 ⟨rfl, hst⟩
 have hnb := hst.keep (blk_drewN (blk_new w _)) (by omega)
 obtain ⟨⟨d0, d1, d2, d3, d4⟩, e0, e1, e2, e3, e4⟩ := blk5 hnb
 have hst' : Step (· = b) w w1 := (((Step.refl _ w).alloc _).drewN _).trans hst
 clear hnb hst
 go_wp2
 refine bodyPost_ret (v := .tuple #[.agg #[.int .i64 0, .string ⟨#[]⟩, .int .i64 0, .int .i64 0, .int .u64 0], .int .i64 c]) (by simp [results, Try.results32, go_sem, d0, d1, d2, d3, d4]) rfl ⟨rfl, ?_⟩
 exact hst'.five (Nat.le_refl _)
theorem next_gives : Gives 32 nextF (fun _ => True) where
 ok b s p l f w kind n val m h hp hs hm hb0 _ he := by
  have hd := drop_cons s p hp
  cases hL : isLetter (s[p].toNat : Int)
  ·by_cases hc : s[p] = 39
   ·exact next_life_ok b s p l f w kind n val m h hp hs hm hb0 hL hc (by rw [hd] at he ⊢; rw [nextF, hL, if_neg (by simp), if_pos hc] at he; exact he)
   ·cases hD : isDigit (s[p].toNat : Int)
    ·exact next_mark_ok b s p l f w kind n val m h hp hs hm hb0 hL hc hD (by rw [hd] at he ⊢; simpa only [nextF, hL, hc, hD, if_true, if_false, Bool.false_eq_true] using he)
    ·exact next_number_ok b s p l f w kind n val m h hp hs hm hb0 hL hc hD (by rw [hd] at he ⊢; simpa only [nextF, hL, hc, hD, if_true, if_false, Bool.false_eq_true] using he)
  ·exact next_name_ok b s p l f w kind n val m h hp hs hm hb0 hL (by rw [hd] at he ⊢; simpa only [nextF, hL, if_true] using he)
 bad b s p l f w c m h hp hs hm hb0 _ he := by
  have hd := drop_cons s p hp
  cases hL : isLetter (s[p].toNat : Int)
  ·by_cases hc : s[p] = 39
   ·exact next_life_bad b s p l f w c m h hp hs hm hb0 hL hc (by rw [hd] at he ⊢; rw [nextF, hL, if_neg (by simp), if_pos hc] at he; exact he)
   ·cases hD : isDigit (s[p].toNat : Int)
    ·exact next_mark_bad b s p l f w c m h hp hs hm hb0 hL hc hD (by rw [hd] at he ⊢; simpa only [nextF, hL, hc, hD, if_true, if_false, Bool.false_eq_true] using he)
    ·exact next_number_bad b s p l f w c m h hp hs hm hb0 hL hc hD (by rw [hd] at he ⊢; simpa only [nextF, hL, hc, hD, if_true, if_false, Bool.false_eq_true] using he)
  ·exact next_name_bad b s p l f w c m h hp hs hm hb0 hL (by rw [hd] at he ⊢; simpa only [nextF, hL, if_true] using he)
/- A token as plain data, and its five cells. -/
structure Tok where
 kind : Nat
 text : List UInt8
 line : Nat
 col : Nat
 val : Nat
def Tok.cells (t : Tok) : List Value := [.int .i64 t.kind, .string ⟨t.text.toArray⟩, .int .i64 t.line, .int .i64 t.col, .int .u64 t.val]
def toksV (l : List Tok) : List Value := l.flatMap Tok.cells
theorem toksV_snoc (l : List Tok) (t : Tok) : toksV (l ++ [t]) = toksV l ++ t.cells := by simp [toksV]
/- All tokens: what is left of the text, the place, the line, where it begins, what has been read. -/
def allF : Nat → List UInt8 → Nat → Nat → Nat → List Tok → Except (Nat × Nat × Nat) (List Tok)
 | 0, _, _, _, _, _ => .error (0, 0, 0)
 | k + 1, r, p, l, f, acc =>
  let q := blankF false r p l f
  let r' := r.drop (q.1 - p)
  let col := q.1 - q.2.2 + 1
  if r' = [] then .ok (acc ++ [⟨0, [], q.2.1, col, 0⟩])
  else if acc.length = 8000 then .error (2, q.2.1, col)
  else match nextF r' with
   | .error c => .error (c, q.2.1, col)
   | .ok (kind, n, val) => allF k (r'.drop n) (q.1 + n) q.2.1 q.2.2 (acc ++ [⟨kind, r'.take n, q.2.1, col, val⟩])
def lexF (s : List UInt8) : Except (Nat × Nat × Nat) (List Tok) :=
 if 20000 < s.length then .error (2, 0, 0) else allF (s.length + 1) s 0 1 0 []
theorem blankF_inv : ∀ (r : List UInt8) (b : Bool) (p l f p' l' f' : Nat), (p', l', f') = blankF b r p l f → f ≤ p → p ≤ p' ∧ p' ≤ p + r.length ∧ f' ≤ p' ∧ l ≤ l' ∧ l' - l ≤ p' - p := by
 intro r
 induction r with
 | nil => intro b p l f p' l' f' h hf; simp [blankF] at h; obtain ⟨rfl, rfl, rfl⟩ := h; simp; omega
 | cons c r ih =>
  intro b p l f p' l' f' h hf
  have hl : (c :: r).length = r.length + 1 := rfl
  cases b
  ·rw [blankF] at h
   split at h
   ·have := ih _ _ _ _ _ _ _ h (Nat.le_refl _); omega
   ·split at h
    ·have := ih _ _ _ _ _ _ _ h (by omega); omega
    ·split at h
     ·have := ih _ _ _ _ _ _ _ h (by omega); omega
     ·simp at h; obtain ⟨rfl, rfl, rfl⟩ := h; omega
  ·rw [blankF] at h
   split at h
   ·have := ih _ _ _ _ _ _ _ h (Nat.le_refl _); omega
   ·have := ih _ _ _ _ _ _ _ h (by omega); omega
theorem runF_pos {c : UInt8} {r : List UInt8} (h : isWordy c.toNat = true) : 1 ≤ runF (c :: r) := by
 rw [runF_yes h]; omega
theorem intF_err {c0 : UInt8} : ∀ (l : List UInt8) (i v e : Nat), intF c0 l i v = .error e → e ≠ 0 := by
 intro l
 induction l with
 | nil => intro i v e h; simp [intF] at h
 | cons c r ih =>
  intro i v e h
  rw [intF] at h
  split at h
  ·simp at h; omega
  ·split at h
   ·simp at h; omega
   ·exact ih _ _ _ h
theorem nextF_pos {r : List UInt8} {kind n val : Nat} (h : nextF r = .ok (kind, n, val)) : 1 ≤ n ∧ n ≤ r.length ∧ kind ≠ 0 := by
 cases r with
 | nil => simp [nextF] at h
 | cons c r =>
  have hle := runF_le (c :: r)
  have hle' := runF_le r
  rw [nextF] at h
  split at h
  ·rename_i hL
   have := runF_pos (r := r) (show isWordy c.toNat = true by simp [isWordy, hL])
   unfold nameF at h
   split at h
   ·simp at h
   ·simp at h; omega
  ·split at h
   ·rw [lifeF] at h
    split at h
    ·simp at h
    ·split at h
     ·simp at h
     ·simp at h; simp; omega
   ·split at h
    ·rename_i hD
     have := runF_pos (r := r) (show isWordy c.toNat = true by simp [isWordy, hD])
     have hl : ((c :: r).take (runF (c :: r))).length = runF (c :: r) := by rw [List.length_take]; omega
     unfold numberF numF at h
     rw [hl] at h
     split at h
     ·split at h
      ·simp at h; omega
      ·simp at h
     ·split at h
      ·simp at h; omega
      ·simp at h
    ·cases r with
     | nil => rw [markF] at h; split at h <;> simp at h; simp; omega
     | cons d r =>
      rw [markF] at h
      split at h
      ·simp at h; simp; omega
      ·split at h
       ·simp at h; simp; omega
       ·simp at h
theorem nextF_err {r : List UInt8} {e : Nat} (h : nextF r = .error e) : e ≠ 0 := by
 cases r with
 | nil => simp [nextF] at h; omega
 | cons c r =>
  rw [nextF] at h
  split at h
  ·unfold nameF at h
   split at h
   ·simp at h; omega
   ·simp at h
  ·split at h
   ·rw [lifeF] at h
    split at h
    ·simp at h; omega
    ·split at h
     ·simp at h; omega
     ·simp at h
   ·split at h
    ·unfold numberF numF at h
     split at h
     ·split at h
      ·simp at h
      ·simp at h; omega
     ·split at h
      ·simp at h
      ·rename_i hI
       simp at h
       subst h
       exact intF_err _ _ _ _ hI
    ·cases r with
     | nil => rw [markF] at h; split at h <;> simp at h; omega
     | cons d r =>
      rw [markF] at h
      split at h
      ·simp at h
      ·split at h
       ·simp at h
       ·simp at h; omega
theorem Try.infoTok : (Try.prog.info? 73).map (fun i => (i.zero, i.size, i.bytes)) = some (some (.agg #[.int .i64 0, .string ⟨#[]⟩, .int .i64 0, .int .i64 0, .int .u64 0]), 5, 48) := by kernel_rfl
/- What 'All' hands back: the tokens in memory of its own, or what is wrong with the text. -/
def AllPost (B : Nat) (w : World) (r : Except (Nat × Nat × Nat) (List Tok)) (e : Ending) (w' : World) : Prop :=
 (match r with
  | .ok l => ∃ v, e = .returned (.tuple #[v, .agg #[.int .i64 0, .int .i64 0, .int .i64 0]]) ∧ w'.ownsRow B 73 5 v l.length (toksV l)
  | .error (c, ln, col) => e = .returned (.tuple #[.slice none 0 0, .agg #[.int .i64 c, .int .i64 ln, .int .i64 col]])) ∧ Step (fun _ => False) w w'
/- A block of three cells, known whole. -/
theorem owns_three {w : World} {base : Nat} {e : TypeId} {size : Nat} {v : Value} {n r : Nat} {xs : List Value} {v0 v1 v2 : Value} (h : w.ownsRow base e size v n xs) (hr : r < base) :
  (((w.setCell ⟨r, 0, none⟩ v0).setCell ⟨r, 1, none⟩ v1).setCell ⟨r, 2, none⟩ v2).ownsRow base e size v n xs :=
 ownsRow_setCell_below (ownsRow_setCell_below (ownsRow_setCell_below h hr _) hr _) hr _
theorem Step.three {S : Nat → Prop} {a w : World} {r : Nat} {v0 v1 v2 : Value} (h : Step S a w) (hr : a.heap.size ≤ r) :
  Step S a (((w.setCell ⟨r, 0, none⟩ v0).setCell ⟨r, 1, none⟩ v1).setCell ⟨r, 2, none⟩ v2) := by
 have hq : ∀ i, (⟨r, i, none⟩ : Addr).block < a.heap.size → S r := fun i h => absurd h (Nat.not_lt.2 hr)
 exact ((h.setCell _ _ (hq 0)).setCell _ _ (hq 1)).setCell _ _ (hq 2)
theorem cut_bytes (s : ByteArray) (p n : Nat) : s.extract p (p + n) = ⟨((s.data.toList.drop p).take n).toArray⟩ := str_ext (by rw [extract_list])
theorem all_any (s : ByteArray) (w : World) (m : Int) (hm : w.cell? ⟨0, 0, none⟩ = some (.int .i64 m)) (hs : s.size ≤ 20000) :
  Calls Try.prog 18 #[.string s] w (AllPost w.heap.size w (lexF s.data.toList)) := by
 have hw0 : 0 < w.heap.size := World.block_lt_of_cell? w _ hm
 have HR : Hid (allF (s.data.toList.length + 1) s.data.toList 0 1 0 [] = lexF s.data.toList) := by
  show _ = _
  rw [lexF, if_neg (by rw [← Lib.size_eq]; omega)]
 generalize hRes : lexF s.data.toList = Res at *
 clear hRes
 obtain ⟨i0, hi0, hz00, hz10, hz20⟩ := info_parts Try.infoTok
 have hi := Lib.hid hi0
 have hz0 := Lib.hid hz00
 have hz1 := Lib.hid hz10
 have hz2 := Lib.hid hz20
 clear hi0 hz00 hz10 hz20
 have hsl : Hid (s.data.toList.length = s.size) := (Lib.size_eq s).symm
 go_enter Try.func18, Try.ntmps18
 go_wp2_with fail
 rw [hsl.out] at HR
 go_loopg [5] (s.size + 1) (fun g v wr => ∃ (p l f : Nat) (toks : List Tok), f ≤ p ∧ p ≤ s.size ∧ l ≤ p + 1 ∧ toks.length ≤ 8000 ∧ s.size - p < g ∧ allF g (s.data.toList.drop p) p l f toks = Res ∧
  Cut wr (w.heap.size + 1) s p l f ∧ wr.heap[w.heap.size]? = some (.cells #[.int .i64 0, .int .i64 0, .int .i64 0] 32 (0, 0)) ∧ wr.ownsRow (w.heap.size + 2) 73 5 v toks.length (toksV toks) ∧
  Step (fun _ => False) w wr ∧ w.heap.size + 2 ≤ wr.heap.size)
 case atStart =>
  refine ⟨0, 1, 0, [], Nat.le_refl _, Nat.zero_le _, by omega, by simp, by omega, HR.out, ⟨?_⟩, ?_, World.ownsRow_nil _ _ _ _, ((Step.refl _ w).alloc _).alloc _, by simp⟩
  ·have := blk_new (w.alloc (.cells #[.int .i64 0, .int .i64 0, .int .i64 0] 32)) (.cells #[.string s, .int .i64 0, .int .i64 1, .int .i64 0] 85)
   simpa using this
  ·exact blk_alloc (blk_new w _)
 case round =>
  obtain ⟨p, l, f, toks, hf, hp, hl, htk, hg, heq, hc, hE, hown, hst, hsz⟩ := hrel
  obtain ⟨k, rfl⟩ : ∃ k, gk = k + 1 := ⟨gk - 1, by omega⟩
  obtain ⟨oa, oc, rfl⟩ := owns_slice hown
  have HE := Lib.hid heq
  have HOW := Lib.hid hown
  clear heq hown
  go_wp2_with fail
  refine (blank_any (w.heap.size + 1) s p l f wr hc hf hp (by omega) hl).mono ?_
  rintro e w1 ⟨rfl, p', l', f', hbl, hc1, hst1⟩
  have hinv := blankF_inv _ _ _ _ _ _ _ _ hbl hf
  rw [List.length_drop, hsl.out] at hinv
  obtain ⟨i1, i2, i3, i4, i5⟩ := hinv
  have hp' : p' ≤ s.size := by omega
  have hl' : l' ≤ p' + 1 := by omega
  have HB := Lib.hid hbl
  clear hbl
  go_wp2_with fail
  refine (pos_any (w.heap.size + 1) s p' l' f' w1 hc1 i3 (by omega)).mono ?_
  rintro e w2 ⟨rfl, hst2⟩
  have hc2 := hc1.step hst2 (fun h => h)
  obtain ⟨c0, c1, c2, c3, f0, f1, f2, f3⟩ := hc2.cells
  have hlt : w.heap.size + 1 < w2.heap.size := blk_lt hc2.out
  have hltE : w.heap.size < w2.heap.size := by omega
  have hst12 : Step (· = w.heap.size + 1) wr w2 := hst1.then hst2 (fun _ _ h => h.elim)
  have hstw : Step (fun _ => False) w w2 := ⟨hst12.os.trans hst.os, hst12.tape.trans hst.tape, hst12.output.trans hst.output, Nat.le_trans hst.size hst12.size, fun i hi hn => (hst12.block i (by omega) (by omega)).trans (hst.block i hi hn)⟩
  have HOW2 : Hid (w2.ownsRow (w.heap.size + 2) 73 5 (.slice oa toks.length oc) toks.length (toksV toks)) := hst12.owns HOW.out (fun k hk => by omega)
  obtain ⟨⟨g0, g1, g2⟩, k0, k1, k2⟩ := blk3 (hst12.keep hE (by omega))
  have HCOL : Hid (((p' : Int) - f' + 1) = ((p' - f' + 1 : Nat) : Int)) := show _ = _ by omega
  have HA : Hid (allF (k + 1) (s.data.toList.drop p) p l f toks =
    if s.data.toList.drop p' = [] then .ok (toks ++ [⟨0, [], l', p' - f' + 1, 0⟩])
    else if toks.length = 8000 then .error (2, l', p' - f' + 1)
    else match nextF (s.data.toList.drop p') with
     | .error c => .error (c, l', p' - f' + 1)
     | .ok (kind, n, val) => allF k ((s.data.toList.drop p').drop n) (p' + n) l' f' (toks ++ [⟨kind, (s.data.toList.drop p').take n, l', p' - f' + 1, val⟩])) := by
   show _ = _
   rw [allF]
   simp only [← HB.out, List.drop_drop]
   rw [show p + (p' - p) = p' by omega]
  by_cases hend : p' = s.size
  ·have hr0 : Hid (Res = .ok (toks ++ [⟨0, [], l', p' - f' + 1, 0⟩])) := by
     show _ = _
     rw [← HE.out, HA.out, if_pos (List.drop_of_length_le (by rw [hsl.out]; omega))]
   have hb1 : ((p' : Int) == s.size) = true := by rw [beq_iff_eq]; omega
   clear hend
   go_wp2_with (at_builtin; refine wpList_append_own _ rfl _ _ 68 rfl (w.heap.size + 2) 73 i0 (.agg #[.int .i64 0, .string ⟨#[]⟩, .int .i64 0, .int .i64 0, .int .u64 0]) 5 48 Try.underlying68 hi.out hz0.out hz1.out hz2.out rfl (by decide) _ _ _ rfl ((HOW2.out.alloc _).alloc _) ⟨w2.heap.size + 1, 0, none⟩ 1 1 [.int .i64 0, .string ⟨#[]⟩, .int .i64 l', .int .i64 ((p' : Int) - f' + 1), .int .u64 0] rfl rfl ?c1 ?c2 ?c3 ?c4 ?c5 ?_)
   case c1 => exact news_cells (cs := [_, _, _, _, _]) (blk_new2 _ _ _)
   case c2 => intro u hu; simp at hu; rcases hu with rfl | rfl | rfl | rfl | rfl <;> rfl
   case c3 => unfold maxLen; omega
   case c4 => omega
   case c5 => simp; omega
   intro v' w3 hown3 hgrow _
   have hrow := owned_row HOW2.out
   obtain ⟨⟨g0', g1', g2'⟩, k0', k1', k2'⟩ := blk3 (grown_keep hgrow (blk_alloc (blk_alloc (hst12.keep hE (by omega)))) (fun k hk => by have := hrow k hk; omega))
   have hst3 : Step (fun _ => False) w w3 := ((hstw.alloc _).alloc _).grown hgrow (fun k hk hlt => by have := hrow k hk; omega)
   have H3 := Lib.hid hown3
   clear hown3 hgrow hrow
   go_wp2
   refine bodyPost_ret (v := .tuple #[v', .agg #[.int .i64 0, .int .i64 0, .int .i64 0]]) (by simp [results, Try.results18, go_sem, g0', g1', g2']) rfl ?_
   rw [hr0.out]
   refine ⟨⟨v', rfl, ?_⟩, ?_⟩
   ·have := owns_three (r := w.heap.size) (v0 := .int .i64 0) (v1 := .int .i64 0) (v2 := .int .i64 0) H3.out (by omega)
    rw [toksV_snoc, List.length_append]
    rw [HCOL.out] at this
    exact owns_base this (by omega)
   ·exact hst3.three (Nat.le_refl _)
  ·have hb1 : ((p' : Int) == s.size) = false := by rw [beq_eq_false_iff_ne]; omega
   have hp1 : p' < s.size := by omega
   have hne : Hid (s.data.toList.drop p' ≠ []) := fun e => by
    have := congrArg List.length e
    rw [List.length_drop, hsl.out] at this
    simp at this; omega
   by_cases h8 : toks.length = 8000
   ·have hr0 : Hid (Res = .error (2, l', p' - f' + 1)) := by
      show _ = _
      rw [← HE.out, HA.out, if_neg hne.out, if_pos h8]
    have hb2 : ((toks.length : Int) == 8000) = true := by rw [h8]; rfl
    clear h8
    obtain ⟨⟨q0, q1⟩, r0, r1⟩ := blk2 (a0 := .int .i64 l') (a1 := .int .i64 ((p' : Int) - f' + 1)) (blk_new w2 (.cells #[.int .i64 l', .int .i64 ((p' : Int) - f' + 1)] 27))
    go_wp2
    go_region
    go_wp2
    refine bodyPost_ret (v := .tuple #[.slice none 0 0, .agg #[.int .i64 2, .int .i64 l', .int .i64 ((p' : Int) - f' + 1)]]) (by simp [results, Try.results18, go_sem, g0, g1, g2, hltE]) rfl ?_
    rw [hr0.out]
    refine ⟨by rw [HCOL.out]; rfl, ?_⟩
    exact ((hstw.three (Nat.le_refl _)).alloc _).drew
   ·have hb2 : ((toks.length : Int) == 8000) = false := by rw [beq_eq_false_iff_ne]; omega
    have hm2 : w2.cell? ⟨0, 0, none⟩ = some (.int .i64 m) := hstw.cell hm (fun h => h)
    have hE2 := hst12.keep hE (by omega)
    have hE2' : Hid (w2.heap[w.heap.size]? = _) := hE2
    clear hE2
    cases hn : nextF (s.data.toList.drop p') with
    | error c =>
     have hr0 : Hid (Res = .error (c, l', p' - f' + 1)) := by
      show _ = _
      rw [← HE.out, HA.out, if_neg hne.out, if_neg h8, hn]
     have hc0 : ((c : Int) != 0) = true := by rw [bne_iff_ne]; have := nextF_err hn; omega
     have HN := Lib.hid hn
     clear hn h8
     go_wp2_with fail
     refine (next_gives.bad _ s p' l' f' _ c m (hc2.alloc _) hp1 (by omega) (cell_alloc hm2) (by omega) trivial HN.out).mono ?_
     rintro e w3 ⟨rfl, hst3⟩
     obtain ⟨⟨q0, q1⟩, r0, r1⟩ := blk2 (hst3.keep (blk_new w2 _) (by omega))
     obtain ⟨⟨g0', g1', g2'⟩, k0', k1', k2'⟩ := blk3 (hst3.keep (blk_alloc hE2'.out) (by omega))
     have hz3 := hst3.size
     simp at hz3
     have hlt3 : w2.heap.size < w3.heap.size := by omega
     have hltE3 : w.heap.size < w3.heap.size := by omega
     go_wp2
     go_region
     go_wp2
     refine bodyPost_ret (v := .tuple #[.slice none 0 0, .agg #[.int .i64 c, .int .i64 l', .int .i64 ((p' : Int) - f' + 1)]]) (by simp [results, Try.results18, go_sem, g0', g1', g2', hltE3]) rfl ?_
     rw [hr0.out]
     refine ⟨by rw [HCOL.out], ?_⟩
     have hw3 : Step (fun _ => False) w w3 := ⟨hst3.os.trans hstw.os, hst3.tape.trans hstw.tape, hst3.output.trans hstw.output, by have := hstw.size; omega, fun i hi hn => (hst3.block i (by simp; have := hstw.size; omega) (by omega)).trans ((Below.heap_alloc w2 _ i (by have := hstw.size; omega)).trans (hstw.block i hi hn))⟩
     exact ((hw3.three (Nat.le_refl _)).alloc _).drew
    | ok x =>
     obtain ⟨kind, n, val⟩ := x
     have hr0 : Hid (allF k ((s.data.toList.drop p').drop n) (p' + n) l' f' (toks ++ [⟨kind, (s.data.toList.drop p').take n, l', p' - f' + 1, val⟩]) = Res) := by
      show _ = _
      rw [← HE.out, HA.out, if_neg hne.out, if_neg h8, hn]
     obtain ⟨hn1, hn2, _⟩ := nextF_pos hn
     rw [List.length_drop, hsl.out] at hn2
     have HN := Lib.hid hn
     clear hn
     go_wp2_with fail
     refine (next_gives.ok _ s p' l' f' _ kind n val m (hc2.alloc _) hp1 (by omega) (cell_alloc hm2) (by omega) trivial HN.out).mono ?_
     rintro e w3 ⟨rfl, hc3, hst3⟩
     obtain ⟨⟨q0, q1⟩, r0, r1⟩ := blk2 (hst3.keep (blk_new w2 _) (by omega))
     have HE3 : Hid (w3.heap[w.heap.size]? = some (.cells #[.int .i64 0, .int .i64 0, .int .i64 0] 32 (0, 0))) := hst3.keep (blk_alloc hE2'.out) (by omega)
     have hz3 := hst3.size
     simp at hz3
     have hlt3 : w2.heap.size < w3.heap.size := by omega
     have hltE3 : w.heap.size < w3.heap.size := by omega
     have HOW3 : Hid (w3.ownsRow (w.heap.size + 2) 73 5 (.slice oa toks.length oc) toks.length (toksV toks)) := hst3.owns (HOW2.out.alloc _) (fun k hk => by omega)
     have hw3 : Step (fun _ => False) w w3 := ⟨hst3.os.trans hstw.os, hst3.tape.trans hstw.tape, hst3.output.trans hstw.output, by have := hstw.size; omega, fun i hi hn => (hst3.block i (by simp; have := hstw.size; omega) (by omega)).trans ((Below.heap_alloc w2 _ i (by have := hstw.size; omega)).trans (hstw.block i hi hn))⟩
     clear c0 c1 c2 c3 f0 f1 f2 f3 g0 g1 g2 k0 k1 k2
     go_wp2_with (at_builtin; refine wpList_append_own _ rfl _ _ 68 rfl (w.heap.size + 2) 73 i0 (.agg #[.int .i64 0, .string ⟨#[]⟩, .int .i64 0, .int .i64 0, .int .u64 0]) 5 48 Try.underlying68 hi.out hz0.out hz1.out hz2.out rfl (by decide) _ _ _ rfl ((HOW3.out.alloc _).alloc _) ⟨w3.heap.size + 1, 0, none⟩ 1 1 [.int .i64 kind, .string (s.extract p' (p' + n)), .int .i64 l', .int .i64 ((p' : Int) - f' + 1), .int .u64 val] rfl rfl ?c1 ?c2 ?c3 ?c4 ?c5 ?_)
     case c1 => exact news_cells (cs := [_, _, _, _, _]) (blk_new2 _ _ _)
     case c2 => intro u hu; simp at hu; rcases hu with rfl | rfl | rfl | rfl | rfl <;> rfl
     case c3 => unfold maxLen; omega
     case c4 => omega
     case c5 => simp; omega
     intro v' w4 hown4 hgrow _
     have hrow := owned_row HOW3.out
     have H4 := Lib.hid hown4
     have HG := Lib.hid hgrow
     have HRW := Lib.hid hrow
     clear hown4 hgrow hrow
     go_wp2
     go_roundg k
     case rel =>
      have hn3 : ∀ (o1 o2 : Obj) (b : Nat) (o : Obj), b < w.heap.size + 2 → w3.heap[b]? = some o → w4.heap[b]? = some o := fun o1 o2 b o hb h =>
       grown_keep HG.out (blk_alloc (blk_alloc h)) (fun k hk => by have := HRW.out k hk; omega)
      refine ⟨p' + n, l', f', toks ++ [⟨kind, (s.data.toList.drop p').take n, l', p' - f' + 1, val⟩], by omega, by omega, by omega, by simp; omega, by omega, ?_, ⟨hn3 default default _ _ (by omega) hc3.out⟩, hn3 default default _ _ (by omega) HE3.out, ?_, ?_, ?_⟩
      ·rw [← hr0.out, List.drop_drop]
      ·have := H4.out
       rw [toksV_snoc, List.length_append]
       rw [HCOL.out, cut_bytes] at this
       exact this
      ·exact ((hw3.alloc _).alloc _).grown HG.out (fun k hk hlt => by have := HRW.out k hk; omega)
      ·have := HG.out.size
       simp at this; omega
     case measure => omega
theorem all_long (s : ByteArray) (w : World) (hs : 20000 < s.size) :
  Calls Try.prog 18 #[.string s] w (AllPost w.heap.size w (lexF s.data.toList)) := by
 have HR : Hid (lexF s.data.toList = .error (2, 0, 0)) := by
  show _ = _
  rw [lexF, if_pos (by rw [← Lib.size_eq]; omega)]
 generalize lexF s.data.toList = Res at *
 go_enter Try.func18, Try.ntmps18
 go_wp2
 refine bodyPost_ret (v := .tuple #[.slice none 0 0, .agg #[.int .i64 2, .int .i64 0, .int .i64 0]]) (by simp [results, Try.results18, go_sem]) rfl ?_
 rw [HR.out]
 refine ⟨rfl, ?_⟩
 exact (Step.refl _ w).alloc _
def wordsL : List (List UInt8) := [[115, 116, 114, 117, 99, 116], [116, 114, 97, 105, 116], [105, 109, 112, 108], [102, 111, 114], [102, 110], [119, 104, 101, 114, 101], [108, 101, 116], [105, 102], [101, 108, 115, 101], [119, 104, 105, 108, 101], [114, 101, 116, 117, 114, 110], [97, 98, 111, 114, 116], [116, 114, 117, 101], [102, 97, 108, 115, 101], [109, 117, 116], [100, 121, 110], [105, 110, 116], [98, 111, 111, 108], [102, 54, 52], [115, 101, 108, 102], [66, 111, 120], [117, 110, 98, 111, 120], [99, 104, 111, 111, 115, 101], [110, 101, 119], [97, 115]]
def wordF (s : List UInt8) : Bool := wordsL.contains s
def lineOf : List (List UInt8) → List UInt8
 | [] => [32]
 | w :: ws => 32 :: (w ++ lineOf ws)
theorem contains_one (l : List UInt8) (a : UInt8) : Lib.contains l [a] = l.contains a := by
 induction l with
 | nil => rfl
 | cons b l ih =>
  rw [contains_cons, ih, List.contains_cons]
  show ((a == b && true) || _) = _
  rw [Bool.and_true]
theorem contains_past (w l s : List UInt8) (h : 32 ∉ w) : Lib.contains (w ++ l) (32 :: s) = Lib.contains l (32 :: s) := by
 induction w with
 | nil => rfl
 | cons b w ih =>
  have hb : ((32 : UInt8) == b) = false := by rw [beq_eq_false_iff_ne]; exact fun e => h (e ▸ List.mem_cons_self)
  rw [List.cons_append, contains_cons, ih (fun e => h (List.mem_cons_of_mem _ e))]
  show (((32 : UInt8) == b && _) || _) = _
  rw [hb]; rfl
theorem lineOf_head (ws : List (List UInt8)) : ∃ t, lineOf ws = 32 :: t := by
 cases ws with
 | nil => exact ⟨_, rfl⟩
 | cons w ws => exact ⟨_, rfl⟩
theorem prefix_blank : ∀ (s w t : List UInt8), 32 ∉ s → 32 ∉ w → (s ++ [32]).isPrefixOf (w ++ 32 :: t) = (s == w) := by
 intro s
 induction s with
 | nil =>
  intro w t _ hw
  cases w with
  | nil => simp [List.isPrefixOf]
  | cons b w =>
   have hb : ((32 : UInt8) == b) = false := by rw [beq_eq_false_iff_ne]; exact fun e => hw (e ▸ List.mem_cons_self)
   show ((32 : UInt8) == b && _) = false
   rw [hb]; rfl
 | cons a s ih =>
  intro w t hs hw
  cases w with
  | nil =>
   have ha : (a == (32 : UInt8)) = false := by rw [beq_eq_false_iff_ne]; exact fun e => hs (e ▸ List.mem_cons_self)
   show (a == (32 : UInt8) && _) = false
   rw [ha]; rfl
  | cons b w =>
   show (a == b && (s ++ [32]).isPrefixOf (w ++ 32 :: t)) = (a == b && s == w)
   rw [ih w t (fun e => hs (List.mem_cons_of_mem _ e)) (fun e => hw (List.mem_cons_of_mem _ e))]
theorem contains_line (s : List UInt8) (hs : s ≠ []) (h32 : 32 ∉ s) : ∀ ws : List (List UInt8), (∀ w ∈ ws, 32 ∉ w) → Lib.contains (lineOf ws) (32 :: (s ++ [32])) = ws.contains s := by
 intro ws
 induction ws with
 | nil =>
  intro _
  cases s with
  | nil => exact absurd rfl hs
  | cons a s => rw [lineOf, contains_cons, contains_nil]; rfl
 | cons w ws ih =>
  intro hw
  obtain ⟨t, ht⟩ := lineOf_head ws
  have hw1 := hw w List.mem_cons_self
  rw [lineOf, contains_cons, contains_past w _ _ hw1, ih (fun x hx => hw x (List.mem_cons_of_mem _ hx)), List.contains_cons]
  show ((32 : UInt8) == 32 && (s ++ [32]).isPrefixOf (w ++ lineOf ws) || _) = _
  rw [ht, prefix_blank s w t h32 hw1]; rfl
def wordsC : List UInt8 := [32, 115, 116, 114, 117, 99, 116, 32, 116, 114, 97, 105, 116, 32, 105, 109, 112, 108, 32, 102, 111, 114, 32, 102, 110, 32, 119, 104, 101, 114, 101, 32, 108, 101, 116, 32, 105, 102, 32, 101, 108, 115, 101, 32, 119, 104, 105, 108, 101, 32, 114, 101, 116, 117, 114, 110, 32, 97, 98, 111, 114, 116, 32, 116, 114, 117, 101, 32, 102, 97, 108, 115, 101, 32, 109, 117, 116, 32, 100, 121, 110, 32, 105, 110, 116, 32, 98, 111, 111, 108, 32, 102, 54, 52, 32, 115, 101, 108, 102, 32, 66, 111, 120, 32, 117, 110, 98, 111, 120, 32, 99, 104, 111, 111, 115, 101, 32, 110, 101, 119, 32, 97, 115, 32]
theorem wordsC_line : wordsC = lineOf wordsL := by decide
theorem words_plain (s : List UInt8) (hs : s ≠ []) (h32 : 32 ∉ s) : Lib.contains wordsC (32 :: (s ++ [32])) = wordF s := by
 rw [wordsC_line]; exact contains_line s hs h32 wordsL (by decide)
theorem wordF_blank (s : List UInt8) (h : 32 ∈ s) : wordF s = false := by
 cases e : wordF s
 ·rfl
 ·have hm : s ∈ wordsL := List.contains_iff_mem.1 e
  have : ∀ w ∈ wordsL, 32 ∉ w := by decide
  exact absurd h (this s hm)
/- Texts that lie one behind the other. -/
/- Is a text among these? -/
def toB (l : List UInt8) : ByteArray := ⟨l.toArray⟩
theorem hasBlank_any (s : ByteArray) (v : Bool) (m : Int) (w : World) (hs : s.size ≤ 100000) (h : Lib.contains s.data.toList [32] = v) (hm : w.cell? ⟨0, 0, none⟩ = some (.int .i64 m)) :
  Calls Try.prog 72 #[.string s, .string ⟨#[32]⟩] w fun e w' => e = .returned (.bool v) ∧ w = w' :=
 (Try.strings_Contains _ _ m _ (by omega) hm).mono fun _ _ hq => ⟨by rw [hq.1]; exact ret_bool h, hq.2.symm⟩
theorem word_any (s : ByteArray) (w : World) (m : Int) (hs : s.size ≤ 100000) (hm : w.cell? ⟨0, 0, none⟩ = some (.int .i64 m)) :
  Calls Try.prog 57 #[.string s] w fun e w' => e = .returned (.bool (wordF s.data.toList)) ∧ w = w' := by
 by_cases h0 : s.data.toList = []
 ·have hf : Hid (wordF s.data.toList = false) := by show _ = _; rw [h0]; decide
  have he : s.toList = [] := by rw [Lib.toList_data]; exact h0
  have he' : s.toList.isEmpty = true := by rw [he]; rfl
  clear h0
  go_enter Try.func57, Try.ntmps57
  go_wp2
  go_ret
  exact ⟨ret_bool hf.out.symm, rfl⟩
 ·have hpos : 0 < s.size := by
    rw [Lib.size_eq]; exact List.length_pos_iff.2 h0
  have he := toList_ne s hpos
  have he' := isEmpty_no s hpos
  cases hb : Lib.contains s.data.toList [32]
  ·have h32 : 32 ∉ s.data.toList := by
     rw [contains_one] at hb
     intro e
     rw [List.contains_iff_mem.2 e] at hb; simp at hb
   have hp := words_plain _ h0 h32
   have HP := Lib.hid hp
   have HB := Lib.hid hb
   clear hb h32 hp h0
   go_enter Try.func57, Try.ntmps57
   go_wp2_with fail
   refine (hasBlank_any s _ m _ hs HB.out hm).mono ?_
   rintro e w' ⟨rfl, rfl⟩
   go_wp2_with fail
   refine (Try.strings_Contains _ _ m _ (by decide) hm).mono ?_
   rintro e w' ⟨rfl, rfl⟩
   go_wp2
   go_ret
   refine ⟨ret_bool ?_, rfl⟩
   rw [← HP.out]
   rfl
  ·have hf : Hid (wordF s.data.toList = false) := by
     show _ = _
     rw [contains_one] at hb
     exact wordF_blank _ (List.contains_iff_mem.1 hb)
   have HB := Lib.hid hb
   clear hb h0
   go_enter Try.func57, Try.ntmps57
   go_wp2_with fail
   refine (hasBlank_any s _ m _ hs HB.out hm).mono ?_
   rintro e w' ⟨rfl, rfl⟩
   go_wp2
   go_ret
   exact ⟨ret_bool hf.out.symm, rfl⟩
/- A reader: where it lies, its tokens. -/
structure Rdr where
 rb : Nat
 a : Option Addr
 c : Nat
 l : List Tok
 m : Int
structure RdAt (R : Rdr) (w : World) (i d : Nat) : Prop where
 blk : w.heap[R.rb]? = some (.cells #[.slice R.a R.l.length R.c, .int .i64 (i : Int), .int .i64 (d : Int)] 91 (0, 0))
 row : Row w R.rb (.slice R.a R.l.length R.c) R.l.length (toksV R.l)
 glob : w.cell? ⟨0, 0, none⟩ = some (.int .i64 R.m)
 pos : 0 < R.rb
 lt : i < R.l.length
theorem RdAt.step {R : Rdr} {w w' : World} {i d : Nat} {S : Nat → Prop} (h : RdAt R w i d) (hs : Step S w w') (hS : ∀ k, k ≤ R.rb → ¬ S k) : RdAt R w' i d :=
 ⟨hs.keep h.blk (hS _ (Nat.le_refl _)), h.row.step hs (fun k hk => hS k (by omega)), hs.cell h.glob (hS 0 (Nat.zero_le _)), h.pos, h.lt⟩
theorem RdAt.quiet {R : Rdr} {w w' : World} {i d : Nat} (h : RdAt R w i d) (hs : Step (fun _ => False) w w') : RdAt R w' i d := h.step hs (fun _ _ h => h)
/- Tokens as a text gives them: the last one is an end. -/
structure LOk (l : List Tok) : Prop where
 next : ∀ (i : Nat) t, l[i]? = some t → t.kind ≠ 0 → i + 1 < l.length
 len : l.length ≤ 8001
 text : ∀ t ∈ l, t.text.length ≤ 20000
theorem toksV_get (l : List Tok) (i : Nat) (t : Tok) (h : l[i]? = some t) (j : Nat) (v : Value) (hv : t.cells[j]? = some v) : (toksV l)[i * 5 + j]? = some v := by
 induction l generalizing i with
 | nil => simp at h
 | cons x r ih =>
  have hc : x.cells.length = 5 := rfl
  show (x.cells ++ toksV r)[i * 5 + j]? = some v
  cases i with
  | zero =>
   simp at h; subst h
   rw [Nat.zero_mul, Nat.zero_add, List.getElem?_append_left (List.getElem?_eq_some_iff.1 hv).1]; exact hv
  | succ i =>
   rw [List.getElem?_append_right (by rw [hc]; omega), hc, show (i + 1) * 5 + j - 5 = i * 5 + j by omega]
   exact ih i (by simpa using h)
theorem Try.sizeTok : (Try.prog.info? 73).map (·.size) = some 5 := by kernel_rfl
theorem tokOne (t : Tok) : ∀ u ∈ [Value.int .i64 t.kind, .string ⟨t.text.toArray⟩, .int .i64 t.line, .int .i64 t.col, .int .u64 t.val], u.oneCell' = true := by
 intro u hu
 simp at hu
 rcases hu with rfl | rfl | rfl | rfl | rfl <;> rfl
theorem peek_at (R : Rdr) (w : World) (i d : Nat) (t : Tok) (h : RdAt R w i d) (ht : R.l[i]? = some t) :
  Calls Try.prog 21 #[.pointer (some ⟨R.rb, 0, none⟩)] w fun e w' => e = .returned (.agg #[.int .i64 t.kind, .string ⟨t.text.toArray⟩, .int .i64 t.line, .int .i64 t.col, .int .u64 t.val]) ∧ Step (fun _ => False) w w' := by
 obtain ⟨rb, a, c, l, m⟩ := R
 obtain ⟨hb, hr, -, -, hlt⟩ := h
 simp only at hb hr ht hlt
 obtain ⟨a', c', hva, hc1, hc2, -, hrr⟩ := hr
 obtain ⟨rfl, rfl⟩ : a = a' ∧ c = c' := by cases hva; exact ⟨rfl, rfl⟩
 obtain ⟨g, o, rfl, -, -, hcell⟩ := hrr (by omega)
 have f0 := hcell _ _ (toksV_get l i t ht 0 _ rfl)
 have f1 := hcell _ _ (toksV_get l i t ht 1 _ rfl)
 have f2 := hcell _ _ (toksV_get l i t ht 2 _ rfl)
 have f3 := hcell _ _ (toksV_get l i t ht 3 _ rfl)
 have f4 := hcell _ _ (toksV_get l i t ht 4 _ rfl)
 rw [Nat.add_zero] at f0
 rw [← Nat.add_assoc] at f1 f2 f3 f4
 have e0 : ((l.length : Int) == 0) = false := by simpa using (by omega : ¬ (l.length : Int) = 0)
 have e1 : (l.length == 0) = false := by simpa using (by omega : ¬ l.length = 0)
 have e2 : decide ((l.length : Int) ≤ (i : Int)) = false := decide_eq_false (by omega)
 have hi0 : (0 : Int) ≤ (i : Int) := by omega
 have hi1 : (i : Int) < (l.length : Int) := by omega
 obtain ⟨w1, hw1⟩ : ∃ w1 : World, w1 = w.alloc (.cells #[.int .i64 0, .string ⟨#[]⟩, .int .i64 0, .int .i64 0, .int .u64 0] 73) := ⟨_, rfl⟩
 have HB1 : Hid (w1.heap[rb]? = some (.cells #[.slice (some ⟨g, o, none⟩) l.length c, .int .i64 (i : Int), .int .i64 (d : Int)] 91 (0, 0))) := by show _ = _; rw [hw1]; exact blk_alloc hb
 have HST1 : Hid (Step (fun _ => False) w w1) := by show Step _ _ _; rw [hw1]; exact (Step.refl _ _).alloc _
 have HN1 : Hid (w1.heap[w.heap.size]? = some (.cells #[.int .i64 0, .string ⟨#[]⟩, .int .i64 0, .int .i64 0, .int .u64 0] 73 (0, 0))) := by show _ = _; rw [hw1]; exact blk_new _ _
 have HW1 := Lib.hid hw1
 have F : Hid (∀ X, Step (fun _ => False) w1 X → X.cell? ⟨rb, 0, none⟩ = some (.slice (some ⟨g, o, none⟩) l.length c) ∧ X.cell? ⟨rb, 1, none⟩ = some (.int .i64 i) ∧ X.cell? ⟨g, o + i * 5, none⟩ = some (.int .i64 t.kind) ∧ X.cell? ⟨g, o + i * 5 + 1, none⟩ = some (.string ⟨t.text.toArray⟩) ∧ X.cell? ⟨g, o + i * 5 + 2, none⟩ = some (.int .i64 t.line) ∧ X.cell? ⟨g, o + i * 5 + 3, none⟩ = some (.int .i64 t.col) ∧ X.cell? ⟨g, o + i * 5 + 4, none⟩ = some (.int .u64 t.val)) := by
  show ∀ X, _
  intro X hX
  have h := HST1.out.trans hX
  have hb := hX.keep HB1.out (fun h => h)
  exact ⟨blk_cell hb 0 _ rfl, blk_cell hb 1 _ rfl, h.cell f0 (fun h => h), h.cell f1 (fun h => h), h.cell f2 (fun h => h), h.cell f3 (fun h => h), h.cell f4 (fun h => h)⟩
 clear hcell hrr hva hc1 hc2 ht hb f0 f1 f2 f3 f4 hw1
 obtain ⟨k0, k1, f0, f1, f2, f3, f4⟩ := F.out w1 (Step.refl _ _)
 go_enter Try.func21, Try.ntmps21
 go_upto_region 1 with fail
 rw [← HW1.out]
 go_wp2
 go_still_tail 10, (by kernel_rfl)
 change wpList _ _ _ _ _ w1.drew
 go_wp2
 clear k0 k1 f0 f1 f2 f3 f4
 obtain ⟨w2, hw2⟩ : ∃ w2, w2 = w1.drew := ⟨_, rfl⟩
 rw [← hw2]
 have HST2 : Hid (Step (fun _ => False) w1 w2) := by show Step _ _ _; rw [hw2]; exact (Step.refl _ _).drew
 clear hw2
 obtain ⟨k0, k1, f0, f1, f2, f3, f4⟩ := F.out w2 HST2.out
 go_still_tail 10, (by kernel_rfl)
 change wpList _ _ _ _ _ w2.drew
 have HN2 : Hid (w2.drew.heap[w.heap.size]? = some (.cells #[.int .i64 0, .string ⟨#[]⟩, .int .i64 0, .int .i64 0, .int .u64 0] 73 (0, 0))) := blk_drew (HST2.out.keep HN1.out (fun h => h))
 have HST3 : Hid (Step (fun _ => False) w w2.drew) := (HST1.out.trans HST2.out).drew
 have HONE : Hid (∀ u ∈ [Value.int .i64 t.kind, .string ⟨t.text.toArray⟩, .int .i64 t.line, .int .i64 t.col, .int .u64 t.val], u.oneCell' = true) := tokOne t
 clear k0 k1 f0 f1 f2 f3 f4
 go_wp2_with (refine wpList_store_part (w := w2.drew) rfl 73 (.tmp 2) (.tmp 49) rfl w.heap.size 0 73 _ [.int .i64 t.kind, .string ⟨t.text.toArray⟩, .int .i64 t.line, .int .i64 t.col, .int .u64 t.val] rfl rfl HN2.out Try.sizeTok (Nat.le_of_eq rfl) HONE.out ?_
              intro w4 hb4 hst4)
 have hb4' : w4.heap[w.heap.size]? = some (.cells [Value.int .i64 t.kind, .string ⟨t.text.toArray⟩, .int .i64 t.line, .int .i64 t.col, .int .u64 t.val].toArray 73 (0, 0)) := hb4
 refine bodyPost_ret (results_cellB rfl _ w.heap.size 73 _ _ rfl hb4' Try.underlying73 rfl Try.sizeTok) rfl ⟨rfl, ?_⟩
 exact HST3.out.then hst4 (fun q hq e => by omega)
theorem at_at (R : Rdr) (w : World) (i d : Nat) (t : Tok) (h : RdAt R w i d) (ht : R.l[i]? = some t) :
  Calls Try.prog 25 #[.pointer (some ⟨R.rb, 0, none⟩)] w fun e w' => e = .returned (.agg #[.int .i64 t.line, .int .i64 t.col]) ∧ Step (fun _ => False) w w' := by
 have H := Lib.hid h
 have HT := Lib.hid ht
 clear h ht
 have hfd : ∀ (a0 a1 a2 a3 a4 : Value) (w : World), (Instr.field 73 (.agg #[a0, a1, a2, a3, a4]) 2).run Try.prog w = .ok (.agg #[a2, a3]) w := fun _ _ _ _ _ _ => by kernel_rfl
 go_enter Try.func25, Try.ntmps25
 go_wp2_with fail
 refine (peek_at R _ i d t (H.out.quiet ((Step.refl _ w).alloc _)) HT.out).mono ?_
 rintro e w1 ⟨rfl, h1⟩
 obtain ⟨⟨d0, d1⟩, e0, e1⟩ := blk2 (h1.keep (blk_new w _) (fun h => h))
 go_wp2
 refine bodyPost_ret (v := .agg #[.int .i64 t.line, .int .i64 t.col]) (by simp [results, Try.results25, go_sem, d0, d1]) rfl ⟨rfl, ?_⟩
 have hs : Step (fun _ => False) w w1 := ((Step.refl _ w).alloc _).trans h1
 exact (hs.setCell _ _ (fun hl => absurd hl (Nat.lt_irrefl _))).setCell _ _ (fun hl => absurd hl (Nat.lt_irrefl _))
theorem fail_at (R : Rdr) (c : Nat) (w : World) (i d : Nat) (t : Tok) (h : RdAt R w i d) (ht : R.l[i]? = some t) :
  Calls Try.prog 22 #[.pointer (some ⟨R.rb, 0, none⟩), .int .i64 c] w fun e w' => e = .panicked [{ v := .iface 89 (.agg #[.int .i64 c, .int .i64 t.line, .int .i64 t.col]), recovered := false }] ∧ Step (fun _ => False) w w' := by
 have H := Lib.hid h
 have HT := Lib.hid ht
 clear h ht
 go_enter Try.func22, Try.ntmps22
 go_wp2_with fail
 refine (at_at R _ i d t H.out HT.out).mono ?_
 rintro e w1 ⟨rfl, h1⟩
 go_wp2
 exact ⟨rfl, rfl, h1⟩
theorem kindN (n k : Nat) (K : Int) (h : K = (k : Int)) : ((n : Int) == K) = (n == k) := by
 subst h
 by_cases e : n = k
 ·subst e; simp
 ·have h2 : ¬ (n : Int) = (k : Int) := by omega
  rw [beq_eq_false_iff_ne.2 h2, beq_eq_false_iff_ne.2 e]
def seesF (t : Tok) (s : List UInt8) : Bool := t.text == s && (t.kind == 5 || (t.kind == 1 && wordF s))
theorem seesF_kind {t : Tok} {s : List UInt8} (h : seesF t s = true) : t.kind ≠ 0 := by
 unfold seesF at h
 intro e
 rw [e] at h
 simp at h
theorem bytes_eq (x s : ByteArray) : (x.toList == s.toList) = (x.data.toList == s.data.toList) := by rw [Lib.toList_data, Lib.toList_data]
theorem sees_at (R : Rdr) (s : ByteArray) (w : World) (i d : Nat) (t : Tok) (h : RdAt R w i d) (ht : R.l[i]? = some t) (hs : s.size ≤ 100000) :
  Calls Try.prog 54 #[.pointer (some ⟨R.rb, 0, none⟩), .string s] w fun e w' => e = .returned (.bool (seesF t s.data.toList)) ∧ Step (fun _ => False) w w' := by
 have H := Lib.hid h
 have HT := Lib.hid ht
 obtain ⟨x, hx⟩ : ∃ x : ByteArray, x = ⟨t.text.toArray⟩ := ⟨_, rfl⟩
 obtain ⟨be, hbe⟩ : ∃ be, (x.toList == s.toList) = be := ⟨_, rfl⟩
 have HF : Hid (seesF t s.data.toList = (be && (t.kind == 5 || (t.kind == 1 && wordF s.data.toList)))) := by
  show _ = _
  unfold seesF
  rw [← hbe, bytes_eq, hx]
 have HPK := Lib.hid (peek_at R w i d t h ht)
 rw [← hx] at HPK
 obtain ⟨k5, hk5⟩ : ∃ b, ((t.kind : Int) == 5) = b := ⟨_, rfl⟩
 obtain ⟨k1, hk1⟩ : ∃ b, ((t.kind : Int) == 1) = b := ⟨_, rfl⟩
 have HK5 : Hid ((t.kind == 5) = k5) := ((kindN t.kind 5 5 rfl).symm.trans hk5)
 have HK1 : Hid ((t.kind == 1) = k1) := ((kindN t.kind 1 1 rfl).symm.trans hk1)
 clear h ht hx
 go_enter Try.func54, Try.ntmps54
 go_wp2_with fail
 refine HPK.out.mono ?_
 rintro e w1 ⟨rfl, h1⟩
 have HG1 := Lib.hid ((H.out.quiet h1).glob)
 have HS1 := Lib.hid h1
 clear h1
 cases be with
 | false =>
  go_wp2
  go_ret
  exact ⟨by rw [HF.out]; rfl, HS1.out.alloc _⟩
 | true =>
  cases k5 with
  | true =>
   go_wp2
   go_ret
   exact ⟨by rw [HF.out, HK5.out]; rfl, HS1.out.alloc _⟩
  | false =>
   cases k1 with
   | false =>
    go_wp2
    go_ret
    exact ⟨by rw [HF.out, HK5.out, HK1.out]; rfl, HS1.out.alloc _⟩
   | true =>
    have HWD := Lib.hid (word_any s (w1.alloc (.cells #[.int .i64 t.kind, .string x, .int .i64 t.line, .int .i64 t.col, .int .u64 t.val] 73)) R.m hs (((Step.refl (fun _ => False) _).alloc _).cell HG1.out (fun h => h)))
    go_wp2_with fail
    refine HWD.out.mono ?_
    rintro e w2 ⟨rfl, rfl⟩
    go_wp2
    go_ret
    exact ⟨by rw [HF.out, HK5.out, HK1.out]; rfl, HS1.out.alloc _⟩
/- The reader goes on by one. -/
theorem RdAt.next {R : Rdr} {w w' : World} {i d : Nat} (h : RdAt R w i d) (hi : i + 1 < R.l.length) (hb : w'.heap[R.rb]? = some (.cells #[.slice R.a R.l.length R.c, .int .i64 ((i + 1 : Nat) : Int), .int .i64 (d : Int)] 91 (0, 0))) (hs : Step (· = R.rb) w w') : RdAt R w' (i + 1) d :=
 ⟨hb, h.row.step hs (fun k hk e => by omega), hs.cell h.glob (fun e => by have h2 := h.pos; have e2 : 0 = R.rb := e; omega), h.pos, hi⟩
def isI (t : Tok) (s : List UInt8) (i : Nat) : Nat := if seesF t s then i + 1 else i
theorem is_at (R : Rdr) (hl : LOk R.l) (s : ByteArray) (w : World) (i d : Nat) (t : Tok) (h : RdAt R w i d) (ht : R.l[i]? = some t) (hs : s.size ≤ 100000) :
  Calls Try.prog 36 #[.pointer (some ⟨R.rb, 0, none⟩), .string s] w fun e w' => e = .returned (.bool (seesF t s.data.toList)) ∧ RdAt R w' (isI t s.data.toList i) d ∧ Step (· = R.rb) w w' := by
 have H := Lib.hid h
 have HT := Lib.hid ht
 have HSE := Lib.hid (sees_at R s w i d t h ht hs)
 have hl1 : i < 8001 := by have := h.lt; have := hl.len; omega
 have HNX : Hid (seesF t s.data.toList = true → i + 1 < R.l.length) := fun hh => hl.next i t ht (seesF_kind hh)
 obtain ⟨sb, hsb⟩ : ∃ sb, sb = seesF t s.data.toList := ⟨_, rfl⟩
 have HSB := Lib.hid hsb
 rw [← hsb] at HSE HNX
 rw [← hsb]
 have R1 : IntKind.i64.wrap ((i : Int) + 1) = ((i + 1 : Nat) : Int) := by
  rw [show ((i : Int) + 1) = ((i + 1 : Nat) : Int) by omega]
  exact IntWalk.i64_in _ (by omega)
 clear h ht hl hs hsb
 go_enter Try.func36, Try.ntmps36
 go_wp2_with fail
 refine HSE.out.mono ?_
 rintro e w1 ⟨rfl, h1⟩
 have H1 := Lib.hid (H.out.quiet h1)
 have HS1 : Hid (Step (· = R.rb) w w1) := h1.mono (fun _ _ h => h.elim)
 clear h1
 cases sb with
 | false =>
  go_wp2
  go_ret
  exact ⟨rfl, by unfold isI; rw [← HSB.out, if_neg (by decide)]; exact H1.out, HS1.out⟩
 | true =>
  have k1 := blk_cell H1.out.blk 1 _ rfl
  have z1 := blk_free H1.out.blk 1
  go_wp2
  go_ret
  have hset := blk_set H1.out.blk 1 (.int .i64 ((i + 1 : Nat) : Int))
  have hst : Step (· = R.rb) w1 (w1.setCell ⟨R.rb, 1, none⟩ (.int .i64 ((i + 1 : Nat) : Int))) := (Step.refl _ _).setCell _ _ (fun _ => rfl)
  refine ⟨rfl, ?_, HS1.out.trans hst⟩
  unfold isI; rw [← HSB.out, if_pos rfl]
  exact H1.out.next (by simpa using HNX.out) hset hst
theorem next_at (R : Rdr) (hl : LOk R.l) (w : World) (i d : Nat) (t : Tok) (h : RdAt R w i d) (ht : R.l[i]? = some t) (hk : t.kind ≠ 0) :
  Calls Try.prog 58 #[.pointer (some ⟨R.rb, 0, none⟩)] w fun e w' => e = .returned (.agg #[.int .i64 t.kind, .string ⟨t.text.toArray⟩, .int .i64 t.line, .int .i64 t.col, .int .u64 t.val]) ∧ RdAt R w' (i + 1) d ∧ Step (· = R.rb) w w' := by
 have H := Lib.hid h
 have HT := Lib.hid ht
 have hl1 : i < 8001 := by have := h.lt; have := hl.len; omega
 have HNX : Hid (i + 1 < R.l.length) := hl.next i t ht hk
 have R1 : IntKind.i64.wrap ((i : Int) + 1) = (i : Int) + 1 := IntWalk.i64_in _ (by omega)
 have e0 : ((t.kind : Int) == 0) = false := by rw [kindN t.kind 0 0 rfl]; exact beq_eq_false_iff_ne.2 hk
 have e1 : ((t.kind : Int) != 0) = true := by rw [bne, e0]; rfl
 have hlt := blk_lt h.blk
 clear h ht hl hk
 go_enter Try.func58, Try.ntmps58
 go_wp2_with fail
 refine (peek_at R _ i d t (H.out.quiet ((Step.refl _ w).alloc _)) HT.out).mono ?_
 rintro e w1 ⟨rfl, h1⟩
 obtain ⟨x, hx⟩ : ∃ x : ByteArray, x = ⟨t.text.toArray⟩ := ⟨_, rfl⟩
 rw [← hx]
 have HXE := Lib.hid hx
 clear hx
 have H1 := Lib.hid (H.out.quiet (((Step.refl (fun _ => False) w).alloc _).trans h1))
 have HS1 : Hid (Step (fun _ => False) w w1) := ((Step.refl (fun _ => False) w).alloc _).trans h1
 have HN1 := Lib.hid (h1.keep (blk_new w _) (fun h => h))
 have hsz : w.heap.size < w1.heap.size := by have := h1.size; simp at this; omega
 obtain ⟨w2, hw2⟩ : ∃ w2 : World, w2 = w1.alloc (.cells #[.int .i64 t.kind, .string x, .int .i64 t.line, .int .i64 t.col, .int .u64 t.val] 73) := ⟨_, rfl⟩
 have HS2 : Hid (Step (fun _ => False) w1 w2) := by show Step _ _ _; rw [hw2]; exact (Step.refl _ _).alloc _
 have HB2 : Hid (w2.heap[w1.heap.size]? = some (.cells #[.int .i64 t.kind, .string x, .int .i64 t.line, .int .i64 t.col, .int .u64 t.val] 73 (0, 0))) := by show _ = _; rw [hw2]; exact blk_new _ _
 have HW2 := Lib.hid hw2
 clear h1 hw2
 go_upto_region 2 with fail
 rw [← HW2.out]
 have H2 := Lib.hid (H1.out.quiet HS2.out)
 have k1 := blk_cell H2.out.blk 1 _ rfl
 have z1 := blk_free H2.out.blk 1
 obtain ⟨⟨q0, q1, q2, q3, q4⟩, -⟩ := blk5 HB2.out
 go_upto_region 4 with fail
 have hset := blk_set H2.out.blk 1 (.int .i64 ((i : Int) + 1))
 have hst : Step (· = R.rb) w2 (w2.setCell ⟨R.rb, 1, none⟩ (.int .i64 ((i : Int) + 1))) := (Step.refl _ _).setCell _ _ (fun _ => rfl)
 have H3 := Lib.hid (H2.out.next HNX.out hset hst)
 obtain ⟨w3, hw3⟩ : ∃ w3 : World, w3 = w2.setCell ⟨R.rb, 1, none⟩ (.int .i64 ((i : Int) + 1)) := ⟨_, rfl⟩
 rw [← hw3] at hst H3 ⊢
 have HS3 : Hid (Step (· = R.rb) w w3) := ((HS1.out.trans HS2.out).mono (fun _ _ h => h.elim)).trans hst
 have HB3 := Lib.hid (hst.keep HB2.out (by omega))
 have HN3 := Lib.hid (hst.keep (HS2.out.keep HN1.out (fun h => h)) (by omega))
 clear hst hset hw3 k1 z1 q0 q1 q2 q3 q4
 have HONE : Hid (∀ u ∈ [Value.int .i64 t.kind, .string x, .int .i64 t.line, .int .i64 t.col, .int .u64 t.val], u.oneCell' = true) := by
  show ∀ u ∈ _, _
  intro u hu
  simp at hu
  rcases hu with rfl | rfl | rfl | rfl | rfl <;> rfl
 obtain ⟨⟨q0, q1, q2, q3, q4⟩, -⟩ := blk5 HB3.out
 go_wp2_with (refine wpList_store_part (w := w3) rfl 73 (.tmp 2) (.tmp 16) rfl w.heap.size 0 73 _ [.int .i64 t.kind, .string x, .int .i64 t.line, .int .i64 t.col, .int .u64 t.val] rfl rfl HN3.out Try.sizeTok (Nat.le_of_eq rfl) HONE.out ?_
              intro w4 hb4 hst4)
 have hb4' : w4.heap[w.heap.size]? = some (.cells [Value.int .i64 t.kind, .string x, .int .i64 t.line, .int .i64 t.col, .int .u64 t.val].toArray 73 (0, 0)) := hb4
 refine bodyPost_ret (results_cellB rfl _ w.heap.size 73 _ _ rfl hb4' Try.underlying73 rfl Try.sizeTok) rfl ⟨by rw [HXE.out], ?_, ?_⟩
 ·exact H3.out.step hst4 (fun k hk e => by omega)
 ·exact HS3.out.then hst4 (fun q hq e => by omega)
def nameOk (t : Tok) : Bool := t.kind == 1 && !wordF t.text
def NamePost (R : Rdr) (i d : Nat) (t : Tok) (w : World) (e : Ending) (w' : World) : Prop :=
 (if nameOk t then e = .returned (.string ⟨t.text.toArray⟩) ∧ RdAt R w' (i + 1) d else e = .panicked [{ v := .iface 89 (.agg #[.int .i64 1, .int .i64 t.line, .int .i64 t.col]), recovered := false }]) ∧ Step (· = R.rb) w w'
theorem name_at (R : Rdr) (hl : LOk R.l) (w : World) (i d : Nat) (t : Tok) (h : RdAt R w i d) (ht : R.l[i]? = some t) :
  Calls Try.prog 38 #[.pointer (some ⟨R.rb, 0, none⟩)] w (NamePost R i d t w) := by
 have H := Lib.hid h
 have HT := Lib.hid ht
 have HL := Lib.hid hl
 obtain ⟨x, hx⟩ : ∃ x : ByteArray, x = ⟨t.text.toArray⟩ := ⟨_, rfl⟩
 have hxs : x.size ≤ 100000 := by
  have := hl.text t (List.mem_of_getElem? ht)
  rw [hx]
  show t.text.toArray.size ≤ 100000
  simp; omega
 have HXE : Hid (x.data.toList = t.text) := by show _ = _; rw [hx]
 have HPK := Lib.hid (peek_at R w i d t h ht)
 rw [← hx] at HPK
 obtain ⟨k1, hk1⟩ : ∃ b, ((t.kind : Int) != 1) = b := ⟨_, rfl⟩
 have HK1 : Hid ((t.kind == 1) = !k1) := by
  show _ = _
  rw [← hk1, bne, kindN t.kind 1 1 rfl, Bool.not_not]
 obtain ⟨x2, hx2⟩ : ∃ x2 : ByteArray, x2 = x := ⟨_, rfl⟩
 have HNX := Lib.hid hx
 clear h ht hl hx
 go_enter Try.func38, Try.ntmps38
 go_wp2_with fail
 refine HPK.out.mono ?_
 rintro e w1 ⟨rfl, h1⟩
 have HS1 := Lib.hid (h1.alloc (.cells #[.int .i64 t.kind, .string x, .int .i64 t.line, .int .i64 t.col, .int .u64 t.val] 73))
 have H1 := Lib.hid (H.out.quiet HS1.out)
 clear h1
 cases k1 with
 | true =>
  have HNO : Hid (nameOk t = false) := by show _ = _; unfold nameOk; rw [HK1.out]; rfl
  go_wp2_with fail
  refine (fail_at R 1 _ i d t H1.out HT.out).mono ?_
  rintro e w2 ⟨rfl, h2⟩
  refine ⟨rfl, ?_⟩
  unfold NamePost
  rw [HNO.out]
  exact ⟨rfl, (HS1.out.trans h2).mono (fun _ _ h => h.elim)⟩
 | false =>
  obtain ⟨wb, hwb⟩ : ∃ wb, wb = wordF x.data.toList := ⟨_, rfl⟩
  have HWD := Lib.hid (word_any x (w1.alloc (.cells #[.int .i64 t.kind, .string x, .int .i64 t.line, .int .i64 t.col, .int .u64 t.val] 73)) R.m hxs H1.out.glob)
  rw [← hwb] at HWD
  have HNO : Hid (nameOk t = !wb) := by show _ = _; unfold nameOk; rw [HK1.out, hwb, HXE.out]; rfl
  clear hwb
  go_wp2_with fail
  refine HWD.out.mono ?_
  rintro e w2 ⟨rfl, rfl⟩
  cases wb with
  | true =>
   go_wp2_with fail
   refine (fail_at R 1 _ i d t H1.out HT.out).mono ?_
   rintro e w2 ⟨rfl, h2⟩
   refine ⟨rfl, ?_⟩
   unfold NamePost
   rw [HNO.out]
   exact ⟨rfl, (HS1.out.trans h2).mono (fun _ _ h => h.elim)⟩
  | false =>
   have hk0 : t.kind ≠ 0 := by
    intro e
    have h2 := HK1.out
    rw [e] at h2; cases h2
   have HNXT := Lib.hid (next_at R HL.out _ i d t H1.out HT.out hk0)
   rw [← HNX.out] at HNXT
   have hfd : ∀ (a0 a1 a2 a3 a4 : Value) (w : World), (Instr.field 73 (.agg #[a0, a1, a2, a3, a4]) 1).run Try.prog w = .ok a1 w := fun _ _ _ _ _ _ => by kernel_rfl
   clear hk0
   go_wp2_with fail
   refine HNXT.out.mono ?_
   rintro e w3 ⟨rfl, hr, h3⟩
   have HR3 := Lib.hid hr
   clear hr
   go_wp2
   go_ret
   unfold NamePost
   rw [HNO.out]
   refine ⟨?_, (HS1.out.mono (fun _ _ h => h.elim)).trans h3⟩
   exact ⟨by show Ending.returned (.string x) = _; rw [HNX.out], HR3.out⟩
/- Need, of one text. -/
def NeedPost (R : Rdr) (i d : Nat) (t : Tok) (s : List UInt8) (w : World) (e : Ending) (w' : World) : Prop :=
 (if seesF t s then e = .returned (.tuple #[]) ∧ RdAt R w' (i + 1) d else e = .panicked [{ v := .iface 89 (.agg #[.int .i64 1, .int .i64 t.line, .int .i64 t.col]), recovered := false }]) ∧ Step (· = R.rb) w w'
theorem need_at (R : Rdr) (hl : LOk R.l) (g : Nat) (s : ByteArray) (w : World) (i d : Nat) (t : Tok) (h : RdAt R w i d) (ht : R.l[i]? = some t) (hs : s.size ≤ 100000) (hg : w.cell? ⟨g, 0, none⟩ = some (.string s)) :
  Calls Try.prog 40 #[.pointer (some ⟨R.rb, 0, none⟩), .slice (some ⟨g, 0, none⟩) 1 1] w (NeedPost R i d t s.data.toList w) := by
 have H := Lib.hid h
 have HT := Lib.hid ht
 have HIS := Lib.hid (is_at R hl s w i d t h ht hs)
 obtain ⟨sb, hsb⟩ : ∃ sb, sb = seesF t s.data.toList := ⟨_, rfl⟩
 have HSB := Lib.hid hsb
 rw [← hsb] at HIS
 clear h ht hl hsb
 go_enter Try.func40, Try.ntmps40
 go_wp2_with fail
 go_loopg [5, 8] 2 (fun gg s5 s8 wr => (s8 = .int .i64 0 ∧ wr = w ∧ 1 ≤ gg) ∨ (s8 = .int .i64 1 ∧ sb = true ∧ RdAt R wr (i + 1) d ∧ Step (· = R.rb) w wr))
 case atStart => exact .inl ⟨rfl, rfl, by omega⟩
 case round =>
  rcases hrel with ⟨rfl, rfl, hgg⟩ | ⟨rfl, rfl, hr, hst⟩
  ·go_wp2_with fail
   refine HIS.out.mono ?_
   rintro e w2 ⟨rfl, hr, h2⟩
   have HR2 := Lib.hid hr
   have HS2 := Lib.hid h2
   clear hr h2
   cases sb with
   | false =>
    have hii : isI t s.data.toList i = i := by unfold isI; rw [← HSB.out, if_neg (by decide)]
    have HR3 : Hid (RdAt R w2 i d) := by have h5 := HR2.out; rw [hii] at h5; exact h5
    clear hii
    go_wp2_with fail
    refine (fail_at R 1 _ i d t HR3.out HT.out).mono ?_
    rintro e w3 ⟨rfl, h3⟩
    refine ⟨rfl, ?_⟩
    unfold NeedPost
    rw [← HSB.out]
    exact ⟨rfl, HS2.out.trans (h3.mono (fun _ _ h => h.elim))⟩
   | true =>
    have hii : isI t s.data.toList i = i + 1 := by unfold isI; rw [← HSB.out, if_pos rfl]
    have HR3 : Hid (RdAt R w2 (i + 1) d) := by have h5 := HR2.out; rw [hii] at h5; exact h5
    clear hii
    go_wp2_with fail
    go_roundg (gk - 1)
    case rel => exact .inr ⟨rfl, trivial, HR3.out, HS2.out⟩
    case measure => omega
  ·have HR := Lib.hid hr
   have HS := Lib.hid hst
   clear hr hst
   go_wp2_with fail
   refine bodyPost_end (results_none rfl _ _ _) rfl ?_
   unfold NeedPost
   rw [← HSB.out]
   exact ⟨⟨rfl, HR.out⟩, HS.out⟩
def Enters (k : Nat) : Prop := ∀ (xs : Array Value) (w : World), Sem.run Try.prog (callFunc k xs) w = .ok (.enter k xs) w
/- Deep: too deep; what is read one deeper goes well; it gives up. -/
theorem deep_limit (R : Rdr) (k : Nat) (caps : List Value) (w : World) (i d : Nat) (t : Tok) (h : RdAt R w i d) (ht : R.l[i]? = some t) (hd : d = 40) :
  Calls Try.prog 34 #[.pointer (some ⟨R.rb, 0, none⟩), .func (.func k) #[] caps.toArray] w fun e w' => e = .panicked [{ v := .iface 89 (.agg #[.int .i64 2, .int .i64 t.line, .int .i64 t.col]), recovered := false }] ∧ Step (fun _ => False) w w' := by
 have hfe : ∀ (fn : Fn) (x y : Array Value) (w : World), (binOp .eql 1 (.func fn x y) .nilFunc).run Try.prog w = .ok (.bool false) w := fun _ _ _ _ => by kernel_rfl
 subst hd
 have H := Lib.hid h
 have HT := Lib.hid ht
 have k2 := blk_cell h.blk 2 _ rfl
 clear h ht
 go_enter Try.func34, Try.ntmps34
 go_wp2_with fail
 refine (fail_at R 2 _ i 40 t H.out HT.out).mono ?_
 rintro e w1 ⟨rfl, h1⟩
 exact ⟨rfl, rfl, h1⟩
theorem RdAt.deep {R : Rdr} {w w' : World} {i d d' : Nat} (h : RdAt R w i d) (hb : w'.heap[R.rb]? = some (.cells #[.slice R.a R.l.length R.c, .int .i64 (i : Int), .int .i64 (d' : Int)] 91 (0, 0))) (hs : Step (· = R.rb) w w') : RdAt R w' i d' :=
 ⟨hb, h.row.step hs (fun k hk e => by omega), hs.cell h.glob (fun e => by have h2 := h.pos; have e2 : 0 = R.rb := e; omega), h.pos, h.lt⟩
def DeepPost (R : Rdr) (d : Nat) (Q : Nat → World → Prop) (e : Ending) (w' : World) : Prop :=
 e = .returned (.tuple #[]) ∧ ∃ (i' : Nat) (w2 : World), Q i' w2 ∧ RdAt R w' i' d ∧ Step (· = R.rb) w2 w'
theorem deep_ok (R : Rdr) (k : Nat) (caps : List Value) (w : World) (i d : Nat) (Q : Nat → World → Prop) (hk : Enters k) (h : RdAt R w i d) (hd : d < 40)
  (hby : ∀ w1, RdAt R w1 i (d + 1) → Step (· = R.rb) w w1 → Calls Try.prog k caps.toArray w1 fun e w2 => e = .returned (.tuple #[]) ∧ ∃ i', RdAt R w2 i' (d + 1) ∧ Q i' w2) :
  Calls Try.prog 34 #[.pointer (some ⟨R.rb, 0, none⟩), .func (.func k) #[] caps.toArray] w (DeepPost R d Q) := by
 have hfe : ∀ (fn : Fn) (x y : Array Value) (w : World), (binOp .eql 1 (.func fn x y) .nilFunc).run Try.prog w = .ok (.bool false) w := fun _ _ _ _ => by kernel_rfl
 have hen : Enters k := hk
 unfold Enters at hen
 have H := Lib.hid h
 have HBY := Lib.hid hby
 have k2 := blk_cell h.blk 2 _ rfl
 have z2 := blk_free h.blk 2
 have e40 : ((d : Int) == 40) = false := by rw [kindN d 40 40 rfl]; exact beq_eq_false_iff_ne.2 (by omega)
 have R1 : IntKind.i64.wrap ((d : Int) + 1) = (d : Int) + 1 := IntWalk.i64_in _ (by omega)
 have R2 : IntKind.i64.wrap ((d : Int) + 1 - 1) = (d : Int) := by
  rw [show ((d : Int) + 1 - 1) = (d : Int) by omega]
  exact IntWalk.i64_in _ (by omega)
 have R3 : ((d : Int) + 1 - 1) = (d : Int) := by omega
 clear h hby hk
 go_enter Try.func34, Try.ntmps34
 go_wp2_with fail
 have hset := blk_set H.out.blk 2 (.int .i64 ((d : Int) + 1))
 have hst : Step (· = R.rb) w (w.setCell ⟨R.rb, 2, none⟩ (.int .i64 ((d : Int) + 1))) := (Step.refl _ _).setCell _ _ (fun _ => rfl)
 refine (HBY.out _ (H.out.deep hset hst) hst).mono ?_
 rintro e w2 ⟨rfl, i', hr, hq⟩
 have HR := Lib.hid hr
 have HQ := Lib.hid hq
 clear hset hst hr hq k2 z2
 have k2 : w2.cell? ⟨R.rb, 2, none⟩ = some (.int .i64 ((d : Int) + 1)) := blk_cell HR.out.blk 2 _ rfl
 have z2 := blk_free HR.out.blk 2
 go_wp2_with fail
 refine bodyPost_end (results_none rfl _ _ _) rfl ?_
 have hset := blk_set HR.out.blk 2 (.int .i64 (d : Int))
 have hst : Step (· = R.rb) w2 (w2.setCell ⟨R.rb, 2, none⟩ (.int .i64 (d : Int))) := (Step.refl _ _).setCell _ _ (fun _ => rfl)
 exact ⟨rfl, i', w2, HQ.out, HR.out.deep hset hst, hst⟩
theorem deep_err (R : Rdr) (k : Nat) (caps : List Value) (w : World) (i d : Nat) (es : List PanicEntry) (Q : World → Prop) (hk : Enters k) (h : RdAt R w i d) (hd : d < 40)
  (hby : ∀ w1, RdAt R w1 i (d + 1) → Step (· = R.rb) w w1 → Calls Try.prog k caps.toArray w1 fun e w2 => e = .panicked es ∧ Q w2) :
  Calls Try.prog 34 #[.pointer (some ⟨R.rb, 0, none⟩), .func (.func k) #[] caps.toArray] w fun e w' => e = .panicked es ∧ Q w' := by
 have hfe : ∀ (fn : Fn) (x y : Array Value) (w : World), (binOp .eql 1 (.func fn x y) .nilFunc).run Try.prog w = .ok (.bool false) w := fun _ _ _ _ => by kernel_rfl
 have hen : Enters k := hk
 unfold Enters at hen
 have H := Lib.hid h
 have HBY := Lib.hid hby
 have k2 := blk_cell h.blk 2 _ rfl
 have z2 := blk_free h.blk 2
 have e40 : ((d : Int) == 40) = false := by rw [kindN d 40 40 rfl]; exact beq_eq_false_iff_ne.2 (by omega)
 have R1 : IntKind.i64.wrap ((d : Int) + 1) = (d : Int) + 1 := IntWalk.i64_in _ (by omega)
 clear h hby hk
 go_enter Try.func34, Try.ntmps34
 go_wp2_with fail
 have hset := blk_set H.out.blk 2 (.int .i64 ((d : Int) + 1))
 have hst : Step (· = R.rb) w (w.setCell ⟨R.rb, 2, none⟩ (.int .i64 ((d : Int) + 1))) := (Step.refl _ _).setCell _ _ (fun _ => rfl)
 refine (HBY.out _ (H.out.deep hset hst) hst).mono ?_
 rintro e w2 ⟨rfl, hq⟩
 exact ⟨rfl, rfl, hq⟩
/- A slice, and the cells that it has, in a block of which P holds. -/
def RowP (w : World) (P : Nat → Prop) (v : Value) (n : Nat) (xs : List Value) : Prop :=
 ∃ a c, v = .slice a n c ∧ n ≤ c ∧ c ≤ 9223372036854775807 ∧ (a = none → n = 0 ∧ c = 0) ∧ (0 < n → ∃ g o, a = some ⟨g, o, none⟩ ∧ P g ∧ g < w.heap.size ∧ ∀ (i : Nat) x, xs[i]? = some x → w.cell? ⟨g, o + i, none⟩ = some x)
theorem RowP.step {w w' : World} {P : Nat → Prop} {v : Value} {n : Nat} {xs : List Value} {S : Nat → Prop} (h : RowP w P v n xs) (hs : Step S w w') (hS : ∀ k, P k → ¬ S k) : RowP w' P v n xs := by
 obtain ⟨a, c, hv, hc, hm, hz, hr⟩ := h
 refine ⟨a, c, hv, hc, hm, hz, fun hn => ?_⟩
 obtain ⟨g, o, ha, hg, hgw, hcell⟩ := hr hn
 exact ⟨g, o, ha, hg, Nat.lt_of_lt_of_le hgw hs.size, fun i x hx => hs.cell (hcell i x hx) (hS g hg)⟩
theorem RowP.mono {w : World} {P P' : Nat → Prop} {v : Value} {n : Nat} {xs : List Value} (h : RowP w P v n xs) (hp : ∀ k, k < w.heap.size → P k → P' k) : RowP w P' v n xs := by
 obtain ⟨a, c, hv, hc, hm, hz, hr⟩ := h
 refine ⟨a, c, hv, hc, hm, hz, fun hn => ?_⟩
 obtain ⟨g, o, ha, hg, hgw, hcell⟩ := hr hn
 exact ⟨g, o, ha, hp g hgw hg, hgw, hcell⟩
theorem RowP.nil (w : World) (P : Nat → Prop) (xs : List Value) : RowP w P (.slice none 0 0) 0 xs := ⟨none, 0, rfl, Nat.le_refl _, by decide, fun _ => ⟨rfl, rfl⟩, fun h => absurd h (Nat.lt_irrefl _)⟩
theorem RowP.new {w : World} {P : Nat → Prop} {b t n : Nat} {cs : List Value} (h : w.heap[b]? = some (.cells cs.toArray t (0, 0))) (hn : n ≤ 9223372036854775807) (hp : P b) : RowP w P (.slice (some ⟨b, 0, none⟩) n n) n cs := by
 refine ⟨_, n, rfl, Nat.le_refl _, hn, (fun h => nomatch h), fun _ => ⟨b, 0, rfl, hp, blk_lt h, fun i x hx => ?_⟩⟩
 have := news_cells h i x hx
 rwa [add_is] at this
theorem RowP.of_owns {w : World} {P : Nat → Prop} {base : Nat} {e : TypeId} {size : Nat} {v : Value} {n : Nat} {xs : List Value} (h : w.ownsRow base e size v n xs) (hp : ∀ k, v.ownBlock = some k → P k) : RowP w P v n xs := by
 have h2 := Row.of_owns (B := w.heap.size) h (Nat.le_refl _)
 obtain ⟨a, c, hv, hc, hm, hz, hr⟩ := h2
 refine ⟨a, c, hv, hc, hm, hz, fun hn => ?_⟩
 obtain ⟨g, o, ha, hg, hgw, hcell⟩ := hr hn
 exact ⟨g, o, ha, hp g (by rw [hv, ha]; rfl), hgw, hcell⟩
theorem RowP.row {w : World} {P : Nat → Prop} {B : Nat} {v : Value} {n : Nat} {xs : List Value} (h : RowP w P v n xs) (hp : ∀ k, k < w.heap.size → P k → k < B) : Row w B v n xs := RowP.mono (P' := fun k => k < B) h hp
inductive Ty where
 | mk (kind : Int) (name life : ByteArray) (mu : Bool) (lifes : List ByteArray) (args : List Ty) (line col : Int)
mutual
inductive Ex where
 | mk (kind : Int) (name : ByteArray) (val : Int) (mu : Bool) (args : List Ex) (names : List ByteArray) (body : List St) (line col : Int)
inductive St where
 | mk (kind : Int) (name : ByteArray) (type : Ty) (place e : List Ex) (body els : List St) (other : Bool) (line col : Int)
end
mutual
def TyP (w : World) (P : Nat → Prop) : Ty → List Value → Prop
 | .mk k name life m lifes args l c, cs => ∃ vl va xs, cs = [.int .i64 k, .string name, .string life, .bool m, vl, va, .int .i64 l, .int .i64 c] ∧ name.size ≤ 9223372036854775807 ∧ life.size ≤ 9223372036854775807 ∧
   (∀ s ∈ lifes, s.size ≤ 9223372036854775807) ∧ RowP w P vl lifes.length (lifes.map .string) ∧ TysP w P args xs ∧ RowP w P va args.length xs
def TysP (w : World) (P : Nat → Prop) : List Ty → List Value → Prop
 | [], cs => cs = []
 | t :: r, cs => ∃ c1 c2, cs = c1 ++ c2 ∧ TyP w P t c1 ∧ TysP w P r c2
end
mutual
def ExP (w : World) (P : Nat → Prop) : Ex → List Value → Prop
 | .mk k name v m args names body l c, cs => ∃ va vn vb xa xb, cs = [.int .i64 k, .string name, .int .u64 v, .bool m, va, vn, vb, .int .i64 l, .int .i64 c] ∧ name.size ≤ 9223372036854775807 ∧ (∀ s ∈ names, s.size ≤ 9223372036854775807) ∧
   ExsP w P args xa ∧ RowP w P va args.length xa ∧ RowP w P vn names.length (names.map .string) ∧ StsP w P body xb ∧ RowP w P vb body.length xb
def ExsP (w : World) (P : Nat → Prop) : List Ex → List Value → Prop
 | [], cs => cs = []
 | t :: r, cs => ∃ c1 c2, cs = c1 ++ c2 ∧ ExP w P t c1 ∧ ExsP w P r c2
def StP (w : World) (P : Nat → Prop) : St → List Value → Prop
 | .mk k name ty place e body els other l c, cs => ∃ ct vp ve vb vl xp xe xb xl, cs = [.int .i64 k, .string name] ++ ct ++ [vp, ve, vb, vl, .bool other, .int .i64 l, .int .i64 c] ∧ name.size ≤ 9223372036854775807 ∧ TyP w P ty ct ∧
   ExsP w P place xp ∧ RowP w P vp place.length xp ∧ ExsP w P e xe ∧ RowP w P ve e.length xe ∧ StsP w P body xb ∧ RowP w P vb body.length xb ∧ StsP w P els xl ∧ RowP w P vl els.length xl
def StsP (w : World) (P : Nat → Prop) : List St → List Value → Prop
 | [], cs => cs = []
 | t :: r, cs => ∃ c1 c2, cs = c1 ++ c2 ∧ StP w P t c1 ∧ StsP w P r c2
end
mutual
theorem TyP.step {w w' : World} {P : Nat → Prop} {S : Nat → Prop} (hs : Step S w w') (hS : ∀ k, P k → ¬ S k) : ∀ (t : Ty) (cs : List Value), TyP w P t cs → TyP w' P t cs
 | .mk k name life m lifes args l c, cs, h => by
  rw [TyP] at h ⊢
  obtain ⟨vl, va, xs, h1, h2, h3, h4, h5, h6, h7⟩ := h
  exact ⟨vl, va, xs, h1, h2, h3, h4, h5.step hs hS, TysP.step hs hS args xs h6, h7.step hs hS⟩
theorem TysP.step {w w' : World} {P : Nat → Prop} {S : Nat → Prop} (hs : Step S w w') (hS : ∀ k, P k → ¬ S k) : ∀ (l : List Ty) (cs : List Value), TysP w P l cs → TysP w' P l cs
 | [], cs, h => by rw [TysP] at h ⊢; exact h
 | t :: r, cs, h => by
  rw [TysP] at h ⊢
  obtain ⟨c1, c2, h1, h2, h3⟩ := h
  exact ⟨c1, c2, h1, TyP.step hs hS t c1 h2, TysP.step hs hS r c2 h3⟩
end
mutual
theorem ExP.step {w w' : World} {P : Nat → Prop} {S : Nat → Prop} (hs : Step S w w') (hS : ∀ k, P k → ¬ S k) : ∀ (t : Ex) (cs : List Value), ExP w P t cs → ExP w' P t cs
 | .mk k name v m args names body l c, cs, h => by
  rw [ExP] at h ⊢
  obtain ⟨va, vn, vb, xa, xb, h1, h2, h3, h4, h5, h6, h7, h8⟩ := h
  exact ⟨va, vn, vb, xa, xb, h1, h2, h3, ExsP.step hs hS args xa h4, h5.step hs hS, h6.step hs hS, StsP.step hs hS body xb h7, h8.step hs hS⟩
theorem ExsP.step {w w' : World} {P : Nat → Prop} {S : Nat → Prop} (hs : Step S w w') (hS : ∀ k, P k → ¬ S k) : ∀ (l : List Ex) (cs : List Value), ExsP w P l cs → ExsP w' P l cs
 | [], cs, h => by rw [ExsP] at h ⊢; exact h
 | t :: r, cs, h => by
  rw [ExsP] at h ⊢
  obtain ⟨c1, c2, h1, h2, h3⟩ := h
  exact ⟨c1, c2, h1, ExP.step hs hS t c1 h2, ExsP.step hs hS r c2 h3⟩
theorem StP.step {w w' : World} {P : Nat → Prop} {S : Nat → Prop} (hs : Step S w w') (hS : ∀ k, P k → ¬ S k) : ∀ (t : St) (cs : List Value), StP w P t cs → StP w' P t cs
 | .mk k name ty place e body els other l c, cs, h => by
  rw [StP] at h ⊢
  obtain ⟨ct, vp, ve, vb, vl, xp, xe, xb, xl, h1, h2, h3, h4, h5, h6, h7, h8, h9, h10, h11⟩ := h
  exact ⟨ct, vp, ve, vb, vl, xp, xe, xb, xl, h1, h2, TyP.step hs hS ty ct h3, ExsP.step hs hS place xp h4, h5.step hs hS, ExsP.step hs hS e xe h6, h7.step hs hS, StsP.step hs hS body xb h8, h9.step hs hS, StsP.step hs hS els xl h10, h11.step hs hS⟩
theorem StsP.step {w w' : World} {P : Nat → Prop} {S : Nat → Prop} (hs : Step S w w') (hS : ∀ k, P k → ¬ S k) : ∀ (l : List St) (cs : List Value), StsP w P l cs → StsP w' P l cs
 | [], cs, h => by rw [StsP] at h ⊢; exact h
 | t :: r, cs, h => by
  rw [StsP] at h ⊢
  obtain ⟨c1, c2, h1, h2, h3⟩ := h
  exact ⟨c1, c2, h1, StP.step hs hS t c1 h2, StsP.step hs hS r c2 h3⟩
end
theorem TyP.len {w : World} {P : Nat → Prop} {t : Ty} {cs : List Value} (h : TyP w P t cs) : cs.length = 8 := by
 obtain ⟨k, name, life, m, lifes, args, l, c⟩ := t
 rw [TyP] at h
 obtain ⟨_, _, _, rfl, _⟩ := h; rfl
theorem ExP.len {w : World} {P : Nat → Prop} {t : Ex} {cs : List Value} (h : ExP w P t cs) : cs.length = 9 := by
 obtain ⟨k, name, v, m, args, names, body, l, c⟩ := t
 rw [ExP] at h
 obtain ⟨_, _, _, _, _, rfl, _⟩ := h; rfl
theorem StP.len {w : World} {P : Nat → Prop} {t : St} {cs : List Value} (h : StP w P t cs) : cs.length = 17 := by
 obtain ⟨k, name, ty, place, e, body, els, other, l, c⟩ := t
 rw [StP] at h
 obtain ⟨ct, _, _, _, _, _, _, _, _, rfl, _, h, _⟩ := h
 have := h.len
 simp; omega
theorem ExsP.get {w : World} {P : Nat → Prop} : ∀ {l : List Ex} {xs : List Value} (i : Nat) {t : Ex}, ExsP w P l xs → l[i]? = some t → ∃ cs, ExP w P t cs ∧ ∀ j x, cs[j]? = some x → xs[i * 9 + j]? = some x
 | [], _, i, t, _, ht => by simp at ht
 | a :: r, xs, i, t, h, ht => by
  rw [ExsP] at h
  obtain ⟨c1, c2, rfl, h1, h2⟩ := h
  cases i with
  | zero =>
   simp at ht; subst ht
   refine ⟨c1, h1, fun j x hx => ?_⟩
   rw [Nat.zero_mul, Nat.zero_add, List.getElem?_append_left (List.getElem?_eq_some_iff.1 hx).1]; exact hx
  | succ i =>
   obtain ⟨cs, h3, h4⟩ := ExsP.get i h2 (by simpa using ht)
   refine ⟨cs, h3, fun j x hx => ?_⟩
   rw [List.getElem?_append_right (by rw [h1.len]; omega), h1.len, show (i + 1) * 9 + j - 9 = i * 9 + j by omega]
   exact h4 j x hx
theorem StsP.get {w : World} {P : Nat → Prop} : ∀ {l : List St} {xs : List Value} (i : Nat) {t : St}, StsP w P l xs → l[i]? = some t → ∃ cs, StP w P t cs ∧ ∀ j x, cs[j]? = some x → xs[i * 17 + j]? = some x
 | [], _, i, t, _, ht => by simp at ht
 | a :: r, xs, i, t, h, ht => by
  rw [StsP] at h
  obtain ⟨c1, c2, rfl, h1, h2⟩ := h
  cases i with
  | zero =>
   simp at ht; subst ht
   refine ⟨c1, h1, fun j x hx => ?_⟩
   rw [Nat.zero_mul, Nat.zero_add, List.getElem?_append_left (List.getElem?_eq_some_iff.1 hx).1]; exact hx
  | succ i =>
   obtain ⟨cs, h3, h4⟩ := StsP.get i h2 (by simpa using ht)
   refine ⟨cs, h3, fun j x hx => ?_⟩
   rw [List.getElem?_append_right (by rw [h1.len]; omega), h1.len, show (i + 1) * 17 + j - 17 = i * 17 + j by omega]
   exact h4 j x hx
theorem TysP.len {w : World} {P : Nat → Prop} : ∀ {l : List Ty} {xs : List Value}, TysP w P l xs → xs.length = l.length * 8
 | [], _, h => by rw [TysP] at h; subst h; rfl
 | a :: r, xs, h => by
  rw [TysP] at h
  obtain ⟨c1, c2, rfl, h1, h2⟩ := h
  rw [List.length_append, h1.len, h2.len, List.length_cons]; omega
theorem ExsP.len {w : World} {P : Nat → Prop} : ∀ {l : List Ex} {xs : List Value}, ExsP w P l xs → xs.length = l.length * 9
 | [], _, h => by rw [ExsP] at h; subst h; rfl
 | a :: r, xs, h => by
  rw [ExsP] at h
  obtain ⟨c1, c2, rfl, h1, h2⟩ := h
  rw [List.length_append, h1.len, h2.len, List.length_cons]; omega
theorem StsP.len {w : World} {P : Nat → Prop} : ∀ {l : List St} {xs : List Value}, StsP w P l xs → xs.length = l.length * 17
 | [], _, h => by rw [StsP] at h; subst h; rfl
 | a :: r, xs, h => by
  rw [StsP] at h
  obtain ⟨c1, c2, rfl, h1, h2⟩ := h
  rw [List.length_append, h1.len, h2.len, List.length_cons]; omega
theorem ExP.one {w : World} {P : Nat → Prop} {t : Ex} {cs : List Value} (h : ExP w P t cs) : ∀ u ∈ cs, u.oneCell' = true := by
 obtain ⟨k, name, v, m, args, names, body, l, c⟩ := t
 rw [ExP] at h
 obtain ⟨_, _, _, _, _, rfl, _, _, _, ⟨_, _, rfl, _⟩, ⟨_, _, rfl, _⟩, _, _, _, rfl, _⟩ := h
 intro u hu
 simp at hu
 rcases hu with rfl | rfl | rfl | rfl | rfl | rfl | rfl | rfl | rfl <;> rfl
theorem ExsP.one {w : World} {P : Nat → Prop} : ∀ {l : List Ex} {xs : List Value}, ExsP w P l xs → ∀ u ∈ xs, u.oneCell' = true
 | [], _, h => by rw [ExsP] at h; subst h; intro u hu; cases hu
 | a :: r, xs, h => by
  rw [ExsP] at h
  obtain ⟨c1, c2, rfl, h1, h2⟩ := h
  intro u hu
  rcases List.mem_append.1 hu with h | h
  ·exact h1.one u h
  ·exact ExsP.one h2 u h
theorem ExsP.append {w : World} {P : Nat → Prop} : ∀ {l : List Ex} {xs : List Value} {l' : List Ex} {xs' : List Value}, ExsP w P l xs → ExsP w P l' xs' → ExsP w P (l ++ l') (xs ++ xs')
 | [], _, _, _, h, h' => by rw [ExsP] at h; subst h; exact h'
 | a :: r, xs, l', xs', h, h' => by
  rw [ExsP] at h
  obtain ⟨c1, c2, rfl, h1, h2⟩ := h
  rw [List.cons_append, ExsP]
  exact ⟨c1, c2 ++ xs', by rw [List.append_assoc], h1, ExsP.append h2 h'⟩
/- The cells of the i-th element of a row. -/
theorem ExsP.cells {w : World} {P : Nat → Prop} {l : List Ex} {xs : List Value} {g o i : Nat} {t : Ex} (h : ExsP w P l xs) (ht : l[i]? = some t) (hc : ∀ (i : Nat) x, xs[i]? = some x → w.cell? ⟨g, o + i, none⟩ = some x) :
  ∃ cs, ExP w P t cs ∧ ∀ j x, cs[j]? = some x → w.cell? ⟨g, o + i * 9 + j, none⟩ = some x := by
 obtain ⟨cs, h1, h2⟩ := ExsP.get i h ht
 exact ⟨cs, h1, fun j x hx => by rw [Nat.add_assoc]; exact hc _ _ (h2 j x hx)⟩
theorem StsP.cells {w : World} {P : Nat → Prop} {l : List St} {xs : List Value} {g o i : Nat} {t : St} (h : StsP w P l xs) (ht : l[i]? = some t) (hc : ∀ (i : Nat) x, xs[i]? = some x → w.cell? ⟨g, o + i, none⟩ = some x) :
  ∃ cs, StP w P t cs ∧ ∀ j x, cs[j]? = some x → w.cell? ⟨g, o + i * 17 + j, none⟩ = some x := by
 obtain ⟨cs, h1, h2⟩ := StsP.get i h ht
 exact ⟨cs, h1, fun j x hx => by rw [Nat.add_assoc]; exact hc _ _ (h2 j x hx)⟩
mutual
theorem TyP.mono {w : World} {P P' : Nat → Prop} (hp : ∀ k, k < w.heap.size → P k → P' k) : ∀ (t : Ty) (cs : List Value), TyP w P t cs → TyP w P' t cs
 | .mk k name life m lifes args l c, cs, h => by
  rw [TyP] at h ⊢
  obtain ⟨vl, va, xs, h1, h2, h3, h4, h5, h6, h7⟩ := h
  exact ⟨vl, va, xs, h1, h2, h3, h4, h5.mono hp, TysP.mono hp args xs h6, h7.mono hp⟩
theorem TysP.mono {w : World} {P P' : Nat → Prop} (hp : ∀ k, k < w.heap.size → P k → P' k) : ∀ (l : List Ty) (cs : List Value), TysP w P l cs → TysP w P' l cs
 | [], cs, h => by rw [TysP] at h ⊢; exact h
 | t :: r, cs, h => by
  rw [TysP] at h ⊢
  obtain ⟨c1, c2, h1, h2, h3⟩ := h
  exact ⟨c1, c2, h1, TyP.mono hp t c1 h2, TysP.mono hp r c2 h3⟩
end
mutual
theorem ExP.mono {w : World} {P P' : Nat → Prop} (hp : ∀ k, k < w.heap.size → P k → P' k) : ∀ (t : Ex) (cs : List Value), ExP w P t cs → ExP w P' t cs
 | .mk k name v m args names body l c, cs, h => by
  rw [ExP] at h ⊢
  obtain ⟨va, vn, vb, xa, xb, h1, h2, h3, h4, h5, h6, h7, h8⟩ := h
  exact ⟨va, vn, vb, xa, xb, h1, h2, h3, ExsP.mono hp args xa h4, h5.mono hp, h6.mono hp, StsP.mono hp body xb h7, h8.mono hp⟩
theorem ExsP.mono {w : World} {P P' : Nat → Prop} (hp : ∀ k, k < w.heap.size → P k → P' k) : ∀ (l : List Ex) (cs : List Value), ExsP w P l cs → ExsP w P' l cs
 | [], cs, h => by rw [ExsP] at h ⊢; exact h
 | t :: r, cs, h => by
  rw [ExsP] at h ⊢
  obtain ⟨c1, c2, h1, h2, h3⟩ := h
  exact ⟨c1, c2, h1, ExP.mono hp t c1 h2, ExsP.mono hp r c2 h3⟩
theorem StP.mono {w : World} {P P' : Nat → Prop} (hp : ∀ k, k < w.heap.size → P k → P' k) : ∀ (t : St) (cs : List Value), StP w P t cs → StP w P' t cs
 | .mk k name ty place e body els other l c, cs, h => by
  rw [StP] at h ⊢
  obtain ⟨ct, vp, ve, vb, vl, xp, xe, xb, xl, h1, h2, h3, h4, h5, h6, h7, h8, h9, h10, h11⟩ := h
  exact ⟨ct, vp, ve, vb, vl, xp, xe, xb, xl, h1, h2, TyP.mono hp ty ct h3, ExsP.mono hp place xp h4, h5.mono hp, ExsP.mono hp e xe h6, h7.mono hp, StsP.mono hp body xb h8, h9.mono hp, StsP.mono hp els xl h10, h11.mono hp⟩
theorem StsP.mono {w : World} {P P' : Nat → Prop} (hp : ∀ k, k < w.heap.size → P k → P' k) : ∀ (l : List St) (cs : List Value), StsP w P l cs → StsP w P' l cs
 | [], cs, h => by rw [StsP] at h ⊢; exact h
 | t :: r, cs, h => by
  rw [StsP] at h ⊢
  obtain ⟨c1, c2, h1, h2, h3⟩ := h
  exact ⟨c1, c2, h1, StP.mono hp t c1 h2, StsP.mono hp r c2 h3⟩
end
theorem TyP.one {w : World} {P : Nat → Prop} {t : Ty} {cs : List Value} (h : TyP w P t cs) : ∀ u ∈ cs, u.oneCell' = true := by
 obtain ⟨k, name, life, m, lifes, args, l, c⟩ := t
 rw [TyP] at h
 obtain ⟨_, _, _, rfl, _, _, _, ⟨_, _, rfl, _⟩, _, ⟨_, _, rfl, _⟩⟩ := h
 intro u hu
 simp at hu
 rcases hu with rfl | rfl | rfl | rfl | rfl | rfl | rfl | rfl <;> rfl
theorem StP.one {w : World} {P : Nat → Prop} {t : St} {cs : List Value} (h : StP w P t cs) : ∀ u ∈ cs, u.oneCell' = true := by
 obtain ⟨k, name, ty, place, e, body, els, other, l, c⟩ := t
 rw [StP] at h
 obtain ⟨ct, _, _, _, _, _, _, _, _, rfl, _, hty, _, ⟨_, _, rfl, _⟩, _, ⟨_, _, rfl, _⟩, _, ⟨_, _, rfl, _⟩, _, ⟨_, _, rfl, _⟩⟩ := h
 intro u hu
 rcases List.mem_append.1 hu with hu | hu
 ·rcases List.mem_append.1 hu with hu | hu
  ·simp at hu
   rcases hu with rfl | rfl <;> rfl
  ·exact hty.one u hu
 ·simp at hu
  rcases hu with rfl | rfl | rfl | rfl | rfl | rfl | rfl <;> rfl
theorem TysP.snoc {w : World} {P : Nat → Prop} : ∀ {l : List Ty} {xs : List Value} {t : Ty} {cs : List Value}, TysP w P l xs → TyP w P t cs → TysP w P (l ++ [t]) (xs ++ cs)
 | [], xs, t, cs, h, h1 => by
  rw [TysP] at h; subst h
  rw [List.nil_append, TysP]
  exact ⟨cs, [], by simp, h1, by rw [TysP]⟩
 | a :: r, xs, t, cs, h, h1 => by
  rw [TysP] at h
  obtain ⟨c1, c2, rfl, h2, h3⟩ := h
  rw [List.cons_append, TysP]
  exact ⟨c1, c2 ++ cs, by rw [List.append_assoc], h2, TysP.snoc h3 h1⟩
theorem ExsP.snoc {w : World} {P : Nat → Prop} {l : List Ex} {xs : List Value} {t : Ex} {cs : List Value} (h : ExsP w P l xs) (h1 : ExP w P t cs) : ExsP w P (l ++ [t]) (xs ++ cs) :=
 ExsP.append h (by rw [ExsP]; exact ⟨cs, [], by simp, h1, by rw [ExsP]⟩)
theorem StsP.snoc {w : World} {P : Nat → Prop} : ∀ {l : List St} {xs : List Value} {t : St} {cs : List Value}, StsP w P l xs → StP w P t cs → StsP w P (l ++ [t]) (xs ++ cs)
 | [], xs, t, cs, h, h1 => by
  rw [StsP] at h; subst h
  rw [List.nil_append, StsP]
  exact ⟨cs, [], by simp, h1, by rw [StsP]⟩
 | a :: r, xs, t, cs, h, h1 => by
  rw [StsP] at h
  obtain ⟨c1, c2, rfl, h2, h3⟩ := h
  rw [List.cons_append, StsP]
  exact ⟨c1, c2 ++ cs, by rw [List.append_assoc], h2, StsP.snoc h3 h1⟩
inductive Res (α : Type) where
 | ok (a : α) (i : Nat)
 | err (c ln col : Nat)
 | out
def Res.bind {α β : Type} : Res α → (α → Nat → Res β) → Res β
 | .ok a i, f => f a i
 | .err c ln col, _ => .err c ln col
 | .out, _ => .out
theorem Res.bind_ok {α β : Type} (a : α) (i : Nat) (f : α → Nat → Res β) : (Res.ok a i).bind f = f a i := rfl
theorem Res.bind_err {α β : Type} (c ln col : Nat) (f : α → Nat → Res β) : (Res.err c ln col : Res α).bind f = .err c ln col := rfl
theorem Res.bind_out {α β : Type} (f : α → Nat → Res β) : (Res.out : Res α).bind f = .out := rfl
def noTok : Tok := ⟨0, [], 0, 0, 0⟩
def tokA (l : List Tok) (i : Nat) : Tok := l.getD i noTok
def isF (l : List Tok) (i : Nat) (s : List UInt8) : Bool := seesF (tokA l i) s
def failR {α : Type} (c : Nat) (l : List Tok) (i : Nat) : Res α := .err c (tokA l i).line (tokA l i).col
def needR (l : List Tok) (i : Nat) (s : List UInt8) : Res Unit := if isF l i s then .ok () (i + 1) else failR 1 l i
def nameR (l : List Tok) (i : Nat) : Res ByteArray := if nameOk (tokA l i) then .ok (toB (tokA l i).text) (i + 1) else failR 1 l i
def roomR (n most : Nat) (l : List Tok) (i : Nat) : Res Unit := if most ≤ n then failR 2 l i else .ok () i
def lifeR (l : List Tok) (i : Nat) : Res ByteArray := if (tokA l i).kind = 2 then .ok (toB (tokA l i).text) (i + 1) else failR 1 l i
def optF (l : List Tok) (i : Nat) : ByteArray := if (tokA l i).kind = 2 then toB (tokA l i).text else ⟨#[]⟩
def optI (l : List Tok) (i : Nat) : Nat := if (tokA l i).kind = 2 then i + 1 else i
def takeI (l : List Tok) (i : Nat) (s : List UInt8) : Nat := if isF l i s then i + 1 else i
def noB : ByteArray := ⟨#[]⟩
/- Types. -/
mutual
def typR : Nat → List Tok → Nat → Nat → Res Ty
 | 0, _, _, _ => .out
 | f + 1, l, i, d =>
  if d = 40 then failR 2 l i
  else if isF l i [105, 110, 116] then .ok (.mk 1 noB noB false [] [] (tokA l i).line (tokA l i).col) (i + 1)
  else if isF l i [98, 111, 111, 108] then .ok (.mk 2 noB noB false [] [] (tokA l i).line (tokA l i).col) (i + 1)
  else if isF l i [102, 54, 52] then .ok (.mk 3 noB noB false [] [] (tokA l i).line (tokA l i).col) (i + 1)
  else if isF l i [40] then (needR l (i + 1) [41]).bind fun _ j => .ok (.mk 4 noB noB false [] [] (tokA l i).line (tokA l i).col) j
  else if isF l i [66, 111, 120] then (needR l (i + 1) [60]).bind fun _ j => (typR f l j (d + 1)).bind fun a j => (needR l j [62]).bind fun _ j => .ok (.mk 6 noB noB false [] [a] (tokA l i).line (tokA l i).col) j
  else if isF l i [38] then (typR f l (takeI l (optI l (i + 1)) [109, 117, 116]) (d + 1)).bind fun a j => .ok (.mk 7 noB (optF l (i + 1)) (isF l (optI l (i + 1)) [109, 117, 116]) [] [a] (tokA l i).line (tokA l i).col) j
  else if isF l i [100, 121, 110] then (nameR l (i + 1)).bind fun n j => if isF l j [43] then (lifeR l (j + 1)).bind fun x j => .ok (.mk 8 n x false [] [] (tokA l i).line (tokA l i).col) j else .ok (.mk 8 n noB false [] [] (tokA l i).line (tokA l i).col) j
  else (nameR l i).bind fun n j => if isF l j [60] then (argsR f l (j + 1) (d + 1) [] []).bind fun p j => .ok (.mk 5 n noB false p.1 p.2 (tokA l i).line (tokA l i).col) j else .ok (.mk 5 n noB false [] [] (tokA l i).line (tokA l i).col) j
def argsR : Nat → List Tok → Nat → Nat → List ByteArray → List Ty → Res (List ByteArray × List Ty)
 | 0, _, _, _, _, _ => .out
 | f + 1, l, i, d, ls, ts =>
  (roomR (ls.length + ts.length) 8 l i).bind fun _ i =>
   (if (tokA l i).kind = 2 ∧ ts.length = 0 then (lifeR l i).bind fun x j => .ok (ls ++ [x], ts) j else (typR f l i d).bind fun x j => .ok (ls, ts ++ [x]) j).bind fun p j =>
    if isF l j [44] then argsR f l (j + 1) d p.1 p.2 else (needR l j [62]).bind fun _ j => .ok p j
end
/- Names between commas, up to a bar. -/
def barsR : Nat → List Tok → Nat → List ByteArray → Res (List ByteArray)
 | 0, _, _, _ => .out
 | f + 1, l, i, ns => (roomR ns.length 8 l i).bind fun _ i => (nameR l i).bind fun n j => if isF l j [44] then barsR f l (j + 1) (ns ++ [n]) else (needR l j [124]).bind fun _ j => .ok (ns ++ [n]) j
/- Operators of a level. -/
def opsL : Nat → List (List UInt8)
 | 0 => [[124]]
 | 1 => [[38, 38]]
 | 2 => [[61, 61], [60]]
 | 3 => [[43], [45]]
 | 4 => [[42], [47]]
 | _ => []
def opF (l : List Tok) (i n : Nat) : Option (List UInt8) := (opsL n).find? (isF l i)
def exMk (k : Int) (name : ByteArray) (v : Int) (m : Bool) (args : List Ex) (names : List ByteArray) (body : List St) (t : Tok) : Ex := .mk k name v m args names body t.line t.col
def stMk (k : Int) (name : ByteArray) (ty : Ty) (place e : List Ex) (body els : List St) (other : Bool) (t : Tok) : St := .mk k name ty place e body els other t.line t.col
def noTy : Ty := .mk 0 noB noB false [] [] 0 0
/- Expressions, statements. -/
mutual
def levelR : Nat → List Tok → Nat → Nat → Nat → Res Ex
 | 0, _, _, _, _ => .out
 | f + 1, l, i, d, n => if n = 5 then unaryR f l i d else (levelR f l i d (n + 1)).bind fun x j => rowR f l j d n x
def rowR : Nat → List Tok → Nat → Nat → Nat → Ex → Res Ex
 | 0, _, _, _, _, _ => .out
 | f + 1, l, i, d, n, x => match opF l i n with
  | none => .ok x i
  | some s => (levelR f l (i + 1) d (n + 1)).bind fun y j =>
    if n = 2 then .ok (exMk 14 (toB s) 0 false [x, y] [] [] (tokA l i)) j else rowR f l j d n (exMk 14 (toB s) 0 false [x, y] [] [] (tokA l i))
def unaryR : Nat → List Tok → Nat → Nat → Res Ex
 | 0, _, _, _ => .out
 | f + 1, l, i, d =>
  if d = 40 then failR 2 l i
  else if isF l i [45] then (unaryR f l (i + 1) (d + 1)).bind fun y j => .ok (exMk 15 (toB [45]) 0 false [y] [] [] (tokA l i)) j
  else if isF l i [33] then (unaryR f l (i + 1) (d + 1)).bind fun y j => .ok (exMk 15 (toB [33]) 0 false [y] [] [] (tokA l i)) j
  else if isF l i [42] then (unaryR f l (i + 1) (d + 1)).bind fun y j => .ok (exMk 7 noB 0 false [y] [] [] (tokA l i)) j
  else if isF l i [38] then (unaryR f l (takeI l (i + 1) [109, 117, 116]) (d + 1)).bind fun y j => .ok (exMk 8 noB 0 (isF l (i + 1) [109, 117, 116]) [y] [] [] (tokA l i)) j
  else postR f l i (d + 1)
def postR : Nat → List Tok → Nat → Nat → Res Ex
 | 0, _, _, _ => .out
 | f + 1, l, i, d => (primR f l i d).bind fun x j => dotsR f l j d x
def dotsR : Nat → List Tok → Nat → Nat → Ex → Res Ex
 | 0, _, _, _, _ => .out
 | f + 1, l, i, d, x =>
  if isF l i [46] then (nameR l (i + 1)).bind fun n j =>
   if isF l j [40] then (listR f l (j + 1) d).bind fun al j => dotsR f l j d (exMk 13 n 0 false (x :: al) [] [] (tokA l i))
   else dotsR f l j d (exMk 6 n 0 false [x] [] [] (tokA l i))
  else .ok x i
def listR : Nat → List Tok → Nat → Nat → Res (List Ex)
 | 0, _, _, _ => .out
 | f + 1, l, i, d => if isF l i [41] then .ok [] (i + 1) else moreR f l i d []
def moreR : Nat → List Tok → Nat → Nat → List Ex → Res (List Ex)
 | 0, _, _, _, _ => .out
 | f + 1, l, i, d, acc => (roomR acc.length 8 l i).bind fun _ i => (levelR f l i d 0).bind fun x j =>
  if isF l j [44] then moreR f l (j + 1) d (acc ++ [x]) else (needR l j [41]).bind fun _ j => .ok (acc ++ [x]) j
def oneR : Nat → List Tok → Nat → Nat → Res Ex
 | 0, _, _, _ => .out
 | f + 1, l, i, d => (needR l i [40]).bind fun _ j => (levelR f l j d 0).bind fun x j => (needR l j [41]).bind fun _ j => .ok x j
def madeR : Nat → List Tok → Nat → Nat → List ByteArray → List Ex → Res (List ByteArray × List Ex)
 | 0, _, _, _, _, _ => .out
 | f + 1, l, i, d, ns, al => (roomR ns.length 12 l i).bind fun _ i => (nameR l i).bind fun n j => (needR l j [58]).bind fun _ j => (levelR f l j d 0).bind fun x j =>
  if isF l j [44] then madeR f l (j + 1) d (ns ++ [n]) (al ++ [x]) else (needR l j [125]).bind fun _ j => .ok (ns ++ [n], al ++ [x]) j
def primR : Nat → List Tok → Nat → Nat → Res Ex
 | 0, _, _, _ => .out
 | f + 1, l, i, d =>
  if (tokA l i).kind = 3 then .ok (exMk 1 noB (tokA l i).val false [] [] [] (tokA l i)) (i + 1)
  else if (tokA l i).kind = 4 then .ok (exMk 3 noB (tokA l i).val false [] [] [] (tokA l i)) (i + 1)
  else if isF l i [116, 114, 117, 101] then .ok (exMk 2 noB 1 false [] [] [] (tokA l i)) (i + 1)
  else if isF l i [102, 97, 108, 115, 101] then .ok (exMk 2 noB 0 false [] [] [] (tokA l i)) (i + 1)
  else if isF l i [99, 104, 111, 111, 115, 101] then .ok (exMk 16 noB 0 false [] [] [] (tokA l i)) (i + 1)
  else if isF l i [66, 111, 120] then (oneR f l (i + 1) d).bind fun x j => .ok (exMk 9 noB 0 false [x] [] [] (tokA l i)) j
  else if isF l i [117, 110, 98, 111, 120] then (oneR f l (i + 1) d).bind fun x j => .ok (exMk 10 noB 0 false [x] [] [] (tokA l i)) j
  else if isF l i [110, 101, 119] then (nameR l (i + 1)).bind fun n j => (needR l j [123]).bind fun _ j =>
   if isF l j [125] then .ok (exMk 11 n 0 false [] [] [] (tokA l i)) (j + 1) else (madeR f l j d [] []).bind fun p j => .ok (exMk 11 n 0 false p.2 p.1 [] (tokA l i)) j
  else if isF l i [97, 115] then (nameR l (i + 1)).bind fun n j => (needR l j [124]).bind fun _ j =>
   (if isF l j [124] then .ok [] (j + 1) else barsR f l j []).bind fun ns j => (blockR f l j d).bind fun b j => .ok (exMk 17 n 0 false [] ns b (tokA l i)) j
  else if isF l i [40] then
   if isF l (i + 1) [41] then .ok (exMk 4 noB 0 false [] [] [] (tokA l i)) (i + 2)
   else (levelR f l (i + 1) d 0).bind fun x j => (needR l j [41]).bind fun _ j => .ok (exMk 18 noB 0 false [x] [] [] (tokA l i)) j
  else if isF l i [115, 101, 108, 102] then .ok (exMk 5 (toB [115, 101, 108, 102]) 0 false [] [] [] (tokA l i)) (i + 1)
  else (nameR l i).bind fun n j => if isF l j [40] then (listR f l (j + 1) d).bind fun al j => .ok (exMk 12 n 0 false al [] [] (tokA l i)) j else .ok (exMk 5 n 0 false [] [] [] (tokA l i)) j
def blockR : Nat → List Tok → Nat → Nat → Res (List St)
 | 0, _, _, _ => .out
 | f + 1, l, i, d => if d = 40 then failR 2 l i else (needR l i [123]).bind fun _ j => stmtsR f l j (d + 1) []
def stmtsR : Nat → List Tok → Nat → Nat → List St → Res (List St)
 | 0, _, _, _, _ => .out
 | f + 1, l, i, d, acc => if isF l i [125] then .ok acc (i + 1) else (stmtR f l i d).bind fun s j => stmtsR f l j d (acc ++ [s])
def letR : Nat → List Tok → Nat → Nat → Res (ByteArray × Ty × List Ex)
 | 0, _, _, _ => .out
 | f + 1, l, i, d => (nameR l i).bind fun n j => (if isF l j [58] then typR f l (j + 1) d else .ok noTy j).bind fun ty j =>
  (if isF l j [61] then (levelR f l (j + 1) d 0).bind fun x j => .ok [x] j else .ok [] j).bind fun e j => (needR l j [59]).bind fun _ j => .ok (n, ty, e) j
def setR : Nat → List Tok → Nat → Nat → Res (List Ex × Ex)
 | 0, _, _, _ => .out
 | f + 1, l, i, d => (levelR f l i d 0).bind fun x j => (if isF l j [61] then (levelR f l (j + 1) d 0).bind fun y j => .ok ([x], y) j else .ok ([], x) j).bind fun p j => (needR l j [59]).bind fun _ j => .ok p j
def stmtR : Nat → List Tok → Nat → Nat → Res St
 | 0, _, _, _ => .out
 | f + 1, l, i, d =>
  if isF l i [108, 101, 116] then (letR f l (i + 1) d).bind fun p j => .ok (stMk 1 p.1 p.2.1 [] p.2.2 [] [] false (tokA l i)) j
  else if isF l i [105, 102] then (levelR f l (i + 1) d 0).bind fun x j => (blockR f l j d).bind fun b j =>
   if isF l j [101, 108, 115, 101] then (blockR f l (j + 1) d).bind fun c j => .ok (stMk 4 noB noTy [] [x] b c true (tokA l i)) j else .ok (stMk 4 noB noTy [] [x] b [] false (tokA l i)) j
  else if isF l i [119, 104, 105, 108, 101] then (levelR f l (i + 1) d 0).bind fun x j => (blockR f l j d).bind fun b j => .ok (stMk 5 noB noTy [] [x] b [] false (tokA l i)) j
  else if isF l i [114, 101, 116, 117, 114, 110] then (if isF l (i + 1) [59] then .ok [] (i + 1) else (levelR f l (i + 1) d 0).bind fun x j => .ok [x] j).bind fun e j => (needR l j [59]).bind fun _ j => .ok (stMk 6 noB noTy [] e [] [] false (tokA l i)) j
  else if isF l i [97, 98, 111, 114, 116] then (needR l (i + 1) [59]).bind fun _ j => .ok (stMk 7 noB noTy [] [] [] [] false (tokA l i)) j
  else if isF l i [123] then (blockR f l i d).bind fun b j => .ok (stMk 8 noB noTy [] [] b [] false (tokA l i)) j
  else (setR f l i d).bind fun p j => .ok (stMk (if p.1.length = 0 then 3 else 2) noB noTy p.1 [p.2] [] [] false (tokA l i)) j
end
end Go.Proofs.Ytppekkbaoimpgaa
