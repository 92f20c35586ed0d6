/- Contracts of the cutter: a mark; the next token. -/
import Derived.Test.YtfjkkfdpeckccaaLexH
import Derived.Lib.IndexMore
namespace Go.Proofs.Ytfjkkfdpeckccaa
open Go.RowKit

theorem contains_cons (b : UInt8) (l sub : List UInt8) : Lib.contains (b :: l) sub = (sub.isPrefixOf (b :: l) || Lib.contains l sub) := by
  unfold Lib.contains
  rw [Lib.index]
  have := Lib.index_ge l sub
  cases h : sub.isPrefixOf (b :: l)
  · by_cases h1 : Lib.index l sub = -1
    · simp [h1]
    · have : (Lib.index l sub == -1) = false := by rw [beq_eq_false_iff_ne]; exact h1
      simp [this]; omega
  · simp
theorem contains_nil (a : UInt8) (l : List UInt8) : Lib.contains [] (a :: l) = false := rfl

def isTwo (a b : UInt8) : Bool := (a == 45 && b == 62) || (a == 61 && b == 61) || (a == 38 && b == 38)
def isOne (a : UInt8) : Bool := [40, 41, 123, 125, 60, 62, 44, 59, 58, 61, 38, 124, 43, 45, 42, 47, 33, 46].contains a

theorem two_contains (a b : UInt8) (ha : a ≠ 32) (hb : b ≠ 32) : Lib.contains [45, 62, 32, 61, 61, 32, 38, 38, 32] [a, b] = isTwo a b := by
  have ha' : (a == 32) = false := by rw [beq_eq_false_iff_ne]; exact ha
  have hb' : (b == 32) = false := by rw [beq_eq_false_iff_ne]; exact hb
  simp only [contains_cons, contains_nil, List.isPrefixOf, ha', hb', isTwo, Bool.and_true, Bool.and_false, Bool.false_and, Bool.or_false, Bool.false_or, Bool.or_assoc]
theorem one_contains (a : UInt8) : Lib.contains [40, 41, 123, 125, 60, 62, 44, 59, 58, 61, 38, 124, 43, 45, 42, 47, 33, 46] [a] = isOne a := by
  simp only [contains_cons, contains_nil, List.isPrefixOf, isOne, List.contains_cons, List.contains_nil, Bool.and_true]

def markF : List UInt8 → Except Nat (Nat × Nat × Nat)
  | a :: b :: _ => if isTwo a b then .ok (5, 2, 0) else if isOne a then .ok (5, 1, 0) else .error 1
  | [a] => if isOne a then .ok (5, 1, 0) else .error 1
  | [] => .error 1

theorem cell_alloc {w : World} {a : Addr} {v : Value} {o : Obj} (h : w.cell? a = some v) : (w.alloc o).cell? a = some v :=
  (World.grownBy_alloc w o none).cell h (by simp)
theorem cell_drewN {w : World} {a : Addr} {v : Value} {n : Nat} (h : w.cell? a = some v) : (w.drewN n).cell? a = some v := h
theorem cell_drew {w : World} {a : Addr} {v : Value} (h : w.cell? a = some v) : w.drew.cell? a = some v := h
theorem cell_set {w : World} {a p : Addr} {v u : Value} (h : w.cell? a = some v) (hn : a.block ≠ p.block) : (w.setCell p u).cell? a = some v :=
  (World.cell?_of_block (Below.heap_setCell w p u a.block hn)).trans h
theorem Step.cell {S : Nat → Prop} {w w' : World} {a : Addr} {v : Value} (hs : Step S w w') (h : w.cell? a = some v) (hn : ¬ S a.block) : w'.cell? a = some v :=
  (World.cell?_of_block (hs.block a.block (World.block_lt_of_cell? w a h) hn)).trans h

theorem two_any (u : ByteArray) (v : Bool) (m : Int) (w : World) (hu : Lib.contains [45, 62, 32, 61, 61, 32, 38, 38, 32] u.data.toList = v) (hm : w.cell? ⟨0, 0, none⟩ = some (.int .i64 m)) :
    Calls Try.prog 45 #[.string ⟨#[45, 62, 32, 61, 61, 32, 38, 38, 32]⟩, .string u] w fun e w' => e = .returned (.bool v) ∧ w = w' :=
  (Try.strings_Contains _ _ m _ (by decide) hm).mono fun _ _ h => ⟨by rw [h.1]; exact ret_bool hu, h.2.symm⟩
theorem one_any (u : ByteArray) (v : Bool) (m : Int) (w : World) (hu : Lib.contains [40, 41, 123, 125, 60, 62, 44, 59, 58, 61, 38, 124, 43, 45, 42, 47, 33, 46] u.data.toList = v) (hm : w.cell? ⟨0, 0, none⟩ = some (.int .i64 m)) :
    Calls Try.prog 45 #[.string ⟨#[40, 41, 123, 125, 60, 62, 44, 59, 58, 61, 38, 124, 43, 45, 42, 47, 33, 46]⟩, .string u] w fun e w' => e = .returned (.bool v) ∧ w = w' :=
  (Try.strings_Contains _ _ m _ (by decide) hm).mono fun _ _ h => ⟨by rw [h.1]; exact ret_bool hu, h.2.symm⟩

theorem extract_extract (s : ByteArray) (p n : Nat) (_h : p + n ≤ s.size) : (s.extract p s.size).extract 0 n = s.extract p (p + n) := by
  apply str_ext
  rw [Lib.extract_data, extract_end, extract_list]; rfl

set_option maxRecDepth 100000 in
set_option maxHeartbeats 1000000 in
theorem mark_two (b : Nat) (s : ByteArray) (p l f : Nat) (w : World) (m : Int) (h : Cut w b s p l f) (hp : p + 1 < s.size) (hs : s.size ≤ 100000) (hm : w.cell? ⟨0, 0, none⟩ = some (.int .i64 m))
    (c d : UInt8) (rest : List UInt8) (hd : s.data.toList.drop p = c :: d :: rest) (h2 : isTwo c d = true) :
    Calls Try.prog 56 #[.pointer (some ⟨b, 0, none⟩)] w fun e w' =>
      e = .returned (.tuple #[.agg #[.int .i64 5, .string (s.extract p (p + 2)), .int .i64 0, .int .i64 0, .int .u64 0], .int .i64 0]) ∧ Cut w' b s (p + 2) l f ∧ Step (· = b) w w' := by
  obtain ⟨c0, c1, c2, c3, f0, f1, f2, f3⟩ := h.cells
  have hlt : b < w.heap.size := blk_lt h.out
  have hts : (s.extract p s.size).size = s.size - p := by rw [ByteArray.size_extract]; omega
  have htl := extract_end s p
  rw [hd] at htl
  have htx := extract_extract s p 2 (by omega)
  generalize ht : s.extract p s.size = t at *
  have h0 : 0 < t.size := by omega
  have h1 : 1 < t.size := by omega
  have g0 : t[0] = c := by rw [get_list t 0 h0, htl]; rfl
  have g1 : t[1] = d := by rw [get_list t 1 h1, htl]; rfl
  have hcd : c ≠ 32 ∧ d ≠ 32 := by
    unfold isTwo at h2
    constructor <;> (rintro rfl; revert h2; simp)
  have b0 : ((t[0].toNat : Int) != 32) = true := by rw [bne_iff_ne, g0]; exact fun e => hcd.1 (byte_is 32 e)
  have b1 : ((t[1].toNat : Int) != 32) = true := by rw [bne_iff_ne, g1]; exact fun e => hcd.2 (byte_is 32 e)
  have HC : Hid (Lib.contains [45, 62, 32, 61, 61, 32, 38, 38, 32] (t.extract 0 2).data.toList = true) := by
    show _ = _
    rw [Lib.extract_data, htl]
    exact (two_contains c d hcd.1 hcd.2).trans h2
  have HT := Lib.hid ht
  have HX := Lib.hid htx
  clear hd h2 htl g0 g1 hcd ht htx hts
  go_enter Try.func56, Try.ntmps56
  go_wp2
  go_quiet (fail)
  rw [HT.out]
  go_wp2_with (go_at_call 45; refine (two_any _ true m _ HC.out (cell_drewN (cell_alloc hm))).mono ?_; rintro e w' ⟨rfl, rfl⟩)
  rw [HX.out]
  refine bodyPost_ret (v := .tuple #[.agg #[.int .i64 5, .string (s.extract p (p + 2)), .int .i64 0, .int .i64 0, .int .u64 0], .int .i64 0]) (by simp [results, Try.results56, go_sem]) rfl ⟨rfl, ?_, ?_⟩
  · exact (((h.alloc _).drewN _).set1 (q := p + 2) (by omega)).five (by omega)
  · exact ((((Step.refl (· = b) w).alloc _).drewN _).setCell ⟨b, 1, none⟩ _ (fun _ => rfl)).five (Nat.le_refl _)

/- How the first of mark's two tests comes out false. -/
inductive NoTwo (c : UInt8) (r : List UInt8) : Prop where
  | short : r = [] → NoTwo c r
  | blank0 : r ≠ [] → c = 32 → NoTwo c r
  | blank1 (d : UInt8) (r' : List UInt8) : r = d :: r' → c ≠ 32 → d = 32 → NoTwo c r
  | other (d : UInt8) (r' : List UInt8) : r = d :: r' → c ≠ 32 → d ≠ 32 → isTwo c d = false → NoTwo c r

set_option maxRecDepth 100000 in
set_option maxHeartbeats 1000000 in
theorem mark_one (v : Bool) (b : Nat) (s : ByteArray) (p l f : Nat) (w : World) (m : Int) (h : Cut w b s p l f) (hp : p < s.size) (hs : s.size ≤ 100000) (hm : w.cell? ⟨0, 0, none⟩ = some (.int .i64 m))
    (c : UInt8) (r : List UInt8) (hd : s.data.toList.drop p = c :: r) (h2 : NoTwo c r) (h1v : isOne c = v) :
    Calls Try.prog 56 #[.pointer (some ⟨b, 0, none⟩)] w (NumPost 1 b s p l f w (if v then .ok (5, 0) else .error 1)) := by
  obtain ⟨c0, c1, c2, c3, f0, f1, f2, f3⟩ := h.cells
  have hlt : b < w.heap.size := blk_lt h.out
  have hts : (s.extract p s.size).size = s.size - p := by rw [ByteArray.size_extract]; omega
  have htl := extract_end s p
  rw [hd] at htl
  have htx := extract_extract s p 1 (by omega)
  generalize ht : s.extract p s.size = t at *
  have h0 : 0 < t.size := by omega
  have g0 : t[0] = c := by rw [get_list t 0 h0, htl]; rfl
  have hsz : t.size = r.length + 1 := by rw [Lib.size_eq, htl]; rfl
  have HC : Hid (Lib.contains [40, 41, 123, 125, 60, 62, 44, 59, 58, 61, 38, 124, 43, 45, 42, 47, 33, 46] (t.extract 0 1).data.toList = v) := by
    show _ = _
    rw [Lib.extract_data, htl]
    exact (one_contains c).trans h1v
  have HT := Lib.hid ht
  have HX := Lib.hid htx
  have ht100 : t.size ≤ 100000 := by omega
  have htl' : Hid (t.data.toList = c :: r) := htl
  clear h1v ht htx hts hd htl
  cases h2 with
  | short he =>
    have hn1 : ¬ 1 < t.size := by rw [hsz, he]; simp
    clear hsz he g0
    cases v
    · show Calls _ _ _ _ (NumPost 1 b s p l f w (.error 1))
      go_enter Try.func56, Try.ntmps56
      go_wp2
      go_quiet (fail)
      rw [HT.out]
      go_wp2_with (go_at_call 45; refine (one_any _ _ m _ HC.out (cell_drewN (cell_alloc hm))).mono ?_; rintro e w' ⟨rfl, rfl⟩)
      refine bodyPost_ret (v := .tuple #[.agg #[.int .i64 0, .string ⟨#[]⟩, .int .i64 0, .int .i64 0, .int .u64 0], .int .i64 1]) (by simp [results, Try.results56, go_sem]) rfl ⟨rfl, ?_⟩
      exact (((Step.refl (· = b) w).alloc _).drewN _).five (Nat.le_refl _)
    · show Calls _ _ _ _ (NumPost 1 b s p l f w (.ok (5, 0)))
      go_enter Try.func56, Try.ntmps56
      go_wp2
      go_quiet (fail)
      rw [HT.out]
      go_wp2_with (go_at_call 45; refine (one_any _ _ m _ HC.out (cell_drewN (cell_alloc hm))).mono ?_; rintro e w' ⟨rfl, rfl⟩)
      rw [HX.out]
      refine bodyPost_ret (v := .tuple #[.agg #[.int .i64 5, .string (s.extract p (p + 1)), .int .i64 0, .int .i64 0, .int .u64 0], .int .i64 0]) (by simp [results, Try.results56, go_sem]) rfl ⟨⟨rfl, ?_⟩, ?_⟩
      · exact (((h.alloc _).drewN _).set1 (q := p + 1) (by omega)).five (by omega)
      · exact ((((Step.refl (· = b) w).alloc _).drewN _).setCell ⟨b, 1, none⟩ _ (fun _ => rfl)).five (Nat.le_refl _)
  | blank0 hne hc =>
    have hl1 : 1 < t.size := by
      rw [hsz]; cases r with
      | nil => exact absurd rfl hne
      | cons _ _ => simp
    have b0 : ((t[0].toNat : Int) != 32) = false := by rw [g0, hc]; rfl
    clear hsz g0 hc
    cases v
    · show Calls _ _ _ _ (NumPost 1 b s p l f w (.error 1))
      go_enter Try.func56, Try.ntmps56
      go_wp2
      go_quiet (fail)
      rw [HT.out]
      go_wp2_with (go_at_call 45; refine (one_any _ _ m _ HC.out (cell_drewN (cell_alloc hm))).mono ?_; rintro e w' ⟨rfl, rfl⟩)
      refine bodyPost_ret (v := .tuple #[.agg #[.int .i64 0, .string ⟨#[]⟩, .int .i64 0, .int .i64 0, .int .u64 0], .int .i64 1]) (by simp [results, Try.results56, go_sem]) rfl ⟨rfl, ?_⟩
      exact (((Step.refl (· = b) w).alloc _).drewN _).five (Nat.le_refl _)
    · show Calls _ _ _ _ (NumPost 1 b s p l f w (.ok (5, 0)))
      go_enter Try.func56, Try.ntmps56
      go_wp2
      go_quiet (fail)
      rw [HT.out]
      go_wp2_with (go_at_call 45; refine (one_any _ _ m _ HC.out (cell_drewN (cell_alloc hm))).mono ?_; rintro e w' ⟨rfl, rfl⟩)
      rw [HX.out]
      refine bodyPost_ret (v := .tuple #[.agg #[.int .i64 5, .string (s.extract p (p + 1)), .int .i64 0, .int .i64 0, .int .u64 0], .int .i64 0]) (by simp [results, Try.results56, go_sem]) rfl ⟨⟨rfl, ?_⟩, ?_⟩
      · exact (((h.alloc _).drewN _).set1 (q := p + 1) (by omega)).five (by omega)
      · exact ((((Step.refl (· = b) w).alloc _).drewN _).setCell ⟨b, 1, none⟩ _ (fun _ => rfl)).five (Nat.le_refl _)
  | blank1 d r' hr hc hd =>
    have hl1 : 1 < t.size := by rw [hsz, hr]; simp
    have g1 : t[1] = d := by rw [get_list t 1 hl1, htl'.out, hr]; rfl
    have b0 : ((t[0].toNat : Int) != 32) = true := by rw [bne_iff_ne, g0]; exact fun e => hc (byte_is 32 e)
    have b1 : ((t[1].toNat : Int) != 32) = false := by rw [g1, hd]; rfl
    clear hsz g0 g1 hd hr
    cases v
    · show Calls _ _ _ _ (NumPost 1 b s p l f w (.error 1))
      go_enter Try.func56, Try.ntmps56
      go_wp2
      go_quiet (fail)
      rw [HT.out]
      go_wp2_with (go_at_call 45; refine (one_any _ _ m _ HC.out (cell_drewN (cell_alloc hm))).mono ?_; rintro e w' ⟨rfl, rfl⟩)
      refine bodyPost_ret (v := .tuple #[.agg #[.int .i64 0, .string ⟨#[]⟩, .int .i64 0, .int .i64 0, .int .u64 0], .int .i64 1]) (by simp [results, Try.results56, go_sem]) rfl ⟨rfl, ?_⟩
      exact (((Step.refl (· = b) w).alloc _).drewN _).five (Nat.le_refl _)
    · show Calls _ _ _ _ (NumPost 1 b s p l f w (.ok (5, 0)))
      go_enter Try.func56, Try.ntmps56
      go_wp2
      go_quiet (fail)
      rw [HT.out]
      go_wp2_with (go_at_call 45; refine (one_any _ _ m _ HC.out (cell_drewN (cell_alloc hm))).mono ?_; rintro e w' ⟨rfl, rfl⟩)
      rw [HX.out]
      refine bodyPost_ret (v := .tuple #[.agg #[.int .i64 5, .string (s.extract p (p + 1)), .int .i64 0, .int .i64 0, .int .u64 0], .int .i64 0]) (by simp [results, Try.results56, go_sem]) rfl ⟨⟨rfl, ?_⟩, ?_⟩
      · exact (((h.alloc _).drewN _).set1 (q := p + 1) (by omega)).five (by omega)
      · exact ((((Step.refl (· = b) w).alloc _).drewN _).setCell ⟨b, 1, none⟩ _ (fun _ => rfl)).five (Nat.le_refl _)
  | other d r' hr hc hd ho =>
    have hl1 : 1 < t.size := by rw [hsz, hr]; simp
    have g1 : t[1] = d := by rw [get_list t 1 hl1, htl'.out, hr]; rfl
    have b0 : ((t[0].toNat : Int) != 32) = true := by rw [bne_iff_ne, g0]; exact fun e => hc (byte_is 32 e)
    have b1 : ((t[1].toNat : Int) != 32) = true := by rw [bne_iff_ne, g1]; exact fun e => hd (byte_is 32 e)
    have HD : Hid (Lib.contains [45, 62, 32, 61, 61, 32, 38, 38, 32] (t.extract 0 2).data.toList = false) := by
      show _ = _
      rw [Lib.extract_data, htl'.out, hr]
      exact (two_contains c d hc hd).trans ho
    clear hsz g0 g1 hr ho
    cases v
    · show Calls _ _ _ _ (NumPost 1 b s p l f w (.error 1))
      go_enter Try.func56, Try.ntmps56
      go_wp2
      go_quiet (fail)
      rw [HT.out]
      go_wp2_with fail
      refine (two_any _ _ m _ HD.out (cell_drewN (cell_alloc hm))).mono ?_
      rintro e w' ⟨rfl, rfl⟩
      go_wp2_with fail
      refine (one_any _ _ m _ HC.out (cell_drewN (cell_alloc hm))).mono ?_
      rintro e w' ⟨rfl, rfl⟩
      go_wp2
      refine bodyPost_ret (v := .tuple #[.agg #[.int .i64 0, .string ⟨#[]⟩, .int .i64 0, .int .i64 0, .int .u64 0], .int .i64 1]) (by simp [results, Try.results56, go_sem]) rfl ⟨rfl, ?_⟩
      exact (((Step.refl (· = b) w).alloc _).drewN _).five (Nat.le_refl _)
    · show Calls _ _ _ _ (NumPost 1 b s p l f w (.ok (5, 0)))
      go_enter Try.func56, Try.ntmps56
      go_wp2
      go_quiet (fail)
      rw [HT.out]
      go_wp2_with fail
      refine (two_any _ _ m _ HD.out (cell_drewN (cell_alloc hm))).mono ?_
      rintro e w' ⟨rfl, rfl⟩
      go_wp2_with fail
      refine (one_any _ _ m _ HC.out (cell_drewN (cell_alloc hm))).mono ?_
      rintro e w' ⟨rfl, rfl⟩
      go_wp2
      rw [HX.out]
      refine bodyPost_ret (v := .tuple #[.agg #[.int .i64 5, .string (s.extract p (p + 1)), .int .i64 0, .int .i64 0, .int .u64 0], .int .i64 0]) (by simp [results, Try.results56, go_sem]) rfl ⟨⟨rfl, ?_⟩, ?_⟩
      · exact (((h.alloc _).drewN _).set1 (q := p + 1) (by omega)).five (by omega)
      · exact ((((Step.refl (· = b) w).alloc _).drewN _).setCell ⟨b, 1, none⟩ _ (fun _ => rfl)).five (Nat.le_refl _)

theorem mark_gives : Gives 56 markF (fun _ => True) where
  ok b s p l f w kind n val m h hp hs hm _ _ he := by
    cases hd : s.data.toList.drop p with
    | nil => rw [hd, markF] at he; simp at he
    | cons c r =>
      rw [hd] at he
      by_cases h2 : ∃ d r', r = d :: r' ∧ isTwo c d = true
      · obtain ⟨d, r', rfl, h2⟩ := h2
        rw [markF, if_pos h2] at he
        simp at he
        obtain ⟨rfl, rfl, rfl⟩ := he
        have hp1 : p + 1 < s.size := by
          have := congrArg List.length hd
          simp at this; omega
        exact mark_two b s p l f w m h hp1 hs hm c d r' hd h2
      · have hno : NoTwo c r ∧ (markF (c :: r) = if isOne c then .ok (5, 1, 0) else .error 1) := by
          cases r with
          | nil => exact ⟨.short rfl, rfl⟩
          | cons d r' =>
            have h3 : isTwo c d = false := by
              cases e : isTwo c d
              · rfl
              · exact absurd ⟨d, r', rfl, e⟩ h2
            refine ⟨?_, by rw [markF, h3]; rfl⟩
            by_cases hc : c = 32
            · exact .blank0 (by simp) hc
            · by_cases hd' : d = 32
              · exact .blank1 d r' rfl hc hd'
              · exact .other d r' rfl hc hd' h3
        rw [hno.2] at he
        cases h1 : isOne c
        · rw [h1] at he; simp at he
        · rw [h1] at he
          simp at he
          obtain ⟨rfl, rfl, rfl⟩ := he
          exact (mark_one true b s p l f w m h hp hs hm c r hd hno.1 h1).mono fun e w' q => ⟨q.1.1, q.1.2, q.2⟩
  bad b s p l f w e0 m h hp hs hm _ _ he := by
    cases hd : s.data.toList.drop p with
    | nil =>
      have := congrArg List.length hd
      simp at this; omega
    | cons c r =>
      rw [hd] at he
      by_cases h2 : ∃ d r', r = d :: r' ∧ isTwo c d = true
      · obtain ⟨d, r', rfl, h2⟩ := h2
        rw [markF, if_pos h2] at he
        simp at he
      · have hno : NoTwo c r ∧ (markF (c :: r) = if isOne c then .ok (5, 1, 0) else .error 1) := by
          cases r with
          | nil => exact ⟨.short rfl, rfl⟩
          | cons d r' =>
            have h3 : isTwo c d = false := by
              cases e : isTwo c d
              · rfl
              · exact absurd ⟨d, r', rfl, e⟩ h2
            refine ⟨?_, by rw [markF, h3]; rfl⟩
            by_cases hc : c = 32
            · exact .blank0 (by simp) hc
            · by_cases hd' : d = 32
              · exact .blank1 d r' rfl hc hd'
              · exact .other d r' rfl hc hd' h3
        rw [hno.2] at he
        cases h1 : isOne c
        · rw [h1] at he
          simp at he
          subst he
          exact (mark_one false b s p l f w m h hp hs hm c r hd hno.1 h1).mono fun e w' q => q
        · rw [h1] at he; simp at he

end Go.Proofs.Ytfjkkfdpeckccaa
