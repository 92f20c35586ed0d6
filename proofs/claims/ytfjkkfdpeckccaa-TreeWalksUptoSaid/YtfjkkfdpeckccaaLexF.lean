/- Contracts of the cutter: a hexadecimal digit; a number. -/
import Derived.Test.YtfjkkfdpeckccaaLexE
namespace Go.Proofs.Ytfjkkfdpeckccaa
open Go.RowKit

/- A hexadecimal digit; none: it is none. -/
def hexF (c : UInt8) : Option Nat := if isDigit c.toNat then some (c.toNat - 48) else if 97 ≤ c.toNat ∧ c.toNat ≤ 102 then some (c.toNat - 87) else none

set_option maxHeartbeats 400000 in
theorem hex_ok (c : UInt8) (v : Nat) (w : World) (h : hexF c = some v) :
    Calls Try.prog 76 #[.int .u8 (c.toNat : Int)] w fun e w' => e = .returned (.tuple #[.int .u64 v, .bool true]) ∧ w = w' := by
  have hb : (c.toNat : Int) ≤ 255 := by have := c.toNat_lt; omega
  unfold hexF at h
  cases hd : isDigit (c.toNat : Int)
  · rw [if_neg (by simp [hd])] at h
    split at h
    · rename_i hr
      simp at h
      have hr1 : (97 : Int) ≤ c.toNat := by omega
      have hr2 : (c.toNat : Int) ≤ 102 := by omega
      have HV : Hid ((c.toNat : Int) - 97 + 10 = v) := show _ = _ by omega
      clear h hr
      have hq := digit_any (c.toNat : Int)
      rw [hd] at hq
      have HQ := Lib.hid hq
      clear hq hd
      go_enter Try.func76, Try.ntmps76
      go_wp2_with (go_at_call 54; refine (HQ.out _ (by omega) hb).mono ?_; rintro e w' ⟨rfl, rfl⟩)
      go_ret2
      exact ⟨by rw [← HV.out]; rfl, rfl⟩
    · simp at h
  · rw [if_pos (by simp [hd])] at h
    simp at h
    have h48 : (48 : Int) ≤ c.toNat ∧ (c.toNat : Int) ≤ 57 := by simpa [isDigit] using hd
    obtain ⟨h48, h57⟩ := h48
    have HV : Hid ((c.toNat : Int) - 48 = v) := show _ = _ by omega
    clear h
    have hq := digit_any (c.toNat : Int)
    rw [hd] at hq
    have HQ := Lib.hid hq
    clear hq hd
    go_enter Try.func76, Try.ntmps76
    go_wp2_with (go_at_call 54; refine (HQ.out _ (by omega) hb).mono ?_; rintro e w' ⟨rfl, rfl⟩)
    go_ret2
    exact ⟨by rw [← HV.out]; rfl, rfl⟩

set_option maxHeartbeats 400000 in
theorem hex_bad (c : UInt8) (w : World) (h : hexF c = none) :
    Calls Try.prog 76 #[.int .u8 (c.toNat : Int)] w fun e w' => e = .returned (.tuple #[.int .u64 0, .bool false]) ∧ w = w' := by
  have hb : (c.toNat : Int) ≤ 255 := by have := c.toNat_lt; omega
  unfold hexF at h
  cases hd : isDigit (c.toNat : Int)
  · rw [if_neg (by simp [hd])] at h
    have hr : ¬ (97 ≤ c.toNat ∧ c.toNat ≤ 102) := by intro e; rw [if_pos e] at h; simp at h
    have hq := digit_any (c.toNat : Int)
    rw [hd] at hq
    have HQ := Lib.hid hq
    clear hq hd h
    by_cases h97 : (97 : Int) ≤ c.toNat
    · have h102 : (102 : Int) < c.toNat := by omega
      clear hr
      go_enter Try.func76, Try.ntmps76
      go_wp2_with (go_at_call 54; refine (HQ.out _ (by omega) hb).mono ?_; rintro e w' ⟨rfl, rfl⟩)
      go_ret2
      exact ⟨rfl, rfl⟩
    · clear hr
      go_enter Try.func76, Try.ntmps76
      go_wp2_with (go_at_call 54; refine (HQ.out _ (by omega) hb).mono ?_; rintro e w' ⟨rfl, rfl⟩)
      go_ret2
      exact ⟨rfl, rfl⟩
  · rw [if_pos (by simp [hd])] at h
    simp at h

/- The bits that sixteen digits say; none: one is no digit. -/
def floatF : Nat → List UInt8 → Option Nat
  | v, [] => some v
  | v, c :: r => match hexF c with
    | some x => floatF (v * 16 + x) r
    | none => none
/- A whole number, digit by digit: how many have been read, what they say. -/
def intF (c0 : UInt8) : List UInt8 → Nat → Nat → Except Nat Nat
  | [], _, v => .ok v
  | c :: r, i, v =>
    if isDigit c.toNat = false ∨ (i = 1 ∧ c0 = 48) then .error 1
    else if 9223372036854775807 < v * 10 + (c.toNat - 48) then .error 2
    else intF c0 r (i + 1) (v * 10 + (c.toNat - 48))
/- A number's kind and value. -/
def numF (l : List UInt8) : Except Nat (Nat × Nat × Nat) :=
  if l.length = 18 ∧ l.take 2 = [48, 102] then
    match floatF 0 (l.drop 2) with
    | some v => .ok (4, l.length, v)
    | none => .error 1
  else match intF (l.headD 0) l 0 0 with
    | .ok v => .ok (3, l.length, v)
    | .error c => .error c
def numberF (l : List UInt8) : Except Nat (Nat × Nat × Nat) := numF (l.take (runF l))

theorem hexF_lt {c : UInt8} {x : Nat} (h : hexF c = some x) : x < 16 := by
  unfold hexF at h
  split at h
  · rename_i hd
    have : (48 : Int) ≤ c.toNat ∧ (c.toNat : Int) ≤ 57 := by simpa [isDigit] using hd
    simp at h; omega
  · split at h
    · simp at h; omega
    · simp at h

theorem or_hex (v x : Nat) (hv : v < 1152921504606846976) (hx : x < 16) : bits BinOp.or IntKind.u64 ((v : Int) * 16) x = ((v * 16 + x : Nat) : Int) := by
  rw [show ((v : Int) * 16) = ((v * 16 : Nat) : Int) by omega, bits_or_u64_nat _ _ (by omega) (by omega)]
  have : v * 16 ||| x = v * 16 + x := by
    have := Nat.shiftLeft_add_eq_or_of_lt (show x < 2 ^ 4 by omega) v
    rw [Nat.shiftLeft_eq] at this
    exact this.symm
  rw [this]

theorem drop_get (l : List UInt8) (i : Nat) (h : i < l.length) : l.drop i = l.getD i 0 :: l.drop (i + 1) := by
  rw [List.drop_eq_getElem_cons h, List.getD_eq_getElem?_getD, List.getElem?_eq_getElem h]; rfl

/- What 'number' leaves: a token of this kind and value, or an error. -/
def NumPost (n b : Nat) (s : ByteArray) (p l f : Nat) (w : World) (r : Except Nat (Nat × Nat)) (e : Ending) (w' : World) : Prop :=
  (match r with
    | .ok (k, v) => e = .returned (.tuple #[.agg #[.int .i64 k, .string (s.extract p (p + n)), .int .i64 0, .int .i64 0, .int .u64 v], .int .i64 0]) ∧ Cut w' b s (p + n) l f
    | .error c => e = .returned (.tuple #[.agg #[.int .i64 0, .string ⟨#[]⟩, .int .i64 0, .int .i64 0, .int .u64 0], .int .i64 c])) ∧ Step (· = b) w w'
def floatR : Option Nat → Except Nat (Nat × Nat)
  | some v => .ok (4, v)
  | none => .error 1

set_option maxHeartbeats 400000 in
theorem number_float (b : Nat) (s : ByteArray) (p l f : Nat) (w : World) (h : Cut w b s p l f) (hp : p < s.size) (hs : s.size ≤ 100000) (hN : runF (s.data.toList.drop p) = 18)
    (h2 : ((s.data.toList.drop p).take 18).take 2 = [48, 102]) (r : Option Nat) (hr : floatF 0 (((s.data.toList.drop p).take 18).drop 2) = r) :
    Calls Try.prog 55 #[.pointer (some ⟨b, 0, none⟩)] w (NumPost 18 b s p l f w (floatR r)) := by
  have hlt : b < w.heap.size := blk_lt h.out
  have hrl : p + 18 ≤ s.size := by have := runF_le (s.data.toList.drop p); simp at this; omega
  have HN := Lib.hid hN
  clear hN
  go_enter Try.func55, Try.ntmps55
  go_wp2_with fail
  refine (run_any _ b s p l f _ tests_number (h.alloc _) (by omega) hs).mono ?_
  rintro e w1 ⟨rfl, hc, hst⟩
  rw [HN.out] at hc ⊢
  have hsz := extract_size s p 18 hrl
  have hL := extract_list s p 18
  rw [← hL] at h2 hr
  generalize ht : s.extract p (p + 18) = t at *
  have hnb := hst.keep (blk_new _ _) (by omega)
  obtain ⟨⟨d0, d1, d2, d3, d4⟩, e0, e1, e2, e3, e4⟩ := blk5 hnb
  have hlt1 : w.heap.size < w1.heap.size := blk_lt hnb
  have HT := Lib.hid ht
  have HR := Lib.hid hr
  clear ht hL hr
  have hs18 : ((t.size : Int) == 18) = true := by rw [hsz]; rfl
  have hfm : ((t.extract 0 2).toList == [48, 102]) = true := by
    rw [beq_iff_eq, Lib.toList_data, Lib.extract_data]; exact h2
  clear h2
  go_wp2_with fail
  go_loopg [24] 16 (fun g s24 wr => ∃ (i v : Nat), i ≤ 16 ∧ 16 - i ≤ g ∧ s24 = .int .i64 i ∧ v < 16 ^ i ∧ floatF v (t.data.toList.drop (2 + i)) = r ∧
    wr = w1.alloc (.cells #[.int .i64 4, .string t, .int .i64 0, .int .i64 0, .int .u64 v] 58))
  case atStart => exact ⟨0, 0, by omega, by omega, rfl, by omega, HR.out, rfl⟩
  case round =>
    obtain ⟨i, v, hi, hg, rfl, hv, heq, rfl⟩ := hrel
    have HE := Lib.hid heq
    clear heq
    have hv64 : v ≤ 18446744073709551615 := by
      have := Nat.pow_le_pow_right (show 0 < 16 by omega) hi
      omega
    by_cases hlt16 : i < 16
    · have hv60 : v < 1152921504606846976 := by
        have := Nat.pow_le_pow_right (show 0 < 16 by omega) (show i ≤ 15 by omega)
        omega
      have hgd := get_list t (2 + i) (by omega)
      have hdr := drop_get t.data.toList (2 + i) (by rw [← Lib.size_eq]; omega)
      rw [← hgd] at hdr
      have HD := Lib.hid hdr
      clear hdr hgd
      cases hx : hexF t[2 + i] with
      | none =>
        have HX := Lib.hid hx
        clear hx
        go_wp2_with (go_at_call 76; refine (hex_bad _ _ HX.out).mono ?_; rintro e w' ⟨rfl, rfl⟩)
        have hr0 : r = none := by rw [← HE.out, HD.out, floatF, HX.out]
        subst hr0
        refine bodyPost_ret (v := .tuple #[.agg #[.int .i64 0, .string ⟨#[]⟩, .int .i64 0, .int .i64 0, .int .u64 0], .int .i64 1]) (by simp [results, Try.results55, go_sem, d0, d1, d2, d3, d4, hlt1]) rfl ⟨rfl, ?_⟩
        exact (hst.of_alloc.five (Nat.le_refl _)).alloc _
      | some x =>
        have hx16 := hexF_lt hx
        have HX := Lib.hid hx
        clear hx
        go_wp2_with (go_at_call 76; refine (hex_ok _ _ _ HX.out).mono ?_; rintro e w' ⟨rfl, rfl⟩)
        rw [or_hex v x hv60 hx16]
        go_roundg (gk - 1)
        case rel =>
          refine ⟨i + 1, v * 16 + x, by omega, by omega, by go_num, ?_, ?_, rfl⟩
          · rw [Nat.pow_succ]; omega
          · rw [← HE.out, HD.out, floatF, HX.out]; rfl
        case measure => omega
    · have hi16 : i = 16 := by omega
      have hr0 : r = some v := by
        rw [← HE.out, hi16, List.drop_of_length_le (by rw [← Lib.size_eq]; omega)]; rfl
      have HR0 := Lib.hid hr0
      clear hr0 hi16
      go_wp2
      rw [HR0.out]
      refine bodyPost_ret (v := .tuple #[.agg #[.int .i64 4, .string t, .int .i64 0, .int .i64 0, .int .u64 v], .int .i64 0]) (by simp [results, Try.results55, go_sem, d0, d1, d2, d3, d4, hlt1]) rfl ⟨⟨by rw [HT.out]; rfl, ?_⟩, ?_⟩
      · exact (hc.five (by omega)).alloc _
      · exact (hst.of_alloc.five (Nat.le_refl _)).alloc _

end Go.Proofs.Ytfjkkfdpeckccaa
