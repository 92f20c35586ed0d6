/- What single operations on numbers and words give, as rules for a walk in its own spelling: the results are letters. -/
import Derived.Test.YtilipeigjkmldaaAux
namespace Go.Proofs.Ytilipeigjkmldaa
open Go.RowKit

theorem val_quo64 (x q : Nat) (h : x ≤ 9223372036854775807) (hq : q = x / 64) : IntKind.i64.wrap ((x : Int).tdiv 64) = (q : Int) := by
  rw [Int.tdiv_eq_ediv_of_nonneg (by omega), IntWalk.i64_in _ (by omega)]; omega
theorem val_rem64 (x r : Nat) (hr : r = x % 64) : (x : Int).tmod 64 = (r : Int) := by
  rw [Int.tmod_eq_emod_of_nonneg (by omega)]; omega
theorem val_pow (k m : Nat) (h : k < 64) (hm : m = 2 ^ k) : IntKind.u64.wrap ((2 : Int) ^ k) = (m : Int) := by
  have hlt : (2 : Nat) ^ k < 18446744073709551616 := by
    have : (2 : Nat) ^ k < 2 ^ 64 := Nat.pow_lt_pow_right (by decide) h
    simpa using this
  have h2 : ((2 : Int) ^ k) = ((2 ^ k : Nat) : Int) := by simp
  rw [h2, ← hm]
  rw [← hm] at hlt
  simp [IntKind.wrap, IntKind.bits, IntKind.signed]
  omega
theorem val_shl1 (k m : Nat) (h : k < 64) (hm : m = 2 ^ k) : Op.shift .shl .u64 1 .i64 (k : Int) = pure (.int .u64 (m : Int)) := by
  have hlt : (2 : Nat) ^ k < 18446744073709551616 := by
    have : (2 : Nat) ^ k < 2 ^ 64 := Nat.pow_lt_pow_right (by decide) h
    simpa using this
  have e : IntKind.u64.wrap ((1 : Int) * 2 ^ (min k IntKind.u64.bits)) = (m : Int) := by
    have hb : min k IntKind.u64.bits = k := by simp [IntKind.bits]; omega
    rw [hb, Int.one_mul]
    have h2 : ((2 : Int) ^ k) = ((2 ^ k : Nat) : Int) := by simp
    rw [h2, ← hm]
    rw [← hm] at hlt
    simp [IntKind.wrap, IntKind.bits, IntKind.signed]
    omega
  have hn : ¬ ((k : Int) < 0) := by omega
  simp only [Op.shift, if_neg hn, Int.toNat_natCast, e]
theorem val_or64 (a b c : Nat) (ha : a < 18446744073709551616) (hb : b < 18446744073709551616) (hc : c = a ||| b) : bits .or .u64 (a : Int) (b : Int) = (c : Int) := by rw [hc]; exact u64_or_nat a b ha hb
theorem val_andNot64 (a b c : Nat) (ha : a < 18446744073709551616) (hb : b < 18446744073709551616) (hc : c = a &&& (18446744073709551615 - b)) : bits .andNot .u64 (a : Int) (b : Int) = (c : Int) := by rw [hc]; exact u64_andNot_nat a b ha hb
theorem val_and1 (a c : Nat) (ha : a < 18446744073709551616) (hc : c = a &&& 1) : bits .and .u64 (a : Int) 1 = (c : Int) := by rw [hc]; exact u64_and_nat a 1 ha (by decide)
theorem val_shr64 (a k c : Nat) (h : k < 64) (hc : c = a / 2 ^ k) : Op.shift .shr .u64 (a : Int) .i64 (k : Int) = pure (.int .u64 (c : Int)) := by
  have hn : ¬ ((k : Int) < 0) := by omega
  have e : (a : Int).fdiv (2 ^ (min k IntKind.u64.bits)) = (c : Int) := by
    have hb : min k IntKind.u64.bits = k := by simp [IntKind.bits]; omega
    have h2 : ((2 : Int) ^ k) = ((2 ^ k : Nat) : Int) := by simp
    rw [hb, h2, Int.fdiv_eq_ediv_of_nonneg _ (Int.natCast_nonneg _), hc]; rfl
  simp only [Op.shift, if_neg hn, Int.toNat_natCast, e]
end Go.Proofs.Ytilipeigjkmldaa
