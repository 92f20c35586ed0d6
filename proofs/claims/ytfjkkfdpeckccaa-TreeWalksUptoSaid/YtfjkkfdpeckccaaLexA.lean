/- Contracts of the byte tests of packages lex and chattelref01: each returns what the plain Lean test says, for every byte. -/
import Derived.Test.YtfjkkfdpeckccaaBase
namespace Go.Proofs.Ytfjkkfdpeckccaa
open Go.RowKit

/- The plain tests, on a byte as an integer. -/
def isSmall (a : Int) : Bool := decide (97 ≤ a) && decide (a ≤ 122)
def isDigit (a : Int) : Bool := decide (48 ≤ a) && decide (a ≤ 57)
def isLetter (a : Int) : Bool := isSmall a || (decide (65 ≤ a) && decide (a ≤ 90)) || decide (a = 95)
def isWordy (a : Int) : Bool := isLetter a || isDigit a

set_option maxHeartbeats 400000 in
theorem small_any (a : Int) (w : World) (h0 : 0 ≤ a) (h1 : a ≤ 255) :
    Calls Try.prog 71 #[.int .u8 a] w fun e w' => e = .returned (.bool (isSmall a)) ∧ w = w' := by
  go_enter Try.func71, Try.ntmps71
  go_wp2
  all_goals (go_ret; exact ⟨by simp [isSmall]; omega, rfl⟩)

set_option maxHeartbeats 400000 in
theorem digit_any (a : Int) (w : World) (h0 : 0 ≤ a) (h1 : a ≤ 255) :
    Calls Try.prog 54 #[.int .u8 a] w fun e w' => e = .returned (.bool (isDigit a)) ∧ w = w' := by
  go_enter Try.func54, Try.ntmps54
  go_wp2
  all_goals (go_ret; exact ⟨by simp [isDigit]; omega, rfl⟩)

set_option maxHeartbeats 400000 in
theorem letter_any (a : Int) (w : World) (h0 : 0 ≤ a) (h1 : a ≤ 255) :
    Calls Try.prog 51 #[.int .u8 a] w fun e w' => e = .returned (.bool (isLetter a)) ∧ w = w' := by
  go_enter Try.func51, Try.ntmps51
  cases hs : isSmall a
  all_goals
    have hq := small_any a
    rw [hs] at hq
    go_wp2_with (go_at_call 71; refine (hq _ h0 h1).mono ?_; rintro e w' ⟨rfl, rfl⟩)
    all_goals (go_ret; exact ⟨ret_bool (by rw [Bool.eq_iff_iff]; simp [isLetter, hs]; try omega), rfl⟩)

set_option maxHeartbeats 400000 in
theorem name1_any (a : Int) (w : World) (h0 : 0 ≤ a) (h1 : a ≤ 255) :
    Calls Try.prog 73 #[.int .u8 a] w fun e w' => e = .returned (.bool (isWordy a)) ∧ w = w' := by
  go_enter Try.func73, Try.ntmps73
  cases hs : isLetter a
  all_goals
    have hq := letter_any a
    rw [hs] at hq
    go_wp2_with (first | (go_at_call 51; refine (hq _ h0 h1).mono ?_; rintro e w' ⟨rfl, rfl⟩) | (go_at_call 54; refine (digit_any _ _ h0 h1).mono ?_; rintro e w' ⟨rfl, rfl⟩))
    all_goals (go_ret; exact ⟨by simp [isWordy, hs], rfl⟩)

set_option maxHeartbeats 400000 in
theorem life1_any (a : Int) (w : World) (h0 : 0 ≤ a) (h1 : a ≤ 255) :
    Calls Try.prog 74 #[.int .u8 a] w fun e w' => e = .returned (.bool (isWordy a)) ∧ w = w' := by
  go_enter Try.func74, Try.ntmps74
  cases hs : isLetter a
  all_goals
    have hq := letter_any a
    rw [hs] at hq
    go_wp2_with (first | (go_at_call 51; refine (hq _ h0 h1).mono ?_; rintro e w' ⟨rfl, rfl⟩) | (go_at_call 54; refine (digit_any _ _ h0 h1).mono ?_; rintro e w' ⟨rfl, rfl⟩))
    all_goals (go_ret; exact ⟨by simp [isWordy, hs], rfl⟩)

set_option maxHeartbeats 400000 in
theorem number1_any (a : Int) (w : World) (h0 : 0 ≤ a) (h1 : a ≤ 255) :
    Calls Try.prog 75 #[.int .u8 a] w fun e w' => e = .returned (.bool (isWordy a)) ∧ w = w' := by
  go_enter Try.func75, Try.ntmps75
  cases hs : isLetter a
  all_goals
    have hq := letter_any a
    rw [hs] at hq
    go_wp2_with (first | (go_at_call 51; refine (hq _ h0 h1).mono ?_; rintro e w' ⟨rfl, rfl⟩) | (go_at_call 54; refine (digit_any _ _ h0 h1).mono ?_; rintro e w' ⟨rfl, rfl⟩))
    all_goals (go_ret; exact ⟨by simp [isWordy, hs], rfl⟩)

set_option maxHeartbeats 400000 in
theorem refDigit_any (a : Int) (w : World) (h0 : 0 ≤ a) (h1 : a ≤ 255) :
    Calls Try.prog 59 #[.int .u8 a] w fun e w' => e = .returned (.bool (isDigit a)) ∧ w = w' := by
  go_enter Try.func59, Try.ntmps59
  go_wp2
  all_goals (go_ret; exact ⟨by simp [isDigit]; omega, rfl⟩)

set_option maxHeartbeats 400000 in
theorem refLetter_any (a : Int) (w : World) (h0 : 0 ≤ a) (h1 : a ≤ 255) :
    Calls Try.prog 57 #[.int .u8 a] w fun e w' => e = .returned (.bool (isLetter a)) ∧ w = w' := by
  go_enter Try.func57, Try.ntmps57
  go_wp2
  all_goals (go_ret; exact ⟨ret_bool (by rw [Bool.eq_iff_iff]; simp [isLetter, isSmall]; try omega), rfl⟩)

end Go.Proofs.Ytfjkkfdpeckccaa
