/-
  Characters, units and pairs: the program's and the reference's small functions, walked; each comes to one plain function of numbers.
-/
import Derived.Test.YtmdcbpdmkonmlaaKit
import Derived.Test.YtmdcbpdmkonmlaaRows
namespace Go.Proofs.Ytmdcbpdmkonmlaa
open Go.RowKit

/-- Is it a character? -/
def scalarB (r : Int) : Bool := decide (0 ≤ r ∧ r ≤ 1114111 ∧ (r < 55296 ∨ 57343 < r))
/-- Is it a character of two units? -/
def wideB (r : Int) : Bool := decide (65536 ≤ r ∧ r ≤ 1114111)

theorem ret_bool {a b : Bool} (h : a = b) : Ending.returned (.bool a) = .returned (.bool b) := by rw [h]
theorem ret_int {k : IntKind} {a b : Int} (h : a = b) : Ending.returned (.int k a) = .returned (.int k b) := by rw [h]

set_option maxHeartbeats 400000 in
theorem validRune_any (r : Int) (w : World) : Calls Try.prog 68 #[.int .i32 r] w fun e w' => e = .returned (.bool (scalarB r)) ∧ w = w' := by
  rcases (show r < 0 ∨ (0 ≤ r ∧ r < 55296) ∨ (55296 ≤ r ∧ r ≤ 57343) ∨ (57343 < r ∧ r ≤ 1114111) ∨ 1114111 < r from by omega) with h | ⟨h, h'⟩ | ⟨h, h'⟩ | ⟨h, h'⟩ | h
  all_goals
    go_enter Try.func68, Try.ntmps68
    go_wp2
    go_ret
    exact ⟨ret_bool (by unfold scalarB; rw [Bool.eq_iff_iff]; simp; omega), rfl⟩

set_option maxHeartbeats 400000 in
theorem scalar_any (r : Int) (w : World) : Calls Try.prog 55 #[.int .i32 r] w fun e w' => e = .returned (.bool (scalarB r)) ∧ w = w' := by
  go_enter Try.func55, Try.ntmps55
  go_wp2_with (go_at_call 68; refine (validRune_any _ _).mono ?_; rintro e w' ⟨rfl, rfl⟩)
  go_ret
  exact ⟨rfl, rfl⟩

set_option maxHeartbeats 400000 in
theorem rscalar_any (r : Int) (w : World) : Calls Try.prog 56 #[.int .i32 r] w fun e w' => e = .returned (.bool (scalarB r)) ∧ w = w' := by
  rcases (show r < 0 ∨ (0 ≤ r ∧ r < 55296) ∨ (55296 ≤ r ∧ r ≤ 57343) ∨ (57343 < r ∧ r ≤ 1114111) ∨ 1114111 < r from by omega) with h | ⟨h, h'⟩ | ⟨h, h'⟩ | ⟨h, h'⟩ | h
  all_goals
    go_enter Try.func56, Try.ntmps56
    go_wp2
    go_ret
    exact ⟨ret_bool (by unfold scalarB; rw [Bool.eq_iff_iff]; simp; omega), rfl⟩

/-- How many units. -/
def widthOf (r : Int) : Int := if wideB r then 2 else 1

set_option maxHeartbeats 400000 in
theorem width_any (r : Int) (w : World) : Calls Try.prog 18 #[.int .i32 r] w fun e w' => e = .returned (.int .i64 (widthOf r)) ∧ w = w' := by
  cases hs : scalarB r
  · have hw : wideB r = false := by unfold scalarB at hs; unfold wideB; simp at hs ⊢; omega
    go_enter Try.func18, Try.ntmps18
    go_wp2_with (go_at_call 55; refine (scalar_any _ _).mono ?_; rw [hs]; rintro e w' ⟨rfl, rfl⟩)
    go_ret
    exact ⟨ret_int (by simp [widthOf, hw]), rfl⟩
  · by_cases h : 65536 ≤ r
    · have hw : wideB r = true := by unfold scalarB at hs; unfold wideB; simp at hs ⊢; omega
      go_enter Try.func18, Try.ntmps18
      go_wp2_with (go_at_call 55; refine (scalar_any _ _).mono ?_; rw [hs]; rintro e w' ⟨rfl, rfl⟩)
      go_ret
      exact ⟨ret_int (by simp [widthOf, hw]), rfl⟩
    · have hw : wideB r = false := by unfold wideB; simp; omega
      go_enter Try.func18, Try.ntmps18
      go_wp2_with (go_at_call 55; refine (scalar_any _ _).mono ?_; rw [hs]; rintro e w' ⟨rfl, rfl⟩)
      go_ret
      exact ⟨ret_int (by simp [widthOf, hw]), rfl⟩

set_option maxHeartbeats 400000 in
theorem rwidth_any (r : Int) (w : World) : Calls Try.prog 19 #[.int .i32 r] w fun e w' => e = .returned (.int .i64 (widthOf r)) ∧ w = w' := by
  rcases (show r < 65536 ∨ (65536 ≤ r ∧ r ≤ 1114111) ∨ 1114111 < r from by omega) with h | ⟨h, h'⟩ | h
  all_goals
    go_enter Try.func19, Try.ntmps19
    go_wp2
    go_ret
    exact ⟨ret_int (by unfold widthOf wideB; split <;> simp_all <;> omega), rfl⟩

/-- The pair of a character of two units. -/
def hiOf (r : Int) : Int := 55296 + (r - 65536) / 1024
def loOf (r : Int) : Int := 56320 + (r - 65536) % 1024

theorem and_1023 (x : Int) (h0 : 0 ≤ x) (h1 : x < 2147483648) : bits BinOp.and IntKind.i32 x 1023 = x % 1024 := by
  obtain ⟨n, rfl⟩ := Int.eq_ofNat_of_zero_le h0
  show IntKind.i32.wrap ((BitVec.ofInt 32 (n : Int) &&& BitVec.ofInt 32 1023).toNat : Int) = _
  have e1 : (BitVec.ofInt 32 (n : Int)).toNat = n := by simp only [BitVec.toNat_ofInt]; omega
  have e2 : (BitVec.ofInt 32 1023).toNat = 1023 := by decide
  rw [BitVec.toNat_and, e1, e2]
  have := Nat.and_two_pow_sub_one_eq_mod n 10
  rw [show (2 : Nat) ^ 10 - 1 = 1023 from rfl, show (2 : Nat) ^ 10 = 1024 from rfl] at this
  rw [this]
  simp [IntKind.wrap, IntKind.signed, IntKind.bits]
  omega

theorem ret_split {a b c d : Int} (h1 : a = c) (h2 : b = d) : Ending.returned (.tuple #[.int .u16 a, .int .u16 b, .bool true]) = .returned (.tuple #[.int .u16 c, .int .u16 d, .bool true]) := by rw [h1, h2]

set_option maxHeartbeats 400000 in
theorem split_yes (r : Int) (w : World) (h : wideB r = true) : Calls Try.prog 14 #[.int .i32 r] w fun e w' => e = .returned (.tuple #[.int .u16 (hiOf r), .int .u16 (loOf r), .bool true]) ∧ w = w' := by
  have h1 : widthOf r = 2 := by simp [widthOf, h]
  have h2 : 65536 ≤ r ∧ r ≤ 1114111 := by simpa [wideB] using h
  obtain ⟨h2, h3⟩ := h2
  have h4 := and_1023 (r - 65536) (by omega) (by omega)
  clear h
  go_enter Try.func14, Try.ntmps14
  go_wp2_with (go_at_call 18; refine (width_any _ _).mono ?_; rw [h1]; rintro e w' ⟨rfl, rfl⟩)
  go_ret3
  exact ⟨ret_split rfl (by unfold loOf; rfl), rfl⟩

set_option maxHeartbeats 400000 in
theorem split_no (r : Int) (w : World) (h : wideB r = false) : Calls Try.prog 14 #[.int .i32 r] w fun e w' => e = .returned (.tuple #[.int .u16 0, .int .u16 0, .bool false]) ∧ w = w' := by
  have h1 : widthOf r = 1 := by simp [widthOf, h]
  clear h
  go_enter Try.func14, Try.ntmps14
  go_wp2_with (go_at_call 18; refine (width_any _ _).mono ?_; rw [h1]; rintro e w' ⟨rfl, rfl⟩)
  go_ret3
  exact ⟨rfl, rfl⟩

set_option maxHeartbeats 400000 in
theorem rsplit_yes (r : Int) (w : World) (h : wideB r = true) : Calls Try.prog 15 #[.int .i32 r] w fun e w' => e = .returned (.tuple #[.int .u16 (hiOf r), .int .u16 (loOf r), .bool true]) ∧ w = w' := by
  have h1 : widthOf r = 2 := by simp [widthOf, h]
  have h2 : 65536 ≤ r ∧ r ≤ 1114111 := by simpa [wideB] using h
  obtain ⟨h2, h3⟩ := h2
  clear h
  go_enter Try.func15, Try.ntmps15
  go_wp2_with (go_at_call 19; refine (rwidth_any _ _).mono ?_; rw [h1]; rintro e w' ⟨rfl, rfl⟩)
  go_ret3
  exact ⟨ret_split rfl (by unfold loOf; rfl), rfl⟩

set_option maxHeartbeats 400000 in
theorem rsplit_no (r : Int) (w : World) (h : wideB r = false) : Calls Try.prog 15 #[.int .i32 r] w fun e w' => e = .returned (.tuple #[.int .u16 0, .int .u16 0, .bool false]) ∧ w = w' := by
  have h1 : widthOf r = 1 := by simp [widthOf, h]
  clear h
  go_enter Try.func15, Try.ntmps15
  go_wp2_with (go_at_call 19; refine (rwidth_any _ _).mono ?_; rw [h1]; rintro e w' ⟨rfl, rfl⟩)
  go_ret3
  exact ⟨rfl, rfl⟩

end Go.Proofs.Ytmdcbpdmkonmlaa
