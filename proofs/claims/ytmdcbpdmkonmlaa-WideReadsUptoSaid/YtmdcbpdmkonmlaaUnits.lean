/-
  Units as surrogates: the program's and the reference's small functions, walked.
-/
import Derived.Test.YtmdcbpdmkonmlaaFrom
import Derived.BigQuiet
import Derived.Deep.QuietTactic
namespace Go.Proofs.Ytmdcbpdmkonmlaa
open Go.RowKit

/-- Is a unit a surrogate of the one kind, of the other? -/
def highB (u : Int) : Bool := decide (55296 ≤ u ∧ u < 56320)
def lowB (u : Int) : Bool := decide (56320 ≤ u ∧ u < 57344)
/-- The character of a pair. -/
def joinR (h l : Int) : Int := (h - 55296) * 1024 + (l - 56320) + 65536

set_option maxHeartbeats 400000 in
theorem high_any (u : Int) (w : World) : Calls Try.prog 51 #[.int .u16 u] w fun e w' => e = .returned (.bool (highB u)) ∧ w = w' := by
  rcases (show u < 55296 ∨ (55296 ≤ u ∧ u < 56320) ∨ 56320 ≤ u from by omega) with h | ⟨h, h'⟩ | h
  all_goals
    go_enter Try.func51, Try.ntmps51
    go_wp2
    go_ret
    exact ⟨ret_bool (by unfold highB; rw [Bool.eq_iff_iff]; simp; omega), rfl⟩

set_option maxHeartbeats 400000 in
theorem low_any (u : Int) (w : World) : Calls Try.prog 52 #[.int .u16 u] w fun e w' => e = .returned (.bool (lowB u)) ∧ w = w' := by
  rcases (show u < 56320 ∨ (56320 ≤ u ∧ u < 57344) ∨ 57344 ≤ u from by omega) with h | ⟨h, h'⟩ | h
  all_goals
    go_enter Try.func52, Try.ntmps52
    go_wp2
    go_ret
    exact ⟨ret_bool (by unfold lowB; rw [Bool.eq_iff_iff]; simp; omega), rfl⟩

set_option maxHeartbeats 400000 in
theorem rhigh_any (u : Int) (w : World) : Calls Try.prog 53 #[.int .u16 u] w fun e w' => e = .returned (.bool (highB u)) ∧ w = w' := by
  rcases (show u < 55296 ∨ (55296 ≤ u ∧ u ≤ 56319) ∨ 56319 < u from by omega) with h | ⟨h, h'⟩ | h
  all_goals
    go_enter Try.func53, Try.ntmps53
    go_wp2
    go_ret
    exact ⟨ret_bool (by unfold highB; rw [Bool.eq_iff_iff]; simp; omega), rfl⟩

set_option maxHeartbeats 400000 in
theorem rlow_any (u : Int) (w : World) : Calls Try.prog 54 #[.int .u16 u] w fun e w' => e = .returned (.bool (lowB u)) ∧ w = w' := by
  rcases (show u < 56320 ∨ (56320 ≤ u ∧ u ≤ 57343) ∨ 57343 < u from by omega) with h | ⟨h, h'⟩ | h
  all_goals
    go_enter Try.func54, Try.ntmps54
    go_wp2
    go_ret
    exact ⟨ret_bool (by unfold lowB; rw [Bool.eq_iff_iff]; simp; omega), rfl⟩

/-- What joining two units gives. -/
def joinOf (h l : Int) : Int × Bool := if highB h && lowB l then (joinR h l, true) else (0, false)

theorem joinOf_yes {h l : Int} (hh : highB h = true) (hl : lowB l = true) : joinOf h l = (joinR h l, true) := by simp [joinOf, hh, hl]
theorem joinOf_no1 {h l : Int} (hh : highB h = false) : joinOf h l = (0, false) := by simp [joinOf, hh]
theorem joinOf_no2 {h l : Int} (hl : lowB l = false) : joinOf h l = (0, false) := by simp [joinOf, hl]

theorem or_pair (x y : Int) (h0 : 0 ≤ x) (h1 : x < 1024) (h2 : 0 ≤ y) (h3 : y < 1024) : bits BinOp.or IntKind.i32 (x * 1024) y = x * 1024 + y := by
  obtain ⟨n, rfl⟩ := Int.eq_ofNat_of_zero_le h0
  obtain ⟨m, rfl⟩ := Int.eq_ofNat_of_zero_le h2
  show IntKind.i32.wrap ((BitVec.ofInt 32 ((n : Int) * 1024) ||| BitVec.ofInt 32 (m : Int)).toNat : Int) = _
  have e1 : (BitVec.ofInt 32 ((n : Int) * 1024)).toNat = n * 1024 := by simp only [BitVec.toNat_ofInt]; omega
  have e2 : (BitVec.ofInt 32 (m : Int)).toNat = m := by simp only [BitVec.toNat_ofInt]; omega
  have := Nat.two_pow_add_eq_or_of_lt (i := 10) (b := m) (by omega) n
  rw [show (2 : Nat) ^ 10 = 1024 from rfl, Nat.mul_comm] at this
  rw [BitVec.toNat_or, e1, e2, ← this]
  simp [IntKind.wrap, IntKind.signed, IntKind.bits]
  omega

theorem ret_pair {a c : Int} {b d : Bool} (h1 : a = c) (h2 : b = d) : Ending.returned (.tuple #[.int .i32 a, .bool b]) = .returned (.tuple #[.int .i32 c, .bool d]) := by rw [h1, h2]
theorem ret_pairn {k k' : IntKind} {a c : Int} {b d : Int} (h1 : a = c) (h2 : b = d) : Ending.returned (.tuple #[.int k a, .int k' b]) = .returned (.tuple #[.int k c, .int k' d]) := by rw [h1, h2]

set_option maxHeartbeats 400000 in
theorem join_any (h l : Int) (w : World) : Calls Try.prog 16 #[.int .u16 h, .int .u16 l] w fun e w' => e = .returned (.tuple #[.int .i32 (joinOf h l).1, .bool (joinOf h l).2]) ∧ w = w' := by
  cases hh : highB h
  · rw [joinOf_no1 hh]
    go_enter Try.func16, Try.ntmps16
    go_wp2_with (go_at_call 51; refine (high_any _ _).mono ?_; rw [hh]; rintro e w' ⟨rfl, rfl⟩)
    go_ret2
    exact ⟨rfl, rfl⟩
  · cases hl : lowB l
    · rw [joinOf_no2 hl]
      go_enter Try.func16, Try.ntmps16
      go_wp2_with (first
        | (go_at_call 51; refine (high_any _ _).mono ?_; rw [hh]; rintro e w' ⟨rfl, rfl⟩)
        | (go_at_call 52; refine (low_any _ _).mono ?_; rw [hl]; rintro e w' ⟨rfl, rfl⟩))
      go_ret2
      exact ⟨rfl, rfl⟩
    · rw [joinOf_yes hh hl]
      have h1 : 55296 ≤ h ∧ h < 56320 := by simpa [highB] using hh
      have h2 : 56320 ≤ l ∧ l < 57344 := by simpa [lowB] using hl
      obtain ⟨h1, h3⟩ := h1
      obtain ⟨h2, h4⟩ := h2
      go_enter Try.func16, Try.ntmps16
      go_wp2_with (first
        | (go_at_call 51; refine (high_any _ _).mono ?_; rw [hh]; rintro e w' ⟨rfl, rfl⟩)
        | (go_at_call 52; refine (low_any _ _).mono ?_; rw [hl]; rintro e w' ⟨rfl, rfl⟩))
      go_ret2
      exact ⟨ret_pair (by rw [or_pair _ _ (by omega) (by omega) (by omega) (by omega)]; unfold joinR wrap32; omega) rfl, rfl⟩

set_option maxHeartbeats 400000 in
theorem rjoin_any (h l : Int) (w : World) : Calls Try.prog 17 #[.int .u16 h, .int .u16 l] w fun e w' => e = .returned (.tuple #[.int .i32 (joinOf h l).1, .bool (joinOf h l).2]) ∧ w = w' := by
  cases hh : highB h
  · rw [joinOf_no1 hh]
    go_enter Try.func17, Try.ntmps17
    go_wp2_with (go_at_call 53; refine (rhigh_any _ _).mono ?_; rw [hh]; rintro e w' ⟨rfl, rfl⟩)
    go_ret2
    exact ⟨rfl, rfl⟩
  · cases hl : lowB l
    · rw [joinOf_no2 hl]
      go_enter Try.func17, Try.ntmps17
      go_wp2_with (first
        | (go_at_call 53; refine (rhigh_any _ _).mono ?_; rw [hh]; rintro e w' ⟨rfl, rfl⟩)
        | (go_at_call 54; refine (rlow_any _ _).mono ?_; rw [hl]; rintro e w' ⟨rfl, rfl⟩))
      go_ret2
      exact ⟨rfl, rfl⟩
    · rw [joinOf_yes hh hl]
      have h1 : 55296 ≤ h ∧ h < 56320 := by simpa [highB] using hh
      have h2 : 56320 ≤ l ∧ l < 57344 := by simpa [lowB] using hl
      obtain ⟨h1, h3⟩ := h1
      obtain ⟨h2, h4⟩ := h2
      go_enter Try.func17, Try.ntmps17
      go_wp2_with (first
        | (go_at_call 53; refine (rhigh_any _ _).mono ?_; rw [hh]; rintro e w' ⟨rfl, rfl⟩)
        | (go_at_call 54; refine (rlow_any _ _).mono ?_; rw [hl]; rintro e w' ⟨rfl, rfl⟩))
      go_ret2
      exact ⟨ret_pair (by unfold joinR; omega) rfl, rfl⟩

end Go.Proofs.Ytmdcbpdmkonmlaa
