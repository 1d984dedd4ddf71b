/-
  The character that units begin with; a copy of units: walked.
-/
import Derived.Test.YtmdcbpdmkonmlaaUnits
namespace Go.Proofs.Ytmdcbpdmkonmlaa
open Go.RowKit

/-- What one unit by itself stands for. -/
def loneR (u : Int) : Int := if highB u || lowB u then 65533 else u

/-- The character that units begin with, and how many units it has. -/
def firstOf : List Int → Int × Nat
  | [] => (0, 1)
  | [u] => (loneR u, 1)
  | u :: v :: _ => if (joinOf u v).2 then ((joinOf u v).1, 2) else (loneR u, 1)

theorem firstOf_one (u : Int) : firstOf [u] = (loneR u, 1) := rfl
theorem firstOf_no {u v : Int} {r : List Int} (h : (joinOf u v).2 = false) : firstOf (u :: v :: r) = (loneR u, 1) := by simp [firstOf, h]
theorem firstOf_yes {u v : Int} {r : List Int} (h : (joinOf u v).2 = true) : firstOf (u :: v :: r) = ((joinOf u v).1, 2) := by simp [firstOf, h]
theorem loneR_yes1 {u : Int} (h : highB u = true) : loneR u = 65533 := by simp [loneR, h]
theorem loneR_yes2 {u : Int} (h : lowB u = true) : loneR u = 65533 := by simp [loneR, h]
theorem loneR_no {u : Int} (h : highB u = false) (h2 : lowB u = false) : loneR u = u := by simp [loneR, h, h2]

set_option maxHeartbeats 1000000 in
theorem first_any (w : World) (b off c : Nat) (us : List Int) (hne : us ≠ []) (hn : us.length ≤ 140737488355328) (hr : Cells w (some ⟨b, off, none⟩) (us.map (Value.int .u16))) (hwf : ∀ u ∈ us, 0 ≤ u ∧ u ≤ 65535) :
    Calls Try.prog 66 #[.slice (some ⟨b, off, none⟩) us.length c] w fun e w' => e = .returned (.tuple #[.int .i32 (firstOf us).1, .int .i64 (firstOf us).2]) ∧ Below w.heap.size w w' := by
  obtain ⟨b', off', he, hc⟩ := hr (by simpa using hne)
  simp at he
  obtain ⟨rfl, rfl⟩ := he
  match us, hne, hn, hwf, hc with
  | [u], _, _, hwf, hc =>
    have hc0 : w.cell? ⟨b, off, none⟩ = some (.int .u16 u) := by have := hc 0 _ rfl; simpa using this
    have hu := hwf u (by simp)
    obtain ⟨hu0, hu1⟩ := hu
    clear hc hwf hr
    cases hh : highB u
    · cases hl : lowB u
      · go_enter Try.func66, Try.ntmps66
        go_wp2_with (first
          | (go_at_call 51; refine (high_any _ _).mono ?_; rw [hh]; rintro e w' ⟨rfl, rfl⟩)
          | (go_at_call 52; refine (low_any _ _).mono ?_; rw [hl]; rintro e w' ⟨rfl, rfl⟩))
        go_ret2
        exact ⟨ret_pairn (by rw [firstOf_one, loneR_no hh hl]) rfl, Below.refl _ _⟩
      · go_enter Try.func66, Try.ntmps66
        go_wp2_with (first
          | (go_at_call 51; refine (high_any _ _).mono ?_; rw [hh]; rintro e w' ⟨rfl, rfl⟩)
          | (go_at_call 52; refine (low_any _ _).mono ?_; rw [hl]; rintro e w' ⟨rfl, rfl⟩))
        go_ret2
        exact ⟨ret_pairn (by rw [firstOf_one, loneR_yes2 hl]) rfl, Below.refl _ _⟩
    · go_enter Try.func66, Try.ntmps66
      go_wp2_with (first
        | (go_at_call 51; refine (high_any _ _).mono ?_; rw [hh]; rintro e w' ⟨rfl, rfl⟩)
        | (go_at_call 52; refine (low_any _ _).mono ?_; rw [hl]; rintro e w' ⟨rfl, rfl⟩))
      go_ret2
      exact ⟨ret_pairn (by rw [firstOf_one, loneR_yes1 hh]) rfl, Below.refl _ _⟩
  | u :: v :: r, _, hn, hwf, hc =>
    have hc0 : w.cell? ⟨b, off, none⟩ = some (.int .u16 u) := by have := hc 0 _ rfl; simpa using this
    have hc1 : w.cell? ⟨b, off + 1, none⟩ = some (.int .u16 v) := by have := hc 1 _ rfl; simpa using this
    have hu := hwf u (by simp)
    obtain ⟨hu0, hu1⟩ := hu
    clear hc hwf hr
    have hlen : (1 : Int) < ((u :: v :: r).length : Nat) := by simp; omega
    have hlen1 : (0 : Int) < ((u :: v :: r).length : Nat) := by simp; omega
    have hlen2 : 0 < (u :: v :: r).length := by simp
    have hlen3 : 1 < (u :: v :: r).length := by simp
    generalize hL : (u :: v :: r).length = L at *
    have HL := Lib.hid hL
    clear hL
    have hJ : ∀ z, (joinOf u v).2 = z → ∀ W, Calls Try.prog 16 #[.int .u16 u, .int .u16 v] W fun e w' => e = .returned (.tuple #[.int .i32 (joinOf u v).1, .bool z]) ∧ w' = W := fun z hz W => (join_any u v W).mono fun e w' ⟨h1, h2⟩ => ⟨by rw [h1, hz], h2.symm⟩
    cases hj : (joinOf u v).2
    all_goals have HJ := Lib.hid (hJ _ hj)
    all_goals clear hJ
    · cases hh : highB u
      · cases hl : lowB u
        · go_enter Try.func66, Try.ntmps66
          go_wp2
          go_quiet (exact Calls.quiet_of_same (HJ.out _))
          go_wp2_with (first
            | (go_at_call 51; refine (high_any _ _).mono ?_; rw [hh]; rintro e w' ⟨rfl, rfl⟩)
            | (go_at_call 52; refine (low_any _ _).mono ?_; rw [hl]; rintro e w' ⟨rfl, rfl⟩))
          go_ret2
          exact ⟨ret_pairn (by rw [firstOf_no hj, loneR_no hh hl]) (by rw [firstOf_no hj]; try rfl), below_drewN (Below.refl _ _) _⟩
        · go_enter Try.func66, Try.ntmps66
          go_wp2
          go_quiet (exact Calls.quiet_of_same (HJ.out _))
          go_wp2_with (first
            | (go_at_call 51; refine (high_any _ _).mono ?_; rw [hh]; rintro e w' ⟨rfl, rfl⟩)
            | (go_at_call 52; refine (low_any _ _).mono ?_; rw [hl]; rintro e w' ⟨rfl, rfl⟩))
          go_ret2
          exact ⟨ret_pairn (by rw [firstOf_no hj, loneR_yes2 hl]) (by rw [firstOf_no hj]; try rfl), below_drewN (Below.refl _ _) _⟩
      · go_enter Try.func66, Try.ntmps66
        go_wp2
        go_quiet (exact Calls.quiet_of_same (HJ.out _))
        go_wp2_with (first
          | (go_at_call 51; refine (high_any _ _).mono ?_; rw [hh]; rintro e w' ⟨rfl, rfl⟩)
          | (go_at_call 52; refine (low_any _ _).mono ?_; rw [hl]; rintro e w' ⟨rfl, rfl⟩))
        go_ret2
        exact ⟨ret_pairn (by rw [firstOf_no hj, loneR_yes1 hh]) (by rw [firstOf_no hj]; try rfl), below_drewN (Below.refl _ _) _⟩
    · go_enter Try.func66, Try.ntmps66
      go_wp2
      go_quiet (exact Calls.quiet_of_same (HJ.out _))
      go_wp2
      go_ret2
      exact ⟨ret_pairn (by rw [firstOf_yes hj]; try rfl) (by rw [firstOf_yes hj]; try rfl), below_drewN (Below.refl _ _) _⟩

end Go.Proofs.Ytmdcbpdmkonmlaa
