/-
  Of two texts that are both opened, of one length, no two are near: the walk.
-/
import Derived.Test.YtallfhfgplgfpaaTold
namespace Go.Proofs.Ytallfhfgplgfpaa
open Go.RowKit

theorem one_cases (a b : ByteArray) : ((openOf a).2 != 0) = true ∨ (((openOf a).2 != 0) = false ∧ ((openOf b).2 != 0) = true) ∨
    (((openOf a).2 != 0) = false ∧ ((openOf b).2 != 0) = false ∧ ((burstOf a b).2.2 != 0) = true) ∨
    (((openOf a).2 != 0) = false ∧ ((openOf b).2 != 0) = false ∧ ((burstOf a b).2.2 != 0) = false ∧ ((burstOf a b).2.1 == 0) = true) ∨
    (((openOf a).2 != 0) = false ∧ ((openOf b).2 != 0) = false ∧ ((burstOf a b).2.2 != 0) = false ∧ ((burstOf a b).2.1 == 0) = false ∧ 32 < (burstOf a b).2.1) := by
  by_cases h1 : (openOf a).2 = 0
  · by_cases h2 : (openOf b).2 = 0
    · by_cases h3 : a.size = b.size
      · have h4 : (burstOf a b).2.2 = 0 := by
          unfold burstOf
          rw [if_neg (by simpa using h3)]
          split <;> rfl
        rcases told a b h1 h2 h3 with h | h
        · right; right; right; left
          simp [h1, h2, h4, h]
        · right; right; right; right
          refine ⟨by simp [h1], by simp [h2], by simp [h4], ?_, h⟩
          simp
          omega
      · right; right; left
        refine ⟨by simp [h1], by simp [h2], ?_⟩
        unfold burstOf
        rw [if_pos h3]
        rfl
    · right; left
      exact ⟨by simp [h1], by simp [h2]⟩
  · left
    simp [h1]

set_option maxHeartbeats 1000000 in
theorem one_walk (w : World) (a : ByteArray) (ha : a.size ≤ 140737488351232) (b : ByteArray) (hb : b.size ≤ 140737488351232) :
    Calls Try.prog 12 #[.string a, .string b] w fun e w' => e = .returned (.bool true) ∧ Below w.heap.size w w' := by
  have ha' : a.size ≤ 140737488355328 := by omega
  have hb' : b.size ≤ 140737488355328 := by omega
  have hc := one_cases a b
  generalize hA : openOf a = A at hc
  generalize hB : openOf b = B at hc
  generalize hC : burstOf a b = C at hc
  have HA := Lib.hid hA
  have HB := Lib.hid hB
  have HC := Lib.hid hC
  clear hA hB hC
  rcases hc with h1 | ⟨h1, h2⟩ | ⟨h1, h2, h3⟩ | ⟨h1, h2, h3, h4⟩ | ⟨h1, h2, h3, h4, h5⟩
  all_goals
    go_enter Try.func12, Try.ntmps12
    go_wp2_with fail
    refine (awake_any _).mono ?_
    rintro e w1 ⟨rfl, hb1⟩
    go_wp2_with fail
    refine (open_any a _ ha').mono ?_
    rintro e w2 ⟨rfl, hb2⟩
    rw [HA.out]
    go_wp2_with fail
    refine (open_any b _ hb').mono ?_
    rintro e w3 ⟨rfl, hb3⟩
    rw [HB.out]
    go_wp2_with fail
    refine (burst_any a b _ ha').mono ?_
    rintro e w4 ⟨rfl, hb4⟩
    rw [HC.out]
    go_wp2
    go_ret
    exact ⟨rfl, after (after (after hb1 hb2) hb3) hb4⟩

end Go.Proofs.Ytallfhfgplgfpaa
