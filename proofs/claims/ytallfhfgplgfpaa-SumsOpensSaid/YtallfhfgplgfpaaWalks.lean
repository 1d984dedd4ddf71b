/-
  The walks of the laws on sums, on sealing and on sums that are added.
-/
import Derived.Test.YtallfhfgplgfpaaSeals
namespace Go.Proofs.Ytallfhfgplgfpaa
open Go.RowKit

set_option maxHeartbeats 400000 in
theorem names_walk (w : World) : Calls Try.prog 7 #[] w fun e w' => e = .returned (.bool true) ∧ Below w.heap.size w w' := by
  go_enter Try.func7, Try.ntmps7
  go_wp2_with (go_at_call 19; refine (awake_any _).mono ?_; rintro e w1 ⟨rfl, hb1⟩)
  go_ret
  exact ⟨rfl, hb1⟩

set_option maxHeartbeats 400000 in
theorem opens_walk (s : ByteArray) (hs : s.size ≤ 140737488351232) (w : World) : Calls Try.prog 5 #[.string s] w fun e w' => e = .returned (.bool true) ∧ Below w.heap.size w w' := by
  have hs' : s.size ≤ 140737488355328 := by omega
  go_enter Try.func5, Try.ntmps5
  go_wp2_with (first
    | (go_at_call 26; refine (open_any _ _ hs').mono ?_; rintro e w1 ⟨rfl, hb1⟩)
    | (go_at_call 27; refine (ropen_any _ _ hs').mono ?_; rintro e w2 ⟨rfl, hb2⟩)
    | (go_at_call 28; refine (seal_any _ _ hs').mono ?_; rintro e w3 ⟨rfl, hb3⟩)
    | (go_at_call 29; refine (rseal_any _ _ hs').mono ?_; rintro e w4 ⟨rfl, hb4⟩)
    | (go_at_call 19; refine (awake_any _).mono ?_; rintro e w5 ⟨rfl, hb5⟩))
  go_ret
  exact ⟨rfl, after (after (after (after hb1 hb2) hb3) hb4) hb5⟩

end Go.Proofs.Ytallfhfgplgfpaa
