/-
  The walks of the laws WideNames and WideOne.
-/
import Derived.Test.YtmdcbpdmkonmlaaAwake
namespace Go.Proofs.Ytmdcbpdmkonmlaa
open Go.RowKit

set_option maxHeartbeats 400000 in
theorem names_walk (w : World) : Calls Try.prog 6 #[] w fun e w' => e = .returned (.bool true) ∧ Below w.heap.size w w' := by
  go_enter Try.func6, Try.ntmps6
  go_wp2_with (go_at_call 20; refine (awake_any _).mono ?_; rintro e w1 ⟨rfl, hb1⟩)
  go_ret
  exact ⟨rfl, hb1⟩

set_option maxHeartbeats 1000000 in
theorem one_walk (w : World) (r : Int) (hr : (Lit.int .i32 r).wf = true) (h : Int) (hh : (Lit.int .u16 h).wf = true) (l : Int) (hl : (Lit.int .u16 l).wf = true) :
    Calls Try.prog 3 #[.int .i32 r, .int .u16 h, .int .u16 l] w fun e w' => e = .returned (.bool true) ∧ Below w.heap.size w w' := by
  clear hr hh hl
  cases hw : wideB r
  · go_enter Try.func3, Try.ntmps3
    go_wp2_with (first
      | (go_at_call 14; refine (split_no r _ hw).mono ?_; rintro e w' ⟨rfl, rfl⟩)
      | (go_at_call 15; refine (rsplit_no r _ hw).mono ?_; rintro e w' ⟨rfl, rfl⟩)
      | (go_at_call 16; refine (join_any h l _).mono ?_; rintro e w' ⟨rfl, rfl⟩)
      | (go_at_call 17; refine (rjoin_any h l _).mono ?_; rintro e w' ⟨rfl, rfl⟩)
      | (go_at_call 18; refine (width_any r _).mono ?_; rintro e w' ⟨rfl, rfl⟩)
      | (go_at_call 19; refine (rwidth_any r _).mono ?_; rintro e w' ⟨rfl, rfl⟩)
      | (go_at_call 20; refine (awake_any _).mono ?_; rintro e w1 ⟨rfl, hb1⟩))
    go_ret
    exact ⟨rfl, hb1⟩
  · go_enter Try.func3, Try.ntmps3
    go_wp2_with (first
      | (go_at_call 14; refine (split_yes r _ hw).mono ?_; rintro e w' ⟨rfl, rfl⟩)
      | (go_at_call 15; refine (rsplit_yes r _ hw).mono ?_; rintro e w' ⟨rfl, rfl⟩)
      | (go_at_call 16; refine (join_any h l _).mono ?_; rintro e w' ⟨rfl, rfl⟩)
      | (go_at_call 17; refine (rjoin_any h l _).mono ?_; rintro e w' ⟨rfl, rfl⟩)
      | (go_at_call 18; refine (width_any r _).mono ?_; rintro e w' ⟨rfl, rfl⟩)
      | (go_at_call 19; refine (rwidth_any r _).mono ?_; rintro e w' ⟨rfl, rfl⟩)
      | (go_at_call 20; refine (awake_any _).mono ?_; rintro e w1 ⟨rfl, hb1⟩))
    go_ret
    exact ⟨rfl, hb1⟩

end Go.Proofs.Ytmdcbpdmkonmlaa
