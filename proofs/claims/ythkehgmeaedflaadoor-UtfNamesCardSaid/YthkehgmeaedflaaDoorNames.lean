/-
  The walk of the law UtfNames.
-/
import Derived.Test.YthkehgmeaedflaaDoorLives
namespace Go.Proofs.YthkehgmeaedflaaDoor
open Go.RowKit

set_option maxHeartbeats 1000000 in
theorem names_walk (w : World) (hT : Lib.Utf8Tabs 0 1 w) : Calls Tryd.prog 5 #[] w fun e w' => e = .returned (.bool true) ∧ Below w.heap.size w w' := by
  have HL := Lib.hid (lives_any w hT)
  clear hT
  go_enter Tryd.func5, Tryd.ntmps5
  go_wp2_with (go_at_call 16; refine HL.out.mono ?_; rintro e w1 ⟨rfl, hb1⟩)
  go_ret
  exact ⟨rfl, hb1⟩

end Go.Proofs.YthkehgmeaedflaaDoor
