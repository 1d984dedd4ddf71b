/-
  The law TopHolds, of arguments as they come in.
-/
import Derived.Test.YtjnidopbdjbbgaaGreatB43
import Derived.Test.YtjnidopbdjbbgaaGreatB13
namespace Go.Proofs.YtjnidopbdjbbgaaGreat
open Go.RowKit
set_option linter.unusedVariables false
theorem holds_law (W:World) (a0:Option Addr) (c0:Nat) (x0:List Int) (le0:x0.length≤c0) (b0:c0≤1048576) (ce0:Cells W a0 (x0.map (Value.int .u8))) (wf0:∀ x∈x0,(Lit.int .u8 x).wf = true)
 (a1:Int) (w1:(Lit.int .i8 a1).wf = true):
 Calls Tryz.prog 4 #[.slice a0 x0.length c0,.int .i8 a1] W fun e W' => e = .returned (.bool true)∧Below W.heap.size W W':=by
 obtain ⟨y0,e0,l0,_⟩:=came_nats rfl wf0
 rw [e0] at ce0
 rw [← l0]
 exact holds_walk W a0 c0 y0 (by omega) ce0 a1
end Go.Proofs.YtjnidopbdjbbgaaGreat
