/-
  The law TopApart, of arguments as they come in.
-/
import Derived.Test.YtjnidopbdjbbgaaGreatA33
import Derived.Test.YtjnidopbdjbbgaaGreatA12
namespace Go.Proofs.YtjnidopbdjbbgaaGreat
open Go.RowKit
set_option linter.unusedVariables false

theorem apart_law (W : World) (a0 : Option Addr) (c0 : Nat) (x0 : List Int) (le0 : x0.length ≤ c0) (b0 : c0 ≤ 1048576) (ce0 : Cells W a0 (x0.map (Value.int .u8))) (wf0 : ∀ x ∈ x0, (Lit.int .u8 x).wf = true)
    (a1 : Option Addr) (c1 : Nat) (x1 : List Int) (le1 : x1.length ≤ c1) (b1 : c1 ≤ 1048576) (ce1 : Cells W a1 (x1.map (Value.int .u8))) (wf1 : ∀ x ∈ x1, (Lit.int .u8 x).wf = true) (a2 : Int) (w2 : (Lit.int .i64 a2).wf = true) (a3 : Int) (w3 : (Lit.int .i8 a3).wf = true) :
    Calls Tryz.prog 3 #[.slice a0 x0.length c0, .slice a1 x1.length c1, .int .i64 a2, .int .i8 a3] W fun e W' => e = .returned (.bool true) ∧ Below W.heap.size W W' := by
  obtain ⟨y0, e0, l0, _⟩ := came_nats rfl wf0
  obtain ⟨y1, e1, l1, _⟩ := came_nats rfl wf1
  rw [e0] at ce0
  rw [e1] at ce1
  rw [← l0, ← l1]
  exact apart_walk W a0 c0 y0 (by omega) b0 ce0 a1 c1 y1 (by omega) b1 ce1 a2 a3

end Go.Proofs.YtjnidopbdjbbgaaGreat
