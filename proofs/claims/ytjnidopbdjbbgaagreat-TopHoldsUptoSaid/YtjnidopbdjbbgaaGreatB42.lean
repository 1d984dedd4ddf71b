/-
  The law TopApart: walked.
-/
import Derived.Test.YtjnidopbdjbbgaaGreatB26
import Derived.Test.YtjnidopbdjbbgaaGreatB41
namespace Go.Proofs.YtjnidopbdjbbgaaGreat
open Go.RowKit
set_option linter.unusedVariables false
/-- What the engine answers to classes. -/
theorem classes_sum (w:World) (a:Option Addr) (c:Nat) (l:List Nat) (b:Int) (hn:l.length≤1048576) (hc:Cells w a (l.map u8V)):
 Calls Tryz.prog 6 #[.slice a l.length c,.int .i8 b] w fun e w' => ((∃ err:Int,(err = 2∨err = 210)∧(mayB b = false∨lastB (l.map knownOf) = false)∧e = .returned (.tuple #[.agg #[.int .i8 0,.slice none 0 0,.slice none 0 0],.int .i64 err])) ∨
  (mayB b = true∧lastB (l.map knownOf) = true∧∃ ka kc la lc,e = .returned (.tuple #[.agg #[.int .i8 (baseOf b (l.map knownOf)),.slice ka l.length kc,.slice la l.length lc],.int .i64 0])∧Own w' w.heap.size 1 ka l.length kc ((l.map knownOf).map u8V) ∧
   Own w' w.heap.size 1 la l.length lc ((engineOf b (l.map knownOf)).map i8V)))∧Below w.heap.size w w':=by
 cases hb:mayB b with
 | false =>
  refine (classes_may w a l.length c b hb).mono ?_
  rintro e w' ⟨rfl,h⟩
  exact ⟨.inl ⟨2,.inl rfl,.inl rfl,rfl⟩,h⟩
 | true =>
  refine (classes_walk w a c l b hb hn hc).mono ?_
  rintro e w' ⟨⟨h1,rfl⟩ | ⟨h1,h2⟩,h⟩
  · exact ⟨.inl ⟨210,.inr rfl,.inr h1,rfl⟩,h⟩
  · exact ⟨.inr ⟨rfl,h1,h2⟩,h⟩
end Go.Proofs.YtjnidopbdjbbgaaGreat
