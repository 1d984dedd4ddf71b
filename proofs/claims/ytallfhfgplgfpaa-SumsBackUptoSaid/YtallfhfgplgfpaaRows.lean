/-
  No cell of these rows narrows 'for every input' (looked for: loops, veiled, ifaces, maps, wideKeys, modest, calm, conditions, laid).
  DERIVED. THE GIVEN ROWS OF THIS SEAT. 12 by the template 'for every input the law returns true; each argument reads behind the call as it read before'; 0 by the template 'total and deterministic' (their statements: YtallfhfgplgfpaaTotals.lean).
  GIVEN WITH THE SEED: the statements are not yours to turn. If you find one false, say at which input.
  Laid BY PROGRAM, IN A SANDBOX (cutbox-rows.mjs): the forced cells as the released guide's own fill.sh prints them over the translation 353238cb4cb2438a… (all of the seat's roots in one cut). By AI agents, Wed Nov 11 2026. No macro, syntax, notation, axiom, sorry.
-/
import Derived.Test.YtallfhfgplgfpaaChecked
import GoSem.Claim
import GoSem.ClaimJoined
import GoSem.ClaimMapViews
import Derived.JoinedTies
import Derived.KernelRfl
namespace Go.Proofs.Ytallfhfgplgfpaa
/- THE CELL 'sum', in the pinned program and in every row, IS THE sha256 OF THE DUMP (.gsa) THAT YtallfhfgplgfpaaProg.lean LOADS. Nothing in Lean hashes anything: it is a label: what it is worth is what the hold of that sum in a sandbox is worth. -/
noncomputable def Try.pinned : Pinned := { name := "ytallfhfgplgfpaa", sum := "353238cb4cb2438a222eb16c045637c6b2869af8db92a368a47211439613f47d", checked := Try.checked }
namespace Rows
def none {H : Type} : Left H := { results := [], args := [] }

/-- 'furrowlaw12.SumsCRC': WHATEVER THE INPUT: true; the input reads as it did. -/
def sumsCRCSpec : ChangeSpec := { name := "sumsCRC", fn := fun _ => fun
  | [d1, d2, d3] => { results := [.lit (.bool true)], args := [d1, d2, d3] }
  | _ => none }
def sumsCRCRow : OpenClaim := { program := "ytallfhfgplgfpaa", sum := "353238cb4cb2438a222eb16c045637c6b2869af8db92a368a47211439613f47d", func := "furrow/furrowlaw12.SumsCRC", spec := "sumsCRC", apart := false }
def SumsCRCSaid : Prop := sumsCRCRow.holds Try.pinned (OpenSpec.ofChange sumsCRCSpec)

/-- ITS FALSE NEIGHBOUR: 'it returns false'. Refute it at one input. -/
def sumsCRCWrong : ChangeSpec := { name := "sumsCRC", fn := fun _ => fun
  | [d1, d2, d3] => { results := [.lit (.bool false)], args := [d1, d2, d3] }
  | _ => none }
def SumsCRCWrongFalsely : Prop := sumsCRCRow.holds Try.pinned (OpenSpec.ofChange sumsCRCWrong)

/-- 'furrowlaw12.SumsPuts': WHATEVER THE INPUT: true; the input reads as it did. -/
def sumsPutsSpec : ChangeSpec := { name := "sumsPuts", fn := fun _ => fun
  | [d1, d2] => { results := [.lit (.bool true)], args := [d1, d2] }
  | _ => none }
def sumsPutsRow : OpenClaim := { program := "ytallfhfgplgfpaa", sum := "353238cb4cb2438a222eb16c045637c6b2869af8db92a368a47211439613f47d", func := "furrow/furrowlaw12.SumsPuts", spec := "sumsPuts", apart := false }
def SumsPutsSaid : Prop := sumsPutsRow.holds Try.pinned (OpenSpec.ofChange sumsPutsSpec)

/-- ITS FALSE NEIGHBOUR: 'it returns false'. Refute it at one input. -/
def sumsPutsWrong : ChangeSpec := { name := "sumsPuts", fn := fun _ => fun
  | [d1, d2] => { results := [.lit (.bool false)], args := [d1, d2] }
  | _ => none }
def SumsPutsWrongFalsely : Prop := sumsPutsRow.holds Try.pinned (OpenSpec.ofChange sumsPutsWrong)

/-- 'furrowlaw12.SumsOpens': WHATEVER THE INPUT: true; the input reads as it did. -/
def sumsOpensSpec : ChangeSpec := { name := "sumsOpens", fn := fun _ => fun
  | [d] => { results := [.lit (.bool true)], args := [d] }
  | _ => none }
def sumsOpensRow : OpenClaim := { program := "ytallfhfgplgfpaa", sum := "353238cb4cb2438a222eb16c045637c6b2869af8db92a368a47211439613f47d", func := "furrow/furrowlaw12.SumsOpens", spec := "sumsOpens", apart := false }
def SumsOpensSaid : Prop := sumsOpensRow.holds Try.pinned (OpenSpec.ofChange sumsOpensSpec)

/-- ITS FALSE NEIGHBOUR: 'it returns false'. Refute it at one input. -/
def sumsOpensWrong : ChangeSpec := { name := "sumsOpens", fn := fun _ => fun
  | [d] => { results := [.lit (.bool false)], args := [d] }
  | _ => none }
def SumsOpensWrongFalsely : Prop := sumsOpensRow.holds Try.pinned (OpenSpec.ofChange sumsOpensWrong)

/-- 'furrowlaw12.SumsAdded': WHATEVER THE INPUT: true; the input reads as it did. -/
def sumsAddedSpec : ChangeSpec := { name := "sumsAdded", fn := fun _ => fun
  | [d1, d2, d3] => { results := [.lit (.bool true)], args := [d1, d2, d3] }
  | _ => none }
def sumsAddedRow : OpenClaim := { program := "ytallfhfgplgfpaa", sum := "353238cb4cb2438a222eb16c045637c6b2869af8db92a368a47211439613f47d", func := "furrow/furrowlaw12.SumsAdded", spec := "sumsAdded", apart := false }
def SumsAddedSaid : Prop := sumsAddedRow.holds Try.pinned (OpenSpec.ofChange sumsAddedSpec)

/-- ITS FALSE NEIGHBOUR: 'it returns false'. Refute it at one input. -/
def sumsAddedWrong : ChangeSpec := { name := "sumsAdded", fn := fun _ => fun
  | [d1, d2, d3] => { results := [.lit (.bool false)], args := [d1, d2, d3] }
  | _ => none }
def SumsAddedWrongFalsely : Prop := sumsAddedRow.holds Try.pinned (OpenSpec.ofChange sumsAddedWrong)

/-- 'furrowlaw12.SumsNames': WHATEVER THE INPUT: true; the input reads as it did. -/
def sumsNamesSpec : ChangeSpec := { name := "sumsNames", fn := fun _ => fun
  | [] => { results := [.lit (.bool true)], args := [] }
  | _ => none }
def sumsNamesRow : OpenClaim := { program := "ytallfhfgplgfpaa", sum := "353238cb4cb2438a222eb16c045637c6b2869af8db92a368a47211439613f47d", func := "furrow/furrowlaw12.SumsNames", spec := "sumsNames", apart := false }
def SumsNamesSaid : Prop := sumsNamesRow.holds Try.pinned (OpenSpec.ofChange sumsNamesSpec)

/-- ITS FALSE NEIGHBOUR: 'it returns false'. Refute it at one input. -/
def sumsNamesWrong : ChangeSpec := { name := "sumsNames", fn := fun _ => fun
  | [] => { results := [.lit (.bool false)], args := [] }
  | _ => none }
def SumsNamesWrongFalsely : Prop := sumsNamesRow.holds Try.pinned (OpenSpec.ofChange sumsNamesWrong)

/-- 'furrowlaw12.SumsTakes': WHATEVER THE INPUT: true; the input reads as it did. -/
def sumsTakesSpec : ChangeSpec := { name := "sumsTakes", fn := fun _ => fun
  | [d1, d2, d3] => { results := [.lit (.bool true)], args := [d1, d2, d3] }
  | _ => none }
def sumsTakesRow : OpenClaim := { program := "ytallfhfgplgfpaa", sum := "353238cb4cb2438a222eb16c045637c6b2869af8db92a368a47211439613f47d", func := "furrow/furrowlaw12.SumsTakes", spec := "sumsTakes", apart := false }
def SumsTakesSaid : Prop := sumsTakesRow.holds Try.pinned (OpenSpec.ofChange sumsTakesSpec)

/-- ITS FALSE NEIGHBOUR: 'it returns false'. Refute it at one input. -/
def sumsTakesWrong : ChangeSpec := { name := "sumsTakes", fn := fun _ => fun
  | [d1, d2, d3] => { results := [.lit (.bool false)], args := [d1, d2, d3] }
  | _ => none }
def SumsTakesWrongFalsely : Prop := sumsTakesRow.holds Try.pinned (OpenSpec.ofChange sumsTakesWrong)

/-- 'furrowlaw12.SumsBack': WHATEVER THE INPUT: true; the input reads as it did. -/
def sumsBackSpec : ChangeSpec := { name := "sumsBack", fn := fun _ => fun
  | [d1, d2, d3] => { results := [.lit (.bool true)], args := [d1, d2, d3] }
  | _ => none }
def sumsBackRow : OpenClaim := { program := "ytallfhfgplgfpaa", sum := "353238cb4cb2438a222eb16c045637c6b2869af8db92a368a47211439613f47d", func := "furrow/furrowlaw12.SumsBack", spec := "sumsBack", apart := false }
def SumsBackSaid : Prop := sumsBackRow.holds Try.pinned (OpenSpec.ofChange sumsBackSpec)

/-- ITS FALSE NEIGHBOUR: 'it returns false'. Refute it at one input. -/
def sumsBackWrong : ChangeSpec := { name := "sumsBack", fn := fun _ => fun
  | [d1, d2, d3] => { results := [.lit (.bool false)], args := [d1, d2, d3] }
  | _ => none }
def SumsBackWrongFalsely : Prop := sumsBackRow.holds Try.pinned (OpenSpec.ofChange sumsBackWrong)

/-- 'furrowlaw12.SumsBursts': WHATEVER THE INPUT: true; the input reads as it did. -/
def sumsBurstsSpec : ChangeSpec := { name := "sumsBursts", fn := fun _ => fun
  | [d1, d2] => { results := [.lit (.bool true)], args := [d1, d2] }
  | _ => none }
def sumsBurstsRow : OpenClaim := { program := "ytallfhfgplgfpaa", sum := "353238cb4cb2438a222eb16c045637c6b2869af8db92a368a47211439613f47d", func := "furrow/furrowlaw12.SumsBursts", spec := "sumsBursts", apart := false }
def SumsBurstsSaid : Prop := sumsBurstsRow.holds Try.pinned (OpenSpec.ofChange sumsBurstsSpec)

/-- ITS FALSE NEIGHBOUR: 'it returns false'. Refute it at one input. -/
def sumsBurstsWrong : ChangeSpec := { name := "sumsBursts", fn := fun _ => fun
  | [d1, d2] => { results := [.lit (.bool false)], args := [d1, d2] }
  | _ => none }
def SumsBurstsWrongFalsely : Prop := sumsBurstsRow.holds Try.pinned (OpenSpec.ofChange sumsBurstsWrong)

/-- 'furrowlaw12.SumsBurst': WHATEVER THE INPUT: true; the input reads as it did. -/
def sumsBurstSpec : ChangeSpec := { name := "sumsBurst", fn := fun _ => fun
  | [d1, d2, d3] => { results := [.lit (.bool true)], args := [d1, d2, d3] }
  | _ => none }
def sumsBurstRow : OpenClaim := { program := "ytallfhfgplgfpaa", sum := "353238cb4cb2438a222eb16c045637c6b2869af8db92a368a47211439613f47d", func := "furrow/furrowlaw12.SumsBurst", spec := "sumsBurst", apart := false }
def SumsBurstSaid : Prop := sumsBurstRow.holds Try.pinned (OpenSpec.ofChange sumsBurstSpec)

/-- ITS FALSE NEIGHBOUR: 'it returns false'. Refute it at one input. -/
def sumsBurstWrong : ChangeSpec := { name := "sumsBurst", fn := fun _ => fun
  | [d1, d2, d3] => { results := [.lit (.bool false)], args := [d1, d2, d3] }
  | _ => none }
def SumsBurstWrongFalsely : Prop := sumsBurstRow.holds Try.pinned (OpenSpec.ofChange sumsBurstWrong)

/-- 'furrowlaw12.SumsOne': WHATEVER THE INPUT: true; the input reads as it did. -/
def sumsOneSpec : ChangeSpec := { name := "sumsOne", fn := fun _ => fun
  | [d1, d2] => { results := [.lit (.bool true)], args := [d1, d2] }
  | _ => none }
def sumsOneRow : OpenClaim := { program := "ytallfhfgplgfpaa", sum := "353238cb4cb2438a222eb16c045637c6b2869af8db92a368a47211439613f47d", func := "furrow/furrowlaw12.SumsOne", spec := "sumsOne", apart := false }
def SumsOneSaid : Prop := sumsOneRow.holds Try.pinned (OpenSpec.ofChange sumsOneSpec)

/-- ITS FALSE NEIGHBOUR: 'it returns false'. Refute it at one input. -/
def sumsOneWrong : ChangeSpec := { name := "sumsOne", fn := fun _ => fun
  | [d1, d2] => { results := [.lit (.bool false)], args := [d1, d2] }
  | _ => none }
def SumsOneWrongFalsely : Prop := sumsOneRow.holds Try.pinned (OpenSpec.ofChange sumsOneWrong)

/-- 'furrowlaw12.SumsJoined': WHATEVER THE INPUT: true; the input reads as it did. -/
def sumsJoinedSpec : ChangeSpec := { name := "sumsJoined", fn := fun _ => fun
  | [d1, d2, d3] => { results := [.lit (.bool true)], args := [d1, d2, d3] }
  | _ => none }
def sumsJoinedRow : OpenClaim := { program := "ytallfhfgplgfpaa", sum := "353238cb4cb2438a222eb16c045637c6b2869af8db92a368a47211439613f47d", func := "furrow/furrowlaw12.SumsJoined", spec := "sumsJoined", apart := false }
def SumsJoinedSaid : Prop := sumsJoinedRow.holds Try.pinned (OpenSpec.ofChange sumsJoinedSpec)

/-- ITS FALSE NEIGHBOUR: 'it returns false'. Refute it at one input. -/
def sumsJoinedWrong : ChangeSpec := { name := "sumsJoined", fn := fun _ => fun
  | [d1, d2, d3] => { results := [.lit (.bool false)], args := [d1, d2, d3] }
  | _ => none }
def SumsJoinedWrongFalsely : Prop := sumsJoinedRow.holds Try.pinned (OpenSpec.ofChange sumsJoinedWrong)

/-- 'furrowlaw12.SumsPieces': WHATEVER THE INPUT: true; the input reads as it did. -/
def sumsPiecesSpec : ChangeSpec := { name := "sumsPieces", fn := fun _ => fun
  | [d1, d2, d3] => { results := [.lit (.bool true)], args := [d1, d2, d3] }
  | _ => none }
def sumsPiecesRow : OpenClaim := { program := "ytallfhfgplgfpaa", sum := "353238cb4cb2438a222eb16c045637c6b2869af8db92a368a47211439613f47d", func := "furrow/furrowlaw12.SumsPieces", spec := "sumsPieces", apart := false }
def SumsPiecesSaid : Prop := sumsPiecesRow.holds Try.pinned (OpenSpec.ofChange sumsPiecesSpec)

/-- ITS FALSE NEIGHBOUR: 'it returns false'. Refute it at one input. -/
def sumsPiecesWrong : ChangeSpec := { name := "sumsPieces", fn := fun _ => fun
  | [d1, d2, d3] => { results := [.lit (.bool false)], args := [d1, d2, d3] }
  | _ => none }
def SumsPiecesWrongFalsely : Prop := sumsPiecesRow.holds Try.pinned (OpenSpec.ofChange sumsPiecesWrong)

/- THE SECOND FORM. 'bulk': how many values and letters a reading holds, each counted each time it is reached (what is shared counts as often as it is met; a slice's spare places count too). A statement '..UptoSaid' is the law's where the arguments, and the package variables that the reading takes, are together of bulk at most 1048576: NARROWER than '..Said'. Prove '..Said' where nothing that the law and all that it calls make is longer than what came in: it says more and counts as full. Else prove '..UptoSaid'. A law counts once. -/
mutual
def uptoBulk {H : Type} : DataW H → Nat
  | .lit (.string bytes) => bytes.length + 1
  | .lit _ => 1
  | .nil => 1
  | .ptr d => uptoBulk d + 1
  | .slice elems spare => uptoBulkAll elems + uptoBulkAll spare + 1
  | .agg parts => uptoBulkAll parts + 1
  | .iface _ d => uptoBulk d + 1
  | .map entries => uptoBulkEntries entries + 1
  | .held _ => 1
def uptoBulkAll {H : Type} : List (DataW H) → Nat
  | [] => 0
  | d :: r => uptoBulk d + uptoBulkAll r
def uptoBulkEntries {H : Type} : List (Lit × DataW H) → Nat
  | [] => 0
  | x :: r => uptoBulkEntry x + uptoBulkEntries r
def uptoBulkEntry {H : Type} : Lit × DataW H → Nat
  | (.string bytes, d) => bytes.length + uptoBulk d + 1
  | (_, d) => uptoBulk d + 1
 end
def uptoSmall : (H : Type) → List (DataW H) → Bool := fun _ ds => decide (uptoBulkAll ds ≤ 1048576)
def OpenSpec.upto (s : _root_.Go.ChangeSpec) : _root_.Go.OpenSpec := { _root_.Go.OpenSpec.ofChange s with cond := some uptoSmall }

/-- 'furrowlaw12.SumsCRC', WHERE WHAT IT READS IS OF BULK AT MOST 1048576: true; the input reads as it did. -/
def sumsCRCUptoRow : OpenClaim := { program := "ytallfhfgplgfpaa", sum := "353238cb4cb2438a222eb16c045637c6b2869af8db92a368a47211439613f47d", func := "furrow/furrowlaw12.SumsCRC", spec := "sumsCRC", apart := false, narrowed := true }
def SumsCRCUptoSaid : Prop := sumsCRCUptoRow.holds Try.pinned (OpenSpec.upto sumsCRCSpec)

/-- 'furrowlaw12.SumsPuts', WHERE WHAT IT READS IS OF BULK AT MOST 1048576: true; the input reads as it did. -/
def sumsPutsUptoRow : OpenClaim := { program := "ytallfhfgplgfpaa", sum := "353238cb4cb2438a222eb16c045637c6b2869af8db92a368a47211439613f47d", func := "furrow/furrowlaw12.SumsPuts", spec := "sumsPuts", apart := false, narrowed := true }
def SumsPutsUptoSaid : Prop := sumsPutsUptoRow.holds Try.pinned (OpenSpec.upto sumsPutsSpec)

/-- 'furrowlaw12.SumsOpens', WHERE WHAT IT READS IS OF BULK AT MOST 1048576: true; the input reads as it did. -/
def sumsOpensUptoRow : OpenClaim := { program := "ytallfhfgplgfpaa", sum := "353238cb4cb2438a222eb16c045637c6b2869af8db92a368a47211439613f47d", func := "furrow/furrowlaw12.SumsOpens", spec := "sumsOpens", apart := false, narrowed := true }
def SumsOpensUptoSaid : Prop := sumsOpensUptoRow.holds Try.pinned (OpenSpec.upto sumsOpensSpec)

/-- 'furrowlaw12.SumsAdded', WHERE WHAT IT READS IS OF BULK AT MOST 1048576: true; the input reads as it did. -/
def sumsAddedUptoRow : OpenClaim := { program := "ytallfhfgplgfpaa", sum := "353238cb4cb2438a222eb16c045637c6b2869af8db92a368a47211439613f47d", func := "furrow/furrowlaw12.SumsAdded", spec := "sumsAdded", apart := false, narrowed := true }
def SumsAddedUptoSaid : Prop := sumsAddedUptoRow.holds Try.pinned (OpenSpec.upto sumsAddedSpec)

/-- 'furrowlaw12.SumsNames', WHERE WHAT IT READS IS OF BULK AT MOST 1048576: true; the input reads as it did. -/
def sumsNamesUptoRow : OpenClaim := { program := "ytallfhfgplgfpaa", sum := "353238cb4cb2438a222eb16c045637c6b2869af8db92a368a47211439613f47d", func := "furrow/furrowlaw12.SumsNames", spec := "sumsNames", apart := false, narrowed := true }
def SumsNamesUptoSaid : Prop := sumsNamesUptoRow.holds Try.pinned (OpenSpec.upto sumsNamesSpec)

/-- 'furrowlaw12.SumsTakes', WHERE WHAT IT READS IS OF BULK AT MOST 1048576: true; the input reads as it did. -/
def sumsTakesUptoRow : OpenClaim := { program := "ytallfhfgplgfpaa", sum := "353238cb4cb2438a222eb16c045637c6b2869af8db92a368a47211439613f47d", func := "furrow/furrowlaw12.SumsTakes", spec := "sumsTakes", apart := false, narrowed := true }
def SumsTakesUptoSaid : Prop := sumsTakesUptoRow.holds Try.pinned (OpenSpec.upto sumsTakesSpec)

/-- 'furrowlaw12.SumsBack', WHERE WHAT IT READS IS OF BULK AT MOST 1048576: true; the input reads as it did. -/
def sumsBackUptoRow : OpenClaim := { program := "ytallfhfgplgfpaa", sum := "353238cb4cb2438a222eb16c045637c6b2869af8db92a368a47211439613f47d", func := "furrow/furrowlaw12.SumsBack", spec := "sumsBack", apart := false, narrowed := true }
def SumsBackUptoSaid : Prop := sumsBackUptoRow.holds Try.pinned (OpenSpec.upto sumsBackSpec)

/-- 'furrowlaw12.SumsBursts', WHERE WHAT IT READS IS OF BULK AT MOST 1048576: true; the input reads as it did. -/
def sumsBurstsUptoRow : OpenClaim := { program := "ytallfhfgplgfpaa", sum := "353238cb4cb2438a222eb16c045637c6b2869af8db92a368a47211439613f47d", func := "furrow/furrowlaw12.SumsBursts", spec := "sumsBursts", apart := false, narrowed := true }
def SumsBurstsUptoSaid : Prop := sumsBurstsUptoRow.holds Try.pinned (OpenSpec.upto sumsBurstsSpec)

/-- 'furrowlaw12.SumsBurst', WHERE WHAT IT READS IS OF BULK AT MOST 1048576: true; the input reads as it did. -/
def sumsBurstUptoRow : OpenClaim := { program := "ytallfhfgplgfpaa", sum := "353238cb4cb2438a222eb16c045637c6b2869af8db92a368a47211439613f47d", func := "furrow/furrowlaw12.SumsBurst", spec := "sumsBurst", apart := false, narrowed := true }
def SumsBurstUptoSaid : Prop := sumsBurstUptoRow.holds Try.pinned (OpenSpec.upto sumsBurstSpec)

/-- 'furrowlaw12.SumsOne', WHERE WHAT IT READS IS OF BULK AT MOST 1048576: true; the input reads as it did. -/
def sumsOneUptoRow : OpenClaim := { program := "ytallfhfgplgfpaa", sum := "353238cb4cb2438a222eb16c045637c6b2869af8db92a368a47211439613f47d", func := "furrow/furrowlaw12.SumsOne", spec := "sumsOne", apart := false, narrowed := true }
def SumsOneUptoSaid : Prop := sumsOneUptoRow.holds Try.pinned (OpenSpec.upto sumsOneSpec)

/-- 'furrowlaw12.SumsJoined', WHERE WHAT IT READS IS OF BULK AT MOST 1048576: true; the input reads as it did. -/
def sumsJoinedUptoRow : OpenClaim := { program := "ytallfhfgplgfpaa", sum := "353238cb4cb2438a222eb16c045637c6b2869af8db92a368a47211439613f47d", func := "furrow/furrowlaw12.SumsJoined", spec := "sumsJoined", apart := false, narrowed := true }
def SumsJoinedUptoSaid : Prop := sumsJoinedUptoRow.holds Try.pinned (OpenSpec.upto sumsJoinedSpec)

/-- 'furrowlaw12.SumsPieces', WHERE WHAT IT READS IS OF BULK AT MOST 1048576: true; the input reads as it did. -/
def sumsPiecesUptoRow : OpenClaim := { program := "ytallfhfgplgfpaa", sum := "353238cb4cb2438a222eb16c045637c6b2869af8db92a368a47211439613f47d", func := "furrow/furrowlaw12.SumsPieces", spec := "sumsPieces", apart := false, narrowed := true }
def SumsPiecesUptoSaid : Prop := sumsPiecesUptoRow.holds Try.pinned (OpenSpec.upto sumsPiecesSpec)

end Rows
end Go.Proofs.Ytallfhfgplgfpaa
