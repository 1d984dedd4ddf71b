/-
  No cell of these rows narrows 'for every input' (looked for: loops, veiled, ifaces, maps, wideKeys, modest, calm, conditions, laid).
  DERIVED. THE GIVEN ROWS OF THIS SEAT. 11 by the template 'for every input the law returns true; each argument reads behind the call as it read before'; 0 by the template 'total and deterministic' (their statements: YtmdcbpdmkonmlaaTotals.lean).
  GIVEN WITH THE SEED: the statements are not yours to turn. If you find one false, say at which input.
  Laid BY PROGRAM, IN A SANDBOX (cutbox-rows.mjs): the forced cells as the released guide's own fill.sh prints them over the translation 408a754d614a7859… (all of the seat's roots in one cut). By AI agents, Wed Nov 11 2026. No macro, syntax, notation, axiom, sorry.
-/
import Derived.Test.YtmdcbpdmkonmlaaChecked
import GoSem.Claim
import GoSem.ClaimJoined
import GoSem.ClaimMapViews
import Derived.JoinedTies
import Derived.KernelRfl
namespace Go.Proofs.Ytmdcbpdmkonmlaa
/- THE CELL 'sum', in the pinned program and in every row, IS THE sha256 OF THE DUMP (.gsa) THAT YtmdcbpdmkonmlaaProg.lean LOADS. Nothing in Lean hashes anything: it is a label: what it is worth is what the hold of that sum in a sandbox is worth. -/
noncomputable def Try.pinned : Pinned := { name := "ytmdcbpdmkonmlaa", sum := "408a754d614a78596b7995730c38865badf5d19425f27954a968a48915e9d32e", checked := Try.checked }
namespace Rows
def none {H : Type} : Left H := { results := [], args := [] }

/-- 'furrowlaw02.WideOne': WHATEVER THE INPUT: true; the input reads as it did. -/
def wideOneSpec : ChangeSpec := { name := "wideOne", fn := fun _ => fun
  | [d1, d2, d3] => { results := [.lit (.bool true)], args := [d1, d2, d3] }
  | _ => none }
def wideOneRow : OpenClaim := { program := "ytmdcbpdmkonmlaa", sum := "408a754d614a78596b7995730c38865badf5d19425f27954a968a48915e9d32e", func := "furrow/furrowlaw02.WideOne", spec := "wideOne", unfollowed := true, recurses := true, apart := false }
def WideOneSaid : Prop := wideOneRow.holds Try.pinned (OpenSpec.ofChange wideOneSpec)

/-- ITS FALSE NEIGHBOUR: 'it returns false'. Refute it at one input. -/
def wideOneWrong : ChangeSpec := { name := "wideOne", fn := fun _ => fun
  | [d1, d2, d3] => { results := [.lit (.bool false)], args := [d1, d2, d3] }
  | _ => none }
def WideOneWrongFalsely : Prop := wideOneRow.holds Try.pinned (OpenSpec.ofChange wideOneWrong)

/-- 'furrowlaw02.WideFrom': WHATEVER THE INPUT: true; the input reads as it did. -/
def wideFromSpec : ChangeSpec := { name := "wideFrom", fn := fun _ => fun
  | [d1, d2] => { results := [.lit (.bool true)], args := [d1, d2] }
  | _ => none }
def wideFromRow : OpenClaim := { program := "ytmdcbpdmkonmlaa", sum := "408a754d614a78596b7995730c38865badf5d19425f27954a968a48915e9d32e", func := "furrow/furrowlaw02.WideFrom", spec := "wideFrom", unfollowed := true, recurses := true, apart := false }
def WideFromSaid : Prop := wideFromRow.holds Try.pinned (OpenSpec.ofChange wideFromSpec)

/-- ITS FALSE NEIGHBOUR: 'it returns false'. Refute it at one input. -/
def wideFromWrong : ChangeSpec := { name := "wideFrom", fn := fun _ => fun
  | [d1, d2] => { results := [.lit (.bool false)], args := [d1, d2] }
  | _ => none }
def WideFromWrongFalsely : Prop := wideFromRow.holds Try.pinned (OpenSpec.ofChange wideFromWrong)

/-- 'furrowlaw02.WideSeam': WHATEVER THE INPUT: true; the input reads as it did. -/
def wideSeamSpec : ChangeSpec := { name := "wideSeam", fn := fun _ => fun
  | [d1, d2, d3, d4] => { results := [.lit (.bool true)], args := [d1, d2, d3, d4] }
  | _ => none }
def wideSeamRow : OpenClaim := { program := "ytmdcbpdmkonmlaa", sum := "408a754d614a78596b7995730c38865badf5d19425f27954a968a48915e9d32e", func := "furrow/furrowlaw02.WideSeam", spec := "wideSeam", unfollowed := true, recurses := true, apart := false }
def WideSeamSaid : Prop := wideSeamRow.holds Try.pinned (OpenSpec.ofChange wideSeamSpec)

/-- ITS FALSE NEIGHBOUR: 'it returns false'. Refute it at one input. -/
def wideSeamWrong : ChangeSpec := { name := "wideSeam", fn := fun _ => fun
  | [d1, d2, d3, d4] => { results := [.lit (.bool false)], args := [d1, d2, d3, d4] }
  | _ => none }
def WideSeamWrongFalsely : Prop := wideSeamRow.holds Try.pinned (OpenSpec.ofChange wideSeamWrong)

/-- 'furrowlaw02.WideNames': WHATEVER THE INPUT: true; the input reads as it did. -/
def wideNamesSpec : ChangeSpec := { name := "wideNames", fn := fun _ => fun
  | [] => { results := [.lit (.bool true)], args := [] }
  | _ => none }
def wideNamesRow : OpenClaim := { program := "ytmdcbpdmkonmlaa", sum := "408a754d614a78596b7995730c38865badf5d19425f27954a968a48915e9d32e", func := "furrow/furrowlaw02.WideNames", spec := "wideNames", unfollowed := true, recurses := true, apart := false }
def WideNamesSaid : Prop := wideNamesRow.holds Try.pinned (OpenSpec.ofChange wideNamesSpec)

/-- ITS FALSE NEIGHBOUR: 'it returns false'. Refute it at one input. -/
def wideNamesWrong : ChangeSpec := { name := "wideNames", fn := fun _ => fun
  | [] => { results := [.lit (.bool false)], args := [] }
  | _ => none }
def WideNamesWrongFalsely : Prop := wideNamesRow.holds Try.pinned (OpenSpec.ofChange wideNamesWrong)

/-- 'furrowlaw02.WideBack': WHATEVER THE INPUT: true; the input reads as it did. -/
def wideBackSpec : ChangeSpec := { name := "wideBack", fn := fun _ => fun
  | [d1, d2, d3] => { results := [.lit (.bool true)], args := [d1, d2, d3] }
  | _ => none }
def wideBackRow : OpenClaim := { program := "ytmdcbpdmkonmlaa", sum := "408a754d614a78596b7995730c38865badf5d19425f27954a968a48915e9d32e", func := "furrow/furrowlaw02.WideBack", spec := "wideBack", unfollowed := true, recurses := true, apart := false }
def WideBackSaid : Prop := wideBackRow.holds Try.pinned (OpenSpec.ofChange wideBackSpec)

/-- ITS FALSE NEIGHBOUR: 'it returns false'. Refute it at one input. -/
def wideBackWrong : ChangeSpec := { name := "wideBack", fn := fun _ => fun
  | [d1, d2, d3] => { results := [.lit (.bool false)], args := [d1, d2, d3] }
  | _ => none }
def WideBackWrongFalsely : Prop := wideBackRow.holds Try.pinned (OpenSpec.ofChange wideBackWrong)

/-- 'furrowlaw02.WidePlaces': WHATEVER THE INPUT: true; the input reads as it did. -/
def widePlacesSpec : ChangeSpec := { name := "widePlaces", fn := fun _ => fun
  | [d1, d2, d3] => { results := [.lit (.bool true)], args := [d1, d2, d3] }
  | _ => none }
def widePlacesRow : OpenClaim := { program := "ytmdcbpdmkonmlaa", sum := "408a754d614a78596b7995730c38865badf5d19425f27954a968a48915e9d32e", func := "furrow/furrowlaw02.WidePlaces", spec := "widePlaces", unfollowed := true, recurses := true, apart := false }
def WidePlacesSaid : Prop := widePlacesRow.holds Try.pinned (OpenSpec.ofChange widePlacesSpec)

/-- ITS FALSE NEIGHBOUR: 'it returns false'. Refute it at one input. -/
def widePlacesWrong : ChangeSpec := { name := "widePlaces", fn := fun _ => fun
  | [d1, d2, d3] => { results := [.lit (.bool false)], args := [d1, d2, d3] }
  | _ => none }
def WidePlacesWrongFalsely : Prop := widePlacesRow.holds Try.pinned (OpenSpec.ofChange widePlacesWrong)

/-- 'furrowlaw02.WideGo': WHATEVER THE INPUT: true; the input reads as it did. -/
def wideGoSpec : ChangeSpec := { name := "wideGo", fn := fun _ => fun
  | [d] => { results := [.lit (.bool true)], args := [d] }
  | _ => none }
def wideGoRow : OpenClaim := { program := "ytmdcbpdmkonmlaa", sum := "408a754d614a78596b7995730c38865badf5d19425f27954a968a48915e9d32e", func := "furrow/furrowlaw02.WideGo", spec := "wideGo", unfollowed := true, recurses := true, apart := false }
def WideGoSaid : Prop := wideGoRow.holds Try.pinned (OpenSpec.ofChange wideGoSpec)

/-- ITS FALSE NEIGHBOUR: 'it returns false'. Refute it at one input. -/
def wideGoWrong : ChangeSpec := { name := "wideGo", fn := fun _ => fun
  | [d] => { results := [.lit (.bool false)], args := [d] }
  | _ => none }
def WideGoWrongFalsely : Prop := wideGoRow.holds Try.pinned (OpenSpec.ofChange wideGoWrong)

/-- 'furrowlaw02.WideBytes': WHATEVER THE INPUT: true; the input reads as it did. -/
def wideBytesSpec : ChangeSpec := { name := "wideBytes", fn := fun _ => fun
  | [d1, d2, d3] => { results := [.lit (.bool true)], args := [d1, d2, d3] }
  | _ => none }
def wideBytesRow : OpenClaim := { program := "ytmdcbpdmkonmlaa", sum := "408a754d614a78596b7995730c38865badf5d19425f27954a968a48915e9d32e", func := "furrow/furrowlaw02.WideBytes", spec := "wideBytes", unfollowed := true, recurses := true, apart := false }
def WideBytesSaid : Prop := wideBytesRow.holds Try.pinned (OpenSpec.ofChange wideBytesSpec)

/-- ITS FALSE NEIGHBOUR: 'it returns false'. Refute it at one input. -/
def wideBytesWrong : ChangeSpec := { name := "wideBytes", fn := fun _ => fun
  | [d1, d2, d3] => { results := [.lit (.bool false)], args := [d1, d2, d3] }
  | _ => none }
def WideBytesWrongFalsely : Prop := wideBytesRow.holds Try.pinned (OpenSpec.ofChange wideBytesWrong)

/-- 'furrowlaw02.WideSent': WHATEVER THE INPUT: true; the input reads as it did. -/
def wideSentSpec : ChangeSpec := { name := "wideSent", fn := fun _ => fun
  | [d1, d2, d3] => { results := [.lit (.bool true)], args := [d1, d2, d3] }
  | _ => none }
def wideSentRow : OpenClaim := { program := "ytmdcbpdmkonmlaa", sum := "408a754d614a78596b7995730c38865badf5d19425f27954a968a48915e9d32e", func := "furrow/furrowlaw02.WideSent", spec := "wideSent", unfollowed := true, recurses := true, apart := false }
def WideSentSaid : Prop := wideSentRow.holds Try.pinned (OpenSpec.ofChange wideSentSpec)

/-- ITS FALSE NEIGHBOUR: 'it returns false'. Refute it at one input. -/
def wideSentWrong : ChangeSpec := { name := "wideSent", fn := fun _ => fun
  | [d1, d2, d3] => { results := [.lit (.bool false)], args := [d1, d2, d3] }
  | _ => none }
def WideSentWrongFalsely : Prop := wideSentRow.holds Try.pinned (OpenSpec.ofChange wideSentWrong)

/-- 'furrowlaw02.WideReads': WHATEVER THE INPUT: true; the input reads as it did. -/
def wideReadsSpec : ChangeSpec := { name := "wideReads", fn := fun _ => fun
  | [d1, d2] => { results := [.lit (.bool true)], args := [d1, d2] }
  | _ => none }
def wideReadsRow : OpenClaim := { program := "ytmdcbpdmkonmlaa", sum := "408a754d614a78596b7995730c38865badf5d19425f27954a968a48915e9d32e", func := "furrow/furrowlaw02.WideReads", spec := "wideReads", unfollowed := true, recurses := true, apart := false }
def WideReadsSaid : Prop := wideReadsRow.holds Try.pinned (OpenSpec.ofChange wideReadsSpec)

/-- ITS FALSE NEIGHBOUR: 'it returns false'. Refute it at one input. -/
def wideReadsWrong : ChangeSpec := { name := "wideReads", fn := fun _ => fun
  | [d1, d2] => { results := [.lit (.bool false)], args := [d1, d2] }
  | _ => none }
def WideReadsWrongFalsely : Prop := wideReadsRow.holds Try.pinned (OpenSpec.ofChange wideReadsWrong)

/-- 'furrowlaw02.WideKnown': WHATEVER THE INPUT: true; the input reads as it did. -/
def wideKnownSpec : ChangeSpec := { name := "wideKnown", fn := fun _ => fun
  | [] => { results := [.lit (.bool true)], args := [] }
  | _ => none }
def wideKnownRow : OpenClaim := { program := "ytmdcbpdmkonmlaa", sum := "408a754d614a78596b7995730c38865badf5d19425f27954a968a48915e9d32e", func := "furrow/furrowlaw02.WideKnown", spec := "wideKnown", unfollowed := true, recurses := true, apart := false }
def WideKnownSaid : Prop := wideKnownRow.holds Try.pinned (OpenSpec.ofChange wideKnownSpec)

/-- ITS FALSE NEIGHBOUR: 'it returns false'. Refute it at one input. -/
def wideKnownWrong : ChangeSpec := { name := "wideKnown", fn := fun _ => fun
  | [] => { results := [.lit (.bool false)], args := [] }
  | _ => none }
def WideKnownWrongFalsely : Prop := wideKnownRow.holds Try.pinned (OpenSpec.ofChange wideKnownWrong)

/- THE SECOND FORM. 'bulk': how many values and letters a reading holds, each counted each time it is reached (what is shared counts as often as it is met; a slice's spare places count too). A statement '..UptoSaid' is the law's where the arguments, and the package variables that the reading takes, are together of bulk at most 1048576: NARROWER than '..Said'. Prove '..Said' where nothing that the law and all that it calls make is longer than what came in: it says more and counts as full. Else prove '..UptoSaid'. A law counts once. -/
mutual
def uptoBulk {H : Type} : DataW H → Nat
  | .lit (.string bytes) => bytes.length + 1
  | .lit _ => 1
  | .nil => 1
  | .ptr d => uptoBulk d + 1
  | .slice elems spare => uptoBulkAll elems + uptoBulkAll spare + 1
  | .agg parts => uptoBulkAll parts + 1
  | .iface _ d => uptoBulk d + 1
  | .map entries => uptoBulkEntries entries + 1
  | .held _ => 1
def uptoBulkAll {H : Type} : List (DataW H) → Nat
  | [] => 0
  | d :: r => uptoBulk d + uptoBulkAll r
def uptoBulkEntries {H : Type} : List (Lit × DataW H) → Nat
  | [] => 0
  | x :: r => uptoBulkEntry x + uptoBulkEntries r
def uptoBulkEntry {H : Type} : Lit × DataW H → Nat
  | (.string bytes, d) => bytes.length + uptoBulk d + 1
  | (_, d) => uptoBulk d + 1
 end
def uptoSmall : (H : Type) → List (DataW H) → Bool := fun _ ds => decide (uptoBulkAll ds ≤ 1048576)
def OpenSpec.upto (s : _root_.Go.ChangeSpec) : _root_.Go.OpenSpec := { _root_.Go.OpenSpec.ofChange s with cond := some uptoSmall }

/-- 'furrowlaw02.WideOne', WHERE WHAT IT READS IS OF BULK AT MOST 1048576: true; the input reads as it did. -/
def wideOneUptoRow : OpenClaim := { program := "ytmdcbpdmkonmlaa", sum := "408a754d614a78596b7995730c38865badf5d19425f27954a968a48915e9d32e", func := "furrow/furrowlaw02.WideOne", spec := "wideOne", unfollowed := true, recurses := true, apart := false, narrowed := true }
def WideOneUptoSaid : Prop := wideOneUptoRow.holds Try.pinned (OpenSpec.upto wideOneSpec)

/-- 'furrowlaw02.WideFrom', WHERE WHAT IT READS IS OF BULK AT MOST 1048576: true; the input reads as it did. -/
def wideFromUptoRow : OpenClaim := { program := "ytmdcbpdmkonmlaa", sum := "408a754d614a78596b7995730c38865badf5d19425f27954a968a48915e9d32e", func := "furrow/furrowlaw02.WideFrom", spec := "wideFrom", unfollowed := true, recurses := true, apart := false, narrowed := true }
def WideFromUptoSaid : Prop := wideFromUptoRow.holds Try.pinned (OpenSpec.upto wideFromSpec)

/-- 'furrowlaw02.WideSeam', WHERE WHAT IT READS IS OF BULK AT MOST 1048576: true; the input reads as it did. -/
def wideSeamUptoRow : OpenClaim := { program := "ytmdcbpdmkonmlaa", sum := "408a754d614a78596b7995730c38865badf5d19425f27954a968a48915e9d32e", func := "furrow/furrowlaw02.WideSeam", spec := "wideSeam", unfollowed := true, recurses := true, apart := false, narrowed := true }
def WideSeamUptoSaid : Prop := wideSeamUptoRow.holds Try.pinned (OpenSpec.upto wideSeamSpec)

/-- 'furrowlaw02.WideNames', WHERE WHAT IT READS IS OF BULK AT MOST 1048576: true; the input reads as it did. -/
def wideNamesUptoRow : OpenClaim := { program := "ytmdcbpdmkonmlaa", sum := "408a754d614a78596b7995730c38865badf5d19425f27954a968a48915e9d32e", func := "furrow/furrowlaw02.WideNames", spec := "wideNames", unfollowed := true, recurses := true, apart := false, narrowed := true }
def WideNamesUptoSaid : Prop := wideNamesUptoRow.holds Try.pinned (OpenSpec.upto wideNamesSpec)

/-- 'furrowlaw02.WideBack', WHERE WHAT IT READS IS OF BULK AT MOST 1048576: true; the input reads as it did. -/
def wideBackUptoRow : OpenClaim := { program := "ytmdcbpdmkonmlaa", sum := "408a754d614a78596b7995730c38865badf5d19425f27954a968a48915e9d32e", func := "furrow/furrowlaw02.WideBack", spec := "wideBack", unfollowed := true, recurses := true, apart := false, narrowed := true }
def WideBackUptoSaid : Prop := wideBackUptoRow.holds Try.pinned (OpenSpec.upto wideBackSpec)

/-- 'furrowlaw02.WidePlaces', WHERE WHAT IT READS IS OF BULK AT MOST 1048576: true; the input reads as it did. -/
def widePlacesUptoRow : OpenClaim := { program := "ytmdcbpdmkonmlaa", sum := "408a754d614a78596b7995730c38865badf5d19425f27954a968a48915e9d32e", func := "furrow/furrowlaw02.WidePlaces", spec := "widePlaces", unfollowed := true, recurses := true, apart := false, narrowed := true }
def WidePlacesUptoSaid : Prop := widePlacesUptoRow.holds Try.pinned (OpenSpec.upto widePlacesSpec)

/-- 'furrowlaw02.WideGo', WHERE WHAT IT READS IS OF BULK AT MOST 1048576: true; the input reads as it did. -/
def wideGoUptoRow : OpenClaim := { program := "ytmdcbpdmkonmlaa", sum := "408a754d614a78596b7995730c38865badf5d19425f27954a968a48915e9d32e", func := "furrow/furrowlaw02.WideGo", spec := "wideGo", unfollowed := true, recurses := true, apart := false, narrowed := true }
def WideGoUptoSaid : Prop := wideGoUptoRow.holds Try.pinned (OpenSpec.upto wideGoSpec)

/-- 'furrowlaw02.WideBytes', WHERE WHAT IT READS IS OF BULK AT MOST 1048576: true; the input reads as it did. -/
def wideBytesUptoRow : OpenClaim := { program := "ytmdcbpdmkonmlaa", sum := "408a754d614a78596b7995730c38865badf5d19425f27954a968a48915e9d32e", func := "furrow/furrowlaw02.WideBytes", spec := "wideBytes", unfollowed := true, recurses := true, apart := false, narrowed := true }
def WideBytesUptoSaid : Prop := wideBytesUptoRow.holds Try.pinned (OpenSpec.upto wideBytesSpec)

/-- 'furrowlaw02.WideSent', WHERE WHAT IT READS IS OF BULK AT MOST 1048576: true; the input reads as it did. -/
def wideSentUptoRow : OpenClaim := { program := "ytmdcbpdmkonmlaa", sum := "408a754d614a78596b7995730c38865badf5d19425f27954a968a48915e9d32e", func := "furrow/furrowlaw02.WideSent", spec := "wideSent", unfollowed := true, recurses := true, apart := false, narrowed := true }
def WideSentUptoSaid : Prop := wideSentUptoRow.holds Try.pinned (OpenSpec.upto wideSentSpec)

/-- 'furrowlaw02.WideReads', WHERE WHAT IT READS IS OF BULK AT MOST 1048576: true; the input reads as it did. -/
def wideReadsUptoRow : OpenClaim := { program := "ytmdcbpdmkonmlaa", sum := "408a754d614a78596b7995730c38865badf5d19425f27954a968a48915e9d32e", func := "furrow/furrowlaw02.WideReads", spec := "wideReads", unfollowed := true, recurses := true, apart := false, narrowed := true }
def WideReadsUptoSaid : Prop := wideReadsUptoRow.holds Try.pinned (OpenSpec.upto wideReadsSpec)

/-- 'furrowlaw02.WideKnown', WHERE WHAT IT READS IS OF BULK AT MOST 1048576: true; the input reads as it did. -/
def wideKnownUptoRow : OpenClaim := { program := "ytmdcbpdmkonmlaa", sum := "408a754d614a78596b7995730c38865badf5d19425f27954a968a48915e9d32e", func := "furrow/furrowlaw02.WideKnown", spec := "wideKnown", unfollowed := true, recurses := true, apart := false, narrowed := true }
def WideKnownUptoSaid : Prop := wideKnownUptoRow.holds Try.pinned (OpenSpec.upto wideKnownSpec)

end Rows
end Go.Proofs.Ytmdcbpdmkonmlaa
