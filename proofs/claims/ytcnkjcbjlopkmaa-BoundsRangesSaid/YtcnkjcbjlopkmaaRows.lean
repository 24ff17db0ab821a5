/-
  No cell of these rows narrows 'for every input' (looked for: loops, veiled, ifaces, maps, wideKeys, modest, calm, conditions, laid).
  DERIVED. THE GIVEN ROWS OF THIS SEAT. 6 by the template 'for every input the law returns true; each argument reads behind the call as it read before'; 0 by the template 'total and deterministic' (their statements: YtcnkjcbjlopkmaaTotals.lean).
  GIVEN WITH THE SEED: the statements are not yours to turn. If you find one false, say at which input.
  Laid BY PROGRAM, IN A SANDBOX (cutbox-rows.mjs): the forced cells as the released guide's own fill.sh prints them over the translation e5d78a3b86bef0df… (all of the seat's roots in one cut). By AI agents, Wed Nov 11 2026. No macro, syntax, notation, axiom, sorry.
-/
import Derived.Test.YtcnkjcbjlopkmaaChecked
import GoSem.Claim
import GoSem.ClaimJoined
import GoSem.ClaimMapViews
import Derived.JoinedTies
import Derived.KernelRfl
namespace Go.Proofs.Ytcnkjcbjlopkmaa
/- THE CELL 'sum', in the pinned program and in every row, IS THE sha256 OF THE DUMP (.gsa) THAT YtcnkjcbjlopkmaaProg.lean LOADS. Nothing in Lean hashes anything: it is a label: what it is worth is what the hold of that sum in a sandbox is worth. -/
noncomputable def Try.pinned : Pinned := { name := "ytcnkjcbjlopkmaa", sum := "e5d78a3b86bef0df8c8f160ebc48ac2ca90647e20c6f4e111b2baa074ba28ea7", checked := Try.checked }
namespace Rows
def none {H : Type} : Left H := { results := [], args := [] }

/-- 'dioramalaw14.BoundsCloses': WHATEVER THE INPUT: true; the input reads as it did. -/
def boundsClosesSpec : ChangeSpec := { name := "boundsCloses", fn := fun _ => fun
  | [d1, d2, d3, d4, d5] => { results := [.lit (.bool true)], args := [d1, d2, d3, d4, d5] }
  | _ => none }
def boundsClosesRow : OpenClaim := { program := "ytcnkjcbjlopkmaa", sum := "e5d78a3b86bef0df8c8f160ebc48ac2ca90647e20c6f4e111b2baa074ba28ea7", func := "diorama/dioramalaw14.BoundsCloses", spec := "boundsCloses", unfollowed := true, recurses := true, apart := false }
def BoundsClosesSaid : Prop := boundsClosesRow.holds Try.pinned (OpenSpec.ofChange boundsClosesSpec)

/-- ITS FALSE NEIGHBOUR: 'it returns false'. Refute it at one input. -/
def boundsClosesWrong : ChangeSpec := { name := "boundsCloses", fn := fun _ => fun
  | [d1, d2, d3, d4, d5] => { results := [.lit (.bool false)], args := [d1, d2, d3, d4, d5] }
  | _ => none }
def BoundsClosesWrongFalsely : Prop := boundsClosesRow.holds Try.pinned (OpenSpec.ofChange boundsClosesWrong)

/-- 'dioramalaw14.BoundsRanges': WHATEVER THE INPUT: true; the input reads as it did. -/
def boundsRangesSpec : ChangeSpec := { name := "boundsRanges", fn := fun _ => fun
  | [d1, d2, d3, d4, d5] => { results := [.lit (.bool true)], args := [d1, d2, d3, d4, d5] }
  | _ => none }
def boundsRangesRow : OpenClaim := { program := "ytcnkjcbjlopkmaa", sum := "e5d78a3b86bef0df8c8f160ebc48ac2ca90647e20c6f4e111b2baa074ba28ea7", func := "diorama/dioramalaw14.BoundsRanges", spec := "boundsRanges", unfollowed := true, recurses := true, apart := false }
def BoundsRangesSaid : Prop := boundsRangesRow.holds Try.pinned (OpenSpec.ofChange boundsRangesSpec)

/-- ITS FALSE NEIGHBOUR: 'it returns false'. Refute it at one input. -/
def boundsRangesWrong : ChangeSpec := { name := "boundsRanges", fn := fun _ => fun
  | [d1, d2, d3, d4, d5] => { results := [.lit (.bool false)], args := [d1, d2, d3, d4, d5] }
  | _ => none }
def BoundsRangesWrongFalsely : Prop := boundsRangesRow.holds Try.pinned (OpenSpec.ofChange boundsRangesWrong)

/-- 'dioramalaw14.BoundsFills': WHATEVER THE INPUT: true; the input reads as it did. -/
def boundsFillsSpec : ChangeSpec := { name := "boundsFills", fn := fun _ => fun
  | [d1, d2, d3, d4, d5, d6] => { results := [.lit (.bool true)], args := [d1, d2, d3, d4, d5, d6] }
  | _ => none }
def boundsFillsRow : OpenClaim := { program := "ytcnkjcbjlopkmaa", sum := "e5d78a3b86bef0df8c8f160ebc48ac2ca90647e20c6f4e111b2baa074ba28ea7", func := "diorama/dioramalaw14.BoundsFills", spec := "boundsFills", unfollowed := true, recurses := true, apart := false }
def BoundsFillsSaid : Prop := boundsFillsRow.holds Try.pinned (OpenSpec.ofChange boundsFillsSpec)

/-- ITS FALSE NEIGHBOUR: 'it returns false'. Refute it at one input. -/
def boundsFillsWrong : ChangeSpec := { name := "boundsFills", fn := fun _ => fun
  | [d1, d2, d3, d4, d5, d6] => { results := [.lit (.bool false)], args := [d1, d2, d3, d4, d5, d6] }
  | _ => none }
def BoundsFillsWrongFalsely : Prop := boundsFillsRow.holds Try.pinned (OpenSpec.ofChange boundsFillsWrong)

/-- 'dioramalaw14.BoundsFilled': WHATEVER THE INPUT: true; the input reads as it did. -/
def boundsFilledSpec : ChangeSpec := { name := "boundsFilled", fn := fun _ => fun
  | [d1, d2] => { results := [.lit (.bool true)], args := [d1, d2] }
  | _ => none }
def boundsFilledRow : OpenClaim := { program := "ytcnkjcbjlopkmaa", sum := "e5d78a3b86bef0df8c8f160ebc48ac2ca90647e20c6f4e111b2baa074ba28ea7", func := "diorama/dioramalaw14.BoundsFilled", spec := "boundsFilled", unfollowed := true, recurses := true, apart := false }
def BoundsFilledSaid : Prop := boundsFilledRow.holds Try.pinned (OpenSpec.ofChange boundsFilledSpec)

/-- ITS FALSE NEIGHBOUR: 'it returns false'. Refute it at one input. -/
def boundsFilledWrong : ChangeSpec := { name := "boundsFilled", fn := fun _ => fun
  | [d1, d2] => { results := [.lit (.bool false)], args := [d1, d2] }
  | _ => none }
def BoundsFilledWrongFalsely : Prop := boundsFilledRow.holds Try.pinned (OpenSpec.ofChange boundsFilledWrong)

/-- 'dioramalaw14.BoundsContradiction': WHATEVER THE INPUT: true; the input reads as it did. -/
def boundsContradictionSpec : ChangeSpec := { name := "boundsContradiction", fn := fun _ => fun
  | [d1, d2] => { results := [.lit (.bool true)], args := [d1, d2] }
  | _ => none }
def boundsContradictionRow : OpenClaim := { program := "ytcnkjcbjlopkmaa", sum := "e5d78a3b86bef0df8c8f160ebc48ac2ca90647e20c6f4e111b2baa074ba28ea7", func := "diorama/dioramalaw14.BoundsContradiction", spec := "boundsContradiction", unfollowed := true, recurses := true, apart := false }
def BoundsContradictionSaid : Prop := boundsContradictionRow.holds Try.pinned (OpenSpec.ofChange boundsContradictionSpec)

/-- ITS FALSE NEIGHBOUR: 'it returns false'. Refute it at one input. -/
def boundsContradictionWrong : ChangeSpec := { name := "boundsContradiction", fn := fun _ => fun
  | [d1, d2] => { results := [.lit (.bool false)], args := [d1, d2] }
  | _ => none }
def BoundsContradictionWrongFalsely : Prop := boundsContradictionRow.holds Try.pinned (OpenSpec.ofChange boundsContradictionWrong)

/-- 'dioramalaw14.BoundsClosed': WHATEVER THE INPUT: true; the input reads as it did. -/
def boundsClosedSpec : ChangeSpec := { name := "boundsClosed", fn := fun _ => fun
  | [d] => { results := [.lit (.bool true)], args := [d] }
  | _ => none }
def boundsClosedRow : OpenClaim := { program := "ytcnkjcbjlopkmaa", sum := "e5d78a3b86bef0df8c8f160ebc48ac2ca90647e20c6f4e111b2baa074ba28ea7", func := "diorama/dioramalaw14.BoundsClosed", spec := "boundsClosed", unfollowed := true, recurses := true, apart := false }
def BoundsClosedSaid : Prop := boundsClosedRow.holds Try.pinned (OpenSpec.ofChange boundsClosedSpec)

/-- ITS FALSE NEIGHBOUR: 'it returns false'. Refute it at one input. -/
def boundsClosedWrong : ChangeSpec := { name := "boundsClosed", fn := fun _ => fun
  | [d] => { results := [.lit (.bool false)], args := [d] }
  | _ => none }
def BoundsClosedWrongFalsely : Prop := boundsClosedRow.holds Try.pinned (OpenSpec.ofChange boundsClosedWrong)

/- THE SECOND FORM. 'bulk': how many values and letters a reading holds, each counted each time it is reached (what is shared counts as often as it is met; a slice's spare places count too). A statement '..UptoSaid' is the law's where the arguments, and the package variables that the reading takes, are together of bulk at most 1048576: NARROWER than '..Said'. Prove '..Said' where nothing that the law and all that it calls make is longer than what came in: it says more and counts as full. Else prove '..UptoSaid'. A law counts once. -/
mutual
def uptoBulk {H : Type} : DataW H → Nat
  | .lit (.string bytes) => bytes.length + 1
  | .lit _ => 1
  | .nil => 1
  | .ptr d => uptoBulk d + 1
  | .slice elems spare => uptoBulkAll elems + uptoBulkAll spare + 1
  | .agg parts => uptoBulkAll parts + 1
  | .iface _ d => uptoBulk d + 1
  | .map entries => uptoBulkEntries entries + 1
  | .held _ => 1
def uptoBulkAll {H : Type} : List (DataW H) → Nat
  | [] => 0
  | d :: r => uptoBulk d + uptoBulkAll r
def uptoBulkEntries {H : Type} : List (Lit × DataW H) → Nat
  | [] => 0
  | x :: r => uptoBulkEntry x + uptoBulkEntries r
def uptoBulkEntry {H : Type} : Lit × DataW H → Nat
  | (.string bytes, d) => bytes.length + uptoBulk d + 1
  | (_, d) => uptoBulk d + 1
 end
def uptoSmall : (H : Type) → List (DataW H) → Bool := fun _ ds => decide (uptoBulkAll ds ≤ 1048576)
def OpenSpec.upto (s : _root_.Go.ChangeSpec) : _root_.Go.OpenSpec := { _root_.Go.OpenSpec.ofChange s with cond := some uptoSmall }

/-- 'dioramalaw14.BoundsCloses', WHERE WHAT IT READS IS OF BULK AT MOST 1048576: true; the input reads as it did. -/
def boundsClosesUptoRow : OpenClaim := { program := "ytcnkjcbjlopkmaa", sum := "e5d78a3b86bef0df8c8f160ebc48ac2ca90647e20c6f4e111b2baa074ba28ea7", func := "diorama/dioramalaw14.BoundsCloses", spec := "boundsCloses", unfollowed := true, recurses := true, apart := false, narrowed := true }
def BoundsClosesUptoSaid : Prop := boundsClosesUptoRow.holds Try.pinned (OpenSpec.upto boundsClosesSpec)

/-- 'dioramalaw14.BoundsRanges', WHERE WHAT IT READS IS OF BULK AT MOST 1048576: true; the input reads as it did. -/
def boundsRangesUptoRow : OpenClaim := { program := "ytcnkjcbjlopkmaa", sum := "e5d78a3b86bef0df8c8f160ebc48ac2ca90647e20c6f4e111b2baa074ba28ea7", func := "diorama/dioramalaw14.BoundsRanges", spec := "boundsRanges", unfollowed := true, recurses := true, apart := false, narrowed := true }
def BoundsRangesUptoSaid : Prop := boundsRangesUptoRow.holds Try.pinned (OpenSpec.upto boundsRangesSpec)

/-- 'dioramalaw14.BoundsFills', WHERE WHAT IT READS IS OF BULK AT MOST 1048576: true; the input reads as it did. -/
def boundsFillsUptoRow : OpenClaim := { program := "ytcnkjcbjlopkmaa", sum := "e5d78a3b86bef0df8c8f160ebc48ac2ca90647e20c6f4e111b2baa074ba28ea7", func := "diorama/dioramalaw14.BoundsFills", spec := "boundsFills", unfollowed := true, recurses := true, apart := false, narrowed := true }
def BoundsFillsUptoSaid : Prop := boundsFillsUptoRow.holds Try.pinned (OpenSpec.upto boundsFillsSpec)

/-- 'dioramalaw14.BoundsFilled', WHERE WHAT IT READS IS OF BULK AT MOST 1048576: true; the input reads as it did. -/
def boundsFilledUptoRow : OpenClaim := { program := "ytcnkjcbjlopkmaa", sum := "e5d78a3b86bef0df8c8f160ebc48ac2ca90647e20c6f4e111b2baa074ba28ea7", func := "diorama/dioramalaw14.BoundsFilled", spec := "boundsFilled", unfollowed := true, recurses := true, apart := false, narrowed := true }
def BoundsFilledUptoSaid : Prop := boundsFilledUptoRow.holds Try.pinned (OpenSpec.upto boundsFilledSpec)

/-- 'dioramalaw14.BoundsContradiction', WHERE WHAT IT READS IS OF BULK AT MOST 1048576: true; the input reads as it did. -/
def boundsContradictionUptoRow : OpenClaim := { program := "ytcnkjcbjlopkmaa", sum := "e5d78a3b86bef0df8c8f160ebc48ac2ca90647e20c6f4e111b2baa074ba28ea7", func := "diorama/dioramalaw14.BoundsContradiction", spec := "boundsContradiction", unfollowed := true, recurses := true, apart := false, narrowed := true }
def BoundsContradictionUptoSaid : Prop := boundsContradictionUptoRow.holds Try.pinned (OpenSpec.upto boundsContradictionSpec)

/-- 'dioramalaw14.BoundsClosed', WHERE WHAT IT READS IS OF BULK AT MOST 1048576: true; the input reads as it did. -/
def boundsClosedUptoRow : OpenClaim := { program := "ytcnkjcbjlopkmaa", sum := "e5d78a3b86bef0df8c8f160ebc48ac2ca90647e20c6f4e111b2baa074ba28ea7", func := "diorama/dioramalaw14.BoundsClosed", spec := "boundsClosed", unfollowed := true, recurses := true, apart := false, narrowed := true }
def BoundsClosedUptoSaid : Prop := boundsClosedUptoRow.holds Try.pinned (OpenSpec.upto boundsClosedSpec)

end Rows
end Go.Proofs.Ytcnkjcbjlopkmaa
