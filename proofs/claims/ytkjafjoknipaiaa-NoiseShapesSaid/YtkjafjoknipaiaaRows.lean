/-
  No cell of these rows narrows 'for every input' (looked for: loops, veiled, ifaces, maps, wideKeys, modest, calm, conditions, laid).
  DERIVED. THE GIVEN ROWS OF THIS SEAT. 3 by the template 'for every input the law returns true; each argument reads behind the call as it read before'; 0 by the template 'total and deterministic' (their statements: YtkjafjoknipaiaaTotals.lean).
  GIVEN WITH THE SEED: the statements are not yours to turn. If you find one false, say at which input.
  Laid BY PROGRAM, IN A SANDBOX (cutbox-rows.mjs): the forced cells as the released guide's own fill.sh prints them over the translation 82eec2505ac3cda3… (all of the seat's roots in one cut). By AI agents, Wed Nov 11 2026. No macro, syntax, notation, axiom, sorry.
-/
import Derived.Test.YtkjafjoknipaiaaChecked
import GoSem.Claim
import GoSem.ClaimJoined
import GoSem.ClaimMapViews
import Derived.JoinedTies
import Derived.KernelRfl
namespace Go.Proofs.Ytkjafjoknipaiaa
/- THE CELL 'sum', in the pinned program and in every row, IS THE sha256 OF THE DUMP (.gsa) THAT YtkjafjoknipaiaaProg.lean LOADS. Nothing in Lean hashes anything: it is a label: what it is worth is what the hold of that sum in a sandbox is worth. -/
noncomputable def Try.pinned : Pinned := { name := "ytkjafjoknipaiaa", sum := "82eec2505ac3cda3b3315ff6a964194615ee4dcbff7e40bece9facc8d0fda283", checked := Try.checked }
namespace Rows
def none {H : Type} : Left H := { results := [], args := [] }

/-- 'dioramalaw23.NoiseWeights': WHATEVER THE INPUT: true; the input reads as it did. -/
def noiseWeightsSpec : ChangeSpec := { name := "noiseWeights", fn := fun _ => fun
  | [d1, d2, d3] => { results := [.lit (.bool true)], args := [d1, d2, d3] }
  | _ => none }
def noiseWeightsRow : OpenClaim := { program := "ytkjafjoknipaiaa", sum := "82eec2505ac3cda3b3315ff6a964194615ee4dcbff7e40bece9facc8d0fda283", func := "diorama/dioramalaw23.NoiseWeights", spec := "noiseWeights", unfollowed := true, recurses := true, apart := false }
def NoiseWeightsSaid : Prop := noiseWeightsRow.holds Try.pinned (OpenSpec.ofChange noiseWeightsSpec)

/-- ITS FALSE NEIGHBOUR: 'it returns false'. Refute it at one input. -/
def noiseWeightsWrong : ChangeSpec := { name := "noiseWeights", fn := fun _ => fun
  | [d1, d2, d3] => { results := [.lit (.bool false)], args := [d1, d2, d3] }
  | _ => none }
def NoiseWeightsWrongFalsely : Prop := noiseWeightsRow.holds Try.pinned (OpenSpec.ofChange noiseWeightsWrong)

/-- 'dioramalaw23.NoiseLoss': WHATEVER THE INPUT: true; the input reads as it did. -/
def noiseLossSpec : ChangeSpec := { name := "noiseLoss", fn := fun _ => fun
  | [d1, d2, d3, d4] => { results := [.lit (.bool true)], args := [d1, d2, d3, d4] }
  | _ => none }
def noiseLossRow : OpenClaim := { program := "ytkjafjoknipaiaa", sum := "82eec2505ac3cda3b3315ff6a964194615ee4dcbff7e40bece9facc8d0fda283", func := "diorama/dioramalaw23.NoiseLoss", spec := "noiseLoss", unfollowed := true, recurses := true, apart := false }
def NoiseLossSaid : Prop := noiseLossRow.holds Try.pinned (OpenSpec.ofChange noiseLossSpec)

/-- ITS FALSE NEIGHBOUR: 'it returns false'. Refute it at one input. -/
def noiseLossWrong : ChangeSpec := { name := "noiseLoss", fn := fun _ => fun
  | [d1, d2, d3, d4] => { results := [.lit (.bool false)], args := [d1, d2, d3, d4] }
  | _ => none }
def NoiseLossWrongFalsely : Prop := noiseLossRow.holds Try.pinned (OpenSpec.ofChange noiseLossWrong)

/-- 'dioramalaw23.NoiseShapes': WHATEVER THE INPUT: true; the input reads as it did. -/
def noiseShapesSpec : ChangeSpec := { name := "noiseShapes", fn := fun _ => fun
  | [d1, d2, d3] => { results := [.lit (.bool true)], args := [d1, d2, d3] }
  | _ => none }
def noiseShapesRow : OpenClaim := { program := "ytkjafjoknipaiaa", sum := "82eec2505ac3cda3b3315ff6a964194615ee4dcbff7e40bece9facc8d0fda283", func := "diorama/dioramalaw23.NoiseShapes", spec := "noiseShapes", unfollowed := true, recurses := true, apart := false }
def NoiseShapesSaid : Prop := noiseShapesRow.holds Try.pinned (OpenSpec.ofChange noiseShapesSpec)

/-- ITS FALSE NEIGHBOUR: 'it returns false'. Refute it at one input. -/
def noiseShapesWrong : ChangeSpec := { name := "noiseShapes", fn := fun _ => fun
  | [d1, d2, d3] => { results := [.lit (.bool false)], args := [d1, d2, d3] }
  | _ => none }
def NoiseShapesWrongFalsely : Prop := noiseShapesRow.holds Try.pinned (OpenSpec.ofChange noiseShapesWrong)

/- THE SECOND FORM. 'bulk': how many values and letters a reading holds, each counted each time it is reached (what is shared counts as often as it is met; a slice's spare places count too). A statement '..UptoSaid' is the law's where the arguments, and the package variables that the reading takes, are together of bulk at most 1048576: NARROWER than '..Said'. Prove '..Said' where nothing that the law and all that it calls make is longer than what came in: it says more and counts as full. Else prove '..UptoSaid'. A law counts once. -/
mutual
def uptoBulk {H : Type} : DataW H → Nat
  | .lit (.string bytes) => bytes.length + 1
  | .lit _ => 1
  | .nil => 1
  | .ptr d => uptoBulk d + 1
  | .slice elems spare => uptoBulkAll elems + uptoBulkAll spare + 1
  | .agg parts => uptoBulkAll parts + 1
  | .iface _ d => uptoBulk d + 1
  | .map entries => uptoBulkEntries entries + 1
  | .held _ => 1
def uptoBulkAll {H : Type} : List (DataW H) → Nat
  | [] => 0
  | d :: r => uptoBulk d + uptoBulkAll r
def uptoBulkEntries {H : Type} : List (Lit × DataW H) → Nat
  | [] => 0
  | x :: r => uptoBulkEntry x + uptoBulkEntries r
def uptoBulkEntry {H : Type} : Lit × DataW H → Nat
  | (.string bytes, d) => bytes.length + uptoBulk d + 1
  | (_, d) => uptoBulk d + 1
 end
def uptoSmall : (H : Type) → List (DataW H) → Bool := fun _ ds => decide (uptoBulkAll ds ≤ 1048576)
def OpenSpec.upto (s : _root_.Go.ChangeSpec) : _root_.Go.OpenSpec := { _root_.Go.OpenSpec.ofChange s with cond := some uptoSmall }

/-- 'dioramalaw23.NoiseWeights', WHERE WHAT IT READS IS OF BULK AT MOST 1048576: true; the input reads as it did. -/
def noiseWeightsUptoRow : OpenClaim := { program := "ytkjafjoknipaiaa", sum := "82eec2505ac3cda3b3315ff6a964194615ee4dcbff7e40bece9facc8d0fda283", func := "diorama/dioramalaw23.NoiseWeights", spec := "noiseWeights", unfollowed := true, recurses := true, apart := false, narrowed := true }
def NoiseWeightsUptoSaid : Prop := noiseWeightsUptoRow.holds Try.pinned (OpenSpec.upto noiseWeightsSpec)

/-- 'dioramalaw23.NoiseLoss', WHERE WHAT IT READS IS OF BULK AT MOST 1048576: true; the input reads as it did. -/
def noiseLossUptoRow : OpenClaim := { program := "ytkjafjoknipaiaa", sum := "82eec2505ac3cda3b3315ff6a964194615ee4dcbff7e40bece9facc8d0fda283", func := "diorama/dioramalaw23.NoiseLoss", spec := "noiseLoss", unfollowed := true, recurses := true, apart := false, narrowed := true }
def NoiseLossUptoSaid : Prop := noiseLossUptoRow.holds Try.pinned (OpenSpec.upto noiseLossSpec)

/-- 'dioramalaw23.NoiseShapes', WHERE WHAT IT READS IS OF BULK AT MOST 1048576: true; the input reads as it did. -/
def noiseShapesUptoRow : OpenClaim := { program := "ytkjafjoknipaiaa", sum := "82eec2505ac3cda3b3315ff6a964194615ee4dcbff7e40bece9facc8d0fda283", func := "diorama/dioramalaw23.NoiseShapes", spec := "noiseShapes", unfollowed := true, recurses := true, apart := false, narrowed := true }
def NoiseShapesUptoSaid : Prop := noiseShapesUptoRow.holds Try.pinned (OpenSpec.upto noiseShapesSpec)

end Rows
end Go.Proofs.Ytkjafjoknipaiaa
