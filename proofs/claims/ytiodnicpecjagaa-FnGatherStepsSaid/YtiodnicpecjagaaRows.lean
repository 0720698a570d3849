/-
  No cell of these rows narrows 'for every input' (looked for: loops, veiled, ifaces, maps, wideKeys, modest, calm, conditions, laid).
  DERIVED. THE GIVEN ROWS OF THIS SEAT. 8 by the template 'for every input the law returns true; each argument reads behind the call as it read before'; 0 by the template 'total and deterministic' (their statements: YtiodnicpecjagaaTotals.lean).
  GIVEN WITH THE SEED: the statements are not yours to turn. If you find one false, say at which input.
  Laid BY PROGRAM, IN A SANDBOX (cutbox-rows.mjs): the forced cells as the released guide's own fill.sh prints them over the translation 116744d5fd174694… (all of the seat's roots in one cut). By AI agents, Wed Nov 11 2026. No macro, syntax, notation, axiom, sorry.
-/
import Derived.Test.YtiodnicpecjagaaChecked
import GoSem.Claim
import GoSem.ClaimJoined
import GoSem.ClaimMapViews
import Derived.JoinedTies
import Derived.KernelRfl
namespace Go.Proofs.Ytiodnicpecjagaa
/- THE CELL 'sum', in the pinned program and in every row, IS THE sha256 OF THE DUMP (.gsa) THAT YtiodnicpecjagaaProg.lean LOADS. Nothing in Lean hashes anything: it is a label: what it is worth is what the hold of that sum in a sandbox is worth. -/
noncomputable def Try.pinned : Pinned := { name := "ytiodnicpecjagaa", sum := "116744d5fd1746943ee270fdb9f791e8d6d5c1a8e961445c2a0fe4742f4e4f77", checked := Try.checked }
namespace Rows
def none {H : Type} : Left H := { results := [], args := [] }

/-- 'laws.FnExactPlacesValid': WHATEVER THE INPUT: true; the input reads as it did. -/
def fnExactPlacesValidSpec : ChangeSpec := { name := "fnExactPlacesValid", fn := fun _ => fun
  | [d] => { results := [.lit (.bool true)], args := [d] }
  | _ => none }
def fnExactPlacesValidRow : OpenClaim := { program := "ytiodnicpecjagaa", sum := "116744d5fd1746943ee270fdb9f791e8d6d5c1a8e961445c2a0fe4742f4e4f77", func := "loop.example/flashfiles/laws.FnExactPlacesValid", spec := "fnExactPlacesValid", apart := false }
def FnExactPlacesValidSaid : Prop := fnExactPlacesValidRow.holds Try.pinned (OpenSpec.ofChange fnExactPlacesValidSpec)

/-- ITS FALSE NEIGHBOUR: 'it returns false'. Refute it at one input. -/
def fnExactPlacesValidWrong : ChangeSpec := { name := "fnExactPlacesValid", fn := fun _ => fun
  | [d] => { results := [.lit (.bool false)], args := [d] }
  | _ => none }
def FnExactPlacesValidWrongFalsely : Prop := fnExactPlacesValidRow.holds Try.pinned (OpenSpec.ofChange fnExactPlacesValidWrong)

/-- 'laws.FnExactFragmentCount': WHATEVER THE INPUT: true; the input reads as it did. -/
def fnExactFragmentCountSpec : ChangeSpec := { name := "fnExactFragmentCount", fn := fun _ => fun
  | [d] => { results := [.lit (.bool true)], args := [d] }
  | _ => none }
def fnExactFragmentCountRow : OpenClaim := { program := "ytiodnicpecjagaa", sum := "116744d5fd1746943ee270fdb9f791e8d6d5c1a8e961445c2a0fe4742f4e4f77", func := "loop.example/flashfiles/laws.FnExactFragmentCount", spec := "fnExactFragmentCount", apart := false }
def FnExactFragmentCountSaid : Prop := fnExactFragmentCountRow.holds Try.pinned (OpenSpec.ofChange fnExactFragmentCountSpec)

/-- ITS FALSE NEIGHBOUR: 'it returns false'. Refute it at one input. -/
def fnExactFragmentCountWrong : ChangeSpec := { name := "fnExactFragmentCount", fn := fun _ => fun
  | [d] => { results := [.lit (.bool false)], args := [d] }
  | _ => none }
def FnExactFragmentCountWrongFalsely : Prop := fnExactFragmentCountRow.holds Try.pinned (OpenSpec.ofChange fnExactFragmentCountWrong)

/-- 'laws.FnPlacesValid': WHATEVER THE INPUT: true; the input reads as it did. -/
def fnPlacesValidSpec : ChangeSpec := { name := "fnPlacesValid", fn := fun _ => fun
  | [d] => { results := [.lit (.bool true)], args := [d] }
  | _ => none }
def fnPlacesValidRow : OpenClaim := { program := "ytiodnicpecjagaa", sum := "116744d5fd1746943ee270fdb9f791e8d6d5c1a8e961445c2a0fe4742f4e4f77", func := "loop.example/flashfiles/laws.FnPlacesValid", spec := "fnPlacesValid", apart := false }
def FnPlacesValidSaid : Prop := fnPlacesValidRow.holds Try.pinned (OpenSpec.ofChange fnPlacesValidSpec)

/-- ITS FALSE NEIGHBOUR: 'it returns false'. Refute it at one input. -/
def fnPlacesValidWrong : ChangeSpec := { name := "fnPlacesValid", fn := fun _ => fun
  | [d] => { results := [.lit (.bool false)], args := [d] }
  | _ => none }
def FnPlacesValidWrongFalsely : Prop := fnPlacesValidRow.holds Try.pinned (OpenSpec.ofChange fnPlacesValidWrong)

/-- 'laws.FnFragmentCount': WHATEVER THE INPUT: true; the input reads as it did. -/
def fnFragmentCountSpec : ChangeSpec := { name := "fnFragmentCount", fn := fun _ => fun
  | [d] => { results := [.lit (.bool true)], args := [d] }
  | _ => none }
def fnFragmentCountRow : OpenClaim := { program := "ytiodnicpecjagaa", sum := "116744d5fd1746943ee270fdb9f791e8d6d5c1a8e961445c2a0fe4742f4e4f77", func := "loop.example/flashfiles/laws.FnFragmentCount", spec := "fnFragmentCount", apart := false }
def FnFragmentCountSaid : Prop := fnFragmentCountRow.holds Try.pinned (OpenSpec.ofChange fnFragmentCountSpec)

/-- ITS FALSE NEIGHBOUR: 'it returns false'. Refute it at one input. -/
def fnFragmentCountWrong : ChangeSpec := { name := "fnFragmentCount", fn := fun _ => fun
  | [d] => { results := [.lit (.bool false)], args := [d] }
  | _ => none }
def FnFragmentCountWrongFalsely : Prop := fnFragmentCountRow.holds Try.pinned (OpenSpec.ofChange fnFragmentCountWrong)

/-- 'laws.FnExactGatherSteps': WHATEVER THE INPUT: true; the input reads as it did. -/
def fnExactGatherStepsSpec : ChangeSpec := { name := "fnExactGatherSteps", fn := fun _ => fun
  | [d1, d2] => { results := [.lit (.bool true)], args := [d1, d2] }
  | _ => none }
def fnExactGatherStepsRow : OpenClaim := { program := "ytiodnicpecjagaa", sum := "116744d5fd1746943ee270fdb9f791e8d6d5c1a8e961445c2a0fe4742f4e4f77", func := "loop.example/flashfiles/laws.FnExactGatherSteps", spec := "fnExactGatherSteps", apart := false }
def FnExactGatherStepsSaid : Prop := fnExactGatherStepsRow.holds Try.pinned (OpenSpec.ofChange fnExactGatherStepsSpec)

/-- ITS FALSE NEIGHBOUR: 'it returns false'. Refute it at one input. -/
def fnExactGatherStepsWrong : ChangeSpec := { name := "fnExactGatherSteps", fn := fun _ => fun
  | [d1, d2] => { results := [.lit (.bool false)], args := [d1, d2] }
  | _ => none }
def FnExactGatherStepsWrongFalsely : Prop := fnExactGatherStepsRow.holds Try.pinned (OpenSpec.ofChange fnExactGatherStepsWrong)

/-- 'laws.FnGatherSteps': WHATEVER THE INPUT: true; the input reads as it did. -/
def fnGatherStepsSpec : ChangeSpec := { name := "fnGatherSteps", fn := fun _ => fun
  | [d] => { results := [.lit (.bool true)], args := [d] }
  | _ => none }
def fnGatherStepsRow : OpenClaim := { program := "ytiodnicpecjagaa", sum := "116744d5fd1746943ee270fdb9f791e8d6d5c1a8e961445c2a0fe4742f4e4f77", func := "loop.example/flashfiles/laws.FnGatherSteps", spec := "fnGatherSteps", apart := false }
def FnGatherStepsSaid : Prop := fnGatherStepsRow.holds Try.pinned (OpenSpec.ofChange fnGatherStepsSpec)

/-- ITS FALSE NEIGHBOUR: 'it returns false'. Refute it at one input. -/
def fnGatherStepsWrong : ChangeSpec := { name := "fnGatherSteps", fn := fun _ => fun
  | [d] => { results := [.lit (.bool false)], args := [d] }
  | _ => none }
def FnGatherStepsWrongFalsely : Prop := fnGatherStepsRow.holds Try.pinned (OpenSpec.ofChange fnGatherStepsWrong)

/-- 'laws.FnExactApplySteps': WHATEVER THE INPUT: true; the input reads as it did. -/
def fnExactApplyStepsSpec : ChangeSpec := { name := "fnExactApplySteps", fn := fun _ => fun
  | [d1, d2] => { results := [.lit (.bool true)], args := [d1, d2] }
  | _ => none }
def fnExactApplyStepsRow : OpenClaim := { program := "ytiodnicpecjagaa", sum := "116744d5fd1746943ee270fdb9f791e8d6d5c1a8e961445c2a0fe4742f4e4f77", func := "loop.example/flashfiles/laws.FnExactApplySteps", spec := "fnExactApplySteps", apart := false }
def FnExactApplyStepsSaid : Prop := fnExactApplyStepsRow.holds Try.pinned (OpenSpec.ofChange fnExactApplyStepsSpec)

/-- ITS FALSE NEIGHBOUR: 'it returns false'. Refute it at one input. -/
def fnExactApplyStepsWrong : ChangeSpec := { name := "fnExactApplySteps", fn := fun _ => fun
  | [d1, d2] => { results := [.lit (.bool false)], args := [d1, d2] }
  | _ => none }
def FnExactApplyStepsWrongFalsely : Prop := fnExactApplyStepsRow.holds Try.pinned (OpenSpec.ofChange fnExactApplyStepsWrong)

/-- 'laws.FnApplySteps': WHATEVER THE INPUT: true; the input reads as it did. -/
def fnApplyStepsSpec : ChangeSpec := { name := "fnApplySteps", fn := fun _ => fun
  | [d] => { results := [.lit (.bool true)], args := [d] }
  | _ => none }
def fnApplyStepsRow : OpenClaim := { program := "ytiodnicpecjagaa", sum := "116744d5fd1746943ee270fdb9f791e8d6d5c1a8e961445c2a0fe4742f4e4f77", func := "loop.example/flashfiles/laws.FnApplySteps", spec := "fnApplySteps", apart := false }
def FnApplyStepsSaid : Prop := fnApplyStepsRow.holds Try.pinned (OpenSpec.ofChange fnApplyStepsSpec)

/-- ITS FALSE NEIGHBOUR: 'it returns false'. Refute it at one input. -/
def fnApplyStepsWrong : ChangeSpec := { name := "fnApplySteps", fn := fun _ => fun
  | [d] => { results := [.lit (.bool false)], args := [d] }
  | _ => none }
def FnApplyStepsWrongFalsely : Prop := fnApplyStepsRow.holds Try.pinned (OpenSpec.ofChange fnApplyStepsWrong)

/- THE SECOND FORM. 'bulk': how many values and letters a reading holds, each counted each time it is reached (what is shared counts as often as it is met; a slice's spare places count too). A statement '..UptoSaid' is the law's where the arguments, and the package variables that the reading takes, are together of bulk at most 1048576: NARROWER than '..Said'. Prove '..Said' where nothing that the law and all that it calls make is longer than what came in: it says more and counts as full. Else prove '..UptoSaid'. A law counts once. -/
mutual
def uptoBulk {H : Type} : DataW H → Nat
  | .lit (.string bytes) => bytes.length + 1
  | .lit _ => 1
  | .nil => 1
  | .ptr d => uptoBulk d + 1
  | .slice elems spare => uptoBulkAll elems + uptoBulkAll spare + 1
  | .agg parts => uptoBulkAll parts + 1
  | .iface _ d => uptoBulk d + 1
  | .map entries => uptoBulkEntries entries + 1
  | .held _ => 1
def uptoBulkAll {H : Type} : List (DataW H) → Nat
  | [] => 0
  | d :: r => uptoBulk d + uptoBulkAll r
def uptoBulkEntries {H : Type} : List (Lit × DataW H) → Nat
  | [] => 0
  | x :: r => uptoBulkEntry x + uptoBulkEntries r
def uptoBulkEntry {H : Type} : Lit × DataW H → Nat
  | (.string bytes, d) => bytes.length + uptoBulk d + 1
  | (_, d) => uptoBulk d + 1
 end
def uptoSmall : (H : Type) → List (DataW H) → Bool := fun _ ds => decide (uptoBulkAll ds ≤ 1048576)
def OpenSpec.upto (s : _root_.Go.ChangeSpec) : _root_.Go.OpenSpec := { _root_.Go.OpenSpec.ofChange s with cond := some uptoSmall }

/-- 'laws.FnExactPlacesValid', WHERE WHAT IT READS IS OF BULK AT MOST 1048576: true; the input reads as it did. -/
def fnExactPlacesValidUptoRow : OpenClaim := { program := "ytiodnicpecjagaa", sum := "116744d5fd1746943ee270fdb9f791e8d6d5c1a8e961445c2a0fe4742f4e4f77", func := "loop.example/flashfiles/laws.FnExactPlacesValid", spec := "fnExactPlacesValid", apart := false, narrowed := true }
def FnExactPlacesValidUptoSaid : Prop := fnExactPlacesValidUptoRow.holds Try.pinned (OpenSpec.upto fnExactPlacesValidSpec)

/-- 'laws.FnExactFragmentCount', WHERE WHAT IT READS IS OF BULK AT MOST 1048576: true; the input reads as it did. -/
def fnExactFragmentCountUptoRow : OpenClaim := { program := "ytiodnicpecjagaa", sum := "116744d5fd1746943ee270fdb9f791e8d6d5c1a8e961445c2a0fe4742f4e4f77", func := "loop.example/flashfiles/laws.FnExactFragmentCount", spec := "fnExactFragmentCount", apart := false, narrowed := true }
def FnExactFragmentCountUptoSaid : Prop := fnExactFragmentCountUptoRow.holds Try.pinned (OpenSpec.upto fnExactFragmentCountSpec)

/-- 'laws.FnPlacesValid', WHERE WHAT IT READS IS OF BULK AT MOST 1048576: true; the input reads as it did. -/
def fnPlacesValidUptoRow : OpenClaim := { program := "ytiodnicpecjagaa", sum := "116744d5fd1746943ee270fdb9f791e8d6d5c1a8e961445c2a0fe4742f4e4f77", func := "loop.example/flashfiles/laws.FnPlacesValid", spec := "fnPlacesValid", apart := false, narrowed := true }
def FnPlacesValidUptoSaid : Prop := fnPlacesValidUptoRow.holds Try.pinned (OpenSpec.upto fnPlacesValidSpec)

/-- 'laws.FnFragmentCount', WHERE WHAT IT READS IS OF BULK AT MOST 1048576: true; the input reads as it did. -/
def fnFragmentCountUptoRow : OpenClaim := { program := "ytiodnicpecjagaa", sum := "116744d5fd1746943ee270fdb9f791e8d6d5c1a8e961445c2a0fe4742f4e4f77", func := "loop.example/flashfiles/laws.FnFragmentCount", spec := "fnFragmentCount", apart := false, narrowed := true }
def FnFragmentCountUptoSaid : Prop := fnFragmentCountUptoRow.holds Try.pinned (OpenSpec.upto fnFragmentCountSpec)

/-- 'laws.FnExactGatherSteps', WHERE WHAT IT READS IS OF BULK AT MOST 1048576: true; the input reads as it did. -/
def fnExactGatherStepsUptoRow : OpenClaim := { program := "ytiodnicpecjagaa", sum := "116744d5fd1746943ee270fdb9f791e8d6d5c1a8e961445c2a0fe4742f4e4f77", func := "loop.example/flashfiles/laws.FnExactGatherSteps", spec := "fnExactGatherSteps", apart := false, narrowed := true }
def FnExactGatherStepsUptoSaid : Prop := fnExactGatherStepsUptoRow.holds Try.pinned (OpenSpec.upto fnExactGatherStepsSpec)

/-- 'laws.FnGatherSteps', WHERE WHAT IT READS IS OF BULK AT MOST 1048576: true; the input reads as it did. -/
def fnGatherStepsUptoRow : OpenClaim := { program := "ytiodnicpecjagaa", sum := "116744d5fd1746943ee270fdb9f791e8d6d5c1a8e961445c2a0fe4742f4e4f77", func := "loop.example/flashfiles/laws.FnGatherSteps", spec := "fnGatherSteps", apart := false, narrowed := true }
def FnGatherStepsUptoSaid : Prop := fnGatherStepsUptoRow.holds Try.pinned (OpenSpec.upto fnGatherStepsSpec)

/-- 'laws.FnExactApplySteps', WHERE WHAT IT READS IS OF BULK AT MOST 1048576: true; the input reads as it did. -/
def fnExactApplyStepsUptoRow : OpenClaim := { program := "ytiodnicpecjagaa", sum := "116744d5fd1746943ee270fdb9f791e8d6d5c1a8e961445c2a0fe4742f4e4f77", func := "loop.example/flashfiles/laws.FnExactApplySteps", spec := "fnExactApplySteps", apart := false, narrowed := true }
def FnExactApplyStepsUptoSaid : Prop := fnExactApplyStepsUptoRow.holds Try.pinned (OpenSpec.upto fnExactApplyStepsSpec)

/-- 'laws.FnApplySteps', WHERE WHAT IT READS IS OF BULK AT MOST 1048576: true; the input reads as it did. -/
def fnApplyStepsUptoRow : OpenClaim := { program := "ytiodnicpecjagaa", sum := "116744d5fd1746943ee270fdb9f791e8d6d5c1a8e961445c2a0fe4742f4e4f77", func := "loop.example/flashfiles/laws.FnApplySteps", spec := "fnApplySteps", apart := false, narrowed := true }
def FnApplyStepsUptoSaid : Prop := fnApplyStepsUptoRow.holds Try.pinned (OpenSpec.upto fnApplyStepsSpec)

end Rows
end Go.Proofs.Ytiodnicpecjagaa
