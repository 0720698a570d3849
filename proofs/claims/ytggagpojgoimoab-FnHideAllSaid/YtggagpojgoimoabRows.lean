/-
  No cell of these rows narrows 'for every input' (looked for: loops, veiled, ifaces, maps, wideKeys, modest, calm, conditions, laid).
  DERIVED. THE GIVEN ROWS OF THIS SEAT. 2 by the template 'for every input the law returns true; each argument reads behind the call as it read before'; 0 by the template 'total and deterministic' (their statements: YtggagpojgoimoabTotals.lean).
  GIVEN WITH THE SEED: the statements are not yours to turn. If you find one false, say at which input.
  Laid BY PROGRAM, IN A SANDBOX (cutbox-rows.mjs): the forced cells as the released guide's own fill.sh prints them over the translation ec9cdf4aafaf39a0… (all of the seat's roots in one cut). By AI agents, Wed Nov 11 2026. No macro, syntax, notation, axiom, sorry.
-/
import Derived.Test.YtggagpojgoimoabChecked
import GoSem.Claim
import GoSem.ClaimJoined
import GoSem.ClaimMapViews
import Derived.JoinedTies
import Derived.KernelRfl
namespace Go.Proofs.Ytggagpojgoimoab
/- THE CELL 'sum', in the pinned program and in every row, IS THE sha256 OF THE DUMP (.gsa) THAT YtggagpojgoimoabProg.lean LOADS. Nothing in Lean hashes anything: it is a label: what it is worth is what the hold of that sum in a sandbox is worth. -/
noncomputable def Try.pinned : Pinned := { name := "ytggagpojgoimoab", sum := "ec9cdf4aafaf39a0dbfb20134a7356898d592c771dfb98af4f31f83b3da3bf76", checked := Try.checked }
namespace Rows
def none {H : Type} : Left H := { results := [], args := [] }

/-- 'laws.FnExactHideAll': WHATEVER THE INPUT: true; the input reads as it did. -/
def fnExactHideAllSpec : ChangeSpec := { name := "fnExactHideAll", fn := fun _ => fun
  | [d1, d2, d3] => { results := [.lit (.bool true)], args := [d1, d2, d3] }
  | _ => none }
def fnExactHideAllRow : OpenClaim := { program := "ytggagpojgoimoab", sum := "ec9cdf4aafaf39a0dbfb20134a7356898d592c771dfb98af4f31f83b3da3bf76", func := "loop.example/flashfiles/laws.FnExactHideAll", spec := "fnExactHideAll", apart := false }
def FnExactHideAllSaid : Prop := fnExactHideAllRow.holds Try.pinned (OpenSpec.ofChange fnExactHideAllSpec)

/-- ITS FALSE NEIGHBOUR: 'it returns false'. Refute it at one input. -/
def fnExactHideAllWrong : ChangeSpec := { name := "fnExactHideAll", fn := fun _ => fun
  | [d1, d2, d3] => { results := [.lit (.bool false)], args := [d1, d2, d3] }
  | _ => none }
def FnExactHideAllWrongFalsely : Prop := fnExactHideAllRow.holds Try.pinned (OpenSpec.ofChange fnExactHideAllWrong)

/-- 'laws.FnHideAll': WHATEVER THE INPUT: true; the input reads as it did. -/
def fnHideAllSpec : ChangeSpec := { name := "fnHideAll", fn := fun _ => fun
  | [d] => { results := [.lit (.bool true)], args := [d] }
  | _ => none }
def fnHideAllRow : OpenClaim := { program := "ytggagpojgoimoab", sum := "ec9cdf4aafaf39a0dbfb20134a7356898d592c771dfb98af4f31f83b3da3bf76", func := "loop.example/flashfiles/laws.FnHideAll", spec := "fnHideAll", apart := false }
def FnHideAllSaid : Prop := fnHideAllRow.holds Try.pinned (OpenSpec.ofChange fnHideAllSpec)

/-- ITS FALSE NEIGHBOUR: 'it returns false'. Refute it at one input. -/
def fnHideAllWrong : ChangeSpec := { name := "fnHideAll", fn := fun _ => fun
  | [d] => { results := [.lit (.bool false)], args := [d] }
  | _ => none }
def FnHideAllWrongFalsely : Prop := fnHideAllRow.holds Try.pinned (OpenSpec.ofChange fnHideAllWrong)

/- THE SECOND FORM. 'bulk': how many values and letters a reading holds, each counted each time it is reached (what is shared counts as often as it is met; a slice's spare places count too). A statement '..UptoSaid' is the law's where the arguments, and the package variables that the reading takes, are together of bulk at most 1048576: NARROWER than '..Said'. Prove '..Said' where nothing that the law and all that it calls make is longer than what came in: it says more and counts as full. Else prove '..UptoSaid'. A law counts once. -/
mutual
def uptoBulk {H : Type} : DataW H → Nat
  | .lit (.string bytes) => bytes.length + 1
  | .lit _ => 1
  | .nil => 1
  | .ptr d => uptoBulk d + 1
  | .slice elems spare => uptoBulkAll elems + uptoBulkAll spare + 1
  | .agg parts => uptoBulkAll parts + 1
  | .iface _ d => uptoBulk d + 1
  | .map entries => uptoBulkEntries entries + 1
  | .held _ => 1
def uptoBulkAll {H : Type} : List (DataW H) → Nat
  | [] => 0
  | d :: r => uptoBulk d + uptoBulkAll r
def uptoBulkEntries {H : Type} : List (Lit × DataW H) → Nat
  | [] => 0
  | x :: r => uptoBulkEntry x + uptoBulkEntries r
def uptoBulkEntry {H : Type} : Lit × DataW H → Nat
  | (.string bytes, d) => bytes.length + uptoBulk d + 1
  | (_, d) => uptoBulk d + 1
 end
def uptoSmall : (H : Type) → List (DataW H) → Bool := fun _ ds => decide (uptoBulkAll ds ≤ 1048576)
def OpenSpec.upto (s : _root_.Go.ChangeSpec) : _root_.Go.OpenSpec := { _root_.Go.OpenSpec.ofChange s with cond := some uptoSmall }

/-- 'laws.FnExactHideAll', WHERE WHAT IT READS IS OF BULK AT MOST 1048576: true; the input reads as it did. -/
def fnExactHideAllUptoRow : OpenClaim := { program := "ytggagpojgoimoab", sum := "ec9cdf4aafaf39a0dbfb20134a7356898d592c771dfb98af4f31f83b3da3bf76", func := "loop.example/flashfiles/laws.FnExactHideAll", spec := "fnExactHideAll", apart := false, narrowed := true }
def FnExactHideAllUptoSaid : Prop := fnExactHideAllUptoRow.holds Try.pinned (OpenSpec.upto fnExactHideAllSpec)

/-- 'laws.FnHideAll', WHERE WHAT IT READS IS OF BULK AT MOST 1048576: true; the input reads as it did. -/
def fnHideAllUptoRow : OpenClaim := { program := "ytggagpojgoimoab", sum := "ec9cdf4aafaf39a0dbfb20134a7356898d592c771dfb98af4f31f83b3da3bf76", func := "loop.example/flashfiles/laws.FnHideAll", spec := "fnHideAll", apart := false, narrowed := true }
def FnHideAllUptoSaid : Prop := fnHideAllUptoRow.holds Try.pinned (OpenSpec.upto fnHideAllSpec)

end Rows
end Go.Proofs.Ytggagpojgoimoab
