/-
  No cell of these rows narrows 'for every input' (looked for: loops, veiled, ifaces, maps, wideKeys, modest, calm, conditions, laid).
  DERIVED. THE GIVEN ROWS OF THIS SEAT. 6 by the template 'for every input the law returns true; each argument reads behind the call as it read before'; 0 by the template 'total and deterministic' (their statements: YtjnpgdhpneifjaaTotals.lean).
  GIVEN WITH THE SEED: the statements are not yours to turn. If you find one false, say at which input.
  Laid BY PROGRAM, IN A SANDBOX (cutbox-rows.mjs): the forced cells as the released guide's own fill.sh prints them over the translation 29caed9a28555d63… (all of the seat's roots in one cut). By AI agents, Wed Nov 11 2026. No macro, syntax, notation, axiom, sorry.
-/
import Derived.Test.YtjnpgdhpneifjaaChecked
import GoSem.Claim
import GoSem.ClaimJoined
import GoSem.ClaimMapViews
import Derived.JoinedTies
import Derived.KernelRfl
namespace Go.Proofs.Ytjnpgdhpneifjaa
/- THE CELL 'sum', in the pinned program and in every row, IS THE sha256 OF THE DUMP (.gsa) THAT YtjnpgdhpneifjaaProg.lean LOADS. Nothing in Lean hashes anything: it is a label: what it is worth is what the hold of that sum in a sandbox is worth. -/
noncomputable def Try.pinned : Pinned := { name := "ytjnpgdhpneifjaa", sum := "29caed9a28555d63317f76ceb15fd88d264f973be70bc1bdc5643a832967798f", checked := Try.checked }
namespace Rows
def none {H : Type} : Left H := { results := [], args := [] }

/-- 'laws.FnExactWritesLeft': WHATEVER THE INPUT: true; the input reads as it did. -/
def fnExactWritesLeftSpec : ChangeSpec := { name := "fnExactWritesLeft", fn := fun _ => fun
  | [d1, d2] => { results := [.lit (.bool true)], args := [d1, d2] }
  | _ => none }
def fnExactWritesLeftRow : OpenClaim := { program := "ytjnpgdhpneifjaa", sum := "29caed9a28555d63317f76ceb15fd88d264f973be70bc1bdc5643a832967798f", func := "loop.example/flashfiles/laws.FnExactWritesLeft", spec := "fnExactWritesLeft", apart := false }
def FnExactWritesLeftSaid : Prop := fnExactWritesLeftRow.holds Try.pinned (OpenSpec.ofChange fnExactWritesLeftSpec)

/-- ITS FALSE NEIGHBOUR: 'it returns false'. Refute it at one input. -/
def fnExactWritesLeftWrong : ChangeSpec := { name := "fnExactWritesLeft", fn := fun _ => fun
  | [d1, d2] => { results := [.lit (.bool false)], args := [d1, d2] }
  | _ => none }
def FnExactWritesLeftWrongFalsely : Prop := fnExactWritesLeftRow.holds Try.pinned (OpenSpec.ofChange fnExactWritesLeftWrong)

/-- 'laws.FnWritesLeft': WHATEVER THE INPUT: true; the input reads as it did. -/
def fnWritesLeftSpec : ChangeSpec := { name := "fnWritesLeft", fn := fun _ => fun
  | [d] => { results := [.lit (.bool true)], args := [d] }
  | _ => none }
def fnWritesLeftRow : OpenClaim := { program := "ytjnpgdhpneifjaa", sum := "29caed9a28555d63317f76ceb15fd88d264f973be70bc1bdc5643a832967798f", func := "loop.example/flashfiles/laws.FnWritesLeft", spec := "fnWritesLeft", apart := false }
def FnWritesLeftSaid : Prop := fnWritesLeftRow.holds Try.pinned (OpenSpec.ofChange fnWritesLeftSpec)

/-- ITS FALSE NEIGHBOUR: 'it returns false'. Refute it at one input. -/
def fnWritesLeftWrong : ChangeSpec := { name := "fnWritesLeft", fn := fun _ => fun
  | [d] => { results := [.lit (.bool false)], args := [d] }
  | _ => none }
def FnWritesLeftWrongFalsely : Prop := fnWritesLeftRow.holds Try.pinned (OpenSpec.ofChange fnWritesLeftWrong)

/-- 'laws.FnExactNewDisk': WHATEVER THE INPUT: true; the input reads as it did. -/
def fnExactNewDiskSpec : ChangeSpec := { name := "fnExactNewDisk", fn := fun _ => fun
  | [d] => { results := [.lit (.bool true)], args := [d] }
  | _ => none }
def fnExactNewDiskRow : OpenClaim := { program := "ytjnpgdhpneifjaa", sum := "29caed9a28555d63317f76ceb15fd88d264f973be70bc1bdc5643a832967798f", func := "loop.example/flashfiles/laws.FnExactNewDisk", spec := "fnExactNewDisk", apart := false }
def FnExactNewDiskSaid : Prop := fnExactNewDiskRow.holds Try.pinned (OpenSpec.ofChange fnExactNewDiskSpec)

/-- ITS FALSE NEIGHBOUR: 'it returns false'. Refute it at one input. -/
def fnExactNewDiskWrong : ChangeSpec := { name := "fnExactNewDisk", fn := fun _ => fun
  | [d] => { results := [.lit (.bool false)], args := [d] }
  | _ => none }
def FnExactNewDiskWrongFalsely : Prop := fnExactNewDiskRow.holds Try.pinned (OpenSpec.ofChange fnExactNewDiskWrong)

/-- 'laws.FnNewDisk': WHATEVER THE INPUT: true; the input reads as it did. -/
def fnNewDiskSpec : ChangeSpec := { name := "fnNewDisk", fn := fun _ => fun
  | [d] => { results := [.lit (.bool true)], args := [d] }
  | _ => none }
def fnNewDiskRow : OpenClaim := { program := "ytjnpgdhpneifjaa", sum := "29caed9a28555d63317f76ceb15fd88d264f973be70bc1bdc5643a832967798f", func := "loop.example/flashfiles/laws.FnNewDisk", spec := "fnNewDisk", apart := false }
def FnNewDiskSaid : Prop := fnNewDiskRow.holds Try.pinned (OpenSpec.ofChange fnNewDiskSpec)

/-- ITS FALSE NEIGHBOUR: 'it returns false'. Refute it at one input. -/
def fnNewDiskWrong : ChangeSpec := { name := "fnNewDisk", fn := fun _ => fun
  | [d] => { results := [.lit (.bool false)], args := [d] }
  | _ => none }
def FnNewDiskWrongFalsely : Prop := fnNewDiskRow.holds Try.pinned (OpenSpec.ofChange fnNewDiskWrong)

/-- 'laws.FnExactDiskValid': WHATEVER THE INPUT: true; the input reads as it did. -/
def fnExactDiskValidSpec : ChangeSpec := { name := "fnExactDiskValid", fn := fun _ => fun
  | [d] => { results := [.lit (.bool true)], args := [d] }
  | _ => none }
def fnExactDiskValidRow : OpenClaim := { program := "ytjnpgdhpneifjaa", sum := "29caed9a28555d63317f76ceb15fd88d264f973be70bc1bdc5643a832967798f", func := "loop.example/flashfiles/laws.FnExactDiskValid", spec := "fnExactDiskValid", apart := false }
def FnExactDiskValidSaid : Prop := fnExactDiskValidRow.holds Try.pinned (OpenSpec.ofChange fnExactDiskValidSpec)

/-- ITS FALSE NEIGHBOUR: 'it returns false'. Refute it at one input. -/
def fnExactDiskValidWrong : ChangeSpec := { name := "fnExactDiskValid", fn := fun _ => fun
  | [d] => { results := [.lit (.bool false)], args := [d] }
  | _ => none }
def FnExactDiskValidWrongFalsely : Prop := fnExactDiskValidRow.holds Try.pinned (OpenSpec.ofChange fnExactDiskValidWrong)

/-- 'laws.FnDiskValid': WHATEVER THE INPUT: true; the input reads as it did. -/
def fnDiskValidSpec : ChangeSpec := { name := "fnDiskValid", fn := fun _ => fun
  | [d] => { results := [.lit (.bool true)], args := [d] }
  | _ => none }
def fnDiskValidRow : OpenClaim := { program := "ytjnpgdhpneifjaa", sum := "29caed9a28555d63317f76ceb15fd88d264f973be70bc1bdc5643a832967798f", func := "loop.example/flashfiles/laws.FnDiskValid", spec := "fnDiskValid", apart := false }
def FnDiskValidSaid : Prop := fnDiskValidRow.holds Try.pinned (OpenSpec.ofChange fnDiskValidSpec)

/-- ITS FALSE NEIGHBOUR: 'it returns false'. Refute it at one input. -/
def fnDiskValidWrong : ChangeSpec := { name := "fnDiskValid", fn := fun _ => fun
  | [d] => { results := [.lit (.bool false)], args := [d] }
  | _ => none }
def FnDiskValidWrongFalsely : Prop := fnDiskValidRow.holds Try.pinned (OpenSpec.ofChange fnDiskValidWrong)

/- THE SECOND FORM. 'bulk': how many values and letters a reading holds, each counted each time it is reached (what is shared counts as often as it is met; a slice's spare places count too). A statement '..UptoSaid' is the law's where the arguments, and the package variables that the reading takes, are together of bulk at most 1048576: NARROWER than '..Said'. Prove '..Said' where nothing that the law and all that it calls make is longer than what came in: it says more and counts as full. Else prove '..UptoSaid'. A law counts once. -/
mutual
def uptoBulk {H : Type} : DataW H → Nat
  | .lit (.string bytes) => bytes.length + 1
  | .lit _ => 1
  | .nil => 1
  | .ptr d => uptoBulk d + 1
  | .slice elems spare => uptoBulkAll elems + uptoBulkAll spare + 1
  | .agg parts => uptoBulkAll parts + 1
  | .iface _ d => uptoBulk d + 1
  | .map entries => uptoBulkEntries entries + 1
  | .held _ => 1
def uptoBulkAll {H : Type} : List (DataW H) → Nat
  | [] => 0
  | d :: r => uptoBulk d + uptoBulkAll r
def uptoBulkEntries {H : Type} : List (Lit × DataW H) → Nat
  | [] => 0
  | x :: r => uptoBulkEntry x + uptoBulkEntries r
def uptoBulkEntry {H : Type} : Lit × DataW H → Nat
  | (.string bytes, d) => bytes.length + uptoBulk d + 1
  | (_, d) => uptoBulk d + 1
 end
def uptoSmall : (H : Type) → List (DataW H) → Bool := fun _ ds => decide (uptoBulkAll ds ≤ 1048576)
def OpenSpec.upto (s : _root_.Go.ChangeSpec) : _root_.Go.OpenSpec := { _root_.Go.OpenSpec.ofChange s with cond := some uptoSmall }

/-- 'laws.FnExactWritesLeft', WHERE WHAT IT READS IS OF BULK AT MOST 1048576: true; the input reads as it did. -/
def fnExactWritesLeftUptoRow : OpenClaim := { program := "ytjnpgdhpneifjaa", sum := "29caed9a28555d63317f76ceb15fd88d264f973be70bc1bdc5643a832967798f", func := "loop.example/flashfiles/laws.FnExactWritesLeft", spec := "fnExactWritesLeft", apart := false, narrowed := true }
def FnExactWritesLeftUptoSaid : Prop := fnExactWritesLeftUptoRow.holds Try.pinned (OpenSpec.upto fnExactWritesLeftSpec)

/-- 'laws.FnWritesLeft', WHERE WHAT IT READS IS OF BULK AT MOST 1048576: true; the input reads as it did. -/
def fnWritesLeftUptoRow : OpenClaim := { program := "ytjnpgdhpneifjaa", sum := "29caed9a28555d63317f76ceb15fd88d264f973be70bc1bdc5643a832967798f", func := "loop.example/flashfiles/laws.FnWritesLeft", spec := "fnWritesLeft", apart := false, narrowed := true }
def FnWritesLeftUptoSaid : Prop := fnWritesLeftUptoRow.holds Try.pinned (OpenSpec.upto fnWritesLeftSpec)

/-- 'laws.FnExactNewDisk', WHERE WHAT IT READS IS OF BULK AT MOST 1048576: true; the input reads as it did. -/
def fnExactNewDiskUptoRow : OpenClaim := { program := "ytjnpgdhpneifjaa", sum := "29caed9a28555d63317f76ceb15fd88d264f973be70bc1bdc5643a832967798f", func := "loop.example/flashfiles/laws.FnExactNewDisk", spec := "fnExactNewDisk", apart := false, narrowed := true }
def FnExactNewDiskUptoSaid : Prop := fnExactNewDiskUptoRow.holds Try.pinned (OpenSpec.upto fnExactNewDiskSpec)

/-- 'laws.FnNewDisk', WHERE WHAT IT READS IS OF BULK AT MOST 1048576: true; the input reads as it did. -/
def fnNewDiskUptoRow : OpenClaim := { program := "ytjnpgdhpneifjaa", sum := "29caed9a28555d63317f76ceb15fd88d264f973be70bc1bdc5643a832967798f", func := "loop.example/flashfiles/laws.FnNewDisk", spec := "fnNewDisk", apart := false, narrowed := true }
def FnNewDiskUptoSaid : Prop := fnNewDiskUptoRow.holds Try.pinned (OpenSpec.upto fnNewDiskSpec)

/-- 'laws.FnExactDiskValid', WHERE WHAT IT READS IS OF BULK AT MOST 1048576: true; the input reads as it did. -/
def fnExactDiskValidUptoRow : OpenClaim := { program := "ytjnpgdhpneifjaa", sum := "29caed9a28555d63317f76ceb15fd88d264f973be70bc1bdc5643a832967798f", func := "loop.example/flashfiles/laws.FnExactDiskValid", spec := "fnExactDiskValid", apart := false, narrowed := true }
def FnExactDiskValidUptoSaid : Prop := fnExactDiskValidUptoRow.holds Try.pinned (OpenSpec.upto fnExactDiskValidSpec)

/-- 'laws.FnDiskValid', WHERE WHAT IT READS IS OF BULK AT MOST 1048576: true; the input reads as it did. -/
def fnDiskValidUptoRow : OpenClaim := { program := "ytjnpgdhpneifjaa", sum := "29caed9a28555d63317f76ceb15fd88d264f973be70bc1bdc5643a832967798f", func := "loop.example/flashfiles/laws.FnDiskValid", spec := "fnDiskValid", apart := false, narrowed := true }
def FnDiskValidUptoSaid : Prop := fnDiskValidUptoRow.holds Try.pinned (OpenSpec.upto fnDiskValidSpec)

end Rows
end Go.Proofs.Ytjnpgdhpneifjaa
