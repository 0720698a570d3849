/-
  No cell of these rows narrows 'for every input' (looked for: loops, veiled, ifaces, maps, wideKeys, modest, calm, conditions, laid).
  DERIVED. THE GIVEN ROWS OF THIS SEAT. 8 by the template 'for every input the law returns true; each argument reads behind the call as it read before'; 0 by the template 'total and deterministic' (their statements: YtcaagjepiicleaaTotals.lean).
  GIVEN WITH THE SEED: the statements are not yours to turn. If you find one false, say at which input.
  Laid BY PROGRAM, IN A SANDBOX (cutbox-rows.mjs): the forced cells as the released guide's own fill.sh prints them over the translation 907ae7ade5f882ac… (all of the seat's roots in one cut). By AI agents, Wed Nov 11 2026. No macro, syntax, notation, axiom, sorry.
-/
import Derived.Test.YtcaagjepiicleaaChecked
import GoSem.Claim
import GoSem.ClaimJoined
import GoSem.ClaimMapViews
import Derived.JoinedTies
import Derived.KernelRfl
namespace Go.Proofs.Ytcaagjepiicleaa
/- THE CELL 'sum', in the pinned program and in every row, IS THE sha256 OF THE DUMP (.gsa) THAT YtcaagjepiicleaaProg.lean LOADS. Nothing in Lean hashes anything: it is a label: what it is worth is what the hold of that sum in a sandbox is worth. -/
noncomputable def Try.pinned : Pinned := { name := "ytcaagjepiicleaa", sum := "907ae7ade5f882ac48634afa9458dfb2c31c47637a5ca2fdb620739e9aa4f30d", checked := Try.checked }
namespace Rows
def none {H : Type} : Left H := { results := [], args := [] }

/-- 'laws.FnExactLogValid': WHATEVER THE INPUT: true; the input reads as it did. -/
def fnExactLogValidSpec : ChangeSpec := { name := "fnExactLogValid", fn := fun _ => fun
  | [d] => { results := [.lit (.bool true)], args := [d] }
  | _ => none }
def fnExactLogValidRow : OpenClaim := { program := "ytcaagjepiicleaa", sum := "907ae7ade5f882ac48634afa9458dfb2c31c47637a5ca2fdb620739e9aa4f30d", func := "loop.example/flashfiles/laws.FnExactLogValid", spec := "fnExactLogValid", apart := false }
def FnExactLogValidSaid : Prop := fnExactLogValidRow.holds Try.pinned (OpenSpec.ofChange fnExactLogValidSpec)

/-- ITS FALSE NEIGHBOUR: 'it returns false'. Refute it at one input. -/
def fnExactLogValidWrong : ChangeSpec := { name := "fnExactLogValid", fn := fun _ => fun
  | [d] => { results := [.lit (.bool false)], args := [d] }
  | _ => none }
def FnExactLogValidWrongFalsely : Prop := fnExactLogValidRow.holds Try.pinned (OpenSpec.ofChange fnExactLogValidWrong)

/-- 'laws.FnExactEpochOf': WHATEVER THE INPUT: true; the input reads as it did. -/
def fnExactEpochOfSpec : ChangeSpec := { name := "fnExactEpochOf", fn := fun _ => fun
  | [d1, d2] => { results := [.lit (.bool true)], args := [d1, d2] }
  | _ => none }
def fnExactEpochOfRow : OpenClaim := { program := "ytcaagjepiicleaa", sum := "907ae7ade5f882ac48634afa9458dfb2c31c47637a5ca2fdb620739e9aa4f30d", func := "loop.example/flashfiles/laws.FnExactEpochOf", spec := "fnExactEpochOf", apart := false }
def FnExactEpochOfSaid : Prop := fnExactEpochOfRow.holds Try.pinned (OpenSpec.ofChange fnExactEpochOfSpec)

/-- ITS FALSE NEIGHBOUR: 'it returns false'. Refute it at one input. -/
def fnExactEpochOfWrong : ChangeSpec := { name := "fnExactEpochOf", fn := fun _ => fun
  | [d1, d2] => { results := [.lit (.bool false)], args := [d1, d2] }
  | _ => none }
def FnExactEpochOfWrongFalsely : Prop := fnExactEpochOfRow.holds Try.pinned (OpenSpec.ofChange fnExactEpochOfWrong)

/-- 'laws.FnLogValid': WHATEVER THE INPUT: true; the input reads as it did. -/
def fnLogValidSpec : ChangeSpec := { name := "fnLogValid", fn := fun _ => fun
  | [d] => { results := [.lit (.bool true)], args := [d] }
  | _ => none }
def fnLogValidRow : OpenClaim := { program := "ytcaagjepiicleaa", sum := "907ae7ade5f882ac48634afa9458dfb2c31c47637a5ca2fdb620739e9aa4f30d", func := "loop.example/flashfiles/laws.FnLogValid", spec := "fnLogValid", apart := false }
def FnLogValidSaid : Prop := fnLogValidRow.holds Try.pinned (OpenSpec.ofChange fnLogValidSpec)

/-- ITS FALSE NEIGHBOUR: 'it returns false'. Refute it at one input. -/
def fnLogValidWrong : ChangeSpec := { name := "fnLogValid", fn := fun _ => fun
  | [d] => { results := [.lit (.bool false)], args := [d] }
  | _ => none }
def FnLogValidWrongFalsely : Prop := fnLogValidRow.holds Try.pinned (OpenSpec.ofChange fnLogValidWrong)

/-- 'laws.FnEpochOf': WHATEVER THE INPUT: true; the input reads as it did. -/
def fnEpochOfSpec : ChangeSpec := { name := "fnEpochOf", fn := fun _ => fun
  | [d] => { results := [.lit (.bool true)], args := [d] }
  | _ => none }
def fnEpochOfRow : OpenClaim := { program := "ytcaagjepiicleaa", sum := "907ae7ade5f882ac48634afa9458dfb2c31c47637a5ca2fdb620739e9aa4f30d", func := "loop.example/flashfiles/laws.FnEpochOf", spec := "fnEpochOf", apart := false }
def FnEpochOfSaid : Prop := fnEpochOfRow.holds Try.pinned (OpenSpec.ofChange fnEpochOfSpec)

/-- ITS FALSE NEIGHBOUR: 'it returns false'. Refute it at one input. -/
def fnEpochOfWrong : ChangeSpec := { name := "fnEpochOf", fn := fun _ => fun
  | [d] => { results := [.lit (.bool false)], args := [d] }
  | _ => none }
def FnEpochOfWrongFalsely : Prop := fnEpochOfRow.holds Try.pinned (OpenSpec.ofChange fnEpochOfWrong)

/-- 'laws.FnExactOrderRight': WHATEVER THE INPUT: true; the input reads as it did. -/
def fnExactOrderRightSpec : ChangeSpec := { name := "fnExactOrderRight", fn := fun _ => fun
  | [d1, d2] => { results := [.lit (.bool true)], args := [d1, d2] }
  | _ => none }
def fnExactOrderRightRow : OpenClaim := { program := "ytcaagjepiicleaa", sum := "907ae7ade5f882ac48634afa9458dfb2c31c47637a5ca2fdb620739e9aa4f30d", func := "loop.example/flashfiles/laws.FnExactOrderRight", spec := "fnExactOrderRight", apart := false }
def FnExactOrderRightSaid : Prop := fnExactOrderRightRow.holds Try.pinned (OpenSpec.ofChange fnExactOrderRightSpec)

/-- ITS FALSE NEIGHBOUR: 'it returns false'. Refute it at one input. -/
def fnExactOrderRightWrong : ChangeSpec := { name := "fnExactOrderRight", fn := fun _ => fun
  | [d1, d2] => { results := [.lit (.bool false)], args := [d1, d2] }
  | _ => none }
def FnExactOrderRightWrongFalsely : Prop := fnExactOrderRightRow.holds Try.pinned (OpenSpec.ofChange fnExactOrderRightWrong)

/-- 'laws.FnExactCutRight': WHATEVER THE INPUT: true; the input reads as it did. -/
def fnExactCutRightSpec : ChangeSpec := { name := "fnExactCutRight", fn := fun _ => fun
  | [d1, d2] => { results := [.lit (.bool true)], args := [d1, d2] }
  | _ => none }
def fnExactCutRightRow : OpenClaim := { program := "ytcaagjepiicleaa", sum := "907ae7ade5f882ac48634afa9458dfb2c31c47637a5ca2fdb620739e9aa4f30d", func := "loop.example/flashfiles/laws.FnExactCutRight", spec := "fnExactCutRight", apart := false }
def FnExactCutRightSaid : Prop := fnExactCutRightRow.holds Try.pinned (OpenSpec.ofChange fnExactCutRightSpec)

/-- ITS FALSE NEIGHBOUR: 'it returns false'. Refute it at one input. -/
def fnExactCutRightWrong : ChangeSpec := { name := "fnExactCutRight", fn := fun _ => fun
  | [d1, d2] => { results := [.lit (.bool false)], args := [d1, d2] }
  | _ => none }
def FnExactCutRightWrongFalsely : Prop := fnExactCutRightRow.holds Try.pinned (OpenSpec.ofChange fnExactCutRightWrong)

/-- 'laws.FnCutRight': WHATEVER THE INPUT: true; the input reads as it did. -/
def fnCutRightSpec : ChangeSpec := { name := "fnCutRight", fn := fun _ => fun
  | [d] => { results := [.lit (.bool true)], args := [d] }
  | _ => none }
def fnCutRightRow : OpenClaim := { program := "ytcaagjepiicleaa", sum := "907ae7ade5f882ac48634afa9458dfb2c31c47637a5ca2fdb620739e9aa4f30d", func := "loop.example/flashfiles/laws.FnCutRight", spec := "fnCutRight", apart := false }
def FnCutRightSaid : Prop := fnCutRightRow.holds Try.pinned (OpenSpec.ofChange fnCutRightSpec)

/-- ITS FALSE NEIGHBOUR: 'it returns false'. Refute it at one input. -/
def fnCutRightWrong : ChangeSpec := { name := "fnCutRight", fn := fun _ => fun
  | [d] => { results := [.lit (.bool false)], args := [d] }
  | _ => none }
def FnCutRightWrongFalsely : Prop := fnCutRightRow.holds Try.pinned (OpenSpec.ofChange fnCutRightWrong)

/-- 'laws.FnOrderRight': WHATEVER THE INPUT: true; the input reads as it did. -/
def fnOrderRightSpec : ChangeSpec := { name := "fnOrderRight", fn := fun _ => fun
  | [d] => { results := [.lit (.bool true)], args := [d] }
  | _ => none }
def fnOrderRightRow : OpenClaim := { program := "ytcaagjepiicleaa", sum := "907ae7ade5f882ac48634afa9458dfb2c31c47637a5ca2fdb620739e9aa4f30d", func := "loop.example/flashfiles/laws.FnOrderRight", spec := "fnOrderRight", apart := false }
def FnOrderRightSaid : Prop := fnOrderRightRow.holds Try.pinned (OpenSpec.ofChange fnOrderRightSpec)

/-- ITS FALSE NEIGHBOUR: 'it returns false'. Refute it at one input. -/
def fnOrderRightWrong : ChangeSpec := { name := "fnOrderRight", fn := fun _ => fun
  | [d] => { results := [.lit (.bool false)], args := [d] }
  | _ => none }
def FnOrderRightWrongFalsely : Prop := fnOrderRightRow.holds Try.pinned (OpenSpec.ofChange fnOrderRightWrong)

/- THE SECOND FORM. 'bulk': how many values and letters a reading holds, each counted each time it is reached (what is shared counts as often as it is met; a slice's spare places count too). A statement '..UptoSaid' is the law's where the arguments, and the package variables that the reading takes, are together of bulk at most 1048576: NARROWER than '..Said'. Prove '..Said' where nothing that the law and all that it calls make is longer than what came in: it says more and counts as full. Else prove '..UptoSaid'. A law counts once. -/
mutual
def uptoBulk {H : Type} : DataW H → Nat
  | .lit (.string bytes) => bytes.length + 1
  | .lit _ => 1
  | .nil => 1
  | .ptr d => uptoBulk d + 1
  | .slice elems spare => uptoBulkAll elems + uptoBulkAll spare + 1
  | .agg parts => uptoBulkAll parts + 1
  | .iface _ d => uptoBulk d + 1
  | .map entries => uptoBulkEntries entries + 1
  | .held _ => 1
def uptoBulkAll {H : Type} : List (DataW H) → Nat
  | [] => 0
  | d :: r => uptoBulk d + uptoBulkAll r
def uptoBulkEntries {H : Type} : List (Lit × DataW H) → Nat
  | [] => 0
  | x :: r => uptoBulkEntry x + uptoBulkEntries r
def uptoBulkEntry {H : Type} : Lit × DataW H → Nat
  | (.string bytes, d) => bytes.length + uptoBulk d + 1
  | (_, d) => uptoBulk d + 1
 end
def uptoSmall : (H : Type) → List (DataW H) → Bool := fun _ ds => decide (uptoBulkAll ds ≤ 1048576)
def OpenSpec.upto (s : _root_.Go.ChangeSpec) : _root_.Go.OpenSpec := { _root_.Go.OpenSpec.ofChange s with cond := some uptoSmall }

/-- 'laws.FnExactLogValid', WHERE WHAT IT READS IS OF BULK AT MOST 1048576: true; the input reads as it did. -/
def fnExactLogValidUptoRow : OpenClaim := { program := "ytcaagjepiicleaa", sum := "907ae7ade5f882ac48634afa9458dfb2c31c47637a5ca2fdb620739e9aa4f30d", func := "loop.example/flashfiles/laws.FnExactLogValid", spec := "fnExactLogValid", apart := false, narrowed := true }
def FnExactLogValidUptoSaid : Prop := fnExactLogValidUptoRow.holds Try.pinned (OpenSpec.upto fnExactLogValidSpec)

/-- 'laws.FnExactEpochOf', WHERE WHAT IT READS IS OF BULK AT MOST 1048576: true; the input reads as it did. -/
def fnExactEpochOfUptoRow : OpenClaim := { program := "ytcaagjepiicleaa", sum := "907ae7ade5f882ac48634afa9458dfb2c31c47637a5ca2fdb620739e9aa4f30d", func := "loop.example/flashfiles/laws.FnExactEpochOf", spec := "fnExactEpochOf", apart := false, narrowed := true }
def FnExactEpochOfUptoSaid : Prop := fnExactEpochOfUptoRow.holds Try.pinned (OpenSpec.upto fnExactEpochOfSpec)

/-- 'laws.FnLogValid', WHERE WHAT IT READS IS OF BULK AT MOST 1048576: true; the input reads as it did. -/
def fnLogValidUptoRow : OpenClaim := { program := "ytcaagjepiicleaa", sum := "907ae7ade5f882ac48634afa9458dfb2c31c47637a5ca2fdb620739e9aa4f30d", func := "loop.example/flashfiles/laws.FnLogValid", spec := "fnLogValid", apart := false, narrowed := true }
def FnLogValidUptoSaid : Prop := fnLogValidUptoRow.holds Try.pinned (OpenSpec.upto fnLogValidSpec)

/-- 'laws.FnEpochOf', WHERE WHAT IT READS IS OF BULK AT MOST 1048576: true; the input reads as it did. -/
def fnEpochOfUptoRow : OpenClaim := { program := "ytcaagjepiicleaa", sum := "907ae7ade5f882ac48634afa9458dfb2c31c47637a5ca2fdb620739e9aa4f30d", func := "loop.example/flashfiles/laws.FnEpochOf", spec := "fnEpochOf", apart := false, narrowed := true }
def FnEpochOfUptoSaid : Prop := fnEpochOfUptoRow.holds Try.pinned (OpenSpec.upto fnEpochOfSpec)

/-- 'laws.FnExactOrderRight', WHERE WHAT IT READS IS OF BULK AT MOST 1048576: true; the input reads as it did. -/
def fnExactOrderRightUptoRow : OpenClaim := { program := "ytcaagjepiicleaa", sum := "907ae7ade5f882ac48634afa9458dfb2c31c47637a5ca2fdb620739e9aa4f30d", func := "loop.example/flashfiles/laws.FnExactOrderRight", spec := "fnExactOrderRight", apart := false, narrowed := true }
def FnExactOrderRightUptoSaid : Prop := fnExactOrderRightUptoRow.holds Try.pinned (OpenSpec.upto fnExactOrderRightSpec)

/-- 'laws.FnExactCutRight', WHERE WHAT IT READS IS OF BULK AT MOST 1048576: true; the input reads as it did. -/
def fnExactCutRightUptoRow : OpenClaim := { program := "ytcaagjepiicleaa", sum := "907ae7ade5f882ac48634afa9458dfb2c31c47637a5ca2fdb620739e9aa4f30d", func := "loop.example/flashfiles/laws.FnExactCutRight", spec := "fnExactCutRight", apart := false, narrowed := true }
def FnExactCutRightUptoSaid : Prop := fnExactCutRightUptoRow.holds Try.pinned (OpenSpec.upto fnExactCutRightSpec)

/-- 'laws.FnCutRight', WHERE WHAT IT READS IS OF BULK AT MOST 1048576: true; the input reads as it did. -/
def fnCutRightUptoRow : OpenClaim := { program := "ytcaagjepiicleaa", sum := "907ae7ade5f882ac48634afa9458dfb2c31c47637a5ca2fdb620739e9aa4f30d", func := "loop.example/flashfiles/laws.FnCutRight", spec := "fnCutRight", apart := false, narrowed := true }
def FnCutRightUptoSaid : Prop := fnCutRightUptoRow.holds Try.pinned (OpenSpec.upto fnCutRightSpec)

/-- 'laws.FnOrderRight', WHERE WHAT IT READS IS OF BULK AT MOST 1048576: true; the input reads as it did. -/
def fnOrderRightUptoRow : OpenClaim := { program := "ytcaagjepiicleaa", sum := "907ae7ade5f882ac48634afa9458dfb2c31c47637a5ca2fdb620739e9aa4f30d", func := "loop.example/flashfiles/laws.FnOrderRight", spec := "fnOrderRight", apart := false, narrowed := true }
def FnOrderRightUptoSaid : Prop := fnOrderRightUptoRow.holds Try.pinned (OpenSpec.upto fnOrderRightSpec)

end Rows
end Go.Proofs.Ytcaagjepiicleaa
