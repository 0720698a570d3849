/-
  No cell of these rows narrows 'for every input' (looked for: loops, veiled, ifaces, maps, wideKeys, modest, calm, conditions, laid).
  DERIVED. THE GIVEN ROWS OF THIS SEAT. 4 by the template 'for every input the law returns true; each argument reads behind the call as it read before'; 0 by the template 'total and deterministic' (their statements: YtiojgofkilojmaaTotals.lean).
  GIVEN WITH THE SEED: the statements are not yours to turn. If you find one false, say at which input.
  Laid BY PROGRAM, IN A SANDBOX (cutbox-rows.mjs): the forced cells as the released guide's own fill.sh prints them over the translation 131ff47306e6a985… (all of the seat's roots in one cut). By AI agents, Wed Nov 11 2026. No macro, syntax, notation, axiom, sorry.
-/
import Derived.Test.YtiojgofkilojmaaChecked
import GoSem.Claim
import GoSem.ClaimJoined
import GoSem.ClaimMapViews
import Derived.JoinedTies
import Derived.KernelRfl
namespace Go.Proofs.Ytiojgofkilojmaa
/- THE CELL 'sum', in the pinned program and in every row, IS THE sha256 OF THE DUMP (.gsa) THAT YtiojgofkilojmaaProg.lean LOADS. Nothing in Lean hashes anything: it is a label: what it is worth is what the hold of that sum in a sandbox is worth. -/
noncomputable def Try.pinned : Pinned := { name := "ytiojgofkilojmaa", sum := "131ff47306e6a98598617ba7d3daa07a121abeb31a812f72e9455a866d2e53fc", checked := Try.checked }
namespace Rows
def none {H : Type} : Left H := { results := [], args := [] }

/-- 'laws.FnExactShareRun': WHATEVER THE INPUT: true; the input reads as it did. -/
def fnExactShareRunSpec : ChangeSpec := { name := "fnExactShareRun", fn := fun _ => fun
  | [d1, d2] => { results := [.lit (.bool true)], args := [d1, d2] }
  | _ => none }
def fnExactShareRunRow : OpenClaim := { program := "ytiojgofkilojmaa", sum := "131ff47306e6a98598617ba7d3daa07a121abeb31a812f72e9455a866d2e53fc", func := "loop.example/flashfiles/laws.FnExactShareRun", spec := "fnExactShareRun", apart := false }
def FnExactShareRunSaid : Prop := fnExactShareRunRow.holds Try.pinned (OpenSpec.ofChange fnExactShareRunSpec)

/-- ITS FALSE NEIGHBOUR: 'it returns false'. Refute it at one input. -/
def fnExactShareRunWrong : ChangeSpec := { name := "fnExactShareRun", fn := fun _ => fun
  | [d1, d2] => { results := [.lit (.bool false)], args := [d1, d2] }
  | _ => none }
def FnExactShareRunWrongFalsely : Prop := fnExactShareRunRow.holds Try.pinned (OpenSpec.ofChange fnExactShareRunWrong)

/-- 'laws.FnShareRun': WHATEVER THE INPUT: true; the input reads as it did. -/
def fnShareRunSpec : ChangeSpec := { name := "fnShareRun", fn := fun _ => fun
  | [d] => { results := [.lit (.bool true)], args := [d] }
  | _ => none }
def fnShareRunRow : OpenClaim := { program := "ytiojgofkilojmaa", sum := "131ff47306e6a98598617ba7d3daa07a121abeb31a812f72e9455a866d2e53fc", func := "loop.example/flashfiles/laws.FnShareRun", spec := "fnShareRun", apart := false }
def FnShareRunSaid : Prop := fnShareRunRow.holds Try.pinned (OpenSpec.ofChange fnShareRunSpec)

/-- ITS FALSE NEIGHBOUR: 'it returns false'. Refute it at one input. -/
def fnShareRunWrong : ChangeSpec := { name := "fnShareRun", fn := fun _ => fun
  | [d] => { results := [.lit (.bool false)], args := [d] }
  | _ => none }
def FnShareRunWrongFalsely : Prop := fnShareRunRow.holds Try.pinned (OpenSpec.ofChange fnShareRunWrong)

/-- 'laws.FnExactCleanPaid': WHATEVER THE INPUT: true; the input reads as it did. -/
def fnExactCleanPaidSpec : ChangeSpec := { name := "fnExactCleanPaid", fn := fun _ => fun
  | [d1, d2] => { results := [.lit (.bool true)], args := [d1, d2] }
  | _ => none }
def fnExactCleanPaidRow : OpenClaim := { program := "ytiojgofkilojmaa", sum := "131ff47306e6a98598617ba7d3daa07a121abeb31a812f72e9455a866d2e53fc", func := "loop.example/flashfiles/laws.FnExactCleanPaid", spec := "fnExactCleanPaid", unfollowed := true, recurses := true, apart := false }
def FnExactCleanPaidSaid : Prop := fnExactCleanPaidRow.holds Try.pinned (OpenSpec.ofChange fnExactCleanPaidSpec)

/-- ITS FALSE NEIGHBOUR: 'it returns false'. Refute it at one input. -/
def fnExactCleanPaidWrong : ChangeSpec := { name := "fnExactCleanPaid", fn := fun _ => fun
  | [d1, d2] => { results := [.lit (.bool false)], args := [d1, d2] }
  | _ => none }
def FnExactCleanPaidWrongFalsely : Prop := fnExactCleanPaidRow.holds Try.pinned (OpenSpec.ofChange fnExactCleanPaidWrong)

/-- 'laws.FnCleanPaid': WHATEVER THE INPUT: true; the input reads as it did. -/
def fnCleanPaidSpec : ChangeSpec := { name := "fnCleanPaid", fn := fun _ => fun
  | [d] => { results := [.lit (.bool true)], args := [d] }
  | _ => none }
def fnCleanPaidRow : OpenClaim := { program := "ytiojgofkilojmaa", sum := "131ff47306e6a98598617ba7d3daa07a121abeb31a812f72e9455a866d2e53fc", func := "loop.example/flashfiles/laws.FnCleanPaid", spec := "fnCleanPaid", unfollowed := true, recurses := true, apart := false }
def FnCleanPaidSaid : Prop := fnCleanPaidRow.holds Try.pinned (OpenSpec.ofChange fnCleanPaidSpec)

/-- ITS FALSE NEIGHBOUR: 'it returns false'. Refute it at one input. -/
def fnCleanPaidWrong : ChangeSpec := { name := "fnCleanPaid", fn := fun _ => fun
  | [d] => { results := [.lit (.bool false)], args := [d] }
  | _ => none }
def FnCleanPaidWrongFalsely : Prop := fnCleanPaidRow.holds Try.pinned (OpenSpec.ofChange fnCleanPaidWrong)

/- THE SECOND FORM. 'bulk': how many values and letters a reading holds, each counted each time it is reached (what is shared counts as often as it is met; a slice's spare places count too). A statement '..UptoSaid' is the law's where the arguments, and the package variables that the reading takes, are together of bulk at most 1048576: NARROWER than '..Said'. Prove '..Said' where nothing that the law and all that it calls make is longer than what came in: it says more and counts as full. Else prove '..UptoSaid'. A law counts once. -/
mutual
def uptoBulk {H : Type} : DataW H → Nat
  | .lit (.string bytes) => bytes.length + 1
  | .lit _ => 1
  | .nil => 1
  | .ptr d => uptoBulk d + 1
  | .slice elems spare => uptoBulkAll elems + uptoBulkAll spare + 1
  | .agg parts => uptoBulkAll parts + 1
  | .iface _ d => uptoBulk d + 1
  | .map entries => uptoBulkEntries entries + 1
  | .held _ => 1
def uptoBulkAll {H : Type} : List (DataW H) → Nat
  | [] => 0
  | d :: r => uptoBulk d + uptoBulkAll r
def uptoBulkEntries {H : Type} : List (Lit × DataW H) → Nat
  | [] => 0
  | x :: r => uptoBulkEntry x + uptoBulkEntries r
def uptoBulkEntry {H : Type} : Lit × DataW H → Nat
  | (.string bytes, d) => bytes.length + uptoBulk d + 1
  | (_, d) => uptoBulk d + 1
 end
def uptoSmall : (H : Type) → List (DataW H) → Bool := fun _ ds => decide (uptoBulkAll ds ≤ 1048576)
def OpenSpec.upto (s : _root_.Go.ChangeSpec) : _root_.Go.OpenSpec := { _root_.Go.OpenSpec.ofChange s with cond := some uptoSmall }

/-- 'laws.FnExactShareRun', WHERE WHAT IT READS IS OF BULK AT MOST 1048576: true; the input reads as it did. -/
def fnExactShareRunUptoRow : OpenClaim := { program := "ytiojgofkilojmaa", sum := "131ff47306e6a98598617ba7d3daa07a121abeb31a812f72e9455a866d2e53fc", func := "loop.example/flashfiles/laws.FnExactShareRun", spec := "fnExactShareRun", apart := false, narrowed := true }
def FnExactShareRunUptoSaid : Prop := fnExactShareRunUptoRow.holds Try.pinned (OpenSpec.upto fnExactShareRunSpec)

/-- 'laws.FnShareRun', WHERE WHAT IT READS IS OF BULK AT MOST 1048576: true; the input reads as it did. -/
def fnShareRunUptoRow : OpenClaim := { program := "ytiojgofkilojmaa", sum := "131ff47306e6a98598617ba7d3daa07a121abeb31a812f72e9455a866d2e53fc", func := "loop.example/flashfiles/laws.FnShareRun", spec := "fnShareRun", apart := false, narrowed := true }
def FnShareRunUptoSaid : Prop := fnShareRunUptoRow.holds Try.pinned (OpenSpec.upto fnShareRunSpec)

/-- 'laws.FnExactCleanPaid', WHERE WHAT IT READS IS OF BULK AT MOST 1048576: true; the input reads as it did. -/
def fnExactCleanPaidUptoRow : OpenClaim := { program := "ytiojgofkilojmaa", sum := "131ff47306e6a98598617ba7d3daa07a121abeb31a812f72e9455a866d2e53fc", func := "loop.example/flashfiles/laws.FnExactCleanPaid", spec := "fnExactCleanPaid", unfollowed := true, recurses := true, apart := false, narrowed := true }
def FnExactCleanPaidUptoSaid : Prop := fnExactCleanPaidUptoRow.holds Try.pinned (OpenSpec.upto fnExactCleanPaidSpec)

/-- 'laws.FnCleanPaid', WHERE WHAT IT READS IS OF BULK AT MOST 1048576: true; the input reads as it did. -/
def fnCleanPaidUptoRow : OpenClaim := { program := "ytiojgofkilojmaa", sum := "131ff47306e6a98598617ba7d3daa07a121abeb31a812f72e9455a866d2e53fc", func := "loop.example/flashfiles/laws.FnCleanPaid", spec := "fnCleanPaid", unfollowed := true, recurses := true, apart := false, narrowed := true }
def FnCleanPaidUptoSaid : Prop := fnCleanPaidUptoRow.holds Try.pinned (OpenSpec.upto fnCleanPaidSpec)

end Rows
end Go.Proofs.Ytiojgofkilojmaa
