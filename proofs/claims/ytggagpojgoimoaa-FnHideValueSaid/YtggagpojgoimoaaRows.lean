/-
  No cell of these rows narrows 'for every input' (looked for: loops, veiled, ifaces, maps, wideKeys, modest, calm, conditions, laid).
  DERIVED. THE GIVEN ROWS OF THIS SEAT. 12 by the template 'for every input the law returns true; each argument reads behind the call as it read before'; 0 by the template 'total and deterministic' (their statements: YtggagpojgoimoaaTotals.lean).
  GIVEN WITH THE SEED: the statements are not yours to turn. If you find one false, say at which input.
  Laid BY PROGRAM, IN A SANDBOX (cutbox-rows.mjs): the forced cells as the released guide's own fill.sh prints them over the translation 3acabac9a9bbff9c… (all of the seat's roots in one cut). By AI agents, Wed Nov 11 2026. No macro, syntax, notation, axiom, sorry.
-/
import Derived.Test.YtggagpojgoimoaaChecked
import GoSem.Claim
import GoSem.ClaimJoined
import GoSem.ClaimMapViews
import Derived.JoinedTies
import Derived.KernelRfl
namespace Go.Proofs.Ytggagpojgoimoaa
/- THE CELL 'sum', in the pinned program and in every row, IS THE sha256 OF THE DUMP (.gsa) THAT YtggagpojgoimoaaProg.lean LOADS. Nothing in Lean hashes anything: it is a label: what it is worth is what the hold of that sum in a sandbox is worth. -/
noncomputable def Try.pinned : Pinned := { name := "ytggagpojgoimoaa", sum := "3acabac9a9bbff9c45ca4976725e086b9005d3db87298cd98bccbb2fb816df42", checked := Try.checked }
namespace Rows
def none {H : Type} : Left H := { results := [], args := [] }

/-- 'laws.FnExactCleanPrice': WHATEVER THE INPUT: true; the input reads as it did. -/
def fnExactCleanPriceSpec : ChangeSpec := { name := "fnExactCleanPrice", fn := fun _ => fun
  | [d] => { results := [.lit (.bool true)], args := [d] }
  | _ => none }
def fnExactCleanPriceRow : OpenClaim := { program := "ytggagpojgoimoaa", sum := "3acabac9a9bbff9c45ca4976725e086b9005d3db87298cd98bccbb2fb816df42", func := "loop.example/flashfiles/laws.FnExactCleanPrice", spec := "fnExactCleanPrice", apart := false }
def FnExactCleanPriceSaid : Prop := fnExactCleanPriceRow.holds Try.pinned (OpenSpec.ofChange fnExactCleanPriceSpec)

/-- ITS FALSE NEIGHBOUR: 'it returns false'. Refute it at one input. -/
def fnExactCleanPriceWrong : ChangeSpec := { name := "fnExactCleanPrice", fn := fun _ => fun
  | [d] => { results := [.lit (.bool false)], args := [d] }
  | _ => none }
def FnExactCleanPriceWrongFalsely : Prop := fnExactCleanPriceRow.holds Try.pinned (OpenSpec.ofChange fnExactCleanPriceWrong)

/-- 'laws.FnExactHideStream': WHATEVER THE INPUT: true; the input reads as it did. -/
def fnExactHideStreamSpec : ChangeSpec := { name := "fnExactHideStream", fn := fun _ => fun
  | [d1, d2] => { results := [.lit (.bool true)], args := [d1, d2] }
  | _ => none }
def fnExactHideStreamRow : OpenClaim := { program := "ytggagpojgoimoaa", sum := "3acabac9a9bbff9c45ca4976725e086b9005d3db87298cd98bccbb2fb816df42", func := "loop.example/flashfiles/laws.FnExactHideStream", spec := "fnExactHideStream", apart := false }
def FnExactHideStreamSaid : Prop := fnExactHideStreamRow.holds Try.pinned (OpenSpec.ofChange fnExactHideStreamSpec)

/-- ITS FALSE NEIGHBOUR: 'it returns false'. Refute it at one input. -/
def fnExactHideStreamWrong : ChangeSpec := { name := "fnExactHideStream", fn := fun _ => fun
  | [d1, d2] => { results := [.lit (.bool false)], args := [d1, d2] }
  | _ => none }
def FnExactHideStreamWrongFalsely : Prop := fnExactHideStreamRow.holds Try.pinned (OpenSpec.ofChange fnExactHideStreamWrong)

/-- 'laws.FnExactWriteShare': WHATEVER THE INPUT: true; the input reads as it did. -/
def fnExactWriteShareSpec : ChangeSpec := { name := "fnExactWriteShare", fn := fun _ => fun
  | [d1, d2] => { results := [.lit (.bool true)], args := [d1, d2] }
  | _ => none }
def fnExactWriteShareRow : OpenClaim := { program := "ytggagpojgoimoaa", sum := "3acabac9a9bbff9c45ca4976725e086b9005d3db87298cd98bccbb2fb816df42", func := "loop.example/flashfiles/laws.FnExactWriteShare", spec := "fnExactWriteShare", apart := false }
def FnExactWriteShareSaid : Prop := fnExactWriteShareRow.holds Try.pinned (OpenSpec.ofChange fnExactWriteShareSpec)

/-- ITS FALSE NEIGHBOUR: 'it returns false'. Refute it at one input. -/
def fnExactWriteShareWrong : ChangeSpec := { name := "fnExactWriteShare", fn := fun _ => fun
  | [d1, d2] => { results := [.lit (.bool false)], args := [d1, d2] }
  | _ => none }
def FnExactWriteShareWrongFalsely : Prop := fnExactWriteShareRow.holds Try.pinned (OpenSpec.ofChange fnExactWriteShareWrong)

/-- 'laws.FnExactCreditStep': WHATEVER THE INPUT: true; the input reads as it did. -/
def fnExactCreditStepSpec : ChangeSpec := { name := "fnExactCreditStep", fn := fun _ => fun
  | [d1, d2, d3] => { results := [.lit (.bool true)], args := [d1, d2, d3] }
  | _ => none }
def fnExactCreditStepRow : OpenClaim := { program := "ytggagpojgoimoaa", sum := "3acabac9a9bbff9c45ca4976725e086b9005d3db87298cd98bccbb2fb816df42", func := "loop.example/flashfiles/laws.FnExactCreditStep", spec := "fnExactCreditStep", apart := false }
def FnExactCreditStepSaid : Prop := fnExactCreditStepRow.holds Try.pinned (OpenSpec.ofChange fnExactCreditStepSpec)

/-- ITS FALSE NEIGHBOUR: 'it returns false'. Refute it at one input. -/
def fnExactCreditStepWrong : ChangeSpec := { name := "fnExactCreditStep", fn := fun _ => fun
  | [d1, d2, d3] => { results := [.lit (.bool false)], args := [d1, d2, d3] }
  | _ => none }
def FnExactCreditStepWrongFalsely : Prop := fnExactCreditStepRow.holds Try.pinned (OpenSpec.ofChange fnExactCreditStepWrong)

/-- 'laws.FnExactHideValue': WHATEVER THE INPUT: true; the input reads as it did. -/
def fnExactHideValueSpec : ChangeSpec := { name := "fnExactHideValue", fn := fun _ => fun
  | [d1, d2, d3] => { results := [.lit (.bool true)], args := [d1, d2, d3] }
  | _ => none }
def fnExactHideValueRow : OpenClaim := { program := "ytggagpojgoimoaa", sum := "3acabac9a9bbff9c45ca4976725e086b9005d3db87298cd98bccbb2fb816df42", func := "loop.example/flashfiles/laws.FnExactHideValue", spec := "fnExactHideValue", apart := false }
def FnExactHideValueSaid : Prop := fnExactHideValueRow.holds Try.pinned (OpenSpec.ofChange fnExactHideValueSpec)

/-- ITS FALSE NEIGHBOUR: 'it returns false'. Refute it at one input. -/
def fnExactHideValueWrong : ChangeSpec := { name := "fnExactHideValue", fn := fun _ => fun
  | [d1, d2, d3] => { results := [.lit (.bool false)], args := [d1, d2, d3] }
  | _ => none }
def FnExactHideValueWrongFalsely : Prop := fnExactHideValueRow.holds Try.pinned (OpenSpec.ofChange fnExactHideValueWrong)

/-- 'laws.FnExactShowValue': WHATEVER THE INPUT: true; the input reads as it did. -/
def fnExactShowValueSpec : ChangeSpec := { name := "fnExactShowValue", fn := fun _ => fun
  | [d1, d2, d3] => { results := [.lit (.bool true)], args := [d1, d2, d3] }
  | _ => none }
def fnExactShowValueRow : OpenClaim := { program := "ytggagpojgoimoaa", sum := "3acabac9a9bbff9c45ca4976725e086b9005d3db87298cd98bccbb2fb816df42", func := "loop.example/flashfiles/laws.FnExactShowValue", spec := "fnExactShowValue", apart := false }
def FnExactShowValueSaid : Prop := fnExactShowValueRow.holds Try.pinned (OpenSpec.ofChange fnExactShowValueSpec)

/-- ITS FALSE NEIGHBOUR: 'it returns false'. Refute it at one input. -/
def fnExactShowValueWrong : ChangeSpec := { name := "fnExactShowValue", fn := fun _ => fun
  | [d1, d2, d3] => { results := [.lit (.bool false)], args := [d1, d2, d3] }
  | _ => none }
def FnExactShowValueWrongFalsely : Prop := fnExactShowValueRow.holds Try.pinned (OpenSpec.ofChange fnExactShowValueWrong)

/-- 'laws.FnCleanPrice': WHATEVER THE INPUT: true; the input reads as it did. -/
def fnCleanPriceSpec : ChangeSpec := { name := "fnCleanPrice", fn := fun _ => fun
  | [d] => { results := [.lit (.bool true)], args := [d] }
  | _ => none }
def fnCleanPriceRow : OpenClaim := { program := "ytggagpojgoimoaa", sum := "3acabac9a9bbff9c45ca4976725e086b9005d3db87298cd98bccbb2fb816df42", func := "loop.example/flashfiles/laws.FnCleanPrice", spec := "fnCleanPrice", apart := false }
def FnCleanPriceSaid : Prop := fnCleanPriceRow.holds Try.pinned (OpenSpec.ofChange fnCleanPriceSpec)

/-- ITS FALSE NEIGHBOUR: 'it returns false'. Refute it at one input. -/
def fnCleanPriceWrong : ChangeSpec := { name := "fnCleanPrice", fn := fun _ => fun
  | [d] => { results := [.lit (.bool false)], args := [d] }
  | _ => none }
def FnCleanPriceWrongFalsely : Prop := fnCleanPriceRow.holds Try.pinned (OpenSpec.ofChange fnCleanPriceWrong)

/-- 'laws.FnHideStream': WHATEVER THE INPUT: true; the input reads as it did. -/
def fnHideStreamSpec : ChangeSpec := { name := "fnHideStream", fn := fun _ => fun
  | [d] => { results := [.lit (.bool true)], args := [d] }
  | _ => none }
def fnHideStreamRow : OpenClaim := { program := "ytggagpojgoimoaa", sum := "3acabac9a9bbff9c45ca4976725e086b9005d3db87298cd98bccbb2fb816df42", func := "loop.example/flashfiles/laws.FnHideStream", spec := "fnHideStream", apart := false }
def FnHideStreamSaid : Prop := fnHideStreamRow.holds Try.pinned (OpenSpec.ofChange fnHideStreamSpec)

/-- ITS FALSE NEIGHBOUR: 'it returns false'. Refute it at one input. -/
def fnHideStreamWrong : ChangeSpec := { name := "fnHideStream", fn := fun _ => fun
  | [d] => { results := [.lit (.bool false)], args := [d] }
  | _ => none }
def FnHideStreamWrongFalsely : Prop := fnHideStreamRow.holds Try.pinned (OpenSpec.ofChange fnHideStreamWrong)

/-- 'laws.FnWriteShare': WHATEVER THE INPUT: true; the input reads as it did. -/
def fnWriteShareSpec : ChangeSpec := { name := "fnWriteShare", fn := fun _ => fun
  | [d] => { results := [.lit (.bool true)], args := [d] }
  | _ => none }
def fnWriteShareRow : OpenClaim := { program := "ytggagpojgoimoaa", sum := "3acabac9a9bbff9c45ca4976725e086b9005d3db87298cd98bccbb2fb816df42", func := "loop.example/flashfiles/laws.FnWriteShare", spec := "fnWriteShare", apart := false }
def FnWriteShareSaid : Prop := fnWriteShareRow.holds Try.pinned (OpenSpec.ofChange fnWriteShareSpec)

/-- ITS FALSE NEIGHBOUR: 'it returns false'. Refute it at one input. -/
def fnWriteShareWrong : ChangeSpec := { name := "fnWriteShare", fn := fun _ => fun
  | [d] => { results := [.lit (.bool false)], args := [d] }
  | _ => none }
def FnWriteShareWrongFalsely : Prop := fnWriteShareRow.holds Try.pinned (OpenSpec.ofChange fnWriteShareWrong)

/-- 'laws.FnCreditStep': WHATEVER THE INPUT: true; the input reads as it did. -/
def fnCreditStepSpec : ChangeSpec := { name := "fnCreditStep", fn := fun _ => fun
  | [d] => { results := [.lit (.bool true)], args := [d] }
  | _ => none }
def fnCreditStepRow : OpenClaim := { program := "ytggagpojgoimoaa", sum := "3acabac9a9bbff9c45ca4976725e086b9005d3db87298cd98bccbb2fb816df42", func := "loop.example/flashfiles/laws.FnCreditStep", spec := "fnCreditStep", apart := false }
def FnCreditStepSaid : Prop := fnCreditStepRow.holds Try.pinned (OpenSpec.ofChange fnCreditStepSpec)

/-- ITS FALSE NEIGHBOUR: 'it returns false'. Refute it at one input. -/
def fnCreditStepWrong : ChangeSpec := { name := "fnCreditStep", fn := fun _ => fun
  | [d] => { results := [.lit (.bool false)], args := [d] }
  | _ => none }
def FnCreditStepWrongFalsely : Prop := fnCreditStepRow.holds Try.pinned (OpenSpec.ofChange fnCreditStepWrong)

/-- 'laws.FnHideValue': WHATEVER THE INPUT: true; the input reads as it did. -/
def fnHideValueSpec : ChangeSpec := { name := "fnHideValue", fn := fun _ => fun
  | [d] => { results := [.lit (.bool true)], args := [d] }
  | _ => none }
def fnHideValueRow : OpenClaim := { program := "ytggagpojgoimoaa", sum := "3acabac9a9bbff9c45ca4976725e086b9005d3db87298cd98bccbb2fb816df42", func := "loop.example/flashfiles/laws.FnHideValue", spec := "fnHideValue", apart := false }
def FnHideValueSaid : Prop := fnHideValueRow.holds Try.pinned (OpenSpec.ofChange fnHideValueSpec)

/-- ITS FALSE NEIGHBOUR: 'it returns false'. Refute it at one input. -/
def fnHideValueWrong : ChangeSpec := { name := "fnHideValue", fn := fun _ => fun
  | [d] => { results := [.lit (.bool false)], args := [d] }
  | _ => none }
def FnHideValueWrongFalsely : Prop := fnHideValueRow.holds Try.pinned (OpenSpec.ofChange fnHideValueWrong)

/-- 'laws.FnShowValue': WHATEVER THE INPUT: true; the input reads as it did. -/
def fnShowValueSpec : ChangeSpec := { name := "fnShowValue", fn := fun _ => fun
  | [d] => { results := [.lit (.bool true)], args := [d] }
  | _ => none }
def fnShowValueRow : OpenClaim := { program := "ytggagpojgoimoaa", sum := "3acabac9a9bbff9c45ca4976725e086b9005d3db87298cd98bccbb2fb816df42", func := "loop.example/flashfiles/laws.FnShowValue", spec := "fnShowValue", apart := false }
def FnShowValueSaid : Prop := fnShowValueRow.holds Try.pinned (OpenSpec.ofChange fnShowValueSpec)

/-- ITS FALSE NEIGHBOUR: 'it returns false'. Refute it at one input. -/
def fnShowValueWrong : ChangeSpec := { name := "fnShowValue", fn := fun _ => fun
  | [d] => { results := [.lit (.bool false)], args := [d] }
  | _ => none }
def FnShowValueWrongFalsely : Prop := fnShowValueRow.holds Try.pinned (OpenSpec.ofChange fnShowValueWrong)

/- THE SECOND FORM. 'bulk': how many values and letters a reading holds, each counted each time it is reached (what is shared counts as often as it is met; a slice's spare places count too). A statement '..UptoSaid' is the law's where the arguments, and the package variables that the reading takes, are together of bulk at most 1048576: NARROWER than '..Said'. Prove '..Said' where nothing that the law and all that it calls make is longer than what came in: it says more and counts as full. Else prove '..UptoSaid'. A law counts once. -/
mutual
def uptoBulk {H : Type} : DataW H → Nat
  | .lit (.string bytes) => bytes.length + 1
  | .lit _ => 1
  | .nil => 1
  | .ptr d => uptoBulk d + 1
  | .slice elems spare => uptoBulkAll elems + uptoBulkAll spare + 1
  | .agg parts => uptoBulkAll parts + 1
  | .iface _ d => uptoBulk d + 1
  | .map entries => uptoBulkEntries entries + 1
  | .held _ => 1
def uptoBulkAll {H : Type} : List (DataW H) → Nat
  | [] => 0
  | d :: r => uptoBulk d + uptoBulkAll r
def uptoBulkEntries {H : Type} : List (Lit × DataW H) → Nat
  | [] => 0
  | x :: r => uptoBulkEntry x + uptoBulkEntries r
def uptoBulkEntry {H : Type} : Lit × DataW H → Nat
  | (.string bytes, d) => bytes.length + uptoBulk d + 1
  | (_, d) => uptoBulk d + 1
 end
def uptoSmall : (H : Type) → List (DataW H) → Bool := fun _ ds => decide (uptoBulkAll ds ≤ 1048576)
def OpenSpec.upto (s : _root_.Go.ChangeSpec) : _root_.Go.OpenSpec := { _root_.Go.OpenSpec.ofChange s with cond := some uptoSmall }

/-- 'laws.FnExactCleanPrice', WHERE WHAT IT READS IS OF BULK AT MOST 1048576: true; the input reads as it did. -/
def fnExactCleanPriceUptoRow : OpenClaim := { program := "ytggagpojgoimoaa", sum := "3acabac9a9bbff9c45ca4976725e086b9005d3db87298cd98bccbb2fb816df42", func := "loop.example/flashfiles/laws.FnExactCleanPrice", spec := "fnExactCleanPrice", apart := false, narrowed := true }
def FnExactCleanPriceUptoSaid : Prop := fnExactCleanPriceUptoRow.holds Try.pinned (OpenSpec.upto fnExactCleanPriceSpec)

/-- 'laws.FnExactHideStream', WHERE WHAT IT READS IS OF BULK AT MOST 1048576: true; the input reads as it did. -/
def fnExactHideStreamUptoRow : OpenClaim := { program := "ytggagpojgoimoaa", sum := "3acabac9a9bbff9c45ca4976725e086b9005d3db87298cd98bccbb2fb816df42", func := "loop.example/flashfiles/laws.FnExactHideStream", spec := "fnExactHideStream", apart := false, narrowed := true }
def FnExactHideStreamUptoSaid : Prop := fnExactHideStreamUptoRow.holds Try.pinned (OpenSpec.upto fnExactHideStreamSpec)

/-- 'laws.FnExactWriteShare', WHERE WHAT IT READS IS OF BULK AT MOST 1048576: true; the input reads as it did. -/
def fnExactWriteShareUptoRow : OpenClaim := { program := "ytggagpojgoimoaa", sum := "3acabac9a9bbff9c45ca4976725e086b9005d3db87298cd98bccbb2fb816df42", func := "loop.example/flashfiles/laws.FnExactWriteShare", spec := "fnExactWriteShare", apart := false, narrowed := true }
def FnExactWriteShareUptoSaid : Prop := fnExactWriteShareUptoRow.holds Try.pinned (OpenSpec.upto fnExactWriteShareSpec)

/-- 'laws.FnExactCreditStep', WHERE WHAT IT READS IS OF BULK AT MOST 1048576: true; the input reads as it did. -/
def fnExactCreditStepUptoRow : OpenClaim := { program := "ytggagpojgoimoaa", sum := "3acabac9a9bbff9c45ca4976725e086b9005d3db87298cd98bccbb2fb816df42", func := "loop.example/flashfiles/laws.FnExactCreditStep", spec := "fnExactCreditStep", apart := false, narrowed := true }
def FnExactCreditStepUptoSaid : Prop := fnExactCreditStepUptoRow.holds Try.pinned (OpenSpec.upto fnExactCreditStepSpec)

/-- 'laws.FnExactHideValue', WHERE WHAT IT READS IS OF BULK AT MOST 1048576: true; the input reads as it did. -/
def fnExactHideValueUptoRow : OpenClaim := { program := "ytggagpojgoimoaa", sum := "3acabac9a9bbff9c45ca4976725e086b9005d3db87298cd98bccbb2fb816df42", func := "loop.example/flashfiles/laws.FnExactHideValue", spec := "fnExactHideValue", apart := false, narrowed := true }
def FnExactHideValueUptoSaid : Prop := fnExactHideValueUptoRow.holds Try.pinned (OpenSpec.upto fnExactHideValueSpec)

/-- 'laws.FnExactShowValue', WHERE WHAT IT READS IS OF BULK AT MOST 1048576: true; the input reads as it did. -/
def fnExactShowValueUptoRow : OpenClaim := { program := "ytggagpojgoimoaa", sum := "3acabac9a9bbff9c45ca4976725e086b9005d3db87298cd98bccbb2fb816df42", func := "loop.example/flashfiles/laws.FnExactShowValue", spec := "fnExactShowValue", apart := false, narrowed := true }
def FnExactShowValueUptoSaid : Prop := fnExactShowValueUptoRow.holds Try.pinned (OpenSpec.upto fnExactShowValueSpec)

/-- 'laws.FnCleanPrice', WHERE WHAT IT READS IS OF BULK AT MOST 1048576: true; the input reads as it did. -/
def fnCleanPriceUptoRow : OpenClaim := { program := "ytggagpojgoimoaa", sum := "3acabac9a9bbff9c45ca4976725e086b9005d3db87298cd98bccbb2fb816df42", func := "loop.example/flashfiles/laws.FnCleanPrice", spec := "fnCleanPrice", apart := false, narrowed := true }
def FnCleanPriceUptoSaid : Prop := fnCleanPriceUptoRow.holds Try.pinned (OpenSpec.upto fnCleanPriceSpec)

/-- 'laws.FnHideStream', WHERE WHAT IT READS IS OF BULK AT MOST 1048576: true; the input reads as it did. -/
def fnHideStreamUptoRow : OpenClaim := { program := "ytggagpojgoimoaa", sum := "3acabac9a9bbff9c45ca4976725e086b9005d3db87298cd98bccbb2fb816df42", func := "loop.example/flashfiles/laws.FnHideStream", spec := "fnHideStream", apart := false, narrowed := true }
def FnHideStreamUptoSaid : Prop := fnHideStreamUptoRow.holds Try.pinned (OpenSpec.upto fnHideStreamSpec)

/-- 'laws.FnWriteShare', WHERE WHAT IT READS IS OF BULK AT MOST 1048576: true; the input reads as it did. -/
def fnWriteShareUptoRow : OpenClaim := { program := "ytggagpojgoimoaa", sum := "3acabac9a9bbff9c45ca4976725e086b9005d3db87298cd98bccbb2fb816df42", func := "loop.example/flashfiles/laws.FnWriteShare", spec := "fnWriteShare", apart := false, narrowed := true }
def FnWriteShareUptoSaid : Prop := fnWriteShareUptoRow.holds Try.pinned (OpenSpec.upto fnWriteShareSpec)

/-- 'laws.FnCreditStep', WHERE WHAT IT READS IS OF BULK AT MOST 1048576: true; the input reads as it did. -/
def fnCreditStepUptoRow : OpenClaim := { program := "ytggagpojgoimoaa", sum := "3acabac9a9bbff9c45ca4976725e086b9005d3db87298cd98bccbb2fb816df42", func := "loop.example/flashfiles/laws.FnCreditStep", spec := "fnCreditStep", apart := false, narrowed := true }
def FnCreditStepUptoSaid : Prop := fnCreditStepUptoRow.holds Try.pinned (OpenSpec.upto fnCreditStepSpec)

/-- 'laws.FnHideValue', WHERE WHAT IT READS IS OF BULK AT MOST 1048576: true; the input reads as it did. -/
def fnHideValueUptoRow : OpenClaim := { program := "ytggagpojgoimoaa", sum := "3acabac9a9bbff9c45ca4976725e086b9005d3db87298cd98bccbb2fb816df42", func := "loop.example/flashfiles/laws.FnHideValue", spec := "fnHideValue", apart := false, narrowed := true }
def FnHideValueUptoSaid : Prop := fnHideValueUptoRow.holds Try.pinned (OpenSpec.upto fnHideValueSpec)

/-- 'laws.FnShowValue', WHERE WHAT IT READS IS OF BULK AT MOST 1048576: true; the input reads as it did. -/
def fnShowValueUptoRow : OpenClaim := { program := "ytggagpojgoimoaa", sum := "3acabac9a9bbff9c45ca4976725e086b9005d3db87298cd98bccbb2fb816df42", func := "loop.example/flashfiles/laws.FnShowValue", spec := "fnShowValue", apart := false, narrowed := true }
def FnShowValueUptoSaid : Prop := fnShowValueUptoRow.holds Try.pinned (OpenSpec.upto fnShowValueSpec)

end Rows
end Go.Proofs.Ytggagpojgoimoaa
