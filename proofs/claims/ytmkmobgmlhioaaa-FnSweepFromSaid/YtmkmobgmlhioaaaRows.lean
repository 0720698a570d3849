/-
  No cell of these rows narrows 'for every input' (looked for: loops, veiled, ifaces, maps, wideKeys, modest, calm, conditions, laid).
  DERIVED. THE GIVEN ROWS OF THIS SEAT. 10 by the template 'for every input the law returns true; each argument reads behind the call as it read before'; 0 by the template 'total and deterministic' (their statements: YtmkmobgmlhioaaaTotals.lean).
  GIVEN WITH THE SEED: the statements are not yours to turn. If you find one false, say at which input.
  Laid BY PROGRAM, IN A SANDBOX (cutbox-rows.mjs): the forced cells as the released guide's own fill.sh prints them over the translation 71f391b06e335968… (all of the seat's roots in one cut). By AI agents, Wed Nov 11 2026. No macro, syntax, notation, axiom, sorry.
-/
import Derived.Test.YtmkmobgmlhioaaaChecked
import GoSem.Claim
import GoSem.ClaimJoined
import GoSem.ClaimMapViews
import Derived.JoinedTies
import Derived.KernelRfl
namespace Go.Proofs.Ytmkmobgmlhioaaa
/- THE CELL 'sum', in the pinned program and in every row, IS THE sha256 OF THE DUMP (.gsa) THAT YtmkmobgmlhioaaaProg.lean LOADS. Nothing in Lean hashes anything: it is a label: what it is worth is what the hold of that sum in a sandbox is worth. -/
noncomputable def Try.pinned : Pinned := { name := "ytmkmobgmlhioaaa", sum := "71f391b06e335968c0e15414241ed9bf2f5ab12bf5e5d3feb5de75b76e1da785", checked := Try.checked }
namespace Rows
def none {H : Type} : Left H := { results := [], args := [] }

/-- 'laws.FnExactAsksValid': WHATEVER THE INPUT: true; the input reads as it did. -/
def fnExactAsksValidSpec : ChangeSpec := { name := "fnExactAsksValid", fn := fun _ => fun
  | [d] => { results := [.lit (.bool true)], args := [d] }
  | _ => none }
def fnExactAsksValidRow : OpenClaim := { program := "ytmkmobgmlhioaaa", sum := "71f391b06e335968c0e15414241ed9bf2f5ab12bf5e5d3feb5de75b76e1da785", func := "loop.example/flashfiles/laws.FnExactAsksValid", spec := "fnExactAsksValid", apart := false }
def FnExactAsksValidSaid : Prop := fnExactAsksValidRow.holds Try.pinned (OpenSpec.ofChange fnExactAsksValidSpec)

/-- ITS FALSE NEIGHBOUR: 'it returns false'. Refute it at one input. -/
def fnExactAsksValidWrong : ChangeSpec := { name := "fnExactAsksValid", fn := fun _ => fun
  | [d] => { results := [.lit (.bool false)], args := [d] }
  | _ => none }
def FnExactAsksValidWrongFalsely : Prop := fnExactAsksValidRow.holds Try.pinned (OpenSpec.ofChange fnExactAsksValidWrong)

/-- 'laws.FnAsksValid': WHATEVER THE INPUT: true; the input reads as it did. -/
def fnAsksValidSpec : ChangeSpec := { name := "fnAsksValid", fn := fun _ => fun
  | [d] => { results := [.lit (.bool true)], args := [d] }
  | _ => none }
def fnAsksValidRow : OpenClaim := { program := "ytmkmobgmlhioaaa", sum := "71f391b06e335968c0e15414241ed9bf2f5ab12bf5e5d3feb5de75b76e1da785", func := "loop.example/flashfiles/laws.FnAsksValid", spec := "fnAsksValid", apart := false }
def FnAsksValidSaid : Prop := fnAsksValidRow.holds Try.pinned (OpenSpec.ofChange fnAsksValidSpec)

/-- ITS FALSE NEIGHBOUR: 'it returns false'. Refute it at one input. -/
def fnAsksValidWrong : ChangeSpec := { name := "fnAsksValid", fn := fun _ => fun
  | [d] => { results := [.lit (.bool false)], args := [d] }
  | _ => none }
def FnAsksValidWrongFalsely : Prop := fnAsksValidRow.holds Try.pinned (OpenSpec.ofChange fnAsksValidWrong)

/-- 'laws.FnExactAskPages': WHATEVER THE INPUT: true; the input reads as it did. -/
def fnExactAskPagesSpec : ChangeSpec := { name := "fnExactAskPages", fn := fun _ => fun
  | [d] => { results := [.lit (.bool true)], args := [d] }
  | _ => none }
def fnExactAskPagesRow : OpenClaim := { program := "ytmkmobgmlhioaaa", sum := "71f391b06e335968c0e15414241ed9bf2f5ab12bf5e5d3feb5de75b76e1da785", func := "loop.example/flashfiles/laws.FnExactAskPages", spec := "fnExactAskPages", apart := false }
def FnExactAskPagesSaid : Prop := fnExactAskPagesRow.holds Try.pinned (OpenSpec.ofChange fnExactAskPagesSpec)

/-- ITS FALSE NEIGHBOUR: 'it returns false'. Refute it at one input. -/
def fnExactAskPagesWrong : ChangeSpec := { name := "fnExactAskPages", fn := fun _ => fun
  | [d] => { results := [.lit (.bool false)], args := [d] }
  | _ => none }
def FnExactAskPagesWrongFalsely : Prop := fnExactAskPagesRow.holds Try.pinned (OpenSpec.ofChange fnExactAskPagesWrong)

/-- 'laws.FnExactSortAsks': WHATEVER THE INPUT: true; the input reads as it did. -/
def fnExactSortAsksSpec : ChangeSpec := { name := "fnExactSortAsks", fn := fun _ => fun
  | [d] => { results := [.lit (.bool true)], args := [d] }
  | _ => none }
def fnExactSortAsksRow : OpenClaim := { program := "ytmkmobgmlhioaaa", sum := "71f391b06e335968c0e15414241ed9bf2f5ab12bf5e5d3feb5de75b76e1da785", func := "loop.example/flashfiles/laws.FnExactSortAsks", spec := "fnExactSortAsks", unfollowed := true, recurses := true, apart := false }
def FnExactSortAsksSaid : Prop := fnExactSortAsksRow.holds Try.pinned (OpenSpec.ofChange fnExactSortAsksSpec)

/-- ITS FALSE NEIGHBOUR: 'it returns false'. Refute it at one input. -/
def fnExactSortAsksWrong : ChangeSpec := { name := "fnExactSortAsks", fn := fun _ => fun
  | [d] => { results := [.lit (.bool false)], args := [d] }
  | _ => none }
def FnExactSortAsksWrongFalsely : Prop := fnExactSortAsksRow.holds Try.pinned (OpenSpec.ofChange fnExactSortAsksWrong)

/-- 'laws.FnAskPages': WHATEVER THE INPUT: true; the input reads as it did. -/
def fnAskPagesSpec : ChangeSpec := { name := "fnAskPages", fn := fun _ => fun
  | [d] => { results := [.lit (.bool true)], args := [d] }
  | _ => none }
def fnAskPagesRow : OpenClaim := { program := "ytmkmobgmlhioaaa", sum := "71f391b06e335968c0e15414241ed9bf2f5ab12bf5e5d3feb5de75b76e1da785", func := "loop.example/flashfiles/laws.FnAskPages", spec := "fnAskPages", unfollowed := true, recurses := true, apart := false }
def FnAskPagesSaid : Prop := fnAskPagesRow.holds Try.pinned (OpenSpec.ofChange fnAskPagesSpec)

/-- ITS FALSE NEIGHBOUR: 'it returns false'. Refute it at one input. -/
def fnAskPagesWrong : ChangeSpec := { name := "fnAskPages", fn := fun _ => fun
  | [d] => { results := [.lit (.bool false)], args := [d] }
  | _ => none }
def FnAskPagesWrongFalsely : Prop := fnAskPagesRow.holds Try.pinned (OpenSpec.ofChange fnAskPagesWrong)

/-- 'laws.FnSortAsks': WHATEVER THE INPUT: true; the input reads as it did. -/
def fnSortAsksSpec : ChangeSpec := { name := "fnSortAsks", fn := fun _ => fun
  | [d] => { results := [.lit (.bool true)], args := [d] }
  | _ => none }
def fnSortAsksRow : OpenClaim := { program := "ytmkmobgmlhioaaa", sum := "71f391b06e335968c0e15414241ed9bf2f5ab12bf5e5d3feb5de75b76e1da785", func := "loop.example/flashfiles/laws.FnSortAsks", spec := "fnSortAsks", unfollowed := true, recurses := true, apart := false }
def FnSortAsksSaid : Prop := fnSortAsksRow.holds Try.pinned (OpenSpec.ofChange fnSortAsksSpec)

/-- ITS FALSE NEIGHBOUR: 'it returns false'. Refute it at one input. -/
def fnSortAsksWrong : ChangeSpec := { name := "fnSortAsks", fn := fun _ => fun
  | [d] => { results := [.lit (.bool false)], args := [d] }
  | _ => none }
def FnSortAsksWrongFalsely : Prop := fnSortAsksRow.holds Try.pinned (OpenSpec.ofChange fnSortAsksWrong)

/-- 'laws.FnExactMergeAsks': WHATEVER THE INPUT: true; the input reads as it did. -/
def fnExactMergeAsksSpec : ChangeSpec := { name := "fnExactMergeAsks", fn := fun _ => fun
  | [d] => { results := [.lit (.bool true)], args := [d] }
  | _ => none }
def fnExactMergeAsksRow : OpenClaim := { program := "ytmkmobgmlhioaaa", sum := "71f391b06e335968c0e15414241ed9bf2f5ab12bf5e5d3feb5de75b76e1da785", func := "loop.example/flashfiles/laws.FnExactMergeAsks", spec := "fnExactMergeAsks", unfollowed := true, recurses := true, apart := false }
def FnExactMergeAsksSaid : Prop := fnExactMergeAsksRow.holds Try.pinned (OpenSpec.ofChange fnExactMergeAsksSpec)

/-- ITS FALSE NEIGHBOUR: 'it returns false'. Refute it at one input. -/
def fnExactMergeAsksWrong : ChangeSpec := { name := "fnExactMergeAsks", fn := fun _ => fun
  | [d] => { results := [.lit (.bool false)], args := [d] }
  | _ => none }
def FnExactMergeAsksWrongFalsely : Prop := fnExactMergeAsksRow.holds Try.pinned (OpenSpec.ofChange fnExactMergeAsksWrong)

/-- 'laws.FnExactSweepFrom': WHATEVER THE INPUT: true; the input reads as it did. -/
def fnExactSweepFromSpec : ChangeSpec := { name := "fnExactSweepFrom", fn := fun _ => fun
  | [d1, d2] => { results := [.lit (.bool true)], args := [d1, d2] }
  | _ => none }
def fnExactSweepFromRow : OpenClaim := { program := "ytmkmobgmlhioaaa", sum := "71f391b06e335968c0e15414241ed9bf2f5ab12bf5e5d3feb5de75b76e1da785", func := "loop.example/flashfiles/laws.FnExactSweepFrom", spec := "fnExactSweepFrom", unfollowed := true, recurses := true, apart := false }
def FnExactSweepFromSaid : Prop := fnExactSweepFromRow.holds Try.pinned (OpenSpec.ofChange fnExactSweepFromSpec)

/-- ITS FALSE NEIGHBOUR: 'it returns false'. Refute it at one input. -/
def fnExactSweepFromWrong : ChangeSpec := { name := "fnExactSweepFrom", fn := fun _ => fun
  | [d1, d2] => { results := [.lit (.bool false)], args := [d1, d2] }
  | _ => none }
def FnExactSweepFromWrongFalsely : Prop := fnExactSweepFromRow.holds Try.pinned (OpenSpec.ofChange fnExactSweepFromWrong)

/-- 'laws.FnSweepFrom': WHATEVER THE INPUT: true; the input reads as it did. -/
def fnSweepFromSpec : ChangeSpec := { name := "fnSweepFrom", fn := fun _ => fun
  | [d] => { results := [.lit (.bool true)], args := [d] }
  | _ => none }
def fnSweepFromRow : OpenClaim := { program := "ytmkmobgmlhioaaa", sum := "71f391b06e335968c0e15414241ed9bf2f5ab12bf5e5d3feb5de75b76e1da785", func := "loop.example/flashfiles/laws.FnSweepFrom", spec := "fnSweepFrom", unfollowed := true, recurses := true, apart := false }
def FnSweepFromSaid : Prop := fnSweepFromRow.holds Try.pinned (OpenSpec.ofChange fnSweepFromSpec)

/-- ITS FALSE NEIGHBOUR: 'it returns false'. Refute it at one input. -/
def fnSweepFromWrong : ChangeSpec := { name := "fnSweepFrom", fn := fun _ => fun
  | [d] => { results := [.lit (.bool false)], args := [d] }
  | _ => none }
def FnSweepFromWrongFalsely : Prop := fnSweepFromRow.holds Try.pinned (OpenSpec.ofChange fnSweepFromWrong)

/-- 'laws.FnMergeAsks': WHATEVER THE INPUT: true; the input reads as it did. -/
def fnMergeAsksSpec : ChangeSpec := { name := "fnMergeAsks", fn := fun _ => fun
  | [d] => { results := [.lit (.bool true)], args := [d] }
  | _ => none }
def fnMergeAsksRow : OpenClaim := { program := "ytmkmobgmlhioaaa", sum := "71f391b06e335968c0e15414241ed9bf2f5ab12bf5e5d3feb5de75b76e1da785", func := "loop.example/flashfiles/laws.FnMergeAsks", spec := "fnMergeAsks", unfollowed := true, recurses := true, apart := false }
def FnMergeAsksSaid : Prop := fnMergeAsksRow.holds Try.pinned (OpenSpec.ofChange fnMergeAsksSpec)

/-- ITS FALSE NEIGHBOUR: 'it returns false'. Refute it at one input. -/
def fnMergeAsksWrong : ChangeSpec := { name := "fnMergeAsks", fn := fun _ => fun
  | [d] => { results := [.lit (.bool false)], args := [d] }
  | _ => none }
def FnMergeAsksWrongFalsely : Prop := fnMergeAsksRow.holds Try.pinned (OpenSpec.ofChange fnMergeAsksWrong)

/- THE SECOND FORM. 'bulk': how many values and letters a reading holds, each counted each time it is reached (what is shared counts as often as it is met; a slice's spare places count too). A statement '..UptoSaid' is the law's where the arguments, and the package variables that the reading takes, are together of bulk at most 1048576: NARROWER than '..Said'. Prove '..Said' where nothing that the law and all that it calls make is longer than what came in: it says more and counts as full. Else prove '..UptoSaid'. A law counts once. -/
mutual
def uptoBulk {H : Type} : DataW H → Nat
  | .lit (.string bytes) => bytes.length + 1
  | .lit _ => 1
  | .nil => 1
  | .ptr d => uptoBulk d + 1
  | .slice elems spare => uptoBulkAll elems + uptoBulkAll spare + 1
  | .agg parts => uptoBulkAll parts + 1
  | .iface _ d => uptoBulk d + 1
  | .map entries => uptoBulkEntries entries + 1
  | .held _ => 1
def uptoBulkAll {H : Type} : List (DataW H) → Nat
  | [] => 0
  | d :: r => uptoBulk d + uptoBulkAll r
def uptoBulkEntries {H : Type} : List (Lit × DataW H) → Nat
  | [] => 0
  | x :: r => uptoBulkEntry x + uptoBulkEntries r
def uptoBulkEntry {H : Type} : Lit × DataW H → Nat
  | (.string bytes, d) => bytes.length + uptoBulk d + 1
  | (_, d) => uptoBulk d + 1
 end
def uptoSmall : (H : Type) → List (DataW H) → Bool := fun _ ds => decide (uptoBulkAll ds ≤ 1048576)
def OpenSpec.upto (s : _root_.Go.ChangeSpec) : _root_.Go.OpenSpec := { _root_.Go.OpenSpec.ofChange s with cond := some uptoSmall }

/-- 'laws.FnExactAsksValid', WHERE WHAT IT READS IS OF BULK AT MOST 1048576: true; the input reads as it did. -/
def fnExactAsksValidUptoRow : OpenClaim := { program := "ytmkmobgmlhioaaa", sum := "71f391b06e335968c0e15414241ed9bf2f5ab12bf5e5d3feb5de75b76e1da785", func := "loop.example/flashfiles/laws.FnExactAsksValid", spec := "fnExactAsksValid", apart := false, narrowed := true }
def FnExactAsksValidUptoSaid : Prop := fnExactAsksValidUptoRow.holds Try.pinned (OpenSpec.upto fnExactAsksValidSpec)

/-- 'laws.FnAsksValid', WHERE WHAT IT READS IS OF BULK AT MOST 1048576: true; the input reads as it did. -/
def fnAsksValidUptoRow : OpenClaim := { program := "ytmkmobgmlhioaaa", sum := "71f391b06e335968c0e15414241ed9bf2f5ab12bf5e5d3feb5de75b76e1da785", func := "loop.example/flashfiles/laws.FnAsksValid", spec := "fnAsksValid", apart := false, narrowed := true }
def FnAsksValidUptoSaid : Prop := fnAsksValidUptoRow.holds Try.pinned (OpenSpec.upto fnAsksValidSpec)

/-- 'laws.FnExactAskPages', WHERE WHAT IT READS IS OF BULK AT MOST 1048576: true; the input reads as it did. -/
def fnExactAskPagesUptoRow : OpenClaim := { program := "ytmkmobgmlhioaaa", sum := "71f391b06e335968c0e15414241ed9bf2f5ab12bf5e5d3feb5de75b76e1da785", func := "loop.example/flashfiles/laws.FnExactAskPages", spec := "fnExactAskPages", apart := false, narrowed := true }
def FnExactAskPagesUptoSaid : Prop := fnExactAskPagesUptoRow.holds Try.pinned (OpenSpec.upto fnExactAskPagesSpec)

/-- 'laws.FnExactSortAsks', WHERE WHAT IT READS IS OF BULK AT MOST 1048576: true; the input reads as it did. -/
def fnExactSortAsksUptoRow : OpenClaim := { program := "ytmkmobgmlhioaaa", sum := "71f391b06e335968c0e15414241ed9bf2f5ab12bf5e5d3feb5de75b76e1da785", func := "loop.example/flashfiles/laws.FnExactSortAsks", spec := "fnExactSortAsks", unfollowed := true, recurses := true, apart := false, narrowed := true }
def FnExactSortAsksUptoSaid : Prop := fnExactSortAsksUptoRow.holds Try.pinned (OpenSpec.upto fnExactSortAsksSpec)

/-- 'laws.FnAskPages', WHERE WHAT IT READS IS OF BULK AT MOST 1048576: true; the input reads as it did. -/
def fnAskPagesUptoRow : OpenClaim := { program := "ytmkmobgmlhioaaa", sum := "71f391b06e335968c0e15414241ed9bf2f5ab12bf5e5d3feb5de75b76e1da785", func := "loop.example/flashfiles/laws.FnAskPages", spec := "fnAskPages", unfollowed := true, recurses := true, apart := false, narrowed := true }
def FnAskPagesUptoSaid : Prop := fnAskPagesUptoRow.holds Try.pinned (OpenSpec.upto fnAskPagesSpec)

/-- 'laws.FnSortAsks', WHERE WHAT IT READS IS OF BULK AT MOST 1048576: true; the input reads as it did. -/
def fnSortAsksUptoRow : OpenClaim := { program := "ytmkmobgmlhioaaa", sum := "71f391b06e335968c0e15414241ed9bf2f5ab12bf5e5d3feb5de75b76e1da785", func := "loop.example/flashfiles/laws.FnSortAsks", spec := "fnSortAsks", unfollowed := true, recurses := true, apart := false, narrowed := true }
def FnSortAsksUptoSaid : Prop := fnSortAsksUptoRow.holds Try.pinned (OpenSpec.upto fnSortAsksSpec)

/-- 'laws.FnExactMergeAsks', WHERE WHAT IT READS IS OF BULK AT MOST 1048576: true; the input reads as it did. -/
def fnExactMergeAsksUptoRow : OpenClaim := { program := "ytmkmobgmlhioaaa", sum := "71f391b06e335968c0e15414241ed9bf2f5ab12bf5e5d3feb5de75b76e1da785", func := "loop.example/flashfiles/laws.FnExactMergeAsks", spec := "fnExactMergeAsks", unfollowed := true, recurses := true, apart := false, narrowed := true }
def FnExactMergeAsksUptoSaid : Prop := fnExactMergeAsksUptoRow.holds Try.pinned (OpenSpec.upto fnExactMergeAsksSpec)

/-- 'laws.FnExactSweepFrom', WHERE WHAT IT READS IS OF BULK AT MOST 1048576: true; the input reads as it did. -/
def fnExactSweepFromUptoRow : OpenClaim := { program := "ytmkmobgmlhioaaa", sum := "71f391b06e335968c0e15414241ed9bf2f5ab12bf5e5d3feb5de75b76e1da785", func := "loop.example/flashfiles/laws.FnExactSweepFrom", spec := "fnExactSweepFrom", unfollowed := true, recurses := true, apart := false, narrowed := true }
def FnExactSweepFromUptoSaid : Prop := fnExactSweepFromUptoRow.holds Try.pinned (OpenSpec.upto fnExactSweepFromSpec)

/-- 'laws.FnSweepFrom', WHERE WHAT IT READS IS OF BULK AT MOST 1048576: true; the input reads as it did. -/
def fnSweepFromUptoRow : OpenClaim := { program := "ytmkmobgmlhioaaa", sum := "71f391b06e335968c0e15414241ed9bf2f5ab12bf5e5d3feb5de75b76e1da785", func := "loop.example/flashfiles/laws.FnSweepFrom", spec := "fnSweepFrom", unfollowed := true, recurses := true, apart := false, narrowed := true }
def FnSweepFromUptoSaid : Prop := fnSweepFromUptoRow.holds Try.pinned (OpenSpec.upto fnSweepFromSpec)

/-- 'laws.FnMergeAsks', WHERE WHAT IT READS IS OF BULK AT MOST 1048576: true; the input reads as it did. -/
def fnMergeAsksUptoRow : OpenClaim := { program := "ytmkmobgmlhioaaa", sum := "71f391b06e335968c0e15414241ed9bf2f5ab12bf5e5d3feb5de75b76e1da785", func := "loop.example/flashfiles/laws.FnMergeAsks", spec := "fnMergeAsks", unfollowed := true, recurses := true, apart := false, narrowed := true }
def FnMergeAsksUptoSaid : Prop := fnMergeAsksUptoRow.holds Try.pinned (OpenSpec.upto fnMergeAsksSpec)

end Rows
end Go.Proofs.Ytmkmobgmlhioaaa
