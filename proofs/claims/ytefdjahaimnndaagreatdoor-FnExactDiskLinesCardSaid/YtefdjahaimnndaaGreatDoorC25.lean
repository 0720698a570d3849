/- Parts. -/
import Derived.Test.YtefdjahaimnndaaGreatDoorC23
namespace Go.Proofs.YtefdjahaimnndaaGreatDoor
open Go.ChangeShapes Go.WideShapes Go.ChangeAt Go.RowKit Go.Deep
set_option linter.unusedVariables false
set_option linter.unusedSimpArgs false
theorem diskLine_spec {h : DH} {d : DiskV} {s : ByteArray} {B : Nat} {w : World} (hr : RdD w B h d) (hB : B ≤ w.heap.size) (hcap : CapN h) (hsm : SmallDV d) (hs : s.size ≤ 1048576) :
 Calls Tryz.prog 14 #[dkv h d, .string s] w (OwnL w (lineF d s)) := by
 by_cases hok : DiskOk d
 · exact diskLine_valid hr hB hcap hok hs
 · exact diskLine_no hr hB hsm hok
end Go.Proofs.YtefdjahaimnndaaGreatDoor
