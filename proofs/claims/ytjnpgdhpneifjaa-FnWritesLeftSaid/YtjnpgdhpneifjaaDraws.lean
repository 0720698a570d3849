/- Contracts of the Draw functions that return plain integers: they return some integers, and what was there stays. Printed by a program of mine (gendraw.py). No condition. -/
import Derived.Test.YtjnpgdhpneifjaaDraw
namespace Go.Proofs.Ytjnpgdhpneifjaa
open Go.ChangeShapes Go.WideShapes Go.ChangeAt Go.RowKit
set_option linter.unusedVariables false
set_option linter.unusedSimpArgs false

set_option maxHeartbeats 8000000 in
theorem drawNewDisk_c {A : Option Addr} {n c : Nat} {xs : List Int} {w : World} (hr : RdI .u8 w w.heap.size A n xs) (hx : ∀ x ∈ xs, 0 ≤ x ∧ x ≤ 255) (hnc : n ≤ c) (hcm : c ≤ 9223372036854775807) :
    Calls Try.prog 22 #[.slice A n c] w (Int1 w) := by
  go_enter Try.func22, Try.ntmps22
  go_wp2_with (first
    | (go_at_call 38; refine (open_c hr hx hnc hcm).mono ?_; rintro e w1 ⟨rfl, h1, b1⟩)
    | (go_at_call 40; refine (pick_c h1 (by omega)).mono ?_; rintro e w2 ⟨v, rfl, hv1, hv2, h2, g2⟩))
  go_ret
  exact ⟨_, rfl, below_of_gb b1 g2 b1.size h1.1⟩
end Go.Proofs.Ytjnpgdhpneifjaa
