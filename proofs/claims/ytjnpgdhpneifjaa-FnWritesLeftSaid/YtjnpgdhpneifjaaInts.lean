/- Contracts of the functions on plain integers (budgets, shares, hiding). No condition but the integers' own ranges. -/
import Derived.Test.YtjnpgdhpneifjaaBase
namespace Go.Proofs.Ytjnpgdhpneifjaa
open Go.ChangeShapes Go.WideShapes Go.ChangeAt Go.RowKit
set_option linter.unusedVariables false

theorem l1In_c (n lo hi : Int) (w : World) : Calls Try.prog 32 #[.int .i64 n, .int .i64 lo, .int .i64 hi] w fun e w' => e = .returned (.bool (inB n lo hi)) ∧ w = w' := by
  by_cases h1 : lo ≤ n <;> by_cases h2 : n ≤ hi
  all_goals
    go_enter Try.func32, Try.ntmps32
    go_wp2
    go_ret
    exact ⟨ret_bool (by rw [eq_comm]; first | (rw [inB_t]; omega) | (rw [inB_f]; omega)), rfl⟩

end Go.Proofs.Ytjnpgdhpneifjaa
