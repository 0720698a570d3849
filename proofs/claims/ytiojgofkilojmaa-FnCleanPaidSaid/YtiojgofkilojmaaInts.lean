/- Contracts of the functions on plain integers (budgets, shares, hiding). No condition but the integers' own ranges. -/
import Derived.Test.YtiojgofkilojmaaBase
namespace Go.Proofs.Ytiojgofkilojmaa
open Go.ChangeShapes Go.WideShapes Go.ChangeAt Go.RowKit
set_option linter.unusedVariables false

theorem l1In_c (n lo hi : Int) (w : World) : Calls Try.prog 21 #[.int .i64 n, .int .i64 lo, .int .i64 hi] w fun e w' => e = .returned (.bool (inB n lo hi)) ∧ w = w' := by
  by_cases h1 : lo ≤ n <;> by_cases h2 : n ≤ hi
  all_goals
    go_enter Try.func21, Try.ntmps21
    go_wp2
    go_ret
    exact ⟨ret_bool (by rw [eq_comm]; first | (rw [inB_t]; omega) | (rw [inB_f]; omega)), rfl⟩

def writeShare (a m : Int) : Int := if a < 1 ∨ 1000 < a ∨ m < 0 ∨ 1000 < m then -1 else (a + m) * 100 / a
theorem writeShare_impl (a m : Int) (w : World) : Calls Try.prog 13 #[.int .i64 a, .int .i64 m] w fun e w' => e = .returned (.int .i64 (writeShare a m)) ∧ w = w' := by
  by_cases h : 1 ≤ a ∧ 0 ≤ m ∧ a ≤ 1000 ∧ m ≤ 1000
  · obtain ⟨h1, h2, h3, h4⟩ := h
    have hq1 : 0 ≤ (a + m) * 100 / a := Int.ediv_nonneg (by omega) (by omega)
    have hq2 : (a + m) * 100 / a ≤ 200000 := Int.ediv_le_of_le_mul (by omega) (by omega)
    go_enter Try.func13, Try.ntmps13
    go_wp2
    all_goals (go_ret; exact ⟨ret_int (by unfold writeShare; split <;> first | omega | rfl), rfl⟩)
  · go_enter Try.func13, Try.ntmps13
    go_wp2
    all_goals (go_ret; exact ⟨ret_int (by unfold writeShare; rw [if_pos (by omega)]), rfl⟩)
end Go.Proofs.Ytiojgofkilojmaa
