/- Contracts of the functions on plain integers (budgets, shares, hiding). No condition but the integers' own ranges. -/
import Derived.Test.YtggagpojgoimoabBase
namespace Go.Proofs.Ytggagpojgoimoab
open Go.ChangeShapes Go.WideShapes Go.ChangeAt Go.RowKit
set_option linter.unusedVariables false

theorem l1In_c (n lo hi : Int) (w : World) : Calls Try.prog 15 #[.int .i64 n, .int .i64 lo, .int .i64 hi] w fun e w' => e = .returned (.bool (inB n lo hi)) ∧ w = w' := by
  by_cases h1 : lo ≤ n <;> by_cases h2 : n ≤ hi
  all_goals
    go_enter Try.func15, Try.ntmps15
    go_wp2
    go_ret
    exact ⟨ret_bool (by rw [eq_comm]; first | (rw [inB_t]; omega) | (rw [inB_f]; omega)), rfl⟩

def hideStream (k p : Int) : Int := if k < 0 ∨ 9999 < k ∨ p < 0 ∨ 1000000 < p then -1 else (37 * k + 101 * p + 11) % 10007 % 10000
theorem hideStream_range (k p : Int) : -1 ≤ hideStream k p ∧ hideStream k p ≤ 9999 := by unfold hideStream; split <;> omega
theorem hideStream_impl (k p : Int) (w : World) : Calls Try.prog 22 #[.int .i64 k, .int .i64 p] w fun e w' => e = .returned (.int .i64 (hideStream k p)) ∧ w = w' := by
  go_enter Try.func22, Try.ntmps22
  go_wp2
  all_goals (go_ret; exact ⟨ret_int (by unfold hideStream; split <;> omega), rfl⟩)
theorem hideStream_spec (k p : Int) (w : World) : Calls Try.prog 23 #[.int .i64 k, .int .i64 p] w fun e w' => e = .returned (.int .i64 (hideStream k p)) ∧ w = w' := by
  rcases Bool.eq_false_or_eq_true (inB k 0 9999) with h | h <;> rcases Bool.eq_false_or_eq_true (inB p 0 1000000) with h' | h'
  all_goals
    have g := h
    have g' := h'
    first | rw [inB_t] at g | rw [inB_f] at g
    first | rw [inB_t] at g' | rw [inB_f] at g'
    go_enter Try.func23, Try.ntmps23
    go_wp2_with (go_at_call 15; refine (l1In_c _ _ _ _).mono ?_; rintro e w' ⟨rfl, rfl⟩)
    all_goals (go_ret; exact ⟨ret_int (by unfold hideStream; split <;> omega), rfl⟩)
def hideValue (k p v : Int) : Int := if hideStream k p < 0 ∨ v < 0 ∨ 9999 < v then -1 else (hideStream k p + v) % 10000
theorem hideValue_range (k p v : Int) : -1 ≤ hideValue k p v ∧ hideValue k p v ≤ 9999 := by unfold hideValue; split <;> omega
theorem hideValue_impl (k p v : Int) (w : World) : Calls Try.prog 17 #[.int .i64 k, .int .i64 p, .int .i64 v] w fun e w' => e = .returned (.int .i64 (hideValue k p v)) ∧ w = w' := by
  have hr := hideStream_range k p
  obtain ⟨s, hp⟩ : ∃ s, hideStream k p = s := ⟨_, rfl⟩
  rw [hp] at hr
  have HP := Lib.hid hp; clear hp
  go_enter Try.func17, Try.ntmps17
  go_wp2_with (go_at_call 22; refine (hideStream_impl _ _ _).mono ?_; rw [HP.out]; rintro e w' ⟨rfl, rfl⟩)
  all_goals (go_ret; exact ⟨ret_int (by unfold hideValue; rw [HP.out]; split <;> omega), rfl⟩)
theorem hideValue_spec (k p v : Int) (w : World) : Calls Try.prog 16 #[.int .i64 k, .int .i64 p, .int .i64 v] w fun e w' => e = .returned (.int .i64 (hideValue k p v)) ∧ w = w' := by
  have hr := hideStream_range k p
  obtain ⟨s, hp⟩ : ∃ s, hideStream k p = s := ⟨_, rfl⟩
  rw [hp] at hr
  have HP := Lib.hid hp; clear hp
  rcases Bool.eq_false_or_eq_true (inB v 0 9999) with h | h
  all_goals
    have g := h
    first | rw [inB_t] at g | rw [inB_f] at g
    by_cases h1 : s < 0
  all_goals
    go_enter Try.func16, Try.ntmps16
    go_wp2_with (first | (go_at_call 23; refine (hideStream_spec _ _ _).mono ?_; rw [HP.out]; rintro e w' ⟨rfl, rfl⟩) | (go_at_call 15; refine (l1In_c _ _ _ _).mono ?_; rintro e w' ⟨rfl, rfl⟩))
    all_goals (go_ret; exact ⟨ret_int (by unfold hideValue; rw [HP.out]; split <;> omega), rfl⟩)
def showValue (k p v : Int) : Int := if hideStream k p < 0 ∨ v < 0 ∨ 9999 < v then -1 else (v - hideStream k p + 10000) % 10000
theorem showValue_range (k p v : Int) : -1 ≤ showValue k p v ∧ showValue k p v ≤ 9999 := by unfold showValue; split <;> omega
theorem showValue_impl (k p v : Int) (w : World) : Calls Try.prog 14 #[.int .i64 k, .int .i64 p, .int .i64 v] w fun e w' => e = .returned (.int .i64 (showValue k p v)) ∧ w = w' := by
  have hr := hideStream_range k p
  obtain ⟨s, hp⟩ : ∃ s, hideStream k p = s := ⟨_, rfl⟩
  rw [hp] at hr
  have HP := Lib.hid hp; clear hp
  go_enter Try.func14, Try.ntmps14
  go_wp2_with (go_at_call 22; refine (hideStream_impl _ _ _).mono ?_; rw [HP.out]; rintro e w' ⟨rfl, rfl⟩)
  all_goals (go_ret; exact ⟨ret_int (by unfold showValue; rw [HP.out]; split <;> omega), rfl⟩)
end Go.Proofs.Ytggagpojgoimoab
