/- Contracts of the functions on plain integers (budgets, shares, hiding). No condition but the integers' own ranges. -/
import Derived.Test.YtggagpojgoimoaaBase
namespace Go.Proofs.Ytggagpojgoimoaa
open Go.ChangeShapes Go.WideShapes Go.ChangeAt Go.RowKit
set_option linter.unusedVariables false

theorem l1In_c (n lo hi : Int) (w : World) : Calls Try.prog 34 #[.int .i64 n, .int .i64 lo, .int .i64 hi] w fun e w' => e = .returned (.bool (inB n lo hi)) ∧ w = w' := by
  by_cases h1 : lo ≤ n <;> by_cases h2 : n ≤ hi
  all_goals
    go_enter Try.func34, Try.ntmps34
    go_wp2
    go_ret
    exact ⟨ret_bool (by rw [eq_comm]; first | (rw [inB_t]; omega) | (rw [inB_f]; omega)), rfl⟩

def cleanPrice (f : Int) : Int := if f < 0 ∨ 12 < f then -1 else max 0 (3 - f)
theorem cleanPrice_impl (f : Int) (w : World) : Calls Try.prog 16 #[.int .i64 f] w fun e w' => e = .returned (.int .i64 (cleanPrice f)) ∧ w = w' := by
  go_enter Try.func16, Try.ntmps16
  go_wp2
  all_goals (go_ret; exact ⟨ret_int (by unfold cleanPrice; split <;> omega), rfl⟩)
theorem cleanPrice_spec (f : Int) (w : World) : Calls Try.prog 15 #[.int .i64 f] w fun e w' => e = .returned (.int .i64 (cleanPrice f)) ∧ w = w' := by
  rcases Bool.eq_false_or_eq_true (inB f 0 12) with h | h
  all_goals
    have g := h
    first | rw [inB_t] at g | rw [inB_f] at g
    go_enter Try.func15, Try.ntmps15
    go_wp2_with (go_at_call 34; refine (l1In_c _ _ _ _).mono ?_; rintro e w' ⟨rfl, rfl⟩)
    all_goals (go_ret; exact ⟨ret_int (by unfold cleanPrice; split <;> omega), rfl⟩)
theorem cleanPrice_range (f : Int) : -1 ≤ cleanPrice f ∧ cleanPrice f ≤ 3 := by unfold cleanPrice; split <;> omega
def creditStep (c n f : Int) : Int := if cleanPrice f < 0 ∨ c < 0 ∨ 100 < c ∨ n < 0 ∨ 20 < n then -1 else min (c + n * cleanPrice f) 100
theorem creditStep_impl (c n f : Int) (w : World) : Calls Try.prog 22 #[.int .i64 c, .int .i64 n, .int .i64 f] w fun e w' => e = .returned (.int .i64 (creditStep c n f)) ∧ w = w' := by
  have hr := cleanPrice_range f
  obtain ⟨p, hp⟩ : ∃ p, cleanPrice f = p := ⟨_, rfl⟩
  rw [hp] at hr
  have HP := Lib.hid hp; clear hp
  by_cases h1 : p < 0
  · go_enter Try.func22, Try.ntmps22
    go_wp2_with (go_at_call 16; refine (cleanPrice_impl _ _).mono ?_; rw [HP.out]; rintro e w' ⟨rfl, rfl⟩)
    go_ret
    exact ⟨ret_int (by unfold creditStep; rw [HP.out, if_pos (by omega)]), rfl⟩
  · by_cases h2 : 0 ≤ n ∧ n ≤ 20
    · obtain ⟨h3, h4⟩ := h2
      have hm : 0 ≤ n * p ∧ n * p ≤ 60 := ⟨Int.mul_nonneg h3 (by omega), by
        have : n * p ≤ 20 * p := Int.mul_le_mul_of_nonneg_right h4 (by omega)
        omega⟩
      obtain ⟨hm1, hm2⟩ := hm
      go_enter Try.func22, Try.ntmps22
      go_wp2_with (go_at_call 16; refine (cleanPrice_impl _ _).mono ?_; rw [HP.out]; rintro e w' ⟨rfl, rfl⟩)
      all_goals (go_ret; exact ⟨ret_int (by unfold creditStep; rw [HP.out]; split <;> omega), rfl⟩)
    · go_enter Try.func22, Try.ntmps22
      go_wp2_with (go_at_call 16; refine (cleanPrice_impl _ _).mono ?_; rw [HP.out]; rintro e w' ⟨rfl, rfl⟩)
      all_goals (go_ret; exact ⟨ret_int (by unfold creditStep; rw [HP.out, if_pos (by omega)]), rfl⟩)
theorem creditStep_spec (c n f : Int) (w : World) : Calls Try.prog 21 #[.int .i64 c, .int .i64 n, .int .i64 f] w fun e w' => e = .returned (.int .i64 (creditStep c n f)) ∧ w = w' := by
  have hr := cleanPrice_range f
  obtain ⟨p, hp⟩ : ∃ p, cleanPrice f = p := ⟨_, rfl⟩
  rw [hp] at hr
  have HP := Lib.hid hp; clear hp
  rcases Bool.eq_false_or_eq_true (inB c 0 100) with h | h <;> rcases Bool.eq_false_or_eq_true (inB n 0 20) with h' | h'
  all_goals
    have g := h
    have g' := h'
    first | rw [inB_t] at g | rw [inB_f] at g
    first | rw [inB_t] at g' | rw [inB_f] at g'
  · by_cases h1 : p < 0
    · go_enter Try.func21, Try.ntmps21
      go_wp2_with (first | (go_at_call 15; refine (cleanPrice_spec _ _).mono ?_; rw [HP.out]; rintro e w' ⟨rfl, rfl⟩) | (go_at_call 34; refine (l1In_c _ _ _ _).mono ?_; rintro e w' ⟨rfl, rfl⟩))
      go_ret
      exact ⟨ret_int (by unfold creditStep; rw [HP.out, if_pos (by omega)]), rfl⟩
    · have hm : 0 ≤ n * p ∧ n * p ≤ 60 := ⟨Int.mul_nonneg (by omega) (by omega), by
        have : n * p ≤ 20 * p := Int.mul_le_mul_of_nonneg_right (by omega) (by omega)
        omega⟩
      obtain ⟨hm1, hm2⟩ := hm
      go_enter Try.func21, Try.ntmps21
      go_wp2_with (first | (go_at_call 15; refine (cleanPrice_spec _ _).mono ?_; rw [HP.out]; rintro e w' ⟨rfl, rfl⟩) | (go_at_call 34; refine (l1In_c _ _ _ _).mono ?_; rintro e w' ⟨rfl, rfl⟩))
      all_goals (go_ret; exact ⟨ret_int (by unfold creditStep; rw [HP.out]; split <;> omega), rfl⟩)
  all_goals
    go_enter Try.func21, Try.ntmps21
    go_wp2_with (first | (go_at_call 15; refine (cleanPrice_spec _ _).mono ?_; rw [HP.out]; rintro e w' ⟨rfl, rfl⟩) | (go_at_call 34; refine (l1In_c _ _ _ _).mono ?_; rintro e w' ⟨rfl, rfl⟩))
    all_goals (go_ret; exact ⟨ret_int (by unfold creditStep; rw [HP.out, if_pos (by omega)]), rfl⟩)
theorem creditStep_range (c n f : Int) : -1 ≤ creditStep c n f ∧ creditStep c n f ≤ 100 := by
  unfold creditStep
  split
  · omega
  · have hm : 0 ≤ n * cleanPrice f := Int.mul_nonneg (by omega) (by omega)
    omega
def writeShare (a m : Int) : Int := if a < 1 ∨ 1000 < a ∨ m < 0 ∨ 1000 < m then -1 else (a + m) * 100 / a
theorem writeShare_impl (a m : Int) (w : World) : Calls Try.prog 20 #[.int .i64 a, .int .i64 m] w fun e w' => e = .returned (.int .i64 (writeShare a m)) ∧ w = w' := by
  by_cases h : 1 ≤ a ∧ 0 ≤ m ∧ a ≤ 1000 ∧ m ≤ 1000
  · obtain ⟨h1, h2, h3, h4⟩ := h
    have hq1 : 0 ≤ (a + m) * 100 / a := Int.ediv_nonneg (by omega) (by omega)
    have hq2 : (a + m) * 100 / a ≤ 200000 := Int.ediv_le_of_le_mul (by omega) (by omega)
    go_enter Try.func20, Try.ntmps20
    go_wp2
    all_goals (go_ret; exact ⟨ret_int (by unfold writeShare; split <;> first | omega | rfl), rfl⟩)
  · go_enter Try.func20, Try.ntmps20
    go_wp2
    all_goals (go_ret; exact ⟨ret_int (by unfold writeShare; rw [if_pos (by omega)]), rfl⟩)
theorem writeShare_spec (a m : Int) (w : World) : Calls Try.prog 19 #[.int .i64 a, .int .i64 m] w fun e w' => e = .returned (.int .i64 (writeShare a m)) ∧ w = w' := by
  rcases Bool.eq_false_or_eq_true (inB a 1 1000) with h | h <;> rcases Bool.eq_false_or_eq_true (inB m 0 1000) with h' | h'
  all_goals
    have g := h
    have g' := h'
    first | rw [inB_t] at g | rw [inB_f] at g
    first | rw [inB_t] at g' | rw [inB_f] at g'
  · have hq1 : 0 ≤ (a + m) * 100 / a := Int.ediv_nonneg (by omega) (by omega)
    have hq2 : (a + m) * 100 / a ≤ 200000 := Int.ediv_le_of_le_mul (by omega) (by omega)
    obtain ⟨g1, g2⟩ := g
    obtain ⟨g3, g4⟩ := g'
    go_enter Try.func19, Try.ntmps19
    go_wp2_with (go_at_call 34; refine (l1In_c _ _ _ _).mono ?_; rintro e w' ⟨rfl, rfl⟩)
    all_goals (go_ret; exact ⟨ret_int (by unfold writeShare; split <;> first | omega | rfl), rfl⟩)
  all_goals
    go_enter Try.func19, Try.ntmps19
    go_wp2_with (go_at_call 34; refine (l1In_c _ _ _ _).mono ?_; rintro e w' ⟨rfl, rfl⟩)
    all_goals (go_ret; exact ⟨ret_int (by unfold writeShare; rw [if_pos (by omega)]), rfl⟩)
def hideStream (k p : Int) : Int := if k < 0 ∨ 9999 < k ∨ p < 0 ∨ 1000000 < p then -1 else (37 * k + 101 * p + 11) % 10007 % 10000
theorem hideStream_range (k p : Int) : -1 ≤ hideStream k p ∧ hideStream k p ≤ 9999 := by unfold hideStream; split <;> omega
theorem hideStream_impl (k p : Int) (w : World) : Calls Try.prog 18 #[.int .i64 k, .int .i64 p] w fun e w' => e = .returned (.int .i64 (hideStream k p)) ∧ w = w' := by
  go_enter Try.func18, Try.ntmps18
  go_wp2
  all_goals (go_ret; exact ⟨ret_int (by unfold hideStream; split <;> omega), rfl⟩)
theorem hideStream_spec (k p : Int) (w : World) : Calls Try.prog 17 #[.int .i64 k, .int .i64 p] w fun e w' => e = .returned (.int .i64 (hideStream k p)) ∧ w = w' := by
  rcases Bool.eq_false_or_eq_true (inB k 0 9999) with h | h <;> rcases Bool.eq_false_or_eq_true (inB p 0 1000000) with h' | h'
  all_goals
    have g := h
    have g' := h'
    first | rw [inB_t] at g | rw [inB_f] at g
    first | rw [inB_t] at g' | rw [inB_f] at g'
    go_enter Try.func17, Try.ntmps17
    go_wp2_with (go_at_call 34; refine (l1In_c _ _ _ _).mono ?_; rintro e w' ⟨rfl, rfl⟩)
    all_goals (go_ret; exact ⟨ret_int (by unfold hideStream; split <;> omega), rfl⟩)
def hideValue (k p v : Int) : Int := if hideStream k p < 0 ∨ v < 0 ∨ 9999 < v then -1 else (hideStream k p + v) % 10000
theorem hideValue_range (k p v : Int) : -1 ≤ hideValue k p v ∧ hideValue k p v ≤ 9999 := by unfold hideValue; split <;> omega
theorem hideValue_impl (k p v : Int) (w : World) : Calls Try.prog 24 #[.int .i64 k, .int .i64 p, .int .i64 v] w fun e w' => e = .returned (.int .i64 (hideValue k p v)) ∧ w = w' := by
  have hr := hideStream_range k p
  obtain ⟨s, hp⟩ : ∃ s, hideStream k p = s := ⟨_, rfl⟩
  rw [hp] at hr
  have HP := Lib.hid hp; clear hp
  go_enter Try.func24, Try.ntmps24
  go_wp2_with (go_at_call 18; refine (hideStream_impl _ _ _).mono ?_; rw [HP.out]; rintro e w' ⟨rfl, rfl⟩)
  all_goals (go_ret; exact ⟨ret_int (by unfold hideValue; rw [HP.out]; split <;> omega), rfl⟩)
theorem hideValue_spec (k p v : Int) (w : World) : Calls Try.prog 23 #[.int .i64 k, .int .i64 p, .int .i64 v] w fun e w' => e = .returned (.int .i64 (hideValue k p v)) ∧ w = w' := by
  have hr := hideStream_range k p
  obtain ⟨s, hp⟩ : ∃ s, hideStream k p = s := ⟨_, rfl⟩
  rw [hp] at hr
  have HP := Lib.hid hp; clear hp
  rcases Bool.eq_false_or_eq_true (inB v 0 9999) with h | h
  all_goals
    have g := h
    first | rw [inB_t] at g | rw [inB_f] at g
    by_cases h1 : s < 0
  all_goals
    go_enter Try.func23, Try.ntmps23
    go_wp2_with (first | (go_at_call 17; refine (hideStream_spec _ _ _).mono ?_; rw [HP.out]; rintro e w' ⟨rfl, rfl⟩) | (go_at_call 34; refine (l1In_c _ _ _ _).mono ?_; rintro e w' ⟨rfl, rfl⟩))
    all_goals (go_ret; exact ⟨ret_int (by unfold hideValue; rw [HP.out]; split <;> omega), rfl⟩)
def showValue (k p v : Int) : Int := if hideStream k p < 0 ∨ v < 0 ∨ 9999 < v then -1 else (v - hideStream k p + 10000) % 10000
theorem showValue_range (k p v : Int) : -1 ≤ showValue k p v ∧ showValue k p v ≤ 9999 := by unfold showValue; split <;> omega
theorem showValue_impl (k p v : Int) (w : World) : Calls Try.prog 26 #[.int .i64 k, .int .i64 p, .int .i64 v] w fun e w' => e = .returned (.int .i64 (showValue k p v)) ∧ w = w' := by
  have hr := hideStream_range k p
  obtain ⟨s, hp⟩ : ∃ s, hideStream k p = s := ⟨_, rfl⟩
  rw [hp] at hr
  have HP := Lib.hid hp; clear hp
  go_enter Try.func26, Try.ntmps26
  go_wp2_with (go_at_call 18; refine (hideStream_impl _ _ _).mono ?_; rw [HP.out]; rintro e w' ⟨rfl, rfl⟩)
  all_goals (go_ret; exact ⟨ret_int (by unfold showValue; rw [HP.out]; split <;> omega), rfl⟩)
theorem showValue_spec (k p v : Int) (w : World) : Calls Try.prog 25 #[.int .i64 k, .int .i64 p, .int .i64 v] w fun e w' => e = .returned (.int .i64 (showValue k p v)) ∧ w = w' := by
  have hr := hideStream_range k p
  obtain ⟨s, hp⟩ : ∃ s, hideStream k p = s := ⟨_, rfl⟩
  rw [hp] at hr
  have HP := Lib.hid hp; clear hp
  rcases Bool.eq_false_or_eq_true (inB v 0 9999) with h | h
  all_goals
    have g := h
    first | rw [inB_t] at g | rw [inB_f] at g
    by_cases h1 : s < 0
  all_goals
    go_enter Try.func25, Try.ntmps25
    go_wp2_with (first | (go_at_call 17; refine (hideStream_spec _ _ _).mono ?_; rw [HP.out]; rintro e w' ⟨rfl, rfl⟩) | (go_at_call 34; refine (l1In_c _ _ _ _).mono ?_; rintro e w' ⟨rfl, rfl⟩))
    all_goals (go_ret; exact ⟨ret_int (by unfold showValue; rw [HP.out]; split <;> omega), rfl⟩)
end Go.Proofs.Ytggagpojgoimoaa
