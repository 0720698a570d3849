/- The walks of the laws over drawn integers: they return true whatever was drawn. -/
import Derived.Test.YtggagpojgoimoaaDraws
import Derived.Test.YtggagpojgoimoaaAlive
namespace Go.Proofs.Ytggagpojgoimoaa
open Go.ChangeShapes Go.WideShapes Go.ChangeAt Go.RowKit
set_option linter.unusedVariables false
set_option linter.unusedSimpArgs false

theorem fnCleanPrice_w (a0 : Option Addr) (len0 cap0 : Nat) (z0 : List Int) (w : World) (w0 : IsRow .u8 w a0 len0 cap0 z0) :
    Calls Try.prog 9 #[.slice a0 len0 cap0] w fun e w' => e = .returned (.bool true) ∧ Below w.heap.size w w' := by
  obtain ⟨h1, h2, h3, h4⟩ := bytes_ok w0
  by_cases hl : 1048576 < len0
  · go_enter Try.func9, Try.ntmps9
    go_wp2
    go_ret
    exact ⟨rfl, Below.refl _ _⟩
  · go_enter Try.func9, Try.ntmps9
    go_wp2_with fail
    refine (drawCleanPrice_c h3 h4 h1 h2).mono ?_
    rintro e w1 ⟨a, rfl, bel⟩
    clear h3 h4 w0
    have hr := cleanPrice_range a
    by_cases hA : cleanPrice a < 0
    · go_wp2_with (first | (go_at_call 16; refine (cleanPrice_impl _ _).mono ?_; rintro e w' ⟨rfl, rfl⟩) | (go_at_call 15; refine (cleanPrice_spec _ _).mono ?_; rintro e w' ⟨rfl, rfl⟩) | (go_at_call 28; refine (alive_c _).mono ?_; rintro e w' ⟨rfl, rfl⟩))
      go_ret
      exact ⟨rfl, bel⟩
    · have ha : 0 ≤ a ∧ a ≤ 12 := by
        unfold cleanPrice at hA; split at hA <;> omega
      obtain ⟨ha1, ha2⟩ := ha
      have hB : 0 ≤ cleanPrice a := by omega
      clear hA
      have hc1 : a < 12 → cleanPrice (a + 1) ≤ cleanPrice a ∧ cleanPrice a - 1 ≤ cleanPrice (a + 1) := by
        intro h; unfold cleanPrice; rw [if_neg (by omega), if_neg (by omega)]; omega
      by_cases hm : a = 12
      · clear hc1
        subst hm
        go_wp2_with (first | (go_at_call 16; refine (cleanPrice_impl _ _).mono ?_; rintro e w' ⟨rfl, rfl⟩) | (go_at_call 15; refine (cleanPrice_spec _ _).mono ?_; rintro e w' ⟨rfl, rfl⟩) | (go_at_call 28; refine (alive_c _).mono ?_; rintro e w' ⟨rfl, rfl⟩))
        go_ret
        exact ⟨rfl, bel⟩
      · obtain ⟨hc2, hc3⟩ := hc1 (by omega)
        have hm' : a < 12 := by omega
        clear hc1 hm
        go_wp2_with (first | (go_at_call 16; refine (cleanPrice_impl _ _).mono ?_; rintro e w' ⟨rfl, rfl⟩) | (go_at_call 15; refine (cleanPrice_spec _ _).mono ?_; rintro e w' ⟨rfl, rfl⟩) | (go_at_call 28; refine (alive_c _).mono ?_; rintro e w' ⟨rfl, rfl⟩))
        go_ret
        exact ⟨rfl, bel⟩
theorem fnHideStream_w (a0 : Option Addr) (len0 cap0 : Nat) (z0 : List Int) (w : World) (w0 : IsRow .u8 w a0 len0 cap0 z0) :
    Calls Try.prog 10 #[.slice a0 len0 cap0] w fun e w' => e = .returned (.bool true) ∧ Below w.heap.size w w' := by
  obtain ⟨h1, h2, h3, h4⟩ := bytes_ok w0
  by_cases hl : 1048576 < len0
  · go_enter Try.func10, Try.ntmps10
    go_wp2
    go_ret
    exact ⟨rfl, Below.refl _ _⟩
  · go_enter Try.func10, Try.ntmps10
    go_wp2_with fail
    refine (drawHideStream_c h3 h4 h1 h2).mono ?_
    rintro e w1 ⟨a, b, rfl, bel⟩
    clear h3 h4 w0
    have hr := hideStream_range a b
    obtain ⟨hr1, hr2⟩ := hr
    by_cases hA : hideStream a b < 0
    · go_wp2_with (first | (go_at_call 18; refine (hideStream_impl _ _ _).mono ?_; rintro e w' ⟨rfl, rfl⟩) | (go_at_call 17; refine (hideStream_spec _ _ _).mono ?_; rintro e w' ⟨rfl, rfl⟩) | (go_at_call 28; refine (alive_c _).mono ?_; rintro e w' ⟨rfl, rfl⟩))
      go_ret
      exact ⟨rfl, bel⟩
    · have ha : 0 ≤ a ∧ a ≤ 9999 ∧ 0 ≤ b ∧ b ≤ 1000000 := by
        unfold hideStream at hA; split at hA <;> omega
      obtain ⟨ha1, ha2, ha3, ha4⟩ := ha
      have hB : 0 ≤ hideStream a b := by omega
      clear hA
      by_cases hm : 1000000 < b + 10007
      · go_wp2_with (first | (go_at_call 18; refine (hideStream_impl _ _ _).mono ?_; rintro e w' ⟨rfl, rfl⟩) | (go_at_call 17; refine (hideStream_spec _ _ _).mono ?_; rintro e w' ⟨rfl, rfl⟩) | (go_at_call 28; refine (alive_c _).mono ?_; rintro e w' ⟨rfl, rfl⟩))
        go_ret
        exact ⟨rfl, bel⟩
      · have hc : (hideStream a (b + 10007) == hideStream a b) = true := by
          rw [beq_iff_eq]; unfold hideStream; rw [if_neg (by omega), if_neg (by omega)]
          have e : (37 * a + 101 * (b + 10007) + 11) % 10007 = (37 * a + 101 * b + 11) % 10007 := by omega
          rw [e]
        go_wp2_with (first | (go_at_call 18; refine (hideStream_impl _ _ _).mono ?_; rintro e w' ⟨rfl, rfl⟩) | (go_at_call 17; refine (hideStream_spec _ _ _).mono ?_; rintro e w' ⟨rfl, rfl⟩) | (go_at_call 28; refine (alive_c _).mono ?_; rintro e w' ⟨rfl, rfl⟩))
        go_ret
        exact ⟨rfl, bel⟩
theorem writeShare_ge (a m : Int) (h : 0 ≤ writeShare a m) : 1 ≤ a ∧ a ≤ 1000 ∧ 0 ≤ m ∧ m ≤ 1000 ∧ 100 ≤ writeShare a m ∧ writeShare a 0 = 100 ∧ (m < 1000 → writeShare a m ≤ writeShare a (m + 1)) := by
  have hb : 1 ≤ a ∧ a ≤ 1000 ∧ 0 ≤ m ∧ m ≤ 1000 := by unfold writeShare at h; split at h <;> omega
  obtain ⟨h1, h2, h3, h4⟩ := hb
  refine ⟨h1, h2, h3, h4, ?_, ?_, fun h5 => ?_⟩
  · unfold writeShare; rw [if_neg (by omega)]
    exact Int.le_ediv_of_mul_le (by omega) (by omega)
  · unfold writeShare; rw [if_neg (by omega)]
    rw [show (a + 0) * 100 = 100 * a from by omega]
    exact Int.mul_ediv_cancel _ (by omega)
  · unfold writeShare; rw [if_neg (by omega), if_neg (by omega)]
    exact Int.ediv_le_ediv (by omega) (by omega)
theorem fnWriteShare_w (a0 : Option Addr) (len0 cap0 : Nat) (z0 : List Int) (w : World) (w0 : IsRow .u8 w a0 len0 cap0 z0) :
    Calls Try.prog 11 #[.slice a0 len0 cap0] w fun e w' => e = .returned (.bool true) ∧ Below w.heap.size w w' := by
  obtain ⟨h1, h2, h3, h4⟩ := bytes_ok w0
  by_cases hl : 1048576 < len0
  · go_enter Try.func11, Try.ntmps11
    go_wp2
    go_ret
    exact ⟨rfl, Below.refl _ _⟩
  · go_enter Try.func11, Try.ntmps11
    go_wp2_with fail
    refine (drawWriteShare_c h3 h4 h1 h2).mono ?_
    rintro e w1 ⟨a, b, rfl, bel⟩
    clear h3 h4 w0
    have hr : -1 ≤ writeShare a b := by
      unfold writeShare; split
      · omega
      · have : 0 ≤ (a + b) * 100 / a := Int.ediv_nonneg (by omega) (by omega)
        omega
    by_cases hA : writeShare a b < 0
    · go_wp2_with (first | (go_at_call 20; refine (writeShare_impl _ _ _).mono ?_; rintro e w' ⟨rfl, rfl⟩) | (go_at_call 19; refine (writeShare_spec _ _ _).mono ?_; rintro e w' ⟨rfl, rfl⟩) | (go_at_call 28; refine (alive_c _).mono ?_; rintro e w' ⟨rfl, rfl⟩))
      go_ret
      exact ⟨rfl, bel⟩
    · have hB : 0 ≤ writeShare a b := by omega
      obtain ⟨ha1, ha2, ha3, ha4, hc1, hc2, hc3⟩ := writeShare_ge a b hB
      have hc2' : (writeShare a 0 == 100) = true := by rw [beq_iff_eq]; exact hc2
      clear hA hc2
      by_cases hm : b = 1000
      · clear hc3
        subst hm
        go_wp2_with (first | (go_at_call 20; refine (writeShare_impl _ _ _).mono ?_; rintro e w' ⟨rfl, rfl⟩) | (go_at_call 19; refine (writeShare_spec _ _ _).mono ?_; rintro e w' ⟨rfl, rfl⟩) | (go_at_call 28; refine (alive_c _).mono ?_; rintro e w' ⟨rfl, rfl⟩))
        go_ret
        exact ⟨rfl, bel⟩
      · have hc4 := hc3 (by omega)
        have hm' : b < 1000 := by omega
        clear hc3 hm
        go_wp2_with (first | (go_at_call 20; refine (writeShare_impl _ _ _).mono ?_; rintro e w' ⟨rfl, rfl⟩) | (go_at_call 19; refine (writeShare_spec _ _ _).mono ?_; rintro e w' ⟨rfl, rfl⟩) | (go_at_call 28; refine (alive_c _).mono ?_; rintro e w' ⟨rfl, rfl⟩))
        go_ret
        exact ⟨rfl, bel⟩
theorem fnCreditStep_w (a0 : Option Addr) (len0 cap0 : Nat) (z0 : List Int) (w : World) (w0 : IsRow .u8 w a0 len0 cap0 z0) :
    Calls Try.prog 12 #[.slice a0 len0 cap0] w fun e w' => e = .returned (.bool true) ∧ Below w.heap.size w w' := by
  obtain ⟨h1, h2, h3, h4⟩ := bytes_ok w0
  by_cases hl : 1048576 < len0
  · go_enter Try.func12, Try.ntmps12
    go_wp2
    go_ret
    exact ⟨rfl, Below.refl _ _⟩
  · go_enter Try.func12, Try.ntmps12
    go_wp2_with fail
    refine (drawCreditStep_c h3 h4 h1 h2).mono ?_
    rintro e w1 ⟨a, b, c, rfl, bel⟩
    clear h3 h4 w0
    obtain ⟨hr1, hr2⟩ := creditStep_range a b c
    by_cases hA : creditStep a b c < 0
    · go_wp2_with (first | (go_at_call 22; refine (creditStep_impl _ _ _ _).mono ?_; rintro e w' ⟨rfl, rfl⟩) | (go_at_call 21; refine (creditStep_spec _ _ _ _).mono ?_; rintro e w' ⟨rfl, rfl⟩) | (go_at_call 28; refine (alive_c _).mono ?_; rintro e w' ⟨rfl, rfl⟩))
      go_ret
      exact ⟨rfl, bel⟩
    · have ha : 0 ≤ a ∧ a ≤ 100 ∧ a ≤ creditStep a b c ∧ creditStep a 0 c = a := by
        unfold creditStep at hA ⊢
        split at hA
        · omega
        · rw [if_neg (by assumption), if_neg (by omega)]
          have hm : 0 ≤ b * cleanPrice c := Int.mul_nonneg (by omega) (by omega)
          omega
      obtain ⟨ha1, ha2, ha3, ha4⟩ := ha
      have hc : (creditStep a 0 c == a) = true := by rw [beq_iff_eq]; exact ha4
      have hB : 0 ≤ creditStep a b c := by omega
      clear hA ha4
      go_wp2_with (first | (go_at_call 22; refine (creditStep_impl _ _ _ _).mono ?_; rintro e w' ⟨rfl, rfl⟩) | (go_at_call 21; refine (creditStep_spec _ _ _ _).mono ?_; rintro e w' ⟨rfl, rfl⟩) | (go_at_call 28; refine (alive_c _).mono ?_; rintro e w' ⟨rfl, rfl⟩))
      go_ret
      exact ⟨rfl, bel⟩
theorem hideValue_law (a b c : Int) (hA : 0 ≤ hideValue a b c) : 0 ≤ c ∧ c ≤ 9999 ∧ showValue a b (hideValue a b c) = c ∧ hideValue a b ((c + 1) % 10000) ≠ hideValue a b c := by
  have hs := hideStream_range a b
  have hc : ¬ (hideStream a b < 0 ∨ c < 0 ∨ 9999 < c) := by
    intro h; unfold hideValue at hA; rw [if_pos h] at hA; omega
  have e1 : hideValue a b c = (hideStream a b + c) % 10000 := by unfold hideValue; rw [if_neg hc]
  have e2 : hideValue a b ((c + 1) % 10000) = (hideStream a b + (c + 1) % 10000) % 10000 := by unfold hideValue; rw [if_neg (by omega)]
  have e3 : showValue a b (hideValue a b c) = (hideValue a b c - hideStream a b + 10000) % 10000 := by unfold showValue; rw [if_neg (by rw [e1]; omega)]
  refine ⟨by omega, by omega, ?_, ?_⟩
  · rw [e3, e1]; omega
  · rw [e2, e1]; omega
theorem showValue_law (a b c : Int) (hA : 0 ≤ showValue a b c) : 0 ≤ c ∧ c ≤ 9999 ∧ hideValue a b (showValue a b c) = c := by
  have hs := hideStream_range a b
  have hc : ¬ (hideStream a b < 0 ∨ c < 0 ∨ 9999 < c) := by
    intro h; unfold showValue at hA; rw [if_pos h] at hA; omega
  have e1 : showValue a b c = (c - hideStream a b + 10000) % 10000 := by unfold showValue; rw [if_neg hc]
  have e3 : hideValue a b (showValue a b c) = (hideStream a b + showValue a b c) % 10000 := by unfold hideValue; rw [if_neg (by rw [e1]; omega)]
  refine ⟨by omega, by omega, ?_⟩
  rw [e3, e1]; omega
theorem fnHideValue_w (a0 : Option Addr) (len0 cap0 : Nat) (z0 : List Int) (w : World) (w0 : IsRow .u8 w a0 len0 cap0 z0) :
    Calls Try.prog 13 #[.slice a0 len0 cap0] w fun e w' => e = .returned (.bool true) ∧ Below w.heap.size w w' := by
  obtain ⟨h1, h2, h3, h4⟩ := bytes_ok w0
  by_cases hl : 1048576 < len0
  · go_enter Try.func13, Try.ntmps13
    go_wp2
    go_ret
    exact ⟨rfl, Below.refl _ _⟩
  · go_enter Try.func13, Try.ntmps13
    go_wp2_with fail
    refine (drawHideValue_c h3 h4 h1 h2).mono ?_
    rintro e w1 ⟨a, b, c, rfl, bel⟩
    clear h3 h4 w0
    obtain ⟨hr1, hr2⟩ := hideValue_range a b c
    by_cases hA : hideValue a b c < 0
    · go_wp2_with (first | (go_at_call 24; refine (hideValue_impl _ _ _ _).mono ?_; rintro e w' ⟨rfl, rfl⟩) | (go_at_call 23; refine (hideValue_spec _ _ _ _).mono ?_; rintro e w' ⟨rfl, rfl⟩) | (go_at_call 26; refine (showValue_impl _ _ _ _).mono ?_; rintro e w' ⟨rfl, rfl⟩) | (go_at_call 28; refine (alive_c _).mono ?_; rintro e w' ⟨rfl, rfl⟩))
      go_ret
      exact ⟨rfl, bel⟩
    · have ha := hideValue_law a b c (by omega)
      obtain ⟨ha1, ha2, ha3, ha4⟩ := ha
      have hc : (showValue a b (hideValue a b c) == c) = true := by rw [beq_iff_eq]; exact ha3
      have hd : (hideValue a b ((c + 1) % 10000) != hideValue a b c) = true := by rw [bne_iff_ne]; exact ha4
      have hB : 0 ≤ hideValue a b c := by omega
      clear hA ha3 ha4
      go_wp2_with (first | (go_at_call 24; refine (hideValue_impl _ _ _ _).mono ?_; rintro e w' ⟨rfl, rfl⟩) | (go_at_call 23; refine (hideValue_spec _ _ _ _).mono ?_; rintro e w' ⟨rfl, rfl⟩) | (go_at_call 26; refine (showValue_impl _ _ _ _).mono ?_; rintro e w' ⟨rfl, rfl⟩) | (go_at_call 28; refine (alive_c _).mono ?_; rintro e w' ⟨rfl, rfl⟩))
      go_ret
      exact ⟨rfl, bel⟩
theorem fnShowValue_w (a0 : Option Addr) (len0 cap0 : Nat) (z0 : List Int) (w : World) (w0 : IsRow .u8 w a0 len0 cap0 z0) :
    Calls Try.prog 14 #[.slice a0 len0 cap0] w fun e w' => e = .returned (.bool true) ∧ Below w.heap.size w w' := by
  obtain ⟨h1, h2, h3, h4⟩ := bytes_ok w0
  by_cases hl : 1048576 < len0
  · go_enter Try.func14, Try.ntmps14
    go_wp2
    go_ret
    exact ⟨rfl, Below.refl _ _⟩
  · go_enter Try.func14, Try.ntmps14
    go_wp2_with fail
    refine (drawShowValue_c h3 h4 h1 h2).mono ?_
    rintro e w1 ⟨a, b, c, rfl, bel⟩
    clear h3 h4 w0
    obtain ⟨hr1, hr2⟩ := showValue_range a b c
    by_cases hA : showValue a b c < 0
    · go_wp2_with (first | (go_at_call 26; refine (showValue_impl _ _ _ _).mono ?_; rintro e w' ⟨rfl, rfl⟩) | (go_at_call 25; refine (showValue_spec _ _ _ _).mono ?_; rintro e w' ⟨rfl, rfl⟩) | (go_at_call 24; refine (hideValue_impl _ _ _ _).mono ?_; rintro e w' ⟨rfl, rfl⟩) | (go_at_call 28; refine (alive_c _).mono ?_; rintro e w' ⟨rfl, rfl⟩))
      go_ret
      exact ⟨rfl, bel⟩
    · have ha := showValue_law a b c (by omega)
      obtain ⟨ha1, ha2, ha3⟩ := ha
      have hc : (hideValue a b (showValue a b c) == c) = true := by rw [beq_iff_eq]; exact ha3
      have hB : 0 ≤ showValue a b c := by omega
      clear hA ha3
      go_wp2_with (first | (go_at_call 26; refine (showValue_impl _ _ _ _).mono ?_; rintro e w' ⟨rfl, rfl⟩) | (go_at_call 25; refine (showValue_spec _ _ _ _).mono ?_; rintro e w' ⟨rfl, rfl⟩) | (go_at_call 24; refine (hideValue_impl _ _ _ _).mono ?_; rintro e w' ⟨rfl, rfl⟩) | (go_at_call 28; refine (alive_c _).mono ?_; rintro e w' ⟨rfl, rfl⟩))
      go_ret
      exact ⟨rfl, bel⟩
end Go.Proofs.Ytggagpojgoimoaa
