/- Contracts of ShareRun, the program's and the reference's. Condition: at most 2^20 entries each. -/
import Derived.Test.YtiojgofkilojmaaList
import Derived.Test.YtiojgofkilojmaaInts
namespace Go.Proofs.Ytiojgofkilojmaa
open Go.ChangeShapes Go.WideShapes Go.ChangeAt Go.RowKit
set_option linter.unusedVariables false
set_option linter.unusedSimpArgs false

def Shr1 (x : Int) : Prop := 0 ≤ x ∧ x ≤ 1000
def ShrTo (xs ys : List Int) (k : Nat) : Prop := ∀ i, i < k → Shr1 (xs.getD i 0) ∧ Shr1 (ys.getD i 0)
def ShrOk (xs ys : List Int) : Prop := xs.length = ys.length ∧ xs.length ≤ 20 ∧ ShrTo xs ys xs.length
theorem ShrTo.zero (xs ys : List Int) : ShrTo xs ys 0 := fun i h => absurd h (Nat.not_lt_zero _)
theorem ShrTo.succ {xs ys : List Int} {k : Nat} (h : ShrTo xs ys k) (h1 : Shr1 (xs.getD k 0)) (h2 : Shr1 (ys.getD k 0)) : ShrTo xs ys (k + 1) := by
  intro i hi
  by_cases e : i = k
  · subst e; exact ⟨h1, h2⟩
  · exact h i (by omega)
def sumTo (xs : List Int) : Nat → Int
  | 0 => 0
  | k + 1 => sumTo xs k + xs.getD k 0
theorem sumTo_range {xs ys : List Int} {n : Nat} (h : ShrTo xs ys n) : ∀ k, k ≤ n → (0 ≤ sumTo xs k ∧ sumTo xs k ≤ 1000 * k) ∧ (0 ≤ sumTo ys k ∧ sumTo ys k ≤ 1000 * k)
  | 0, _ => by unfold sumTo; omega
  | k + 1, hk => by
    have := sumTo_range h k (by omega)
    have h2 := h k (by omega)
    unfold Shr1 at h2
    unfold sumTo
    omega
open Classical in
noncomputable def shareRun (xs ys : List Int) : Int := if ShrOk xs ys then (if sumTo xs xs.length = 0 then 0 else (sumTo xs xs.length + sumTo ys xs.length) * 100 / sumTo xs xs.length) else -1
theorem shareRun_no {xs ys : List Int} (h : ¬ ShrOk xs ys) : shareRun xs ys = -1 := by unfold shareRun; rw [if_neg h]
theorem shareRun_zero {xs ys : List Int} (h : ShrOk xs ys) (h0 : sumTo xs xs.length = 0) : shareRun xs ys = 0 := by unfold shareRun; rw [if_pos h, if_pos h0]
theorem shareRun_yes {xs ys : List Int} (h : ShrOk xs ys) (h0 : sumTo xs xs.length ≠ 0) : shareRun xs ys = (sumTo xs xs.length + sumTo ys xs.length) * 100 / sumTo xs xs.length := by unfold shareRun; rw [if_pos h, if_neg h0]

theorem shareOf_c (a m : Int) (w : World) (h1 : 1 ≤ a) (h2 : a ≤ 20000) (h3 : 0 ≤ m) (h4 : m ≤ 20000) : Calls Try.prog 22 #[.int .i64 a, .int .i64 m] w fun e w' => e = .returned (.int .i64 ((a + m) * 100 / a)) ∧ w = w' := by
  have hq1 : 0 ≤ (a + m) * 100 / a := Int.ediv_nonneg (by omega) (by omega)
  have hq2 : (a + m) * 100 / a ≤ 4000000 := Int.ediv_le_of_le_mul (by omega) (by omega)
  go_enter Try.func22, Try.ntmps22
  go_wp2
  go_ret
  exact ⟨rfl, rfl⟩

theorem shareRun_impl {A A' : Option Addr} {n c n' c' B B' : Nat} {xs ys : List Int} {w : World} (hr : RdI .i64 w B A n xs) (hn : n ≤ 1048576) (hr' : RdI .i64 w B' A' n' ys) (hn' : n' ≤ 1048576) :
    Calls Try.prog 9 #[.slice A n c, .slice A' n' c'] w fun e w' => e = .returned (.int .i64 (shareRun xs ys)) ∧ w = w' := by
  have HL := Lib.hid hr.len
  have HL' := Lib.hid hr'.len
  by_cases hne : n = n'
  · subst hne
    by_cases h20 : 20 < n
    · have HE := Lib.hid (shareRun_no (show ¬ ShrOk xs ys from fun h => by have := h.2.1; have := HL.out; omega))
      go_enter Try.func9, Try.ntmps9
      go_wp2
      go_ret
      exact ⟨ret_int HE.out.symm, rfl⟩
    · go_enter Try.func9, Try.ntmps9
      go_wp2
      go_loop [5, 6, 21] (fun p q i => ∃ k : Nat, k ≤ n ∧ i = .int .i64 k ∧ ShrTo xs ys k ∧ p = .int .i64 (sumTo xs k) ∧ q = .int .i64 (sumTo ys k)) (fun _ _ i => n - (intOf i).toNat)
      case atStart => exact ⟨0, Nat.zero_le _, rfl, ShrTo.zero _ _, rfl, rfl⟩
      case round =>
        obtain ⟨k, hk, rfl, hto, rfl, rfl⟩ := hrel
        have HT := Lib.hid hto
        obtain ⟨⟨hr1, hr2⟩, hr3, hr4⟩ := sumTo_range hto k (Nat.le_refl _)
        clear hto
        by_cases hlt : k < n
        · obtain ⟨b, off, rfl, hbB, hc⟩ := hr.at_ (by omega)
          obtain ⟨b', off', rfl, hbB', hc'⟩ := hr'.at_ (by omega)
          have hc1 := hc k hlt
          have hc2 := hc' k hlt
          have HS := Lib.hid (show sumTo xs (k + 1) = sumTo xs k + xs.getD k 0 from rfl)
          have HS' := Lib.hid (show sumTo ys (k + 1) = sumTo ys k + ys.getD k 0 from rfl)
          have HNO := Lib.hid (show ¬ (Shr1 (xs.getD k 0) ∧ Shr1 (ys.getD k 0)) → shareRun xs ys = -1 from fun h => shareRun_no (fun hok => h (hok.2.2 k (by have := HL.out; omega))))
          have HSU := Lib.hid (fun h1 h2 => HT.out.succ (k := k) h1 h2)
          generalize xs.getD k 0 = x at *
          generalize ys.getD k 0 = y at *
          generalize sumTo xs k = a at *
          generalize sumTo ys k = m at *
          clear hc hc' hr hr'
          by_cases h1 : x < 0
          · go_wp2
            go_ret
            exact ⟨ret_int (HNO.out (fun h => by have := h.1.1; omega)).symm, rfl⟩
          by_cases h2 : 1000 < x
          · go_wp2
            go_ret
            exact ⟨ret_int (HNO.out (fun h => by have := h.1.2; omega)).symm, rfl⟩
          by_cases h3 : y < 0
          · go_wp2
            go_ret
            exact ⟨ret_int (HNO.out (fun h => by have := h.2.1; omega)).symm, rfl⟩
          by_cases h4 : 1000 < y
          · go_wp2
            go_ret
            exact ⟨ret_int (HNO.out (fun h => by have := h.2.2; omega)).symm, rfl⟩
          go_wp2
          go_round
          case rel => exact ⟨k + 1, by omega, by go_num, HSU.out ⟨by omega, by omega⟩ ⟨by omega, by omega⟩, by rw [HS.out], by rw [HS'.out]⟩
          case measure => simp [intOf]; omega
        · have hkn : k = n := by omega
          subst hkn
          have hok : ShrOk xs ys := ⟨by rw [HL.out, HL'.out], by rw [HL.out]; omega, by rw [HL.out]; exact HT.out⟩
          have hz := shareRun_zero hok
          have hy := shareRun_yes hok
          rw [HL.out] at hz hy
          have HZ := Lib.hid hz
          have HY := Lib.hid hy
          clear hz hy hok
          generalize sumTo xs k = a at *
          generalize sumTo ys k = m at *
          by_cases ha : a = 0
          · have HE := Lib.hid (HZ.out ha)
            subst ha
            go_wp2
            go_ret
            exact ⟨ret_int HE.out.symm, rfl⟩
          · have HE := Lib.hid (HY.out ha)
            have hq : (a == 0) = false := by simp [ha]
            go_wp2_with (go_at_call 22; refine (shareOf_c _ _ _ (by omega) (by omega) (by omega) (by omega)).mono ?_; rintro e w' ⟨rfl, rfl⟩)
            go_ret
            exact ⟨ret_int HE.out.symm, rfl⟩
  · have hq1 : ((n : Int) == (n' : Int)) = false := by simp; omega
    have hq2 : ((n : Int) != (n' : Int)) = true := by simp; omega
    have HE := Lib.hid (shareRun_no (show ¬ ShrOk xs ys from fun h => by have := h.1; have := HL.out; have := HL'.out; omega))
    clear hne
    go_enter Try.func9, Try.ntmps9
    go_wp2
    go_ret
    exact ⟨ret_int HE.out.symm, rfl⟩

theorem shareRun_spec {A A' : Option Addr} {n c n' c' B B' : Nat} {xs ys : List Int} {w : World} (hr : RdI .i64 w B A n xs) (hn : n ≤ 1048576) (hr' : RdI .i64 w B' A' n' ys) (hn' : n' ≤ 1048576) :
    Calls Try.prog 7 #[.slice A n c, .slice A' n' c'] w fun e w' => e = .returned (.int .i64 (shareRun xs ys)) ∧ w = w' := by
  have HL := Lib.hid hr.len
  have HL' := Lib.hid hr'.len
  by_cases hne : n = n'
  · subst hne
    by_cases h20 : 20 < n
    · have HE := Lib.hid (shareRun_no (show ¬ ShrOk xs ys from fun h => by have := h.2.1; have := HL.out; omega))
      go_enter Try.func7, Try.ntmps7
      go_wp2
      go_ret
      exact ⟨ret_int HE.out.symm, rfl⟩
    · go_enter Try.func7, Try.ntmps7
      go_wp2
      go_loop [5, 6, 7] (fun p q i => ∃ k : Nat, k ≤ n ∧ i = .int .i64 k ∧ ShrTo xs ys k ∧ p = .int .i64 (sumTo xs k) ∧ q = .int .i64 (sumTo ys k)) (fun _ _ i => n - (intOf i).toNat)
      case atStart => exact ⟨0, Nat.zero_le _, rfl, ShrTo.zero _ _, rfl, rfl⟩
      case round =>
        obtain ⟨k, hk, rfl, hto, rfl, rfl⟩ := hrel
        have HT := Lib.hid hto
        obtain ⟨⟨hr1, hr2⟩, hr3, hr4⟩ := sumTo_range hto k (Nat.le_refl _)
        clear hto
        by_cases hlt : k < n
        · obtain ⟨b, off, rfl, hbB, hc⟩ := hr.at_ (by omega)
          obtain ⟨b', off', rfl, hbB', hc'⟩ := hr'.at_ (by omega)
          have hc1 := hc k hlt
          have hc2 := hc' k hlt
          have HS := Lib.hid (show sumTo xs (k + 1) = sumTo xs k + xs.getD k 0 from rfl)
          have HS' := Lib.hid (show sumTo ys (k + 1) = sumTo ys k + ys.getD k 0 from rfl)
          have HNO := Lib.hid (show ¬ (Shr1 (xs.getD k 0) ∧ Shr1 (ys.getD k 0)) → shareRun xs ys = -1 from fun h => shareRun_no (fun hok => h (hok.2.2 k (by have := HL.out; omega))))
          have HSU := Lib.hid (fun h1 h2 => HT.out.succ (k := k) h1 h2)
          generalize xs.getD k 0 = x at *
          generalize ys.getD k 0 = y at *
          generalize sumTo xs k = a at *
          generalize sumTo ys k = m at *
          clear hc hc' hr hr'
          rcases Bool.eq_false_or_eq_true (inB x 0 1000) with hb | hb
          · obtain ⟨hx1, hx2⟩ := inB_t.1 hb
            rcases Bool.eq_false_or_eq_true (inB y 0 1000) with hb2 | hb2
            · obtain ⟨hy1, hy2⟩ := inB_t.1 hb2
              go_wp2_with (go_at_call 21; refine (l1In_c _ _ _ _).mono ?_; rintro e w' ⟨rfl, rfl⟩)
              go_round
              case rel => exact ⟨k + 1, by omega, by go_num, HSU.out ⟨by omega, by omega⟩ ⟨by omega, by omega⟩, by rw [HS.out], by rw [HS'.out]⟩
              case measure => simp [intOf]; omega
            · have HTT := Lib.hid (inB_f.1 hb2)
              go_wp2_with (go_at_call 21; refine (l1In_c _ _ _ _).mono ?_; rintro e w' ⟨rfl, rfl⟩)
              go_ret
              exact ⟨ret_int (HNO.out (fun h => by have h1 := h.2.1; have h2 := h.2.2; have := HTT.out; omega)).symm, rfl⟩
          · have HTT := Lib.hid (inB_f.1 hb)
            go_wp2_with (go_at_call 21; refine (l1In_c _ _ _ _).mono ?_; rintro e w' ⟨rfl, rfl⟩)
            go_ret
            exact ⟨ret_int (HNO.out (fun h => by have h1 := h.1.1; have h2 := h.1.2; have := HTT.out; omega)).symm, rfl⟩
        · have hkn : k = n := by omega
          subst hkn
          have hok : ShrOk xs ys := ⟨by rw [HL.out, HL'.out], by rw [HL.out]; omega, by rw [HL.out]; exact HT.out⟩
          have hz := shareRun_zero hok
          have hy := shareRun_yes hok
          rw [HL.out] at hz hy
          have HZ := Lib.hid hz
          have HY := Lib.hid hy
          clear hz hy hok
          generalize sumTo xs k = a at *
          generalize sumTo ys k = m at *
          by_cases ha : a = 0
          · have HE := Lib.hid (HZ.out ha)
            subst ha
            go_wp2
            go_ret
            exact ⟨ret_int HE.out.symm, rfl⟩
          · have HE := Lib.hid (HY.out ha)
            have hq : (a == 0) = false := by simp [ha]
            have hq1 : 0 ≤ (a + m) * 100 / a := Int.ediv_nonneg (by omega) (by omega)
            have hq2 : (a + m) * 100 / a ≤ 4000000 := Int.ediv_le_of_le_mul (by omega) (by omega)
            go_wp2
            go_ret
            exact ⟨ret_int HE.out.symm, rfl⟩
  · have hq1 : ((n : Int) == (n' : Int)) = false := by simp; omega
    have hq2 : ((n : Int) != (n' : Int)) = true := by simp; omega
    have HE := Lib.hid (shareRun_no (show ¬ ShrOk xs ys from fun h => by have := h.1; have := HL.out; have := HL'.out; omega))
    clear hne
    go_enter Try.func7, Try.ntmps7
    go_wp2
    go_ret
    exact ⟨ret_int HE.out.symm, rfl⟩
end Go.Proofs.Ytiojgofkilojmaa
