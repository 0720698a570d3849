/- Contracts of the program's OrderRight. -/
import Derived.Test.YtcaagjepiicleaaOrder
namespace Go.Proofs.Ytcaagjepiicleaa
open Go.ChangeShapes Go.WideShapes Go.ChangeAt Go.RowKit
set_option linter.unusedVariables false
set_option linter.unusedSimpArgs false

theorem quiet_add_left_d {P : Program} {f : FuncId} {args : Array Value} {w : World} {a n : Nat} {v : Value}
    (h : Calls P f args (w.drewN (a + n)) fun e w' => e = .returned v ∧ ∃ m, w' = (w.drewN (a + n)).drewN m) : Calls P f args (w.drewN (a + n)) fun e w'' => e = .returned v ∧ ∃ m, w'' = w.drewN (a + m) :=
  h.mono fun _ _ ⟨he, m, hm⟩ => ⟨he, n + m, by rw [hm, World.drewN_drewN, Nat.add_assoc]⟩

theorem orderRight_impl {A A' : Option Addr} {n c n' c' B B' : Nat} {xs ys : List Int} {w : World} (hr : RdI .i64 w B A n xs) (hnc : n ≤ c) (hcm : c ≤ 9223372036854775807)
    (hr' : RdI .i64 w B' A' n' ys) (hnc' : n' ≤ c') (hcm' : c' ≤ 9223372036854775807) :
    Calls Try.prog 21 #[.slice A n c, .slice A' n' c'] w fun e w' => e = .returned (.bool (bof (OrdOk xs ys))) ∧ ∃ m, w' = w.drewN m := by
  have HL := Lib.hid hr.len
  have HL' := Lib.hid hr'.len
  rcases Bool.eq_false_or_eq_true (bof (Once xs ys)) with hb | hb
  · have HON := Lib.hid (bof_t.1 hb)
    have hn16 : n ≤ 16 := by have := HON.out.1.1; have := HL.out; omega
    have hn16' : n' ≤ 16 := by have := once_len HON.out; have := HL'.out; omega
    go_enter Try.func21, Try.ntmps21
    go_wp2_with (go_at_call 32; refine (onceEach_c hr hnc hcm hr' hnc' hcm').mono ?_; rintro e w' ⟨rfl, rfl⟩)
    clear hb
    go_loop [14] (fun i => ∃ k : Nat, k ≤ n ∧ i = .int .i64 k ∧ AllIn xs ys k) (fun i => n - (intOf i).toNat)
    case atStart => exact ⟨0, Nat.zero_le _, rfl, fun i h => absurd h (Nat.not_lt_zero _)⟩
    case round =>
      obtain ⟨k, hk, rfl, hpre⟩ := hrel
      have HP := Lib.hid hpre
      clear hpre
      by_cases hlt : k < n
      · obtain ⟨b, off, rfl, hbB, hc⟩ := hr.at_ (by omega)
        have hc1 := hc k hlt
        obtain ⟨x, hx⟩ : ∃ x, xs.getD k 0 = x := ⟨_, rfl⟩
        rw [hx] at hc1
        have HX := Lib.hid hx
        clear hx hc
        by_cases hpos : 0 < x
        · rcases Bool.eq_false_or_eq_true (bof (x ∈ ys)) with hb | hb
          · have HB := Lib.hid (bof_t.1 hb)
            go_wp2_with (go_at_call 27; refine (contains_c hr' (by omega)).mono ?_; rintro e w' ⟨rfl, rfl⟩)
            go_round
            case rel =>
              refine ⟨k + 1, by omega, by go_num, fun i hi h0 => ?_⟩
              by_cases e : i = k
              · subst e; rw [HX.out]; exact HB.out
              · exact HP.out i (by omega) h0
            case measure => simp [intOf]; omega
          · have HB := Lib.hid (bof_f.1 hb)
            have HNO := Lib.hid (show ¬ OrdOk xs ys from fun h => HB.out (by
              have := h.2.1 k (by have := HL.out; omega) (by rw [HX.out]; exact hpos)
              rwa [HX.out] at this))
            go_wp2_with (go_at_call 27; refine (contains_c hr' (by omega)).mono ?_; rintro e w' ⟨rfl, rfl⟩)
            go_ret
            exact ⟨ret_bof_f HNO.out, 0, rfl⟩
        · have hd : decide (0 < x) = false := by simp; omega
          go_wp2
          go_round
          case rel =>
            refine ⟨k + 1, by omega, by go_num, fun i hi h0 => ?_⟩
            by_cases e : i = k
            · subst e; rw [HX.out] at h0; exact absurd h0 hpos
            · exact HP.out i (by omega) h0
          case measure => simp [intOf]; omega
      · have hkn : k = n := by omega
        subst hkn
        clear hlt
        go_wp2
        go_loopw [7] (fun i wr => ∃ j : Nat, 1 ≤ j ∧ (j ≤ n' ∨ j = 1) ∧ i = .int .i64 j ∧ UpTo xs ys j ∧ ∃ m, wr = w.drewN m) (fun i _ => n' + 1 - (intOf i).toNat)
        case atStart => exact ⟨1, by omega, .inr rfl, rfl, fun i h1 h2 => absurd h2 (by omega), 0, rfl⟩
        case round =>
          obtain ⟨j, hj1, hj2, rfl, hup, m, rfl⟩ := hrel
          have HU := Lib.hid hup
          clear hup
          by_cases hlt : j < n'
          · obtain ⟨b, off, rfl, hbB, hc⟩ := hr'.at_ (by omega)
            have hc1 := hc j hlt
            have hc2 := hc (j - 1) (by omega)
            have hw1 : IntKind.i64.wrap ((j : Int) - 1) = (j : Int) - 1 := IntWalk.i64_in _ (by omega)
            have hw3 : (0 : Int) ≤ (j : Int) - 1 := by omega
            have hw4 : ((j : Int) - 1).toNat = j - 1 := by omega
            have hw5 : (j : Int) - 1 < (n' : Int) := by omega
            obtain ⟨x, hx⟩ : ∃ x, ys.getD j 0 = x := ⟨_, rfl⟩
            obtain ⟨y, hy⟩ : ∃ y, ys.getD (j - 1) 0 = y := ⟨_, rfl⟩
            rw [hx] at hc1
            rw [hy] at hc2
            have HX := Lib.hid hx
            have HY := Lib.hid hy
            clear hx hy hc
            by_cases hlt2 : epochOf xs x < epochOf xs y
            · have HNO := Lib.hid (show ¬ OrdOk xs ys from fun h => by
                have := h.2.2 j (by omega) (by have := HL'.out; omega)
                rw [HX.out, HY.out] at this; omega)
              go_wp2
              go_quiet ((go_at_call 16; exact quiet_add_left (epochOf_impl (hr.drewN _) hnc hcm)))
              go_wp2
              go_ret
              exact ⟨ret_bof_f HNO.out, m + nq, by first | rfl | rw [World.drewN_drewN]⟩
            · go_wp2
              go_quiet ((go_at_call 16; exact quiet_add_left (epochOf_impl (hr.drewN _) hnc hcm)))
              go_wp2
              go_roundw
              case rel =>
                refine ⟨j + 1, by omega, .inl (by omega), by go_num, fun i h1 h2 => ?_, m + nq, by first | rfl | rw [World.drewN_drewN]⟩
                by_cases e : i = j
                · subst e; rw [HX.out, HY.out]; omega
                · exact HU.out i h1 (by omega)
              case measure => simp [intOf]; omega
          · have HY := Lib.hid (show OrdOk xs ys from ⟨HON.out, by rw [HL.out]; exact HP.out, fun i h1 h2 => HU.out i h1 (by have := HL'.out; omega)⟩)
            go_wp2
            go_ret
            exact ⟨ret_bof_t HY.out, m, rfl⟩
  · have HE := Lib.hid (show ¬ OrdOk xs ys from fun h => bof_f.1 hb h.1)
    go_enter Try.func21, Try.ntmps21
    go_wp2_with (go_at_call 32; refine (onceEach_c hr hnc hcm hr' hnc' hcm').mono ?_; rintro e w' ⟨rfl, rfl⟩)
    go_ret
    exact ⟨ret_bof_f HE.out, 0, rfl⟩
end Go.Proofs.Ytcaagjepiicleaa
