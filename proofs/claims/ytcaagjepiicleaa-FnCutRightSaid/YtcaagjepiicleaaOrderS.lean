/- Contract of the reference's OrderRight. -/
import Derived.Test.YtcaagjepiicleaaOrderI
namespace Go.Proofs.Ytcaagjepiicleaa
open Go.ChangeShapes Go.WideShapes Go.ChangeAt Go.RowKit
set_option linter.unusedVariables false
set_option linter.unusedSimpArgs false

theorem orderRight_spec {A A' : Option Addr} {n c n' c' B B' : Nat} {xs ys : List Int} {w : World} (hr : RdI .i64 w B A n xs) (hn : n ≤ 1048577)
    (hr' : RdI .i64 w B' A' n' ys) (hn' : n' ≤ 1048577) :
    Calls Try.prog 20 #[.slice A n c, .slice A' n' c'] w fun e w' => e = .returned (.bool (bof (OrdOk xs ys))) ∧ ∃ m, w' = w.drewN m := by
  have HL := Lib.hid hr.len
  have HL' := Lib.hid hr'.len
  go_enter Try.func20, Try.ntmps20
  go_wp2
  go_loop [5, 6] (fun p i => ∃ k : Nat, k ≤ n ∧ i = .int .i64 k ∧ p = .int .i64 (poss xs k : Nat)) (fun _ i => n - (intOf i).toNat)
  case atStart => exact ⟨0, Nat.zero_le _, rfl, rfl⟩
  case round =>
    obtain ⟨k, hk, rfl, rfl⟩ := hrel
    have hpl := poss_le xs k
    by_cases hlt : k < n
    · obtain ⟨b, off, rfl, hbB, hc⟩ := hr.at_ (by omega)
      have hc1 := hc k hlt
      have hps := poss_succ xs k (by have := HL.out; omega)
      generalize xs.getD k 0 = x at *
      clear hc hr
      by_cases hpos : 0 < x
      · rw [if_pos hpos] at hps
        have HPS := Lib.hid hps
        clear hps
        go_wp2
        go_round
        case rel => exact ⟨k + 1, by omega, by go_num, by rw [HPS.out]; go_num⟩
        case measure => simp [intOf]; omega
      · rw [if_neg hpos] at hps
        have HPS := Lib.hid hps
        clear hps
        go_wp2
        go_round
        case rel => exact ⟨k + 1, by omega, by go_num, by rw [HPS.out]; rfl⟩
        case measure => simp [intOf]; omega
    · have hkn : k = n := by omega
      subst hkn
      clear hlt hk
      rcases Bool.eq_false_or_eq_true (bof (LogOk xs)) with hb | hb
      · have HOK := Lib.hid (bof_t.1 hb)
        by_cases hm : n' = poss xs k
        · have hq1 : ((n' : Int) == (poss xs k : Nat)) = true := by simp [hm]
          have hq2 : ((n' : Int) != (poss xs k : Nat)) = false := by simp [hm]
          have HM := Lib.hid hm
          clear hm
          go_wp2_with (go_at_call 11; refine (logValid_spec hr (by omega)).mono ?_; rintro e w' ⟨rfl, m0, rfl⟩)
          clear hb hq1 hq2
          go_loopw [7] (fun i wr => ∃ k : Nat, k ≤ n' ∧ i = .int .i64 k ∧ OnceTo xs ys k ∧ UpTo xs ys k ∧ ∃ m, wr = w.drewN m) (fun i _ => n' - (intOf i).toNat)
          case atStart => exact ⟨0, Nat.zero_le _, rfl, OnceTo.zero _ _, fun i h1 h2 => absurd h2 (Nat.not_lt_zero _), m0, rfl⟩
          case round =>
            rename_i n0
            obtain ⟨k, hk, rfl, hpre, hup, m, rfl⟩ := hrel
            have HP := Lib.hid hpre
            have HU := Lib.hid hup
            clear hpre hup
            by_cases hlt : k < n'
            · obtain ⟨b, off, rfl, hbB, hc⟩ := hr'.at_ (by omega)
              have hc1 := hc k hlt
              have HC := Lib.hid hc
              obtain ⟨x, hx⟩ : ∃ x, ys.getD k 0 = x := ⟨_, rfl⟩
              rw [hx] at hc1
              have HX := Lib.hid hx
              clear hx hc
              by_cases he : epochOf xs x < 0
              · have HNO := Lib.hid (show ¬ OrdOk xs ys from fun h => by
                  have := h.1.2.1 k (by have := HL'.out; omega)
                  rw [HX.out] at this; omega)
                have hd1 : decide (epochOf xs x < 0) = true := by simp; omega
                go_wp2
                go_quiet ((go_at_call 15; exact quiet_add_left_d (epochOf_spec (hr.drewN _) (by omega))))
                go_wp2
                go_ret
                exact ⟨ret_bof_f HNO.out, m + nq, by first | rfl | rw [World.drewN_drewN]⟩
              · have hw0 : decide (epochOf xs x < 0) = false := by simp; omega
                by_cases hk0 : 0 < k
                · have hc2 := HC.out (k - 1) (by omega)
                  have hw1 : IntKind.i64.wrap ((k : Int) - 1) = (k : Int) - 1 := IntWalk.i64_in _ (by omega)
                  have hw3 : (0 : Int) ≤ (k : Int) - 1 := by omega
                  have hw4 : ((k : Int) - 1).toNat = k - 1 := by omega
                  have hw5 : (k : Int) - 1 < (n' : Int) := by omega
                  have hw6 : decide ((0 : Int) < (k : Int)) = true := by simp; omega
                  obtain ⟨y, hy⟩ : ∃ y, ys.getD (k - 1) 0 = y := ⟨_, rfl⟩
                  rw [hy] at hc2
                  have HY := Lib.hid hy
                  clear hy
                  by_cases hlt2 : epochOf xs x < epochOf xs y
                  · have HNO := Lib.hid (show ¬ OrdOk xs ys from fun h => by
                      have := h.2.2 k (by omega) (by have := HL'.out; omega)
                      rw [HX.out, HY.out] at this; omega)
                    go_wp2
                    go_quiet ((go_at_call 15; exact quiet_add_left_d (epochOf_spec (hr.drewN _) (by omega))))
                    go_wp2
                    go_ret
                    exact ⟨ret_bof_f HNO.out, m + nq, by first | rfl | rw [World.drewN_drewN]⟩
                  · go_wp2
                    go_quiet ((go_at_call 15; exact quiet_add_left_d (epochOf_spec (hr.drewN _) (by omega))))
                    go_wp2
                    clear hc2
                    go_loopw [8] (fun i wr => ∃ j : Nat, j ≤ k ∧ i = .int .i64 j ∧ (∀ t, t < j → ys.getD t 0 ≠ x) ∧ ∃ m, wr = w.drewN m) (fun i _ => k - (intOf i).toNat)
                    case atStart => exact ⟨0, Nat.zero_le _, rfl, fun t h => absurd h (Nat.not_lt_zero _), m + nq, by first | rfl | rw [World.drewN_drewN]⟩
                    case round =>
                      obtain ⟨j, hj, rfl, hne, m2, rfl⟩ := hrel
                      have HE := Lib.hid hne
                      clear hne
                      by_cases hjk : j < k
                      · have hc2 := HC.out j (by omega)
                        obtain ⟨z, hz⟩ : ∃ z, ys.getD j 0 = z := ⟨_, rfl⟩
                        rw [hz] at hc2
                        have HZ := Lib.hid hz
                        clear hz
                        by_cases hzx : z = x
                        · have HNO := Lib.hid (show ¬ OrdOk xs ys from fun h => h.1.2.2 k j hjk (by have := HL'.out; omega) (by rw [HX.out, HZ.out]; exact hzx))
                          subst hzx
                          go_wp2
                          go_quiet (fail)
                          go_wp2
                          go_ret
                          exact ⟨ret_bof_f HNO.out, m2 + nq, by first | rfl | rw [World.drewN_drewN]⟩
                        · have hq : (z == x) = false := by simp [hzx]
                          have HQ := Lib.hid hzx
                          clear hzx
                          go_wp2
                          go_quiet (fail)
                          go_wp2
                          go_roundw
                          case rel =>
                            refine ⟨j + 1, by omega, by go_num, fun t ht => ?_, m2 + nq, by first | rfl | rw [World.drewN_drewN]⟩
                            by_cases e : t = j
                            · subst e; rw [HZ.out]; exact HQ.out
                            · exact HE.out t (by omega)
                          case measure => simp [intOf]; omega
                      · have hjn : j = k := by omega
                        subst hjn
                        go_wp2
                        go_roundw
                        case rel => exact ⟨j + 1, by omega, by go_num, HP.out.succ (by rw [HX.out]; omega) (fun t ht => by rw [HX.out]; exact HE.out t ht), fun i h1 h2 => by
                              by_cases e : i = j
                              · subst e; rw [HX.out, HY.out]; omega
                              · exact HU.out i h1 (by omega), m2, rfl⟩
                        case measure => simp [intOf]; omega
                · have hkz : k = 0 := by omega
                  have hw6 : decide ((0 : Int) < (k : Int)) = false := by simp; omega
                  have hw7 : decide (0 < k) = false := by simp; omega
                  have HKZ := Lib.hid hkz
                  clear hkz hk0
                  go_wp2
                  go_quiet ((go_at_call 15; exact quiet_add_left_d (epochOf_spec (hr.drewN _) (by omega))))
                  go_wp2
                  go_loopw [8] (fun i wr => ∃ j : Nat, j ≤ k ∧ i = .int .i64 j ∧ (∀ t, t < j → ys.getD t 0 ≠ x) ∧ ∃ m, wr = w.drewN m) (fun i _ => k - (intOf i).toNat)
                  case atStart => exact ⟨0, Nat.zero_le _, rfl, fun t h => absurd h (Nat.not_lt_zero _), m + nq, by first | rfl | rw [World.drewN_drewN]⟩
                  case round =>
                    obtain ⟨j, hj, rfl, hne, m2, rfl⟩ := hrel
                    have HE := Lib.hid hne
                    clear hne
                    by_cases hjk : j < k
                    · have hc2 := HC.out j (by omega)
                      obtain ⟨z, hz⟩ : ∃ z, ys.getD j 0 = z := ⟨_, rfl⟩
                      rw [hz] at hc2
                      have HZ := Lib.hid hz
                      clear hz
                      by_cases hzx : z = x
                      · have HNO := Lib.hid (show ¬ OrdOk xs ys from fun h => h.1.2.2 k j hjk (by have := HL'.out; omega) (by rw [HX.out, HZ.out]; exact hzx))
                        subst hzx
                        go_wp2
                        go_quiet (fail)
                        go_wp2
                        go_ret
                        exact ⟨ret_bof_f HNO.out, m2 + nq, by first | rfl | rw [World.drewN_drewN]⟩
                      · have hq : (z == x) = false := by simp [hzx]
                        have HQ := Lib.hid hzx
                        clear hzx
                        go_wp2
                        go_quiet (fail)
                        go_wp2
                        go_roundw
                        case rel =>
                          refine ⟨j + 1, by omega, by go_num, fun t ht => ?_, m2 + nq, by first | rfl | rw [World.drewN_drewN]⟩
                          by_cases e : t = j
                          · subst e; rw [HZ.out]; exact HQ.out
                          · exact HE.out t (by omega)
                        case measure => simp [intOf]; omega
                    · have hjn : j = k := by omega
                      subst hjn
                      go_wp2
                      go_roundw
                      case rel => exact ⟨j + 1, by omega, by go_num, HP.out.succ (by rw [HX.out]; omega) (fun t ht => by rw [HX.out]; exact HE.out t ht), fun i h1 h2 => by have := HKZ.out; omega, m2, rfl⟩
                      case measure => simp [intOf]; omega
            · have hkn : k = n' := by omega
              subst hkn
              have HY := Lib.hid (show OrdOk xs ys from by
                have h1 : Once xs ys := ⟨HOK.out, by rw [HL'.out]; exact HP.out⟩
                exact ⟨h1, (allIn_iff h1).2 (by rw [HL'.out, HL.out]; exact HM.out), by rw [HL'.out]; exact HU.out⟩)
              go_wp2
              go_ret
              exact ⟨ret_bof_t HY.out, m, rfl⟩
        · have hq1 : ((n' : Int) == (poss xs k : Nat)) = false := by simp; omega
          have hq2 : ((n' : Int) != (poss xs k : Nat)) = true := by simp; omega
          have HNO := Lib.hid (show ¬ OrdOk xs ys from fun h => hm (by have := (allIn_iff h.1).1 h.2.1; rwa [HL'.out, HL.out] at this))
          clear hm
          go_wp2_with (go_at_call 11; refine (logValid_spec hr (by omega)).mono ?_; rintro e w' ⟨rfl, m0, rfl⟩)
          go_ret
          exact ⟨ret_bof_f HNO.out, m0, rfl⟩
      · have HNO := Lib.hid (show ¬ OrdOk xs ys from fun h => bof_f.1 hb h.1.1)
        go_wp2_with (go_at_call 11; refine (logValid_spec hr (by omega)).mono ?_; rintro e w' ⟨rfl, m0, rfl⟩)
        go_ret
        exact ⟨ret_bof_f HNO.out, m0, rfl⟩
end Go.Proofs.Ytcaagjepiicleaa
