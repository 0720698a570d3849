/- Contract of the reference's CutRight. -/
import Derived.Test.YtcaagjepiicleaaCutI
namespace Go.Proofs.Ytcaagjepiicleaa
open Go.ChangeShapes Go.WideShapes Go.ChangeAt Go.RowKit
set_option linter.unusedVariables false
set_option linter.unusedSimpArgs false

set_option maxRecDepth 8000 in
theorem cutRight_spec {A A' : Option Addr} {n c n' c' B B' : Nat} {xs ys : List Int} {w : World} (hr : RdI .i64 w B A n xs) (hn : n ≤ 1048577)
    (hr' : RdI .i64 w B' A' n' ys) (hn' : n' ≤ 1048577) :
    Calls Try.prog 22 #[.slice A n c, .slice A' n' c'] w fun e w' => e = .returned (.bool (bof (CutOk xs ys))) ∧ ∃ m, w' = w.drewN m := by
  have HL := Lib.hid hr.len
  have HL' := Lib.hid hr'.len
  rcases Bool.eq_false_or_eq_true (bof (LogOk xs)) with hb | hb
  · have HOK := Lib.hid (bof_t.1 hb)
    have hn16 : n ≤ 16 := by have := HOK.out.1; have := HL.out; omega
    go_enter Try.func22, Try.ntmps22
    go_wp2_with (go_at_call 11; refine (logValid_spec hr (by omega)).mono ?_; rintro e w' ⟨rfl, m0, rfl⟩)
    clear hb
    go_loopw [5] (fun i wr => ∃ k : Nat, k ≤ n' ∧ i = .int .i64 k ∧ OnceTo xs ys k ∧ (∀ t, t < k → Cov xs ys (epochOf xs (ys.getD t 0)) n) ∧ ∃ m, wr = w.drewN m) (fun i _ => n' - (intOf i).toNat)
    case atStart => exact ⟨0, Nat.zero_le _, rfl, OnceTo.zero _ _, fun t h => absurd h (Nat.not_lt_zero _), m0, rfl⟩
    case round =>
      obtain ⟨k, hk, rfl, hpre, hcv, m, rfl⟩ := hrel
      have HP := Lib.hid hpre
      have HV := Lib.hid hcv
      clear hpre hcv
      by_cases hlt : k < n'
      · obtain ⟨b', off', rfl, hbB', hc'⟩ := hr'.at_ (by omega)
        have hc1 := hc' k hlt
        have HC' := Lib.hid hc'
        obtain ⟨x, hx⟩ : ∃ x, ys.getD k 0 = x := ⟨_, rfl⟩
        rw [hx] at hc1
        have HX := Lib.hid hx
        clear hx hc'
        by_cases he : epochOf xs x < 0
        · have HNO := Lib.hid (show ¬ CutOk xs ys from fun h => by
            have := h.1.2.1 k (by have := HL'.out; omega)
            rw [HX.out] at this; omega)
          go_wp2_with (go_at_call 15; refine (epochOf_spec (hr.drewN _) (by omega)).mono ?_; rintro e w' ⟨rfl, m1, rfl⟩)
          go_ret
          exact ⟨ret_bof_f HNO.out, m + m1, by first | rfl | rw [World.drewN_drewN]⟩
        · have HE0 := Lib.hid he
          go_wp2_with (go_at_call 15; refine (epochOf_spec (hr.drewN _) (by omega)).mono ?_; rintro e w' ⟨rfl, m1, rfl⟩)
          clear he
          go_loopw [7] (fun i wr => ∃ j : Nat, j ≤ k ∧ i = .int .i64 j ∧ (∀ t, t < j → ys.getD t 0 ≠ x) ∧ ∃ m, wr = w.drewN m) (fun i _ => k - (intOf i).toNat)
          case atStart => exact ⟨0, Nat.zero_le _, rfl, fun t h => absurd h (Nat.not_lt_zero _), m + m1, by first | rfl | rw [World.drewN_drewN]⟩
          case round =>
            obtain ⟨j, hj, rfl, hne, m2, rfl⟩ := hrel
            have HE := Lib.hid hne
            clear hne
            by_cases hjk : j < k
            · have hc2 := HC'.out j (by omega)
              obtain ⟨z, hz⟩ : ∃ z, ys.getD j 0 = z := ⟨_, rfl⟩
              rw [hz] at hc2
              have HZ := Lib.hid hz
              clear hz
              by_cases hzx : z = x
              · have HNO := Lib.hid (show ¬ CutOk xs ys from fun h => h.1.2.2 k j hjk (by have := HL'.out; omega) (by rw [HX.out, HZ.out]; exact hzx))
                have hq : (z == x) = true := by simp [hzx]
                clear hzx
                go_wp2
                go_quiet (fail)
                go_wp2
                go_ret
                exact ⟨ret_bof_f HNO.out, m2 + nq, by first | rfl | rw [World.drewN_drewN]⟩
              · have hq : (z == x) = false := by simp [hzx]
                have HQ := Lib.hid hzx
                clear hzx
                go_wp2
                go_quiet (fail)
                go_wp2
                go_roundw
                case rel =>
                  refine ⟨j + 1, by omega, by go_num, fun t ht => ?_, m2 + nq, by first | rfl | rw [World.drewN_drewN]⟩
                  by_cases e : t = j
                  · subst e; rw [HZ.out]; exact HQ.out
                  · exact HE.out t (by omega)
                case measure => simp [intOf]; omega
            · have hjn : j = k := by omega
              subst hjn
              clear hjk hj
              have HC := Lib.hid (fun h : 0 < n => hr.at_ h)
              go_wp2
              go_loopw [8] (fun i wr => ∃ t : Nat, t ≤ n ∧ i = .int .i64 t ∧ Cov xs ys (epochOf xs x) t ∧ ∃ m, wr = w.drewN m) (fun i _ => n - (intOf i).toNat)
              case atStart => exact ⟨0, Nat.zero_le _, rfl, fun t h => absurd h (Nat.not_lt_zero _), m2, rfl⟩
              case round =>
                obtain ⟨t, ht, rfl, hcov, m3, rfl⟩ := hrel
                have HCV := Lib.hid hcov
                clear hcov
                by_cases htn : t < n
                · have hrd := hr
                  obtain ⟨b, off, rfl, hbB, hc⟩ := hr.at_ (by omega)
                  have hc3 := hc t htn
                  obtain ⟨v, hv⟩ : ∃ v, xs.getD t 0 = v := ⟨_, rfl⟩
                  rw [hv] at hc3
                  have HVV := Lib.hid hv
                  clear hv hc
                  have hv0 : 0 ≤ v := by have := (HOK.out.2.1 t (by have := HL.out; omega)).1; rw [HVV.out] at this; exact this
                  obtain ⟨p0, hp0⟩ : ∃ p : Prop, p = (v = 0 ∨ epochOf xs x ≤ epochOf xs v) := ⟨_, rfl⟩
                  have HP0 := Lib.hid hp0
                  clear hp0
                  have next : Cov xs ys (epochOf xs x) t → (p0 ∨ ∃ s, s < n' ∧ ys.getD s 0 = v) → Cov xs ys (epochOf xs x) (t + 1) := by
                    intro h0 h s hs h1 h2
                    by_cases e : s = t
                    · subst e
                      rw [HVV.out] at h1 h2 ⊢
                      rcases h with h | ⟨s, hs, h⟩
                      · rw [HP0.out] at h
                        rcases h with h | h <;> omega
                      · exact mem_getD.2 ⟨s, by have := HL'.out; omega, h⟩
                    · exact h0 s (by omega) h1 h2
                  have NX := Lib.hid (next HCV.out)
                  have bad : ¬ (p0 ∨ ∃ s, s < n' ∧ ys.getD s 0 = v) → ¬ CutOk xs ys := by
                    intro h hck
                    have h3 : ¬ p0 := fun h' => h (.inl h')
                    rw [HP0.out] at h3
                    have h2 := hck.2 j (by have := HL'.out; omega) t (by have := HL.out; omega) (by rw [HVV.out]; omega) (by rw [HVV.out, HX.out]; omega)
                    rw [HVV.out] at h2
                    obtain ⟨s, hs, e⟩ := mem_getD.1 h2
                    exact h (.inr ⟨s, by have := HL'.out; omega, e⟩)
                  have BAD := Lib.hid bad
                  clear next bad
                  by_cases hz : v = 0
                  · have hq : (v == 0) = true := by simp [hz]
                    have HPT := Lib.hid (show p0 from by rw [HP0.out]; exact .inl hz)
                    clear hz
                    go_wp2_with fail
                    go_loopw [9, 10] (fun f i wr => ∃ s : Nat, s ≤ n' ∧ i = .int .i64 s ∧ (∃ q : Bool, f = .bool q ∧ q = bof (p0 ∨ ∃ r, r < s ∧ ys.getD r 0 = v)) ∧ ∃ m, wr = w.drewN m) (fun _ i _ => n' - (intOf i).toNat)
                    case atStart => exact ⟨0, Nat.zero_le _, rfl, ⟨true, rfl, by rw [bof_t.2 (Or.inl HPT.out)]⟩, by first | exact ⟨_, rfl⟩ | exact ⟨_, World.drewN_drewN _ _ _⟩⟩
                    case round =>
                      obtain ⟨s, hs, rfl, ⟨q, rfl, hqe⟩, m5, rfl⟩ := hrel
                      by_cases hsn : s < n'
                      · have hc4 := HC'.out s hsn
                        obtain ⟨z, hzz⟩ : ∃ z, ys.getD s 0 = z := ⟨_, rfl⟩
                        rw [hzz] at hc4
                        have HZ := Lib.hid hzz
                        clear hzz
                        rcases Bool.eq_false_or_eq_true q with hb | hb <;> subst hb
                        · have HB := Lib.hid (bof_t.1 hqe.symm)
                          clear hqe
                          have HT := Lib.hid (show bof (p0 ∨ ∃ r, r < s + 1 ∧ ys.getD r 0 = v) = true from bof_t.2 (HB.out.imp id (fun ⟨r, h1, h2⟩ => ⟨r, by omega, h2⟩)))
                          go_wp2
                          go_quiet (fail)
                          go_wp2
                          go_roundw
                          case rel => exact ⟨s + 1, by omega, by go_num, ⟨_, rfl, HT.out.symm⟩, m5 + nq, by first | rfl | rw [World.drewN_drewN]⟩
                          case measure => simp [intOf]; omega
                        · have HB := Lib.hid (bof_f.1 hqe.symm)
                          clear hqe
                          by_cases hzv : z = v
                          · have HT := Lib.hid (show bof (p0 ∨ ∃ r, r < s + 1 ∧ ys.getD r 0 = v) = true from bof_t.2 (.inr ⟨s, by omega, by rw [HZ.out]; exact hzv⟩))
                            have hq5 : (z == v) = true := by simp [hzv]
                            clear hzv
                            go_wp2
                            go_quiet (fail)
                            go_wp2
                            go_roundw
                            case rel => exact ⟨s + 1, by omega, by go_num, ⟨_, rfl, HT.out.symm⟩, m5 + nq, by first | rfl | rw [World.drewN_drewN]⟩
                            case measure => simp [intOf]; omega
                          · have HT := Lib.hid (show bof (p0 ∨ ∃ r, r < s + 1 ∧ ys.getD r 0 = v) = false from bof_f.2 (fun h => by
                              rcases h with h | ⟨r, h1, h2⟩
                              · exact HB.out (.inl h)
                              · by_cases e : r = s
                                · subst e; rw [HZ.out] at h2; exact hzv h2
                                · exact HB.out (.inr ⟨r, by omega, h2⟩)))
                            have hq5 : (z == v) = false := by simp [hzv]
                            clear hzv
                            go_wp2
                            go_quiet (fail)
                            go_wp2
                            go_roundw
                            case rel => exact ⟨s + 1, by omega, by go_num, ⟨_, rfl, HT.out.symm⟩, m5 + nq, by first | rfl | rw [World.drewN_drewN]⟩
                            case measure => simp [intOf]; omega
                      · have hsn' : s = n' := by omega
                        subst hsn'
                        rcases Bool.eq_false_or_eq_true q with hb | hb <;> subst hb
                        · have HB := Lib.hid (NX.out (bof_t.1 hqe.symm))
                          clear hqe
                          go_wp2
                          go_roundw
                          case rel => exact ⟨t + 1, by omega, by go_num, HB.out, m5, rfl⟩
                          case measure => simp [intOf]; omega
                        · have HB := Lib.hid (BAD.out (bof_f.1 hqe.symm))
                          clear hqe
                          go_wp2
                          go_ret
                          exact ⟨ret_bof_f HB.out, m5, rfl⟩
                  · have hq : (v == 0) = false := by simp [hz]
                    by_cases hle : epochOf xs x ≤ epochOf xs v
                    · have HPT := Lib.hid (show p0 from by rw [HP0.out]; exact .inr hle)
                      have hd : decide (epochOf xs x ≤ epochOf xs v) = true := by simp; omega
                      clear hz hle
                      go_wp2_with (go_at_call 15; refine (epochOf_spec (hrd.drewN _) (by omega)).mono ?_; rintro e w' ⟨rfl, m4, rfl⟩)
                      go_loopw [9, 10] (fun f i wr => ∃ s : Nat, s ≤ n' ∧ i = .int .i64 s ∧ (∃ q : Bool, f = .bool q ∧ q = bof (p0 ∨ ∃ r, r < s ∧ ys.getD r 0 = v)) ∧ ∃ m, wr = w.drewN m) (fun _ i _ => n' - (intOf i).toNat)
                      case atStart => exact ⟨0, Nat.zero_le _, rfl, ⟨true, rfl, by rw [bof_t.2 (Or.inl HPT.out)]⟩, by first | exact ⟨_, rfl⟩ | exact ⟨_, World.drewN_drewN _ _ _⟩⟩
                      case round =>
                        obtain ⟨s, hs, rfl, ⟨q, rfl, hqe⟩, m5, rfl⟩ := hrel
                        by_cases hsn : s < n'
                        · have hc4 := HC'.out s hsn
                          obtain ⟨z, hzz⟩ : ∃ z, ys.getD s 0 = z := ⟨_, rfl⟩
                          rw [hzz] at hc4
                          have HZ := Lib.hid hzz
                          clear hzz
                          rcases Bool.eq_false_or_eq_true q with hb | hb <;> subst hb
                          · have HB := Lib.hid (bof_t.1 hqe.symm)
                            clear hqe
                            have HT := Lib.hid (show bof (p0 ∨ ∃ r, r < s + 1 ∧ ys.getD r 0 = v) = true from bof_t.2 (HB.out.imp id (fun ⟨r, h1, h2⟩ => ⟨r, by omega, h2⟩)))
                            go_wp2
                            go_quiet (fail)
                            go_wp2
                            go_roundw
                            case rel => exact ⟨s + 1, by omega, by go_num, ⟨_, rfl, HT.out.symm⟩, m5 + nq, by first | rfl | rw [World.drewN_drewN]⟩
                            case measure => simp [intOf]; omega
                          · have HB := Lib.hid (bof_f.1 hqe.symm)
                            clear hqe
                            by_cases hzv : z = v
                            · have HT := Lib.hid (show bof (p0 ∨ ∃ r, r < s + 1 ∧ ys.getD r 0 = v) = true from bof_t.2 (.inr ⟨s, by omega, by rw [HZ.out]; exact hzv⟩))
                              have hq5 : (z == v) = true := by simp [hzv]
                              clear hzv
                              go_wp2
                              go_quiet (fail)
                              go_wp2
                              go_roundw
                              case rel => exact ⟨s + 1, by omega, by go_num, ⟨_, rfl, HT.out.symm⟩, m5 + nq, by first | rfl | rw [World.drewN_drewN]⟩
                              case measure => simp [intOf]; omega
                            · have HT := Lib.hid (show bof (p0 ∨ ∃ r, r < s + 1 ∧ ys.getD r 0 = v) = false from bof_f.2 (fun h => by
                                rcases h with h | ⟨r, h1, h2⟩
                                · exact HB.out (.inl h)
                                · by_cases e : r = s
                                  · subst e; rw [HZ.out] at h2; exact hzv h2
                                  · exact HB.out (.inr ⟨r, by omega, h2⟩)))
                              have hq5 : (z == v) = false := by simp [hzv]
                              clear hzv
                              go_wp2
                              go_quiet (fail)
                              go_wp2
                              go_roundw
                              case rel => exact ⟨s + 1, by omega, by go_num, ⟨_, rfl, HT.out.symm⟩, m5 + nq, by first | rfl | rw [World.drewN_drewN]⟩
                              case measure => simp [intOf]; omega
                        · have hsn' : s = n' := by omega
                          subst hsn'
                          rcases Bool.eq_false_or_eq_true q with hb | hb <;> subst hb
                          · have HB := Lib.hid (NX.out (bof_t.1 hqe.symm))
                            clear hqe
                            go_wp2
                            go_roundw
                            case rel => exact ⟨t + 1, by omega, by go_num, HB.out, m5, rfl⟩
                            case measure => simp [intOf]; omega
                          · have HB := Lib.hid (BAD.out (bof_f.1 hqe.symm))
                            clear hqe
                            go_wp2
                            go_ret
                            exact ⟨ret_bof_f HB.out, m5, rfl⟩
                    · have HPF := Lib.hid (show ¬ p0 from by rw [HP0.out]; omega)
                      have hd : decide (epochOf xs x ≤ epochOf xs v) = false := by simp; omega
                      clear hz hle
                      go_wp2_with (go_at_call 15; refine (epochOf_spec (hrd.drewN _) (by omega)).mono ?_; rintro e w' ⟨rfl, m4, rfl⟩)
                      go_loopw [9, 10] (fun f i wr => ∃ s : Nat, s ≤ n' ∧ i = .int .i64 s ∧ (∃ q : Bool, f = .bool q ∧ q = bof (p0 ∨ ∃ r, r < s ∧ ys.getD r 0 = v)) ∧ ∃ m, wr = w.drewN m) (fun _ i _ => n' - (intOf i).toNat)
                      case atStart => exact ⟨0, Nat.zero_le _, rfl, ⟨false, rfl, by rw [bof_f.2 (fun h => by rcases h with h | ⟨r, h, _⟩; exact HPF.out h; exact absurd h (Nat.not_lt_zero _))]⟩, by first | exact ⟨_, rfl⟩ | exact ⟨_, World.drewN_drewN _ _ _⟩⟩
                      case round =>
                        obtain ⟨s, hs, rfl, ⟨q, rfl, hqe⟩, m5, rfl⟩ := hrel
                        by_cases hsn : s < n'
                        · have hc4 := HC'.out s hsn
                          obtain ⟨z, hzz⟩ : ∃ z, ys.getD s 0 = z := ⟨_, rfl⟩
                          rw [hzz] at hc4
                          have HZ := Lib.hid hzz
                          clear hzz
                          rcases Bool.eq_false_or_eq_true q with hb | hb <;> subst hb
                          · have HB := Lib.hid (bof_t.1 hqe.symm)
                            clear hqe
                            have HT := Lib.hid (show bof (p0 ∨ ∃ r, r < s + 1 ∧ ys.getD r 0 = v) = true from bof_t.2 (HB.out.imp id (fun ⟨r, h1, h2⟩ => ⟨r, by omega, h2⟩)))
                            go_wp2
                            go_quiet (fail)
                            go_wp2
                            go_roundw
                            case rel => exact ⟨s + 1, by omega, by go_num, ⟨_, rfl, HT.out.symm⟩, m5 + nq, by first | rfl | rw [World.drewN_drewN]⟩
                            case measure => simp [intOf]; omega
                          · have HB := Lib.hid (bof_f.1 hqe.symm)
                            clear hqe
                            by_cases hzv : z = v
                            · have HT := Lib.hid (show bof (p0 ∨ ∃ r, r < s + 1 ∧ ys.getD r 0 = v) = true from bof_t.2 (.inr ⟨s, by omega, by rw [HZ.out]; exact hzv⟩))
                              have hq5 : (z == v) = true := by simp [hzv]
                              clear hzv
                              go_wp2
                              go_quiet (fail)
                              go_wp2
                              go_roundw
                              case rel => exact ⟨s + 1, by omega, by go_num, ⟨_, rfl, HT.out.symm⟩, m5 + nq, by first | rfl | rw [World.drewN_drewN]⟩
                              case measure => simp [intOf]; omega
                            · have HT := Lib.hid (show bof (p0 ∨ ∃ r, r < s + 1 ∧ ys.getD r 0 = v) = false from bof_f.2 (fun h => by
                                rcases h with h | ⟨r, h1, h2⟩
                                · exact HB.out (.inl h)
                                · by_cases e : r = s
                                  · subst e; rw [HZ.out] at h2; exact hzv h2
                                  · exact HB.out (.inr ⟨r, by omega, h2⟩)))
                              have hq5 : (z == v) = false := by simp [hzv]
                              clear hzv
                              go_wp2
                              go_quiet (fail)
                              go_wp2
                              go_roundw
                              case rel => exact ⟨s + 1, by omega, by go_num, ⟨_, rfl, HT.out.symm⟩, m5 + nq, by first | rfl | rw [World.drewN_drewN]⟩
                              case measure => simp [intOf]; omega
                        · have hsn' : s = n' := by omega
                          subst hsn'
                          rcases Bool.eq_false_or_eq_true q with hb | hb <;> subst hb
                          · have HB := Lib.hid (NX.out (bof_t.1 hqe.symm))
                            clear hqe
                            go_wp2
                            go_roundw
                            case rel => exact ⟨t + 1, by omega, by go_num, HB.out, m5, rfl⟩
                            case measure => simp [intOf]; omega
                          · have HB := Lib.hid (BAD.out (bof_f.1 hqe.symm))
                            clear hqe
                            go_wp2
                            go_ret
                            exact ⟨ret_bof_f HB.out, m5, rfl⟩
                · have htn' : t = n := by omega
                  subst htn'
                  clear htn ht hn16
                  have HA := Lib.hid hr
                  clear hr
                  go_wp2
                  go_roundw
                  case rel =>
                    refine ⟨j + 1, by omega, by go_num, HP.out.succ (by rw [HX.out]; have := HE0.out; omega) (fun t ht => by rw [HX.out]; exact HE.out t ht), fun s hs => ?_, m3, rfl⟩
                    by_cases e : s = j
                    · subst e; rw [HX.out]; exact HCV.out
                    · exact HV.out s (by omega)
                  case measure => simp [intOf]; omega
      · have hkn : k = n' := by omega
        subst hkn
        have HY := Lib.hid (show CutOk xs ys from ⟨⟨HOK.out, by rw [HL'.out]; exact HP.out⟩, fun i hi => by rw [HL.out]; exact HV.out i (by have := HL'.out; omega)⟩)
        go_wp2
        go_ret
        exact ⟨ret_bof_t HY.out, m, rfl⟩
  · have HE := Lib.hid (show ¬ CutOk xs ys from fun h => bof_f.1 hb h.1.1)
    go_enter Try.func22, Try.ntmps22
    go_wp2_with (go_at_call 11; refine (logValid_spec hr (by omega)).mono ?_; rintro e w' ⟨rfl, m0, rfl⟩)
    go_ret
    exact ⟨ret_bof_f HE.out, m0, rfl⟩
end Go.Proofs.Ytcaagjepiicleaa
