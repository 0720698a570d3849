/- The walk of the law FnSweepFrom. -/
import Derived.Test.YtmkmobgmlhioaaaDrawSweep
namespace Go.Proofs.Ytmkmobgmlhioaaa
open Go.ChangeShapes Go.WideShapes Go.ChangeAt Go.RowKit
set_option linter.unusedVariables false
set_option linter.unusedSimpArgs false

set_option maxHeartbeats 1000000 in
theorem fnSweepFrom_w (a0 : Option Addr) (len0 cap0 : Nat) (z0 : List Int) (w : World) (w0 : IsRow .u8 w a0 len0 cap0 z0) :
    Calls Try.prog 11 #[.slice a0 len0 cap0] w fun e w' => e = .returned (.bool true) ∧ Below w.heap.size w w' := by
  obtain ⟨h1, h2, h3, h4⟩ := bytes_ok w0
  by_cases hl : 1048576 < len0
  · go_enter Try.func11, Try.ntmps11
    go_wp2
    go_ret
    exact ⟨rfl, Below.refl _ _⟩
  go_enter Try.func11, Try.ntmps11
  go_wp2_with fail
  refine (drawSweepFrom_c h3 h4 h1 h2).mono ?_
  rintro e w1 ⟨xs, A, c, pg, rfl, hpg1, hpg2, h100, ox, bel1⟩
  clear h3 h4 w0
  have rx := rdoAsk ox
  have hs1 := bel1.size
  have hn20 : xs.length ≤ 1048576 := by omega
  clear ox
  go_wp2_with fail
  refine (sweepFrom_impl rx (Nat.le_refl _) hn20).mono ?_
  rintro e w2 ⟨A2, c2, rfl, o2, b2⟩
  have rx2 := rx.below b2
  have rs2 := rdoAsk o2
  have hs2 := b2.size
  have bel2 := bel1.trans (b2.mono hs1)
  clear b2 bel1 rx o2
  go_wp2_with fail
  refine (sweepFrom_spec rx2 (by omega) hn20).mono ?_
  rintro e w3 ⟨A3, c3, rfl, o3, b3⟩
  have rx3 := rx2.below (b3.mono (by omega))
  have rs3 := rs2.below (b3.mono (by omega))
  have rt3 := rdoAsk o3
  have hs3 := b3.size
  have bel3 := bel2.trans (b3.mono (by omega))
  clear b3 bel2 rx2 rs2 o3
  have hsl := sweepFrom_len xs pg
  have HTN := Lib.hid (fun h (k : Nat) hk => sweep_turns (xs := xs) (pg := pg) h (k := k) hk)
  have HST := Lib.hid (fun h => sweep_sort (xs := xs) (pg := pg) h)
  have HNO := Lib.hid (fun h => sweep_no (xs := xs) (pg := pg) h)
  generalize sweepFrom xs pg = ss at *
  have HZE := Lib.hid (fun h => sweep_zero (xs := xs) h)
  have hsl2 := sortAsks_len xs
  generalize hok : bof (AsksOk xs) = ok
  have HOK := Lib.hid hok
  generalize hn : xs.length = n at *
  have HN := Lib.hid hn
  generalize hm : ss.length = m at *
  have HM := Lib.hid hm
  clear hn hm hok
  go_wp2_with fail
  refine (sameAsks_o rs3 rt3 (by omega)).mono ?_
  rintro e w4 ⟨rfl, b4⟩
  have rx4 := rx3.below (b4.mono (by omega))
  have rs4 := rs3.below (b4.mono (by omega))
  have hs4 := b4.size
  have bel4 := bel3.trans (b4.mono (by omega))
  clear b4 bel3 rx3 rs3 rt3
  go_wp2_with fail
  refine (asksValid_impl rx4 (by omega) hn20).mono ?_
  rw [HOK.out]
  rintro e w5 ⟨rfl, b5⟩
  have rx5 := rx4.below (b5.mono (by omega))
  have rs5 := rs4.below (b5.mono (by omega))
  have hs5 := b5.size
  have bel5 := bel4.trans (b5.mono (by omega))
  clear b5 bel4 rx4 rs4
  have hnone : ¬ SwOk xs pg → m = 0 := fun h => by rw [← HM.out, HNO.out h]; rfl
  cases ok
  · have hm0 : m = 0 := hnone (fun h => bof_f.1 HOK.out h.1)
    subst hm0
    clear hnone
    go_wp2_with (go_at_call 19; refine (alive_c _).mono ?_; rintro e w' ⟨rfl, rfl⟩)
    go_ret
    exact ⟨rfl, bel5⟩
  by_cases hp1 : pg < 0
  · have hm0 : m = 0 := hnone (fun h => by have := h.2.1; omega)
    subst hm0
    clear hnone
    go_wp2_with (go_at_call 19; refine (alive_c _).mono ?_; rintro e w' ⟨rfl, rfl⟩)
    go_ret
    exact ⟨rfl, bel5⟩
  by_cases hp2 : 100 < pg
  · have hm0 : m = 0 := hnone (fun h => by have := h.2.2; omega)
    subst hm0
    clear hnone
    go_wp2_with (go_at_call 19; refine (alive_c _).mono ?_; rintro e w' ⟨rfl, rfl⟩)
    go_ret
    exact ⟨rfl, bel5⟩
  have hv := Lib.hid (bof_t.1 HOK.out)
  have hsw := Lib.hid (show SwOk xs pg from ⟨hv.out, by omega, by omega⟩)
  have HST2 := Lib.hid (HST.out hsw.out)
  have HTN2 := Lib.hid (HTN.out hsw.out)
  have HZE2 := Lib.hid (HZE.out hv.out)
  clear hnone HST HTN HZE
  go_wp2_with fail
  go_loopw [6, 7] (fun t i wr => ∃ k : Nat, 1 ≤ k ∧ (k ≤ m ∨ k = 1) ∧ i = .int .i64 k ∧ t = .int .i64 ((turnsTo ss (k - 1) : Nat) : Int) ∧ ∃ q, wr = w5.drewN q) (fun _ i _ => m - (intOf i).toNat)
  case atStart => exact ⟨1, by omega, by omega, rfl, rfl, 0, rfl⟩
  case round =>
    obtain ⟨k, hk1, hk, rfl, rfl, q, rfl⟩ := hrel
    by_cases hlt : k < m
    · obtain ⟨b, off, rfl, hbB, hc⟩ := rs5.at_ (by omega)
      obtain ⟨c0, c1⟩ := hc k hlt
      obtain ⟨d0, d1⟩ := hc (k - 1) (by omega)
      have htl := turnsTo_le ss (k - 1)
      have HTS := Lib.hid (show turnsTo ss k = turnsTo ss (k - 1) + if (ss.getD k (0, 0)).1 < (ss.getD (k - 1) (0, 0)).1 then 1 else 0 from by
        obtain ⟨k', rfl⟩ : ∃ k', k = k' + 1 := ⟨k - 1, by omega⟩
        rfl)
      generalize (ss.getD k (0, 0)).1 = x at *
      generalize (ss.getD (k - 1) (0, 0)).1 = y at *
      generalize turnsTo ss (k - 1) = t at *
      clear hc c1 d1
      have hw1 : IntKind.i64.wrap ((k : Int) - 1) = (k : Int) - 1 := IntWalk.i64_in _ (by omega)
      have hw3 : (0 : Int) ≤ (k : Int) - 1 := by omega
      have hw4 : ((k : Int) - 1).toNat = k - 1 := by omega
      have hw5 : (k : Int) - 1 < (m : Int) := by omega
      have hm1 : (1 : Int) ≤ (k : Int) := by omega
      have hkm : (k : Int) ≤ (m : Int) := by omega
      have hkm2 : k ≤ m := by omega
      by_cases hd : x < y
      · have E := Lib.hid (HTS.out.trans (by rw [if_pos hd]))
        clear HTS
        go_wp2_with fail
        go_quiet (fail)
        go_wp2_with fail
        go_roundw
        case rel => exact ⟨k + 1, by omega, by omega, by go_num, by rw [Nat.add_sub_cancel, E.out]; go_num, q + nq, by first | rfl | rw [World.drewN_drewN]⟩
        case measure => simp [intOf]; omega
      · have E := Lib.hid (HTS.out.trans (by rw [if_neg hd]))
        have hd2 : decide (x < y) = false := by simp; omega
        clear HTS
        go_wp2_with fail
        go_quiet (fail)
        go_wp2_with fail
        go_roundw
        case rel => exact ⟨k + 1, by omega, by omega, by go_num, by rw [Nat.add_sub_cancel, E.out]; go_num, q + nq, by first | rfl | rw [World.drewN_drewN]⟩
        case measure => simp [intOf]; omega
    · have htl : turnsTo ss (k - 1) ≤ 1 := by
        by_cases h0 : k - 1 < m
        · exact HTN2.out (k - 1) (by first | exact h0 | (rw [HM.out]; exact h0))
        · have e : k - 1 = 0 := by omega
          rw [e]; unfold turnsTo; omega
      have htl2 : ((turnsTo ss (k - 1) : Nat) : Int) ≤ 1 := by omega
      generalize turnsTo ss (k - 1) = t at *
      have rx6 := rx5.drewN q
      have rs6 := rs5.drewN q
      have bel6 := below_drewN bel5 q
      have hs6 : w5.heap.size ≤ (w5.drewN q).heap.size := Nat.le_refl _
      generalize w5.drewN q = w6 at *
      clear rx5 rs5 bel5
      go_wp2_with fail
      refine (sortAsks_impl rs6 (by omega) (by omega)).mono ?_
      rw [HST2.out]
      generalize htt : sortAsks xs = tt at *
      have HTT := Lib.hid htt
      clear htt
      have htl3 := hsl2
      generalize hlt9 : tt.length = l at *
      have HTL := Lib.hid hlt9
      clear hlt9
      rintro e w7 ⟨A7, c7, rfl, o7, b7⟩
      rw [HTL.out] at o7 ⊢
      have rx7 := rx6.below (b7.mono (by omega))
      have rt7 := rdoAsk o7
      have hs7 := b7.size
      have bel7 := bel6.trans (b7.mono (by omega))
      clear b7 bel6 rx6 rs6 o7
      go_wp2_with fail
      refine (sortAsks_impl rx7 (by omega) hn20).mono ?_
      rw [HTT.out]
      rintro e w8 ⟨A8, c8, rfl, o8, b8⟩
      rw [HTL.out] at o8 ⊢
      have rx8 := rx7.below (b8.mono (by omega))
      have rt8 := rt7.below (b8.mono (by omega))
      have ru8 := rdoAsk o8
      have hs8 := b8.size
      have bel8 := bel7.trans (b8.mono (by omega))
      clear b8 bel7 rx7 rt7 o8
      go_wp2_with fail
      refine (sameAsks_o rt8 ru8 (by omega)).mono ?_
      rintro e w9 ⟨rfl, b9⟩
      have rx9 := rx8.below (b9.mono (by omega))
      have hs9 := b9.size
      have bel9 := bel8.trans (b9.mono (by omega))
      clear b9 bel8 rx8 rt8 ru8
      have htd : decide ((t : Int) ≤ 1) = true := by simp; omega
      go_wp2_with fail
      refine (sweepFrom_impl (pg := 0) rx9 (by omega) hn20).mono ?_
      rw [HZE2.out]
      rintro e w10 ⟨A10, c10, rfl, o10, b10⟩
      rw [HTL.out] at o10 ⊢
      have rx10 := rx9.below (b10.mono (by omega))
      have rt10 := rdoAsk o10
      have hs10 := b10.size
      have bel10 := bel9.trans (b10.mono (by omega))
      clear b10 bel9 rx9 o10
      go_wp2_with fail
      refine (sortAsks_impl rx10 (by omega) hn20).mono ?_
      rw [HTT.out]
      rintro e w11 ⟨A11, c11, rfl, o11, b11⟩
      rw [HTL.out] at o11 ⊢
      have rt11 := rt10.below (b11.mono (by omega))
      have ru11 := rdoAsk o11
      have hs11 := b11.size
      have bel11 := bel10.trans (b11.mono (by omega))
      clear b11 bel10 rx10 rt10 o11
      go_wp2_with fail
      refine (sameAsks_o rt11 ru11 (by omega)).mono ?_
      rintro e w12 ⟨rfl, b12⟩
      go_wp2_with fail
      go_ret
      exact ⟨rfl, bel11.trans (b12.mono (by omega))⟩
end Go.Proofs.Ytmkmobgmlhioaaa
