/- hasInt's contract, and the walk of the law FnCleanPaid. -/
import Derived.Test.YtiojgofkilojmaaDrawPaid
import Derived.Test.YtiojgofkilojmaaAlive
namespace Go.Proofs.Ytiojgofkilojmaa
open Go.ChangeShapes Go.WideShapes Go.ChangeAt Go.RowKit
set_option linter.unusedVariables false
set_option linter.unusedSimpArgs false

theorem RdI.takeN {k w B A n xs} (h : RdI k w B A n xs) {i : Nat} (hi : i ≤ n) : RdI k w B A i (xs.take i) :=
  ⟨by have := h.len; simp; omega, fun hn => by
    obtain ⟨b, off, e, hb, hc⟩ := h.at_ (by omega)
    exact ⟨b, off, e, hb, fun j hj => by
      rw [hc j (by omega), List.getD_eq_getElem?_getD, List.getD_eq_getElem?_getD, List.getElem?_take_of_lt hj]⟩⟩
theorem hasInt_c {A : Option Addr} {n c B : Nat} {xs : List Int} {v : Int} {w : World} (hr : RdI .i64 w B A n xs) (hn : n ≤ 9000000000000) :
    Calls Try.prog 20 #[.slice A n c, .int .i64 v] w fun e w' => e = .returned (.bool (bof (∃ j, j < n ∧ xs.getD j 0 = v))) ∧ w = w' := by
  go_enter Try.func20, Try.ntmps20
  go_wp2
  go_loop [5] (fun i => ∃ k : Nat, k ≤ n ∧ i = .int .i64 k ∧ ∀ j, j < k → xs.getD j 0 ≠ v) (fun i => n - (intOf i).toNat)
  case atStart => exact ⟨0, Nat.zero_le _, rfl, fun j h => absurd h (Nat.not_lt_zero _)⟩
  case round =>
    obtain ⟨k, hk, rfl, hno⟩ := hrel
    have HN := Lib.hid hno
    clear hno
    by_cases hlt : k < n
    · obtain ⟨b, off, rfl, hbB, hc⟩ := hr.at_ (by omega)
      have hc1 := hc k hlt
      obtain ⟨x, hx⟩ : ∃ x, xs.getD k 0 = x := ⟨_, rfl⟩
      rw [hx] at hc1
      have HX := Lib.hid hx
      clear hx hc hr
      by_cases hv : x = v
      · subst hv
        go_wp2
        go_ret
        exact ⟨ret_bof_t ⟨k, hlt, HX.out⟩, rfl⟩
      · have hq : (x == v) = false := by simp [hv]
        have HV := Lib.hid hv
        clear hv
        go_wp2
        go_round
        case rel => exact ⟨k + 1, by omega, by go_num, fun j hj => by
          by_cases e : j = k
          · subst e; rw [HX.out]; exact HV.out
          · exact HN.out j (by omega)⟩
        case measure => simp [intOf]; omega
    · obtain rfl : k = n := by omega
      go_wp2
      go_ret
      exact ⟨ret_bof_f (fun ⟨j, hj, e⟩ => HN.out j hj e), rfl⟩
theorem paidSum_range {us : List Int} {c : Int} (h : PaidOk us c) : ∀ {t : Nat}, t ≤ us.length → 0 ≤ paidSum us t ∧ paidSum us t ≤ 4 * t
  | 0, _ => by unfold paidSum; omega
  | t + 1, ht => by
    have h1 := paidSum_range h (t := t) (by omega)
    have h2 := costAt_range h.1 (t := t) (by omega)
    unfold paidSum
    omega

set_option maxHeartbeats 4000000 in
theorem fnCleanPaid_w (a0 : Option Addr) (len0 cap0 : Nat) (z0 : List Int) (w : World) (w0 : IsRow .u8 w a0 len0 cap0 z0) :
    Calls Try.prog 6 #[.slice a0 len0 cap0] w fun e w' => e = .returned (.bool true) ∧ Below w.heap.size w w' := by
  obtain ⟨h1, h2, h3, h4⟩ := bytes_ok w0
  by_cases hl : 1048576 < len0
  · go_enter Try.func6, Try.ntmps6
    go_wp2
    go_ret
    exact ⟨rfl, Below.refl _ _⟩
  go_enter Try.func6, Try.ntmps6
  go_wp2_with fail
  refine (drawCleanPaid_c h3 h4 h1 h2).mono ?_
  rintro e w1 ⟨us, A, c, cr, rfl, h100, ox, bel1⟩
  clear h3 h4 w0
  have rx := rdoI ox
  have hs1 := bel1.size
  generalize hn : us.length = n at *
  have HN := Lib.hid hn
  clear ox hn
  go_wp2_with fail
  refine (cleanPaid_impl rx (Nat.le_refl _) (by omega)).mono ?_
  rintro e w2 ⟨A2, c2, rfl, o2, b2⟩
  have rx2 := rx.below b2
  have rs2 := rdoI o2
  have hcap2 := own_cap o2
  have hs2 := b2.size
  have bel2 := bel1.trans (b2.mono hs1)
  clear b2 bel1 rx o2
  go_wp2_with fail
  refine (cleanPaid_spec rx2 (by omega) (by omega)).mono ?_
  rintro e w3 ⟨A3, c3, rfl, o3, b3⟩
  have rx3 := rx2.below (b3.mono (by omega))
  have rs3 := rs2.below (b3.mono (by omega))
  have rt3 := rdoI o3
  have hs3 := b3.size
  have bel3 := bel2.trans (b3.mono (by omega))
  clear b3 bel2 rx2 rs2 o3
  have hyl := cleanPaid_len us cr
  go_wp2_with fail
  refine (sameInts_o rs3 rt3 (by omega)).mono ?_
  rintro e w4 ⟨rfl, b4⟩
  have rx4 := rx3.below (b4.mono (by omega))
  have rs4 := rs3.below (b4.mono (by omega))
  have hs4 := b4.size
  have bel4 := bel3.trans (b4.mono (by omega))
  clear b4 bel3 rx3 rs3 rt3
  by_cases hok : PaidOk us cr
  · have HOK := Lib.hid hok
    obtain ⟨hcan, hstop⟩ := stopT_spec us cr
    have hle := stopT_le us cr
    have hrest := fun (i : Nat) hi hni => paid_rest hok (i := i) hi hni
    generalize stopT us cr = T at *
    obtain ⟨e1, e2⟩ := paid_at hok hcan hstop
    have htl := takeI_len hle
    have hcr := creditAt_range hok hcan
    have hsum := credit_sum us cr T
    have hpr := paidSum_range hok hle
    rw [e1] at rs4
    rw [e1, e2]
    rw [htl] at rs4 ⊢
    rw [e1, htl] at hcap2
    rw [HN.out] at hle
    have h12 : n ≤ 12 := by have := hok.1.1; rw [HN.out] at this; exact this
    generalize hL : creditAt us cr T = L at *
    have hL0 : decide (L < 0) = false := decide_eq_false (by omega)
    have HRE := Lib.hid hrest
    have HSU := Lib.hid hsum
    clear hok e1 e2 hcan hstop hrest htl hyl hL hsum
    go_wp2_with fail
    go_loopw [9, 10] (fun ss kk wr => ∃ (k m : Nat), k ≤ T ∧ kk = .int .i64 k ∧ ss = .int .i64 (L + paidSum us k) ∧ wr = w4.drewN m) (fun _ kk _ => T - (intOf kk).toNat)
    case atStart => exact ⟨0, 0, Nat.zero_le _, rfl, by unfold paidSum; rw [Int.add_zero], rfl⟩
    case round =>
      obtain ⟨k, m, hk, rfl, rfl, rfl⟩ := hrel
      have hpr2 := paidSum_range HOK.out (t := k) (by rw [HN.out]; omega)
      by_cases hlt : k < T
      · obtain ⟨b, off, rfl, hbB, hc⟩ := rs4.at_ (by omega)
        obtain ⟨b', off', rfl, hbB', hc'⟩ := rx4.at_ (by omega)
        have hc1 := hc k hlt
        have hql : (ordL us).getD k 0 < n := by have := ordL_in (us := us) (t := k) (by rw [HN.out]; omega); rw [HN.out] at this; exact this
        have hc2 := hc' _ hql
        have hco := costAt_range HOK.out.1 (t := k) (by rw [HN.out]; omega)
        have HPS := Lib.hid (show paidSum us (k + 1) = paidSum us k + us.getD ((ordL us).getD k 0) 0 from rfl)
        have hno : bof (∃ j, j < k ∧ ((takeI us T).take k).getD j 0 = (((ordL us).getD k 0 : Nat) : Int)) = false := bof_f.2 (by
          rintro ⟨j, hj, e⟩
          rw [List.getD_eq_getElem?_getD, List.getElem?_take_of_lt hj, ← List.getD_eq_getElem?_getD, takeI_getD (by rw [HN.out]; exact hle) (by omega)] at e
          exact ordL_ne (us := us) (s := j) (t := k) (by rw [HN.out]; omega) (by rw [HN.out]; omega) (by omega) (by omega))
        have hrt := rs4.takeN (i := k) (by omega)
        rw [takeI_getD (by rw [HN.out]; exact hle) hlt] at hc1
        have hco' : 0 ≤ us.getD ((ordL us).getD k 0) 0 ∧ us.getD ((ordL us).getD k 0) 0 ≤ 4 := hco
        generalize us.getD ((ordL us).getD k 0) 0 = x at *
        generalize (ordL us).getD k 0 = q at *
        generalize (takeI us T).take k = tk at *
        generalize paidSum us k = s at *
        have HRS := Lib.hid rs4
        have HRX := Lib.hid rx4
        have hq0 : decide ((q : Int) < 0) = false := decide_eq_false (by omega)
        have hq1 : decide ((q : Int) ≥ (n : Int)) = false := decide_eq_false (by omega)
        have hq2 : decide ((n : Int) ≤ (q : Int)) = false := decide_eq_false (by omega)
        have hkc : k ≤ c2 := by omega
        have hni := fun (K : Nat) => hasInt_c (c := c2) (v := (q : Int)) (hrt.drewN K) (by omega)
        rw [hno] at hni
        have HNI := Lib.hid hni
        clear hc hc' rs4 rx4 hco hni hno hrt
        go_wp2_with fail
        go_quiet ((go_at_call 20; first | exact quiet_left (HNI.out _) | exact quiet_add_left (HNI.out _)))
        go_wp2_with fail
        go_roundw
        case rel => exact ⟨k + 1, m + nq, by omega, by go_num, by rw [HPS.out]; go_num, by first | rfl | rw [World.drewN_drewN]⟩
        case measure => simp [intOf]; omega
      · obtain rfl : k = T := by omega
        rw [HSU.out]
        have rx5 := rx4.drewN m
        have rs5 := rs4.drewN m
        have bel5 := below_drewN bel4 m
        clear rx4 rs4 bel4 hpr2
        generalize w4.drewN m = w5 at *
        go_wp2_with fail
        go_loop [11] (fun kk => ∃ j : Nat, j ≤ n ∧ kk = .int .i64 j) (fun kk => n - (intOf kk).toNat)
        case atStart => exact ⟨0, Nat.zero_le _, rfl⟩
        case round =>
          obtain ⟨j, hj, rfl⟩ := hrel
          by_cases hlt2 : j < n
          · obtain ⟨b', off', rfl, hbB', hc'⟩ := rx5.at_ (by omega)
            have hc2 := hc' j hlt2
            have hrj := HRE.out j (by rw [HN.out]; exact hlt2)
            by_cases hin : inTo us k j
            · have hyes : bof (∃ i, i < k ∧ (takeI us k).getD i 0 = (j : Int)) = true := bof_t.2 (by
                obtain ⟨i, hi, e⟩ := hin
                exact ⟨i, hi, by rw [takeI_getD (by rw [HN.out]; exact hle) hi, e]⟩)
              clear hc' rx5 hrj
              go_wp2_with (go_at_call 20; refine (hasInt_c rs5 (by omega)).mono ?_; rw [hyes]; rintro e w' ⟨rfl, rfl⟩)
              go_round
              case rel => exact ⟨j + 1, by omega, by go_num⟩
              case measure => simp [intOf]; omega
            · have hyes : bof (∃ i, i < k ∧ (takeI us k).getD i 0 = (j : Int)) = false := bof_f.2 (by
                rintro ⟨i, hi, e⟩
                rw [takeI_getD (by rw [HN.out]; exact hle) hi] at e
                exact hin ⟨i, hi, by omega⟩)
              replace hrj := hrj hin
              obtain ⟨x, hx⟩ : ∃ x, us.getD j 0 = x := ⟨_, rfl⟩
              rw [hx] at hc2 hrj
              have hxl : decide (x ≤ L) = false := decide_eq_false (by omega)
              clear hc' rx5 hx
              go_wp2_with (go_at_call 20; refine (hasInt_c rs5 (by omega)).mono ?_; rw [hyes]; rintro e w' ⟨rfl, rfl⟩)
              go_round
              case rel => exact ⟨j + 1, by omega, by go_num⟩
              case measure => simp [intOf]; omega
          · obtain rfl : j = n := by omega
            go_wp2_with fail
            go_ret
            exact ⟨by simp, bel5⟩
  · obtain ⟨e1, e2⟩ := paid_no (us := us) (c := cr) hok
    rw [e1] at rs4
    rw [e1, e2]
    simp only [List.length_nil] at rs4 ⊢
    clear hok hyl e1 e2
    go_wp2_with (go_at_call 12; refine (alive_c _).mono ?_; rintro e w' ⟨rfl, rfl⟩)
    go_ret
    exact ⟨rfl, bel4⟩
end Go.Proofs.Ytiojgofkilojmaa
