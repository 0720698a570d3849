/- The walk of the law FnMergeAsks. -/
import Derived.Test.YtmkmobgmlhioaaaFnAsks
import Derived.Test.YtmkmobgmlhioaaaMergeI
import Derived.Test.YtmkmobgmlhioaaaMergeS
namespace Go.Proofs.Ytmkmobgmlhioaaa
open Go.ChangeShapes Go.WideShapes Go.ChangeAt Go.RowKit
set_option linter.unusedVariables false
set_option linter.unusedSimpArgs false

/-- one of the first j covers b -/
def CovTo (ys : List (Int × Int)) (b : Int × Int) (j : Nat) : Prop := ∃ i, i < j ∧ Within b (ys.getD i (0, 0))
theorem CovTo.zero (ys b) : ¬ CovTo ys b 0 := fun ⟨i, h, _⟩ => absurd h (Nat.not_lt_zero _)
theorem CovTo.succ {ys b} {j : Nat} : CovTo ys b (j + 1) ↔ CovTo ys b j ∨ Within b (ys.getD j (0, 0)) := by
  constructor
  · rintro ⟨i, h, hw⟩
    by_cases e : i = j
    · subst e; exact .inr hw
    · exact .inl ⟨i, by omega, hw⟩
  · rintro (⟨i, h, hw⟩ | hw)
    · exact ⟨i, by omega, hw⟩
    · exact ⟨j, by omega, hw⟩

set_option maxRecDepth 100000 in
set_option maxHeartbeats 4000000 in
theorem fnMergeAsks_w (a0 : Option Addr) (len0 cap0 : Nat) (z0 : List Int) (w : World) (w0 : IsRow .u8 w a0 len0 cap0 z0) :
    Calls Try.prog 12 #[.slice a0 len0 cap0] w fun e w' => e = .returned (.bool true) ∧ Below w.heap.size w w' := by
  obtain ⟨h1, h2, h3, h4⟩ := bytes_ok w0
  by_cases hl : 1048576 < len0
  · go_enter Try.func12, Try.ntmps12
    go_wp2
    go_ret
    exact ⟨rfl, Below.refl _ _⟩
  go_enter Try.func12, Try.ntmps12
  go_wp2_with fail
  refine (drawMergeAsks_c h3 h4 h1 h2).mono ?_
  rintro e w1 ⟨xs, A, c, rfl, h100, ox, bel1⟩
  clear h3 h4 w0
  have rx := rdoAsk ox
  have hs1 := bel1.size
  have hn20 : xs.length ≤ 1048576 := by omega
  clear ox
  go_wp2_with fail
  refine (mergeAsks_impl rx (Nat.le_refl _) hn20).mono ?_
  rintro e w2 ⟨A2, c2, rfl, o2, b2⟩
  have rx2 := rx.below b2
  have rs2 := rdoAsk o2
  have hs2 := b2.size
  have bel2 := bel1.trans (b2.mono hs1)
  clear b2 bel1 rx o2
  go_wp2_with fail
  refine (mergeAsks_spec rx2 (by omega) hn20).mono ?_
  rintro e w3 ⟨A3, c3, rfl, o3, b3⟩
  have rx3 := rx2.below (b3.mono (by omega))
  have rs3 := rs2.below (b3.mono (by omega))
  have rt3 := rdoAsk o3
  have hs3 := b3.size
  have bel3 := bel2.trans (b3.mono (by omega))
  clear b3 bel2 rx2 rs2 o3
  have hsl := mergeAsks_len xs
  have HV := Lib.hid (bof_t.2 (mergeAsks_asks xs))
  have HAL := Lib.hid (asksOk_iff.1 (mergeAsks_asks xs)).2
  have HPG := Lib.hid (fun h => mergeAsks_pages (xs := xs) h)
  have HFW := Lib.hid (fun h => mergeAsks_fewer (xs := xs) h)
  have HNO := Lib.hid (fun h => mergeAsks_none (xs := xs) h)
  have HCV := Lib.hid (fun h (b : Int × Int) hb => mergeAsks_cover (xs := xs) h (b := b) hb)
  generalize mergeAsks xs = ss at *
  generalize hok : bof (AsksOk xs) = ok
  have HOK := Lib.hid hok
  generalize hn : xs.length = n at *
  have HN := Lib.hid hn
  generalize hm : ss.length = m at *
  have HM := Lib.hid hm
  clear hn hm hok
  go_wp2_with fail
  refine (sameAsks_o rs3 rt3 (by omega)).mono ?_
  rintro e w4 ⟨rfl, b4⟩
  have rx4 := rx3.below (b4.mono (by omega))
  have rs4 := rs3.below (b4.mono (by omega))
  have hs4 := b4.size
  have bel4 := bel3.trans (b4.mono (by omega))
  clear b4 bel3 rx3 rs3 rt3
  go_wp2_with fail
  refine (asksValid_impl rx4 (by omega) hn20).mono ?_
  rw [HOK.out]
  rintro e w5 ⟨rfl, b5⟩
  have rx5 := rx4.below (b5.mono (by omega))
  have rs5 := rs4.below (b5.mono (by omega))
  have hs5 := b5.size
  have bel5 := bel4.trans (b5.mono (by omega))
  clear b5 bel4 rx4 rs4
  cases ok
  · have hm0 : m = 0 := by rw [← HM.out, HNO.out (bof_f.1 HOK.out)]; rfl
    subst hm0
    go_wp2_with (go_at_call 19; refine (alive_c _).mono ?_; rintro e w' ⟨rfl, rfl⟩)
    go_ret
    exact ⟨rfl, bel5⟩
  · have hv := Lib.hid (bof_t.1 HOK.out)
    have hfw := HFW.out hv.out
    have HPG2 := Lib.hid (HPG.out hv.out)
    have HCV2 := Lib.hid (HCV.out hv.out)
    have HXL := Lib.hid (asksOk_iff.1 hv.out).2
    clear HFW HPG HCV
    go_wp2_with fail
    go_loopw [5] (fun i wr => ∃ k : Nat, k ≤ n ∧ i = .int .i64 k ∧ ∃ q, wr = w5.drewN q) (fun i _ => n - (intOf i).toNat)
    case atStart => exact ⟨0, by omega, rfl, 0, rfl⟩
    case round =>
      obtain ⟨k, hk, rfl, q, rfl⟩ := hrel
      by_cases hlt : k < n
      · obtain ⟨b, off, hAx, hbB, hc⟩ := rx5.at_ (by omega)
        obtain ⟨c0, c1⟩ := hc k hlt
        have ha := HXL.out _ (getD_memP (i := k) (by rw [HN.out]; exact hlt))
        have HCK := Lib.hid (HCV2.out _ (getD_memP (i := k) (by rw [HN.out]; exact hlt)))
        generalize xs.getD k (0, 0) = a at *
        obtain ⟨a1, a2⟩ := a
        obtain ⟨p1, p2, p3, p4⟩ := ha
        simp only at c0 c1 p1 p2 p3 p4
        have RX5 := Lib.hid rx5
        clear hc rx5
        subst hAx
        go_wp2_with fail
        go_loopw [6, 7] (fun f i wr => ∃ (j : Nat) (fb : Bool), j ≤ m ∧ i = .int .i64 j ∧ f = .bool fb ∧ (fb = true ↔ CovTo ss (a1, a2) j) ∧ ∃ q, wr = w5.drewN q) (fun _ i _ => m - (intOf i).toNat)
        case atStart => exact ⟨0, false, by omega, rfl, rfl, by simp [CovTo.zero], q, rfl⟩
        case round =>
          obtain ⟨j, fb, hj, rfl, rfl, hfb, q2, rfl⟩ := hrel
          have HFB := Lib.hid hfb
          clear hfb
          by_cases hjm : j < m
          · obtain ⟨b', off', hAs, hbB', hc'⟩ := rs5.at_ (by omega)
            obtain ⟨d0, d1⟩ := hc' j hjm
            have hy := HAL.out _ (getD_memP (i := j) (by rw [HM.out]; exact hjm))
            have HCS := Lib.hid (CovTo.succ (ys := ss) (b := (a1, a2)) (j := j))
            generalize ss.getD j (0, 0) = y at *
            obtain ⟨y1, y2⟩ := y
            obtain ⟨t1, t2, t3, t4⟩ := hy
            simp only at d0 d1 t1 t2 t3 t4
            have RS5 := Lib.hid rs5
            clear hc' rs5
            subst hAs
            have hw1 : IntKind.i64.wrap (a1 + a2) = a1 + a2 := IntWalk.i64_in _ (by omega)
            have hw2 : IntKind.i64.wrap (y1 + y2) = y1 + y2 := IntWalk.i64_in _ (by omega)
            have hk0 : (k : Int) < (n : Int) := by omega
            have hj0 : (j : Int) < (m : Int) := by omega
            have hk1 : (0 : Int) ≤ (k : Int) := by omega
            have hj1 : (0 : Int) ≤ (j : Int) := by omega
            cases fb
            · by_cases hq1 : y1 ≤ a1
              · go_wp2_with fail
                go_quiet (fail)
                go_wp2_with fail
                go_roundw
                case rel =>
                  refine ⟨j + 1, decide (a1 + a2 ≤ y1 + y2), by omega, by go_num, rfl, ?_, q2 + nq, by first | rfl | rw [World.drewN_drewN]⟩
                  rw [HCS.out, ← HFB.out]
                  unfold Within
                  simp [hq1]
                case measure => simp [intOf]; omega
              · have HQ1 := Lib.hid hq1
                have hd : decide (y1 ≤ a1) = false := by simp; omega
                clear hq1
                go_wp2_with fail
                go_quiet (fail)
                go_wp2_with fail
                go_roundw
                case rel =>
                  refine ⟨j + 1, false, by omega, by go_num, rfl, ?_, q2 + nq, by first | rfl | rw [World.drewN_drewN]⟩
                  rw [HCS.out, ← HFB.out]
                  unfold Within
                  simp
                  intro h
                  have := HQ1.out
                  omega
                case measure => simp [intOf]; omega
            · go_wp2_with fail
              go_quiet (fail)
              go_wp2_with fail
              go_roundw
              case rel =>
                refine ⟨j + 1, true, by omega, by go_num, rfl, ?_, q2 + nq, by first | rfl | rw [World.drewN_drewN]⟩
                rw [HCS.out]
                have := HFB.out.1 (by simp)
                simp [this]
              case measure => simp [intOf]; omega
          · have hjm2 : j = m := by omega
            subst hjm2
            have hft : fb = true := by
              rw [HFB.out]
              obtain ⟨y, hy, hw⟩ := HCK.out
              obtain ⟨i, hi, e⟩ := mem_getDP.1 hy
              exact ⟨i, by have := HM.out; omega, by rw [e]; exact hw⟩
            subst hft
            go_wp2_with fail
            go_roundw
            case rel => exact ⟨k + 1, by omega, by go_num, q2, rfl⟩
            case measure => simp [intOf]; omega
      · have rx6 := rx5.drewN q
        have rs6 := rs5.drewN q
        have bel6 := below_drewN bel5 q
        have hs6 : w5.heap.size ≤ (w5.drewN q).heap.size := Nat.le_refl _
        generalize w5.drewN q = w6 at *
        clear rx5 rs5 bel5
        go_wp2_with fail
        refine (asksValid_impl rs6 (by omega) (by omega)).mono ?_
        rw [HV.out]
        rintro e w7 ⟨rfl, b7⟩
        have rx7 := rx6.below (b7.mono (by omega))
        have rs7 := rs6.below (b7.mono (by omega))
        have hs7 := b7.size
        have bel7 := bel6.trans (b7.mono (by omega))
        clear b7 bel6 rx6 rs6
        go_wp2_with fail
        refine (askPages_impl rs7 (by omega) (by omega)).mono ?_
        rw [HPG2.out]
        rintro e w8 ⟨rfl, b8⟩
        have rx8 := rx7.below (b8.mono (by omega))
        have hs8 := b8.size
        have bel8 := bel7.trans (b8.mono (by omega))
        clear b8 bel7 rx7 rs7
        go_wp2_with fail
        refine (askPages_impl rx8 (by omega) hn20).mono ?_
        rintro e w9 ⟨rfl, b9⟩
        have hfd : decide (m ≤ n) = true := by simp [hfw]
        go_wp2_with fail
        go_ret
        exact ⟨by simp [hfw], bel8.trans (b9.mono (by omega))⟩
end Go.Proofs.Ytmkmobgmlhioaaa
