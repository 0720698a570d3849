/- The walk of the exact law on ApplySteps. -/
import Derived.Test.YtiodnicpecjagaaApply
namespace Go.Proofs.Ytiodnicpecjagaa
open Go.ChangeShapes Go.WideShapes Go.ChangeAt Go.RowKit
set_option linter.unusedVariables false
set_option linter.unusedSimpArgs false

theorem exactApplySteps_w (a0 : Option Addr) (len0 cap0 : Nat) (z0 : List Int) (a1 : Option Addr) (len1 cap1 : Nat) (z1 : List (Int × Int)) (w : World) (w0 : IsRow .i64 w a0 len0 cap0 z0) (w1 : IsRowStep w a1 len1 cap1 z1) :
    Calls Try.prog 9 #[.slice a0 len0 cap0, .slice a1 len1 cap1] w fun e w' => e = .returned (.bool true) ∧ Below w.heap.size w w' := by
  obtain ⟨q01, q02, rd0, q04⟩ := isRow_rd w0
  generalize z0.take len0 = x0 at *
  obtain rfl := rd0.len
  unfold maxLen at q02
  obtain ⟨q11, q12, rd1⟩ := isRowStep_rd w1
  generalize z1.take len1 = x1 at *
  obtain rfl := rd1.len
  unfold maxLen at q12
  clear w0 w1 q04
  by_cases hn0 : 1048576 < x0.length
  · go_enter Try.func9, Try.ntmps9
    go_wp2
    all_goals (go_ret; exact ⟨rfl, Below.refl _ _⟩)
  have hn0 : x0.length ≤ 1048576 := by omega
  by_cases hn1 : 1048576 < x1.length
  · go_enter Try.func9, Try.ntmps9
    go_wp2_with (go_at_call 28; refine (szStepS_no hn1 (by omega)).mono ?_; rintro e w' ⟨rfl, rfl⟩)
    all_goals (go_ret; exact ⟨rfl, Below.refl _ _⟩)
  have hn1 : x1.length ≤ 1048576 := by omega
  go_enter Try.func9, Try.ntmps9
  go_wp2_with (first | (go_at_call 28; refine (szStepS_yes hn1).mono ?_; rintro e w' ⟨rfl, rfl⟩))
  have bel0 : Below w.heap.size w w := Below.refl _ _
  have hyl : (applySteps x0 x1).length ≤ 1048576 := Nat.le_trans (apply_len _ _) (by omega)
  generalize hys : applySteps x0 x1 = ys at *
  have HYS := Lib.hid hys; clear hys
  refine (toIntS_o (rd0.below bel0) (by omega) hn0).mono ?_
  rintro e W1 ⟨At0, ct0, rfl, ot0, hb⟩
  have bt0 := ot0.lt
  have hs1 := hb.size
  have bel1 : Below w.heap.size w W1 := bel0.trans (hb.mono bel0.size)
  clear hb bel0
  go_wp2_with fail
  refine (toStepS_o (rd1.below bel1) (by omega) hn1).mono ?_
  rintro e W2 ⟨At1, ct1, rfl, ot1, hb⟩
  have bt1 := ot1.lt
  have hs2 := hb.size
  have bel2 : Below w.heap.size w W2 := bel1.trans (hb.mono bel1.size)
  replace ot0 := own_below ot0 hb
  clear hb bel1
  go_wp2_with fail
  refine (applySteps_spec (xs := x0) (ps := x1) (rdoI ot0) (Nat.le_refl _) hn0 (own_nil ot0) (rdoStep ot1) (Nat.le_refl _) hn1 ).mono ?_
  rw [HYS.out]
  rintro e W3 ⟨AS, cS, rfl, oS, hb⟩
  have bS := oS.lt
  have hs3 := hb.size
  have bel3 : Below w.heap.size w W3 := bel2.trans (hb.mono bel2.size)
  replace ot0 := own_below ot0 hb
  replace ot1 := own_below ot1 hb
  clear hb bel2
  go_wp2_with fail
  clear ot0 bt0
  clear ot1 bt1
  refine (toIntS_o (rd0.below bel3) (by omega) hn0).mono ?_
  rintro e W4 ⟨AX0, cX0, rfl, oX0, hb⟩
  have bX0 := oX0.lt
  have hs4 := hb.size
  have bel4 : Below w.heap.size w W4 := bel3.trans (hb.mono bel3.size)
  replace oS := own_below oS hb
  clear hb bel3
  go_wp2_with fail
  refine (toStepS_o (rd1.below bel4) (by omega) hn1).mono ?_
  rintro e W5 ⟨AX1, cX1, rfl, oX1, hb⟩
  have bX1 := oX1.lt
  have hs5 := hb.size
  have bel5 : Below w.heap.size w W5 := bel4.trans (hb.mono bel4.size)
  replace oS := own_below oS hb
  replace oX0 := own_below oX0 hb
  clear hb bel4
  go_wp2_with fail
  refine (applySteps_impl (xs := x0) (ps := x1) (rdoI oX0) (Nat.le_refl _) hn0 (own_cap oX0).1 (own_cap oX0).2 (rdoStep oX1) (Nat.le_refl _) hn1 ).mono ?_
  rw [HYS.out]
  rintro e W6 ⟨AG, cG, rfl, oG, hb⟩
  have bG := oG.lt
  have hs6 := hb.size
  have bel6 : Below w.heap.size w W6 := bel5.trans (hb.mono bel5.size)
  replace oS := own_below oS hb
  replace oX0 := own_below oX0 hb
  replace oX1 := own_below oX1 hb
  clear hb bel5
  go_wp2_with fail
  refine (eqIntS_o (rdoI oG) (rdoI oS) (by omega)).mono ?_
  rintro e W7 ⟨rfl, hb⟩
  have hs7 := hb.size
  have bel7 : Below w.heap.size w W7 := bel6.trans (hb.mono bel6.size)
  replace oS := own_below oS hb
  replace oX0 := own_below oX0 hb
  replace oX1 := own_below oX1 hb
  replace oG := own_below oG hb
  clear hb bel6
  go_wp2_with fail
  refine (toIntS_o (rd0.below bel7) (by omega) hn0).mono ?_
  rintro e W8 ⟨At0, ct0, rfl, ot0, hb⟩
  have bt0 := ot0.lt
  have hs8 := hb.size
  have bel8 : Below w.heap.size w W8 := bel7.trans (hb.mono bel7.size)
  replace oS := own_below oS hb
  replace oX0 := own_below oX0 hb
  replace oX1 := own_below oX1 hb
  replace oG := own_below oG hb
  clear hb bel7
  go_wp2_with fail
  refine (eqIntS_o (rdoI oX0) (rdoI ot0) (by omega)).mono ?_
  rintro e W9 ⟨rfl, hb⟩
  have hs9 := hb.size
  have bel9 : Below w.heap.size w W9 := bel8.trans (hb.mono bel8.size)
  replace oS := own_below oS hb
  replace oX0 := own_below oX0 hb
  replace oX1 := own_below oX1 hb
  replace oG := own_below oG hb
  replace ot0 := own_below ot0 hb
  clear hb bel8
  go_wp2_with fail
  clear ot0 bt0
  refine (toStepS_o (rd1.below bel9) (by omega) hn1).mono ?_
  rintro e W10 ⟨At1, ct1, rfl, ot1, hb⟩
  have bt1 := ot1.lt
  have hs10 := hb.size
  have bel10 : Below w.heap.size w W10 := bel9.trans (hb.mono bel9.size)
  replace oS := own_below oS hb
  replace oX0 := own_below oX0 hb
  replace oX1 := own_below oX1 hb
  replace oG := own_below oG hb
  clear hb bel9
  go_wp2_with fail
  refine (eqStepS_o (rdoStep oX1) (rdoStep ot1) (by omega)).mono ?_
  rintro e W11 ⟨rfl, hb⟩
  have hs11 := hb.size
  have bel11 : Below w.heap.size w W11 := bel10.trans (hb.mono bel10.size)
  replace oS := own_below oS hb
  replace oX0 := own_below oX0 hb
  replace oX1 := own_below oX1 hb
  replace oG := own_below oG hb
  replace ot1 := own_below ot1 hb
  clear hb bel10
  go_wp2_with fail
  clear ot1 bt1
  refine (markIntS_o oX0 (by omega) (by omega) (by omega)).mono ?_
  clear oX0
  rintro e W12 ⟨rfl, oX0, hg⟩
  have hs12 := hg.size
  have bel12 : Below w.heap.size w W12 := bel11.grown hg bel11.size (fun k hk => (Nat.le_trans (by omega) (bX0 k hk).1))
  replace oS := own_other oS hg (fun k hk e => by have h1 := bS k hk; have h2 := bX0 k e; omega)
  replace oX1 := own_other oX1 hg (fun k hk e => by have h1 := bX1 k hk; have h2 := bX0 k e; omega)
  replace oG := own_other oG hg (fun k hk e => by have h1 := bG k hk; have h2 := bX0 k e; omega)
  clear hg bel11
  go_wp2_with fail
  refine (markStepS_o oX1 (by omega) (by omega) (by omega)).mono ?_
  clear oX1
  rintro e W13 ⟨rfl, oX1, hg⟩
  have hs13 := hg.size
  have bel13 : Below w.heap.size w W13 := bel12.grown hg bel12.size (fun k hk => (Nat.le_trans (by omega) (bX1 k hk).1))
  replace oS := own_other oS hg (fun k hk e => by have h1 := bS k hk; have h2 := bX1 k e; omega)
  replace oX0 := own_other oX0 hg (fun k hk e => by have h1 := bX0 k hk; have h2 := bX1 k e; omega)
  replace oG := own_other oG hg (fun k hk e => by have h1 := bG k hk; have h2 := bX1 k e; omega)
  clear hg bel12
  go_wp2_with fail
  refine (eqIntS_o (rdoI oG) (rdoI oS) (by omega)).mono ?_
  rintro e W14 ⟨rfl, hb⟩
  have hs14 := hb.size
  have bel14 : Below w.heap.size w W14 := bel13.trans (hb.mono bel13.size)
  replace oS := own_below oS hb
  replace oX0 := own_below oX0 hb
  replace oX1 := own_below oX1 hb
  replace oG := own_below oG hb
  clear hb bel13
  go_wp2_with fail
  clear oX0 bX0
  clear oX1 bX1
  refine (markIntS_o oG (by omega) (by omega) (by omega)).mono ?_
  clear oG
  rintro e W15 ⟨rfl, oG, hg⟩
  have hs15 := hg.size
  have bel15 : Below w.heap.size w W15 := bel14.grown hg bel14.size (fun k hk => (Nat.le_trans (by omega) (bG k hk).1))
  replace oS := own_other oS hg (fun k hk e => by have h1 := bS k hk; have h2 := bG k e; omega)
  clear hg bel14
  go_wp2_with fail
  refine (heldIntS_o oG (by omega) (by omega) (by omega)).mono ?_
  rintro e W16 ⟨rfl, rfl⟩
  go_wp2_with fail
  refine (toIntS_o (rd0.below bel15) (by omega) hn0).mono ?_
  rintro e W17 ⟨At0, ct0, rfl, ot0, hb⟩
  have bt0 := ot0.lt
  have hs17 := hb.size
  have bel17 : Below w.heap.size w W17 := bel15.trans (hb.mono bel15.size)
  replace oS := own_below oS hb
  replace oG := own_below oG hb
  clear hb bel15
  go_wp2_with fail
  refine (toStepS_o (rd1.below bel17) (by omega) hn1).mono ?_
  rintro e W18 ⟨At1, ct1, rfl, ot1, hb⟩
  have bt1 := ot1.lt
  have hs18 := hb.size
  have bel18 : Below w.heap.size w W18 := bel17.trans (hb.mono bel17.size)
  replace oS := own_below oS hb
  replace oG := own_below oG hb
  replace ot0 := own_below ot0 hb
  clear hb bel17
  go_wp2_with fail
  refine (applySteps_impl (xs := x0) (ps := x1) (rdoI ot0) (Nat.le_refl _) hn0 (own_cap ot0).1 (own_cap ot0).2 (rdoStep ot1) (Nat.le_refl _) hn1 ).mono ?_
  rw [HYS.out]
  rintro e W19 ⟨AH, cH, rfl, oH, hb⟩
  have bH := oH.lt
  have hs19 := hb.size
  have bel19 : Below w.heap.size w W19 := bel18.trans (hb.mono bel18.size)
  replace oS := own_below oS hb
  replace oG := own_below oG hb
  replace ot0 := own_below ot0 hb
  replace ot1 := own_below ot1 hb
  clear hb bel18
  go_wp2_with fail
  refine (eqIntS_o (rdoI oH) (rdoI oS) (by omega)).mono ?_
  rintro e W20 ⟨rfl, hb⟩
  have hs20 := hb.size
  have bel20 : Below w.heap.size w W20 := bel19.trans (hb.mono bel19.size)
  replace oS := own_below oS hb
  replace oG := own_below oG hb
  replace ot0 := own_below ot0 hb
  replace ot1 := own_below ot1 hb
  replace oH := own_below oH hb
  clear hb bel19
  go_wp2_with fail
  refine (heldIntS_o oG (by omega) (by omega) (by omega)).mono ?_
  rintro e W21 ⟨rfl, rfl⟩
  go_wp2_with fail
  go_ret
  exact ⟨rfl, bel20⟩
end Go.Proofs.Ytiodnicpecjagaa
