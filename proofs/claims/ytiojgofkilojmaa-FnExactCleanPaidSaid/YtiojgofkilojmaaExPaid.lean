/- The walk of the exact law on CleanPaid. -/
import Derived.Test.YtiojgofkilojmaaPaidS
namespace Go.Proofs.Ytiojgofkilojmaa
open Go.ChangeShapes Go.WideShapes Go.ChangeAt Go.RowKit
set_option linter.unusedVariables false
set_option linter.unusedSimpArgs false

theorem exactCleanPaid_w (a0 : Option Addr) (len0 cap0 : Nat) (z0 : List Int) (a1 : Int) (w : World) (w0 : IsRow .i64 w a0 len0 cap0 z0) (w1 : (Lit.int .i64 a1).wf = true) :
    Calls Try.prog 5 #[.slice a0 len0 cap0, .int .i64 a1] w fun e w' => e = .returned (.bool true) ∧ Below w.heap.size w w' := by
  obtain ⟨q01, q02, rd0, q04⟩ := isRow_rd w0
  generalize z0.take len0 = x0 at *
  obtain rfl := rd0.len
  unfold maxLen at q02
  clear w0 w1 q04
  by_cases hn0 : 1048576 < x0.length
  · go_enter Try.func5, Try.ntmps5
    go_wp2
    all_goals (go_ret; exact ⟨rfl, Below.refl _ _⟩)
  have hn0 : x0.length ≤ 1048576 := by omega
  go_enter Try.func5, Try.ntmps5
  go_wp2_with fail
  have bel0 : Below w.heap.size w w := Below.refl _ _
  have hyl : (cleanPaid x0 a1).length ≤ 1048576 := Nat.le_trans (cleanPaid_len _ _) (by omega)
  generalize hys : cleanPaid x0 a1 = ys at *
  have HYS := Lib.hid hys; clear hys
  refine (toIntS_o (rd0.below bel0) (by omega) hn0).mono ?_
  rintro e W1 ⟨At0, ct0, rfl, ot0, hb⟩
  have bt0 := ot0.lt
  have hs1 := hb.size
  have bel1 : Below w.heap.size w W1 := bel0.trans (hb.mono bel0.size)
  clear hb bel0
  go_wp2_with fail
  refine (cleanPaid_spec (cr := a1) (rdoI ot0) (Nat.le_refl _) hn0 ).mono ?_
  rw [HYS.out]
  rintro e W2 ⟨AS, cS, rfl, oS, hb⟩
  have bS := oS.lt
  have hs2 := hb.size
  have bel2 : Below w.heap.size w W2 := bel1.trans (hb.mono bel1.size)
  replace ot0 := own_below ot0 hb
  clear hb bel1
  go_wp2_with fail
  clear ot0 bt0
  refine (toIntS_o (rd0.below bel2) (by omega) hn0).mono ?_
  rintro e W3 ⟨AX0, cX0, rfl, oX0, hb⟩
  have bX0 := oX0.lt
  have hs3 := hb.size
  have bel3 : Below w.heap.size w W3 := bel2.trans (hb.mono bel2.size)
  replace oS := own_below oS hb
  clear hb bel2
  go_wp2_with fail
  refine (cleanPaid_impl (cr := a1) (rdoI oX0) (Nat.le_refl _) hn0 ).mono ?_
  rw [HYS.out]
  rintro e W4 ⟨AG, cG, rfl, oG, hb⟩
  have bG := oG.lt
  have hs4 := hb.size
  have bel4 : Below w.heap.size w W4 := bel3.trans (hb.mono bel3.size)
  replace oS := own_below oS hb
  replace oX0 := own_below oX0 hb
  clear hb bel3
  go_wp2_with fail
  refine (eqIntS_o (rdoI oG) (rdoI oS) (by omega)).mono ?_
  rintro e W5 ⟨rfl, hb⟩
  have hs5 := hb.size
  have bel5 : Below w.heap.size w W5 := bel4.trans (hb.mono bel4.size)
  replace oS := own_below oS hb
  replace oX0 := own_below oX0 hb
  replace oG := own_below oG hb
  clear hb bel4
  go_wp2_with fail
  refine (toIntS_o (rd0.below bel5) (by omega) hn0).mono ?_
  rintro e W6 ⟨At0, ct0, rfl, ot0, hb⟩
  have bt0 := ot0.lt
  have hs6 := hb.size
  have bel6 : Below w.heap.size w W6 := bel5.trans (hb.mono bel5.size)
  replace oS := own_below oS hb
  replace oX0 := own_below oX0 hb
  replace oG := own_below oG hb
  clear hb bel5
  go_wp2_with fail
  refine (eqIntS_o (rdoI oX0) (rdoI ot0) (by omega)).mono ?_
  rintro e W7 ⟨rfl, hb⟩
  have hs7 := hb.size
  have bel7 : Below w.heap.size w W7 := bel6.trans (hb.mono bel6.size)
  replace oS := own_below oS hb
  replace oX0 := own_below oX0 hb
  replace oG := own_below oG hb
  replace ot0 := own_below ot0 hb
  clear hb bel6
  go_wp2_with fail
  clear ot0 bt0
  refine (markIntS_o oX0 (by omega) (by omega) (by omega)).mono ?_
  clear oX0
  rintro e W8 ⟨rfl, oX0, hg⟩
  have hs8 := hg.size
  have bel8 : Below w.heap.size w W8 := bel7.grown hg bel7.size (fun k hk => (Nat.le_trans (by omega) (bX0 k hk).1))
  replace oS := own_other oS hg (fun k hk e => by have h1 := bS k hk; have h2 := bX0 k e; omega)
  replace oG := own_other oG hg (fun k hk e => by have h1 := bG k hk; have h2 := bX0 k e; omega)
  clear hg bel7
  go_wp2_with fail
  refine (eqIntS_o (rdoI oG) (rdoI oS) (by omega)).mono ?_
  rintro e W9 ⟨rfl, hb⟩
  have hs9 := hb.size
  have bel9 : Below w.heap.size w W9 := bel8.trans (hb.mono bel8.size)
  replace oS := own_below oS hb
  replace oX0 := own_below oX0 hb
  replace oG := own_below oG hb
  clear hb bel8
  go_wp2_with fail
  clear oX0 bX0
  refine (markIntS_o oG (by omega) (by omega) (by omega)).mono ?_
  clear oG
  rintro e W10 ⟨rfl, oG, hg⟩
  have hs10 := hg.size
  have bel10 : Below w.heap.size w W10 := bel9.grown hg bel9.size (fun k hk => (Nat.le_trans (by omega) (bG k hk).1))
  replace oS := own_other oS hg (fun k hk e => by have h1 := bS k hk; have h2 := bG k e; omega)
  clear hg bel9
  go_wp2_with fail
  refine (heldIntS_o oG (by omega) (by omega) (by omega)).mono ?_
  rintro e W11 ⟨rfl, rfl⟩
  go_wp2_with fail
  refine (toIntS_o (rd0.below bel10) (by omega) hn0).mono ?_
  rintro e W12 ⟨At0, ct0, rfl, ot0, hb⟩
  have bt0 := ot0.lt
  have hs12 := hb.size
  have bel12 : Below w.heap.size w W12 := bel10.trans (hb.mono bel10.size)
  replace oS := own_below oS hb
  replace oG := own_below oG hb
  clear hb bel10
  go_wp2_with fail
  refine (cleanPaid_impl (cr := a1) (rdoI ot0) (Nat.le_refl _) hn0 ).mono ?_
  rw [HYS.out]
  rintro e W13 ⟨AH, cH, rfl, oH, hb⟩
  have bH := oH.lt
  have hs13 := hb.size
  have bel13 : Below w.heap.size w W13 := bel12.trans (hb.mono bel12.size)
  replace oS := own_below oS hb
  replace oG := own_below oG hb
  replace ot0 := own_below ot0 hb
  clear hb bel12
  go_wp2_with fail
  refine (eqIntS_o (rdoI oH) (rdoI oS) (by omega)).mono ?_
  rintro e W14 ⟨rfl, hb⟩
  have hs14 := hb.size
  have bel14 : Below w.heap.size w W14 := bel13.trans (hb.mono bel13.size)
  replace oS := own_below oS hb
  replace oG := own_below oG hb
  replace ot0 := own_below ot0 hb
  replace oH := own_below oH hb
  clear hb bel13
  go_wp2_with fail
  refine (heldIntS_o oG (by omega) (by omega) (by omega)).mono ?_
  rintro e W15 ⟨rfl, rfl⟩
  go_wp2_with fail
  go_ret
  exact ⟨rfl, bel14⟩
end Go.Proofs.Ytiojgofkilojmaa
