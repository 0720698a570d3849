/- The walk of the exact law on HideAll. -/
import Derived.Test.YtggagpojgoimoabHide
namespace Go.Proofs.Ytggagpojgoimoab
open Go.ChangeShapes Go.WideShapes Go.ChangeAt Go.RowKit
set_option linter.unusedVariables false
set_option linter.unusedSimpArgs false

theorem hideAll_len (k p : Int) (xs : List Int) : (hideAll k p xs).length ≤ 1048576 := by
  unfold hideAll
  split
  · next h => rw [hidTo_len]; obtain ⟨_, _, _, _, h5, _⟩ := h; omega
  · simp
theorem exactHideAll_w (a0 : Int) (a1 : Int) (a2 : Option Addr) (len2 cap2 : Nat) (z2 : List Int) (w : World) (w0 : (Lit.int .i64 a0).wf = true) (w1 : (Lit.int .i64 a1).wf = true) (w2 : IsRow .i64 w a2 len2 cap2 z2) :
    Calls Try.prog 3 #[.int .i64 a0, .int .i64 a1, .slice a2 len2 cap2] w fun e w' => e = .returned (.bool true) ∧ Below w.heap.size w w' := by
  obtain ⟨q21, q22, rd2, q24⟩ := isRow_rd w2
  generalize z2.take len2 = x2 at *
  obtain rfl := rd2.len
  unfold maxLen at q22
  clear w0 w1 w2 q24
  by_cases hn2 : 1048576 < x2.length
  · go_enter Try.func3, Try.ntmps3
    go_wp2
    all_goals (go_ret; exact ⟨rfl, Below.refl _ _⟩)
  have hn2 : x2.length ≤ 1048576 := by omega
  go_enter Try.func3, Try.ntmps3
  go_wp2_with fail
  have bel0 : Below w.heap.size w w := Below.refl _ _
  have hyl : (hideAll a0 a1 x2).length ≤ 1048576 := hideAll_len _ _ _
  generalize hys : hideAll a0 a1 x2 = ys at *
  have HYS := Lib.hid hys; clear hys
  refine (toIntS_o (rd2.below bel0) (by omega) hn2).mono ?_
  rintro e W1 ⟨At2, ct2, rfl, ot2, hb⟩
  have bt2 := ot2.lt
  have hs1 := hb.size
  have bel1 : Below w.heap.size w W1 := bel0.trans (hb.mono bel0.size)
  clear hb bel0
  go_wp2_with fail
  refine (hideAll_spec (key := a0) (place := a1) (xs := x2) (rdoI ot2) (Nat.le_refl _) hn2).mono ?_
  rw [HYS.out]
  rintro e W2 ⟨AS, cS, rfl, oS, hb⟩
  have bS := oS.lt
  have hs2 := hb.size
  have bel2 : Below w.heap.size w W2 := bel1.trans (hb.mono bel1.size)
  replace ot2 := own_below ot2 hb
  clear hb bel1
  go_wp2_with fail
  clear ot2 bt2
  refine (toIntS_o (rd2.below bel2) (by omega) hn2).mono ?_
  rintro e W3 ⟨AX2, cX2, rfl, oX2, hb⟩
  have bX2 := oX2.lt
  have hs3 := hb.size
  have bel3 : Below w.heap.size w W3 := bel2.trans (hb.mono bel2.size)
  replace oS := own_below oS hb
  clear hb bel2
  go_wp2_with fail
  refine (hideAll_impl (key := a0) (place := a1) (xs := x2) (rdoI oX2) (Nat.le_refl _) hn2).mono ?_
  rw [HYS.out]
  rintro e W4 ⟨AG, cG, rfl, oG, hb⟩
  have bG := oG.lt
  have hs4 := hb.size
  have bel4 : Below w.heap.size w W4 := bel3.trans (hb.mono bel3.size)
  replace oS := own_below oS hb
  replace oX2 := own_below oX2 hb
  clear hb bel3
  go_wp2_with fail
  refine (eqIntS_o (rdoI oG) (rdoI oS) (by omega)).mono ?_
  rintro e W5 ⟨rfl, hb⟩
  have hs5 := hb.size
  have bel5 : Below w.heap.size w W5 := bel4.trans (hb.mono bel4.size)
  replace oS := own_below oS hb
  replace oX2 := own_below oX2 hb
  replace oG := own_below oG hb
  clear hb bel4
  go_wp2_with fail
  refine (toIntS_o (rd2.below bel5) (by omega) hn2).mono ?_
  rintro e W6 ⟨At2, ct2, rfl, ot2, hb⟩
  have bt2 := ot2.lt
  have hs6 := hb.size
  have bel6 : Below w.heap.size w W6 := bel5.trans (hb.mono bel5.size)
  replace oS := own_below oS hb
  replace oX2 := own_below oX2 hb
  replace oG := own_below oG hb
  clear hb bel5
  go_wp2_with fail
  refine (eqIntS_o (rdoI oX2) (rdoI ot2) (by omega)).mono ?_
  rintro e W7 ⟨rfl, hb⟩
  have hs7 := hb.size
  have bel7 : Below w.heap.size w W7 := bel6.trans (hb.mono bel6.size)
  replace oS := own_below oS hb
  replace oX2 := own_below oX2 hb
  replace oG := own_below oG hb
  replace ot2 := own_below ot2 hb
  clear hb bel6
  go_wp2_with fail
  clear ot2 bt2
  refine (markIntS_o oX2 (by omega) (by omega) (by omega)).mono ?_
  clear oX2
  rintro e W8 ⟨rfl, oX2, hg⟩
  have hs8 := hg.size
  have bel8 : Below w.heap.size w W8 := bel7.grown hg bel7.size (fun k hk => (Nat.le_trans (by omega) (bX2 k hk).1))
  replace oS := own_other oS hg (fun k hk e => by have h1 := bS k hk; have h2 := bX2 k e; omega)
  replace oG := own_other oG hg (fun k hk e => by have h1 := bG k hk; have h2 := bX2 k e; omega)
  clear hg bel7
  go_wp2_with fail
  refine (eqIntS_o (rdoI oG) (rdoI oS) (by omega)).mono ?_
  rintro e W9 ⟨rfl, hb⟩
  have hs9 := hb.size
  have bel9 : Below w.heap.size w W9 := bel8.trans (hb.mono bel8.size)
  replace oS := own_below oS hb
  replace oX2 := own_below oX2 hb
  replace oG := own_below oG hb
  clear hb bel8
  go_wp2_with fail
  clear oX2 bX2
  refine (markIntS_o oG (by omega) (by omega) (by omega)).mono ?_
  clear oG
  rintro e W10 ⟨rfl, oG, hg⟩
  have hs10 := hg.size
  have bel10 : Below w.heap.size w W10 := bel9.grown hg bel9.size (fun k hk => (Nat.le_trans (by omega) (bG k hk).1))
  replace oS := own_other oS hg (fun k hk e => by have h1 := bS k hk; have h2 := bG k e; omega)
  clear hg bel9
  go_wp2_with fail
  refine (heldIntS_o oG (by omega) (by omega) (by omega)).mono ?_
  rintro e W11 ⟨rfl, rfl⟩
  go_wp2_with fail
  refine (toIntS_o (rd2.below bel10) (by omega) hn2).mono ?_
  rintro e W12 ⟨At2, ct2, rfl, ot2, hb⟩
  have bt2 := ot2.lt
  have hs12 := hb.size
  have bel12 : Below w.heap.size w W12 := bel10.trans (hb.mono bel10.size)
  replace oS := own_below oS hb
  replace oG := own_below oG hb
  clear hb bel10
  go_wp2_with fail
  refine (hideAll_impl (key := a0) (place := a1) (xs := x2) (rdoI ot2) (Nat.le_refl _) hn2).mono ?_
  rw [HYS.out]
  rintro e W13 ⟨AH, cH, rfl, oH, hb⟩
  have bH := oH.lt
  have hs13 := hb.size
  have bel13 : Below w.heap.size w W13 := bel12.trans (hb.mono bel12.size)
  replace oS := own_below oS hb
  replace oG := own_below oG hb
  replace ot2 := own_below ot2 hb
  clear hb bel12
  go_wp2_with fail
  refine (eqIntS_o (rdoI oH) (rdoI oS) (by omega)).mono ?_
  rintro e W14 ⟨rfl, hb⟩
  have hs14 := hb.size
  have bel14 : Below w.heap.size w W14 := bel13.trans (hb.mono bel13.size)
  replace oS := own_below oS hb
  replace oG := own_below oG hb
  replace ot2 := own_below ot2 hb
  replace oH := own_below oH hb
  clear hb bel13
  go_wp2_with fail
  refine (heldIntS_o oG (by omega) (by omega) (by omega)).mono ?_
  rintro e W15 ⟨rfl, rfl⟩
  go_wp2_with fail
  go_ret
  exact ⟨rfl, bel14⟩
end Go.Proofs.Ytggagpojgoimoab
