/- The walk of the exact law on ShareRun. -/
import Derived.Test.YtiojgofkilojmaaShare
namespace Go.Proofs.Ytiojgofkilojmaa
open Go.ChangeShapes Go.WideShapes Go.ChangeAt Go.RowKit
set_option linter.unusedVariables false
set_option linter.unusedSimpArgs false

theorem exactShareRun_w (a0 : Option Addr) (len0 cap0 : Nat) (z0 : List Int) (a1 : Option Addr) (len1 cap1 : Nat) (z1 : List Int) (w : World) (w0 : IsRow .i64 w a0 len0 cap0 z0) (w1 : IsRow .i64 w a1 len1 cap1 z1) :
    Calls Try.prog 3 #[.slice a0 len0 cap0, .slice a1 len1 cap1] w fun e w' => e = .returned (.bool true) ∧ Below w.heap.size w w' := by
  obtain ⟨q01, q02, rd0, q04⟩ := isRow_rd w0
  generalize z0.take len0 = x0 at *
  obtain rfl := rd0.len
  unfold maxLen at q02
  obtain ⟨q11, q12, rd1, q14⟩ := isRow_rd w1
  generalize z1.take len1 = x1 at *
  obtain rfl := rd1.len
  unfold maxLen at q12
  clear w0 w1 q04 q14
  by_cases hn0 : 1048576 < x0.length
  · go_enter Try.func3, Try.ntmps3
    go_wp2
    all_goals (go_ret; exact ⟨rfl, Below.refl _ _⟩)
  have hn0 : x0.length ≤ 1048576 := by omega
  by_cases hn1 : 1048576 < x1.length
  · go_enter Try.func3, Try.ntmps3
    go_wp2
    all_goals (go_ret; exact ⟨rfl, Below.refl _ _⟩)
  have hn1 : x1.length ≤ 1048576 := by omega
  go_enter Try.func3, Try.ntmps3
  go_wp2_with fail
  have bel0 : Below w.heap.size w w := Below.refl _ _
  refine (toIntS_o (rd0.below bel0) (by omega) hn0).mono ?_
  rintro e W1 ⟨At0, ct0, rfl, ot0, hb⟩
  have hs1 := hb.size
  have bel1 : Below w.heap.size w W1 := bel0.trans (hb.mono bel0.size)
  clear hb bel0
  go_wp2_with fail
  refine (toIntS_o (rd1.below bel1) (by omega) hn1).mono ?_
  rintro e W2 ⟨At1, ct1, rfl, ot1, hb⟩
  have hs2 := hb.size
  have bel2 : Below w.heap.size w W2 := bel1.trans (hb.mono bel1.size)
  replace ot0 := own_below ot0 hb
  clear hb bel1
  go_wp2_with fail
  refine (shareRun_spec (rdoI ot0) hn0 (rdoI ot1) hn1).mono ?_
  rintro e W3 ⟨rfl, hx⟩
  have hb : Below W2.heap.size W2 W3 := by first | exact hx | exact same_below hx | exact drew_below hx
  clear hx
  have hs3 := hb.size
  have bel3 : Below w.heap.size w W3 := bel2.trans (hb.mono bel2.size)
  replace ot0 := own_below ot0 hb
  replace ot1 := own_below ot1 hb
  clear hb bel2
  go_wp2_with fail
  clear ot0
  clear ot1
  refine (toIntS_o (rd0.below bel3) (by omega) hn0).mono ?_
  rintro e W4 ⟨AX0, cX0, rfl, oX0, hb⟩
  have hs4 := hb.size
  have bel4 : Below w.heap.size w W4 := bel3.trans (hb.mono bel3.size)
  clear hb bel3
  go_wp2_with fail
  refine (toIntS_o (rd1.below bel4) (by omega) hn1).mono ?_
  rintro e W5 ⟨AX1, cX1, rfl, oX1, hb⟩
  have hs5 := hb.size
  have bel5 : Below w.heap.size w W5 := bel4.trans (hb.mono bel4.size)
  replace oX0 := own_below oX0 hb
  clear hb bel4
  go_wp2_with fail
  refine (shareRun_impl (rdoI oX0) hn0 (rdoI oX1) hn1).mono ?_
  rintro e W6 ⟨rfl, hx⟩
  have hb : Below W5.heap.size W5 W6 := by first | exact hx | exact same_below hx | exact drew_below hx
  clear hx
  have hs6 := hb.size
  have bel6 : Below w.heap.size w W6 := bel5.trans (hb.mono bel5.size)
  replace oX0 := own_below oX0 hb
  replace oX1 := own_below oX1 hb
  clear hb bel5
  go_wp2_with fail
  refine (toIntS_o (rd0.below bel6) (by omega) hn0).mono ?_
  rintro e W7 ⟨At0, ct0, rfl, ot0, hb⟩
  have hs7 := hb.size
  have bel7 : Below w.heap.size w W7 := bel6.trans (hb.mono bel6.size)
  replace oX0 := own_below oX0 hb
  replace oX1 := own_below oX1 hb
  clear hb bel6
  go_wp2_with fail
  refine (eqIntS_o (rdoI oX0) (rdoI ot0) (by omega)).mono ?_
  rintro e W8 ⟨rfl, hb⟩
  have hs8 := hb.size
  have bel8 : Below w.heap.size w W8 := bel7.trans (hb.mono bel7.size)
  replace oX0 := own_below oX0 hb
  replace oX1 := own_below oX1 hb
  replace ot0 := own_below ot0 hb
  clear hb bel7
  go_wp2_with fail
  clear ot0
  clear oX0
  refine (toIntS_o (rd1.below bel8) (by omega) hn1).mono ?_
  rintro e W9 ⟨At1, ct1, rfl, ot1, hb⟩
  have hs9 := hb.size
  have bel9 : Below w.heap.size w W9 := bel8.trans (hb.mono bel8.size)
  replace oX1 := own_below oX1 hb
  clear hb bel8
  go_wp2_with fail
  refine (eqIntS_o (rdoI oX1) (rdoI ot1) (by omega)).mono ?_
  rintro e W10 ⟨rfl, hb⟩
  have hs10 := hb.size
  have bel10 : Below w.heap.size w W10 := bel9.trans (hb.mono bel9.size)
  replace oX1 := own_below oX1 hb
  replace ot1 := own_below ot1 hb
  clear hb bel9
  go_wp2_with fail
  clear ot1
  clear oX1
  go_ret
  exact ⟨rfl, bel10⟩
end Go.Proofs.Ytiojgofkilojmaa
