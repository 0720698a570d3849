/- The walks of the exact laws on LogValid and EpochOf. -/
import Derived.Test.YtcaagjepiicleaaLog
namespace Go.Proofs.Ytcaagjepiicleaa
open Go.ChangeShapes Go.WideShapes Go.ChangeAt Go.RowKit
set_option linter.unusedVariables false
set_option linter.unusedSimpArgs false

theorem exactLogValid_w (a0 : Option Addr) (len0 cap0 : Nat) (z0 : List Int) (w : World) (w0 : IsRow .i64 w a0 len0 cap0 z0) :
    Calls Try.prog 3 #[.slice a0 len0 cap0] w fun e w' => e = .returned (.bool true) ∧ Below w.heap.size w w' := by
  obtain ⟨q01, q02, rd0, q04⟩ := isRow_rd w0
  generalize z0.take len0 = x0 at *
  obtain rfl := rd0.len
  unfold maxLen at q02
  clear w0 q04
  by_cases hn0 : 1048576 < x0.length
  · go_enter Try.func3, Try.ntmps3
    go_wp2
    all_goals (go_ret; exact ⟨rfl, Below.refl _ _⟩)
  have hn0 : x0.length ≤ 1048576 := by omega
  go_enter Try.func3, Try.ntmps3
  go_wp2_with fail
  have bel0 : Below w.heap.size w w := Below.refl _ _
  refine (toIntS_o (rd0.below bel0) (by omega) hn0).mono ?_
  rintro e W1 ⟨At0, ct0, rfl, ot0, hb⟩
  have hs1 := hb.size
  have bel1 : Below w.heap.size w W1 := bel0.trans (hb.mono bel0.size)
  clear hb bel0
  go_wp2_with fail
  refine (logValid_spec (rdoI ot0) (by omega)).mono ?_
  rintro e W2 ⟨rfl, hx⟩
  have hb : Below W1.heap.size W1 W2 := by first | exact hx | exact same_below hx | exact drew_below hx
  clear hx
  have hs2 := hb.size
  have bel2 : Below w.heap.size w W2 := bel1.trans (hb.mono bel1.size)
  replace ot0 := own_below ot0 hb
  clear hb bel1
  go_wp2_with fail
  clear ot0
  refine (toIntS_o (rd0.below bel2) (by omega) hn0).mono ?_
  rintro e W3 ⟨AX0, cX0, rfl, oX0, hb⟩
  have hs3 := hb.size
  have bel3 : Below w.heap.size w W3 := bel2.trans (hb.mono bel2.size)
  clear hb bel2
  go_wp2_with fail
  refine (logValid_impl (rdoI oX0) (own_cap oX0).1 (own_cap oX0).2).mono ?_
  rintro e W4 ⟨rfl, hx⟩
  have hb : Below W3.heap.size W3 W4 := by first | exact hx | exact same_below hx | exact drew_below hx
  clear hx
  have hs4 := hb.size
  have bel4 : Below w.heap.size w W4 := bel3.trans (hb.mono bel3.size)
  replace oX0 := own_below oX0 hb
  clear hb bel3
  go_wp2_with fail
  refine (toIntS_o (rd0.below bel4) (by omega) hn0).mono ?_
  rintro e W5 ⟨At0, ct0, rfl, ot0, hb⟩
  have hs5 := hb.size
  have bel5 : Below w.heap.size w W5 := bel4.trans (hb.mono bel4.size)
  replace oX0 := own_below oX0 hb
  clear hb bel4
  go_wp2_with fail
  refine (eqIntS_o (rdoI oX0) (rdoI ot0) (by omega)).mono ?_
  rintro e W6 ⟨rfl, hb⟩
  have hs6 := hb.size
  have bel6 : Below w.heap.size w W6 := bel5.trans (hb.mono bel5.size)
  replace oX0 := own_below oX0 hb
  replace ot0 := own_below ot0 hb
  clear hb bel5
  go_wp2_with fail
  clear ot0
  clear oX0
  go_ret
  exact ⟨rfl, bel6⟩
theorem exactEpochOf_w (a0 : Option Addr) (len0 cap0 : Nat) (z0 : List Int) (a1 : Int) (w : World) (w0 : IsRow .i64 w a0 len0 cap0 z0) (w1 : (Lit.int .i64 a1).wf = true) :
    Calls Try.prog 4 #[.slice a0 len0 cap0, .int .i64 a1] w fun e w' => e = .returned (.bool true) ∧ Below w.heap.size w w' := by
  obtain ⟨q01, q02, rd0, q04⟩ := isRow_rd w0
  generalize z0.take len0 = x0 at *
  obtain rfl := rd0.len
  unfold maxLen at q02
  clear w0 w1 q04
  by_cases hn0 : 1048576 < x0.length
  · go_enter Try.func4, Try.ntmps4
    go_wp2
    all_goals (go_ret; exact ⟨rfl, Below.refl _ _⟩)
  have hn0 : x0.length ≤ 1048576 := by omega
  go_enter Try.func4, Try.ntmps4
  go_wp2_with fail
  have bel0 : Below w.heap.size w w := Below.refl _ _
  refine (toIntS_o (rd0.below bel0) (by omega) hn0).mono ?_
  rintro e W1 ⟨At0, ct0, rfl, ot0, hb⟩
  have hs1 := hb.size
  have bel1 : Below w.heap.size w W1 := bel0.trans (hb.mono bel0.size)
  clear hb bel0
  go_wp2_with fail
  refine (epochOf_spec (v := a1) (rdoI ot0) (by omega)).mono ?_
  rintro e W2 ⟨rfl, hx⟩
  have hb : Below W1.heap.size W1 W2 := by first | exact hx | exact same_below hx | exact drew_below hx
  clear hx
  have hs2 := hb.size
  have bel2 : Below w.heap.size w W2 := bel1.trans (hb.mono bel1.size)
  replace ot0 := own_below ot0 hb
  clear hb bel1
  go_wp2_with fail
  clear ot0
  refine (toIntS_o (rd0.below bel2) (by omega) hn0).mono ?_
  rintro e W3 ⟨AX0, cX0, rfl, oX0, hb⟩
  have hs3 := hb.size
  have bel3 : Below w.heap.size w W3 := bel2.trans (hb.mono bel2.size)
  clear hb bel2
  go_wp2_with fail
  refine (epochOf_impl (v := a1) (rdoI oX0) (own_cap oX0).1 (own_cap oX0).2).mono ?_
  rintro e W4 ⟨rfl, hx⟩
  have hb : Below W3.heap.size W3 W4 := by first | exact hx | exact same_below hx | exact drew_below hx
  clear hx
  have hs4 := hb.size
  have bel4 : Below w.heap.size w W4 := bel3.trans (hb.mono bel3.size)
  replace oX0 := own_below oX0 hb
  clear hb bel3
  go_wp2_with fail
  refine (toIntS_o (rd0.below bel4) (by omega) hn0).mono ?_
  rintro e W5 ⟨At0, ct0, rfl, ot0, hb⟩
  have hs5 := hb.size
  have bel5 : Below w.heap.size w W5 := bel4.trans (hb.mono bel4.size)
  replace oX0 := own_below oX0 hb
  clear hb bel4
  go_wp2_with fail
  refine (eqIntS_o (rdoI oX0) (rdoI ot0) (by omega)).mono ?_
  rintro e W6 ⟨rfl, hb⟩
  have hs6 := hb.size
  have bel6 : Below w.heap.size w W6 := bel5.trans (hb.mono bel5.size)
  replace oX0 := own_below oX0 hb
  replace ot0 := own_below ot0 hb
  clear hb bel5
  go_wp2_with fail
  clear ot0
  clear oX0
  go_ret
  exact ⟨rfl, bel6⟩
end Go.Proofs.Ytcaagjepiicleaa
