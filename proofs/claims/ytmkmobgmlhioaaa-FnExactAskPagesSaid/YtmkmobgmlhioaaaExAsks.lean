/- The walks of the exact laws on AsksValid and AskPages. -/
import Derived.Test.YtmkmobgmlhioaaaAsks
namespace Go.Proofs.Ytmkmobgmlhioaaa
open Go.ChangeShapes Go.WideShapes Go.ChangeAt Go.RowKit
set_option linter.unusedVariables false
set_option linter.unusedSimpArgs false

theorem exactAsksValid_w (a0 : Option Addr) (len0 cap0 : Nat) (z0 : List (Int × Int)) (w : World) (w0 : IsRowAsk w a0 len0 cap0 z0) :
    Calls Try.prog 3 #[.slice a0 len0 cap0] w fun e w' => e = .returned (.bool true) ∧ Below w.heap.size w w' := by
  obtain ⟨q01, q02, rd0⟩ := isRowAsk_rd w0
  generalize z0.take len0 = x0 at *
  obtain rfl := rd0.len
  unfold maxLen at q02
  clear w0
  by_cases hn0 : 1048576 < x0.length
  · go_enter Try.func3, Try.ntmps3
    go_wp2_with (first | (go_at_call 13; refine (szAskS_no hn0 (by omega)).mono ?_; rintro e w' ⟨rfl, rfl⟩))
    all_goals (go_ret; exact ⟨rfl, Below.refl _ _⟩)
  have hn0 : x0.length ≤ 1048576 := by omega
  go_enter Try.func3, Try.ntmps3
  go_wp2_with (first | (go_at_call 13; refine (szAskS_yes hn0).mono ?_; rintro e w' ⟨rfl, rfl⟩))
  have bel0 : Below w.heap.size w w := Below.refl _ _
  refine (toAskS_o (rd0.below bel0) (by omega) hn0).mono ?_
  rintro e W1 ⟨At0, ct0, rfl, ot0, hb⟩
  have hs1 := hb.size
  have bel1 : Below w.heap.size w W1 := bel0.trans (hb.mono bel0.size)
  clear hb bel0
  go_wp2_with fail
  refine (asksValid_spec (rdoAsk ot0) hn0).mono ?_
  rintro e W2 ⟨rfl, hx⟩
  have hb : Below W1.heap.size W1 W2 := by first | exact hx | exact same_below hx | exact drew_below hx
  clear hx
  have hs2 := hb.size
  have bel2 : Below w.heap.size w W2 := bel1.trans (hb.mono bel1.size)
  replace ot0 := own_below ot0 hb
  clear hb bel1
  go_wp2_with fail
  clear ot0
  refine (toAskS_o (rd0.below bel2) (by omega) hn0).mono ?_
  rintro e W3 ⟨AX0, cX0, rfl, oX0, hb⟩
  have hs3 := hb.size
  have bel3 : Below w.heap.size w W3 := bel2.trans (hb.mono bel2.size)
  clear hb bel2
  go_wp2_with fail
  refine (asksValid_impl (rdoAsk oX0) (Nat.le_refl _) hn0).mono ?_
  rintro e W4 ⟨rfl, hx⟩
  have hb : Below W3.heap.size W3 W4 := by first | exact hx | exact same_below hx | exact drew_below hx
  clear hx
  have hs4 := hb.size
  have bel4 : Below w.heap.size w W4 := bel3.trans (hb.mono bel3.size)
  replace oX0 := own_below oX0 hb
  clear hb bel3
  go_wp2_with fail
  refine (toAskS_o (rd0.below bel4) (by omega) hn0).mono ?_
  rintro e W5 ⟨At0, ct0, rfl, ot0, hb⟩
  have hs5 := hb.size
  have bel5 : Below w.heap.size w W5 := bel4.trans (hb.mono bel4.size)
  replace oX0 := own_below oX0 hb
  clear hb bel4
  go_wp2_with fail
  refine (eqAskS_o (rdoAsk oX0) (rdoAsk ot0) (by omega)).mono ?_
  rintro e W6 ⟨rfl, hb⟩
  have hs6 := hb.size
  have bel6 : Below w.heap.size w W6 := bel5.trans (hb.mono bel5.size)
  replace oX0 := own_below oX0 hb
  replace ot0 := own_below ot0 hb
  clear hb bel5
  go_wp2_with fail
  clear ot0
  clear oX0
  go_ret
  exact ⟨rfl, bel6⟩
theorem exactAskPages_w (a0 : Option Addr) (len0 cap0 : Nat) (z0 : List (Int × Int)) (w : World) (w0 : IsRowAsk w a0 len0 cap0 z0) :
    Calls Try.prog 5 #[.slice a0 len0 cap0] w fun e w' => e = .returned (.bool true) ∧ Below w.heap.size w w' := by
  obtain ⟨q01, q02, rd0⟩ := isRowAsk_rd w0
  generalize z0.take len0 = x0 at *
  obtain rfl := rd0.len
  unfold maxLen at q02
  clear w0
  by_cases hn0 : 1048576 < x0.length
  · go_enter Try.func5, Try.ntmps5
    go_wp2_with (first | (go_at_call 13; refine (szAskS_no hn0 (by omega)).mono ?_; rintro e w' ⟨rfl, rfl⟩))
    all_goals (go_ret; exact ⟨rfl, Below.refl _ _⟩)
  have hn0 : x0.length ≤ 1048576 := by omega
  go_enter Try.func5, Try.ntmps5
  go_wp2_with (first | (go_at_call 13; refine (szAskS_yes hn0).mono ?_; rintro e w' ⟨rfl, rfl⟩))
  have bel0 : Below w.heap.size w w := Below.refl _ _
  refine (toAskS_o (rd0.below bel0) (by omega) hn0).mono ?_
  rintro e W1 ⟨At0, ct0, rfl, ot0, hb⟩
  have hs1 := hb.size
  have bel1 : Below w.heap.size w W1 := bel0.trans (hb.mono bel0.size)
  clear hb bel0
  go_wp2_with fail
  refine (askPages_spec (rdoAsk ot0) hn0).mono ?_
  rintro e W2 ⟨rfl, hx⟩
  have hb : Below W1.heap.size W1 W2 := by first | exact hx | exact same_below hx | exact drew_below hx
  clear hx
  have hs2 := hb.size
  have bel2 : Below w.heap.size w W2 := bel1.trans (hb.mono bel1.size)
  replace ot0 := own_below ot0 hb
  clear hb bel1
  go_wp2_with fail
  clear ot0
  refine (toAskS_o (rd0.below bel2) (by omega) hn0).mono ?_
  rintro e W3 ⟨AX0, cX0, rfl, oX0, hb⟩
  have hs3 := hb.size
  have bel3 : Below w.heap.size w W3 := bel2.trans (hb.mono bel2.size)
  clear hb bel2
  go_wp2_with fail
  refine (askPages_impl (rdoAsk oX0) (Nat.le_refl _) hn0).mono ?_
  rintro e W4 ⟨rfl, hx⟩
  have hb : Below W3.heap.size W3 W4 := by first | exact hx | exact same_below hx | exact drew_below hx
  clear hx
  have hs4 := hb.size
  have bel4 : Below w.heap.size w W4 := bel3.trans (hb.mono bel3.size)
  replace oX0 := own_below oX0 hb
  clear hb bel3
  go_wp2_with fail
  refine (toAskS_o (rd0.below bel4) (by omega) hn0).mono ?_
  rintro e W5 ⟨At0, ct0, rfl, ot0, hb⟩
  have hs5 := hb.size
  have bel5 : Below w.heap.size w W5 := bel4.trans (hb.mono bel4.size)
  replace oX0 := own_below oX0 hb
  clear hb bel4
  go_wp2_with fail
  refine (eqAskS_o (rdoAsk oX0) (rdoAsk ot0) (by omega)).mono ?_
  rintro e W6 ⟨rfl, hb⟩
  have hs6 := hb.size
  have bel6 : Below w.heap.size w W6 := bel5.trans (hb.mono bel5.size)
  replace oX0 := own_below oX0 hb
  replace ot0 := own_below ot0 hb
  clear hb bel5
  go_wp2_with fail
  clear ot0
  clear oX0
  go_ret
  exact ⟨rfl, bel6⟩
end Go.Proofs.Ytmkmobgmlhioaaa
