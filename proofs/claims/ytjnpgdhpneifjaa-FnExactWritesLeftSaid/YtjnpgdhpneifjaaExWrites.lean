/- The walk of the exact law on WritesLeft. -/
import Derived.Test.YtjnpgdhpneifjaaWritesS
import Derived.Test.YtjnpgdhpneifjaaDevLaw
import Derived.Test.YtjnpgdhpneifjaaOpen
namespace Go.Proofs.Ytjnpgdhpneifjaa
open Go.ChangeShapes Go.WideShapes Go.ChangeAt Go.RowKit
set_option linter.unusedVariables false
set_option linter.unusedSimpArgs false

theorem exactWritesLeft_w (a0 : Option Addr) (len0 cap0 : Nat) (z0 : List BlockV) (a1 : Int) (w : World) (w0 : IsRowBlockS w a0 len0 cap0 z0) (w1 : (Lit.int .i64 a1).wf = true) :
    Calls Try.prog 3 #[.slice a0 len0 cap0, .int .i64 a1] w fun e w' => e = .returned (.bool true) ∧ Below w.heap.size w w' := by
  obtain ⟨q1, q2, rd0⟩ := w0
  unfold maxLen at q2
  clear w1
  go_enter Try.func3, Try.ntmps3
  go_wp2_with fail
  refine (szBlockS_c rd0 (Nat.le_refl _) (by omega) (by omega) (by omega)).mono ?_
  rintro e W1 ⟨⟨r, rfl, r1, r2, r3⟩, bel1⟩
  have HR := Lib.hid r3
  have rd1 := rd0.below bel1
  have hs1 := bel1.size
  have B1 := Lib.hid bel1
  clear r3 rd0 bel1
  by_cases hneg : r < 0
  · go_wp2
    go_ret
    exact ⟨rfl, B1.out⟩
  · obtain ⟨hn, hsm⟩ := HR.out (by omega)
    obtain rfl := rd1.len
    have hn' : z0.length ≤ 1048576 := by omega
    have HSM := Lib.hid hsm
    clear hn hsm
    go_wp2_with fail
    refine (toBlockS_c rd1 hs1 hn' HSM.out).mono ?_
    rintro e W2 ⟨A2, c2, rfl, o2, b2⟩
    have B2 := Lib.hid (B1.out.trans (b2.mono hs1))
    have hs2 := B2.out.size
    have rd2 := rd1.below (b2.mono hs1)
    clear b2 rd1
    go_wp2_with fail
    refine (writesLeft_spec o2.rd (Nat.le_refl _) hn').mono ?_
    rintro e W3 ⟨rfl, b3⟩
    have B3 := Lib.hid (B2.out.trans (b3.mono hs2))
    have hs3 := B3.out.size
    have rd3 := rd2.below (b3.mono hs2)
    clear b3 rd2 o2
    go_wp2_with fail
    refine (toBlockS_c rd3 hs3 hn' HSM.out).mono ?_
    rintro e W4 ⟨A4, c4, rfl, o4, b4⟩
    have B4 := Lib.hid (B3.out.trans (b4.mono hs3))
    have hs4 := B4.out.size
    have rd4 := rd3.below (b4.mono hs3)
    clear b4 rd3
    go_wp2_with fail
    refine (writesLeft_impl o4.rd (Nat.le_refl _) hn').mono ?_
    rintro e W5 ⟨rfl, b5⟩
    have B5 := Lib.hid (B4.out.trans (b5.mono hs4))
    have hs5 := B5.out.size
    have rd5 := rd4.below (b5.mono hs4)
    have o5 := o4.below b5
    clear b5 rd4 o4
    generalize writesLeft z0 a1 = rr at *
    go_wp2_with fail
    refine (toBlockS_c rd5 hs5 hn' HSM.out).mono ?_
    rintro e W6 ⟨A6, c6, rfl, o6, b6⟩
    have B6 := Lib.hid (B5.out.trans (b6.mono hs5))
    have hs6 := B6.out.size
    have r5 := (o5.below b6).rd
    have r6 := o6.rd
    clear b6 rd5 o5 o6
    go_wp2_with fail
    refine (eqBlockS_same r5 r6 (Nat.le_refl _) (Nat.le_refl _) (by omega) HSM.out).mono ?_
    rintro e W7 ⟨rfl, b7⟩
    have B7 := Lib.hid (B6.out.trans (b7.mono hs6))
    clear b7 r5 r6
    go_wp2
    go_ret
    exact ⟨rfl, B7.out⟩
end Go.Proofs.Ytjnpgdhpneifjaa
