/- BlockNext by the reference, at a valid block. -/
import Derived.Test.YtjnpgdhpneifjaaModelB
namespace Go.Proofs.Ytjnpgdhpneifjaa
open Go.ChangeShapes Go.WideShapes Go.ChangeAt Go.RowKit
set_option linter.unusedVariables false
set_option linter.unusedSimpArgs false

set_option maxHeartbeats 2000000 in
theorem blockNext_spec {we : Int} {A : Option Addr} {n c B : Nat} {ps : List PageV} {w : World} (hr : RdG w B A n ps) (hB : B ≤ w.heap.size) (hnc : n ≤ c) (hcm : c ≤ 9223372036854775807) (hok : BlockOk ⟨we, ps⟩) :
    Calls Try.prog 113 #[.agg #[.int .i64 we, .slice A n c]] w fun e w' => e = .returned (.int .i64 (nextP ps)) ∧ Below w.heap.size w w' := by
  have HL := Lib.hid hr.len
  have hbt := Lib.hid (bof_t.2 hok)
  have b1 : Below w.heap.size w (w.alloc (.cells #[.int .i64 we, .slice A n c] 67)) := (Below.refl _ _).alloc (Nat.le_refl _) _
  have k1 := Blk.new w 67 #[.int .i64 we, .slice A n c]
  have hr1 := (hr.mono hB).below b1
  have l1 := k1.lt
  have B1 := Lib.hid b1
  clear hok hr b1
  go_enter Try.func113, Try.ntmps113
  go_wp2_with fail
  generalize w.alloc (.cells #[.int .i64 we, .slice A n c] 67) = w1 at *
  go_loopw [3] (fun i wr => ∃ k : Nat, k ≤ n ∧ i = .int .i64 k ∧ (∀ i, i < k → (ps.getD i noPage).full = true) ∧ Below w1.heap.size w1 wr) (fun i _ => n - (intOf i).toNat)
  case atStart => exact ⟨0, Nat.zero_le _, rfl, fun j h => absurd h (Nat.not_lt_zero _), Below.refl _ _⟩
  case round =>
    obtain ⟨k, hk, rfl, hall, hbl⟩ := hrel
    have HA := Lib.hid hall
    have HBL := Lib.hid hbl
    have k2 := k1.below hbl l1
    have l2 := k2.lt
    have t0 := k2.cell 0
    have t1 := k2.cell 1
    simp at t0 t1
    have hr2 := hr1.below (hbl.mono B1.out.size)
    have hs2 := hbl.size
    have hs0 := B1.out.size
    clear hall hbl
    by_cases hlt : k < n
    · have hd : decide (k < n) = true := decide_eq_true hlt
      go_wp2_with fail
      refine (blockValid_spec hr2 (by omega) hnc hcm).mono ?_
      rw [hbt.out]
      rintro e w2 ⟨rfl, b2⟩
      have HB2 := Lib.hid (HBL.out.trans (b2.mono hs2))
      have k3 := k2.below b2 l2
      have hr3 := hr2.below (b2.mono (by omega))
      obtain ⟨b, off, rfl, hbB, hc⟩ := hr3.at_ (by omega)
      obtain ⟨c0, c1, c2, c3, c4⟩ := hc k hlt
      clear hc hr2 hr3 b2 k2 t0 t1
      have t0 := k3.cell 0
      have t1 := k3.cell 1
      simp at t0 t1
      by_cases hf : (ps.getD k noPage).full = true
      · rw [hf] at c0
        have HA2 := Lib.hid (show ∀ i, i < k + 1 → (ps.getD i noPage).full = true from fun i hi => by
          by_cases e : i = k
          · subst e; exact hf
          · exact HA.out i (by omega))
        clear hf c1 c2 c3 c4
        go_wp2
        go_roundw
        case rel => exact ⟨k + 1, by omega, by go_num, HA2.out, HB2.out⟩
        case measure => simp [intOf]; omega
      · have hf' : (ps.getD k noPage).full = false := by simpa using hf
        rw [hf'] at c0
        have HE := Lib.hid (nextP_at (by rw [HL.out]; exact hlt) HA.out hf')
        clear hf hf' c1 c2 c3 c4
        go_wp2
        go_ret
        exact ⟨ret_int HE.out.symm, B1.out.trans (HB2.out.mono hs0)⟩
    · obtain rfl : k = n := by omega
      have HE := Lib.hid (nextP_none (ps := ps) (by rw [HL.out]; exact HA.out))
      go_wp2
      go_ret
      exact ⟨ret_int HE.out.symm, B1.out.trans (HBL.out.mono hs0)⟩
end Go.Proofs.Ytjnpgdhpneifjaa
