/- The walk of the law FnHideAll. -/
import Derived.Test.YtggagpojgoimoabDrawHide
namespace Go.Proofs.Ytggagpojgoimoab
open Go.ChangeShapes Go.WideShapes Go.ChangeAt Go.RowKit
set_option linter.unusedVariables false
set_option linter.unusedSimpArgs false

theorem hideAll_len (k p : Int) (xs : List Int) : (hideAll k p xs).length ≤ 100 := by
  unfold hideAll
  split
  · next h => rw [hidTo_len]; obtain ⟨_, _, _, _, h5, _⟩ := h; omega
  · simp
theorem show_hide (a b c : Int) (hA : 0 ≤ hideValue a b c) : showValue a b (hideValue a b c) = c := by
  have hs := hideStream_range a b
  have hc : ¬ (hideStream a b < 0 ∨ c < 0 ∨ 9999 < c) := by
    intro h; unfold hideValue at hA; rw [if_pos h] at hA; omega
  have e1 : hideValue a b c = (hideStream a b + c) % 10000 := by unfold hideValue; rw [if_neg hc]
  have e3 : showValue a b (hideValue a b c) = (hideValue a b c - hideStream a b + 10000) % 10000 := by unfold showValue; rw [if_neg (by rw [e1]; omega)]
  rw [e3, e1]; omega

theorem fnHideAll_w (a0 : Option Addr) (len0 cap0 : Nat) (z0 : List Int) (w : World) (w0 : IsRow .u8 w a0 len0 cap0 z0) :
    Calls Try.prog 4 #[.slice a0 len0 cap0] w fun e w' => e = .returned (.bool true) ∧ Below w.heap.size w w' := by
  obtain ⟨h1, h2, h3, h4⟩ := bytes_ok w0
  by_cases hl : 1048576 < len0
  · go_enter Try.func4, Try.ntmps4
    go_wp2
    go_ret
    exact ⟨rfl, Below.refl _ _⟩
  go_enter Try.func4, Try.ntmps4
  go_wp2_with fail
  refine (drawHideAll_c h3 h4 h1 h2).mono ?_
  rintro e w1 ⟨key, place, xs, A, c, rfl, hxl, ox, bel1⟩
  clear h3 h4 w0
  have hs1 := bel1.size
  have bx := ox.lt
  go_wp2_with fail
  refine (hideAll_impl (key := key) (place := place) (xs := xs) (rdoI ox) (Nat.le_refl _) (by omega)).mono ?_
  have hyl := hideAll_len key place xs
  obtain ⟨ys, hys⟩ : ∃ ys, hideAll key place xs = ys := ⟨_, rfl⟩
  rw [hys] at hyl
  have HYS := Lib.hid hys; clear hys
  rw [HYS.out]
  rintro e w2 ⟨A2, c2, rfl, o2, b2⟩
  have hs2 := b2.size
  have bel2 := bel1.trans (b2.mono hs1)
  replace ox := own_below ox b2
  clear b2 bel1
  go_wp2_with fail
  refine (hideAll_spec (key := key) (place := place) (xs := xs) (rdoI ox) (Nat.le_refl _) (by omega)).mono ?_
  rw [HYS.out]
  rintro e w3 ⟨A3, c3, rfl, o3, b3⟩
  have hs3 := b3.size
  have bel3 := bel2.trans (b3.mono bel2.size)
  replace ox := own_below ox b3
  replace o2 := own_below o2 b3
  clear b3 bel2
  go_wp2_with fail
  refine (sameInts_o (rdoI o2) (rdoI o3) (by omega)).mono ?_
  rintro e w4 ⟨rfl, b4⟩
  have bel4 := bel3.trans (b4.mono bel3.size)
  replace ox := own_below ox b4
  replace o2 := own_below o2 b4
  clear b4 bel3 o3
  by_cases hok : HideOk key place xs ∧ 0 < xs.length
  · obtain ⟨hok, h0⟩ := hok
    have hyx : ys = hidTo key place xs xs.length := by rw [← HYS.out, hideAll_ok hok]
    have hlen : ys.length = xs.length := by rw [hyx, hidTo_len]
    obtain ⟨k1, k2, k3, k4, k5, k6⟩ := hok
    have rx := rdoI ox
    have ry := rdoI o2
    rw [hlen] at ry
    rw [hlen]
    have HYX := Lib.hid hyx
    have HK := Lib.hid k6
    clear hyx hlen k6 ox o2 bx
    generalize hn : xs.length = n at *
    have HN := Lib.hid hn
    clear hn
    have hz : ((n : Int) == 0) = false := by simp; omega
    go_wp2_with (go_at_call 13; refine (alive_c _).mono ?_; rintro e w' ⟨rfl, rfl⟩)
    go_loopw [7] (fun i wr => ∃ (k : Nat), k ≤ n ∧ i = .int .i64 k ∧ ∃ m, wr = w4.drewN m) (fun i _ => n - (intOf i).toNat)
    case atStart => exact ⟨0, Nat.zero_le _, rfl, 0, rfl⟩
    case round =>
      obtain ⟨k, hk, rfl, m, rfl⟩ := hrel
      by_cases hlt : k < n
      · obtain ⟨b, off, rfl, hbB, hc⟩ := rx.at_ (by omega)
        obtain ⟨b', off', rfl, hbB', hc'⟩ := ry.at_ (by omega)
        have hc1 := hc k hlt
        have hc2 := hc' k hlt
        rw [HYX.out, hidTo_getD _ _ _ _ _ (by have := HN.out; omega)] at hc2
        have hv := HK.out k (by have := HN.out; omega)
        obtain ⟨x, hx⟩ : ∃ x, xs.getD k 0 = x := ⟨_, rfl⟩
        rw [hx] at hc1 hc2 hv
        have hsh := show_hide key (place + (k : Int)) x (hideValue_ge.2 (by omega))
        have hne : (showValue key (place + (k : Int)) (hideValue key (place + (k : Int)) x) != x) = false := by rw [hsh]; simp
        have hwr : IntKind.i64.wrap (place + (k : Int)) = place + (k : Int) := IntWalk.i64_in _ (by omega)
        clear hx hsh hc hc' rx ry hv
        go_wp2
        go_quiet ((go_at_call 14; exact quiet_add_left (showValue_impl _ _ _ _)))
        go_wp2
        go_roundw
        case rel => exact ⟨k + 1, by omega, by go_num, _, rfl⟩
        case measure => simp [intOf]; omega
      · have hkn : k = n := by omega
        subst hkn
        go_wp2
        go_ret
        exact ⟨rfl, below_drewN bel4 m⟩
  · have hy0 : ys = [] := by
      by_cases hx : xs = []
      · rw [← HYS.out, hx, hideAll_nil]
      · rw [← HYS.out]
        exact hideAll_no (fun h => hok ⟨h, List.length_pos_iff.2 hx⟩)
    subst hy0
    clear hok
    go_wp2_with (go_at_call 13; refine (alive_c _).mono ?_; rintro e w' ⟨rfl, rfl⟩)
    go_ret
    exact ⟨rfl, bel4⟩
end Go.Proofs.Ytggagpojgoimoab
