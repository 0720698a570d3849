/- The walks of the laws FnOrderRight and FnCutRight. -/
import Derived.Test.YtcaagjepiicleaaDrawOrder
import Derived.Test.YtcaagjepiicleaaLogLaw
import Derived.Test.YtcaagjepiicleaaOrderS
import Derived.Test.YtcaagjepiicleaaCut
import Derived.Test.YtcaagjepiicleaaAlive
namespace Go.Proofs.Ytcaagjepiicleaa
open Go.ChangeShapes Go.WideShapes Go.ChangeAt Go.RowKit
set_option linter.unusedVariables false
set_option linter.unusedSimpArgs false

theorem fnOrderRight_w (a0 : Option Addr) (len0 cap0 : Nat) (z0 : List Int) (w : World) (w0 : IsRow .u8 w a0 len0 cap0 z0) :
    Calls Try.prog 10 #[.slice a0 len0 cap0] w fun e w' => e = .returned (.bool true) ∧ Below w.heap.size w w' := by
  obtain ⟨h1, h2, h3, h4⟩ := bytes_ok w0
  by_cases hl : 1048576 < len0
  · go_enter Try.func10, Try.ntmps10
    go_wp2
    go_ret
    exact ⟨rfl, Below.refl _ _⟩
  go_enter Try.func10, Try.ntmps10
  go_wp2_with fail
  refine (drawOrderRight_c h3 h4 h1 h2).mono ?_
  rintro e w1 ⟨xs, ys, A, c, A', c', rfl, hx100, hy100, hc1, hc2, hc1', hc2', rx, ry, bel1⟩
  clear h3 h4 w0
  go_wp2_with fail
  refine (orderRight_impl rx hc1 hc2 ry hc1' hc2').mono ?_
  rintro e w2 ⟨rfl, hw2⟩
  obtain ⟨bel2, rx2, ry2⟩ : Below w.heap.size w w2 ∧ RdI .i64 w2 w1.heap.size A xs.length xs ∧ RdI .i64 w2 w1.heap.size A' ys.length ys := by
    obtain ⟨m, rfl⟩ := hw2; exact ⟨below_drewN bel1 m, rx.drewN m, ry.drewN m⟩
  clear hw2
  go_wp2_with fail
  refine (orderRight_spec rx2 (by omega) ry2 (by omega)).mono ?_
  rintro e w3 ⟨rfl, hw3⟩
  obtain ⟨bel3, rx3, ry3⟩ : Below w.heap.size w w3 ∧ RdI .i64 w3 w1.heap.size A xs.length xs ∧ RdI .i64 w3 w1.heap.size A' ys.length ys := by
    obtain ⟨m, rfl⟩ := hw3; exact ⟨below_drewN bel2 m, rx2.drewN m, ry2.drewN m⟩
  clear hw3 rx2 ry2 bel2 rx ry bel1
  rcases Bool.eq_false_or_eq_true (bof (OrdOk xs ys)) with hb | hb
  · have HO := Lib.hid (bof_t.1 hb)
    rw [hb]
    clear hb
    generalize hn : xs.length = n at *
    generalize hm : ys.length = m at *
    have HN := Lib.hid hn
    have HM := Lib.hid hm
    clear hn hm
    go_wp2_with fail
    go_loop [6] (fun i => ∃ k : Nat, k ≤ m + 1 ∧ i = .int .i64 k) (fun i => m + 1 - (intOf i).toNat)
    case atStart => exact ⟨0, by omega, rfl⟩
    case round =>
      obtain ⟨k, hk, rfl⟩ := hrel
      by_cases hlt : k ≤ m
      · have HC := Lib.hid (bof_t.2 (ord_cut HO.out (k := k) (by rw [HM.out]; exact hlt)))
        have rt := ry3.take (i := k) hlt
        go_wp2_with fail
        refine (cutRight_impl rx3 hc1 hc2 rt (by omega) hc2').mono ?_
        rw [HC.out]
        rintro e w' ⟨rfl, rfl⟩
        go_wp2_with fail
        go_round
        case rel => exact ⟨k + 1, by omega, by go_num⟩
        case measure => simp [intOf]; omega
      · go_wp2_with (go_at_call 18; refine (alive_c _).mono ?_; rintro e w' ⟨rfl, rfl⟩)
        go_ret
        exact ⟨rfl, bel3⟩
  · rw [hb]
    clear hb
    generalize xs.length = n at *
    generalize ys.length = m at *
    go_wp2_with fail
    go_loop [6] (fun i => i = .int .i64 0) (fun i => 0)
    case atStart => rfl
    case round =>
      subst hrel
      go_wp2_with (go_at_call 18; refine (alive_c _).mono ?_; rintro e w' ⟨rfl, rfl⟩)
      go_ret
      exact ⟨rfl, bel3⟩

theorem fnCutRight_w (a0 : Option Addr) (len0 cap0 : Nat) (z0 : List Int) (w : World) (w0 : IsRow .u8 w a0 len0 cap0 z0) :
    Calls Try.prog 9 #[.slice a0 len0 cap0] w fun e w' => e = .returned (.bool true) ∧ Below w.heap.size w w' := by
  obtain ⟨h1, h2, h3, h4⟩ := bytes_ok w0
  by_cases hl : 1048576 < len0
  · go_enter Try.func9, Try.ntmps9
    go_wp2
    go_ret
    exact ⟨rfl, Below.refl _ _⟩
  go_enter Try.func9, Try.ntmps9
  go_wp2_with fail
  refine (drawCutRight_c h3 h4 h1 h2).mono ?_
  rintro e w1 ⟨xs, ys, A, c, A', c', rfl, hx100, hy100, hc1, hc2, hc1', hc2', rx, ry, bel1⟩
  clear h3 h4 w0
  go_wp2_with fail
  refine (cutRight_impl rx hc1 hc2 ry hc1' hc2').mono ?_
  rintro e w' ⟨rfl, rfl⟩
  go_wp2_with fail
  refine (cutRight_spec rx (by omega) ry (by omega)).mono ?_
  rintro e w3 ⟨rfl, hw3⟩
  obtain ⟨bel3, rx3, ry3⟩ : Below w.heap.size w w3 ∧ RdI .i64 w3 w3.heap.size A xs.length xs ∧ RdI .i64 w3 w3.heap.size A' ys.length ys := by
    obtain ⟨m, rfl⟩ := hw3; exact ⟨below_drewN bel1 m, rx.drewN m, ry.drewN m⟩
  clear hw3 rx ry bel1
  have HREV := Lib.hid (bof_congr (cut_rev (log := xs) (ys := ys)))
  have HNIL := Lib.hid (bof_congr (cut_nil (log := xs)))
  have hs3 := bel3.size
  generalize hok : bof (CutOk xs ys) = ok at *
  have HOK := Lib.hid hok
  clear hok
  generalize hn : xs.length = n at *
  generalize hm : ys.length = m at *
  have HN := Lib.hid hn
  have HM := Lib.hid hm
  clear hn hm
  go_wp2_with fail
  have o0 : (w3.alloc (.cells #[] 3)).ownsRow w3.heap.size 3 1 (.slice (some ⟨w3.heap.size, 0, none⟩) 0 0) 0 (([] : List Int).map (Value.int .i64)) := World.ownsRow_lit w3 #[] 0 (Nat.le_refl _) (by decide) rfl
  have b0 : Below w3.heap.size w3 (w3.alloc (.cells #[] 3)) := (Below.refl _ _).alloc (Nat.le_refl _) _
  go_loopw [6, 7] (fun v kk wr => ∃ (j : Nat) (A' : Option Addr) (c' : Nat), kk = .int .i64 ((j : Int) - 1) ∧ j ≤ m ∧ v = .slice A' (m - j) c' ∧ wr.ownsRow w3.heap.size 3 1 (.slice A' (m - j) c') (m - j) (((ys.drop j).reverse).map (Value.int .i64)) ∧ Below w3.heap.size w3 wr) (fun _ kk _ => (intOf kk + 1).toNat)
  case atStart => exact ⟨m, _, _, rfl, Nat.le_refl _, by rw [Nat.sub_self], by rw [Nat.sub_self, ← HM.out]; simpa using o0, b0⟩
  case round =>
    obtain ⟨j, A5, c5, hkk, hjm, rfl, own, bel⟩ := hrel
    clear o0 b0
    have hsz := bel.size
    rcases j with _ | i
    · have e0 : ((0 : Nat) : Int) - 1 = -1 := by omega
      rw [e0] at hkk
      subst hkk
      have rx5 := rx3.below bel
      have r5 := rdoI own
      have hc5 := own_cap own
      rw [List.drop_zero] at r5
      go_wp2_with fail
      refine (cutRight_impl rx5 hc1 hc2 r5 hc5.1 hc5.2).mono ?_
      rw [HREV.out]
      rintro e w' ⟨rfl, rfl⟩
      go_wp2_with fail
      refine (cutRight_impl rx5 hc1 hc2 (RdI.nil (B := 0)) (Nat.le_refl _) (by decide)).mono ?_
      rw [HNIL.out]
      rintro e w' ⟨rfl, rfl⟩
      go_wp2_with fail
      refine (logValid_impl rx5 hc1 hc2).mono ?_
      rintro e w' ⟨rfl, rfl⟩
      go_wp2_with (go_at_call 18; refine (alive_c _).mono ?_; rintro e w' ⟨rfl, rfl⟩)
      go_ret
      exact ⟨rfl, bel3.trans (bel.mono hs3)⟩
    · have e1 : ((i + 1 : Nat) : Int) - 1 = (i : Int) := by omega
      rw [e1] at hkk
      subst hkk
      have hr := ry3.below bel
      obtain ⟨b, off, rfl, hbB, hc⟩ := hr.at_ (by omega)
      have hci := hc i (by omega)
      have hdr : (ys.drop i).reverse = (ys.drop (i + 1)).reverse ++ [ys.getD i 0] := by
        rw [List.drop_eq_getElem_cons (by have := HM.out; omega), List.reverse_cons, List.getD_eq_getElem?_getD, List.getElem?_eq_getElem (by have := HM.out; omega)]
        rfl
      have HD := Lib.hid hdr
      have hmi : m - i = m - (i + 1) + 1 := by omega
      have HMI := Lib.hid hmi
      clear hdr hmi
      generalize ys.getD i 0 = x at *
      generalize (ys.drop (i + 1)).reverse = zs at *
      clear hc hr
      go_wp2_with (at_builtin; refine wpList_appI rfl rfl rfl own rfl (by omega) hsz ?_; rintro g1 c1 wa ow1 gg1 hge1)
      go_roundw
      case rel => exact ⟨i, _, _, by go_num, by omega, by rw [HMI.out], by rw [HMI.out, HD.out]; exact ow1, below_app bel own hsz gg1⟩
      case measure => simp [intOf]
end Go.Proofs.Ytcaagjepiicleaa
