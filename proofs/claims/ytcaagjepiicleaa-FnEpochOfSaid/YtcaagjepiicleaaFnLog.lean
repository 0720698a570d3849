/- The walks of the laws FnLogValid and FnEpochOf. -/
import Derived.Test.YtcaagjepiicleaaDrawLog
import Derived.Test.YtcaagjepiicleaaLogLaw
import Derived.Test.YtcaagjepiicleaaAlive
namespace Go.Proofs.Ytcaagjepiicleaa
open Go.ChangeShapes Go.WideShapes Go.ChangeAt Go.RowKit
set_option linter.unusedVariables false
set_option linter.unusedSimpArgs false

theorem drawLogValid_c {A : Option Addr} {n c : Nat} {xs : List Int} {w : World} (hr : RdI .u8 w w.heap.size A n xs) (hx : ∀ x ∈ xs, 0 ≤ x ∧ x ≤ 255) (hnc : n ≤ c) (hcm : c ≤ 9223372036854775807) :
    Calls Try.prog 17 #[.slice A n c] w (DrawnL w) := by
  go_enter Try.func17, Try.ntmps17
  go_wp2_with fail
  refine (open_c hr hx hnc hcm).mono ?_
  rintro e w1 ⟨rfl, h1, b1⟩
  go_wp2_with fail
  refine (l20Log_c h1 (by omega) (by omega) (by omega)).mono ?_
  rintro e w2 h
  have h' := drawnL_of b1 (Nat.le_refl _) h
  obtain ⟨ys, A2, c2, rfl, hq⟩ := h'
  clear h
  go_wp2_with fail
  go_ret
  exact ⟨ys, A2, c2, rfl, hq⟩

theorem fnLogValid_w (a0 : Option Addr) (len0 cap0 : Nat) (z0 : List Int) (w : World) (w0 : IsRow .u8 w a0 len0 cap0 z0) :
    Calls Try.prog 5 #[.slice a0 len0 cap0] w fun e w' => e = .returned (.bool true) ∧ Below w.heap.size w w' := by
  obtain ⟨h1, h2, h3, h4⟩ := bytes_ok w0
  by_cases hl : 1048576 < len0
  · go_enter Try.func5, Try.ntmps5
    go_wp2
    go_ret
    exact ⟨rfl, Below.refl _ _⟩
  go_enter Try.func5, Try.ntmps5
  go_wp2_with fail
  refine (drawLogValid_c h3 h4 h1 h2).mono ?_
  rintro e w1 ⟨xs, A, c, rfl, h100, ox, bel1⟩
  clear h3 h4 w0
  have hcap := own_cap ox
  obtain ⟨hcap1, hcap2⟩ := hcap
  have rx := rdoI ox
  have hs1 := bel1.size
  go_wp2_with fail
  refine (logValid_impl rx hcap1 hcap2).mono ?_
  rintro e w' ⟨rfl, rfl⟩
  go_wp2_with fail
  refine (logValid_spec rx (by omega)).mono ?_
  rintro e w' ⟨rfl, m0, rfl⟩
  have bel2 := below_drewN bel1 m0
  have rx2 := rx.drewN m0
  have HNO := Lib.hid (bof_f.2 (logOk_neg xs))
  have on0 : ((w1.alloc (.cells #[.int .i64 (-1)] 3)).drewN m0).ownsRow w1.heap.size 3 1 (.slice (some ⟨w1.heap.size, 0, none⟩) 1 1) 1 (([-1] : List Int).map (Value.int .i64)) :=
    RowI.own (base := w1.heap.size) (w := (w1.alloc (.cells #[.int .i64 (-1)] 3)).drewN m0) (g := w1.heap.size) (xs := [-1]) ((Blk.new _ _ _).drewN m0) (Nat.le_refl _) (by unfold maxLen; simp)
  have rxn := (rx.alloc (Nat.le_refl _) (.cells #[.int .i64 (-1)] 3)).drewN m0
  have bn : Below w1.heap.size w1 ((w1.alloc (.cells #[.int .i64 (-1)] 3)).drewN m0) := below_drewN ((Below.refl _ _).alloc (Nat.le_refl _) _) m0
  have hsz := bn.size
  have hnil := own_nil ox
  rcases Bool.eq_false_or_eq_true (bof (LogOk xs)) with hb | hb
  · have HOK := Lib.hid (bof_t.1 hb)
    have HT := Lib.hid (bof_t.2 (HOK.out.take (i := xs.length / 2) (by omega)))
    generalize hn : xs.length = n at *
    have HN := Lib.hid hn
    clear hn
    go_wp2_with (at_builtin; refine wpList_appMany rfl rfl rfl on0 rfl hnil rxn (by omega) hsz ?_; rintro A5 c5 w5 o5 g5)
    have hc5 := own_cap o5
    have hb5 := below_app bn on0 hsz g5
    have rt := (rx.below hb5).take (i := n / 2) (by omega)
    refine (logValid_impl (rdoI o5) hc5.1 hc5.2).mono ?_
    rw [HNO.out]
    rintro e w' ⟨rfl, rfl⟩
    go_wp2_with fail
    refine (logValid_impl rt (by omega) hcap2).mono ?_
    rw [HT.out]
    rintro e w' ⟨rfl, rfl⟩
    go_wp2_with (go_at_call 18; refine (alive_c _).mono ?_; rintro e w' ⟨rfl, rfl⟩)
    go_ret
    exact ⟨rfl, bel1.trans (hb5.mono hs1)⟩
  · have hno := Lib.hid hb
    generalize hn : xs.length = n at *
    have HN := Lib.hid hn
    clear hn
    go_wp2_with (at_builtin; refine wpList_appMany rfl rfl rfl on0 rfl hnil rxn (by omega) hsz ?_; rintro A5 c5 w5 o5 g5)
    have hc5 := own_cap o5
    have hb5 := below_app bn on0 hsz g5
    refine (logValid_impl (rdoI o5) hc5.1 hc5.2).mono ?_
    rw [HNO.out]
    rintro e w' ⟨rfl, rfl⟩
    go_wp2_with (go_at_call 18; refine (alive_c _).mono ?_; rintro e w' ⟨rfl, rfl⟩)
    go_ret
    exact ⟨rfl, bel1.trans (hb5.mono hs1)⟩
/-- a drawn list and a number -/
def DrawnLI (w : World) (e : Ending) (w' : World) : Prop :=
  ∃ (ys : List Int) (A : Option Addr) (c : Nat) (v : Int), e = .returned (.tuple #[.slice A ys.length c, .int .i64 v]) ∧ 0 ≤ v ∧ v ≤ 100 ∧ ys.length ≤ 100 ∧ w'.ownsRow w.heap.size 3 1 (.slice A ys.length c) ys.length (ys.map (Value.int .i64)) ∧ Below w.heap.size w w'
theorem drawEpochOf_c {A : Option Addr} {n c : Nat} {xs : List Int} {w : World} (hr : RdI .u8 w w.heap.size A n xs) (hx : ∀ x ∈ xs, 0 ≤ x ∧ x ≤ 255) (hnc : n ≤ c) (hcm : c ≤ 9223372036854775807) :
    Calls Try.prog 19 #[.slice A n c] w (DrawnLI w) := by
  go_enter Try.func19, Try.ntmps19
  go_wp2_with fail
  refine (open_c hr hx hnc hcm).mono ?_
  rintro e w1 ⟨rfl, h1, b1⟩
  have hg1 := h1.lt
  go_wp2_with fail
  refine (l20Log_c h1 (by omega) (by omega) (by omega)).mono ?_
  rintro e w2 h
  obtain ⟨ys, A2, c2, rfl, h100, o2, h2, g2⟩ := h
  have b2 := below_of_gb b1 g2 b1.size (Nat.le_refl _)
  have hs2 := g2.size
  clear hr hx hnc hcm h1 b1 g2
  generalize hyl : ys.length = m at *
  have HY := Lib.hid hyl
  clear hyl
  go_wp2_with fail
  refine (pick_c h2 (by omega)).mono ?_
  rintro e w3 ⟨v, rfl, hv1, hv2, h3, g3⟩
  have o3 := own_pick o2 g3 (by omega)
  have b3 := below_of_gb b2 g3 b2.size (Nat.le_refl _)
  have hbs := b2.size
  clear o2 b2 h2 g3
  go_wp2_with fail
  go_ret2
  obtain rfl := HY.out
  exact ⟨ys, A2, c2, v, rfl, hv1, by omega, h100, ownsRow_base o3 (by omega), b3⟩

theorem fnEpochOf_w (a0 : Option Addr) (len0 cap0 : Nat) (z0 : List Int) (w : World) (w0 : IsRow .u8 w a0 len0 cap0 z0) :
    Calls Try.prog 6 #[.slice a0 len0 cap0] w fun e w' => e = .returned (.bool true) ∧ Below w.heap.size w w' := by
  obtain ⟨h1, h2, h3, h4⟩ := bytes_ok w0
  by_cases hl : 1048576 < len0
  · go_enter Try.func6, Try.ntmps6
    go_wp2
    go_ret
    exact ⟨rfl, Below.refl _ _⟩
  go_enter Try.func6, Try.ntmps6
  go_wp2_with fail
  refine (drawEpochOf_c h3 h4 h1 h2).mono ?_
  rintro e w1 ⟨xs, A, c, v, rfl, hv1, hv2, h100, ox, bel1⟩
  clear h3 h4 w0
  have hcap := own_cap ox
  obtain ⟨hcap1, hcap2⟩ := hcap
  have rx := rdoI ox
  have hs1 := bel1.size
  have her := epoch_range xs v
  obtain ⟨he1, he2⟩ := her
  go_wp2_with fail
  refine (epochOf_impl rx hcap1 hcap2).mono ?_
  rintro e w' ⟨rfl, rfl⟩
  go_wp2_with fail
  refine (epochOf_spec rx (by omega)).mono ?_
  rintro e w' ⟨rfl, m0, rfl⟩
  have bel2 := below_drewN bel1 m0
  by_cases hneg : epochOf xs v < 0
  · have hm := epoch_m1 hneg
    rw [hm]
    clear hneg
    go_wp2_with (go_at_call 18; refine (alive_c _).mono ?_; rintro e w' ⟨rfl, rfl⟩)
    go_ret
    exact ⟨rfl, bel2⟩
  · have hlt := epoch_lt (xs := xs) (v := v) (by omega)
    have HM := Lib.hid (fun h => epoch_more (xs := xs) (v := v) (by omega) h)
    generalize epochOf xs v = q at *
    have on0 : ((w1.alloc (.cells #[.int .i64 0] 3)).drewN m0).ownsRow w1.heap.size 3 1 (.slice (some ⟨w1.heap.size, 0, none⟩) 1 1) 1 (([0] : List Int).map (Value.int .i64)) :=
      RowI.own (base := w1.heap.size) (w := (w1.alloc (.cells #[.int .i64 0] 3)).drewN m0) (g := w1.heap.size) (xs := [0]) ((Blk.new _ _ _).drewN m0) (Nat.le_refl _) (by unfold maxLen; simp)
    have rxn := (rx.alloc (Nat.le_refl _) (.cells #[.int .i64 0] 3)).drewN m0
    have bn : Below w1.heap.size w1 ((w1.alloc (.cells #[.int .i64 0] 3)).drewN m0) := below_drewN ((Below.refl _ _).alloc (Nat.le_refl _) _) m0
    have hsz := bn.size
    have hnil := own_nil ox
    generalize hn : xs.length = n at *
    have HN := Lib.hid hn
    clear hn
    go_wp2_with (at_builtin; refine wpList_appMany rfl rfl rfl on0 rfl hnil rxn (by omega) hsz ?_; rintro A5 c5 w5 o5 g5)
    have hc5 := own_cap o5
    have hb5 := below_app bn on0 hsz g5
    have r5 := rdoI o5
    clear on0 rxn bn hsz hnil o5 g5 ox rx bel2
    rcases Bool.eq_false_or_eq_true (bof (LogOk ([0] ++ xs))) with hb | hb
    · have HQ := Lib.hid (HM.out (bof_t.1 hb))
      refine (logValid_impl r5 hc5.1 hc5.2).mono ?_
      rw [hb]
      rintro e w' ⟨rfl, rfl⟩
      go_wp2_with fail
      refine (epochOf_impl r5 hc5.1 hc5.2).mono ?_
      rw [HQ.out]
      rintro e w' ⟨rfl, rfl⟩
      go_wp2_with fail
      go_ret
      exact ⟨by simp, bel1.trans (hb5.mono hs1)⟩
    · refine (logValid_impl r5 hc5.1 hc5.2).mono ?_
      rw [hb]
      rintro e w' ⟨rfl, rfl⟩
      go_wp2_with fail
      go_ret
      exact ⟨rfl, bel1.trans (hb5.mono hs1)⟩
end Go.Proofs.Ytcaagjepiicleaa
