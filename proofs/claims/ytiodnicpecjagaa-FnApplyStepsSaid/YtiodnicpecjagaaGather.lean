/- Contracts of GatherSteps, the program's and the reference's. Condition: at most 2^20 pages. -/
import Derived.Test.YtiodnicpecjagaaPlaces
import Derived.Test.YtiodnicpecjagaaStepS
namespace Go.Proofs.Ytiodnicpecjagaa
open Go.ChangeShapes Go.WideShapes Go.ChangeAt Go.RowKit
set_option linter.unusedVariables false
set_option linter.unusedSimpArgs false

/-- the first k places are free of other pages -/
def FreeTo (xs : List Int) (tg : Int) (k : Nat) : Prop := ∀ i, i < k → ∀ j, j < xs.length → j ≠ i → xs.getD j 0 ≠ tg + (i : Int)
def GOk (xs : List Int) (tg : Int) : Prop := PlacesOk xs ∧ 0 ≤ tg ∧ tg ≤ 23 ∧ tg + (xs.length : Int) ≤ 24 ∧ FreeTo xs tg xs.length
def gsteps (xs : List Int) (tg : Int) (k : Nat) : List (Int × Int) := (List.range k).filterMap fun (i : Nat) => if xs.getD i 0 = tg + (i : Int) then none else some (xs.getD i 0, tg + (i : Int))
theorem gsteps_zero (xs : List Int) (tg : Int) : gsteps xs tg 0 = [] := rfl
theorem gsteps_same {xs : List Int} {tg : Int} {k : Nat} (h : xs.getD k 0 = tg + (k : Int)) : gsteps xs tg (k + 1) = gsteps xs tg k := by
  unfold gsteps; rw [List.range_succ, List.filterMap_append]; simp only [List.filterMap_cons, List.filterMap_nil]; rw [if_pos h]; simp
theorem gsteps_new {xs : List Int} {tg : Int} {k : Nat} (h : xs.getD k 0 ≠ tg + (k : Int)) : gsteps xs tg (k + 1) = gsteps xs tg k ++ [(xs.getD k 0, tg + (k : Int))] := by
  unfold gsteps; rw [List.range_succ, List.filterMap_append]; simp only [List.filterMap_cons, List.filterMap_nil]; rw [if_neg h]
theorem gsteps_le (xs : List Int) (tg : Int) (k : Nat) : (gsteps xs tg k).length ≤ k := by
  unfold gsteps
  have := List.length_filterMap_le (fun (i : Nat) => if xs.getD i 0 = tg + (i : Int) then none else some (xs.getD i 0, tg + (i : Int))) (List.range k)
  simpa using this
open Classical in
noncomputable def gatherSteps (xs : List Int) (tg : Int) : List (Int × Int) := if GOk xs tg then gsteps xs tg xs.length else []
theorem gather_ok {xs tg} (h : GOk xs tg) : gatherSteps xs tg = gsteps xs tg xs.length := by unfold gatherSteps; rw [if_pos h]
theorem gather_no {xs tg} (h : ¬ GOk xs tg) : gatherSteps xs tg = [] := by unfold gatherSteps; rw [if_neg h]
theorem gather_len (xs tg) : (gatherSteps xs tg).length ≤ 24 := by
  unfold gatherSteps
  split
  · next h => have := gsteps_le xs tg xs.length; have := h.1.1; omega
  · simp

theorem gatherSteps_spec {A : Option Addr} {n c B : Nat} {xs : List Int} {tg : Int} {w : World} (hr : RdI .i64 w B A n xs) (hB : B ≤ w.heap.size) (hn : n ≤ 1048576) :
    Calls Try.prog 20 #[.slice A n c, .int .i64 tg] w (OwnStepx w (gatherSteps xs tg) (.bool (bof (GOk xs tg)))) := by
  have HL := Lib.hid hr.len
  have NO : ∀ (W : World) (g : Nat), Below w.heap.size w W → W.ownsRow w.heap.size 41 2 (.slice (some ⟨g, 0, none⟩) 0 0) 0 (flatP []) → ¬ GOk xs tg → OwnStepx w (gatherSteps xs tg) (.bool (bof (GOk xs tg))) (.returned (.tuple #[.slice (some ⟨g, 0, none⟩) 0 0, .bool false])) W := by
    intro W g hW ho hno
    rw [gather_no hno, bof_f.2 hno]
    exact ownStepx_of (ys := []) rfl ho hW
  have NO := Lib.hid NO
  have o0 : (w.alloc (.cells #[] 41)).ownsRow w.heap.size 41 2 (.slice (some ⟨w.heap.size, 0, none⟩) 0 0) 0 (flatP []) := World.ownsRow_lit w #[] 0 (Nat.le_refl _) (by decide) rfl
  have b0 : Below w.heap.size w (w.alloc (.cells #[] 41)) := (Below.refl _ _).alloc (Nat.le_refl _) _
  by_cases hc : PlacesOk xs ∧ 0 ≤ tg ∧ tg ≤ 23 ∧ tg + (n : Int) ≤ 24
  · obtain ⟨c1, c2, c3, c4⟩ := hc
    have hpt := bof_t.2 c1
    have hin := inB_t.2 ⟨c2, c3⟩
    have HP := Lib.hid c1
    have hn24 : n ≤ 24 := by have := c1.1; have := HL.out; omega
    have hval : ∀ i, i < n → 0 ≤ xs.getD i 0 ∧ xs.getD i 0 ≤ 23 := fun i hi => c1.2.1 i (by have := HL.out; omega)
    have HVAL := Lib.hid hval
    clear c1 hval
    have hr1 := (hr.mono hB).below b0
    go_enter Try.func20, Try.ntmps20
    go_wp2_with (first | (go_at_call 11; refine (placesValid_spec hr1 hn).mono ?_; rintro e w' ⟨rfl, m0, rfl⟩) | (go_at_call 34; refine (l1In_c _ _ _ _).mono ?_; rintro e w' ⟨rfl, rfl⟩))
    have o1 : ((w.alloc (.cells #[] 41)).drewN m0).ownsRow w.heap.size 41 2 (.slice (some ⟨w.heap.size, 0, none⟩) 0 0) 0 (flatP []) := o0
    have b1 := below_drewN b0 m0
    clear o0 b0 hr1 hpt hin
    go_loopw [6, 7] (fun v i wr => ∃ (k : Nat) (A1 : Option Addr) (m c1 : Nat), k ≤ n ∧ i = .int .i64 k ∧ v = .slice A1 m c1 ∧ m ≤ 24 ∧ (gsteps xs tg k).length = m ∧ wr.ownsRow w.heap.size 41 2 v m (flatP (gsteps xs tg k)) ∧ Below w.heap.size w wr ∧ FreeTo xs tg k) (fun _ i _ => n - (intOf i).toNat)
    case atStart => exact ⟨0, _, 0, _, Nat.zero_le _, rfl, rfl, by omega, rfl, o1, b1, fun i h => absurd h (Nat.not_lt_zero _)⟩
    case round =>
      obtain ⟨k, A1, m, c1, hk, rfl, rfl, hm24, hml, hown, hbel, hfree⟩ := hrel
      have HML := Lib.hid hml
      have HF := Lib.hid hfree
      have hsz := hbel.size
      clear hml hfree o1 b1
      by_cases hlt : k < n
      · obtain ⟨b, off, rfl, hbB, hc⟩ := hr.at_ (by omega)
        have HC := Lib.hid hc
        have hv := HVAL.out k hlt
        have hc1 := (hbel.cell (p := ⟨b, off + k, none⟩) (by exact Nat.lt_of_lt_of_le hbB hB)).trans (hc k hlt)
        obtain ⟨x, hx⟩ : ∃ x, xs.getD k 0 = x := ⟨_, rfl⟩
        rw [hx] at hc1 hv
        have HX := Lib.hid hx
        clear hx hc hr
        go_wp2_with fail
        go_loop [8] (fun i => ∃ j : Nat, j ≤ n ∧ i = .int .i64 j ∧ ∀ t, t < j → t ≠ k → xs.getD t 0 ≠ tg + (k : Int)) (fun i => n - (intOf i).toNat)
        case atStart => exact ⟨0, Nat.zero_le _, rfl, fun t h => absurd h (Nat.not_lt_zero _)⟩
        case round =>
          obtain ⟨j, hj, rfl, hne⟩ := hrel
          have HN := Lib.hid hne
          clear hne
          by_cases hjn : j < n
          · by_cases hjk : j = k
            · subst hjk
              have hz : ((j : Int) != (j : Int)) = false := by simp
              go_wp2_with fail
              go_round
              case rel =>
                refine ⟨j + 1, by omega, by go_num, fun t ht htk => ?_⟩
                exact HN.out t (by omega) htk
              case measure => simp [intOf]; omega
            · have hz : ((j : Int) != (k : Int)) = true := by simp; omega
              have hcj := (hbel.cell (p := ⟨b, off + j, none⟩) (by exact Nat.lt_of_lt_of_le hbB hB)).trans (HC.out j hjn)
              obtain ⟨y, hy⟩ : ∃ y, xs.getD j 0 = y := ⟨_, rfl⟩
              rw [hy] at hcj
              have HY := Lib.hid hy
              have HJK := Lib.hid hjk
              clear hy hjk
              by_cases hyt : y = tg + (k : Int)
              · have hno : ¬ GOk xs tg := by
                  rintro ⟨_, _, _, _, h5⟩
                  exact h5 k (by have := HL.out; omega) j (by have := HL.out; omega) HJK.out (by rw [HY.out]; exact hyt)
                have HNO := Lib.hid hno
                have hq : (y == tg + (k : Int)) = true := by simp [hyt]
                have oe := World.ownsRow_lit (base := w.heap.size) (e := 41) (size := 2) wr #[] 0 hsz (by decide) rfl
                clear hno hyt
                go_wp2_with fail
                go_ret2
                exact NO.out _ _ (hbel.alloc hsz _) oe HNO.out
              · have hq : (y == tg + (k : Int)) = false := by simp [hyt]
                have HYT := Lib.hid hyt
                clear hyt
                go_wp2_with fail
                go_round
                case rel =>
                  refine ⟨j + 1, by omega, by go_num, fun t ht htk => ?_⟩
                  by_cases e : t = j
                  · subst e; rw [HY.out]; exact HYT.out
                  · exact HN.out t (by omega) htk
                case measure => simp [intOf]; omega
          · have hjn' : j = n := by omega
            subst hjn'
            have hfree' : FreeTo xs tg (k + 1) := by
              intro i hi t ht hti
              by_cases e : i = k
              · subst e; exact HN.out t (by have := HL.out; omega) hti
              · exact HF.out i (by omega) t ht hti
            have HF' := Lib.hid hfree'
            have HB := Lib.hid hbel
            clear hfree' hbel
            by_cases hxt : x = tg + (k : Int)
            · have hq : (x != tg + (k : Int)) = false := by simp [hxt]
              have HS := Lib.hid (gsteps_same (xs := xs) (tg := tg) (k := k) (by rw [HX.out]; exact hxt))
              clear hxt
              go_wp2_with fail
              go_roundw
              case rel => exact ⟨k + 1, _, m, c1, by omega, by go_num, rfl, hm24, by rw [HS.out]; exact HML.out, by rw [HS.out]; exact hown, HB.out, HF'.out⟩
              case measure => simp [intOf]; omega
            · have hq : (x != tg + (k : Int)) = true := by simp [hxt]
              have HS := Lib.hid (gsteps_new (xs := xs) (tg := tg) (k := k) (by rw [HX.out]; exact hxt))
              have hmk := gsteps_le xs tg (k + 1)
              rw [HS.out, List.length_append, HML.out] at hmk
              simp only [List.length_cons, List.length_nil] at hmk
              clear hxt
              go_wp2_with (at_builtin; refine wpList_appStep rfl rfl rfl hown rfl (by omega) hsz ?_; rintro g2 c2 w2 hown2 hg2 hge2)
              go_roundw
              case rel => exact ⟨k + 1, _, m + 1, c2, by omega, by go_num, rfl, by omega, by rw [HS.out, List.length_append, HML.out]; rfl, by rw [HS.out, HX.out]; exact hown2, below_app HB.out hown hsz hg2, HF'.out⟩
              case measure => simp [intOf]; omega
      · have hkn : k = n := by omega
        subst hkn
        have hok : GOk xs tg := ⟨HP.out, c2, c3, by rw [HL.out]; exact c4, by rw [HL.out]; exact HF.out⟩
        have HOK := Lib.hid hok
        clear hok
        go_wp2_with fail
        go_ret2
        rw [gather_ok HOK.out, bof_t.2 HOK.out]
        exact ownStepx_of (by rw [HL.out]; exact HML.out) (by rw [HL.out]; exact hown) hbel
  · have hno : ¬ GOk xs tg := by
      rintro ⟨h1, h2, h3, h4, h5⟩
      exact hc ⟨h1, h2, h3, by rw [HL.out] at h4; exact h4⟩
    have HNO := Lib.hid hno
    have hr1 := (hr.mono hB).below b0
    have key : bof (PlacesOk xs) = false ∨ bof (PlacesOk xs) = true ∧ (inB tg 0 23 = false ∨ inB tg 0 23 = true ∧ 0 ≤ tg ∧ tg ≤ 23 ∧ 24 < tg + (n : Int)) := by
      rcases Bool.eq_false_or_eq_true (bof (PlacesOk xs)) with h1 | h1
      · right
        refine ⟨h1, ?_⟩
        rcases Bool.eq_false_or_eq_true (inB tg 0 23) with h2 | h2
        · right
          have h3 := inB_t.1 h2
          refine ⟨h2, h3.1, h3.2, ?_⟩
          by_cases h4 : 24 < tg + (n : Int)
          · exact h4
          · exact absurd ⟨bof_t.1 h1, h3.1, h3.2, by omega⟩ hc
        · exact .inl h2
      · exact .inl h1
    clear hno hc
    rcases key with h1 | ⟨h1, h2 | ⟨h2, h3, h4, h5⟩⟩
    all_goals
      go_enter Try.func20, Try.ntmps20
      go_wp2_with (first | (go_at_call 11; refine (placesValid_spec hr1 hn).mono ?_; rintro e w' ⟨rfl, m0, rfl⟩) | (go_at_call 34; refine (l1In_c _ _ _ _).mono ?_; rintro e w' ⟨rfl, rfl⟩))
      go_ret2
      exact NO.out _ _ (below_drewN b0 m0) o0 HNO.out

theorem gatherSteps_impl {A : Option Addr} {n c B : Nat} {xs : List Int} {tg : Int} {w : World} (hr : RdI .i64 w B A n xs) (hB : B ≤ w.heap.size) (hn : n ≤ 1048576) (hnc : n ≤ c) (hcm : c ≤ 9223372036854775807) :
    Calls Try.prog 21 #[.slice A n c, .int .i64 tg] w (OwnStepx w (gatherSteps xs tg) (.bool (bof (GOk xs tg)))) := by
  have HL := Lib.hid hr.len
  have NO : ∀ (W : World), Below w.heap.size w W → ¬ GOk xs tg → OwnStepx w (gatherSteps xs tg) (.bool (bof (GOk xs tg))) (.returned (.tuple #[.slice none 0 0, .bool false])) W := by
    intro W hW hno
    rw [gather_no hno, bof_f.2 hno]
    exact ownStepx_of (ys := []) rfl (World.ownsRow_nil _ _ _ _) hW
  have NO := Lib.hid NO
  by_cases hc : PlacesOk xs ∧ 0 ≤ tg ∧ tg ≤ 23 ∧ tg + (n : Int) ≤ 24
  · obtain ⟨c1, c2, c3, c4⟩ := hc
    have hpt := bof_t.2 c1
    have HP := Lib.hid c1
    have hn24 : n ≤ 24 := by have := c1.1; have := HL.out; omega
    have hval : ∀ i, i < n → 0 ≤ xs.getD i 0 ∧ xs.getD i 0 ≤ 23 := fun i hi => c1.2.1 i (by have := HL.out; omega)
    have hdis : ∀ i j, j < i → i < n → xs.getD j 0 ≠ xs.getD i 0 := fun i j hj hi => c1.2.2 i j hj (by have := HL.out; omega)
    have HVAL := Lib.hid hval
    have HDIS := Lib.hid hdis
    clear c1 hval hdis
    go_enter Try.func21, Try.ntmps21
    go_wp2_with (go_at_call 13; refine (placesValid_impl hr hnc hcm).mono ?_; rintro e w' ⟨rfl, rfl⟩)
    clear hpt
    go_loopw [6, 29] (fun v i wr => ∃ (k : Nat) (A1 : Option Addr) (m c1 : Nat), k ≤ n ∧ i = .int .i64 k ∧ v = .slice A1 m c1 ∧ m ≤ 24 ∧ (gsteps xs tg k).length = m ∧ wr.ownsRow w.heap.size 41 2 v m (flatP (gsteps xs tg k)) ∧ Below w.heap.size w wr ∧ FreeTo xs tg k) (fun _ i _ => n - (intOf i).toNat)
    case atStart => exact ⟨0, _, 0, _, Nat.zero_le _, rfl, rfl, by omega, rfl, World.ownsRow_nil _ _ _ _, Below.refl _ _, fun i h => absurd h (Nat.not_lt_zero _)⟩
    case round =>
      obtain ⟨k, A1, m, c1, hk, rfl, rfl, hm24, hml, hown, hbel, hfree⟩ := hrel
      have HML := Lib.hid hml
      have HF := Lib.hid hfree
      have hsz := hbel.size
      clear hml hfree
      by_cases hlt : k < n
      · have hrr := (hr.mono hB).below hbel
        obtain ⟨b, off, rfl, hbB, hc⟩ := hr.at_ (by omega)
        have hv := HVAL.out k hlt
        have hc1 := (hbel.cell (p := ⟨b, off + k, none⟩) (by exact Nat.lt_of_lt_of_le hbB hB)).trans (hc k hlt)
        obtain ⟨x, hx⟩ : ∃ x, xs.getD k 0 = x := ⟨_, rfl⟩
        rw [hx] at hc1 hv
        have HX := Lib.hid hx
        have HB := Lib.hid hbel
        clear hx hc hr hbel
        by_cases hxt : x = tg + (k : Int)
        · have hq : (x == tg + (k : Int)) = true := by simp [hxt]
          have HS := Lib.hid (gsteps_same (xs := xs) (tg := tg) (k := k) (by rw [HX.out]; exact hxt))
          have hfree' : FreeTo xs tg (k + 1) := by
            intro i hi t ht hti
            by_cases e : i = k
            · subst e
              rw [← hxt, ← HX.out]
              have hlen := HL.out
              rcases Nat.lt_or_gt_of_ne hti with h | h
              · exact HDIS.out i t h (by omega)
              · exact fun e => HDIS.out t i h (by omega) e.symm
            · exact HF.out i (by omega) t ht hti
          have HF' := Lib.hid hfree'
          clear hfree' hxt
          go_wp2_with fail
          go_roundw
          case rel => exact ⟨k + 1, _, m, c1, by omega, by go_num, rfl, hm24, by rw [HS.out]; exact HML.out, by rw [HS.out]; exact hown, HB.out, HF'.out⟩
          case measure => simp [intOf]; omega
        · have hq : (x == tg + (k : Int)) = false := by simp [hxt]
          have HS := Lib.hid (gsteps_new (xs := xs) (tg := tg) (k := k) (by rw [HX.out]; exact hxt))
          have hmk := gsteps_le xs tg (k + 1)
          rw [HS.out, List.length_append, HML.out] at hmk
          simp only [List.length_cons, List.length_nil] at hmk
          have HXT := Lib.hid hxt
          clear hxt
          rcases Bool.eq_false_or_eq_true (bof (tg + (k : Int) ∈ xs)) with hb | hb
          · have hno : ¬ GOk xs tg := by
              rintro ⟨_, _, _, _, h5⟩
              obtain ⟨j, hj, e⟩ := mem_getD.1 (bof_t.1 hb)
              refine h5 k (by have := HL.out; omega) j hj ?_ e
              rintro rfl
              exact HXT.out (by rw [← HX.out]; exact e)
            have HNO := Lib.hid hno
            clear hno
            go_wp2_with (go_at_call 35; refine (contains_c hrr (by omega)).mono ?_; rintro e w' ⟨rfl, rfl⟩)
            go_ret2
            exact NO.out _ HB.out HNO.out
          · have hfree' : FreeTo xs tg (k + 1) := by
              intro i hi t ht hti
              by_cases e : i = k
              · subst e
                exact fun e => bof_f.1 hb (mem_getD.2 ⟨t, ht, e⟩)
              · exact HF.out i (by omega) t ht hti
            have HF' := Lib.hid hfree'
            clear hfree'
            go_wp2_with (first | (go_at_call 35; refine (contains_c hrr (by omega)).mono ?_; rintro e w' ⟨rfl, rfl⟩) | (at_builtin; refine wpList_appStep rfl rfl rfl hown rfl (by omega) hsz ?_; rintro g2 c2 w2 hown2 hg2 hge2))
            go_roundw
            case rel => exact ⟨k + 1, _, m + 1, c2, by omega, by go_num, rfl, by omega, by rw [HS.out, List.length_append, HML.out]; rfl, by rw [HS.out, HX.out]; exact hown2, below_app HB.out hown hsz hg2, HF'.out⟩
            case measure => simp [intOf]; omega
      · have hkn : k = n := by omega
        subst hkn
        have hok : GOk xs tg := ⟨HP.out, c2, c3, by rw [HL.out]; exact c4, by rw [HL.out]; exact HF.out⟩
        have HOK := Lib.hid hok
        clear hok
        go_wp2_with fail
        go_ret2
        rw [gather_ok HOK.out, bof_t.2 HOK.out]
        exact ownStepx_of (by rw [HL.out]; exact HML.out) (by rw [HL.out]; exact hown) hbel
  · have hno : ¬ GOk xs tg := by
      rintro ⟨h1, h2, h3, h4, h5⟩
      exact hc ⟨h1, h2, h3, by rw [HL.out] at h4; exact h4⟩
    have HNO := Lib.hid hno
    have key : bof (PlacesOk xs) = false ∨ bof (PlacesOk xs) = true ∧ (tg < 0 ∨ 0 ≤ tg ∧ (24 ≤ tg ∨ tg < 24 ∧ n ≤ 24 ∧ 24 < tg + (n : Int))) := by
      rcases Bool.eq_false_or_eq_true (bof (PlacesOk xs)) with h1 | h1
      · right
        refine ⟨h1, ?_⟩
        have h2 := bof_t.1 h1
        have h3 := h2.1
        have h4 := HL.out
        by_cases h5 : tg < 0
        · exact .inl h5
        by_cases h6 : 24 ≤ tg
        · exact .inr ⟨by omega, .inl h6⟩
        by_cases h7 : 24 < tg + (n : Int)
        · exact .inr ⟨by omega, .inr ⟨by omega, by omega, h7⟩⟩
        · exact absurd ⟨h2, by omega, by omega, by omega⟩ hc
      · exact .inl h1
    clear hno hc
    rcases key with h1 | ⟨h1, h2 | ⟨h2, h3 | ⟨h3, h4, h5⟩⟩⟩
    all_goals
      go_enter Try.func21, Try.ntmps21
      go_wp2_with (go_at_call 13; refine (placesValid_impl hr hnc hcm).mono ?_; rintro e w' ⟨rfl, rfl⟩)
      go_ret2
      exact NO.out _ (Below.refl _ _) HNO.out
end Go.Proofs.Ytiodnicpecjagaa
