/- Contracts of PlacesValid and FragmentCount, the program's and the reference's. Condition: at most 2^20 pages. -/
import Derived.Test.YtiodnicpecjagaaSlices
import Derived.Test.YtiodnicpecjagaaInts
namespace Go.Proofs.Ytiodnicpecjagaa
open Go.ChangeShapes Go.WideShapes Go.ChangeAt Go.RowKit
set_option linter.unusedVariables false
set_option linter.unusedSimpArgs false

/-- the first k are places, each once -/
def PreOk (xs : List Int) (k : Nat) : Prop := (∀ i, i < k → 0 ≤ xs.getD i 0 ∧ xs.getD i 0 ≤ 23) ∧ ∀ i j, j < i → i < k → xs.getD j 0 ≠ xs.getD i 0
def PlacesOk (xs : List Int) : Prop := xs.length ≤ 24 ∧ PreOk xs xs.length
theorem PreOk.zero (xs : List Int) : PreOk xs 0 := ⟨fun i h => absurd h (Nat.not_lt_zero _), fun i j _ h => absurd h (Nat.not_lt_zero _)⟩
theorem PreOk.succ {xs : List Int} {k : Nat} (h : PreOk xs k) (h1 : 0 ≤ xs.getD k 0) (h2 : xs.getD k 0 ≤ 23) (h3 : ∀ j, j < k → xs.getD j 0 ≠ xs.getD k 0) : PreOk xs (k + 1) := by
  refine ⟨fun i hi => ?_, fun i j hj hi => ?_⟩
  · by_cases e : i = k
    · subst e; exact ⟨h1, h2⟩
    · exact h.1 i (by omega)
  · by_cases e : i = k
    · subst e; exact h3 j hj
    · exact h.2 i j hj (by omega)

theorem placesValid_impl {A : Option Addr} {n c B : Nat} {xs : List Int} {w : World} (hr : RdI .i64 w B A n xs) (hnc : n ≤ c) (hcm : c ≤ 9223372036854775807) :
    Calls Try.prog 13 #[.slice A n c] w fun e w' => e = .returned (.bool (bof (PlacesOk xs))) ∧ w = w' := by
  have hl := hr.len
  by_cases h24 : 24 < n
  · have hno : ¬ PlacesOk xs := fun h => by have := h.1; omega
    have HN := Lib.hid hno
    clear hno hl
    go_enter Try.func13, Try.ntmps13
    go_wp2
    go_ret
    exact ⟨ret_bof_f HN.out, rfl⟩
  · have HL := Lib.hid hl
    clear hl
    go_enter Try.func13, Try.ntmps13
    go_wp2
    go_loop [10] (fun i => ∃ k : Nat, k ≤ n ∧ i = .int .i64 k ∧ PreOk xs k) (fun i => n - (intOf i).toNat)
    case atStart => exact ⟨0, Nat.zero_le _, rfl, PreOk.zero _⟩
    case round =>
      obtain ⟨k, hk, rfl, hpre⟩ := hrel
      have HP := Lib.hid hpre
      clear hpre
      by_cases hlt : k < n
      · have hrt := hr.take (i := k) (by omega)
        obtain ⟨b, off, rfl, hbB, hc⟩ := hr.at_ (by omega)
        have hc1 := hc k hlt
        have hno : (¬ (0 ≤ xs.getD k 0 ∧ xs.getD k 0 ≤ 23) ∨ xs.getD k 0 ∈ xs.take k) → ¬ PlacesOk xs := by
          intro h hp
          have hlen := HL.out
          rcases h with h | h
          · exact h (hp.2.1 k (by omega))
          · rw [mem_take_getD (by omega)] at h
            obtain ⟨j, hj, e⟩ := h
            exact hp.2.2 k j hj (by omega) e
        obtain ⟨x, hx⟩ : ∃ x, xs.getD k 0 = x := ⟨_, rfl⟩
        rw [hx] at hc1 hno
        have HX := Lib.hid hx
        have HNO := Lib.hid hno
        clear hx hno hc hr
        by_cases h0 : x < 0
        · go_wp2
          go_ret
          exact ⟨ret_bof_f (HNO.out (.inl (by omega))), rfl⟩
        by_cases h23 : 24 ≤ x
        · go_wp2
          go_ret
          exact ⟨ret_bof_f (HNO.out (.inl (by omega))), rfl⟩
        rcases Bool.eq_false_or_eq_true (bof (x ∈ xs.take k)) with hb | hb
        · have HB := Lib.hid (bof_t.1 hb)
          go_wp2_with (go_at_call 35; refine (contains_c hrt (by omega)).mono ?_; rintro e w' ⟨rfl, rfl⟩)
          go_ret
          exact ⟨ret_bof_f (HNO.out (.inr HB.out)), rfl⟩
        · have HB := Lib.hid (bof_f.1 hb)
          go_wp2_with (go_at_call 35; refine (contains_c hrt (by omega)).mono ?_; rintro e w' ⟨rfl, rfl⟩)
          go_round
          case rel =>
            refine ⟨k + 1, by omega, by go_num, HP.out.succ (by rw [HX.out]; omega) (by rw [HX.out]; omega) (fun j hj e => HB.out ?_)⟩
            rw [mem_take_getD (by have := HL.out; omega)]
            exact ⟨j, hj, by rw [e]; exact HX.out⟩
          case measure => simp [intOf]; omega
      · have hkn : k = n := by omega
        subst hkn
        have hy : PlacesOk xs := ⟨by have := HL.out; omega, by rw [HL.out]; exact HP.out⟩
        have HY := Lib.hid hy
        clear hy
        go_wp2
        go_ret
        exact ⟨ret_bof_t HY.out, rfl⟩

theorem placesValid_spec {A : Option Addr} {n c B : Nat} {xs : List Int} {w : World} (hr : RdI .i64 w B A n xs) (hn : n ≤ 1048576) :
    Calls Try.prog 11 #[.slice A n c] w fun e w' => e = .returned (.bool (bof (PlacesOk xs))) ∧ ∃ m, w' = w.drewN m := by
  have HL := Lib.hid hr.len
  go_enter Try.func11, Try.ntmps11
  go_wp2
  go_loopw [3] (fun i wr => ∃ k : Nat, k ≤ n ∧ i = .int .i64 k ∧ PreOk xs k ∧ ∃ m, wr = w.drewN m) (fun i _ => n - (intOf i).toNat)
  case atStart => exact ⟨0, Nat.zero_le _, rfl, PreOk.zero _, 0, rfl⟩
  case round =>
    obtain ⟨k, hk, rfl, hpre, m, rfl⟩ := hrel
    have HP := Lib.hid hpre
    clear hpre
    by_cases hlt : k < n
    · obtain ⟨b, off, rfl, hbB, hc⟩ := hr.at_ (by omega)
      have hc1 := hc k hlt
      have hcj := hc
      have hno : (¬ (0 ≤ xs.getD k 0 ∧ xs.getD k 0 ≤ 23) ∨ ∃ j, j < k ∧ xs.getD j 0 = xs.getD k 0) → ¬ PlacesOk xs := by
        intro h hp
        have hlen := HL.out
        rcases h with h | ⟨j, hj, e⟩
        · exact h (hp.2.1 k (by omega))
        · exact hp.2.2 k j hj (by omega) e
      obtain ⟨x, hx⟩ : ∃ x, xs.getD k 0 = x := ⟨_, rfl⟩
      rw [hx] at hc1 hno
      have HX := Lib.hid hx
      have HNO := Lib.hid hno
      have HC := Lib.hid hcj
      clear hx hno hc hr hcj
      rcases Bool.eq_false_or_eq_true (inB x 0 23) with hb | hb
      · have hb' := inB_t.1 hb
        obtain ⟨hb1, hb2⟩ := hb'
        go_wp2_with (go_at_call 34; refine (l1In_c _ _ _ _).mono ?_; rintro e w' ⟨rfl, rfl⟩)
        obtain ⟨wo, hwo⟩ : ∃ wo : World, wo = w.drewN m := ⟨_, rfl⟩
        go_loopw [4] (fun i wr => ∃ j : Nat, j ≤ k ∧ i = .int .i64 j ∧ (∀ t, t < j → xs.getD t 0 ≠ x) ∧ ∃ m, wr = w.drewN m) (fun i _ => k - (intOf i).toNat)
        case atStart => exact ⟨0, Nat.zero_le _, rfl, fun t h => absurd h (Nat.not_lt_zero _), m, rfl⟩
        case round =>
          obtain ⟨j, hj, rfl, hne, m2, rfl⟩ := hrel
          have HE := Lib.hid hne
          clear hne
          by_cases hjk : j < k
          · have hc2 := HC.out j (by omega)
            obtain ⟨y, hy⟩ : ∃ y, xs.getD j 0 = y := ⟨_, rfl⟩
            rw [hy] at hc2
            have HY := Lib.hid hy
            clear hy
            by_cases hxy : y = x
            · subst hxy
              go_wp2
              go_quiet (fail)
              go_wp2
              go_ret
              exact ⟨ret_bof_f (HNO.out (.inr ⟨j, hjk, HY.out⟩)), m2 + nq, by first | rfl | rw [World.drewN_drewN]⟩
            · have hq : (y == x) = false := by simp [hxy]
              have HQ := Lib.hid hxy
              clear hxy
              go_wp2
              go_quiet (fail)
              go_wp2
              go_roundw
              case rel =>
                refine ⟨j + 1, by omega, by go_num, fun t ht => ?_, m2 + nq, by first | rfl | rw [World.drewN_drewN]⟩
                by_cases e : t = j
                · subst e; rw [HY.out]; exact HQ.out
                · exact HE.out t (by omega)
              case measure => simp [intOf]; omega
          · have hjn : j = k := by omega
            subst hjn
            go_wp2
            go_roundw
            case rel => exact ⟨j + 1, by omega, by go_num, HP.out.succ (by rw [HX.out]; omega) (by rw [HX.out]; omega) (fun t ht => by rw [HX.out]; exact HE.out t ht), m2, rfl⟩
            case measure => simp [intOf]; omega
      · have hb' := inB_f.1 hb
        go_wp2_with (go_at_call 34; refine (l1In_c _ _ _ _).mono ?_; rintro e w' ⟨rfl, rfl⟩)
        go_ret
        exact ⟨ret_bof_f (HNO.out (.inl (by omega))), m, rfl⟩
    · have hkn : k = n := by omega
      subst hkn
      go_wp2
      go_ret
      exact ⟨ret_bof_iff (by
        have := HL.out
        constructor
        · intro h; simp at h; exact ⟨by omega, by rw [this]; exact HP.out⟩
        · intro h; have := h.1; simp; omega), m, rfl⟩

/-! ### FragmentCount -/
def frag (xs : List Int) (k : Nat) : Nat := ((List.range k).filter fun i => decide (i = 0) || !(decide (xs.getD i 0 = xs.getD (i - 1) 0 + 1))).length
theorem frag_le (xs : List Int) (k : Nat) : frag xs k ≤ k := by
  unfold frag
  have := List.length_filter_le (fun i => decide (i = 0) || !(decide (xs.getD i 0 = xs.getD (i - 1) 0 + 1))) (List.range k)
  simpa using this
theorem frag_new (xs : List Int) (k : Nat) (h : k = 0 ∨ xs.getD k 0 ≠ xs.getD (k - 1) 0 + 1) : frag xs (k + 1) = frag xs k + 1 := by
  unfold frag
  rw [List.range_succ, List.filter_append, List.length_append, List.filter_cons_of_pos (by simp; rcases h with h | h; exact .inl h; exact .inr h)]
  rfl
theorem frag_old (xs : List Int) (k : Nat) (h0 : k ≠ 0) (h : xs.getD k 0 = xs.getD (k - 1) 0 + 1) : frag xs (k + 1) = frag xs k := by
  unfold frag
  rw [List.range_succ, List.filter_append, List.length_append, List.filter_cons_of_neg (by rw [h]; simp [h0])]
  rfl
open Classical in
noncomputable def fragCount (xs : List Int) : Int := if PlacesOk xs then (frag xs xs.length : Int) else -1
theorem fragCount_ok {xs} (h : PlacesOk xs) : fragCount xs = (frag xs xs.length : Int) := by unfold fragCount; rw [if_pos h]
theorem fragCount_no {xs} (h : ¬ PlacesOk xs) : fragCount xs = -1 := by unfold fragCount; rw [if_neg h]

theorem fragmentCount_impl {A : Option Addr} {n c B : Nat} {xs : List Int} {w : World} (hr : RdI .i64 w B A n xs) (hnc : n ≤ c) (hcm : c ≤ 9223372036854775807) :
    Calls Try.prog 16 #[.slice A n c] w fun e w' => e = .returned (.int .i64 (fragCount xs)) ∧ w = w' := by
  have HL := Lib.hid hr.len
  rcases Bool.eq_false_or_eq_true (bof (PlacesOk xs)) with hb | hb
  · have hok := bof_t.1 hb
    have h24 := hok.1
    have hv : ∀ i, i < xs.length → 0 ≤ xs.getD i 0 ∧ xs.getD i 0 ≤ 23 := hok.2.1
    have HV := Lib.hid hv
    have HF := Lib.hid (fragCount_ok hok)
    have hn24 : n ≤ 24 := by have := HL.out; omega
    clear hok hv h24
    go_enter Try.func16, Try.ntmps16
    go_wp2_with (go_at_call 13; refine (placesValid_impl hr hnc hcm).mono ?_; rintro e w' ⟨rfl, rfl⟩)
    go_loop [3, 11] (fun p i => ∃ k : Nat, k ≤ n ∧ i = .int .i64 k ∧ p = .int .i64 (frag xs k : Nat)) (fun _ i => n - (intOf i).toNat)
    case atStart => exact ⟨0, Nat.zero_le _, rfl, rfl⟩
    case round =>
      obtain ⟨k, hk, rfl, rfl⟩ := hrel
      have hfl := frag_le xs k
      by_cases hlt : k < n
      · obtain ⟨b, off, rfl, hbB, hc⟩ := hr.at_ (by omega)
        have hc1 := hc k hlt
        have hv1 := HV.out k (by have := HL.out; omega)
        by_cases h0 : k = 0
        · subst h0
          rw [Nat.add_zero] at hc1
          have HE := Lib.hid (frag_new xs 0 (.inl rfl))
          generalize xs.getD 0 0 = x at *
          clear hc hr
          go_wp2
          go_round
          case rel => exact ⟨1, by omega, by go_num, by rw [HE.out]; go_num⟩
          case measure => simp [intOf]; omega
        · have hc2 := hc (k - 1) (by omega)
          have hv2 := HV.out (k - 1) (by have := HL.out; omega)
          have hz : ((k : Int) == 0) = false := by simp; omega
          have hk1 : 1 ≤ k := by omega
          have e1 := Lib.hid (frag_new xs k)
          have e2 := Lib.hid (frag_old xs k h0)
          generalize xs.getD k 0 = x at *
          generalize xs.getD (k - 1) 0 = y at *
          clear hc hr
          by_cases hxy : x = y + 1
          · have E := Lib.hid (e2.out hxy)
            clear e1 e2
            have hq : (x != y + 1) = false := by simp [hxy]
            clear hxy
            go_wp2
            go_round
            case rel => exact ⟨k + 1, by omega, by go_num, by rw [E.out]⟩
            case measure => simp [intOf]; omega
          · have E := Lib.hid (e1.out (.inr hxy))
            have hq : (x != y + 1) = true := by simp [hxy]
            clear e1 e2 hxy
            go_wp2
            go_round
            case rel => exact ⟨k + 1, by omega, by go_num, by rw [E.out]; go_num⟩
            case measure => simp [intOf]; omega
      · have hkn : k = n := by omega
        subst hkn
        go_wp2
        go_ret
        exact ⟨ret_int (by rw [HF.out, HL.out]), rfl⟩
  · have HF := Lib.hid (fragCount_no (bof_f.1 hb))
    go_enter Try.func16, Try.ntmps16
    go_wp2_with (go_at_call 13; refine (placesValid_impl hr hnc hcm).mono ?_; rintro e w' ⟨rfl, rfl⟩)
    go_ret
    exact ⟨ret_int HF.out.symm, rfl⟩
theorem fragmentCount_spec {A : Option Addr} {n c B : Nat} {xs : List Int} {w : World} (hr : RdI .i64 w B A n xs) (hn : n ≤ 1048576) :
    Calls Try.prog 15 #[.slice A n c] w fun e w' => e = .returned (.int .i64 (fragCount xs)) ∧ ∃ m, w' = w.drewN m := by
  have HL := Lib.hid hr.len
  rcases Bool.eq_false_or_eq_true (bof (PlacesOk xs)) with hb | hb
  · have hok := bof_t.1 hb
    have h24 := hok.1
    have hv : ∀ i, i < xs.length → 0 ≤ xs.getD i 0 ∧ xs.getD i 0 ≤ 23 := hok.2.1
    have HV := Lib.hid hv
    have HF := Lib.hid (fragCount_ok hok)
    have hn24 : n ≤ 24 := by have := HL.out; omega
    clear hok hv h24
    go_enter Try.func15, Try.ntmps15
    go_wp2_with (go_at_call 11; refine (placesValid_spec hr hn).mono ?_; rintro e w' ⟨rfl, m0, rfl⟩)
    go_loopw [3, 4] (fun p i wr => ∃ k : Nat, k ≤ n ∧ i = .int .i64 k ∧ p = .int .i64 (frag xs k : Nat) ∧ ∃ m, wr = w.drewN m) (fun _ i _ => n - (intOf i).toNat)
    case atStart => exact ⟨0, Nat.zero_le _, rfl, rfl, m0, rfl⟩
    case round =>
      obtain ⟨k, hk, rfl, rfl, m, rfl⟩ := hrel
      have hfl := frag_le xs k
      by_cases hlt : k < n
      · obtain ⟨b, off, rfl, hbB, hc⟩ := hr.at_ (by omega)
        have hc1 := hc k hlt
        have hv1 := HV.out k (by have := HL.out; omega)
        by_cases h0 : k = 0
        · subst h0
          rw [Nat.add_zero] at hc1
          have HE := Lib.hid (frag_new xs 0 (.inl rfl))
          generalize xs.getD 0 0 = x at *
          clear hc hr
          go_wp2
          go_quiet (fail)
          go_wp2
          go_roundw
          case rel => exact ⟨1, by omega, by go_num, by rw [HE.out]; go_num, m + nq, by first | rfl | rw [World.drewN_drewN]⟩
          case measure => simp [intOf]; omega
        · have hc2 := hc (k - 1) (by omega)
          have hv2 := HV.out (k - 1) (by have := HL.out; omega)
          have hz : ((k : Int) == 0) = false := by simp; omega
          have hk1 : 1 ≤ k := by omega
          have e1 := Lib.hid (frag_new xs k)
          have e2 := Lib.hid (frag_old xs k h0)
          generalize xs.getD k 0 = x at *
          generalize xs.getD (k - 1) 0 = y at *
          clear hc hr
          have hw1 : IntKind.i64.wrap ((k : Int) - 1) = (k : Int) - 1 := IntWalk.i64_in _ (by omega)
          have hw2 : IntKind.i64.wrap (y + 1) = y + 1 := IntWalk.i64_in _ (by omega)
          have hw3 : (0 : Int) ≤ (k : Int) - 1 := by omega
          have hw4 : ((k : Int) - 1).toNat = k - 1 := by omega
          have hw5 : (k : Int) - 1 < (n : Int) := by omega
          by_cases hxy : x = y + 1
          · have E := Lib.hid (e2.out hxy)
            clear e1 e2
            have hq : (x != y + 1) = false := by simp [hxy]
            clear hxy
            go_wp2
            go_quiet (fail)
            go_wp2
            go_roundw
            case rel => exact ⟨k + 1, by omega, by go_num, by rw [E.out], m + nq, by first | rfl | rw [World.drewN_drewN]⟩
            case measure => simp [intOf]; omega
          · have E := Lib.hid (e1.out (.inr hxy))
            have hq : (x != y + 1) = true := by simp [hxy]
            clear e1 e2 hxy
            go_wp2
            go_quiet (fail)
            go_wp2
            go_roundw
            case rel => exact ⟨k + 1, by omega, by go_num, by rw [E.out]; go_num, m + nq, by first | rfl | rw [World.drewN_drewN]⟩
            case measure => simp [intOf]; omega
      · have hkn : k = n := by omega
        subst hkn
        go_wp2
        go_ret
        exact ⟨ret_int (by rw [HF.out, HL.out]), m, rfl⟩
  · have HF := Lib.hid (fragCount_no (bof_f.1 hb))
    go_enter Try.func15, Try.ntmps15
    go_wp2_with (go_at_call 11; refine (placesValid_spec hr hn).mono ?_; rintro e w' ⟨rfl, m0, rfl⟩)
    go_ret
    exact ⟨ret_int HF.out.symm, m0, rfl⟩
end Go.Proofs.Ytiodnicpecjagaa
