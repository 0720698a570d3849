/- Contracts of LogValid and EpochOf, the program's and the reference's. Condition: at most 2^20 entries. -/
import Derived.Test.YtcaagjepiicleaaSlices
import Derived.Test.YtcaagjepiicleaaInts
namespace Go.Proofs.Ytcaagjepiicleaa
open Go.ChangeShapes Go.WideShapes Go.ChangeAt Go.RowKit
set_option linter.unusedVariables false
set_option linter.unusedSimpArgs false

def LogPre (xs : List Int) (k : Nat) : Prop := (∀ i, i < k → 0 ≤ xs.getD i 0 ∧ xs.getD i 0 ≤ 16) ∧ ∀ i j, j < i → i < k → 0 < xs.getD i 0 → xs.getD j 0 ≠ xs.getD i 0
def LogOk (xs : List Int) : Prop := xs.length ≤ 16 ∧ LogPre xs xs.length
theorem LogPre.zero (xs : List Int) : LogPre xs 0 := ⟨fun i h => absurd h (Nat.not_lt_zero _), fun i j _ h => absurd h (Nat.not_lt_zero _)⟩
theorem LogPre.succ {xs : List Int} {k : Nat} (h : LogPre xs k) (h1 : 0 ≤ xs.getD k 0) (h2 : xs.getD k 0 ≤ 16) (h3 : 0 < xs.getD k 0 → ∀ j, j < k → xs.getD j 0 ≠ xs.getD k 0) : LogPre xs (k + 1) := by
  refine ⟨fun i hi => ?_, fun i j hj hi hp => ?_⟩
  · by_cases e : i = k
    · subst e; exact ⟨h1, h2⟩
    · exact h.1 i (by omega)
  · by_cases e : i = k
    · subst e; exact h3 hp j hj
    · exact h.2 i j hj (by omega) hp

theorem logValid_impl {A : Option Addr} {n c B : Nat} {xs : List Int} {w : World} (hr : RdI .i64 w B A n xs) (hnc : n ≤ c) (hcm : c ≤ 9223372036854775807) :
    Calls Try.prog 13 #[.slice A n c] w fun e w' => e = .returned (.bool (bof (LogOk xs))) ∧ w = w' := by
  have hl := hr.len
  by_cases h16 : 16 < n
  · have hno : ¬ LogOk xs := fun h => by have := h.1; omega
    have HN := Lib.hid hno
    clear hno hl
    go_enter Try.func13, Try.ntmps13
    go_wp2
    go_ret
    exact ⟨ret_bof_f HN.out, rfl⟩
  · have HL := Lib.hid hl
    clear hl
    go_enter Try.func13, Try.ntmps13
    go_wp2
    go_loop [10] (fun i => ∃ k : Nat, k ≤ n ∧ i = .int .i64 k ∧ LogPre xs k) (fun i => n - (intOf i).toNat)
    case atStart => exact ⟨0, Nat.zero_le _, rfl, LogPre.zero _⟩
    case round =>
      obtain ⟨k, hk, rfl, hpre⟩ := hrel
      have HP := Lib.hid hpre
      clear hpre
      by_cases hlt : k < n
      · have hrt := hr.take (i := k) (by omega)
        obtain ⟨b, off, rfl, hbB, hc⟩ := hr.at_ (by omega)
        have hc1 := hc k hlt
        have hno : (¬ (0 ≤ xs.getD k 0 ∧ xs.getD k 0 ≤ 16) ∨ 0 < xs.getD k 0 ∧ xs.getD k 0 ∈ xs.take k) → ¬ LogOk xs := by
          intro h hp
          have hlen := HL.out
          rcases h with h | ⟨h0, h⟩
          · exact h (hp.2.1 k (by omega))
          · rw [mem_take_getD (by omega)] at h
            obtain ⟨j, hj, e⟩ := h
            exact hp.2.2 k j hj (by omega) h0 e
        obtain ⟨x, hx⟩ : ∃ x, xs.getD k 0 = x := ⟨_, rfl⟩
        rw [hx] at hc1 hno
        have HX := Lib.hid hx
        have HNO := Lib.hid hno
        clear hx hno hc hr
        by_cases h0 : x < 0
        · go_wp2
          go_ret
          exact ⟨ret_bof_f (HNO.out (.inl (by omega))), rfl⟩
        by_cases h23 : 16 < x
        · go_wp2
          go_ret
          exact ⟨ret_bof_f (HNO.out (.inl (by omega))), rfl⟩
        by_cases hpos : 0 < x
        · rcases Bool.eq_false_or_eq_true (bof (x ∈ xs.take k)) with hb | hb
          · have HB := Lib.hid (bof_t.1 hb)
            go_wp2_with (go_at_call 27; refine (contains_c hrt (by omega)).mono ?_; rintro e w' ⟨rfl, rfl⟩)
            go_ret
            exact ⟨ret_bof_f (HNO.out (.inr ⟨hpos, HB.out⟩)), rfl⟩
          · have HB := Lib.hid (bof_f.1 hb)
            go_wp2_with (go_at_call 27; refine (contains_c hrt (by omega)).mono ?_; rintro e w' ⟨rfl, rfl⟩)
            go_round
            case rel =>
              refine ⟨k + 1, by omega, by go_num, HP.out.succ (by rw [HX.out]; omega) (by rw [HX.out]; omega) (fun _ j hj e => HB.out ?_)⟩
              rw [mem_take_getD (by have := HL.out; omega)]
              exact ⟨j, hj, by rw [e]; exact HX.out⟩
            case measure => simp [intOf]; omega
        · have hd : decide (0 < x) = false := by simp; omega
          go_wp2
          go_round
          case rel => exact ⟨k + 1, by omega, by go_num, HP.out.succ (by rw [HX.out]; omega) (by rw [HX.out]; omega) (fun h => by rw [HX.out] at h; omega)⟩
          case measure => simp [intOf]; omega
      · have hkn : k = n := by omega
        subst hkn
        have hy : LogOk xs := ⟨by have := HL.out; omega, by rw [HL.out]; exact HP.out⟩
        have HY := Lib.hid hy
        clear hy
        go_wp2
        go_ret
        exact ⟨ret_bof_t HY.out, rfl⟩

theorem logValid_spec {A : Option Addr} {n c B : Nat} {xs : List Int} {w : World} (hr : RdI .i64 w B A n xs) (hn : n ≤ 1048577) :
    Calls Try.prog 11 #[.slice A n c] w fun e w' => e = .returned (.bool (bof (LogOk xs))) ∧ ∃ m, w' = w.drewN m := by
  have HL := Lib.hid hr.len
  go_enter Try.func11, Try.ntmps11
  go_wp2
  go_loopw [3] (fun i wr => ∃ k : Nat, k ≤ n ∧ i = .int .i64 k ∧ LogPre xs k ∧ ∃ m, wr = w.drewN m) (fun i _ => n - (intOf i).toNat)
  case atStart => exact ⟨0, Nat.zero_le _, rfl, LogPre.zero _, 0, rfl⟩
  case round =>
    obtain ⟨k, hk, rfl, hpre, m, rfl⟩ := hrel
    have HP := Lib.hid hpre
    clear hpre
    by_cases hlt : k < n
    · obtain ⟨b, off, rfl, hbB, hc⟩ := hr.at_ (by omega)
      have hc1 := hc k hlt
      have hcj := hc
      have hno : (¬ (0 ≤ xs.getD k 0 ∧ xs.getD k 0 ≤ 16) ∨ 0 < xs.getD k 0 ∧ ∃ j, j < k ∧ xs.getD j 0 = xs.getD k 0) → ¬ LogOk xs := by
        intro h hp
        have hlen := HL.out
        rcases h with h | ⟨h0, j, hj, e⟩
        · exact h (hp.2.1 k (by omega))
        · exact hp.2.2 k j hj (by omega) h0 e
      obtain ⟨x, hx⟩ : ∃ x, xs.getD k 0 = x := ⟨_, rfl⟩
      rw [hx] at hc1 hno
      have HX := Lib.hid hx
      have HNO := Lib.hid hno
      have HC := Lib.hid hcj
      clear hx hno hc hr hcj
      rcases Bool.eq_false_or_eq_true (inB x 0 16) with hb | hb
      · have hb' := inB_t.1 hb
        obtain ⟨hb1, hb2⟩ := hb'
        go_wp2_with (go_at_call 26; refine (l1In_c _ _ _ _).mono ?_; rintro e w' ⟨rfl, rfl⟩)
        go_loopw [4] (fun i wr => ∃ j : Nat, j ≤ k ∧ i = .int .i64 j ∧ (∀ t, t < j → 0 < x → xs.getD t 0 ≠ x) ∧ ∃ m, wr = w.drewN m) (fun i _ => k - (intOf i).toNat)
        case atStart => exact ⟨0, Nat.zero_le _, rfl, fun t h => absurd h (Nat.not_lt_zero _), m, rfl⟩
        case round =>
          obtain ⟨j, hj, rfl, hne, m2, rfl⟩ := hrel
          have HE := Lib.hid hne
          clear hne
          by_cases hjk : j < k
          · have hc2 := HC.out j (by omega)
            obtain ⟨y, hy⟩ : ∃ y, xs.getD j 0 = y := ⟨_, rfl⟩
            rw [hy] at hc2
            have HY := Lib.hid hy
            clear hy
            by_cases hpos : 0 < x
            · by_cases hxy : y = x
              · subst hxy
                go_wp2
                go_quiet (fail)
                go_wp2
                go_ret
                exact ⟨ret_bof_f (HNO.out (.inr ⟨hpos, j, hjk, HY.out⟩)), m2 + nq, by first | rfl | rw [World.drewN_drewN]⟩
              · have hq : (y == x) = false := by simp [hxy]
                have HQ := Lib.hid hxy
                clear hxy
                go_wp2
                go_quiet (fail)
                go_wp2
                go_roundw
                case rel =>
                  refine ⟨j + 1, by omega, by go_num, fun t ht h0 => ?_, m2 + nq, by first | rfl | rw [World.drewN_drewN]⟩
                  by_cases e : t = j
                  · subst e; rw [HY.out]; exact HQ.out
                  · exact HE.out t (by omega) h0
                case measure => simp [intOf]; omega
            · have hd : decide (0 < x) = false := by simp; omega
              go_wp2
              go_quiet (fail)
              go_wp2
              go_roundw
              case rel => exact ⟨j + 1, by omega, by go_num, fun t ht h0 => absurd h0 (by omega), m2 + nq, by first | rfl | rw [World.drewN_drewN]⟩
              case measure => simp [intOf]; omega
          · have hjn : j = k := by omega
            subst hjn
            go_wp2
            go_roundw
            case rel => exact ⟨j + 1, by omega, by go_num, HP.out.succ (by rw [HX.out]; omega) (by rw [HX.out]; omega) (fun h0 t ht => by rw [HX.out] at h0 ⊢; exact HE.out t ht h0), m2, rfl⟩
            case measure => simp [intOf]; omega
      · have hb' := inB_f.1 hb
        go_wp2_with (go_at_call 26; refine (l1In_c _ _ _ _).mono ?_; rintro e w' ⟨rfl, rfl⟩)
        go_ret
        exact ⟨ret_bof_f (HNO.out (.inl (by omega))), m, rfl⟩
    · have hkn : k = n := by omega
      subst hkn
      go_wp2
      go_ret
      exact ⟨ret_bof_iff (by
        have := HL.out
        constructor
        · intro h; simp at h; exact ⟨by omega, by rw [this]; exact HP.out⟩
        · intro h; have := h.1; simp; omega), m, rfl⟩

/-! ### EpochOf -/
def zeros (xs : List Int) (k : Nat) : Nat := ((xs.take k).filter fun x => x == 0).length
theorem zeros_zero (xs : List Int) : zeros xs 0 = 0 := rfl
theorem zeros_le (xs : List Int) (k : Nat) : zeros xs k ≤ k := by
  unfold zeros
  have h1 := List.length_filter_le (fun x : Int => x == 0) (xs.take k)
  have h2 : (xs.take k).length ≤ k := List.length_take_le _ _
  omega
theorem zeros_succ (xs : List Int) (k : Nat) (h : k < xs.length) : zeros xs (k + 1) = zeros xs k + if xs.getD k 0 = 0 then 1 else 0 := by
  unfold zeros
  rw [List.take_succ_eq_append_getElem h, List.filter_append, List.length_append, List.getD_eq_getElem?_getD, List.getElem?_eq_getElem h]
  simp only [Option.getD_some, List.filter_cons, List.filter_nil]
  by_cases e : xs[k] = 0
  · simp [e]
  · simp [e]
def fidx : List Int → Int → Nat
  | [], _ => 0
  | x :: xs, v => if x = v then 0 else fidx xs v + 1
theorem fidx_eq {xs : List Int} {v : Int} {i : Nat} (hi : i < xs.length) (h : xs.getD i 0 = v) (hn : ∀ j, j < i → xs.getD j 0 ≠ v) : fidx xs v = i := by
  induction xs generalizing i with
  | nil => simp at hi
  | cons x xs ih =>
    unfold fidx
    cases i with
    | zero => rw [if_pos (by simpa using h)]
    | succ i =>
      have h0 : x ≠ v := by simpa using hn 0 (by omega)
      rw [if_neg h0, ih (i := i) (by simpa using hi) (by simpa using h) (fun j hj => by simpa using hn (j + 1) (by omega))]
open Classical in
noncomputable def epochOf (xs : List Int) (v : Int) : Int := if LogOk xs ∧ v ≠ 0 ∧ v ∈ xs then (zeros xs (fidx xs v) : Int) else -1
theorem epoch_yes {xs : List Int} {v : Int} {i : Nat} (h : LogOk xs) (hv : v ≠ 0) (hi : i < xs.length) (hx : xs.getD i 0 = v) (hn : ∀ j, j < i → xs.getD j 0 ≠ v) : epochOf xs v = (zeros xs i : Int) := by
  unfold epochOf; rw [if_pos ⟨h, hv, mem_getD.2 ⟨i, hi, hx⟩⟩, fidx_eq hi hx hn]
theorem epoch_no {xs : List Int} {v : Int} (h : ¬ (LogOk xs ∧ v ≠ 0 ∧ v ∈ xs)) : epochOf xs v = -1 := by unfold epochOf; rw [if_neg h]
theorem epoch_ge {xs : List Int} {v : Int} : 0 ≤ epochOf xs v ↔ (LogOk xs ∧ v ≠ 0 ∧ v ∈ xs) := by
  unfold epochOf
  split
  · next h => exact ⟨fun _ => h, fun _ => by omega⟩
  · next h => exact ⟨fun h' => by omega, fun h' => absurd h' h⟩
theorem epoch_range (xs : List Int) (v : Int) : -1 ≤ epochOf xs v ∧ epochOf xs v ≤ xs.length := by
  unfold epochOf
  split
  · next h =>
    have h1 : zeros xs (fidx xs v) ≤ xs.length := by
      unfold zeros
      have h1 := List.length_filter_le (fun x : Int => x == 0) (xs.take (fidx xs v))
      have h2 : (xs.take (fidx xs v)).length ≤ xs.length := List.length_take_le' _ _
      omega
    omega
  · omega

theorem epochOf_impl {A : Option Addr} {n c B : Nat} {xs : List Int} {v : Int} {w : World} (hr : RdI .i64 w B A n xs) (hnc : n ≤ c) (hcm : c ≤ 9223372036854775807) :
    Calls Try.prog 16 #[.slice A n c, .int .i64 v] w fun e w' => e = .returned (.int .i64 (epochOf xs v)) ∧ w = w' := by
  have HL := Lib.hid hr.len
  rcases Bool.eq_false_or_eq_true (bof (LogOk xs)) with hb | hb
  · have HOK := Lib.hid (bof_t.1 hb)
    have hn16 : n ≤ 16 := by have := HOK.out.1; have := HL.out; omega
    by_cases hv0 : v = 0
    · have HE := Lib.hid (epoch_no (xs := xs) (v := v) (fun h => h.2.1 hv0))
      subst hv0
      go_enter Try.func16, Try.ntmps16
      go_wp2_with (go_at_call 13; refine (logValid_impl hr hnc hcm).mono ?_; rintro e w' ⟨rfl, rfl⟩)
      go_ret
      exact ⟨ret_int HE.out.symm, rfl⟩
    · have hq0 : (v == 0) = false := by simp [hv0]
      have HV := Lib.hid hv0
      clear hv0
      go_enter Try.func16, Try.ntmps16
      go_wp2_with (go_at_call 13; refine (logValid_impl hr hnc hcm).mono ?_; rintro e w' ⟨rfl, rfl⟩)
      clear hb
      go_loop [5, 17] (fun ep i => ∃ k : Nat, k ≤ n ∧ i = .int .i64 k ∧ ep = .int .i64 (zeros xs k : Nat) ∧ ∀ j, j < k → xs.getD j 0 ≠ v) (fun _ i => n - (intOf i).toNat)
      case atStart => exact ⟨0, Nat.zero_le _, rfl, rfl, fun j h => absurd h (Nat.not_lt_zero _)⟩
      case round =>
        obtain ⟨k, hk, rfl, rfl, hno⟩ := hrel
        have HN := Lib.hid hno
        have hzl := zeros_le xs k
        clear hno
        by_cases hlt : k < n
        · obtain ⟨b, off, rfl, hbB, hc⟩ := hr.at_ (by omega)
          have hc1 := hc k hlt
          obtain ⟨x, hx⟩ : ∃ x, xs.getD k 0 = x := ⟨_, rfl⟩
          have hzs := zeros_succ xs k (by have := HL.out; omega)
          rw [hx] at hc1 hzs
          have HX := Lib.hid hx
          clear hx hc hr
          by_cases hxv : x = v
          · have HE := Lib.hid (epoch_yes HOK.out HV.out (by have := HL.out; omega) (by rw [HX.out]; exact hxv) HN.out)
            have hq : (x == v) = true := by simp [hxv]
            clear hxv hzs
            go_wp2
            go_ret
            exact ⟨ret_int HE.out.symm, rfl⟩
          · have hq : (x == v) = false := by simp [hxv]
            have HXV := Lib.hid hxv
            clear hxv
            have fin : ∀ j, j < k + 1 → xs.getD j 0 ≠ v := fun j hj => by
              by_cases e : j = k
              · subst e; rw [HX.out]; exact HXV.out
              · exact HN.out j (by omega)
            have FIN := Lib.hid fin
            clear fin
            by_cases hx0 : x = 0
            · rw [if_pos hx0] at hzs
              have HZ := Lib.hid hzs
              subst hx0
              clear hzs
              go_wp2
              go_round
              case rel => exact ⟨k + 1, by omega, by go_num, by rw [HZ.out]; go_num, FIN.out⟩
              case measure => simp [intOf]; omega
            · rw [if_neg hx0] at hzs
              have HZ := Lib.hid hzs
              have hq2 : (x == 0) = false := by simp [hx0]
              clear hzs hx0
              go_wp2
              go_round
              case rel => exact ⟨k + 1, by omega, by go_num, by rw [HZ.out]; rfl, FIN.out⟩
              case measure => simp [intOf]; omega
        · have hkn : k = n := by omega
          subst hkn
          have HE := Lib.hid (epoch_no (xs := xs) (v := v) (fun h => by
            obtain ⟨i, hi, e⟩ := mem_getD.1 h.2.2
            exact HN.out i (by have := HL.out; omega) e))
          go_wp2
          go_ret
          exact ⟨ret_int HE.out.symm, rfl⟩
  · have HE := Lib.hid (epoch_no (xs := xs) (v := v) (fun h => bof_f.1 hb h.1))
    go_enter Try.func16, Try.ntmps16
    go_wp2_with (go_at_call 13; refine (logValid_impl hr hnc hcm).mono ?_; rintro e w' ⟨rfl, rfl⟩)
    go_ret
    exact ⟨ret_int HE.out.symm, rfl⟩
theorem epochOf_spec {A : Option Addr} {n c B : Nat} {xs : List Int} {v : Int} {w : World} (hr : RdI .i64 w B A n xs) (hn : n ≤ 1048577) :
    Calls Try.prog 15 #[.slice A n c, .int .i64 v] w fun e w' => e = .returned (.int .i64 (epochOf xs v)) ∧ ∃ m, w' = w.drewN m := by
  have HL := Lib.hid hr.len
  go_enter Try.func15, Try.ntmps15
  go_wp2
  go_loopw [5, 6] (fun ep i wr => ∃ k : Nat, k ≤ n ∧ i = .int .i64 k ∧ ep = .int .i64 (zeros xs k : Nat) ∧ (0 < k → LogOk xs) ∧ (∀ j, j < k → v ≠ 0 → xs.getD j 0 ≠ v) ∧ ∃ m, wr = w.drewN m) (fun _ i _ => n - (intOf i).toNat)
  case atStart => exact ⟨0, Nat.zero_le _, rfl, rfl, fun h => absurd h (Nat.lt_irrefl _), fun j h => absurd h (Nat.not_lt_zero _), 0, rfl⟩
  case round =>
    obtain ⟨k, hk, rfl, rfl, hok, hno, m, rfl⟩ := hrel
    have HN := Lib.hid hno
    have HK := Lib.hid hok
    have hzl := zeros_le xs k
    clear hno hok
    by_cases hlt : k < n
    · have hrm := hr.drewN m
      obtain ⟨b, off, rfl, hbB, hc⟩ := hr.at_ (by omega)
      have hc1 := hc k hlt
      obtain ⟨x, hx⟩ : ∃ x, xs.getD k 0 = x := ⟨_, rfl⟩
      have hzs := zeros_succ xs k (by have := HL.out; omega)
      rw [hx] at hc1 hzs
      have HX := Lib.hid hx
      clear hx hc hr
      rcases Bool.eq_false_or_eq_true (bof (LogOk xs)) with hb | hb
      · have HOK := Lib.hid (bof_t.1 hb)
        by_cases hx0 : x = 0
        · rw [if_pos hx0] at hzs
          have HZ := Lib.hid hzs
          have hq2 : (x == 0) = true := by simp [hx0]
          have HX0 := Lib.hid hx0
          clear hzs hx0
          go_wp2_with (go_at_call 11; refine (logValid_spec hrm (by omega)).mono ?_; rintro e w' ⟨rfl, m2, rfl⟩)
          go_roundw
          case rel =>
            refine ⟨k + 1, by omega, by go_num, by rw [HZ.out]; go_num, fun _ => HOK.out, fun j hj h0 => ?_, _, by first | rfl | rw [World.drewN_drewN]⟩
            by_cases e : j = k
            · subst e; rw [HX.out, HX0.out]; exact fun h => h0 h.symm
            · exact HN.out j (by omega) h0
          case measure => simp [intOf]; omega
        · rw [if_neg hx0] at hzs
          have HZ := Lib.hid hzs
          have hq2 : (x == 0) = false := by simp [hx0]
          by_cases hxv : x = v
          · have HE := Lib.hid (epoch_yes HOK.out (fun h => hx0 (hxv.trans h)) (by have := HL.out; omega) (by rw [HX.out]; exact hxv) (fun j hj => HN.out j hj (fun h => hx0 (hxv.trans h))))
            have hq : (x == v) = true := by simp [hxv]
            clear hxv hzs hx0
            go_wp2_with (go_at_call 11; refine (logValid_spec hrm (by omega)).mono ?_; rintro e w' ⟨rfl, m2, rfl⟩)
            go_ret
            exact ⟨ret_int HE.out.symm, _, by first | rfl | rw [World.drewN_drewN]⟩
          · have hq : (x == v) = false := by simp [hxv]
            have HXV := Lib.hid hxv
            clear hxv hzs hx0
            go_wp2_with (go_at_call 11; refine (logValid_spec hrm (by omega)).mono ?_; rintro e w' ⟨rfl, m2, rfl⟩)
            go_roundw
            case rel =>
              refine ⟨k + 1, by omega, by go_num, by rw [HZ.out]; rfl, fun _ => HOK.out, fun j hj h0 => ?_, _, by first | rfl | rw [World.drewN_drewN]⟩
              by_cases e : j = k
              · subst e; rw [HX.out]; exact HXV.out
              · exact HN.out j (by omega) h0
            case measure => simp [intOf]; omega
      · have HE := Lib.hid (epoch_no (xs := xs) (v := v) (fun h => bof_f.1 hb h.1))
        clear hzs
        go_wp2_with (go_at_call 11; refine (logValid_spec hrm (by omega)).mono ?_; rintro e w' ⟨rfl, m2, rfl⟩)
        go_ret
        exact ⟨ret_int HE.out.symm, _, by first | rfl | rw [World.drewN_drewN]⟩
    · have hkn : k = n := by omega
      subst hkn
      have HE := Lib.hid (epoch_no (xs := xs) (v := v) (fun h => by
        obtain ⟨i, hi, e⟩ := mem_getD.1 h.2.2
        exact HN.out i (by have := HL.out; omega) h.2.1 e))
      go_wp2
      go_ret
      exact ⟨ret_int HE.out.symm, m, rfl⟩
end Go.Proofs.Ytcaagjepiicleaa
