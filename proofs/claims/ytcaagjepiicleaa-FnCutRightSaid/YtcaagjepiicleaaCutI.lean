/- Contract of the program's CutRight. -/
import Derived.Test.YtcaagjepiicleaaOrderI
namespace Go.Proofs.Ytcaagjepiicleaa
open Go.ChangeShapes Go.WideShapes Go.ChangeAt Go.RowKit
set_option linter.unusedVariables false
set_option linter.unusedSimpArgs false

/-- the last epoch among the first k entries, 0 when none -/
noncomputable def lastE (log ys : List Int) : Nat → Int
  | 0 => 0
  | k + 1 => max (lastE log ys k) (epochOf log (ys.getD k 0))
theorem lastE_ge (log ys : List Int) (k : Nat) : 0 ≤ lastE log ys k := by
  induction k with
  | zero => exact Int.le_refl _
  | succ k ih => unfold lastE; omega
theorem lastE_le {log ys : List Int} (h : log.length ≤ 16) (k : Nat) : lastE log ys k ≤ 16 := by
  induction k with
  | zero => unfold lastE; omega
  | succ k ih => unfold lastE; have := epoch_range log (ys.getD k 0); omega
theorem lastE_lt {log ys : List Int} {e : Int} (he : 0 ≤ e) (k : Nat) : e < lastE log ys k ↔ ∃ i, i < k ∧ e < epochOf log (ys.getD i 0) := by
  induction k with
  | zero => unfold lastE; constructor
            · intro h; omega
            · rintro ⟨i, h, _⟩; omega
  | succ k ih =>
    unfold lastE
    constructor
    · intro h
      by_cases h2 : e < lastE log ys k
      · obtain ⟨i, hi, h3⟩ := ih.1 h2; exact ⟨i, by omega, h3⟩
      · exact ⟨k, by omega, by omega⟩
    · rintro ⟨i, hi, h⟩
      by_cases e1 : i = k
      · subst e1; omega
      · have := ih.2 ⟨i, by omega, h⟩; omega
def Cov (log ys : List Int) (e : Int) (t : Nat) : Prop := ∀ j, j < t → 0 < log.getD j 0 → epochOf log (log.getD j 0) < e → log.getD j 0 ∈ ys
def CutOk (log ys : List Int) : Prop := Once log ys ∧ ∀ i, i < ys.length → Cov log ys (epochOf log (ys.getD i 0)) log.length
theorem epoch_in {log : List Int} (h : LogOk log) {j : Nat} (hj : j < log.length) (h0 : 0 < log.getD j 0) : 0 ≤ epochOf log (log.getD j 0) :=
  epoch_ge.2 ⟨h, by omega, mem_getD.2 ⟨j, hj, rfl⟩⟩
theorem cut_last {log ys : List Int} (h : Once log ys) : CutOk log ys ↔ Cov log ys (lastE log ys ys.length) log.length := by
  constructor
  · intro hc j hj h0 hlt
    obtain ⟨i, hi, h2⟩ := (lastE_lt (epoch_in h.1 hj h0) _).1 hlt
    exact hc.2 i hi j hj h0 h2
  · intro hc
    exact ⟨h, fun i hi j hj h0 hlt => hc j hj h0 ((lastE_lt (epoch_in h.1 hj h0) _).2 ⟨i, hi, hlt⟩)⟩

theorem cutRight_impl {A A' : Option Addr} {n c n' c' B B' : Nat} {xs ys : List Int} {w : World} (hr : RdI .i64 w B A n xs) (hnc : n ≤ c) (hcm : c ≤ 9223372036854775807)
    (hr' : RdI .i64 w B' A' n' ys) (hnc' : n' ≤ c') (hcm' : c' ≤ 9223372036854775807) :
    Calls Try.prog 23 #[.slice A n c, .slice A' n' c'] w fun e w' => e = .returned (.bool (bof (CutOk xs ys))) ∧ w = w' := by
  have HL := Lib.hid hr.len
  have HL' := Lib.hid hr'.len
  rcases Bool.eq_false_or_eq_true (bof (Once xs ys)) with hb | hb
  · have HON := Lib.hid (bof_t.1 hb)
    have hn16 : n ≤ 16 := by have := HON.out.1.1; have := HL.out; omega
    have hn16' : n' ≤ 16 := by have := once_len HON.out; have := HL'.out; omega
    go_enter Try.func23, Try.ntmps23
    go_wp2_with (go_at_call 32; refine (onceEach_c hr hnc hcm hr' hnc' hcm').mono ?_; rintro e w' ⟨rfl, rfl⟩)
    clear hb
    go_loop [5, 16] (fun p i => ∃ k : Nat, k ≤ n' ∧ i = .int .i64 k ∧ p = .int .i64 (lastE xs ys k)) (fun _ i => n' - (intOf i).toNat)
    case atStart => exact ⟨0, Nat.zero_le _, rfl, rfl⟩
    case round =>
      obtain ⟨k, hk, rfl, rfl⟩ := hrel
      by_cases hlt : k < n'
      · obtain ⟨b, off, rfl, hbB, hc⟩ := hr'.at_ (by omega)
        have hc1 := hc k hlt
        have HS := Lib.hid (show lastE xs ys (k + 1) = max (lastE xs ys k) (epochOf xs (ys.getD k 0)) from rfl)
        generalize ys.getD k 0 = x at *
        generalize lastE xs ys k = l at *
        clear hc hr'
        go_wp2_with (go_at_call 16; refine (epochOf_impl hr hnc hcm).mono ?_; rintro e w' ⟨rfl, rfl⟩)
        go_round
        case rel => exact ⟨k + 1, by omega, by go_num, by rw [HS.out]; go_num⟩
        case measure => simp [intOf]; omega
      · have hkn : k = n' := by omega
        subst hkn
        clear hlt hk
        have hCL := cut_last HON.out
        rw [HL.out, HL'.out] at hCL
        have HCL := Lib.hid hCL
        have hep : ∀ j, j < n → 0 < xs.getD j 0 → 0 ≤ epochOf xs (xs.getD j 0) := fun j hj h0 => epoch_in HON.out.1 (by have := HL.out; omega) h0
        have HEP := Lib.hid hep
        generalize lastE xs ys k = l at *
        clear hCL hep
        go_wp2
        go_loop [28] (fun i => ∃ j : Nat, j ≤ n ∧ i = .int .i64 j ∧ Cov xs ys l j) (fun i => n - (intOf i).toNat)
        case atStart => exact ⟨0, Nat.zero_le _, rfl, fun j h => absurd h (Nat.not_lt_zero _)⟩
        case round =>
          obtain ⟨j, hj, rfl, hcov⟩ := hrel
          have HC := Lib.hid hcov
          clear hcov
          by_cases hlt : j < n
          · obtain ⟨b, off, rfl, hbB, hc⟩ := hr.at_ (by omega)
            have hc1 := hc j hlt
            obtain ⟨x, hx⟩ : ∃ x, xs.getD j 0 = x := ⟨_, rfl⟩
            rw [hx] at hc1
            have HX := Lib.hid hx
            clear hx hc
            by_cases hpos : 0 < x
            · by_cases hle : epochOf xs x < l
              · rcases Bool.eq_false_or_eq_true (bof (x ∈ ys)) with hb | hb
                · have HB := Lib.hid (bof_t.1 hb)
                  go_wp2_with (first | (go_at_call 16; refine (epochOf_impl hr hnc hcm).mono ?_; rintro e w' ⟨rfl, rfl⟩) | (go_at_call 27; refine (contains_c hr' (by omega)).mono ?_; rintro e w' ⟨rfl, rfl⟩))
                  go_round
                  case rel =>
                    refine ⟨j + 1, by omega, by go_num, fun t ht h0 h1 => ?_⟩
                    by_cases e : t = j
                    · subst e; rw [HX.out]; exact HB.out
                    · exact HC.out t (by omega) h0 h1
                  case measure => simp [intOf]; omega
                · have HB := Lib.hid (bof_f.1 hb)
                  have HNO := Lib.hid (show ¬ CutOk xs ys from fun h => HB.out (by
                    have := HCL.out.1 h j hlt (by rw [HX.out]; exact hpos) (by rw [HX.out]; exact hle)
                    rwa [HX.out] at this))
                  go_wp2_with (first | (go_at_call 16; refine (epochOf_impl hr hnc hcm).mono ?_; rintro e w' ⟨rfl, rfl⟩) | (go_at_call 27; refine (contains_c hr' (by omega)).mono ?_; rintro e w' ⟨rfl, rfl⟩))
                  go_ret
                  exact ⟨ret_bof_f HNO.out, rfl⟩
              · have hd : decide (epochOf xs x < l) = false := by simp; omega
                go_wp2_with (go_at_call 16; refine (epochOf_impl hr hnc hcm).mono ?_; rintro e w' ⟨rfl, rfl⟩)
                go_round
                case rel =>
                  refine ⟨j + 1, by omega, by go_num, fun t ht h0 h1 => ?_⟩
                  by_cases e : t = j
                  · subst e; rw [HX.out] at h1; exact absurd h1 (by omega)
                  · exact HC.out t (by omega) h0 h1
                case measure => simp [intOf]; omega
            · have hd : decide (0 < x) = false := by simp; omega
              go_wp2
              go_round
              case rel =>
                refine ⟨j + 1, by omega, by go_num, fun t ht h0 h1 => ?_⟩
                by_cases e : t = j
                · subst e; rw [HX.out] at h0; exact absurd h0 hpos
                · exact HC.out t (by omega) h0 h1
              case measure => simp [intOf]; omega
          · have hjn : j = n := by omega
            subst hjn
            have HY := Lib.hid (HCL.out.2 HC.out)
            go_wp2
            go_ret
            exact ⟨ret_bof_t HY.out, rfl⟩
  · have HE := Lib.hid (show ¬ CutOk xs ys from fun h => bof_f.1 hb h.1)
    go_enter Try.func23, Try.ntmps23
    go_wp2_with (go_at_call 32; refine (onceEach_c hr hnc hcm hr' hnc' hcm').mono ?_; rintro e w' ⟨rfl, rfl⟩)
    go_ret
    exact ⟨ret_bof_f HE.out, rfl⟩
end Go.Proofs.Ytcaagjepiicleaa
