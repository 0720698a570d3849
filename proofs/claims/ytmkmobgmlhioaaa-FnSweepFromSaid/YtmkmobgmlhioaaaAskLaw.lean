/- Plain laws of requests: parts, sums, orders, merged ones. No program in sight. -/
import Derived.Test.YtmkmobgmlhioaaaMergeLaw
namespace Go.Proofs.Ytmkmobgmlhioaaa
open Go.ChangeShapes Go.WideShapes Go.ChangeAt Go.RowKit
set_option linter.unusedVariables false
set_option linter.unusedSimpArgs false

theorem asksOk_iff {xs : List (Int × Int)} : AsksOk xs ↔ xs.length ≤ 12 ∧ AllOk xs := by
  constructor
  · rintro ⟨h1, h2⟩
    refine ⟨h1, fun y hy => ?_⟩
    obtain ⟨i, hi, e⟩ := mem_getDP.1 hy
    have := h2 i hi
    rwa [e] at this
  · rintro ⟨h1, h2⟩
    exact ⟨h1, fun i hi => h2 _ (getD_memP hi)⟩
theorem asksOk_perm {xs ys : List (Int × Int)} (p : xs.Perm ys) (h : AsksOk xs) : AsksOk ys := by
  rw [asksOk_iff] at *
  exact ⟨by rw [← p.length_eq]; exact h.1, fun y hy => h.2 y (p.mem_iff.2 hy)⟩
theorem asksOk_drop {xs : List (Int × Int)} (h : AsksOk xs) (i : Nat) : AsksOk (xs.drop i) := by
  rw [asksOk_iff] at *
  exact ⟨by have := h.1; simp; omega, fun y hy => h.2 y (List.mem_of_mem_drop hy)⟩
theorem asksOk_zero (xs : List (Int × Int)) : ¬ AsksOk ([(1, 0)] ++ xs) := by
  intro h
  rw [asksOk_iff] at h
  have := h.2 (1, 0) (by simp)
  unfold Ask1 at this
  simp only at this
  omega
theorem sortAsks_asks {xs : List (Int × Int)} (h : AsksOk xs) : AsksOk (sortAsks xs) := by
  rw [sortAsks_ok h]; exact asksOk_perm (sortP_perm xs).symm h
theorem sortAsks_twice {xs : List (Int × Int)} (h : AsksOk xs) : sortAsks (sortAsks xs) = sortAsks xs := by
  rw [sortAsks_ok (sortAsks_asks h), sortAsks_ok h, sortP_twice]
theorem sortAsks_length {xs : List (Int × Int)} (h : AsksOk xs) : (sortAsks xs).length = xs.length := by rw [sortAsks_ok h, sortP_len]
theorem sortAsks_up {xs : List (Int × Int)} {i j : Nat} (hij : i ≤ j) (hj : j < (sortAsks xs).length) : ((sortAsks xs).getD i (0, 0)).1 ≤ ((sortAsks xs).getD j (0, 0)).1 := by
  by_cases h : AsksOk xs
  · rw [sortAsks_ok h] at hj ⊢
    have := sorted_at (sortP_sorted xs) hij hj
    rw [ltP_no] at this
    omega
  · rw [sortAsks_no h] at hj; simp at hj

/-! ### sums -/
def sumP : List (Int × Int) → Int
  | [] => 0
  | x :: xs => x.2 + sumP xs
theorem sumP_append (xs ys : List (Int × Int)) : sumP (xs ++ ys) = sumP xs + sumP ys := by
  induction xs with
  | nil => simp [sumP]
  | cons x xs ih => show x.2 + sumP (xs ++ ys) = x.2 + sumP xs + sumP ys; rw [ih]; omega
theorem manyTo_sum (xs : List (Int × Int)) : ∀ k, k ≤ xs.length → manyTo xs k = sumP (xs.take k)
  | 0, _ => by rw [List.take_zero]; rfl
  | k + 1, h => by
    rw [take_succP (by omega), sumP_append, ← manyTo_sum xs k (by omega)]
    show manyTo xs k + _ = manyTo xs k + (_ + 0)
    omega
theorem askPages_sum {xs : List (Int × Int)} (h : AsksOk xs) : askPages xs = sumP xs := by
  rw [askPages_ok h, manyTo_sum xs _ (Nat.le_refl _), List.take_length]
theorem sumP_perm {xs ys : List (Int × Int)} (p : xs.Perm ys) : sumP xs = sumP ys := by
  induction p with
  | nil => rfl
  | cons x _ ih => show x.2 + _ = x.2 + _; rw [ih]
  | swap x y l => show y.2 + (x.2 + _) = x.2 + (y.2 + _); omega
  | trans _ _ i1 i2 => rw [i1, i2]
theorem sumP_range : ∀ {xs : List (Int × Int)}, AllOk xs → (xs.length : Int) ≤ sumP xs ∧ sumP xs ≤ 10 * (xs.length : Int)
  | [], _ => by simp [sumP]
  | x :: xs, h => by
    have h1 := h x (by simp)
    have h2 := sumP_range (xs := xs) (fun y hy => h y (by simp [hy]))
    unfold Ask1 at h1
    show (((x :: xs).length : Nat) : Int) ≤ x.2 + sumP xs ∧ x.2 + sumP xs ≤ 10 * (((x :: xs).length : Nat) : Int)
    rw [List.length_cons]
    omega
theorem askPages_range {xs : List (Int × Int)} (h : AsksOk xs) : (xs.length : Int) ≤ askPages xs ∧ askPages xs ≤ 10 * (xs.length : Int) := by
  rw [askPages_sum h]; exact sumP_range (asksOk_iff.1 h).2
theorem askPages_sort {xs : List (Int × Int)} (h : AsksOk xs) : askPages (sortAsks xs) = askPages xs := by
  rw [askPages_sum h, askPages_sum (sortAsks_asks h), sortAsks_ok h, sumP_perm (sortP_perm xs)]
theorem askPages_neg {xs : List (Int × Int)} (h : askPages xs < 0) : askPages xs = -1 ∧ ¬ AsksOk xs := by
  by_cases h1 : AsksOk xs
  · have := askPages_range h1; omega
  · exact ⟨askPages_no h1, h1⟩
theorem askPages_pos {xs : List (Int × Int)} (h : ¬ askPages xs < 0) : AsksOk xs := by
  by_cases h1 : AsksOk xs
  · exact h1
  · rw [askPages_no h1] at h; omega

/-! ### merged -/
theorem sumP_set : ∀ (ys : List (Int × Int)) (j : Nat) (v : Int × Int), j < ys.length → sumP (ys.set j v) = sumP ys - (ys.getD j (0, 0)).2 + v.2
  | [], j, v, h => by simp at h
  | y :: ys, 0, v, _ => by
    show v.2 + sumP ys = y.2 + sumP ys - y.2 + v.2
    omega
  | y :: ys, j + 1, v, h => by
    have ih := sumP_set ys j v (by simpa using h)
    show y.2 + sumP (ys.set j v) = y.2 + sumP ys - (ys.getD j (0, 0)).2 + v.2
    rw [ih]; omega
theorem mstep_sum (ys : List (Int × Int)) (a : Int × Int) : sumP (mstep ys a) = sumP ys + a.2 := by
  unfold mstep
  split
  · next h =>
    rw [sumP_set _ _ _ (by have := h.1; omega)]
    show sumP ys - (lastP ys).2 + ((lastP ys).2 + a.2) = _
    omega
  · rw [sumP_append]; show _ + (a.2 + 0) = _; omega
theorem mergeTo_sum (ss : List (Int × Int)) : ∀ k, k ≤ ss.length → sumP (mergeTo ss k) = sumP (ss.take k)
  | 0, _ => by rw [mergeTo_zero, List.take_zero]
  | k + 1, h => by
    rw [mergeTo_succ (by omega), mstep_sum, mergeTo_sum ss k (by omega), take_succP (by omega), sumP_append]
    show _ = _ + (_ + 0)
    omega
theorem mergeAsks_asks (xs : List (Int × Int)) : AsksOk (mergeAsks xs) :=
  asksOk_iff.2 ⟨mergeAsks_len xs, mergeTo_ok (sortAsks_ok1 xs) _ (Nat.le_refl _)⟩
theorem mergeAsks_pages {xs : List (Int × Int)} (h : AsksOk xs) : askPages (mergeAsks xs) = askPages xs := by
  rw [askPages_sum (mergeAsks_asks xs), ← askPages_sort h, askPages_sum (sortAsks_asks h)]
  unfold mergeAsks
  rw [mergeTo_sum _ _ (Nat.le_refl _), List.take_length]
theorem mergeAsks_fewer {xs : List (Int × Int)} (h : AsksOk xs) : (mergeAsks xs).length ≤ xs.length := by
  rw [← sortAsks_length h]; exact mergeTo_len _ _ (Nat.le_refl _)
theorem mergeAsks_none {xs : List (Int × Int)} (h : ¬ AsksOk xs) : mergeAsks xs = [] := by
  unfold mergeAsks; rw [sortAsks_no h]; rfl
def Within (a y : Int × Int) : Prop := y.1 ≤ a.1 ∧ a.1 + a.2 ≤ y.1 + y.2
instance (a y : Int × Int) : Decidable (Within a y) := by unfold Within; infer_instance
theorem mstep_cover {ys : List (Int × Int)} {a b : Int × Int} (hy : AllOk ys) (ha : Ask1 a) (h : b = a ∨ ∃ y ∈ ys, Within b y) : ∃ y ∈ mstep ys a, Within b y := by
  unfold mstep
  split
  · next hf =>
    have hl := hy.last hf.1
    have hlt : ys.length - 1 < ys.length := by have := hf.1; omega
    have hm := hf.2.1
    have hnew : ((lastP ys).1, (lastP ys).2 + a.2) ∈ ys.set (ys.length - 1) ((lastP ys).1, (lastP ys).2 + a.2) := List.mem_set hlt _
    unfold Ask1 at hl ha
    rcases h with rfl | ⟨y, hy1, hy2⟩
    · refine ⟨_, hnew, ?_⟩
      unfold Within; simp only; omega
    · by_cases e : y = lastP ys
      · subst e
        refine ⟨_, hnew, ?_⟩
        unfold Within at hy2 ⊢; simp only; omega
      · obtain ⟨i, hi, ei⟩ := mem_getDP.1 hy1
        refine ⟨y, ?_, hy2⟩
        have hne : ys.length - 1 ≠ i := fun h => e (by rw [← ei, ← h]; rfl)
        refine mem_getDP.2 ⟨i, by simpa using hi, ?_⟩
        rw [List.getD_eq_getElem?_getD, List.getElem?_set_ne hne, ← List.getD_eq_getElem?_getD]
        exact ei
  · rcases h with rfl | ⟨y, hy1, hy2⟩
    · exact ⟨b, by simp, by unfold Within; omega⟩
    · exact ⟨y, by simp [hy1], hy2⟩
theorem mergeTo_cover {ss : List (Int × Int)} (hs : AllOk ss) : ∀ k, k ≤ ss.length → ∀ b ∈ ss.take k, ∃ y ∈ mergeTo ss k, Within b y
  | 0, _, b, hb => by simp at hb
  | k + 1, h, b, hb => by
    rw [mergeTo_succ (by omega)]
    refine mstep_cover (mergeTo_ok hs k (by omega)) (hs _ (getD_memP (by omega))) ?_
    rw [take_succP (by omega)] at hb
    rcases List.mem_append.1 hb with h1 | h1
    · exact .inr (mergeTo_cover hs k (by omega) b h1)
    · simp at h1
      left
      rw [List.getD_eq_getElem?_getD]
      exact h1
theorem mergeAsks_cover {xs : List (Int × Int)} (h : AsksOk xs) {b : Int × Int} (hb : b ∈ xs) : ∃ y ∈ mergeAsks xs, Within b y := by
  unfold mergeAsks
  refine mergeTo_cover (sortAsks_ok1 xs) _ (Nat.le_refl _) b ?_
  rw [List.take_length, sortAsks_ok h]
  exact (sortP_perm xs).mem_iff.2 hb
end Go.Proofs.Ytmkmobgmlhioaaa
