/- Plain: the library's insertion sort by used pages, from the blocks in their own order, ends in the order of used pages with the first of several first. No program in sight. -/
import Derived.Test.YtiojgofkilojmaaPaidLaw
import Derived.Sort.WalkA
namespace Go.Proofs.Ytiojgofkilojmaa
open Go.ChangeShapes Go.WideShapes Go.ChangeAt Go.RowKit Go.Sort Go.Proofs
set_option linter.unusedVariables false
set_option linter.unusedSimpArgs false

section
variable {α : Type} [Inhabited α]
theorem insInner_same {lt lt' : α → α → Bool} : ∀ (j : Nat) (d : Array α), j < d.size → (∀ k, k < j → lt d[j]! d[k]! = lt' d[j]! d[k]!) → insInner lt 0 j d = insInner lt' 0 j d
  | 0, d, _, _ => rfl
  | j + 1, d, hs, hk => by
    unfold insInner
    rw [hk j (by omega)]
    split
    · have g := swp_get d hs (show j < d.size by omega)
      refine insInner_same j (swp d (j + 1) j) (by rw [swp_size]; omega) (fun k hkj => ?_)
      rw [g, g]
      simp only [if_true, show k ≠ j by omega, show k ≠ j + 1 by omega, if_false]
      exact hk k (by omega)
    · rfl
theorem insInner_perm {lt : α → α → Bool} (a b : Nat) : ∀ (j : Nat) (d : Array α), a ≤ j → j < b → b ≤ d.size → PermIn a b d (insInner lt a j d)
  | 0, d, _, _, _ => by unfold insInner; exact permIn_refl d a b
  | j + 1, d, ha, hj, hb => by
    unfold insInner
    split
    · next hc =>
      simp only [Bool.and_eq_true, decide_eq_true_eq] at hc
      exact permIn_trans _ _ _ a b (swp_permIn d a b (j + 1) j ha (by omega) (by omega) (by omega) hb) (insInner_perm a b j (swp d (j + 1) j) (by omega) (by omega) (by rw [swp_size]; exact hb))
    · exact permIn_refl d a b
end
section
variable {m : Nat} (us : List Int)
def ltF (x y : Fin (m + 1)) : Bool := decide (us.getD x.val 0 < us.getD y.val 0)
def ltF' (x y : Fin (m + 1)) : Bool := decide (lexL us x.val y.val)
theorem ltF'_t (x y : Fin (m + 1)) : ltF' us x y = true ↔ (us.getD x.val 0 < us.getD y.val 0 ∨ us.getD x.val 0 = us.getD y.val 0 ∧ x.val < y.val) := by
  unfold ltF'; rw [decide_eq_true_iff]; exact Iff.rfl
theorem ltF'_f (x y : Fin (m + 1)) : ltF' us x y = false ↔ ¬ (us.getD x.val 0 < us.getD y.val 0 ∨ us.getD x.val 0 = us.getD y.val 0 ∧ x.val < y.val) := by
  rw [← ltF'_t, Bool.not_eq_true]
theorem ltF_same (x y : Fin (m + 1)) (h : y.val < x.val) : ltF us x y = ltF' us x y := by
  rw [Bool.eq_iff_iff, ltF'_t]
  unfold ltF
  rw [decide_eq_true_iff]
  omega
theorem swoF : SWO (ltF' (m := m) us) where
  irrefl x := by rw [ltF'_f]; omega
  trans x y z h1 h2 := by rw [ltF'_t] at *; omega
  ntrans x y z h1 h2 := by rw [ltF'_f] at *; omega
structure InvF (i : Nat) (d : Array (Fin (m + 1))) : Prop where
  size : d.size = m + 1
  rest : ∀ q, i ≤ q → q < m + 1 → (d[q]!).val = q
  low : ∀ k, k < i → (d[k]!).val < i
theorem insOuter_same : ∀ (n i : Nat) (d : Array (Fin (m + 1))), m + 1 - i = n → i ≤ m + 1 → InvF i d → insOuter (ltF us) 0 (m + 1) i d = insOuter (ltF' us) 0 (m + 1) i d
  | 0, i, d, hn, hi, h => by
    obtain rfl : i = m + 1 := by omega
    rw [insOuter_stop _ _ _ _ _ (by omega), insOuter_stop _ _ _ _ _ (by omega)]
  | n + 1, i, d, hn, hi, h => by
    have hlt : i < m + 1 := by omega
    rw [insOuter_go _ _ _ _ _ hlt, insOuter_go _ _ _ _ _ hlt]
    have e : insInner (ltF us) 0 i d = insInner (ltF' us) 0 i d := insInner_same i d (by rw [h.size]; exact hlt) (fun k hk => ltF_same us _ _ (by
      rw [h.rest i (Nat.le_refl _) hlt]; exact h.low k hk))
    rw [e]
    have hp := insInner_perm (lt := ltF' us) 0 (i + 1) i d (Nat.zero_le _) (by omega) (by rw [h.size]; omega)
    refine insOuter_same n (i + 1) _ (by omega) (by omega) ⟨by rw [hp.1]; exact h.size, fun q h1 h2 => ?_, fun k hk => ?_⟩
    · rw [hp.2.1 q (.inr h1)]
      exact h.rest q (by omega) h2
    · refine permIn_all d _ 0 (i + 1) (fun x => x.val < i + 1) (by rw [h.size]; omega) hp (fun q _ hq => ?_) k (Nat.zero_le _) hk
      by_cases e : q = i
      · subst e; show (d[q]!).val < q + 1; rw [h.rest q (Nat.le_refl _) hlt]; omega
      · have := h.low q (by omega)
        show (d[q]!).val < i + 1
        omega
/-- the blocks in their own order -/
def idF (m : Nat) : Array (Fin (m + 1)) := Array.ofFn fun i => i
theorem idF_size (m : Nat) : (idF m).size = m + 1 := by simp [idF]
theorem idF_get (m q : Nat) (h : q < m + 1) : ((idF m)[q]!).val = q := by
  rw [getElem!_pos (idF m) q (by rw [idF_size]; exact h)]
  simp [idF]
def sortF : Array (Fin (m + 1)) := insertionSort (ltF us) (idF m) 0 (m + 1)
theorem sortF_spec : PermIn 0 (m + 1) (idF m) (sortF (m := m) us) ∧ SortedIn (ltF' us) 0 (m + 1) (sortF (m := m) us) := by
  have e : sortF (m := m) us = insertionSort (ltF' us) (idF m) 0 (m + 1) := by
    unfold sortF insertionSort
    refine insOuter_same us _ 1 (idF m) rfl (by omega) ⟨idF_size m, fun q _ h => idF_get m q h, fun k hk => ?_⟩
    obtain rfl : k = 0 := by omega
    rw [idF_get m 0 (by omega)]
    omega
  rw [e]
  exact insertionSort_holds (swoF us) (idF m) 0 (m + 1) (Nat.zero_le _) (by rw [idF_size]; exact Nat.le_refl _)
theorem sortF_size : (sortF (m := m) us).size = m + 1 := by rw [(sortF_spec us).1.1, idF_size]
theorem sortF_list (hl : us.length = m + 1) : (sortF (m := m) us).toList.map Fin.val = ordL us := by
  obtain ⟨⟨h1, _, h3⟩, hs⟩ := sortF_spec (m := m) us
  have hsz := sortF_size (m := m) us
  refine ordL_unique ?_ ?_
  · rw [Array.extract_eq_self_of_le (by omega), Array.extract_eq_self_of_le (by rw [idF_size]; exact Nat.le_refl _)] at h3
    have h4 := h3.map Fin.val
    have e : (idF m).toList.map Fin.val = List.range us.length := by
      rw [hl]
      apply List.ext_getElem
      · simp [idF]
      · intro i h1 h2
        simp only [idF, List.getElem_map, Array.getElem_toList, Array.getElem_ofFn, List.getElem_range]
    rw [e] at h4
    exact h4
  · rw [List.pairwise_map, List.pairwise_iff_getElem]
    intro i j hi hj hij
    have := hs i j (Nat.zero_le _) hij (by rw [← hsz]; simpa using hj)
    rw [getElem!_pos _ i (by simpa using hi), getElem!_pos _ j (by simpa using hj)] at this
    rw [ltF'_f] at this
    simpa [leL, lexL] using this
end
end Go.Proofs.Ytiojgofkilojmaa
