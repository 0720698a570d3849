/- Plain laws of moves: gathered pages lie in one piece; moves backwards lead back. No program in sight. -/
import Derived.Test.YtiodnicpecjagaaGather
import Derived.Test.YtiodnicpecjagaaApply
namespace Go.Proofs.Ytiodnicpecjagaa
open Go.ChangeShapes Go.WideShapes Go.ChangeAt Go.RowKit
set_option linter.unusedVariables false
set_option linter.unusedSimpArgs false

/-- the pages from tg on, n of them -/
def rowFrom (tg : Int) (n : Nat) : List Int := (List.range n).map fun (i : Nat) => tg + (i : Int)
theorem rowFrom_len (tg : Int) (n : Nat) : (rowFrom tg n).length = n := by simp [rowFrom]
theorem rowFrom_getD (tg : Int) (n i : Nat) (h : i < n) : (rowFrom tg n).getD i 0 = tg + (i : Int) := by
  simp [rowFrom, List.getD_eq_getElem?_getD, h]
/-- the pages after the first k are where they belong -/
def half (xs : List Int) (tg : Int) (k : Nat) : List Int := rowFrom tg k ++ xs.drop k
theorem half_len (xs : List Int) (tg : Int) (k : Nat) (h : k ≤ xs.length) : (half xs tg k).length = xs.length := by
  simp [half, rowFrom_len]; omega
theorem half_lo {xs : List Int} {tg : Int} {k i : Nat} (h : i < k) : (half xs tg k).getD i 0 = tg + (i : Int) := by
  rw [List.getD_eq_getElem?_getD]
  unfold half
  rw [List.getElem?_append_left (by rw [rowFrom_len]; exact h), ← List.getD_eq_getElem?_getD, rowFrom_getD _ _ _ h]
theorem half_hi {xs : List Int} {tg : Int} {k i : Nat} (h : k ≤ i) : (half xs tg k).getD i 0 = xs.getD i 0 := by
  rw [List.getD_eq_getElem?_getD]
  unfold half
  rw [List.getElem?_append_right (by rw [rowFrom_len]; exact h), rowFrom_len, List.getElem?_drop, List.getD_eq_getElem?_getD]
  congr 2
  omega
theorem half_zero (xs : List Int) (tg : Int) : half xs tg 0 = xs := by simp [half, rowFrom]
theorem half_dis {xs : List Int} {tg : Int} (h : GOk xs tg) {k : Nat} (hk : k ≤ xs.length) : Dis (half xs tg k) := by
  intro i j hj hi
  rw [half_len _ _ _ hk] at hi
  by_cases h1 : i < k
  · rw [half_lo (i := i) h1, half_lo (i := j) (by omega)]; omega
  · rw [half_hi (i := i) (by omega)]
    by_cases h2 : j < k
    · rw [half_lo (i := j) h2]
      exact fun e => h.2.2.2.2 j (by omega) i hi (by omega) e.symm
    · rw [half_hi (i := j) (by omega)]
      exact h.1.dis i j hj hi
theorem half_succ {xs : List Int} {tg : Int} {k : Nat} (hk : k < xs.length) : (half xs tg k).set k (tg + (k : Int)) = half xs tg (k + 1) := by
  apply ext_getD
  · rw [List.length_set, half_len _ _ _ (by omega), half_len _ _ _ (by omega)]
  · intro i hi
    rw [List.length_set, half_len _ _ _ (by omega)] at hi
    by_cases e : k = i
    · subst e
      rw [getD_set_eq _ _ _ (by rw [half_len _ _ _ (by omega)]; exact hi), half_lo (by omega)]
    · rw [getD_set_ne _ _ _ _ e]
      by_cases h1 : i < k
      · rw [half_lo h1, half_lo (by omega)]
      · rw [half_hi (by omega), half_hi (by omega)]
theorem gather_steps {xs : List Int} {tg : Int} (h : GOk xs tg) : ∀ k, k ≤ xs.length → stepsTo xs (gsteps xs tg k) = some (half xs tg k)
  | 0, _ => by rw [gsteps_zero, half_zero]; rfl
  | k + 1, hk => by
    have ih := gather_steps h k (by omega)
    by_cases e : xs.getD k 0 = tg + (k : Int)
    · rw [gsteps_same e, ih]
      congr 1
      rw [← half_succ (by omega)]
      apply ext_getD (by simp)
      intro i hi
      rw [half_len _ _ _ (by omega)] at hi
      by_cases e1 : k = i
      · subst e1
        rw [getD_set_eq _ _ _ (by rw [half_len _ _ _ (by omega)]; exact hi), half_hi (Nat.le_refl _), e]
      · rw [getD_set_ne _ _ _ _ e1]
    · rw [gsteps_new e, stepsTo_append, ih]
      show stepsTo (half xs tg k) [(xs.getD k 0, tg + (k : Int))] = _
      have hl := half_len xs tg k (by omega)
      have hd := half_dis h (k := k) (by omega)
      have hk0 : (half xs tg k).getD k 0 = xs.getD k 0 := half_hi (Nat.le_refl _)
      have h24 := h.1.1
      have hb := h.2.1
      have hb2 := h.2.2.2.1
      have h1 : stepOne (half xs tg k) (xs.getD k 0, tg + (k : Int)) = some (repl (xs.getD k 0) (tg + (k : Int)) (half xs tg k)) := by
        refine stepOne_ok ⟨mem_getD.2 ⟨k, by omega, hk0⟩, fun hm => ?_, ?_, ?_⟩
        · obtain ⟨i, hi, ei⟩ := mem_getD.1 hm
          simp only at ei
          rw [hl] at hi
          by_cases h1 : i < k
          · rw [half_lo h1] at ei; omega
          · rw [half_hi (by omega)] at ei
            by_cases h2 : i = k
            · subst h2; exact e ei
            · exact h.2.2.2.2 k (by omega) i hi h2 ei
        · simp only; omega
        · simp only; omega
      show (stepOne (half xs tg k) (xs.getD k 0, tg + (k : Int))) = _
      rw [h1, ← repl_set hd (by omega) hk0, half_succ (by omega)]
theorem half_all (xs : List Int) (tg : Int) : half xs tg xs.length = rowFrom tg xs.length := by simp [half]
theorem gather_applied {xs : List Int} {tg : Int} (h : GOk xs tg) : applySteps xs (gatherSteps xs tg) = rowFrom tg xs.length ∧ AOk xs (gatherSteps xs tg) := by
  have h1 := gather_steps h xs.length (Nat.le_refl _)
  rw [half_all] at h1
  rw [gather_ok h]
  exact ⟨apply_ok h.1 h1, aok_some h.1 h1⟩
theorem gather_fewer (xs : List Int) (tg : Int) : (gatherSteps xs tg).length ≤ xs.length := by
  unfold gatherSteps
  split
  · exact gsteps_le _ _ _
  · simp
theorem rowFrom_ok {xs : List Int} {tg : Int} (h : GOk xs tg) : PlacesOk (rowFrom tg xs.length) := by
  have h24 := h.1.1
  have hb := h.2.1
  have hb2 := h.2.2.2.1
  refine ⟨by rw [rowFrom_len]; exact h24, fun i hi => ?_, fun i j hj hi => ?_⟩
  · rw [rowFrom_len] at hi
    rw [rowFrom_getD _ _ _ hi]
    omega
  · rw [rowFrom_len] at hi
    rw [rowFrom_getD _ _ _ hi, rowFrom_getD _ _ _ (by omega)]
    omega
theorem rowFrom_frag {tg : Int} {n : Nat} : ∀ k, k ≤ n → frag (rowFrom tg n) k ≤ 1
  | 0, _ => by simp [frag]
  | k + 1, hk => by
    have ih := rowFrom_frag (tg := tg) (n := n) k (by omega)
    by_cases h0 : k = 0
    · subst h0
      rw [frag_new _ _ (.inl rfl)]
      simp [frag]
    · rw [frag_old _ _ h0 (by rw [rowFrom_getD _ _ _ (by omega), rowFrom_getD _ _ _ (by omega)]; omega)]
      exact ih
theorem rowFrom_count {xs : List Int} {tg : Int} (h : GOk xs tg) : 0 ≤ fragCount (rowFrom tg xs.length) ∧ fragCount (rowFrom tg xs.length) ≤ 1 := by
  rw [fragCount_ok (rowFrom_ok h), rowFrom_len]
  have := rowFrom_frag (tg := tg) (n := xs.length) xs.length (Nat.le_refl _)
  omega

/-! ### moves backwards -/
def swapP (p : Int × Int) : Int × Int := (p.2, p.1)
theorem placesOk_iff {xs : List Int} : PlacesOk xs ↔ xs.length ≤ 24 ∧ (∀ x ∈ xs, 0 ≤ x ∧ x ≤ 23) ∧ Dis xs := by
  constructor
  · rintro ⟨h1, h2, h3⟩
    refine ⟨h1, fun x hx => ?_, h3⟩
    obtain ⟨i, hi, e⟩ := mem_getD.1 hx
    have := h2 i hi
    rwa [e] at this
  · rintro ⟨h1, h2, h3⟩
    exact ⟨h1, fun i hi => h2 _ (mem_getD.2 ⟨i, hi, rfl⟩), h3⟩
theorem repl_mem {f t : Int} {xs : List Int} {x : Int} (h : x ∈ repl f t xs) : x = t ∧ f ∈ xs ∨ x ∈ xs ∧ x ≠ f := by
  unfold repl at h
  obtain ⟨y, hy, e⟩ := List.mem_map.1 h
  split at e
  · next h1 => exact .inl ⟨e.symm, h1 ▸ hy⟩
  · next h1 => exact .inr ⟨e ▸ hy, e ▸ h1⟩
theorem repl_back {f t : Int} {xs : List Int} (h : t ∉ xs) : repl t f (repl f t xs) = xs := by
  unfold repl
  rw [List.map_map]
  conv => rhs; rw [← List.map_id xs]
  apply List.map_congr_left
  intro x hx
  simp only [Function.comp, id]
  have hxt : x ≠ t := fun e => h (e ▸ hx)
  split
  · next e => rw [if_pos rfl, e]
  · next e => first | rfl | rw [if_neg hxt]
theorem stepOne_some {xs ys : List Int} {p : Int × Int} (h : stepOne xs p = some ys) : (p.1 ∈ xs ∧ p.2 ∉ xs ∧ 0 ≤ p.2 ∧ p.2 ≤ 23) ∧ ys = repl p.1 p.2 xs := by
  unfold stepOne at h
  split at h
  · next h1 => injection h with h; exact ⟨h1, h.symm⟩
  · cases h
theorem stepOne_back {xs ys : List Int} {p : Int × Int} (ho : PlacesOk xs) (h : stepOne xs p = some ys) : PlacesOk ys ∧ stepOne ys (swapP p) = some xs := by
  obtain ⟨⟨h1, h2, h3, h4⟩, rfl⟩ := stepOne_some h
  rw [placesOk_iff] at ho ⊢
  obtain ⟨o1, o2, o3⟩ := ho
  refine ⟨⟨by rw [repl_len]; exact o1, fun x hx => ?_, repl_dis o3 (fun j hj e => h2 (mem_getD.2 ⟨j, hj, e⟩))⟩, ?_⟩
  · rcases repl_mem hx with ⟨rfl, _⟩ | ⟨hx, _⟩
    · exact ⟨h3, h4⟩
    · exact o2 x hx
  · have hb := o2 _ h1
    rw [stepOne_ok (p := swapP p) ⟨?_, ?_, hb.1, hb.2⟩]
    · exact congrArg some (repl_back h2)
    · exact List.mem_map.2 ⟨p.1, h1, if_pos rfl⟩
    · intro hm
      rcases repl_mem hm with ⟨e, _⟩ | ⟨_, e⟩
      · exact h2 (e ▸ h1)
      · exact e rfl
theorem stepsTo_cons (xs : List Int) (p : Int × Int) (ps : List (Int × Int)) : stepsTo xs (p :: ps) = (stepOne xs p).bind fun ys => stepsTo ys ps := by
  have := stepsTo_append xs [p] ps
  rw [List.singleton_append] at this
  exact this
theorem steps_back : ∀ {ps : List (Int × Int)} {xs ys : List Int}, PlacesOk xs → stepsTo xs ps = some ys → PlacesOk ys ∧ stepsTo ys (ps.reverse.map swapP) = some xs
  | [], xs, ys, ho, h => by injection h with h; subst h; exact ⟨ho, rfl⟩
  | p :: ps, xs, ys, ho, h => by
    rw [stepsTo_cons] at h
    cases h1 : stepOne xs p with
    | none => rw [h1] at h; cases h
    | some zs =>
      rw [h1] at h
      obtain ⟨o1, b1⟩ := stepOne_back ho h1
      obtain ⟨o2, b2⟩ := steps_back (ps := ps) o1 h
      refine ⟨o2, ?_⟩
      rw [List.reverse_cons, List.map_append, stepsTo_append, b2]
      show stepsTo zs [swapP p] = _
      rw [stepsTo_cons, b1]
      rfl
theorem apply_back {xs : List Int} {ps : List (Int × Int)} (h : AOk xs ps) : PlacesOk (applySteps xs ps) ∧ (applySteps xs ps).length = xs.length ∧ AOk (applySteps xs ps) (ps.reverse.map swapP) ∧ applySteps (applySteps xs ps) (ps.reverse.map swapP) = xs := by
  obtain ⟨h1, h2⟩ := h
  obtain ⟨ys, hy⟩ := Option.isSome_iff_exists.1 h2
  obtain ⟨o, b⟩ := steps_back h1 hy
  rw [apply_ok h1 hy]
  exact ⟨o, stepsTo_len hy, aok_some o b, apply_ok o b⟩
end Go.Proofs.Ytiodnicpecjagaa
