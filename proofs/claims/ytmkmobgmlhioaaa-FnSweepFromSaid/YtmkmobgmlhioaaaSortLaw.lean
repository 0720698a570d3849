/- Plain laws of the order of requests: there is one sorted list; putting one more in at its place. No program in sight. -/
import Derived.Test.YtmkmobgmlhioaaaSortI
namespace Go.Proofs.Ytmkmobgmlhioaaa
open Go.ChangeShapes Go.WideShapes Go.ChangeAt Go.RowKit
set_option linter.unusedVariables false
set_option linter.unusedSimpArgs false

def leR (a b : Int × Int) : Prop := ltP b a = false
theorem sortP_sorted (xs : List (Int × Int)) : (sortP xs).Pairwise leR := by
  have h := List.pairwise_mergeSort (le := fun x y => !ltP y x)
    (fun a b c h1 h2 => by
      simp only [Bool.not_eq_true'] at *
      exact swoP.ntrans c b a h2 h1)
    (fun a b => by
      cases h : ltP b a
      · simp
      · have : ltP a b = false := by rw [ltP_iff] at h; rw [ltP_no]; omega
        simp [this]) xs
  exact h.imp (by intro a b h; simpa [leR] using h)
theorem sorted_eq {xs ys : List (Int × Int)} (hp : ys.Perm xs) (hs : ys.Pairwise leR) : ys = sortP xs :=
  List.Perm.eq_of_pairwise (le := leR) (fun a b _ _ h1 h2 => totP a b h2 h1) hs (sortP_sorted xs) (hp.trans (sortP_perm xs).symm)
theorem sortP_same {xs ys : List (Int × Int)} (h : xs.Perm ys) : sortP xs = sortP ys :=
  sorted_eq ((sortP_perm xs).trans h) (sortP_sorted xs)
theorem sortP_twice (xs : List (Int × Int)) : sortP (sortP xs) = sortP xs := sortP_same (sortP_perm xs)
theorem getD_memP {xs : List (Int × Int)} {i : Nat} (h : i < xs.length) : xs.getD i (0, 0) ∈ xs := by
  rw [List.getD_eq_getElem?_getD, List.getElem?_eq_getElem h]; exact List.getElem_mem h
theorem mem_getDP {xs : List (Int × Int)} {v : Int × Int} : v ∈ xs ↔ ∃ i, i < xs.length ∧ xs.getD i (0, 0) = v := by
  constructor
  · intro h
    obtain ⟨i, hi, e⟩ := List.getElem_of_mem h
    exact ⟨i, hi, by rw [List.getD_eq_getElem?_getD, List.getElem?_eq_getElem hi]; exact e⟩
  · rintro ⟨i, hi, e⟩
    exact e ▸ getD_memP hi
theorem sorted_at {zs : List (Int × Int)} (h : zs.Pairwise leR) {i j : Nat} (hij : i ≤ j) (hj : j < zs.length) : ltP (zs.getD j (0, 0)) (zs.getD i (0, 0)) = false := by
  by_cases e : i = j
  · subst e; exact swoP.irrefl _
  · rw [List.pairwise_iff_getElem] at h
    have := h i j (by omega) hj (by omega)
    rw [List.getD_eq_getElem?_getD, List.getD_eq_getElem?_getD, List.getElem?_eq_getElem hj, List.getElem?_eq_getElem (show i < zs.length by omega)]
    exact this
theorem insert_sort {xs zs : List (Int × Int)} {x : Int × Int} {k : Nat} (hz : zs = sortP xs) (hk : k ≤ zs.length) (hlo : k = 0 ∨ ltP x (zs.getD (k - 1) (0, 0)) = false)
    (hhi : ∀ i, k ≤ i → i < zs.length → ltP x (zs.getD i (0, 0)) = true) : zs.take k ++ [x] ++ zs.drop k = sortP (xs ++ [x]) := by
  have hs : zs.Pairwise leR := by rw [hz]; exact sortP_sorted xs
  have hp : zs.Perm xs := by rw [hz]; exact sortP_perm xs
  have ha : ∀ a ∈ zs.take k, ltP x a = false := by
    intro a h
    obtain ⟨i, hi, e⟩ := List.getElem_of_mem h
    simp at hi
    rw [List.getElem_take] at e
    have e2 : zs.getD i (0, 0) = a := by rw [List.getD_eq_getElem?_getD, List.getElem?_eq_getElem (by omega)]; exact e
    rcases hlo with h0 | h1
    · omega
    · have := sorted_at hs (i := i) (j := k - 1) (by omega) (by omega)
      rw [e2] at this
      exact swoP.ntrans _ _ _ h1 this
  have hb : ∀ b ∈ zs.drop k, ltP b x = false := by
    intro b h
    obtain ⟨i, hi, e⟩ := List.getElem_of_mem h
    simp at hi
    rw [List.getElem_drop] at e
    have := hhi (k + i) (by omega) (by omega)
    rw [List.getD_eq_getElem?_getD, List.getElem?_eq_getElem (by omega)] at this
    simp only [Option.getD_some] at this
    rw [e] at this
    rw [ltP_iff] at this
    rw [ltP_no]; omega
  apply sorted_eq
  · have h1 : (zs.take k ++ [x] ++ zs.drop k).Perm (x :: zs) := by
      rw [List.append_assoc]
      have := List.perm_middle (a := x) (l₁ := zs.take k) (l₂ := zs.drop k)
      rw [List.take_append_drop] at this
      exact this
    refine h1.trans ((List.Perm.cons x hp).trans ?_)
    have := List.perm_append_comm (l₁ := [x]) (l₂ := xs)
    exact this
  · have hs' : (zs.take k ++ zs.drop k).Pairwise leR := by rw [List.take_append_drop]; exact hs
    rw [List.pairwise_append] at hs'
    obtain ⟨p1, p2, p3⟩ := hs'
    rw [List.append_assoc, List.pairwise_append]
    refine ⟨p1, ?_, fun a h1 b h2 => ?_⟩
    · show (x :: zs.drop k).Pairwise leR
      rw [List.pairwise_cons]
      exact ⟨fun b h => hb b h, p2⟩
    · have h2' : b = x ∨ b ∈ zs.drop k := by simpa using h2
      rcases h2' with rfl | h2'
      · exact ha a h1
      · exact p3 a h1 b h2'
theorem take_succP {ps : List (Int × Int)} {k : Nat} (h : k < ps.length) : ps.take (k + 1) = ps.take k ++ [ps.getD k (0, 0)] := by
  rw [List.take_succ_eq_append_getElem h, List.getD_eq_getElem?_getD, List.getElem?_eq_getElem h]; rfl
end Go.Proofs.Ytmkmobgmlhioaaa
