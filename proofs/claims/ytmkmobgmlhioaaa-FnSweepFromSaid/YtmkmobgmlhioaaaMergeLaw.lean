/- Plain: requests merged one after the other. No program in sight. -/
import Derived.Test.YtmkmobgmlhioaaaSortLaw
namespace Go.Proofs.Ytmkmobgmlhioaaa
open Go.ChangeShapes Go.WideShapes Go.ChangeAt Go.RowKit
set_option linter.unusedVariables false
set_option linter.unusedSimpArgs false

def lastP (ys : List (Int × Int)) : Int × Int := ys.getD (ys.length - 1) (0, 0)
def Fits (ys : List (Int × Int)) (a : Int × Int) : Prop := 0 < ys.length ∧ (lastP ys).1 + (lastP ys).2 = a.1 ∧ (lastP ys).2 + a.2 ≤ 10
instance (ys : List (Int × Int)) (a : Int × Int) : Decidable (Fits ys a) := by unfold Fits; infer_instance
def mstep (ys : List (Int × Int)) (a : Int × Int) : List (Int × Int) :=
  if Fits ys a then ys.set (ys.length - 1) ((lastP ys).1, (lastP ys).2 + a.2) else ys ++ [a]
def mergeTo (ss : List (Int × Int)) (k : Nat) : List (Int × Int) := (ss.take k).foldl mstep []
theorem mergeTo_zero (ss : List (Int × Int)) : mergeTo ss 0 = [] := rfl
theorem mergeTo_succ {ss : List (Int × Int)} {k : Nat} (h : k < ss.length) : mergeTo ss (k + 1) = mstep (mergeTo ss k) (ss.getD k (0, 0)) := by
  unfold mergeTo
  rw [take_succP h, List.foldl_append]
  rfl
theorem mstep_fit {ys : List (Int × Int)} {a : Int × Int} (h : Fits ys a) : mstep ys a = ys.set (ys.length - 1) ((lastP ys).1, (lastP ys).2 + a.2) := by unfold mstep; rw [if_pos h]
theorem mstep_new {ys : List (Int × Int)} {a : Int × Int} (h : ¬ Fits ys a) : mstep ys a = ys ++ [a] := by unfold mstep; rw [if_neg h]
theorem mstep_len (ys : List (Int × Int)) (a : Int × Int) : (mstep ys a).length ≤ ys.length + 1 := by
  unfold mstep; split <;> simp
theorem mergeTo_len (ss : List (Int × Int)) : ∀ k, k ≤ ss.length → (mergeTo ss k).length ≤ k
  | 0, _ => by rw [mergeTo_zero]; simp
  | k + 1, h => by
    rw [mergeTo_succ (by omega)]
    have := mergeTo_len ss k (by omega)
    have := mstep_len (mergeTo ss k) (ss.getD k (0, 0))
    omega
def AllOk (ys : List (Int × Int)) : Prop := ∀ y ∈ ys, Ask1 y
theorem AllOk.last {ys : List (Int × Int)} (h : AllOk ys) (h0 : 0 < ys.length) : Ask1 (lastP ys) := h _ (getD_memP (by omega))
theorem mstep_ok {ys : List (Int × Int)} {a : Int × Int} (h : AllOk ys) (ha : Ask1 a) : AllOk (mstep ys a) := by
  intro y hy
  unfold mstep at hy
  split at hy
  · next hf =>
    have hl := h.last hf.1
    have hf2 := hf.2.2
    rcases List.mem_or_eq_of_mem_set hy with h1 | h1
    · exact h y h1
    · subst h1
      unfold Ask1 at *
      simp only
      omega
  · rcases List.mem_append.1 hy with h1 | h1
    · exact h y h1
    · simp at h1; subst h1; exact ha
theorem mergeTo_ok {ss : List (Int × Int)} (hs : AllOk ss) : ∀ k, k ≤ ss.length → AllOk (mergeTo ss k)
  | 0, _ => by rw [mergeTo_zero]; intro y hy; cases hy
  | k + 1, h => by
    rw [mergeTo_succ (by omega)]
    exact mstep_ok (mergeTo_ok hs k (by omega)) (hs _ (getD_memP (by omega)))
theorem sortAsks_ok1 (xs : List (Int × Int)) : AllOk (sortAsks xs) := by
  intro y hy
  unfold sortAsks at hy
  split at hy
  · next h =>
    obtain ⟨i, hi, e⟩ := mem_getDP.1 ((sortP_perm xs).mem_iff.1 hy)
    have := h.2 i hi
    rwa [e] at this
  · cases hy
noncomputable def mergeAsks (xs : List (Int × Int)) : List (Int × Int) := mergeTo (sortAsks xs) (sortAsks xs).length
theorem mergeAsks_len (xs) : (mergeAsks xs).length ≤ 12 := Nat.le_trans (mergeTo_len _ _ (Nat.le_refl _)) (sortAsks_len xs)
theorem flatP_set2 (xs : List (Int × Int)) (j : Nat) (v : Int) (h : j < xs.length) : (flatP xs).set (j * 2 + 1) (.int .i64 v) = flatP (xs.set j ((xs.getD j (0, 0)).1, v)) := by
  rw [← flatP_set xs j _ v h]
  congr 1
  have := (flatP_get xs j h).1
  apply List.ext_getElem?
  intro u
  by_cases e : j * 2 = u
  · subst e
    rw [List.getElem?_set_self (by rw [flatP_len]; omega), this]
  · rw [List.getElem?_set_ne e]
end Go.Proofs.Ytmkmobgmlhioaaa
