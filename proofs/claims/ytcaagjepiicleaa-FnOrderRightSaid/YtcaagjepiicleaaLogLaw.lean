/- Plain laws of logs: beginnings, an entry put ahead, epochs, orders and cuts. No program in sight. -/
import Derived.Test.YtcaagjepiicleaaLog
import Derived.Test.YtcaagjepiicleaaCutI
namespace Go.Proofs.Ytcaagjepiicleaa
open Go.ChangeShapes Go.WideShapes Go.ChangeAt Go.RowKit
set_option linter.unusedVariables false
set_option linter.unusedSimpArgs false

theorem logOk_neg (xs : List Int) : ¬ LogOk ([-1] ++ xs) := by
  intro h
  have := h.2.1 0 (by simp)
  simp at this
theorem LogOk.take {xs : List Int} (h : LogOk xs) {i : Nat} (hi : i ≤ xs.length) : LogOk (xs.take i) := by
  have hl : (xs.take i).length = i := by simp; omega
  have h16 := h.1
  refine ⟨by omega, fun j hj => ?_, fun j k hk hj => ?_⟩
  · rw [take_getD (by omega)]
    exact h.2.1 j (by omega)
  · rw [take_getD (by omega), take_getD (by omega)]
    exact h.2.2 j k hk (by omega)
theorem logOk_nil : LogOk [] := ⟨by decide, LogPre.zero _⟩
theorem fidx_mem : ∀ {xs : List Int} {v : Int}, v ∈ xs → fidx xs v < xs.length
  | [], v, h => by cases h
  | x :: xs, v, h => by
    unfold fidx
    by_cases e : x = v
    · rw [if_pos e]; simp
    · rw [if_neg e]
      have hm : v ∈ xs := by
        rcases List.mem_cons.1 h with h | h
        · exact absurd h.symm e
        · exact h
      have := fidx_mem hm
      simp; omega
theorem zeros_cons (xs : List Int) (k : Nat) : zeros ([0] ++ xs) (k + 1) = zeros xs k + 1 := by
  unfold zeros
  simp
theorem epoch_lt {xs : List Int} {v : Int} (h : 0 ≤ epochOf xs v) : epochOf xs v < xs.length := by
  have h1 := epoch_ge.1 h
  have h2 := fidx_mem h1.2.2
  have h3 := zeros_le xs (fidx xs v)
  unfold epochOf
  rw [if_pos h1]
  omega
theorem epoch_more {xs : List Int} {v : Int} (h : 0 ≤ epochOf xs v) (hm : LogOk ([0] ++ xs)) : epochOf ([0] ++ xs) v = epochOf xs v + 1 := by
  have h1 := epoch_ge.1 h
  have h2 : v ∈ [0] ++ xs := by simp [h1.2.2]
  have e : fidx ([0] ++ xs) v = fidx xs v + 1 := by
    show fidx (0 :: xs) v = _
    unfold fidx
    rw [if_neg (fun e => h1.2.1 e.symm)]
    cases xs <;> rfl
  unfold epochOf
  rw [if_pos ⟨hm, h1.2.1, h2⟩, if_pos h1, e, zeros_cons]
  rfl
theorem epoch_m1 {xs : List Int} {v : Int} (h : epochOf xs v < 0) : epochOf xs v = -1 := by
  have := epoch_range xs v; omega
theorem OnceTo.take {log ls : List Int} {k : Nat} (h : OnceTo log ls ls.length) (hk : k ≤ ls.length) : OnceTo log (ls.take k) (ls.take k).length := by
  have hl : (ls.take k).length = k := by simp; omega
  rw [hl]
  refine ⟨fun i hi => ?_, fun i j hj hi => ?_⟩
  · rw [take_getD hi]; exact h.1 i (by omega)
  · rw [take_getD hi, take_getD (by omega)]; exact h.2 i j hj (by omega)
theorem once_iff {log ls : List Int} : Once log ls ↔ LogOk log ∧ (∀ x ∈ ls, 0 ≤ epochOf log x) ∧ ls.Nodup := by
  constructor
  · rintro ⟨h1, h2, h3⟩
    refine ⟨h1, fun x hx => ?_, nodup_of h3⟩
    obtain ⟨i, hi, e⟩ := mem_getD.1 hx
    have := h2 i hi
    rwa [e] at this
  · rintro ⟨h1, h2, h3⟩
    refine ⟨h1, fun i hi => h2 _ (mem_getD.2 ⟨i, hi, rfl⟩), fun i j hj hi => ?_⟩
    unfold List.Nodup at h3
    rw [List.pairwise_iff_getElem] at h3
    rw [getD_getElem hi, getD_getElem (by omega)]
    exact h3 j i (by omega) hi hj
theorem cut_iff {log ys : List Int} : CutOk log ys ↔ Once log ys ∧ ∀ x ∈ ys, Cov log ys (epochOf log x) log.length := by
  unfold CutOk
  constructor
  · rintro ⟨h1, h2⟩
    refine ⟨h1, fun x hx => ?_⟩
    obtain ⟨i, hi, e⟩ := mem_getD.1 hx
    have := h2 i hi
    rwa [e] at this
  · rintro ⟨h1, h2⟩
    exact ⟨h1, fun i hi => h2 _ (mem_getD.2 ⟨i, hi, rfl⟩)⟩
theorem nodup_rev {ys : List Int} : ys.reverse.Nodup ↔ ys.Nodup := by
  unfold List.Nodup
  rw [List.pairwise_reverse]
  exact ⟨fun h => h.imp fun h e => h e.symm, fun h => h.imp fun h e => h e.symm⟩
theorem cut_rev {log ys : List Int} : CutOk log ys.reverse ↔ CutOk log ys := by
  rw [cut_iff, cut_iff, once_iff, once_iff]
  unfold Cov
  simp only [List.mem_reverse, nodup_rev]
theorem cut_nil {log : List Int} : CutOk log [] ↔ LogOk log := by
  rw [cut_iff, once_iff]
  constructor
  · intro h; exact h.1.1
  · intro h; exact ⟨⟨h, by simp, List.nodup_nil⟩, by simp⟩
theorem upTo_mono {log ord : List Int} (h : UpTo log ord ord.length) {i j : Nat} (hij : i ≤ j) (hj : j < ord.length) : epochOf log (ord.getD i 0) ≤ epochOf log (ord.getD j 0) := by
  induction j with
  | zero => have : i = 0 := by omega
            subst this; exact Int.le_refl _
  | succ j ih =>
    by_cases e : i = j + 1
    · subst e; exact Int.le_refl _
    · have h1 := ih (by omega) (by omega)
      have h2 := h (j + 1) (by omega) hj
      simp only [Nat.add_sub_cancel] at h2
      omega
theorem ord_cut {log ord : List Int} (h : OrdOk log ord) {k : Nat} (hk : k ≤ ord.length) : CutOk log (ord.take k) := by
  obtain ⟨h1, h2, h3⟩ := h
  refine ⟨⟨h1.1, h1.2.take hk⟩, fun i hi j hj h0 hlt => ?_⟩
  have hl : (ord.take k).length = k := by simp; omega
  rw [hl] at hi
  rw [take_getD hi] at hlt
  obtain ⟨t, ht, et⟩ := mem_getD.1 (h2 j hj h0)
  by_cases htk : t < k
  · rw [mem_take_getD hk]; exact ⟨t, htk, et⟩
  · have := upTo_mono h3 (i := i) (j := t) (by omega) ht
    rw [et] at this
    omega
theorem bof_congr {p q : Prop} (h : p ↔ q) : bof p = bof q := by rw [propext h]
end Go.Proofs.Ytcaagjepiicleaa
