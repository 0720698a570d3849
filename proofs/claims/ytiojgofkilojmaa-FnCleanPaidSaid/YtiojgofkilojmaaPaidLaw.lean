/- Plain: the order of blocks by used pages, the first of several first; how far a credit goes. No program in sight. -/
import Derived.Test.YtiojgofkilojmaaList
import Derived.Sort.LotA
namespace Go.Proofs.Ytiojgofkilojmaa
open Go.ChangeShapes Go.WideShapes Go.ChangeAt Go.RowKit
set_option linter.unusedVariables false
set_option linter.unusedSimpArgs false

def lexL (us : List Int) (i j : Nat) : Prop := us.getD i 0 < us.getD j 0 ∨ us.getD i 0 = us.getD j 0 ∧ i < j
instance (us : List Int) (i j : Nat) : Decidable (lexL us i j) := by unfold lexL; infer_instance
def leL (us : List Int) (i j : Nat) : Prop := ¬ lexL us j i
theorem leL_trans (us : List Int) {i j k : Nat} (h1 : leL us i j) (h2 : leL us j k) : leL us i k := by unfold leL lexL at *; omega
theorem leL_total (us : List Int) (i j : Nat) : leL us i j ∨ leL us j i := by unfold leL lexL; omega
theorem leL_anti (us : List Int) {i j : Nat} (h1 : leL us i j) (h2 : leL us j i) : i = j := by unfold leL lexL at *; omega
theorem leL_lt (us : List Int) {i j : Nat} (h1 : leL us i j) (h2 : i ≠ j) : lexL us i j := by unfold leL lexL at *; omega
/-- the blocks in the order in which they are cleaned -/
def ordL (us : List Int) : List Nat := (List.range us.length).mergeSort fun i j => !decide (lexL us j i)
theorem ordL_perm (us : List Int) : (ordL us).Perm (List.range us.length) := List.mergeSort_perm _ _
theorem ordL_len (us : List Int) : (ordL us).length = us.length := by rw [(ordL_perm us).length_eq, List.length_range]
theorem ordL_mem {us : List Int} {i : Nat} : i ∈ ordL us ↔ i < us.length := by rw [(ordL_perm us).mem_iff, List.mem_range]
theorem ordL_sorted (us : List Int) : (ordL us).Pairwise (leL us) := by
  have h := List.pairwise_mergeSort (le := fun i j => !decide (lexL us j i))
    (fun a b c h1 h2 => by
      simp only [Bool.not_eq_true', decide_eq_false_iff_not] at *
      exact leL_trans us (i := a) (j := b) (k := c) h1 h2)
    (fun a b => by
      rcases leL_total us a b with h | h
      · have h' : ¬ lexL us b a := h
        simp [h']
      · have h' : ¬ lexL us a b := h
        simp [h']) (List.range us.length)
  exact h.imp (by intro a b h; simpa [leL] using h)
theorem ordL_unique {us : List Int} {l : List Nat} (hp : l.Perm (List.range us.length)) (hs : l.Pairwise (leL us)) : l = ordL us :=
  List.Perm.eq_of_pairwise (le := leL us) (fun a b _ _ h1 h2 => leL_anti us h1 h2) hs (ordL_sorted us) (hp.trans (ordL_perm us).symm)
theorem ordL_nodup (us : List Int) : (ordL us).Nodup := (ordL_perm us).symm.nodup List.nodup_range
theorem getD_ordL {us : List Int} {t : Nat} (h : t < us.length) : (ordL us).getD t 0 = (ordL us)[t]'(by rw [ordL_len]; exact h) := by
  rw [List.getD_eq_getElem?_getD, List.getElem?_eq_getElem (by rw [ordL_len]; exact h)]; rfl
theorem ordL_in {us : List Int} {t : Nat} (h : t < us.length) : (ordL us).getD t 0 < us.length := by
  rw [getD_ordL h, ← ordL_mem]; exact List.getElem_mem _
theorem ordL_ne {us : List Int} {s t : Nat} (hs : s < us.length) (ht : t < us.length) (h : s ≠ t) : (ordL us).getD s 0 ≠ (ordL us).getD t 0 := by
  rw [getD_ordL hs, getD_ordL ht]
  intro e
  have hn := ordL_nodup us
  exact h ((List.getElem_inj hn).1 e)
theorem ordL_lt {us : List Int} {s t : Nat} (hst : s < t) (ht : t < us.length) : lexL us ((ordL us).getD s 0) ((ordL us).getD t 0) := by
  refine leL_lt us ?_ (ordL_ne (by omega) ht (by omega))
  have h := ordL_sorted us
  rw [List.pairwise_iff_getElem] at h
  rw [getD_ordL (by omega : s < us.length), getD_ordL ht]
  exact h s t (by rw [ordL_len]; omega) (by rw [ordL_len]; exact ht) hst
theorem ordL_find {us : List Int} {i : Nat} (h : i < us.length) : ∃ t, t < us.length ∧ (ordL us).getD t 0 = i := by
  obtain ⟨t, ht, e⟩ := List.getElem_of_mem (ordL_mem.2 h)
  rw [ordL_len] at ht
  exact ⟨t, ht, by rw [getD_ordL ht]; exact e⟩
/-- is i among the first t -/
def inTo (us : List Int) (t : Nat) (i : Nat) : Prop := ∃ s, s < t ∧ (ordL us).getD s 0 = i

/-- the used pages of the one that comes at t -/
def costAt (us : List Int) (t : Nat) : Int := us.getD ((ordL us).getD t 0) 0
def creditAt (us : List Int) (c : Int) : Nat → Int
  | 0 => c
  | t + 1 => creditAt us c t - costAt us t
def CanPay (us : List Int) (c : Int) (t : Nat) : Prop := t < us.length ∧ costAt us t ≤ creditAt us c t
instance (us : List Int) (c : Int) (t : Nat) : Decidable (CanPay us c t) := by unfold CanPay; infer_instance
def stopFrom (us : List Int) (c : Int) : Nat → Nat → Nat
  | 0, t => t
  | f + 1, t => if CanPay us c t then stopFrom us c f (t + 1) else t
def stopT (us : List Int) (c : Int) : Nat := stopFrom us c us.length 0
theorem stopFrom_eq {us : List Int} {c : Int} {t : Nat} (hs : ¬ CanPay us c t) (ht : t ≤ us.length) : ∀ f k, f + k = us.length → k ≤ t → (∀ s, k ≤ s → s < t → CanPay us c s) → stopFrom us c f k = t
  | 0, k, hf, hk, _ => by unfold stopFrom; omega
  | f + 1, k, hf, hk, h => by
    unfold stopFrom
    by_cases e : k = t
    · subst e; rw [if_neg hs]
    · rw [if_pos (h k (Nat.le_refl _) (by omega))]
      exact stopFrom_eq hs ht f (k + 1) (by omega) (by omega) (fun s h1 h2 => h s (by omega) h2)
theorem canTo_le {us : List Int} {c : Int} {t : Nat} (h : ∀ s, s < t → CanPay us c s) : t ≤ us.length := by
  rcases t with _ | t
  · omega
  · have := (h t (by omega)).1; omega
theorem stopT_eq {us : List Int} {c : Int} {t : Nat} (h : ∀ s, s < t → CanPay us c s) (hs : ¬ CanPay us c t) : stopT us c = t :=
  stopFrom_eq hs (canTo_le h) us.length 0 (by omega) (by omega) (fun s _ h2 => h s h2)
theorem stopT_spec (us : List Int) (c : Int) : (∀ s, s < stopT us c → CanPay us c s) ∧ ¬ CanPay us c (stopT us c) := by
  have key : ∀ f k, f + k = us.length → (∀ s, s < k → CanPay us c s) → (∀ s, s < stopFrom us c f k → CanPay us c s) ∧ ¬ CanPay us c (stopFrom us c f k) := by
    intro f
    induction f with
    | zero =>
      intro k hf h
      unfold stopFrom
      exact ⟨h, fun h' => by have := h'.1; omega⟩
    | succ f ih =>
      intro k hf h
      unfold stopFrom
      by_cases hc : CanPay us c k
      · rw [if_pos hc]
        refine ih (k + 1) (by omega) (fun s hs => ?_)
        by_cases e : s = k
        · subst e; exact hc
        · exact h s (by omega)
      · rw [if_neg hc]; exact ⟨h, hc⟩
  exact key us.length 0 (by omega) (fun s h => absurd h (Nat.not_lt_zero _))
theorem stopT_le (us : List Int) (c : Int) : stopT us c ≤ us.length := canTo_le (stopT_spec us c).1

def UsedOk (us : List Int) : Prop := us.length ≤ 12 ∧ ∀ i, i < us.length → 0 ≤ us.getD i 0 ∧ us.getD i 0 ≤ 4
def PaidOk (us : List Int) (c : Int) : Prop := UsedOk us ∧ 0 ≤ c ∧ c ≤ 100
/-- the blocks that are cleaned, as integers -/
def takeI (us : List Int) (t : Nat) : List Int := ((ordL us).take t).map fun (i : Nat) => (i : Int)
theorem takeI_zero (us : List Int) : takeI us 0 = [] := by simp [takeI]
theorem takeI_len {us : List Int} {t : Nat} (h : t ≤ us.length) : (takeI us t).length = t := by simp [takeI, ordL_len]; omega
theorem takeI_succ {us : List Int} {t : Nat} (h : t < us.length) : takeI us (t + 1) = takeI us t ++ [(((ordL us).getD t 0 : Nat) : Int)] := by
  unfold takeI
  rw [List.take_succ_eq_append_getElem (by rw [ordL_len]; exact h), List.map_append, getD_ordL h]
  rfl
theorem takeI_getD {us : List Int} {t s : Nat} (h : t ≤ us.length) (hs : s < t) : (takeI us t).getD s 0 = (((ordL us).getD s 0 : Nat) : Int) := by
  unfold takeI
  rw [List.getD_eq_getElem?_getD, List.getElem?_map, List.getElem?_take_of_lt hs, List.getElem?_eq_getElem (by rw [ordL_len]; omega), getD_ordL (by omega)]
  rfl
open Classical in
noncomputable def cleanPaid (us : List Int) (c : Int) : List Int := if PaidOk us c then takeI us (stopT us c) else []
open Classical in
noncomputable def paidLeft (us : List Int) (c : Int) : Int := if PaidOk us c then creditAt us c (stopT us c) else -1
theorem paid_no {us c} (h : ¬ PaidOk us c) : cleanPaid us c = [] ∧ paidLeft us c = -1 := by unfold cleanPaid paidLeft; rw [if_neg h, if_neg h]; exact ⟨rfl, rfl⟩
theorem paid_at {us : List Int} {c : Int} {t : Nat} (h : PaidOk us c) (ht : ∀ s, s < t → CanPay us c s) (hs : ¬ CanPay us c t) : cleanPaid us c = takeI us t ∧ paidLeft us c = creditAt us c t := by
  unfold cleanPaid paidLeft
  rw [if_pos h, if_pos h, stopT_eq ht hs]
  exact ⟨rfl, rfl⟩
theorem cleanPaid_len (us c) : (cleanPaid us c).length ≤ 12 := by
  unfold cleanPaid
  split
  · next h =>
    rw [takeI_len (stopT_le us c)]
    have := stopT_le us c
    have := h.1.1
    omega
  · simp
theorem costAt_range {us : List Int} (h : UsedOk us) {t : Nat} (ht : t < us.length) : 0 ≤ costAt us t ∧ costAt us t ≤ 4 := h.2 _ (ordL_in ht)
theorem creditAt_range {us : List Int} {c : Int} (h : PaidOk us c) : ∀ {t : Nat}, (∀ s, s < t → CanPay us c s) → 0 ≤ creditAt us c t ∧ creditAt us c t ≤ 100
  | 0, _ => ⟨h.2.1, h.2.2⟩
  | t + 1, hc => by
    have h1 := creditAt_range h (t := t) (fun s hs => hc s (by omega))
    have h2 := hc t (by omega)
    have h3 := costAt_range h.1 h2.1
    have h4 := h2.2
    show 0 ≤ creditAt us c t - costAt us t ∧ creditAt us c t - costAt us t ≤ 100
    omega
theorem inTo_succ {us : List Int} {t i : Nat} : inTo us (t + 1) i ↔ inTo us t i ∨ i = (ordL us).getD t 0 := by
  constructor
  · rintro ⟨s, hs, e⟩
    by_cases h : s = t
    · subst h; exact .inr e.symm
    · exact .inl ⟨s, by omega, e⟩
  · rintro (⟨s, hs, e⟩ | h)
    · exact ⟨s, by omega, e⟩
    · exact ⟨t, by omega, h.symm⟩
theorem inTo_zero {us : List Int} {i : Nat} : ¬ inTo us 0 i := fun ⟨s, hs, _⟩ => absurd hs (Nat.not_lt_zero _)
theorem inTo_not {us : List Int} {t s : Nat} (hts : t ≤ s) (hs : s < us.length) : ¬ inTo us t ((ordL us).getD s 0) := by
  rintro ⟨r, hr, e⟩
  exact ordL_ne (by omega) hs (by omega) e
theorem inTo_all {us : List Int} {i : Nat} (h : i < us.length) : inTo us us.length i := by
  obtain ⟨t, ht, e⟩ := ordL_find h
  exact ⟨t, ht, e⟩
theorem best_is {us : List Int} {t b : Nat} (ht : t < us.length) (hb : b < us.length) (hn : ¬ inTo us t b) (hmin : ∀ i, i < us.length → ¬ inTo us t i → leL us b i) : b = (ordL us).getD t 0 := by
  obtain ⟨s, hs, e⟩ := ordL_find hb
  by_cases h1 : s < t
  · exact absurd ⟨s, h1, e⟩ hn
  · by_cases h2 : s = t
    · subst h2; exact e.symm
    · have h3 := ordL_lt (us := us) (s := t) (t := s) (by omega) hs
      have h4 := hmin _ (ordL_in ht) (inTo_not (Nat.le_refl t) ht)
      rw [e] at h3
      exact absurd h3 h4
/-- what is paid and what is left make the credit -/
def paidSum (us : List Int) : Nat → Int
  | 0 => 0
  | t + 1 => paidSum us t + costAt us t
theorem credit_sum (us : List Int) (c : Int) : ∀ t, creditAt us c t + paidSum us t = c
  | 0 => by show c + 0 = c; omega
  | t + 1 => by
    have := credit_sum us c t
    show creditAt us c t - costAt us t + (paidSum us t + costAt us t) = c
    omega
theorem paid_rest {us : List Int} {c : Int} (h : PaidOk us c) {i : Nat} (hi : i < us.length) (hn : ¬ inTo us (stopT us c) i) : creditAt us c (stopT us c) < us.getD i 0 := by
  obtain ⟨s, hs, e⟩ := ordL_find hi
  obtain ⟨_, h2⟩ := stopT_spec us c
  have hts : ¬ s < stopT us c := fun h => hn ⟨s, h, e⟩
  have hT : stopT us c < us.length := by omega
  have h3 : ¬ costAt us (stopT us c) ≤ creditAt us c (stopT us c) := fun h => h2 ⟨hT, h⟩
  have h4 : costAt us (stopT us c) ≤ us.getD i 0 := by
    unfold costAt
    by_cases e1 : s = stopT us c
    · rw [← e1, e]; exact Int.le_refl _
    · have := ordL_lt (us := us) (s := stopT us c) (t := s) (by omega) hs
      rw [e] at this
      unfold lexL at this
      omega
  omega
end Go.Proofs.Ytiojgofkilojmaa
