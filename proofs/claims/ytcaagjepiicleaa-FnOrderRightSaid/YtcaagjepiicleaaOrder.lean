/- Contracts of onceEach, OrderRight and CutRight, the program's and the reference's. Condition: at most 2^20 entries each. -/
import Derived.Test.YtcaagjepiicleaaLog
namespace Go.Proofs.Ytcaagjepiicleaa
open Go.ChangeShapes Go.WideShapes Go.ChangeAt Go.RowKit
set_option linter.unusedVariables false
set_option linter.unusedSimpArgs false

theorem nodup_sub_len : ∀ (l1 l2 : List Int), l1.Nodup → (∀ x ∈ l1, x ∈ l2) → l1.length ≤ l2.length
  | [], _, _, _ => Nat.zero_le _
  | a :: l, l2, hn, hs => by
    have ha : a ∈ l2 := hs a (by simp)
    have hn' := List.nodup_cons.1 hn
    have h := nodup_sub_len l (l2.erase a) hn'.2 (fun x hx => (List.mem_erase_of_ne (fun (e : x = a) => hn'.1 (by rw [← e]; exact hx))).2 (hs x (by simp [hx])))
    have h2 := List.length_erase_of_mem ha
    have h3 : 0 < l2.length := List.length_pos_of_mem ha
    simp; omega
theorem nodup_sub_eq {l1 l2 : List Int} (hn : l1.Nodup) (hs : ∀ x ∈ l1, x ∈ l2) (hl : l2.length ≤ l1.length) : ∀ x ∈ l2, x ∈ l1 := by
  intro x hx
  by_cases h : x ∈ l1
  · exact h
  · have := nodup_sub_len (x :: l1) l2 (List.nodup_cons.2 ⟨h, hn⟩) (fun y hy => by
      rcases List.mem_cons.1 hy with rfl | hy
      · exact hx
      · exact hs y hy)
    simp at this; omega
theorem getD_getElem {xs : List Int} {i : Nat} (h : i < xs.length) : xs.getD i 0 = xs[i] := by
  rw [List.getD_eq_getElem?_getD, List.getElem?_eq_getElem h]; rfl
theorem nodup_of {xs : List Int} (h : ∀ i j, j < i → i < xs.length → xs.getD j 0 ≠ xs.getD i 0) : xs.Nodup := by
  unfold List.Nodup
  rw [List.pairwise_iff_getElem]
  intro i j hi hj hij
  have := h j i hij hj
  rwa [getD_getElem hi, getD_getElem hj] at this
def poss (xs : List Int) (k : Nat) : Nat := ((xs.take k).filter fun x => decide (0 < x)).length
theorem poss_zero (xs : List Int) : poss xs 0 = 0 := rfl
theorem poss_le (xs : List Int) (k : Nat) : poss xs k ≤ k := by
  unfold poss
  have h1 := List.length_filter_le (fun x : Int => decide (0 < x)) (xs.take k)
  have h2 : (xs.take k).length ≤ k := List.length_take_le _ _
  omega
theorem poss_succ (xs : List Int) (k : Nat) (h : k < xs.length) : poss xs (k + 1) = poss xs k + if 0 < xs.getD k 0 then 1 else 0 := by
  unfold poss
  rw [List.take_succ_eq_append_getElem h, List.filter_append, List.length_append, List.getD_eq_getElem?_getD, List.getElem?_eq_getElem h]
  simp only [Option.getD_some, List.filter_cons, List.filter_nil]
  by_cases e : 0 < xs[k]
  · simp [e]
  · simp [e]
theorem poss_nodup {xs : List Int} (h : ∀ i j, j < i → i < xs.length → 0 < xs.getD i 0 → xs.getD j 0 ≠ xs.getD i 0) : (xs.filter fun x => decide (0 < x)).Nodup := by
  unfold List.Nodup
  rw [List.pairwise_filter, List.pairwise_iff_getElem]
  intro i j hi hj hij _ h2
  have h2' : 0 < xs[j] := by simpa using h2
  have := h j i hij hj (by rw [getD_getElem hj]; exact h2')
  rwa [getD_getElem hi, getD_getElem hj] at this
def OnceTo (log ls : List Int) (k : Nat) : Prop := (∀ i, i < k → 0 ≤ epochOf log (ls.getD i 0)) ∧ ∀ i j, j < i → i < k → ls.getD j 0 ≠ ls.getD i 0
def Once (log ls : List Int) : Prop := LogOk log ∧ OnceTo log ls ls.length
theorem OnceTo.zero (log ls : List Int) : OnceTo log ls 0 := ⟨fun i h => absurd h (Nat.not_lt_zero _), fun i j _ h => absurd h (Nat.not_lt_zero _)⟩
theorem OnceTo.succ {log ls : List Int} {k : Nat} (h : OnceTo log ls k) (h1 : 0 ≤ epochOf log (ls.getD k 0)) (h2 : ∀ j, j < k → ls.getD j 0 ≠ ls.getD k 0) : OnceTo log ls (k + 1) := by
  refine ⟨fun i hi => ?_, fun i j hj hi => ?_⟩
  · by_cases e : i = k
    · subst e; exact h1
    · exact h.1 i (by omega)
  · by_cases e : i = k
    · subst e; exact h2 j hj
    · exact h.2 i j hj (by omega)
theorem once_mem {log ls : List Int} (h : Once log ls) : ∀ x ∈ ls, x ∈ log ∧ 0 < x := by
  intro x hx
  obtain ⟨i, hi, e⟩ := mem_getD.1 hx
  have h1 := epoch_ge.1 (h.2.1 i hi)
  rw [e] at h1
  obtain ⟨j, hj, ej⟩ := mem_getD.1 h1.2.2
  have h2 := (h.1.2.1 j hj).1
  rw [ej] at h2
  exact ⟨h1.2.2, by have := h1.2.1; omega⟩
theorem once_len {log ls : List Int} (h : Once log ls) : ls.length ≤ 16 := by
  have h1 := nodup_sub_len ls log (nodup_of h.2.2) (fun x hx => (once_mem h x hx).1)
  have := h.1.1
  omega
/-- every positive entry of the log is in the order -/
def AllIn (log ord : List Int) (k : Nat) : Prop := ∀ i, i < k → 0 < log.getD i 0 → log.getD i 0 ∈ ord
def UpTo (log ord : List Int) (k : Nat) : Prop := ∀ i, 0 < i → i < k → epochOf log (ord.getD (i - 1) 0) ≤ epochOf log (ord.getD i 0)
def OrdOk (log ord : List Int) : Prop := Once log ord ∧ AllIn log ord log.length ∧ UpTo log ord ord.length
theorem allIn_iff {log ord : List Int} (h : Once log ord) : AllIn log ord log.length ↔ ord.length = poss log log.length := by
  have hf : ∀ x, x ∈ log.filter (fun x => decide (0 < x)) ↔ x ∈ log ∧ 0 < x := by intro x; simp
  have hp : poss log log.length = (log.filter fun x => decide (0 < x)).length := by unfold poss; rw [List.take_length]
  have hnf := poss_nodup (xs := log) h.1.2.2
  have hno := nodup_of h.2.2
  have hle := nodup_sub_len ord (log.filter fun x => decide (0 < x)) hno (fun x hx => (hf x).2 (once_mem h x hx))
  rw [hp]
  constructor
  · intro ha
    have := nodup_sub_len _ ord hnf (fun x hx => by
      obtain ⟨h1, h2⟩ := (hf x).1 hx
      obtain ⟨i, hi, e⟩ := mem_getD.1 h1
      have := ha i hi (by rw [e]; exact h2)
      rwa [e] at this)
    omega
  · intro he i hi h0
    exact nodup_sub_eq hno (fun x hx => (hf x).2 (once_mem h x hx)) (by omega) _ ((hf _).2 ⟨mem_getD.2 ⟨i, hi, rfl⟩, h0⟩)

theorem onceEach_c {A A' : Option Addr} {n c n' c' B B' : Nat} {xs ys : List Int} {w : World} (hr : RdI .i64 w B A n xs) (hnc : n ≤ c) (hcm : c ≤ 9223372036854775807)
    (hr' : RdI .i64 w B' A' n' ys) (hnc' : n' ≤ c') (hcm' : c' ≤ 9223372036854775807) :
    Calls Try.prog 32 #[.slice A n c, .slice A' n' c'] w fun e w' => e = .returned (.bool (bof (Once xs ys))) ∧ w = w' := by
  have HL := Lib.hid hr'.len
  rcases Bool.eq_false_or_eq_true (bof (LogOk xs)) with hb | hb
  · have HOK := Lib.hid (bof_t.1 hb)
    by_cases h16 : 16 < n'
    · have HE := Lib.hid (show ¬ Once xs ys from fun h => by have := once_len h; have := HL.out; omega)
      go_enter Try.func32, Try.ntmps32
      go_wp2_with (go_at_call 13; refine (logValid_impl hr hnc hcm).mono ?_; rintro e w' ⟨rfl, rfl⟩)
      go_ret
      exact ⟨ret_bof_f HE.out, rfl⟩
    · go_enter Try.func32, Try.ntmps32
      go_wp2_with (go_at_call 13; refine (logValid_impl hr hnc hcm).mono ?_; rintro e w' ⟨rfl, rfl⟩)
      clear hb
      go_loop [17] (fun i => ∃ k : Nat, k ≤ n' ∧ i = .int .i64 k ∧ OnceTo xs ys k) (fun i => n' - (intOf i).toNat)
      case atStart => exact ⟨0, Nat.zero_le _, rfl, OnceTo.zero _ _⟩
      case round =>
        obtain ⟨k, hk, rfl, hpre⟩ := hrel
        have HP := Lib.hid hpre
        clear hpre
        by_cases hlt : k < n'
        · have hrt := hr'.take (i := k) (by omega)
          obtain ⟨b, off, rfl, hbB, hc⟩ := hr'.at_ (by omega)
          have hc1 := hc k hlt
          have hno : (epochOf xs (ys.getD k 0) < 0 ∨ ys.getD k 0 ∈ ys.take k) → ¬ Once xs ys := by
            intro h hp
            have hlen := HL.out
            rcases h with h | h
            · have := hp.2.1 k (by omega); omega
            · rw [mem_take_getD (by omega)] at h
              obtain ⟨j, hj, e⟩ := h
              exact hp.2.2 k j hj (by omega) e
          obtain ⟨x, hx⟩ : ∃ x, ys.getD k 0 = x := ⟨_, rfl⟩
          rw [hx] at hc1 hno
          have HX := Lib.hid hx
          have HNO := Lib.hid hno
          clear hx hno hc
          by_cases he : epochOf xs x < 0
          · go_wp2_with (go_at_call 16; refine (epochOf_impl hr hnc hcm).mono ?_; rintro e w' ⟨rfl, rfl⟩)
            go_ret
            exact ⟨ret_bof_f (HNO.out (.inl he)), rfl⟩
          · rcases Bool.eq_false_or_eq_true (bof (x ∈ ys.take k)) with hb | hb
            · have HB := Lib.hid (bof_t.1 hb)
              go_wp2_with (first | (go_at_call 16; refine (epochOf_impl hr hnc hcm).mono ?_; rintro e w' ⟨rfl, rfl⟩) | (go_at_call 27; refine (contains_c hrt (by omega)).mono ?_; rintro e w' ⟨rfl, rfl⟩))
              go_ret
              exact ⟨ret_bof_f (HNO.out (.inr HB.out)), rfl⟩
            · have HB := Lib.hid (bof_f.1 hb)
              go_wp2_with (first | (go_at_call 16; refine (epochOf_impl hr hnc hcm).mono ?_; rintro e w' ⟨rfl, rfl⟩) | (go_at_call 27; refine (contains_c hrt (by omega)).mono ?_; rintro e w' ⟨rfl, rfl⟩))
              go_round
              case rel =>
                refine ⟨k + 1, by omega, by go_num, HP.out.succ (by rw [HX.out]; omega) (fun j hj e => HB.out ?_)⟩
                rw [mem_take_getD (by have := HL.out; omega)]
                exact ⟨j, hj, by rw [e]; exact HX.out⟩
              case measure => simp [intOf]; omega
        · have hkn : k = n' := by omega
          subst hkn
          have HY := Lib.hid (show Once xs ys from ⟨HOK.out, by rw [HL.out]; exact HP.out⟩)
          go_wp2
          go_ret
          exact ⟨ret_bof_t HY.out, rfl⟩
  · have HE := Lib.hid (show ¬ Once xs ys from fun h => bof_f.1 hb h.1)
    go_enter Try.func32, Try.ntmps32
    go_wp2_with (go_at_call 13; refine (logValid_impl hr hnc hcm).mono ?_; rintro e w' ⟨rfl, rfl⟩)
    go_ret
    exact ⟨ret_bof_f HE.out, rfl⟩
end Go.Proofs.Ytcaagjepiicleaa
