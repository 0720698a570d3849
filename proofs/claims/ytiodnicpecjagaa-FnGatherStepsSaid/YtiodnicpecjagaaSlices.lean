/- Contracts of the library's slices.Index and slices.Contains at []int, whatever the list. -/
import Derived.Test.YtiodnicpecjagaaList
namespace Go.Proofs.Ytiodnicpecjagaa
open Go.ChangeShapes Go.WideShapes Go.ChangeAt Go.RowKit
set_option linter.unusedVariables false
set_option linter.unusedSimpArgs false

/-- r is the first place of v in xs, or -1 -/
def IdxOf (xs : List Int) (v r : Int) : Prop := (r = -1 ∧ ∀ j, j < xs.length → xs.getD j 0 ≠ v) ∨ ∃ i : Nat, i < xs.length ∧ r = i ∧ xs.getD i 0 = v ∧ ∀ j, j < i → xs.getD j 0 ≠ v
theorem mem_getD {xs : List Int} {v : Int} : v ∈ xs ↔ ∃ i, i < xs.length ∧ xs.getD i 0 = v := by
  constructor
  · intro h
    obtain ⟨i, hi, e⟩ := List.getElem_of_mem h
    exact ⟨i, hi, by rw [List.getD_eq_getElem?_getD, List.getElem?_eq_getElem hi]; exact e⟩
  · rintro ⟨i, hi, e⟩
    rw [List.getD_eq_getElem?_getD, List.getElem?_eq_getElem hi] at e
    exact e ▸ List.getElem_mem hi
theorem IdxOf.ge {xs : List Int} {v r : Int} (h : IdxOf xs v r) : 0 ≤ r ↔ v ∈ xs := by
  rw [mem_getD]
  rcases h with ⟨rfl, h⟩ | ⟨i, h1, rfl, h2, _⟩
  · constructor
    · intro h; omega
    · rintro ⟨i, hi, e⟩; exact absurd e (h i hi)
  · exact ⟨fun _ => ⟨i, h1, h2⟩, fun _ => by omega⟩
theorem RdI.take {k w B A n xs} (h : RdI k w B A n xs) {i : Nat} (hi : i ≤ n) : RdI k w B A i (xs.take i) :=
  ⟨by have := h.len; simp; omega, fun hn => by
    obtain ⟨b, off, e, hb, hc⟩ := h.at_ (by omega)
    exact ⟨b, off, e, hb, fun j hj => by
      rw [hc j (by omega), List.getD_eq_getElem?_getD, List.getD_eq_getElem?_getD, List.getElem?_take_of_lt hj]⟩⟩
theorem take_getD {xs : List Int} {i j : Nat} (h : j < i) : (xs.take i).getD j 0 = xs.getD j 0 := by
  rw [List.getD_eq_getElem?_getD, List.getD_eq_getElem?_getD, List.getElem?_take_of_lt h]
theorem mem_take_getD {xs : List Int} {v : Int} {i : Nat} (hi : i ≤ xs.length) : v ∈ xs.take i ↔ ∃ j, j < i ∧ xs.getD j 0 = v := by
  rw [mem_getD]
  constructor
  · rintro ⟨j, hj, e⟩
    have hj' : j < i := by simp at hj; omega
    exact ⟨j, hj', by rw [← e, take_getD hj']⟩
  · rintro ⟨j, hj, e⟩
    exact ⟨j, by simp; omega, by rw [take_getD hj]; exact e⟩

theorem index_c {A : Option Addr} {n c B : Nat} {xs : List Int} {v : Int} {w : World} (hr : RdI .i64 w B A n xs) (hn : n ≤ 9000000000000) :
    Calls Try.prog 42 #[.slice A n c, .int .i64 v] w fun e w' => (∃ r : Int, e = .returned (.int .i64 r) ∧ IdxOf xs v r) ∧ w = w' := by
  have HL := Lib.hid hr.len
  go_enter Try.func42, Try.ntmps42
  go_wp2
  go_loop [8] (fun i => ∃ k : Nat, k ≤ n ∧ i = .int .i64 k ∧ ∀ j, j < k → xs.getD j 0 ≠ v) (fun i => n - (intOf i).toNat)
  case atStart => exact ⟨0, Nat.zero_le _, rfl, fun j h => absurd h (Nat.not_lt_zero _)⟩
  case round =>
    obtain ⟨k, hk, rfl, hno⟩ := hrel
    have HN := Lib.hid hno
    clear hno
    by_cases hlt : k < n
    · obtain ⟨b, off, rfl, hbB, hc⟩ := hr.at_ (by omega)
      have hc1 := hc k hlt
      obtain ⟨x, hx⟩ : ∃ x, xs.getD k 0 = x := ⟨_, rfl⟩
      rw [hx] at hc1
      have HX := Lib.hid hx
      clear hx hc hr
      by_cases hv : v = x
      · subst hv
        go_wp2
        go_ret
        exact ⟨⟨_, rfl, .inr ⟨k, by have := HL.out; omega, rfl, HX.out, HN.out⟩⟩, rfl⟩
      · have hv1 : (v == x) = false := by simp [hv]
        have HV := Lib.hid hv
        clear hv
        go_wp2
        go_round
        case rel =>
          refine ⟨k + 1, by omega, by go_num, fun j hj => ?_⟩
          by_cases e : j = k
          · subst e; rw [HX.out]; exact fun h => HV.out h.symm
          · exact HN.out j (by omega)
        case measure => simp [intOf]; omega
    · have hkn : k = n := by omega
      subst hkn
      go_wp2
      go_ret
      exact ⟨⟨_, rfl, .inl ⟨rfl, fun j hj => HN.out j (by have := HL.out; omega)⟩⟩, rfl⟩
theorem contains_c {A : Option Addr} {n c B : Nat} {xs : List Int} {v : Int} {w : World} (hr : RdI .i64 w B A n xs) (hn : n ≤ 9000000000000) :
    Calls Try.prog 35 #[.slice A n c, .int .i64 v] w fun e w' => e = .returned (.bool (bof (v ∈ xs))) ∧ w = w' := by
  go_enter Try.func35, Try.ntmps35
  go_wp2_with (go_at_call 42; refine (index_c hr hn).mono ?_; rintro e w' ⟨⟨r, rfl, hr1⟩, rfl⟩)
  go_ret
  exact ⟨ret_bof_iff (by rw [← hr1.ge]; simp), rfl⟩
end Go.Proofs.Ytiodnicpecjagaa
