/- Contracts of AsksValid and AskPages, the program's and the reference's. Condition: at most 2^20 entries. -/
import Derived.Test.YtmkmobgmlhioaaaAskS
import Derived.Test.YtmkmobgmlhioaaaInts
namespace Go.Proofs.Ytmkmobgmlhioaaa
open Go.ChangeShapes Go.WideShapes Go.ChangeAt Go.RowKit
set_option linter.unusedVariables false
set_option linter.unusedSimpArgs false

def Ask1 (p : Int × Int) : Prop := 0 ≤ p.1 ∧ p.1 ≤ 100 ∧ 1 ≤ p.2 ∧ p.2 ≤ 10
def AskTo (xs : List (Int × Int)) (k : Nat) : Prop := ∀ i, i < k → Ask1 (xs.getD i (0, 0))
def AsksOk (xs : List (Int × Int)) : Prop := xs.length ≤ 12 ∧ AskTo xs xs.length
theorem AskTo.zero (xs : List (Int × Int)) : AskTo xs 0 := fun i h => absurd h (Nat.not_lt_zero _)
theorem AskTo.succ {xs : List (Int × Int)} {k : Nat} (h : AskTo xs k) (h1 : Ask1 (xs.getD k (0, 0))) : AskTo xs (k + 1) := by
  intro i hi
  by_cases e : i = k
  · subst e; exact h1
  · exact h i (by omega)
def manyTo (xs : List (Int × Int)) : Nat → Int
  | 0 => 0
  | k + 1 => manyTo xs k + (xs.getD k (0, 0)).2
theorem manyTo_range {xs : List (Int × Int)} (h : AsksOk xs) : ∀ k, k ≤ xs.length → 0 ≤ manyTo xs k ∧ manyTo xs k ≤ 10 * k
  | 0, _ => by unfold manyTo; omega
  | k + 1, hk => by
    have := manyTo_range h k (by omega)
    have h2 := h.2 k (by omega)
    unfold Ask1 at h2
    unfold manyTo
    omega
open Classical in
noncomputable def askPages (xs : List (Int × Int)) : Int := if AsksOk xs then manyTo xs xs.length else -1
theorem askPages_ok {xs : List (Int × Int)} (h : AsksOk xs) : askPages xs = manyTo xs xs.length := by unfold askPages; rw [if_pos h]
theorem askPages_no {xs : List (Int × Int)} (h : ¬ AsksOk xs) : askPages xs = -1 := by unfold askPages; rw [if_neg h]

theorem asksValid_impl {A : Option Addr} {n c B : Nat} {xs : List (Int × Int)} {w : World} (hp : RdP w B A n xs) (hB : B ≤ w.heap.size) (hn : n ≤ 1048576) :
    Calls Try.prog 16 #[.slice A n c] w fun e w' => e = .returned (.bool (bof (AsksOk xs))) ∧ Below w.heap.size w w' := by
  have HL := Lib.hid hp.len
  by_cases h12 : 12 < n
  · have HNO := Lib.hid (show ¬ AsksOk xs from fun h => by have := h.1; have := HL.out; omega)
    go_enter Try.func16, Try.ntmps16
    go_wp2
    go_ret
    exact ⟨ret_bof_f HNO.out, Below.refl _ _⟩
  · go_enter Try.func16, Try.ntmps16
    go_wp2
    go_loopw [10] (fun i wr => ∃ k : Nat, k ≤ n ∧ i = .int .i64 k ∧ AskTo xs k ∧ Below w.heap.size w wr) (fun i _ => n - (intOf i).toNat)
    case atStart => exact ⟨0, Nat.zero_le _, rfl, AskTo.zero _, Below.refl _ _⟩
    case round =>
      obtain ⟨k, hk, rfl, hto, hbel⟩ := hrel
      have HT := Lib.hid hto
      have hsz := hbel.size
      clear hto
      by_cases hlt : k < n
      · obtain ⟨b, off, rfl, hbB, hc⟩ := hp.at_ (by omega)
        have e0 := (hbel.cell (p := ⟨b, off + k * 2, none⟩) (by exact Nat.lt_of_lt_of_le hbB hB)).trans (hc k hlt).1
        have e1 := (hbel.cell (p := ⟨b, off + k * 2 + 1, none⟩) (by exact Nat.lt_of_lt_of_le hbB hB)).trans (hc k hlt).2
        obtain ⟨f, t, hft⟩ : ∃ f t, xs.getD k (0, 0) = (f, t) := ⟨_, _, rfl⟩
        rw [hft] at e0 e1
        have HNO := Lib.hid (show ¬ Ask1 (f, t) → ¬ AsksOk xs from fun h hok => h (by
          have := hok.2 k (by have := HL.out; omega)
          rwa [hft] at this))
        have HFT := Lib.hid hft
        have HB1 := Lib.hid (hbel.alloc hsz (.cells #[.int .i64 f, .int .i64 t] 32))
        clear hft hc hp hbel
        by_cases h1 : f < 0
        · go_wp2
          go_ret
          exact ⟨ret_bof_f (HNO.out (fun h => by have := h.1; simp at this; omega)), HB1.out⟩
        by_cases h2 : 100 < f
        · go_wp2
          go_ret
          exact ⟨ret_bof_f (HNO.out (fun h => by have := h.2.1; simp at this; omega)), HB1.out⟩
        by_cases h3 : t < 1
        · go_wp2
          go_ret
          exact ⟨ret_bof_f (HNO.out (fun h => by have := h.2.2.1; simp at this; omega)), HB1.out⟩
        by_cases h4 : 10 < t
        · go_wp2
          go_ret
          exact ⟨ret_bof_f (HNO.out (fun h => by have := h.2.2.2; simp at this; omega)), HB1.out⟩
        have HA := Lib.hid (show Ask1 (f, t) from ⟨by simp; omega, by simp; omega, by simp; omega, by simp; omega⟩)
        go_wp2
        go_roundw
        case rel => exact ⟨k + 1, by omega, by go_num, HT.out.succ (by rw [HFT.out]; exact HA.out), HB1.out⟩
        case measure => simp [intOf]; omega
      · have hkn : k = n := by omega
        subst hkn
        have HY := Lib.hid (show AsksOk xs from ⟨by have := HL.out; omega, by rw [HL.out]; exact HT.out⟩)
        go_wp2
        go_ret
        exact ⟨ret_bof_t HY.out, hbel⟩

theorem asksValid_spec {A : Option Addr} {n c B : Nat} {xs : List (Int × Int)} {w : World} (hp : RdP w B A n xs) (hn : n ≤ 1048576) :
    Calls Try.prog 14 #[.slice A n c] w fun e w' => e = .returned (.bool (bof (AsksOk xs))) ∧ w = w' := by
  have HL := Lib.hid hp.len
  go_enter Try.func14, Try.ntmps14
  go_wp2
  go_loop [3] (fun i => ∃ k : Nat, k ≤ n ∧ i = .int .i64 k ∧ AskTo xs k) (fun i => n - (intOf i).toNat)
  case atStart => exact ⟨0, Nat.zero_le _, rfl, AskTo.zero _⟩
  case round =>
    obtain ⟨k, hk, rfl, hto⟩ := hrel
    have HT := Lib.hid hto
    clear hto
    by_cases hlt : k < n
    · obtain ⟨b, off, rfl, hbB, hc⟩ := hp.at_ (by omega)
      have e0 := (hc k hlt).1
      have e1 := (hc k hlt).2
      obtain ⟨f, t, hft⟩ : ∃ f t, xs.getD k (0, 0) = (f, t) := ⟨_, _, rfl⟩
      rw [hft] at e0 e1
      have HNO := Lib.hid (show ¬ Ask1 (f, t) → ¬ AsksOk xs from fun h hok => h (by
        have := hok.2 k (by have := HL.out; omega)
        rwa [hft] at this))
      have HFT := Lib.hid hft
      clear hft hc hp
      rcases Bool.eq_false_or_eq_true (inB f 0 100) with hb | hb
      · have HF := Lib.hid (inB_t.1 hb)
        rcases Bool.eq_false_or_eq_true (inB t 1 10) with hb2 | hb2
        · have HTT := Lib.hid (inB_t.1 hb2)
          go_wp2_with (go_at_call 35; refine (l1In_c _ _ _ _).mono ?_; rintro e w' ⟨rfl, rfl⟩)
          go_round
          case rel => exact ⟨k + 1, by omega, by go_num, HT.out.succ (by rw [HFT.out]; exact ⟨HF.out.1, HF.out.2, HTT.out.1, HTT.out.2⟩)⟩
          case measure => simp [intOf]; omega
        · have HTT := Lib.hid (inB_f.1 hb2)
          go_wp2_with (go_at_call 35; refine (l1In_c _ _ _ _).mono ?_; rintro e w' ⟨rfl, rfl⟩)
          go_ret
          exact ⟨ret_bof_f (HNO.out (fun h => by have h1 := h.2.2.1; have h2 := h.2.2.2; have := HTT.out; simp at h1 h2; omega)), rfl⟩
      · have HF := Lib.hid (inB_f.1 hb)
        go_wp2_with (go_at_call 35; refine (l1In_c _ _ _ _).mono ?_; rintro e w' ⟨rfl, rfl⟩)
        go_ret
        exact ⟨ret_bof_f (HNO.out (fun h => by have h1 := h.1; have h2 := h.2.1; have := HF.out; simp at h1 h2; omega)), rfl⟩
    · have hkn : k = n := by omega
      subst hkn
      go_wp2
      go_ret
      exact ⟨ret_bof_iff (by
        constructor
        · intro h; simp at h; exact ⟨by have := HL.out; omega, by rw [HL.out]; exact HT.out⟩
        · intro h; have := h.1; have := HL.out; simp; omega), rfl⟩

theorem askPages_impl {A : Option Addr} {n c B : Nat} {xs : List (Int × Int)} {w : World} (hp : RdP w B A n xs) (hB : B ≤ w.heap.size) (hn : n ≤ 1048576) :
    Calls Try.prog 21 #[.slice A n c] w fun e w' => e = .returned (.int .i64 (askPages xs)) ∧ Below w.heap.size w w' := by
  have HL := Lib.hid hp.len
  rcases Bool.eq_false_or_eq_true (bof (AsksOk xs)) with hb | hb
  · have HOK := Lib.hid (bof_t.1 hb)
    have hn12 : n ≤ 12 := by have := HOK.out.1; have := HL.out; omega
    go_enter Try.func21, Try.ntmps21
    go_wp2_with (go_at_call 16; refine (asksValid_impl hp hB hn).mono ?_; rintro e w1 ⟨rfl, b1⟩)
    clear hb
    go_loopw [3, 11] (fun p i wr => ∃ k : Nat, k ≤ n ∧ i = .int .i64 k ∧ p = .int .i64 (manyTo xs k) ∧ Below w.heap.size w wr) (fun _ i _ => n - (intOf i).toNat)
    case atStart => exact ⟨0, Nat.zero_le _, rfl, rfl, b1⟩
    case round =>
      obtain ⟨k, hk, rfl, rfl, hbel⟩ := hrel
      have hsz := hbel.size
      have hmr := manyTo_range HOK.out k (by have := HL.out; omega)
      clear b1
      by_cases hlt : k < n
      · obtain ⟨b, off, rfl, hbB, hc⟩ := hp.at_ (by omega)
        have e0 := (hbel.cell (p := ⟨b, off + k * 2, none⟩) (by exact Nat.lt_of_lt_of_le hbB hB)).trans (hc k hlt).1
        have e1 := (hbel.cell (p := ⟨b, off + k * 2 + 1, none⟩) (by exact Nat.lt_of_lt_of_le hbB hB)).trans (hc k hlt).2
        have hS : manyTo xs (k + 1) = manyTo xs k + (xs.getD k (0, 0)).2 := rfl
        have h1 := HOK.out.2 k (by have := HL.out; omega)
        obtain ⟨f, t, hft⟩ : ∃ f t, xs.getD k (0, 0) = (f, t) := ⟨_, _, rfl⟩
        rw [hft] at e0 e1 hS h1
        obtain ⟨_, _, h3, h4⟩ := h1
        simp only at h3 h4 hS
        have HS := Lib.hid hS
        have HB1 := Lib.hid (hbel.alloc hsz (.cells #[.int .i64 f, .int .i64 t] 32))
        generalize manyTo xs k = l at *
        clear hft hc hp hbel hS
        go_wp2
        go_roundw
        case rel => exact ⟨k + 1, by omega, by go_num, by rw [HS.out], HB1.out⟩
        case measure => simp [intOf]; omega
      · have hkn : k = n := by omega
        subst hkn
        have hE := askPages_ok HOK.out
        rw [HL.out] at hE
        have HE := Lib.hid hE
        clear hE
        go_wp2
        go_ret
        exact ⟨ret_int HE.out.symm, hbel⟩
  · have HE := Lib.hid (askPages_no (bof_f.1 hb))
    go_enter Try.func21, Try.ntmps21
    go_wp2_with (go_at_call 16; refine (asksValid_impl hp hB hn).mono ?_; rintro e w1 ⟨rfl, b1⟩)
    go_ret
    exact ⟨ret_int HE.out.symm, b1⟩
theorem askPages_spec {A : Option Addr} {n c B : Nat} {xs : List (Int × Int)} {w : World} (hp : RdP w B A n xs) (hn : n ≤ 1048576) :
    Calls Try.prog 20 #[.slice A n c] w fun e w' => e = .returned (.int .i64 (askPages xs)) ∧ w = w' := by
  have HL := Lib.hid hp.len
  rcases Bool.eq_false_or_eq_true (bof (AsksOk xs)) with hb | hb
  · have HOK := Lib.hid (bof_t.1 hb)
    have hn12 : n ≤ 12 := by have := HOK.out.1; have := HL.out; omega
    go_enter Try.func20, Try.ntmps20
    go_wp2_with (go_at_call 14; refine (asksValid_spec hp hn).mono ?_; rintro e w1 ⟨rfl, rfl⟩)
    clear hb
    go_loop [3, 4] (fun p i => ∃ k : Nat, k ≤ n ∧ i = .int .i64 k ∧ p = .int .i64 (manyTo xs k)) (fun _ i => n - (intOf i).toNat)
    case atStart => exact ⟨0, Nat.zero_le _, rfl, rfl⟩
    case round =>
      obtain ⟨k, hk, rfl, rfl⟩ := hrel
      have hmr := manyTo_range HOK.out k (by have := HL.out; omega)
      by_cases hlt : k < n
      · obtain ⟨b, off, rfl, hbB, hc⟩ := hp.at_ (by omega)
        have e0 := (hc k hlt).1
        have e1 := (hc k hlt).2
        have hS : manyTo xs (k + 1) = manyTo xs k + (xs.getD k (0, 0)).2 := rfl
        have h1 := HOK.out.2 k (by have := HL.out; omega)
        obtain ⟨f, t, hft⟩ : ∃ f t, xs.getD k (0, 0) = (f, t) := ⟨_, _, rfl⟩
        rw [hft] at e0 e1 hS h1
        obtain ⟨_, _, h3, h4⟩ := h1
        simp only at h3 h4 hS
        have HS := Lib.hid hS
        generalize manyTo xs k = l at *
        clear hft hc hp hS
        go_wp2
        go_round
        case rel => exact ⟨k + 1, by omega, by go_num, by rw [HS.out]⟩
        case measure => simp [intOf]; omega
      · have hkn : k = n := by omega
        subst hkn
        have hE := askPages_ok HOK.out
        rw [HL.out] at hE
        have HE := Lib.hid hE
        clear hE
        go_wp2
        go_ret
        exact ⟨ret_int HE.out.symm, rfl⟩
  · have HE := Lib.hid (askPages_no (bof_f.1 hb))
    go_enter Try.func20, Try.ntmps20
    go_wp2_with (go_at_call 14; refine (asksValid_spec hp hn).mono ?_; rintro e w1 ⟨rfl, rfl⟩)
    go_ret
    exact ⟨ret_int HE.out.symm, rfl⟩
end Go.Proofs.Ytmkmobgmlhioaaa
