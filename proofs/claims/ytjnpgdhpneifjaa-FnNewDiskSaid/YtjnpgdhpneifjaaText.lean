/- Texts of names: TextValid, NameBucket, nameBefore, the program's and the reference's. No condition. -/
import Derived.Test.YtjnpgdhpneifjaaList
import Derived.Test.YtjnpgdhpneifjaaInts
namespace Go.Proofs.Ytjnpgdhpneifjaa
open Go.ChangeShapes Go.WideShapes Go.ChangeAt Go.RowKit Go.Deep
set_option linter.unusedVariables false
set_option linter.unusedSimpArgs false

def byN (s : ByteArray) (i : Nat) : Nat := if h : i < s.size then s[i].toNat else 0
theorem byN_of {s : ByteArray} {i : Nat} (h : i < s.size) : byN s i = s[i].toNat := by unfold byN; rw [dif_pos h]
def LettersTo (s : ByteArray) (k : Nat) : Prop := ∀ i, i < k → 97 ≤ byN s i ∧ byN s i ≤ 122
theorem LettersTo.zero (s : ByteArray) : LettersTo s 0 := fun i h => absurd h (Nat.not_lt_zero _)
theorem LettersTo.succ {s : ByteArray} {k : Nat} (h : LettersTo s k) (h1 : 97 ≤ byN s k) (h2 : byN s k ≤ 122) : LettersTo s (k + 1) := by
  intro i hi
  by_cases e : i = k
  · subst e; exact ⟨h1, h2⟩
  · exact h i (by omega)
def TextOk (s : ByteArray) : Prop := (1 ≤ s.size ∧ s.size ≤ 8) ∧ LettersTo s s.size
theorem textValid_impl (s : ByteArray) (w : World) (hm : s.size ≤ 9223372036854775807) : Calls Try.prog 96 #[.string s] w fun e w' => e = .returned (.bool (bof (TextOk s))) ∧ w = w' := by
  by_cases h1 : s.size < 1
  · have hno := Lib.hid (show ¬ TextOk s from fun h => by have := h.1.1; omega)
    go_enter Try.func96, Try.ntmps96
    go_wp2
    go_ret
    exact ⟨ret_bof_f hno.out, rfl⟩
  by_cases h8 : 8 < s.size
  · have hno := Lib.hid (show ¬ TextOk s from fun h => by have := h.1.2; omega)
    go_enter Try.func96, Try.ntmps96
    go_wp2
    go_ret
    exact ⟨ret_bof_f hno.out, rfl⟩
  go_enter Try.func96, Try.ntmps96
  go_wp2
  go_loop [14] (fun i => ∃ k : Nat, k ≤ s.size ∧ i = .int .i64 k ∧ LettersTo s k) (fun i => s.size - (intOf i).toNat)
  case atStart => exact ⟨0, Nat.zero_le _, rfl, LettersTo.zero _⟩
  case round =>
    obtain ⟨k, hk, rfl, hto⟩ := hrel
    have HT := Lib.hid hto
    clear hto
    by_cases hlt : k < s.size
    · have HB := Lib.hid (byN_of hlt)
      have HNO := Lib.hid (show ¬ (97 ≤ byN s k ∧ byN s k ≤ 122) → ¬ TextOk s from fun h hh => h (hh.2 k hlt))
      by_cases ha : s[k].toNat < 97
      · have hno := Lib.hid (HNO.out (fun h => by rw [HB.out] at h; omega))
        go_wp2
        go_ret
        exact ⟨ret_bof_f hno.out, rfl⟩
      · by_cases hz : 122 < s[k].toNat
        · have hno := Lib.hid (HNO.out (fun h => by rw [HB.out] at h; omega))
          go_wp2
          go_ret
          exact ⟨ret_bof_f hno.out, rfl⟩
        · have HT2 := Lib.hid (HT.out.succ (by rw [HB.out]; omega) (by rw [HB.out]; omega))
          go_wp2
          go_round
          case rel => exact ⟨k + 1, by omega, by go_num, HT2.out⟩
          case measure => simp [intOf]; omega
    · obtain rfl : k = s.size := by omega
      have hyes := Lib.hid (show TextOk s from ⟨by omega, HT.out⟩)
      go_wp2
      go_ret
      exact ⟨ret_bof_t hyes.out, rfl⟩
theorem textValid_spec (s : ByteArray) (w : World) (hm : s.size ≤ 9223372036854775807) : Calls Try.prog 127 #[.string s] w fun e w' => e = .returned (.bool (bof (TextOk s))) ∧ w = w' := by
  go_enter Try.func127, Try.ntmps127
  go_wp2
  go_loop [3] (fun i => ∃ k : Nat, k ≤ s.size ∧ i = .int .i64 k ∧ LettersTo s k) (fun i => s.size - (intOf i).toNat)
  case atStart => exact ⟨0, Nat.zero_le _, rfl, LettersTo.zero _⟩
  case round =>
    obtain ⟨k, hk, rfl, hto⟩ := hrel
    have HT := Lib.hid hto
    clear hto
    by_cases hlt : k < s.size
    · have HB := Lib.hid (byN_of hlt)
      have HNO := Lib.hid (show ¬ (97 ≤ byN s k ∧ byN s k ≤ 122) → ¬ TextOk s from fun h hh => h (hh.2 k hlt))
      by_cases ha : s[k].toNat < 97
      · have hno := Lib.hid (HNO.out (fun h => by rw [HB.out] at h; omega))
        go_wp2
        go_ret
        exact ⟨ret_bof_f hno.out, rfl⟩
      · by_cases hz : 122 < s[k].toNat
        · have hno := Lib.hid (HNO.out (fun h => by rw [HB.out] at h; omega))
          go_wp2
          go_ret
          exact ⟨ret_bof_f hno.out, rfl⟩
        · have HT2 := Lib.hid (HT.out.succ (by rw [HB.out]; omega) (by rw [HB.out]; omega))
          go_wp2
          go_round
          case rel => exact ⟨k + 1, by omega, by go_num, HT2.out⟩
          case measure => simp [intOf]; omega
    · obtain rfl : k = s.size := by omega
      by_cases h1 : 1 ≤ s.size ∧ s.size ≤ 8
      · have hb : inB (s.size : Int) 1 8 = true := by rw [inB_t]; omega
        have hyes := Lib.hid (show TextOk s from ⟨h1, HT.out⟩)
        go_wp2_with (go_at_call 32; refine (l1In_c _ _ _ _).mono ?_; rw [hb]; rintro e w' ⟨rfl, rfl⟩)
        go_ret
        exact ⟨ret_bof_t hyes.out, rfl⟩
      · have hb : inB (s.size : Int) 1 8 = false := by rw [inB_f]; omega
        have hno := Lib.hid (show ¬ TextOk s from fun h => h1 h.1)
        go_wp2_with (go_at_call 32; refine (l1In_c _ _ _ _).mono ?_; rw [hb]; rintro e w' ⟨rfl, rfl⟩)
        go_ret
        exact ⟨ret_bof_f hno.out, rfl⟩
/-! ### buckets -/
def hashTo (s : ByteArray) : Nat → Nat
  | 0 => 7
  | k + 1 => (31 * hashTo s k + byN s k) % 1009
theorem hashTo_le (s : ByteArray) : ∀ k, hashTo s k ≤ 1008
  | 0 => by show 7 ≤ 1008; omega
  | k + 1 => by unfold hashTo; omega
open Classical in
noncomputable def bucket (s : ByteArray) : Int := if TextOk s then ((hashTo s s.size % 3 : Nat) : Int) else -1
theorem bucket_yes {s : ByteArray} (h : TextOk s) : bucket s = ((hashTo s s.size % 3 : Nat) : Int) := by unfold bucket; rw [if_pos h]
theorem bucket_no {s : ByteArray} (h : ¬ TextOk s) : bucket s = -1 := by unfold bucket; rw [if_neg h]
theorem bucket_range (s : ByteArray) : -1 ≤ bucket s ∧ bucket s ≤ 2 := by
  by_cases h : TextOk s
  · rw [bucket_yes h]; omega
  · rw [bucket_no h]; omega
theorem bucket_ok {s : ByteArray} : 0 ≤ bucket s ↔ TextOk s := by
  by_cases h : TextOk s
  · rw [bucket_yes h]; exact ⟨fun _ => h, fun _ => by omega⟩
  · rw [bucket_no h]; exact ⟨fun h => by omega, fun h' => absurd h' h⟩
theorem byN_le (s : ByteArray) (i : Nat) : byN s i ≤ 255 := by
  unfold byN
  split
  · next h => have := s[i].toNat_lt; omega
  · omega
theorem nameBucket_impl (s : ByteArray) (w : World) (hm : s.size ≤ 9223372036854775807) : Calls Try.prog 98 #[.string s] w fun e w' => e = .returned (.int .i64 (bucket s)) ∧ w = w' := by
  by_cases h : TextOk s
  · have hs8 := h.1.2
    have HE := Lib.hid (bucket_yes h)
    have hbt := bof_t.2 h
    clear h
    go_enter Try.func98, Try.ntmps98
    go_wp2_with (go_at_call 96; refine (textValid_impl s _ hm).mono ?_; rw [hbt]; rintro e w' ⟨rfl, rfl⟩)
    go_loop [3, 10] (fun v i => ∃ k : Nat, k ≤ s.size ∧ i = .int .i64 k ∧ v = .int .i64 (hashTo s k : Nat)) (fun _ i => s.size - (intOf i).toNat)
    case atStart => exact ⟨0, Nat.zero_le _, rfl, rfl⟩
    case round =>
      obtain ⟨k, hk, rfl, rfl⟩ := hrel
      have hq := hashTo_le s k
      by_cases hlt : k < s.size
      · have HB := Lib.hid (byN_of hlt)
        have HH := Lib.hid (show hashTo s (k + 1) = (31 * hashTo s k + byN s k) % 1009 from rfl)
        have hb := byN_le s k
        rw [byN_of hlt] at hb
        generalize hashTo s k = q at *
        go_wp2
        go_round
        case rel => exact ⟨k + 1, by omega, by go_num, by rw [HH.out, HB.out]; go_num⟩
        case measure => simp [intOf]; omega
      · obtain rfl : k = s.size := by omega
        go_wp2
        go_ret
        exact ⟨ret_int (by rw [HE.out]; omega), rfl⟩
  · have hbf := bof_f.2 h
    have HE := Lib.hid (bucket_no h)
    clear h
    go_enter Try.func98, Try.ntmps98
    go_wp2_with (go_at_call 96; refine (textValid_impl s _ hm).mono ?_; rw [hbf]; rintro e w' ⟨rfl, rfl⟩)
    go_ret
    exact ⟨ret_int HE.out.symm, rfl⟩
theorem nameBucket_spec (s : ByteArray) (w : World) (hm : s.size ≤ 9223372036854775807) : Calls Try.prog 101 #[.string s] w fun e w' => e = .returned (.int .i64 (bucket s)) ∧ w = w' := by
  by_cases h : TextOk s
  · have hs8 := h.1.2
    have HE := Lib.hid (bucket_yes h)
    have hbt := bof_t.2 h
    clear h
    go_enter Try.func101, Try.ntmps101
    go_wp2_with (go_at_call 127; refine (textValid_spec s _ hm).mono ?_; rw [hbt]; rintro e w' ⟨rfl, rfl⟩)
    go_loop [3, 4] (fun v i => ∃ k : Nat, k ≤ s.size ∧ i = .int .i64 k ∧ v = .int .i64 (hashTo s k : Nat)) (fun _ i => s.size - (intOf i).toNat)
    case atStart => exact ⟨0, Nat.zero_le _, rfl, rfl⟩
    case round =>
      obtain ⟨k, hk, rfl, rfl⟩ := hrel
      have hq := hashTo_le s k
      by_cases hlt : k < s.size
      · have HB := Lib.hid (byN_of hlt)
        have HH := Lib.hid (show hashTo s (k + 1) = (31 * hashTo s k + byN s k) % 1009 from rfl)
        have hb := byN_le s k
        rw [byN_of hlt] at hb
        generalize hashTo s k = q at *
        go_wp2
        go_round
        case rel => exact ⟨k + 1, by omega, by go_num, by rw [HH.out, HB.out]; go_num⟩
        case measure => simp [intOf]; omega
      · obtain rfl : k = s.size := by omega
        go_wp2
        go_ret
        exact ⟨ret_int (by rw [HE.out]; omega), rfl⟩
  · have hbf := bof_f.2 h
    have HE := Lib.hid (bucket_no h)
    clear h
    go_enter Try.func101, Try.ntmps101
    go_wp2_with (go_at_call 127; refine (textValid_spec s _ hm).mono ?_; rw [hbf]; rintro e w' ⟨rfl, rfl⟩)
    go_ret
    exact ⟨ret_int HE.out.symm, rfl⟩
/-! ### the order of texts -/
theorem bl_irrefl : ∀ x : List UInt8, Op.bytesLess x x = false
  | [] => by simp [Op.bytesLess]
  | a :: x => by simp [Op.bytesLess, bl_irrefl x]
theorem bl_total : ∀ x y : List UInt8, Op.bytesLess x y = true ∨ x = y ∨ Op.bytesLess y x = true
  | [], [] => .inr (.inl rfl)
  | [], _ :: _ => .inl (by simp [Op.bytesLess])
  | _ :: _, [] => .inr (.inr (by simp [Op.bytesLess]))
  | a :: x, b :: y => by
    simp only [Op.bytesLess, Bool.or_eq_true, Bool.and_eq_true, decide_eq_true_eq, beq_iff_eq, List.cons.injEq]
    rcases Nat.lt_trichotomy a.toNat b.toNat with h | h | h
    · exact .inl (.inl (UInt8.lt_iff_toNat_lt.2 h))
    · have e : a = b := UInt8.toNat_inj.1 h
      subst e
      rcases bl_total x y with h1 | h1 | h1
      · exact .inl (.inr ⟨rfl, h1⟩)
      · exact .inr (.inl ⟨rfl, h1⟩)
      · exact .inr (.inr (.inr ⟨rfl, h1⟩))
    · exact .inr (.inr (.inl (UInt8.lt_iff_toNat_lt.2 h)))
theorem bl_trans : ∀ {x y z : List UInt8}, Op.bytesLess x y = true → Op.bytesLess y z = true → Op.bytesLess x z = true
  | [], [], z, h, _ => by simp [Op.bytesLess] at h
  | [], _ :: _, [], _, h => by simp [Op.bytesLess] at h
  | [], _ :: _, _ :: _, _, _ => by simp [Op.bytesLess]
  | _ :: _, [], _, h, _ => by simp [Op.bytesLess] at h
  | _ :: _, _ :: _, [], _, h => by simp [Op.bytesLess] at h
  | a :: x, b :: y, c :: z, h1, h2 => by
    simp only [Op.bytesLess, Bool.or_eq_true, Bool.and_eq_true, decide_eq_true_eq, beq_iff_eq, UInt8.lt_iff_toNat_lt] at h1 h2 ⊢
    rcases h1 with h1 | ⟨e1, h1⟩
    · rcases h2 with h2 | ⟨e2, h2⟩
      · exact .inl (by omega)
      · subst e2; exact .inl h1
    · subst e1
      rcases h2 with h2 | ⟨e2, h2⟩
      · exact .inl h2
      · exact .inr ⟨e2, bl_trans h1 h2⟩
theorem toList_inj' {a b : ByteArray} (h : a.toList = b.toList) : a = b := by
  rw [ByteArray.toList_eq, ByteArray.toList_eq] at h
  cases a; cases b
  simp only at h
  congr 1
  exact Array.toList_inj.1 h
/-- one text comes before another -/
def sLt (a b : ByteArray) : Prop := Op.bytesLess a.toList b.toList = true
theorem sLt_irrefl (a : ByteArray) : ¬ sLt a a := by unfold sLt; rw [bl_irrefl]; simp
theorem sLt_trans {a b c : ByteArray} (h : sLt a b) (k : sLt b c) : sLt a c := bl_trans h k
theorem sLt_total (a b : ByteArray) : sLt a b ∨ a = b ∨ sLt b a := by
  rcases bl_total a.toList b.toList with h | h | h
  · exact .inl h
  · exact .inr (.inl (toList_inj' h))
  · exact .inr (.inr h)
theorem sLe_iff (a b : ByteArray) : (Op.bytesLess a.toList b.toList || a.toList == b.toList) = true ↔ ¬ sLt b a := by
  rw [Bool.or_eq_true, beq_iff_eq]
  constructor
  · rintro (h | h) k
    · exact sLt_irrefl a (sLt_trans h k)
    · rw [toList_inj' h] at k; exact sLt_irrefl _ k
  · intro h
    rcases sLt_total a b with k | k | k
    · exact .inl k
    · exact .inr (by rw [k])
    · exact absurd k h
/-- the order of names -/
def NBef (a b : ByteArray) : Prop := bucket a < bucket b ∨ (bucket a = bucket b ∧ sLt a b)
theorem NBef_irrefl (a : ByteArray) : ¬ NBef a a := by
  rintro (h | ⟨_, h⟩)
  · omega
  · exact sLt_irrefl a h
theorem NBef_trans {a b c : ByteArray} (h : NBef a b) (k : NBef b c) : NBef a c := by
  rcases h with h | ⟨h1, h2⟩
  · rcases k with k | ⟨k1, k2⟩
    · exact .inl (by omega)
    · exact .inl (by omega)
  · rcases k with k | ⟨k1, k2⟩
    · exact .inl (by omega)
    · exact .inr ⟨by omega, sLt_trans h2 k2⟩
theorem NBef_total (a b : ByteArray) : NBef a b ∨ a = b ∨ NBef b a := by
  rcases Int.lt_trichotomy (bucket a) (bucket b) with h | h | h
  · exact .inl (.inl h)
  · rcases sLt_total a b with k | k | k
    · exact .inl (.inr ⟨h, k⟩)
    · exact .inr (.inl k)
    · exact .inr (.inr (.inr ⟨h.symm, k⟩))
  · exact .inr (.inr (.inl h))
theorem nameBefore_c (a b : ByteArray) (w : World) (ha : a.size ≤ 9223372036854775807) (hb : b.size ≤ 9223372036854775807) : Calls Try.prog 97 #[.string a, .string b] w fun e w' => e = .returned (.bool (bof (NBef a b))) ∧ w = w' := by
  have r1 := bucket_range a
  have r2 := bucket_range b
  by_cases he : bucket a = bucket b
  · have hq : (bucket a == bucket b) = true := by simp [he]
    have HE := Lib.hid he
    clear he
    go_enter Try.func97, Try.ntmps97
    go_wp2_with (go_at_call 98; refine (nameBucket_impl _ _ (by assumption)).mono ?_; rintro e w' ⟨rfl, rfl⟩)
    go_ret
    exact ⟨ret_bof_iff ⟨fun h => .inr ⟨HE.out, h⟩, fun h => by
      rcases h with h | ⟨_, h⟩
      · have := HE.out; omega
      · exact h⟩, rfl⟩
  · have hq : (bucket a == bucket b) = false := by simp [he]
    have HE := Lib.hid he
    clear he
    go_enter Try.func97, Try.ntmps97
    go_wp2_with (go_at_call 98; refine (nameBucket_impl _ _ (by assumption)).mono ?_; rintro e w' ⟨rfl, rfl⟩)
    go_ret
    exact ⟨ret_bof_iff ⟨fun h => .inl (by simpa using h), fun h => by
      rcases h with h | ⟨h, _⟩
      · simpa using h
      · exact absurd h HE.out⟩, rfl⟩
end Go.Proofs.Ytjnpgdhpneifjaa
