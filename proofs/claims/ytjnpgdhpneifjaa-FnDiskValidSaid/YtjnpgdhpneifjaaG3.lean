/- Parts of the proof, one after the other; each says what it proves. -/
import Derived.Test.YtjnpgdhpneifjaaG2
import Derived.Laws.BytesArg
import Derived.Test.YtjnpgdhpneifjaaG1
import Derived.BigQuiet
/- Numbers and words of a line by the reference. -/
namespace Go.Proofs.Ytjnpgdhpneifjaa
open Go.ChangeShapes Go.WideShapes Go.ChangeAt Go.RowKit
set_option linter.unusedVariables false
set_option linter.unusedSimpArgs false

/-- a text of one byte -/
def dig (x : Int) : ByteArray := strOfNums [x]
def decT (n : Nat) : ByteArray := if h : n < 10 then dig (48 + (n : Int)) else decT (n / 10) ++ dig (48 + ((n % 10 : Nat) : Int))
def preT (n : Nat) : ByteArray := if n < 10 then ByteArray.empty else decT (n / 10)
theorem dig_size (x : Int) : (dig x).size = 1 := rfl
theorem decT_pre (n : Nat) : decT n = preT n ++ dig (48 + ((n % 10 : Nat) : Int)) := by
  unfold preT
  rw [decT]
  by_cases h : n < 10
  · rw [dif_pos h, if_pos h, Nat.mod_eq_of_lt h]; simp
  · rw [dif_neg h, if_neg h]
theorem conv_one (W : World) (x : Int) : (convert 29 9 (.slice (some ⟨W.heap.size, 0, none⟩) 1 1)).run Try.prog (W.alloc (.cells #[.int .u8 x] 5)) = .ok (.string (dig x)) (W.alloc (.cells #[.int .u8 x] 5)) := by
  refine run_convert_bytes_arg _ 29 5 Try.underlying29 Try.underlying5 W.heap.size 0 1 1 [x] rfl ?_ 9 Try.underlying9
  intro i hi
  obtain rfl : i = 0 := by omega
  have := (Blk.new W 5 #[.int .u8 x]).cell 0
  simp
set_option maxRecDepth 8000 in
set_option maxHeartbeats 1000000 in
theorem l34Text_c (n : Nat) (hn : n ≤ 100000) (w : World) : Calls Try.prog 135 #[.int .i64 (n : Int)] w fun e w' => e = .returned (.string (decT n)) ∧ Below w.heap.size w w' := by
  have hcv := conv_one
  have hcv1 := Lib.hid (conv_one w (48 + (n : Int) % 10))
  have b1 : Below w.heap.size w (w.alloc (.cells #[.int .u8 (48 + (n : Int) % 10)] 5)) := (Below.refl _ _).alloc (Nat.le_refl _) _
  have B1 := Lib.hid b1
  have HD := Lib.hid (decT_pre n)
  clear b1
  go_enter Try.func135, Try.ntmps135
  go_wp2_with fail
  generalize w.alloc (.cells #[.int .u8 (48 + (n : Int) % 10)] 5) = w1 at *
  go_loopw [0, 3] (fun i v wr => ∃ (m : Nat) (r : ByteArray), m ≤ n ∧ i = .int .i64 m ∧ v = .string r ∧ preT m ++ r = decT n ∧ r.size + m ≤ n + 1 ∧ Below w.heap.size w wr) (fun i _ _ => (intOf i).toNat)
  case atStart => exact ⟨n, _, Nat.le_refl _, rfl, rfl, HD.out.symm, by rw [dig_size]; omega, B1.out⟩
  case round =>
    obtain ⟨m, r, hm, rfl, rfl, he, hrs, hb⟩ := hrel
    have B2 := Lib.hid hb
    have HE := Lib.hid he
    have s2 := hb.size
    clear hb he
    by_cases h9 : 9 < m
    · have mI : (9 : Int) < m := by omega
      have HQ2 := Lib.hid (show (m : Int) / 10 = ((m / 10 : Nat) : Int) by omega)
      have HP := Lib.hid (show preT m = preT (m / 10) ++ dig (48 + ((m / 10 % 10 : Nat) : Int)) from by
        have : preT m = decT (m / 10) := by unfold preT; rw [if_neg (by omega)]
        rw [this, decT_pre])
      have bA := B2.out.alloc s2 (.cells #[.int .u8 (48 + (m : Int) / 10 % 10)] 5)
      have BA := Lib.hid bA
      clear bA
      have HRS := Lib.hid (show (dig (48 + (m : Int) / 10 % 10) ++ r).size + m / 10 ≤ n + 1 by rw [ByteArray.size_append, dig_size]; omega)
      have hcat : (dig (48 + (m : Int) / 10 % 10)).size + r.size ≤ 9223372036854775807 := by rw [dig_size]; omega
      go_wp2
      go_roundw
      case rel => exact ⟨m / 10, _, by omega, by rw [HQ2.out], rfl, by rw [← HE.out, HP.out, ByteArray.append_assoc, show (48 + (m : Int) / 10 % 10) = 48 + ((m / 10 % 10 : Nat) : Int) by omega], HRS.out, BA.out⟩
      case measure => simp [intOf]; omega
    · have HP := Lib.hid (show r = decT n from by rw [← HE.out]; unfold preT; rw [if_pos (by omega)]; simp)
      go_wp2
      go_ret
      exact ⟨by rw [← HP.out]; rfl, B2.out⟩
/-! ### numbers -/
def DigTo (s : ByteArray) (k : Nat) : Prop := ∀ i, i < k → 48 ≤ byN s i ∧ byN s i ≤ 57
theorem DigTo.zero (s : ByteArray) : DigTo s 0 := fun i h => absurd h (Nat.not_lt_zero _)
theorem DigTo.succ {s : ByteArray} {k : Nat} (h : DigTo s k) (h1 : 48 ≤ byN s k) (h2 : byN s k ≤ 57) : DigTo s (k + 1) := by
  intro i hi
  by_cases e : i = k
  · subst e; exact ⟨h1, h2⟩
  · exact h i (by omega)
/-- what the first k digits say -/
def valTo (s : ByteArray) : Nat → Nat
  | 0 => 0
  | k + 1 => 10 * valTo s k + (byN s k - 48)
theorem valTo_lt {s : ByteArray} : ∀ {k : Nat}, DigTo s k → valTo s k < 10 ^ k
  | 0, _ => by simp [valTo]
  | k + 1, h => by
    have := valTo_lt (s := s) (k := k) (fun i hi => h i (by omega))
    have hk := h k (by omega)
    unfold valTo
    rw [Nat.pow_succ]
    omega
def NumOk (s : ByteArray) : Prop := s.size ≤ 4 ∧ DigTo s s.size ∧ s.size ≠ 0 ∧ decT (valTo s s.size) = s
open Classical in
/-- the number that a text is, -1 without one -/
noncomputable def numT (s : ByteArray) : Int := if NumOk s then ((valTo s s.size : Nat) : Int) else -1
theorem numT_yes {s : ByteArray} (h : NumOk s) : numT s = ((valTo s s.size : Nat) : Int) := by unfold numT; rw [if_pos h]
theorem numT_no {s : ByteArray} (h : ¬ NumOk s) : numT s = -1 := by unfold numT; rw [if_neg h]
theorem numT_range (s : ByteArray) : -1 ≤ numT s ∧ numT s ≤ 9999 := by
  by_cases h : NumOk s
  · rw [numT_yes h]
    have h1 := valTo_lt h.2.1
    have : 10 ^ s.size ≤ 10 ^ 4 := Nat.pow_le_pow_right (by omega) h.1
    omega
  · rw [numT_no h]; omega
set_option maxRecDepth 8000 in
set_option maxHeartbeats 1000000 in
theorem l34Number_c (s : ByteArray) (w : World) (hm : s.size ≤ 9223372036854775807) : Calls Try.prog 132 #[.string s] w fun e w' => e = .returned (.int .i64 (numT s)) ∧ Below w.heap.size w w' := by
  go_enter Try.func132, Try.ntmps132
  go_wp2
  go_loop [3, 4] (fun v i => ∃ k : Nat, k ≤ s.size ∧ k ≤ 4 ∧ i = .int .i64 k ∧ v = .int .i64 (valTo s k : Nat) ∧ DigTo s k) (fun _ i => s.size - (intOf i).toNat)
  case atStart => exact ⟨0, Nat.zero_le _, by omega, rfl, rfl, DigTo.zero _⟩
  case round =>
    obtain ⟨k, hk, hk4, rfl, rfl, hto⟩ := hrel
    have hv := valTo_lt hto
    have hp : 10 ^ k ≤ 10 ^ 4 := Nat.pow_le_pow_right (by omega) hk4
    have HT := Lib.hid hto
    clear hto
    by_cases hlt : k < s.size
    · have HB := Lib.hid (byN_of hlt)
      have HNO := Lib.hid (show ¬ (48 ≤ byN s k ∧ byN s k ≤ 57) → ¬ NumOk s from fun h hh => h (hh.2.1 k hlt))
      have HNK := Lib.hid (show ¬ k ≤ 3 → ¬ NumOk s from fun h hh => by have := hh.1; omega)
      have HV := Lib.hid (show valTo s (k + 1) = 10 * valTo s k + (byN s k - 48) from rfl)
      generalize valTo s k = q at *
      have hq4 : q < 10000 := by omega
      clear hv hp
      by_cases ha : s[k].toNat < 48
      · have hno := Lib.hid (numT_no (HNO.out (fun h => by rw [HB.out] at h; omega)))
        go_wp2
        go_ret
        exact ⟨by rw [hno.out]; rfl, Below.refl _ _⟩
      · by_cases hz : 57 < s[k].toNat
        · have hno := Lib.hid (numT_no (HNO.out (fun h => by rw [HB.out] at h; omega)))
          go_wp2
          go_ret
          exact ⟨by rw [hno.out]; rfl, Below.refl _ _⟩
        · by_cases h3 : k ≤ 3
          · have HT2 := Lib.hid (HT.out.succ (by rw [HB.out]; omega) (by rw [HB.out]; omega))
            have hx : s[k].toNat < 256 := s[k].toNat_lt
            have h3I : ¬ (3 : Int) < (k : Int) := by omega
            go_wp2
            go_round
            case rel => exact ⟨k + 1, by omega, by omega, by go_num, by rw [HV.out, HB.out]; go_num, HT2.out⟩
            case measure => simp [intOf]; omega
          · have hno := Lib.hid (numT_no (HNK.out h3))
            have h3I : (3 : Int) < (k : Int) := by omega
            go_wp2
            go_ret
            exact ⟨by rw [hno.out]; rfl, Below.refl _ _⟩
    · obtain rfl : k = s.size := by omega
      by_cases h0 : s.size = 0
      · have hno := Lib.hid (numT_no (fun h : NumOk s => h.2.2.1 h0))
        have hs0 : s.toList = [] := by
          rw [ByteArray.toList_eq]
          have : s.data = #[] := Array.eq_empty_of_size_eq_zero h0
          rw [this]
        have hs1 : s.toList.isEmpty = true := by rw [hs0]; rfl
        clear HT
        go_wp2
        go_ret
        exact ⟨by rw [hno.out]; rfl, Below.refl _ _⟩
      · have hs0 : ¬ s.toList = [] := fun h => h0 (by
          rw [ByteArray.toList_eq] at h
          have : s.data = #[] := Array.toList_inj.1 h
          show s.data.size = 0
          rw [this]; rfl)
        have hs1 : s.toList.isEmpty = false := by
          cases h : s.toList with
          | nil => exact absurd h hs0
          | cons a b => rfl
        have HV := Lib.hid (show numT s = if decT (valTo s s.size) = s then ((valTo s s.size : Nat) : Int) else -1 from by
          by_cases h : decT (valTo s s.size) = s
          · rw [if_pos h]; exact numT_yes ⟨hk4, HT.out, h0, h⟩
          · rw [if_neg h]; exact numT_no (fun hh => h hh.2.2.2))
        generalize valTo s s.size = q at *
        go_wp2_with fail
        refine (l34Text_c q (by omega) _).mono ?_
        rintro e w2 ⟨rfl, b2⟩
        have B2 := Lib.hid b2
        by_cases he : decT q = s
        · have hd : ((decT q).toList == s.toList) = true := by rw [he]; exact beq_self_eq_true _
          have HV2 := Lib.hid (show numT s = (q : Int) from by rw [HV.out, if_pos he])
          go_wp2
          go_ret
          exact ⟨by rw [HV2.out]; rfl, B2.out⟩
        · have hd : ((decT q).toList == s.toList) = false := beq_eq_false_iff_ne.2 (fun h => he (toList_inj' h))
          have HV2 := Lib.hid (show numT s = -1 from by rw [HV.out, if_neg he])
          go_wp2
          go_ret
          exact ⟨by rw [HV2.out]; rfl, B2.out⟩
end Go.Proofs.Ytjnpgdhpneifjaa

/- Pages and blocks: how they read; PageValid, BlockValid, DeviceValid, the program's and the reference's. No condition. -/
namespace Go.Proofs.Ytjnpgdhpneifjaa
open Go.ChangeShapes Go.WideShapes Go.ChangeAt Go.RowKit
set_option linter.unusedVariables false
set_option linter.unusedSimpArgs false

structure PageV where
  full : Bool
  file : Int
  place : Int
  value : Int
  stamp : Int
deriving DecidableEq, Inhabited
def noPage : PageV := ⟨false, 0, 0, 0, 0⟩
structure BlockV where
  wear : Int
  pages : List PageV
deriving DecidableEq, Inhabited
def noBlock : BlockV := ⟨0, []⟩

/-- a slice that reads as these pages, in a block below B -/
structure RdG (w : World) (B : Nat) (A : Option Addr) (n : Nat) (ps : List PageV) : Prop where
  len : ps.length = n
  at_ : 0 < n → ∃ b off, A = some ⟨b, off, none⟩ ∧ b < B ∧ ∀ i, i < n →
    w.cell? ⟨b, off + i * 5, none⟩ = some (.bool (ps.getD i noPage).full) ∧ w.cell? ⟨b, off + i * 5 + 1, none⟩ = some (.int .i64 (ps.getD i noPage).file) ∧ w.cell? ⟨b, off + i * 5 + 2, none⟩ = some (.int .i64 (ps.getD i noPage).place) ∧
    w.cell? ⟨b, off + i * 5 + 3, none⟩ = some (.int .i64 (ps.getD i noPage).value) ∧ w.cell? ⟨b, off + i * 5 + 4, none⟩ = some (.int .i64 (ps.getD i noPage).stamp)
theorem RdG.mono {w B B' A n xs} (h : RdG w B A n xs) (hB : B ≤ B') : RdG w B' A n xs :=
  ⟨h.len, fun hn => by obtain ⟨b, off, e, hb, hc⟩ := h.at_ hn; exact ⟨b, off, e, by omega, hc⟩⟩
theorem RdG.below {w w' B A n xs} (h : RdG w B A n xs) (hb : Below B w w') : RdG w' B A n xs :=
  ⟨h.len, fun hn => by
    obtain ⟨b, off, e, hb1, hc⟩ := h.at_ hn
    refine ⟨b, off, e, hb1, fun i hi => ?_⟩
    obtain ⟨h0, h1, h2, h3, h4⟩ := hc i hi
    exact ⟨(hb.cell hb1).trans h0, (hb.cell hb1).trans h1, (hb.cell hb1).trans h2, (hb.cell hb1).trans h3, (hb.cell hb1).trans h4⟩⟩
/-- a slice that reads as these blocks -/
structure RdB (w : World) (B : Nat) (A : Option Addr) (n : Nat) (bs : List BlockV) : Prop where
  len : bs.length = n
  at_ : 0 < n → ∃ b off, A = some ⟨b, off, none⟩ ∧ b < B ∧ ∀ i, i < n → ∃ (A' : Option Addr) (n' c' : Nat),
    w.cell? ⟨b, off + i * 2, none⟩ = some (.int .i64 (bs.getD i noBlock).wear) ∧ w.cell? ⟨b, off + i * 2 + 1, none⟩ = some (.slice A' n' c') ∧ n' ≤ c' ∧ c' ≤ 9223372036854775807 ∧ RdG w B A' n' (bs.getD i noBlock).pages
theorem RdB.mono {w B B' A n xs} (h : RdB w B A n xs) (hB : B ≤ B') : RdB w B' A n xs :=
  ⟨h.len, fun hn => by
    obtain ⟨b, off, e, hb, hc⟩ := h.at_ hn
    refine ⟨b, off, e, by omega, fun i hi => ?_⟩
    obtain ⟨A', n', c', h0, h1, h2, h3, h4⟩ := hc i hi
    exact ⟨A', n', c', h0, h1, h2, h3, h4.mono hB⟩⟩
theorem RdB.below {w w' B A n xs} (h : RdB w B A n xs) (hb : Below B w w') : RdB w' B A n xs :=
  ⟨h.len, fun hn => by
    obtain ⟨b, off, e, hb1, hc⟩ := h.at_ hn
    refine ⟨b, off, e, hb1, fun i hi => ?_⟩
    obtain ⟨A', n', c', h0, h1, h2, h3, h4⟩ := hc i hi
    exact ⟨A', n', c', (hb.cell hb1).trans h0, (hb.cell hb1).trans h1, h2, h3, h4.below hb⟩⟩

def PageOk (p : PageV) : Prop := if p.full then (0 ≤ p.file ∧ p.file ≤ 7) ∧ (0 ≤ p.place ∧ p.place ≤ 5) ∧ (0 ≤ p.value ∧ p.value ≤ 9999) ∧ (1 ≤ p.stamp ∧ p.stamp ≤ 1000000) else p.file = 0 ∧ p.place = 0 ∧ p.value = 0 ∧ p.stamp = 0
instance (p : PageV) : Decidable (PageOk p) := by unfold PageOk; infer_instance

theorem pageOk_no {x y z s : Int} : PageOk ⟨false, x, y, z, s⟩ ↔ x = 0 ∧ y = 0 ∧ z = 0 ∧ s = 0 := by simp [PageOk]
theorem pageOk_yes {x y z s : Int} : PageOk ⟨true, x, y, z, s⟩ ↔ (0 ≤ x ∧ x ≤ 7) ∧ (0 ≤ y ∧ y ≤ 5) ∧ (0 ≤ z ∧ z ≤ 9999) ∧ (1 ≤ s ∧ s ≤ 1000000) := by simp [PageOk]
theorem pageValid_impl (f : Bool) (x y z s : Int) (w : World) : Calls Try.prog 110 #[.agg #[.bool f, .int .i64 x, .int .i64 y, .int .i64 z, .int .i64 s]] w fun e w' => e = .returned (.bool (decide (PageOk ⟨f, x, y, z, s⟩))) ∧ Below w.heap.size w w' := by
  cases f
  · go_enter Try.func110, Try.ntmps110
    go_wp2
    all_goals
      go_ret
      exact ⟨ret_bool (by rw [eq_comm]; first | (rw [decide_eq_true_iff, pageOk_no]; omega) | (rw [decide_eq_false_iff_not, pageOk_no]; omega)), (Below.refl _ _).alloc (Nat.le_refl _) _⟩
  · go_enter Try.func110, Try.ntmps110
    go_wp2
    all_goals
      go_ret
      exact ⟨ret_bool (by rw [Bool.eq_iff_iff, decide_eq_true_iff (p := PageOk _), pageOk_yes]; simp; omega), (Below.refl _ _).alloc (Nat.le_refl _) _⟩
theorem pageValid_spec (f : Bool) (x y z s : Int) (w : World) : Calls Try.prog 108 #[.agg #[.bool f, .int .i64 x, .int .i64 y, .int .i64 z, .int .i64 s]] w fun e w' => e = .returned (.bool (decide (PageOk ⟨f, x, y, z, s⟩))) ∧ Below w.heap.size w w' := by
  cases f
  · go_enter Try.func108, Try.ntmps108
    go_wp2
    all_goals
      go_ret
      exact ⟨ret_bool (by rw [eq_comm]; first | (rw [decide_eq_true_iff, pageOk_no]; omega) | (rw [decide_eq_false_iff_not, pageOk_no]; omega)), (Below.refl _ _).alloc (Nat.le_refl _) _⟩
  · go_enter Try.func108, Try.ntmps108
    go_wp2_with (go_at_call 32; refine (l1In_c _ _ _ _).mono ?_; rintro e w' ⟨rfl, rfl⟩)
    all_goals
      go_ret
      exact ⟨ret_bool (by rw [Bool.eq_iff_iff, decide_eq_true_iff (p := PageOk _), pageOk_yes]; simp only [Bool.not_eq_true, inB_t, inB_f, Bool.false_eq_true, true_iff, iff_true, iff_false, false_iff] at *; omega), (Below.refl _ _).alloc (Nat.le_refl _) _⟩

/-- no page written after one that is not -/
def PagesTo (ps : List PageV) (k : Nat) : Prop := ∀ i, i < k → PageOk (ps.getD i noPage) ∧ (0 < i → (ps.getD i noPage).full = true → (ps.getD (i - 1) noPage).full = true)
theorem PagesTo.zero (ps : List PageV) : PagesTo ps 0 := fun i h => absurd h (Nat.not_lt_zero _)
theorem PagesTo.succ {ps : List PageV} {k : Nat} (h : PagesTo ps k) (h1 : PageOk (ps.getD k noPage)) (h2 : 0 < k → (ps.getD k noPage).full = true → (ps.getD (k - 1) noPage).full = true) : PagesTo ps (k + 1) := by
  intro i hi
  by_cases e : i = k
  · subst e; exact ⟨h1, h2⟩
  · exact h i (by omega)
def BlockOk (b : BlockV) : Prop := (0 ≤ b.wear ∧ b.wear ≤ 100) ∧ b.pages.length = 4 ∧ PagesTo b.pages 4

theorem blockValid_impl {we : Int} {A : Option Addr} {n c B : Nat} {ps : List PageV} {w : World} (hr : RdG w B A n ps) (hB : B ≤ w.heap.size) (hnc : n ≤ c) (hcm : c ≤ 9223372036854775807) :
    Calls Try.prog 78 #[.agg #[.int .i64 we, .slice A n c]] w fun e w' => e = .returned (.bool (bof (BlockOk ⟨we, ps⟩))) ∧ Below w.heap.size w w' := by
  have HL := Lib.hid hr.len
  by_cases h1 : we < 0
  · have hno := Lib.hid (show ¬ BlockOk ⟨we, ps⟩ from fun h => by have := h.1.1; simp only at this; omega)
    go_enter Try.func78, Try.ntmps78
    go_wp2
    go_ret
    exact ⟨ret_bof_f hno.out, (Below.refl _ _).alloc (Nat.le_refl _) _⟩
  by_cases h2 : 100 < we
  · have hno := Lib.hid (show ¬ BlockOk ⟨we, ps⟩ from fun h => by have := h.1.2; simp only at this; omega)
    go_enter Try.func78, Try.ntmps78
    go_wp2
    go_ret
    exact ⟨ret_bof_f hno.out, (Below.refl _ _).alloc (Nat.le_refl _) _⟩
  by_cases h4 : n = 4
  · subst h4
    have b1 : Below w.heap.size w (w.alloc (.cells #[.int .i64 we, .slice A 4 c] 67)) := (Below.refl _ _).alloc (Nat.le_refl _) _
    have k0 : (w.alloc (.cells #[.int .i64 we, .slice A 4 c] 67)).cell? ⟨w.heap.size, 0, none⟩ = some (.int .i64 we) := (Blk.new w 67 #[.int .i64 we, .slice A 4 c]).cell 0
    have k1 : (w.alloc (.cells #[.int .i64 we, .slice A 4 c] 67)).cell? ⟨w.heap.size, 1, none⟩ = some (.slice A 4 c) := (Blk.new w 67 #[.int .i64 we, .slice A 4 c]).cell 1
    have s1 : (w.alloc (.cells #[.int .i64 we, .slice A 4 c] 67)).heap.size = w.heap.size + 1 := by simp
    go_enter Try.func78, Try.ntmps78
    go_wp2
    have hr1 := (hr.mono hB).below b1
    have HB1 := Lib.hid b1
    have HS1 := Lib.hid s1
    clear k0 b1 s1 hr
    generalize w.alloc (.cells #[.int .i64 we, .slice A 4 c] 67) = w1 at *
    go_loopw [22] (fun kk wr => ∃ k : Nat, k ≤ 4 ∧ kk = .int .i64 k ∧ PagesTo ps k ∧ Below w1.heap.size w1 wr) (fun kk _ => 4 - (intOf kk).toNat)
    case atStart => exact ⟨0, Nat.zero_le _, rfl, PagesTo.zero _, Below.refl _ _⟩
    case round =>
      obtain ⟨k, hk, rfl, hto, hbl⟩ := hrel
      have HT := Lib.hid hto
      by_cases hlt : k < 4
      · obtain ⟨b, off, rfl, hbB, hc⟩ := hr1.at_ (by omega)
        have hb1 : b < w1.heap.size := by have := HS1.out; omega
        obtain ⟨c0, c1, c2, c3, c4⟩ := hc k hlt
        replace c0 := (hbl.cell hb1).trans c0
        replace c1 := (hbl.cell hb1).trans c1
        replace c2 := (hbl.cell hb1).trans c2
        replace c3 := (hbl.cell hb1).trans c3
        replace c4 := (hbl.cell hb1).trans c4
        obtain ⟨P, hP⟩ : ∃ P, ps.getD k noPage = P := ⟨_, rfl⟩
        rw [hP] at c0 c1 c2 c3 c4
        obtain ⟨f, x, y, z, s⟩ := P
        simp only at c0 c1 c2 c3 c4
        have HP := Lib.hid hP
        have HBL := Lib.hid hbl
        have hHC := Lib.hid hc
        clear hP hto hbl hc hr1
        have HK1 := Lib.hid k1
        have hsz := HBL.out.size
        go_wp2_with fail
        have bx : Below w1.heap.size w1 (wr.alloc (.cells #[.bool f, .int .i64 x, .int .i64 y, .int .i64 z, .int .i64 s] 102)) := HBL.out.alloc hsz _
        have fx : (wr.alloc (.cells #[.bool f, .int .i64 x, .int .i64 y, .int .i64 z, .int .i64 s] 102)).cell? ⟨wr.heap.size, 0, none⟩ = some (.bool f) := (Blk.new wr 102 #[.bool f, .int .i64 x, .int .i64 y, .int .i64 z, .int .i64 s]).cell 0
        have sx : wr.heap.size < (wr.alloc (.cells #[.bool f, .int .i64 x, .int .i64 y, .int .i64 z, .int .i64 s] 102)).heap.size := by simp
        generalize wr.alloc (.cells #[.bool f, .int .i64 x, .int .i64 y, .int .i64 z, .int .i64 s] 102) = wx at *
        generalize wr.heap.size = g4 at *
        refine (pageValid_impl f x y z s _).mono ?_
        rintro e w2 ⟨rfl, hb2⟩
        have b2 : Below w1.heap.size w1 w2 := bx.trans (hb2.mono bx.size)
        have f2 := (hb2.cell (p := ⟨g4, 0, none⟩) sx).trans fx
        have k2 := (b2.cell (p := ⟨w.heap.size, 1, none⟩) (by have := HS1.out; show w.heap.size < w1.heap.size; omega)).trans HK1.out
        clear bx fx sx hb2 c0 c1 c2 c3 c4 k1 hsz HBL
        have HB2 := Lib.hid b2
        by_cases hok : PageOk ⟨f, x, y, z, s⟩
        · have hd : decide (PageOk ⟨f, x, y, z, s⟩) = true := decide_eq_true hok
          have HOK := Lib.hid (show PageOk (ps.getD k noPage) by rw [HP.out]; exact hok)
          rw [hd]
          rcases k with _ | kp
          · have HT2 := Lib.hid (HT.out.succ (k := 0) HOK.out (fun h => absurd h (Nat.lt_irrefl _)))
            clear hok hd b2
            go_wp2
            go_roundw
            case rel => exact ⟨1, by omega, rfl, HT2.out, HB2.out⟩
            case measure => simp [intOf]
          · have hkp : (1 : Int) ≤ (kp : Int) + 1 := by omega
            have hkp0 : (0 : Int) < (kp : Int) + 1 := by omega
            have hkd : decide ((kp : Int) + 1 > 0) = true := decide_eq_true hkp0
            cases f
            · have HT2 := Lib.hid (HT.out.succ (k := kp + 1) HOK.out (fun _ h => by rw [HP.out] at h; cases h))
              clear hok hd b2
              go_wp2
              go_roundw
              case rel => exact ⟨kp + 1 + 1, by omega, by go_num, HT2.out, HB2.out⟩
              case measure => simp [intOf]; omega
            · obtain ⟨d0, _, _, _, _⟩ := hHC.out kp (by omega)
              replace d0 := (b2.cell hb1).trans d0
              have HF := Lib.hid (show ∀ h : (ps.getD kp noPage).full = true, PagesTo ps (kp + 1 + 1) from fun h => HT.out.succ (k := kp + 1) HOK.out (fun _ _ => h))
              have HG := Lib.hid (show (ps.getD kp noPage).full = false → ¬ BlockOk ⟨we, ps⟩ from fun h hok => by
                have := (hok.2.2 (kp + 1) (by omega)).2 (by omega) (by simp only; rw [HP.out])
                simp only [Nat.add_sub_cancel] at this
                rw [h] at this; cases this)
              generalize (ps.getD kp noPage).full = pf at *
              cases pf
              · have hno := Lib.hid (HG.out rfl)
                clear hok hd b2
                go_wp2
                go_ret
                exact ⟨ret_bof_f hno.out, HB1.out.trans (HB2.out.mono (by have := HS1.out; omega))⟩
              · have HT2 := Lib.hid (HF.out rfl)
                clear hok hd b2
                go_wp2
                go_roundw
                case rel => exact ⟨kp + 1 + 1, by omega, by go_num, HT2.out, HB2.out⟩
                case measure => simp [intOf]; omega
        · have hd : decide (PageOk ⟨f, x, y, z, s⟩) = false := decide_eq_false hok
          have hno := Lib.hid (show ¬ BlockOk ⟨we, ps⟩ from fun h => hok (by have := (h.2.2 k hlt).1; simp only at this; rw [HP.out] at this; exact this))
          rw [hd]
          clear hok hd b2
          go_wp2
          go_ret
          exact ⟨ret_bof_f hno.out, HB1.out.trans (HB2.out.mono (by have := HS1.out; omega))⟩
      · obtain rfl : k = 4 := by omega
        have hyes := Lib.hid (show BlockOk ⟨we, ps⟩ from ⟨by simp only; omega, HL.out, HT.out⟩)
        have HBL := Lib.hid hbl
        clear hbl hto
        go_wp2
        go_ret
        exact ⟨ret_bof_t hyes.out, HB1.out.trans (HBL.out.mono (by have := HS1.out; omega))⟩
  · have hno := Lib.hid (show ¬ BlockOk ⟨we, ps⟩ from fun h => h4 (by have := h.2.1; have := HL.out; simp only at *; omega))
    have hq : ((n : Int) != 4) = true := by simp; omega
    have hq' : ((n : Int) == 4) = false := by simp; omega
    clear h4
    go_enter Try.func78, Try.ntmps78
    go_wp2
    go_ret
    exact ⟨ret_bof_f hno.out, (Below.refl _ _).alloc (Nat.le_refl _) _⟩
theorem blockValid_spec {we : Int} {A : Option Addr} {n c B : Nat} {ps : List PageV} {w : World} (hr : RdG w B A n ps) (hB : B ≤ w.heap.size) (hnc : n ≤ c) (hcm : c ≤ 9223372036854775807) :
    Calls Try.prog 75 #[.agg #[.int .i64 we, .slice A n c]] w fun e w' => e = .returned (.bool (bof (BlockOk ⟨we, ps⟩))) ∧ Below w.heap.size w w' := by
  have HL := Lib.hid hr.len
  have b1 : Below w.heap.size w (w.alloc (.cells #[.int .i64 we, .slice A n c] 67)) := (Below.refl _ _).alloc (Nat.le_refl _) _
  have k0 : (w.alloc (.cells #[.int .i64 we, .slice A n c] 67)).cell? ⟨w.heap.size, 0, none⟩ = some (.int .i64 we) := (Blk.new w 67 #[.int .i64 we, .slice A n c]).cell 0
  have k1 : (w.alloc (.cells #[.int .i64 we, .slice A n c] 67)).cell? ⟨w.heap.size, 1, none⟩ = some (.slice A n c) := (Blk.new w 67 #[.int .i64 we, .slice A n c]).cell 1
  have s1 : (w.alloc (.cells #[.int .i64 we, .slice A n c] 67)).heap.size = w.heap.size + 1 := by simp
  go_enter Try.func75, Try.ntmps75
  go_wp2
  have hr1 := (hr.mono hB).below b1
  have HB1 := Lib.hid b1
  have HS1 := Lib.hid s1
  clear b1 s1 hr
  generalize w.alloc (.cells #[.int .i64 we, .slice A n c] 67) = w1 at *
  generalize hg0 : w.heap.size = g0 at k0 k1 ⊢
  have hg0s : g0 < w1.heap.size := by have := HS1.out; omega
  have HG0 := Lib.hid hg0
  clear hg0
  go_loopw [3] (fun kk wr => ∃ k : Nat, k ≤ n ∧ kk = .int .i64 k ∧ PagesTo ps k ∧ Below w1.heap.size w1 wr) (fun kk _ => n - (intOf kk).toNat)
  case atStart => exact ⟨0, Nat.zero_le _, rfl, PagesTo.zero _, Below.refl _ _⟩
  case round =>
    obtain ⟨k, hk, rfl, hto, hbl⟩ := hrel
    have HT := Lib.hid hto
    have k2 := (hbl.cell (p := ⟨g0, 1, none⟩) hg0s).trans k1
    have HBL := Lib.hid hbl
    by_cases hlt : k < n
    · obtain ⟨b, off, rfl, hbB, hc⟩ := hr1.at_ (by omega)
      have hb1 : b < w1.heap.size := by have := HS1.out; have := HG0.out; omega
      obtain ⟨c0, c1, c2, c3, c4⟩ := hc k hlt
      replace c0 := (hbl.cell hb1).trans c0
      replace c1 := (hbl.cell hb1).trans c1
      replace c2 := (hbl.cell hb1).trans c2
      replace c3 := (hbl.cell hb1).trans c3
      replace c4 := (hbl.cell hb1).trans c4
      obtain ⟨P, hP⟩ : ∃ P, ps.getD k noPage = P := ⟨_, rfl⟩
      rw [hP] at c0 c1 c2 c3 c4
      obtain ⟨f, x, y, z, s⟩ := P
      simp only at c0 c1 c2 c3 c4
      have HP := Lib.hid hP
      have hHC := Lib.hid hc
      have HNO := Lib.hid (show ¬ PagesTo ps (k + 1) → ¬ BlockOk ⟨we, ps⟩ from fun h hok => by
        have h4 := hok.2.1
        simp only at h4
        have := HL.out
        exact h (fun i hi => hok.2.2 i (by omega)))
      clear hP hto hbl hc hr1
      go_wp2_with fail
      refine (pageValid_spec f x y z s _).mono ?_
      rintro e w2 ⟨rfl, hb2⟩
      have b2 : Below w1.heap.size w1 w2 := HBL.out.trans (hb2.mono HBL.out.size)
      have f2 := (hb2.cell (block_lt_of_cell c0)).trans c0
      have k3 := (b2.cell (p := ⟨g0, 1, none⟩) hg0s).trans k1
      have HB2 := Lib.hid b2
      clear hb2 c0 c1 c2 c3 c4 k2
      by_cases hok : PageOk ⟨f, x, y, z, s⟩
      · have hd : decide (PageOk ⟨f, x, y, z, s⟩) = true := decide_eq_true hok
        have HOK := Lib.hid (show PageOk (ps.getD k noPage) by rw [HP.out]; exact hok)
        rw [hd]
        rcases k with _ | kp
        · have HT2 := Lib.hid (HT.out.succ (k := 0) HOK.out (fun h => absurd h (Nat.lt_irrefl _)))
          clear hok hd b2
          go_wp2
          go_roundw
          case rel => exact ⟨1, by omega, rfl, HT2.out, HB2.out⟩
          case measure => simp [intOf]; omega
        · have hkp : (1 : Int) ≤ (kp : Int) + 1 := by omega
          have hkp0 : (0 : Int) < (kp : Int) + 1 := by omega
          have hkd : decide ((kp : Int) + 1 > 0) = true := decide_eq_true hkp0
          cases f
          · have HT2 := Lib.hid (HT.out.succ (k := kp + 1) HOK.out (fun _ h => by rw [HP.out] at h; cases h))
            clear hok hd b2
            go_wp2
            go_roundw
            case rel => exact ⟨kp + 1 + 1, by omega, by go_num, HT2.out, HB2.out⟩
            case measure => simp [intOf]; omega
          · obtain ⟨d0, _, _, _, _⟩ := hHC.out kp (by omega)
            replace d0 := (b2.cell hb1).trans d0
            have HF := Lib.hid (show ∀ h : (ps.getD kp noPage).full = true, PagesTo ps (kp + 1 + 1) from fun h => HT.out.succ (k := kp + 1) HOK.out (fun _ _ => h))
            have HG := Lib.hid (show (ps.getD kp noPage).full = false → ¬ BlockOk ⟨we, ps⟩ from fun h => HNO.out (fun hp => by
              have := (hp (kp + 1) (by omega)).2 (by omega) (by rw [HP.out])
              simp only [Nat.add_sub_cancel] at this
              rw [h] at this; cases this))
            generalize (ps.getD kp noPage).full = pf at *
            cases pf
            · have hno := Lib.hid (HG.out rfl)
              clear hok hd b2
              go_wp2
              go_ret
              exact ⟨ret_bof_f hno.out, HB1.out.trans (HB2.out.mono (by have := HS1.out; omega))⟩
            · have HT2 := Lib.hid (HF.out rfl)
              clear hok hd b2
              go_wp2
              go_roundw
              case rel => exact ⟨kp + 1 + 1, by omega, by go_num, HT2.out, HB2.out⟩
              case measure => simp [intOf]; omega
      · have hd : decide (PageOk ⟨f, x, y, z, s⟩) = false := decide_eq_false hok
        have hno := Lib.hid (HNO.out (fun hp => hok (by have := (hp k (by omega)).1; rw [HP.out] at this; exact this)))
        rw [hd]
        clear hok hd b2
        go_wp2
        go_ret
        exact ⟨ret_bof_f hno.out, HB1.out.trans (HB2.out.mono (by have := HS1.out; omega))⟩
    · obtain rfl : k = n := by omega
      have k3 := (hbl.cell (p := ⟨g0, 0, none⟩) hg0s).trans k0
      clear hbl hto
      by_cases hwe : 0 ≤ we ∧ we ≤ 100
      · have hb : inB we 0 100 = true := by rw [inB_t]; exact hwe
        by_cases h4 : k = 4
        · subst h4
          have hyes := Lib.hid (show BlockOk ⟨we, ps⟩ from ⟨hwe, HL.out, HT.out⟩)
          go_wp2_with (go_at_call 32; refine (l1In_c _ _ _ _).mono ?_; rw [hb]; rintro e w' ⟨rfl, rfl⟩)
          go_ret
          exact ⟨ret_bof_t hyes.out, HB1.out.trans (HBL.out.mono (by have := HS1.out; omega))⟩
        · have hno := Lib.hid (show ¬ BlockOk ⟨we, ps⟩ from fun h => h4 (by have := h.2.1; have := HL.out; simp only at *; omega))
          have hq : ((k : Int) == 4) = false := by simp; omega
          clear h4
          go_wp2_with (go_at_call 32; refine (l1In_c _ _ _ _).mono ?_; rw [hb]; rintro e w' ⟨rfl, rfl⟩)
          go_ret
          exact ⟨ret_bof_f hno.out, HB1.out.trans (HBL.out.mono (by have := HS1.out; omega))⟩
      · have hb : inB we 0 100 = false := by rw [inB_f]; omega
        have hno := Lib.hid (show ¬ BlockOk ⟨we, ps⟩ from fun h => hwe h.1)
        go_wp2_with (go_at_call 32; refine (l1In_c _ _ _ _).mono ?_; rw [hb]; rintro e w' ⟨rfl, rfl⟩)
        go_ret
        exact ⟨ret_bof_f hno.out, HB1.out.trans (HBL.out.mono (by have := HS1.out; omega))⟩
end Go.Proofs.Ytjnpgdhpneifjaa

/- DeviceValid, the program's and the reference's. Condition: at most 2^20 blocks. -/
namespace Go.Proofs.Ytjnpgdhpneifjaa
open Go.ChangeShapes Go.WideShapes Go.ChangeAt Go.RowKit
set_option linter.unusedVariables false
set_option linter.unusedSimpArgs false

def DevTo (bs : List BlockV) (k : Nat) : Prop := ∀ i, i < k → BlockOk (bs.getD i noBlock)
theorem DevTo.zero (bs : List BlockV) : DevTo bs 0 := fun i h => absurd h (Nat.not_lt_zero _)
theorem DevTo.succ {bs : List BlockV} {k : Nat} (h : DevTo bs k) (h1 : BlockOk (bs.getD k noBlock)) : DevTo bs (k + 1) := by
  intro i hi
  by_cases e : i = k
  · subst e; exact h1
  · exact h i (by omega)
def DevOk (bs : List BlockV) : Prop := (1 ≤ bs.length ∧ bs.length ≤ 12) ∧ DevTo bs bs.length

theorem deviceValid_impl {A : Option Addr} {n c B : Nat} {bs : List BlockV} {w : World} (hr : RdB w B A n bs) (hB : B ≤ w.heap.size) (hn : n ≤ 1048576) :
    Calls Try.prog 35 #[.slice A n c] w fun e w' => e = .returned (.bool (bof (DevOk bs))) ∧ Below w.heap.size w w' := by
  have HL := Lib.hid hr.len
  by_cases h1 : n < 1
  · have hno := Lib.hid (show ¬ DevOk bs from fun h => by have := h.1.1; have := HL.out; omega)
    obtain rfl : n = 0 := by omega
    go_enter Try.func35, Try.ntmps35
    go_wp2
    go_ret
    exact ⟨ret_bof_f hno.out, Below.refl _ _⟩
  by_cases h2 : 12 < n
  · have hno := Lib.hid (show ¬ DevOk bs from fun h => by have := h.1.2; have := HL.out; omega)
    go_enter Try.func35, Try.ntmps35
    go_wp2
    go_ret
    exact ⟨ret_bof_f hno.out, Below.refl _ _⟩
  go_enter Try.func35, Try.ntmps35
  go_wp2
  go_loopw [15] (fun kk wr => ∃ k : Nat, k ≤ n ∧ kk = .int .i64 k ∧ DevTo bs k ∧ Below w.heap.size w wr) (fun kk _ => n - (intOf kk).toNat)
  case atStart => exact ⟨0, Nat.zero_le _, rfl, DevTo.zero _, Below.refl _ _⟩
  case round =>
    obtain ⟨k, hk, rfl, hto, hbl⟩ := hrel
    have HT := Lib.hid hto
    have HBL := Lib.hid hbl
    by_cases hlt : k < n
    · obtain ⟨b, off, rfl, hbB, hc⟩ := hr.at_ (by omega)
      obtain ⟨A', n', c', c0, c1, hnc, hcm, hrg⟩ := hc k hlt
      replace c0 := (hbl.cell (p := ⟨b, off + k * 2, none⟩) (show b < w.heap.size by omega)).trans c0
      replace c1 := (hbl.cell (p := ⟨b, off + k * 2 + 1, none⟩) (show b < w.heap.size by omega)).trans c1
      have hrg2 := (hrg.mono hB).below hbl
      obtain ⟨P, hP⟩ : ∃ P, bs.getD k noBlock = P := ⟨_, rfl⟩
      rw [hP] at c0 hrg2
      obtain ⟨we, ps⟩ := P
      simp only at c0 hrg2
      have HP := Lib.hid hP
      have hsz := hbl.size
      clear hP hto hc hr hrg hbl
      go_wp2_with fail
      have bx : Below w.heap.size w (wr.alloc (.cells #[.int .i64 we, .slice A' n' c'] 67)) := HBL.out.alloc hsz _
      have sx : wr.heap.size < (wr.alloc (.cells #[.int .i64 we, .slice A' n' c'] 67)).heap.size := by simp
      have hrg3 := hrg2.below (HBL.out.size |> fun _ => (Below.refl w.heap.size wr).alloc hsz (.cells #[.int .i64 we, .slice A' n' c'] 67))
      generalize wr.alloc (.cells #[.int .i64 we, .slice A' n' c'] 67) = wx at *
      refine (blockValid_impl hrg3 bx.size hnc hcm).mono ?_
      rintro e w2 ⟨rfl, hb2⟩
      have HB2 := Lib.hid (bx.trans (hb2.mono bx.size))
      clear hrg2 hrg3 bx sx hb2 c0 c1
      by_cases hok : BlockOk ⟨we, ps⟩
      · have HT2 := Lib.hid (HT.out.succ (by rw [HP.out]; exact hok))
        rw [bof_t.2 hok]
        clear hok
        go_wp2
        go_roundw
        case rel => exact ⟨k + 1, by omega, by go_num, HT2.out, HB2.out⟩
        case measure => simp [intOf]; omega
      · have hno := Lib.hid (show ¬ DevOk bs from fun h => hok (by have := h.2 k (by have := HL.out; omega); rw [HP.out] at this; exact this))
        rw [bof_f.2 hok]
        clear hok
        go_wp2
        go_ret
        exact ⟨ret_bof_f hno.out, HB2.out⟩
    · obtain rfl : k = n := by omega
      have hyes := Lib.hid (show DevOk bs from ⟨by have := HL.out; omega, by rw [HL.out]; exact HT.out⟩)
      go_wp2
      go_ret
      exact ⟨ret_bof_t hyes.out, HBL.out⟩
theorem deviceValid_spec {A : Option Addr} {n c B : Nat} {bs : List BlockV} {w : World} (hr : RdB w B A n bs) (hB : B ≤ w.heap.size) (hn : n ≤ 1048576) :
    Calls Try.prog 31 #[.slice A n c] w fun e w' => e = .returned (.bool (bof (DevOk bs))) ∧ Below w.heap.size w w' := by
  have HL := Lib.hid hr.len
  go_enter Try.func31, Try.ntmps31
  go_wp2
  go_loopw [3] (fun kk wr => ∃ k : Nat, k ≤ n ∧ kk = .int .i64 k ∧ DevTo bs k ∧ Below w.heap.size w wr) (fun kk _ => n - (intOf kk).toNat)
  case atStart => exact ⟨0, Nat.zero_le _, rfl, DevTo.zero _, Below.refl _ _⟩
  case round =>
    obtain ⟨k, hk, rfl, hto, hbl⟩ := hrel
    have HT := Lib.hid hto
    have HBL := Lib.hid hbl
    by_cases hlt : k < n
    · obtain ⟨b, off, rfl, hbB, hc⟩ := hr.at_ (by omega)
      obtain ⟨A', n', c', c0, c1, hnc, hcm, hrg⟩ := hc k hlt
      replace c0 := (hbl.cell (p := ⟨b, off + k * 2, none⟩) (show b < w.heap.size by omega)).trans c0
      replace c1 := (hbl.cell (p := ⟨b, off + k * 2 + 1, none⟩) (show b < w.heap.size by omega)).trans c1
      have hrg2 := (hrg.mono hB).below hbl
      obtain ⟨P, hP⟩ : ∃ P, bs.getD k noBlock = P := ⟨_, rfl⟩
      rw [hP] at c0 hrg2
      obtain ⟨we, ps⟩ := P
      simp only at c0 hrg2
      have HP := Lib.hid hP
      have hsz := hbl.size
      clear hP hto hc hr hrg hbl
      go_wp2_with fail
      refine (blockValid_spec hrg2 hsz hnc hcm).mono ?_
      rintro e w2 ⟨rfl, hb2⟩
      have HB2 := Lib.hid (HBL.out.trans (hb2.mono hsz))
      clear hrg2 hb2 c0 c1
      by_cases hok : BlockOk ⟨we, ps⟩
      · have HT2 := Lib.hid (HT.out.succ (by rw [HP.out]; exact hok))
        rw [bof_t.2 hok]
        clear hok
        go_wp2
        go_roundw
        case rel => exact ⟨k + 1, by omega, by go_num, HT2.out, HB2.out⟩
        case measure => simp [intOf]; omega
      · have hno := Lib.hid (show ¬ DevOk bs from fun h => hok (by have := h.2 k (by have := HL.out; omega); rw [HP.out] at this; exact this))
        rw [bof_f.2 hok]
        clear hok
        go_wp2
        go_ret
        exact ⟨ret_bof_f hno.out, HB2.out⟩
    · obtain rfl : k = n := by omega
      by_cases h1 : 1 ≤ k ∧ k ≤ 12
      · have hb : inB (k : Int) 1 12 = true := by rw [inB_t]; omega
        have hyes := Lib.hid (show DevOk bs from ⟨by have := HL.out; omega, by rw [HL.out]; exact HT.out⟩)
        go_wp2_with (go_at_call 32; refine (l1In_c _ _ _ _).mono ?_; rw [hb]; rintro e w' ⟨rfl, rfl⟩)
        go_ret
        exact ⟨ret_bof_t hyes.out, HBL.out⟩
      · have hb : inB (k : Int) 1 12 = false := by rw [inB_f]; omega
        have hno := Lib.hid (show ¬ DevOk bs from fun h => by have := h.1; have := HL.out; omega)
        go_wp2_with (go_at_call 32; refine (l1In_c _ _ _ _).mono ?_; rw [hb]; rintro e w' ⟨rfl, rfl⟩)
        go_ret
        exact ⟨ret_bof_f hno.out, HBL.out⟩
end Go.Proofs.Ytjnpgdhpneifjaa

/- What the functions on blocks and devices compute, in plain Lean. No condition. -/
namespace Go.Proofs.Ytjnpgdhpneifjaa
set_option linter.unusedVariables false
set_option linter.unusedSimpArgs false

def nextFrom (ps : List PageV) : Nat → Nat → Int
  | _, 0 => -1
  | k, m + 1 => if (ps.getD k noPage).full = true then nextFrom ps (k + 1) m else k
/-- the number of the first page that is not full; -1 without one -/
def nextP (ps : List PageV) : Int := nextFrom ps 0 ps.length
theorem nextFrom_at {ps : List PageV} : ∀ {m k j : Nat}, k ≤ j → j < k + m → (∀ i, k ≤ i → i < j → (ps.getD i noPage).full = true) → (ps.getD j noPage).full = false → nextFrom ps k m = j
  | 0, k, j, h1, h2, _, _ => by omega
  | m + 1, k, j, h1, h2, h3, h4 => by
    unfold nextFrom
    by_cases e : k = j
    · subst e; rw [if_neg (by rw [h4]; simp)]
    · rw [if_pos (h3 k (Nat.le_refl _) (by omega))]
      exact nextFrom_at (by omega) (by omega) (fun i hi hj => h3 i (by omega) hj) h4
theorem nextFrom_none {ps : List PageV} : ∀ {m k : Nat}, (∀ i, k ≤ i → i < k + m → (ps.getD i noPage).full = true) → nextFrom ps k m = -1
  | 0, k, _ => rfl
  | m + 1, k, h => by
    unfold nextFrom
    rw [if_pos (h k (Nat.le_refl _) (by omega))]
    exact nextFrom_none (fun i hi hj => h i (by omega) (by omega))
theorem nextFrom_or {ps : List PageV} : ∀ {m k : Nat}, (nextFrom ps k m = -1 ∧ ∀ i, k ≤ i → i < k + m → (ps.getD i noPage).full = true) ∨ ∃ j : Nat, nextFrom ps k m = j ∧ k ≤ j ∧ j < k + m ∧ (ps.getD j noPage).full = false ∧ ∀ i, k ≤ i → i < j → (ps.getD i noPage).full = true
  | 0, k => .inl ⟨rfl, fun i _ _ => by omega⟩
  | m + 1, k => by
    unfold nextFrom
    by_cases h : (ps.getD k noPage).full = true
    · rw [if_pos h]
      rcases nextFrom_or (ps := ps) (m := m) (k := k + 1) with ⟨h1, h2⟩ | ⟨j, h1, h2, h3, h4, h5⟩
      · refine .inl ⟨h1, fun i hi hj => ?_⟩
        by_cases e : i = k
        · subst e; exact h
        · exact h2 i (by omega) (by omega)
      · refine .inr ⟨j, h1, by omega, by omega, h4, fun i hi hj => ?_⟩
        by_cases e : i = k
        · subst e; exact h
        · exact h5 i (by omega) hj
    · rw [if_neg h]
      exact .inr ⟨k, rfl, Nat.le_refl _, by omega, by simpa using h, fun i hi hj => by omega⟩
theorem nextP_at {ps : List PageV} {k : Nat} (hk : k < ps.length) (h : ∀ i, i < k → (ps.getD i noPage).full = true) (hf : (ps.getD k noPage).full = false) : nextP ps = k :=
  nextFrom_at (Nat.zero_le _) (by omega) (fun i _ hi => h i hi) hf
theorem nextP_none {ps : List PageV} (h : ∀ i, i < ps.length → (ps.getD i noPage).full = true) : nextP ps = -1 :=
  nextFrom_none (fun i _ hi => h i (by omega))
theorem nextP_or (ps : List PageV) : (nextP ps = -1 ∧ ∀ i, i < ps.length → (ps.getD i noPage).full = true) ∨ ∃ j : Nat, nextP ps = j ∧ j < ps.length ∧ (ps.getD j noPage).full = false ∧ ∀ i, i < j → (ps.getD i noPage).full = true := by
  unfold nextP
  rcases nextFrom_or (ps := ps) (m := ps.length) (k := 0) with ⟨h1, h2⟩ | ⟨j, h1, h2, h3, h4, h5⟩
  · exact .inl ⟨h1, fun i hi => h2 i (Nat.zero_le _) (by omega)⟩
  · exact .inr ⟨j, h1, by omega, h4, fun i hi => h5 i (Nat.zero_le _) hi⟩
/-- a block with a page written behind its full ones -/
def writeF (b : BlockV) (p : PageV) : BlockV := if nextP b.pages < 0 then b else ⟨b.wear, b.pages.set (nextP b.pages).toNat p⟩
theorem writeF_wear (b : BlockV) (p : PageV) : (writeF b p).wear = b.wear := by unfold writeF; split <;> rfl
theorem writeF_len (b : BlockV) (p : PageV) : (writeF b p).pages.length = b.pages.length := by unfold writeF; split <;> simp
theorem getD_setP (ps : List PageV) (i j : Nat) (p : PageV) : (ps.set i p).getD j noPage = if i = j ∧ i < ps.length then p else ps.getD j noPage := by
  rw [List.getD_eq_getElem?_getD, List.getD_eq_getElem?_getD, List.getElem?_set]
  by_cases h : i = j
  · subst h
    by_cases h2 : i < ps.length
    · simp [h2]
    · simp [h2, List.getElem?_eq_none (Nat.le_of_not_lt h2)]
  · simp [h]
theorem writeF_ok {b : BlockV} {p : PageV} (hb : BlockOk b) (hp : PageOk p) (hf : p.full = true) : BlockOk (writeF b p) := by
  unfold writeF
  split
  · exact hb
  · next hn =>
    rcases nextP_or b.pages with ⟨h1, _⟩ | ⟨j, h1, h2, h3, h4⟩
    · omega
    · rw [h1, Int.toNat_natCast]
      obtain ⟨hw, hl, hpg⟩ := hb
      refine ⟨hw, by simpa using hl, fun i hi => ?_⟩
      simp only [getD_setP]
      have hi' := hpg i hi
      refine ⟨?_, fun h0 hfi => ?_⟩
      · split
        · exact hp
        · exact hi'.1
      · by_cases e : j = i - 1
        · rw [if_pos ⟨e, h2⟩]; exact hf
        · rw [if_neg (fun h => e h.1)]
          by_cases e2 : j = i
          · exact h4 (i - 1) (by omega)
          · rw [if_neg (fun h => e2 h.1)] at hfi
            exact hi'.2 h0 hfi
/-- a device with a page written into block n; the page's number -/
def progB (bs : List BlockV) (n : Nat) (p : PageV) : List BlockV := bs.set n (writeF (bs.getD n noBlock) p)
def progAt (bs : List BlockV) (n : Nat) : Int := if nextP (bs.getD n noBlock).pages < 0 then -1 else n * 4 + nextP (bs.getD n noBlock).pages
theorem progB_len (bs : List BlockV) (n : Nat) (p : PageV) : (progB bs n p).length = bs.length := by unfold progB; simp
theorem getD_setB (bs : List BlockV) (i j : Nat) (b : BlockV) : (bs.set i b).getD j noBlock = if i = j ∧ i < bs.length then b else bs.getD j noBlock := by
  rw [List.getD_eq_getElem?_getD, List.getD_eq_getElem?_getD, List.getElem?_set]
  by_cases h : i = j
  · subst h
    by_cases h2 : i < bs.length
    · simp [h2]
    · simp [h2, List.getElem?_eq_none (Nat.le_of_not_lt h2)]
  · simp [h]
theorem devOk_set {bs : List BlockV} {n : Nat} {b : BlockV} (h : DevOk bs) (hb : BlockOk b) : DevOk (bs.set n b) := by
  refine ⟨by simpa using h.1, fun i hi => ?_⟩
  rw [getD_setB]
  split
  · exact hb
  · exact h.2 i (by simpa using hi)
theorem progB_ok {bs : List BlockV} {n : Nat} {p : PageV} (h : DevOk bs) (hn : n < bs.length) (hp : PageOk p) (hf : p.full = true) : DevOk (progB bs n p) := devOk_set h (writeF_ok (h.2 n hn) hp hf)
/-- a block erased -/
def eraseF (b : BlockV) : BlockV := if b.wear = 100 then b else ⟨b.wear + 1, [noPage, noPage, noPage, noPage]⟩
theorem eraseF_ok {b : BlockV} (h : BlockOk b) : BlockOk (eraseF b) := by
  unfold eraseF
  split
  · exact h
  · next hw =>
    obtain ⟨⟨h1, h2⟩, _⟩ := h
    refine ⟨by simp only; omega, rfl, fun i hi => ?_⟩
    have hg : ∀ j, j < 4 → ([noPage, noPage, noPage, noPage] : List PageV).getD j noPage = noPage := by
      intro j hj
      have : j = 0 ∨ j = 1 ∨ j = 2 ∨ j = 3 := by omega
      rcases this with rfl | rfl | rfl | rfl <;> rfl
    simp only
    rw [hg i hi]
    exact ⟨by decide, fun _ h => by cases h⟩
def eraseB (bs : List BlockV) (n : Nat) : List BlockV := bs.set n (eraseF (bs.getD n noBlock))
theorem eraseB_len (bs : List BlockV) (n : Nat) : (eraseB bs n).length = bs.length := by unfold eraseB; simp
theorem eraseB_ok {bs : List BlockV} {n : Nat} (h : DevOk bs) (hn : n < bs.length) : DevOk (eraseB bs n) := devOk_set h (eraseF_ok (h.2 n hn))
end Go.Proofs.Ytjnpgdhpneifjaa

/- BlockNext by the reference, at a valid block. -/
namespace Go.Proofs.Ytjnpgdhpneifjaa
open Go.ChangeShapes Go.WideShapes Go.ChangeAt Go.RowKit
set_option linter.unusedVariables false
set_option linter.unusedSimpArgs false

set_option maxHeartbeats 2000000 in
theorem blockNext_spec {we : Int} {A : Option Addr} {n c B : Nat} {ps : List PageV} {w : World} (hr : RdG w B A n ps) (hB : B ≤ w.heap.size) (hnc : n ≤ c) (hcm : c ≤ 9223372036854775807) (hok : BlockOk ⟨we, ps⟩) :
    Calls Try.prog 113 #[.agg #[.int .i64 we, .slice A n c]] w fun e w' => e = .returned (.int .i64 (nextP ps)) ∧ Below w.heap.size w w' := by
  have HL := Lib.hid hr.len
  have hbt := Lib.hid (bof_t.2 hok)
  have b1 : Below w.heap.size w (w.alloc (.cells #[.int .i64 we, .slice A n c] 67)) := (Below.refl _ _).alloc (Nat.le_refl _) _
  have k1 := Blk.new w 67 #[.int .i64 we, .slice A n c]
  have hr1 := (hr.mono hB).below b1
  have l1 := k1.lt
  have B1 := Lib.hid b1
  clear hok hr b1
  go_enter Try.func113, Try.ntmps113
  go_wp2_with fail
  generalize w.alloc (.cells #[.int .i64 we, .slice A n c] 67) = w1 at *
  go_loopw [3] (fun i wr => ∃ k : Nat, k ≤ n ∧ i = .int .i64 k ∧ (∀ i, i < k → (ps.getD i noPage).full = true) ∧ Below w1.heap.size w1 wr) (fun i _ => n - (intOf i).toNat)
  case atStart => exact ⟨0, Nat.zero_le _, rfl, fun j h => absurd h (Nat.not_lt_zero _), Below.refl _ _⟩
  case round =>
    obtain ⟨k, hk, rfl, hall, hbl⟩ := hrel
    have HA := Lib.hid hall
    have HBL := Lib.hid hbl
    have k2 := k1.below hbl l1
    have l2 := k2.lt
    have t0 := k2.cell 0
    have t1 := k2.cell 1
    simp at t0 t1
    have hr2 := hr1.below (hbl.mono B1.out.size)
    have hs2 := hbl.size
    have hs0 := B1.out.size
    clear hall hbl
    by_cases hlt : k < n
    · have hd : decide (k < n) = true := decide_eq_true hlt
      go_wp2_with fail
      refine (blockValid_spec hr2 (by omega) hnc hcm).mono ?_
      rw [hbt.out]
      rintro e w2 ⟨rfl, b2⟩
      have HB2 := Lib.hid (HBL.out.trans (b2.mono hs2))
      have k3 := k2.below b2 l2
      have hr3 := hr2.below (b2.mono (by omega))
      obtain ⟨b, off, rfl, hbB, hc⟩ := hr3.at_ (by omega)
      obtain ⟨c0, c1, c2, c3, c4⟩ := hc k hlt
      clear hc hr2 hr3 b2 k2 t0 t1
      have t0 := k3.cell 0
      have t1 := k3.cell 1
      simp at t0 t1
      by_cases hf : (ps.getD k noPage).full = true
      · rw [hf] at c0
        have HA2 := Lib.hid (show ∀ i, i < k + 1 → (ps.getD i noPage).full = true from fun i hi => by
          by_cases e : i = k
          · subst e; exact hf
          · exact HA.out i (by omega))
        clear hf c1 c2 c3 c4
        go_wp2
        go_roundw
        case rel => exact ⟨k + 1, by omega, by go_num, HA2.out, HB2.out⟩
        case measure => simp [intOf]; omega
      · have hf' : (ps.getD k noPage).full = false := by simpa using hf
        rw [hf'] at c0
        have HE := Lib.hid (nextP_at (by rw [HL.out]; exact hlt) HA.out hf')
        clear hf hf' c1 c2 c3 c4
        go_wp2
        go_ret
        exact ⟨ret_int HE.out.symm, B1.out.trans (HB2.out.mono hs0)⟩
    · obtain rfl : k = n := by omega
      have HE := Lib.hid (nextP_none (ps := ps) (by rw [HL.out]; exact HA.out))
      go_wp2
      go_ret
      exact ⟨ret_int HE.out.symm, B1.out.trans (HBL.out.mono hs0)⟩
end Go.Proofs.Ytjnpgdhpneifjaa
