/- Pages and blocks: how they read; PageValid, BlockValid, DeviceValid, the program's and the reference's. No condition. -/
import Derived.Test.YtjnpgdhpneifjaaList
import Derived.Test.YtjnpgdhpneifjaaInts
import Derived.BigQuiet
namespace Go.Proofs.Ytjnpgdhpneifjaa
open Go.ChangeShapes Go.WideShapes Go.ChangeAt Go.RowKit
set_option linter.unusedVariables false
set_option linter.unusedSimpArgs false

structure PageV where
  full : Bool
  file : Int
  place : Int
  value : Int
  stamp : Int
deriving DecidableEq, Inhabited
def noPage : PageV := ⟨false, 0, 0, 0, 0⟩
structure BlockV where
  wear : Int
  pages : List PageV
deriving DecidableEq, Inhabited
def noBlock : BlockV := ⟨0, []⟩

/-- a slice that reads as these pages, in a block below B -/
structure RdG (w : World) (B : Nat) (A : Option Addr) (n : Nat) (ps : List PageV) : Prop where
  len : ps.length = n
  at_ : 0 < n → ∃ b off, A = some ⟨b, off, none⟩ ∧ b < B ∧ ∀ i, i < n →
    w.cell? ⟨b, off + i * 5, none⟩ = some (.bool (ps.getD i noPage).full) ∧ w.cell? ⟨b, off + i * 5 + 1, none⟩ = some (.int .i64 (ps.getD i noPage).file) ∧ w.cell? ⟨b, off + i * 5 + 2, none⟩ = some (.int .i64 (ps.getD i noPage).place) ∧
    w.cell? ⟨b, off + i * 5 + 3, none⟩ = some (.int .i64 (ps.getD i noPage).value) ∧ w.cell? ⟨b, off + i * 5 + 4, none⟩ = some (.int .i64 (ps.getD i noPage).stamp)
theorem RdG.mono {w B B' A n xs} (h : RdG w B A n xs) (hB : B ≤ B') : RdG w B' A n xs :=
  ⟨h.len, fun hn => by obtain ⟨b, off, e, hb, hc⟩ := h.at_ hn; exact ⟨b, off, e, by omega, hc⟩⟩
theorem RdG.below {w w' B A n xs} (h : RdG w B A n xs) (hb : Below B w w') : RdG w' B A n xs :=
  ⟨h.len, fun hn => by
    obtain ⟨b, off, e, hb1, hc⟩ := h.at_ hn
    refine ⟨b, off, e, hb1, fun i hi => ?_⟩
    obtain ⟨h0, h1, h2, h3, h4⟩ := hc i hi
    exact ⟨(hb.cell hb1).trans h0, (hb.cell hb1).trans h1, (hb.cell hb1).trans h2, (hb.cell hb1).trans h3, (hb.cell hb1).trans h4⟩⟩
/-- a slice that reads as these blocks -/
structure RdB (w : World) (B : Nat) (A : Option Addr) (n : Nat) (bs : List BlockV) : Prop where
  len : bs.length = n
  at_ : 0 < n → ∃ b off, A = some ⟨b, off, none⟩ ∧ b < B ∧ ∀ i, i < n → ∃ (A' : Option Addr) (n' c' : Nat),
    w.cell? ⟨b, off + i * 2, none⟩ = some (.int .i64 (bs.getD i noBlock).wear) ∧ w.cell? ⟨b, off + i * 2 + 1, none⟩ = some (.slice A' n' c') ∧ n' ≤ c' ∧ c' ≤ 9223372036854775807 ∧ RdG w B A' n' (bs.getD i noBlock).pages
theorem RdB.mono {w B B' A n xs} (h : RdB w B A n xs) (hB : B ≤ B') : RdB w B' A n xs :=
  ⟨h.len, fun hn => by
    obtain ⟨b, off, e, hb, hc⟩ := h.at_ hn
    refine ⟨b, off, e, by omega, fun i hi => ?_⟩
    obtain ⟨A', n', c', h0, h1, h2, h3, h4⟩ := hc i hi
    exact ⟨A', n', c', h0, h1, h2, h3, h4.mono hB⟩⟩
theorem RdB.below {w w' B A n xs} (h : RdB w B A n xs) (hb : Below B w w') : RdB w' B A n xs :=
  ⟨h.len, fun hn => by
    obtain ⟨b, off, e, hb1, hc⟩ := h.at_ hn
    refine ⟨b, off, e, hb1, fun i hi => ?_⟩
    obtain ⟨A', n', c', h0, h1, h2, h3, h4⟩ := hc i hi
    exact ⟨A', n', c', (hb.cell hb1).trans h0, (hb.cell hb1).trans h1, h2, h3, h4.below hb⟩⟩

def PageOk (p : PageV) : Prop := if p.full then (0 ≤ p.file ∧ p.file ≤ 7) ∧ (0 ≤ p.place ∧ p.place ≤ 5) ∧ (0 ≤ p.value ∧ p.value ≤ 9999) ∧ (1 ≤ p.stamp ∧ p.stamp ≤ 1000000) else p.file = 0 ∧ p.place = 0 ∧ p.value = 0 ∧ p.stamp = 0
instance (p : PageV) : Decidable (PageOk p) := by unfold PageOk; infer_instance

theorem pageOk_no {x y z s : Int} : PageOk ⟨false, x, y, z, s⟩ ↔ x = 0 ∧ y = 0 ∧ z = 0 ∧ s = 0 := by simp [PageOk]
theorem pageOk_yes {x y z s : Int} : PageOk ⟨true, x, y, z, s⟩ ↔ (0 ≤ x ∧ x ≤ 7) ∧ (0 ≤ y ∧ y ≤ 5) ∧ (0 ≤ z ∧ z ≤ 9999) ∧ (1 ≤ s ∧ s ≤ 1000000) := by simp [PageOk]
theorem pageValid_impl (f : Bool) (x y z s : Int) (w : World) : Calls Try.prog 110 #[.agg #[.bool f, .int .i64 x, .int .i64 y, .int .i64 z, .int .i64 s]] w fun e w' => e = .returned (.bool (decide (PageOk ⟨f, x, y, z, s⟩))) ∧ Below w.heap.size w w' := by
  cases f
  · go_enter Try.func110, Try.ntmps110
    go_wp2
    all_goals
      go_ret
      exact ⟨ret_bool (by rw [eq_comm]; first | (rw [decide_eq_true_iff, pageOk_no]; omega) | (rw [decide_eq_false_iff_not, pageOk_no]; omega)), (Below.refl _ _).alloc (Nat.le_refl _) _⟩
  · go_enter Try.func110, Try.ntmps110
    go_wp2
    all_goals
      go_ret
      exact ⟨ret_bool (by rw [Bool.eq_iff_iff, decide_eq_true_iff (p := PageOk _), pageOk_yes]; simp; omega), (Below.refl _ _).alloc (Nat.le_refl _) _⟩
theorem pageValid_spec (f : Bool) (x y z s : Int) (w : World) : Calls Try.prog 108 #[.agg #[.bool f, .int .i64 x, .int .i64 y, .int .i64 z, .int .i64 s]] w fun e w' => e = .returned (.bool (decide (PageOk ⟨f, x, y, z, s⟩))) ∧ Below w.heap.size w w' := by
  cases f
  · go_enter Try.func108, Try.ntmps108
    go_wp2
    all_goals
      go_ret
      exact ⟨ret_bool (by rw [eq_comm]; first | (rw [decide_eq_true_iff, pageOk_no]; omega) | (rw [decide_eq_false_iff_not, pageOk_no]; omega)), (Below.refl _ _).alloc (Nat.le_refl _) _⟩
  · go_enter Try.func108, Try.ntmps108
    go_wp2_with (go_at_call 32; refine (l1In_c _ _ _ _).mono ?_; rintro e w' ⟨rfl, rfl⟩)
    all_goals
      go_ret
      exact ⟨ret_bool (by rw [Bool.eq_iff_iff, decide_eq_true_iff (p := PageOk _), pageOk_yes]; simp only [Bool.not_eq_true, inB_t, inB_f, Bool.false_eq_true, true_iff, iff_true, iff_false, false_iff] at *; omega), (Below.refl _ _).alloc (Nat.le_refl _) _⟩

/-- no page written after one that is not -/
def PagesTo (ps : List PageV) (k : Nat) : Prop := ∀ i, i < k → PageOk (ps.getD i noPage) ∧ (0 < i → (ps.getD i noPage).full = true → (ps.getD (i - 1) noPage).full = true)
theorem PagesTo.zero (ps : List PageV) : PagesTo ps 0 := fun i h => absurd h (Nat.not_lt_zero _)
theorem PagesTo.succ {ps : List PageV} {k : Nat} (h : PagesTo ps k) (h1 : PageOk (ps.getD k noPage)) (h2 : 0 < k → (ps.getD k noPage).full = true → (ps.getD (k - 1) noPage).full = true) : PagesTo ps (k + 1) := by
  intro i hi
  by_cases e : i = k
  · subst e; exact ⟨h1, h2⟩
  · exact h i (by omega)
def BlockOk (b : BlockV) : Prop := (0 ≤ b.wear ∧ b.wear ≤ 100) ∧ b.pages.length = 4 ∧ PagesTo b.pages 4

theorem blockValid_impl {we : Int} {A : Option Addr} {n c B : Nat} {ps : List PageV} {w : World} (hr : RdG w B A n ps) (hB : B ≤ w.heap.size) (hnc : n ≤ c) (hcm : c ≤ 9223372036854775807) :
    Calls Try.prog 78 #[.agg #[.int .i64 we, .slice A n c]] w fun e w' => e = .returned (.bool (bof (BlockOk ⟨we, ps⟩))) ∧ Below w.heap.size w w' := by
  have HL := Lib.hid hr.len
  by_cases h1 : we < 0
  · have hno := Lib.hid (show ¬ BlockOk ⟨we, ps⟩ from fun h => by have := h.1.1; simp only at this; omega)
    go_enter Try.func78, Try.ntmps78
    go_wp2
    go_ret
    exact ⟨ret_bof_f hno.out, (Below.refl _ _).alloc (Nat.le_refl _) _⟩
  by_cases h2 : 100 < we
  · have hno := Lib.hid (show ¬ BlockOk ⟨we, ps⟩ from fun h => by have := h.1.2; simp only at this; omega)
    go_enter Try.func78, Try.ntmps78
    go_wp2
    go_ret
    exact ⟨ret_bof_f hno.out, (Below.refl _ _).alloc (Nat.le_refl _) _⟩
  by_cases h4 : n = 4
  · subst h4
    have b1 : Below w.heap.size w (w.alloc (.cells #[.int .i64 we, .slice A 4 c] 67)) := (Below.refl _ _).alloc (Nat.le_refl _) _
    have k0 : (w.alloc (.cells #[.int .i64 we, .slice A 4 c] 67)).cell? ⟨w.heap.size, 0, none⟩ = some (.int .i64 we) := (Blk.new w 67 #[.int .i64 we, .slice A 4 c]).cell 0
    have k1 : (w.alloc (.cells #[.int .i64 we, .slice A 4 c] 67)).cell? ⟨w.heap.size, 1, none⟩ = some (.slice A 4 c) := (Blk.new w 67 #[.int .i64 we, .slice A 4 c]).cell 1
    have s1 : (w.alloc (.cells #[.int .i64 we, .slice A 4 c] 67)).heap.size = w.heap.size + 1 := by simp
    go_enter Try.func78, Try.ntmps78
    go_wp2
    have hr1 := (hr.mono hB).below b1
    have HB1 := Lib.hid b1
    have HS1 := Lib.hid s1
    clear k0 b1 s1 hr
    generalize w.alloc (.cells #[.int .i64 we, .slice A 4 c] 67) = w1 at *
    go_loopw [22] (fun kk wr => ∃ k : Nat, k ≤ 4 ∧ kk = .int .i64 k ∧ PagesTo ps k ∧ Below w1.heap.size w1 wr) (fun kk _ => 4 - (intOf kk).toNat)
    case atStart => exact ⟨0, Nat.zero_le _, rfl, PagesTo.zero _, Below.refl _ _⟩
    case round =>
      obtain ⟨k, hk, rfl, hto, hbl⟩ := hrel
      have HT := Lib.hid hto
      by_cases hlt : k < 4
      · obtain ⟨b, off, rfl, hbB, hc⟩ := hr1.at_ (by omega)
        have hb1 : b < w1.heap.size := by have := HS1.out; omega
        obtain ⟨c0, c1, c2, c3, c4⟩ := hc k hlt
        replace c0 := (hbl.cell hb1).trans c0
        replace c1 := (hbl.cell hb1).trans c1
        replace c2 := (hbl.cell hb1).trans c2
        replace c3 := (hbl.cell hb1).trans c3
        replace c4 := (hbl.cell hb1).trans c4
        obtain ⟨P, hP⟩ : ∃ P, ps.getD k noPage = P := ⟨_, rfl⟩
        rw [hP] at c0 c1 c2 c3 c4
        obtain ⟨f, x, y, z, s⟩ := P
        simp only at c0 c1 c2 c3 c4
        have HP := Lib.hid hP
        have HBL := Lib.hid hbl
        have hHC := Lib.hid hc
        clear hP hto hbl hc hr1
        have HK1 := Lib.hid k1
        have hsz := HBL.out.size
        go_wp2_with fail
        have bx : Below w1.heap.size w1 (wr.alloc (.cells #[.bool f, .int .i64 x, .int .i64 y, .int .i64 z, .int .i64 s] 102)) := HBL.out.alloc hsz _
        have fx : (wr.alloc (.cells #[.bool f, .int .i64 x, .int .i64 y, .int .i64 z, .int .i64 s] 102)).cell? ⟨wr.heap.size, 0, none⟩ = some (.bool f) := (Blk.new wr 102 #[.bool f, .int .i64 x, .int .i64 y, .int .i64 z, .int .i64 s]).cell 0
        have sx : wr.heap.size < (wr.alloc (.cells #[.bool f, .int .i64 x, .int .i64 y, .int .i64 z, .int .i64 s] 102)).heap.size := by simp
        generalize wr.alloc (.cells #[.bool f, .int .i64 x, .int .i64 y, .int .i64 z, .int .i64 s] 102) = wx at *
        generalize wr.heap.size = g4 at *
        refine (pageValid_impl f x y z s _).mono ?_
        rintro e w2 ⟨rfl, hb2⟩
        have b2 : Below w1.heap.size w1 w2 := bx.trans (hb2.mono bx.size)
        have f2 := (hb2.cell (p := ⟨g4, 0, none⟩) sx).trans fx
        have k2 := (b2.cell (p := ⟨w.heap.size, 1, none⟩) (by have := HS1.out; show w.heap.size < w1.heap.size; omega)).trans HK1.out
        clear bx fx sx hb2 c0 c1 c2 c3 c4 k1 hsz HBL
        have HB2 := Lib.hid b2
        by_cases hok : PageOk ⟨f, x, y, z, s⟩
        · have hd : decide (PageOk ⟨f, x, y, z, s⟩) = true := decide_eq_true hok
          have HOK := Lib.hid (show PageOk (ps.getD k noPage) by rw [HP.out]; exact hok)
          rw [hd]
          rcases k with _ | kp
          · have HT2 := Lib.hid (HT.out.succ (k := 0) HOK.out (fun h => absurd h (Nat.lt_irrefl _)))
            clear hok hd b2
            go_wp2
            go_roundw
            case rel => exact ⟨1, by omega, rfl, HT2.out, HB2.out⟩
            case measure => simp [intOf]
          · have hkp : (1 : Int) ≤ (kp : Int) + 1 := by omega
            have hkp0 : (0 : Int) < (kp : Int) + 1 := by omega
            have hkd : decide ((kp : Int) + 1 > 0) = true := decide_eq_true hkp0
            cases f
            · have HT2 := Lib.hid (HT.out.succ (k := kp + 1) HOK.out (fun _ h => by rw [HP.out] at h; cases h))
              clear hok hd b2
              go_wp2
              go_roundw
              case rel => exact ⟨kp + 1 + 1, by omega, by go_num, HT2.out, HB2.out⟩
              case measure => simp [intOf]; omega
            · obtain ⟨d0, _, _, _, _⟩ := hHC.out kp (by omega)
              replace d0 := (b2.cell hb1).trans d0
              have HF := Lib.hid (show ∀ h : (ps.getD kp noPage).full = true, PagesTo ps (kp + 1 + 1) from fun h => HT.out.succ (k := kp + 1) HOK.out (fun _ _ => h))
              have HG := Lib.hid (show (ps.getD kp noPage).full = false → ¬ BlockOk ⟨we, ps⟩ from fun h hok => by
                have := (hok.2.2 (kp + 1) (by omega)).2 (by omega) (by simp only; rw [HP.out])
                simp only [Nat.add_sub_cancel] at this
                rw [h] at this; cases this)
              generalize (ps.getD kp noPage).full = pf at *
              cases pf
              · have hno := Lib.hid (HG.out rfl)
                clear hok hd b2
                go_wp2
                go_ret
                exact ⟨ret_bof_f hno.out, HB1.out.trans (HB2.out.mono (by have := HS1.out; omega))⟩
              · have HT2 := Lib.hid (HF.out rfl)
                clear hok hd b2
                go_wp2
                go_roundw
                case rel => exact ⟨kp + 1 + 1, by omega, by go_num, HT2.out, HB2.out⟩
                case measure => simp [intOf]; omega
        · have hd : decide (PageOk ⟨f, x, y, z, s⟩) = false := decide_eq_false hok
          have hno := Lib.hid (show ¬ BlockOk ⟨we, ps⟩ from fun h => hok (by have := (h.2.2 k hlt).1; simp only at this; rw [HP.out] at this; exact this))
          rw [hd]
          clear hok hd b2
          go_wp2
          go_ret
          exact ⟨ret_bof_f hno.out, HB1.out.trans (HB2.out.mono (by have := HS1.out; omega))⟩
      · obtain rfl : k = 4 := by omega
        have hyes := Lib.hid (show BlockOk ⟨we, ps⟩ from ⟨by simp only; omega, HL.out, HT.out⟩)
        have HBL := Lib.hid hbl
        clear hbl hto
        go_wp2
        go_ret
        exact ⟨ret_bof_t hyes.out, HB1.out.trans (HBL.out.mono (by have := HS1.out; omega))⟩
  · have hno := Lib.hid (show ¬ BlockOk ⟨we, ps⟩ from fun h => h4 (by have := h.2.1; have := HL.out; simp only at *; omega))
    have hq : ((n : Int) != 4) = true := by simp; omega
    have hq' : ((n : Int) == 4) = false := by simp; omega
    clear h4
    go_enter Try.func78, Try.ntmps78
    go_wp2
    go_ret
    exact ⟨ret_bof_f hno.out, (Below.refl _ _).alloc (Nat.le_refl _) _⟩
theorem blockValid_spec {we : Int} {A : Option Addr} {n c B : Nat} {ps : List PageV} {w : World} (hr : RdG w B A n ps) (hB : B ≤ w.heap.size) (hnc : n ≤ c) (hcm : c ≤ 9223372036854775807) :
    Calls Try.prog 75 #[.agg #[.int .i64 we, .slice A n c]] w fun e w' => e = .returned (.bool (bof (BlockOk ⟨we, ps⟩))) ∧ Below w.heap.size w w' := by
  have HL := Lib.hid hr.len
  have b1 : Below w.heap.size w (w.alloc (.cells #[.int .i64 we, .slice A n c] 67)) := (Below.refl _ _).alloc (Nat.le_refl _) _
  have k0 : (w.alloc (.cells #[.int .i64 we, .slice A n c] 67)).cell? ⟨w.heap.size, 0, none⟩ = some (.int .i64 we) := (Blk.new w 67 #[.int .i64 we, .slice A n c]).cell 0
  have k1 : (w.alloc (.cells #[.int .i64 we, .slice A n c] 67)).cell? ⟨w.heap.size, 1, none⟩ = some (.slice A n c) := (Blk.new w 67 #[.int .i64 we, .slice A n c]).cell 1
  have s1 : (w.alloc (.cells #[.int .i64 we, .slice A n c] 67)).heap.size = w.heap.size + 1 := by simp
  go_enter Try.func75, Try.ntmps75
  go_wp2
  have hr1 := (hr.mono hB).below b1
  have HB1 := Lib.hid b1
  have HS1 := Lib.hid s1
  clear b1 s1 hr
  generalize w.alloc (.cells #[.int .i64 we, .slice A n c] 67) = w1 at *
  generalize hg0 : w.heap.size = g0 at k0 k1 ⊢
  have hg0s : g0 < w1.heap.size := by have := HS1.out; omega
  have HG0 := Lib.hid hg0
  clear hg0
  go_loopw [3] (fun kk wr => ∃ k : Nat, k ≤ n ∧ kk = .int .i64 k ∧ PagesTo ps k ∧ Below w1.heap.size w1 wr) (fun kk _ => n - (intOf kk).toNat)
  case atStart => exact ⟨0, Nat.zero_le _, rfl, PagesTo.zero _, Below.refl _ _⟩
  case round =>
    obtain ⟨k, hk, rfl, hto, hbl⟩ := hrel
    have HT := Lib.hid hto
    have k2 := (hbl.cell (p := ⟨g0, 1, none⟩) hg0s).trans k1
    have HBL := Lib.hid hbl
    by_cases hlt : k < n
    · obtain ⟨b, off, rfl, hbB, hc⟩ := hr1.at_ (by omega)
      have hb1 : b < w1.heap.size := by have := HS1.out; have := HG0.out; omega
      obtain ⟨c0, c1, c2, c3, c4⟩ := hc k hlt
      replace c0 := (hbl.cell hb1).trans c0
      replace c1 := (hbl.cell hb1).trans c1
      replace c2 := (hbl.cell hb1).trans c2
      replace c3 := (hbl.cell hb1).trans c3
      replace c4 := (hbl.cell hb1).trans c4
      obtain ⟨P, hP⟩ : ∃ P, ps.getD k noPage = P := ⟨_, rfl⟩
      rw [hP] at c0 c1 c2 c3 c4
      obtain ⟨f, x, y, z, s⟩ := P
      simp only at c0 c1 c2 c3 c4
      have HP := Lib.hid hP
      have hHC := Lib.hid hc
      have HNO := Lib.hid (show ¬ PagesTo ps (k + 1) → ¬ BlockOk ⟨we, ps⟩ from fun h hok => by
        have h4 := hok.2.1
        simp only at h4
        have := HL.out
        exact h (fun i hi => hok.2.2 i (by omega)))
      clear hP hto hbl hc hr1
      go_wp2_with fail
      refine (pageValid_spec f x y z s _).mono ?_
      rintro e w2 ⟨rfl, hb2⟩
      have b2 : Below w1.heap.size w1 w2 := HBL.out.trans (hb2.mono HBL.out.size)
      have f2 := (hb2.cell (block_lt_of_cell c0)).trans c0
      have k3 := (b2.cell (p := ⟨g0, 1, none⟩) hg0s).trans k1
      have HB2 := Lib.hid b2
      clear hb2 c0 c1 c2 c3 c4 k2
      by_cases hok : PageOk ⟨f, x, y, z, s⟩
      · have hd : decide (PageOk ⟨f, x, y, z, s⟩) = true := decide_eq_true hok
        have HOK := Lib.hid (show PageOk (ps.getD k noPage) by rw [HP.out]; exact hok)
        rw [hd]
        rcases k with _ | kp
        · have HT2 := Lib.hid (HT.out.succ (k := 0) HOK.out (fun h => absurd h (Nat.lt_irrefl _)))
          clear hok hd b2
          go_wp2
          go_roundw
          case rel => exact ⟨1, by omega, rfl, HT2.out, HB2.out⟩
          case measure => simp [intOf]; omega
        · have hkp : (1 : Int) ≤ (kp : Int) + 1 := by omega
          have hkp0 : (0 : Int) < (kp : Int) + 1 := by omega
          have hkd : decide ((kp : Int) + 1 > 0) = true := decide_eq_true hkp0
          cases f
          · have HT2 := Lib.hid (HT.out.succ (k := kp + 1) HOK.out (fun _ h => by rw [HP.out] at h; cases h))
            clear hok hd b2
            go_wp2
            go_roundw
            case rel => exact ⟨kp + 1 + 1, by omega, by go_num, HT2.out, HB2.out⟩
            case measure => simp [intOf]; omega
          · obtain ⟨d0, _, _, _, _⟩ := hHC.out kp (by omega)
            replace d0 := (b2.cell hb1).trans d0
            have HF := Lib.hid (show ∀ h : (ps.getD kp noPage).full = true, PagesTo ps (kp + 1 + 1) from fun h => HT.out.succ (k := kp + 1) HOK.out (fun _ _ => h))
            have HG := Lib.hid (show (ps.getD kp noPage).full = false → ¬ BlockOk ⟨we, ps⟩ from fun h => HNO.out (fun hp => by
              have := (hp (kp + 1) (by omega)).2 (by omega) (by rw [HP.out])
              simp only [Nat.add_sub_cancel] at this
              rw [h] at this; cases this))
            generalize (ps.getD kp noPage).full = pf at *
            cases pf
            · have hno := Lib.hid (HG.out rfl)
              clear hok hd b2
              go_wp2
              go_ret
              exact ⟨ret_bof_f hno.out, HB1.out.trans (HB2.out.mono (by have := HS1.out; omega))⟩
            · have HT2 := Lib.hid (HF.out rfl)
              clear hok hd b2
              go_wp2
              go_roundw
              case rel => exact ⟨kp + 1 + 1, by omega, by go_num, HT2.out, HB2.out⟩
              case measure => simp [intOf]; omega
      · have hd : decide (PageOk ⟨f, x, y, z, s⟩) = false := decide_eq_false hok
        have hno := Lib.hid (HNO.out (fun hp => hok (by have := (hp k (by omega)).1; rw [HP.out] at this; exact this)))
        rw [hd]
        clear hok hd b2
        go_wp2
        go_ret
        exact ⟨ret_bof_f hno.out, HB1.out.trans (HB2.out.mono (by have := HS1.out; omega))⟩
    · obtain rfl : k = n := by omega
      have k3 := (hbl.cell (p := ⟨g0, 0, none⟩) hg0s).trans k0
      clear hbl hto
      by_cases hwe : 0 ≤ we ∧ we ≤ 100
      · have hb : inB we 0 100 = true := by rw [inB_t]; exact hwe
        by_cases h4 : k = 4
        · subst h4
          have hyes := Lib.hid (show BlockOk ⟨we, ps⟩ from ⟨hwe, HL.out, HT.out⟩)
          go_wp2_with (go_at_call 32; refine (l1In_c _ _ _ _).mono ?_; rw [hb]; rintro e w' ⟨rfl, rfl⟩)
          go_ret
          exact ⟨ret_bof_t hyes.out, HB1.out.trans (HBL.out.mono (by have := HS1.out; omega))⟩
        · have hno := Lib.hid (show ¬ BlockOk ⟨we, ps⟩ from fun h => h4 (by have := h.2.1; have := HL.out; simp only at *; omega))
          have hq : ((k : Int) == 4) = false := by simp; omega
          clear h4
          go_wp2_with (go_at_call 32; refine (l1In_c _ _ _ _).mono ?_; rw [hb]; rintro e w' ⟨rfl, rfl⟩)
          go_ret
          exact ⟨ret_bof_f hno.out, HB1.out.trans (HBL.out.mono (by have := HS1.out; omega))⟩
      · have hb : inB we 0 100 = false := by rw [inB_f]; omega
        have hno := Lib.hid (show ¬ BlockOk ⟨we, ps⟩ from fun h => hwe h.1)
        go_wp2_with (go_at_call 32; refine (l1In_c _ _ _ _).mono ?_; rw [hb]; rintro e w' ⟨rfl, rfl⟩)
        go_ret
        exact ⟨ret_bof_f hno.out, HB1.out.trans (HBL.out.mono (by have := HS1.out; omega))⟩
end Go.Proofs.Ytjnpgdhpneifjaa
