/- DeviceValid, the program's and the reference's. Condition: at most 2^20 blocks. -/
import Derived.Test.YtjnpgdhpneifjaaPages
namespace Go.Proofs.Ytjnpgdhpneifjaa
open Go.ChangeShapes Go.WideShapes Go.ChangeAt Go.RowKit
set_option linter.unusedVariables false
set_option linter.unusedSimpArgs false

def DevTo (bs : List BlockV) (k : Nat) : Prop := ∀ i, i < k → BlockOk (bs.getD i noBlock)
theorem DevTo.zero (bs : List BlockV) : DevTo bs 0 := fun i h => absurd h (Nat.not_lt_zero _)
theorem DevTo.succ {bs : List BlockV} {k : Nat} (h : DevTo bs k) (h1 : BlockOk (bs.getD k noBlock)) : DevTo bs (k + 1) := by
  intro i hi
  by_cases e : i = k
  · subst e; exact h1
  · exact h i (by omega)
def DevOk (bs : List BlockV) : Prop := (1 ≤ bs.length ∧ bs.length ≤ 12) ∧ DevTo bs bs.length

theorem deviceValid_impl {A : Option Addr} {n c B : Nat} {bs : List BlockV} {w : World} (hr : RdB w B A n bs) (hB : B ≤ w.heap.size) (hn : n ≤ 1048576) :
    Calls Try.prog 35 #[.slice A n c] w fun e w' => e = .returned (.bool (bof (DevOk bs))) ∧ Below w.heap.size w w' := by
  have HL := Lib.hid hr.len
  by_cases h1 : n < 1
  · have hno := Lib.hid (show ¬ DevOk bs from fun h => by have := h.1.1; have := HL.out; omega)
    obtain rfl : n = 0 := by omega
    go_enter Try.func35, Try.ntmps35
    go_wp2
    go_ret
    exact ⟨ret_bof_f hno.out, Below.refl _ _⟩
  by_cases h2 : 12 < n
  · have hno := Lib.hid (show ¬ DevOk bs from fun h => by have := h.1.2; have := HL.out; omega)
    go_enter Try.func35, Try.ntmps35
    go_wp2
    go_ret
    exact ⟨ret_bof_f hno.out, Below.refl _ _⟩
  go_enter Try.func35, Try.ntmps35
  go_wp2
  go_loopw [15] (fun kk wr => ∃ k : Nat, k ≤ n ∧ kk = .int .i64 k ∧ DevTo bs k ∧ Below w.heap.size w wr) (fun kk _ => n - (intOf kk).toNat)
  case atStart => exact ⟨0, Nat.zero_le _, rfl, DevTo.zero _, Below.refl _ _⟩
  case round =>
    obtain ⟨k, hk, rfl, hto, hbl⟩ := hrel
    have HT := Lib.hid hto
    have HBL := Lib.hid hbl
    by_cases hlt : k < n
    · obtain ⟨b, off, rfl, hbB, hc⟩ := hr.at_ (by omega)
      obtain ⟨A', n', c', c0, c1, hnc, hcm, hrg⟩ := hc k hlt
      replace c0 := (hbl.cell (p := ⟨b, off + k * 2, none⟩) (show b < w.heap.size by omega)).trans c0
      replace c1 := (hbl.cell (p := ⟨b, off + k * 2 + 1, none⟩) (show b < w.heap.size by omega)).trans c1
      have hrg2 := (hrg.mono hB).below hbl
      obtain ⟨P, hP⟩ : ∃ P, bs.getD k noBlock = P := ⟨_, rfl⟩
      rw [hP] at c0 hrg2
      obtain ⟨we, ps⟩ := P
      simp only at c0 hrg2
      have HP := Lib.hid hP
      have hsz := hbl.size
      clear hP hto hc hr hrg hbl
      go_wp2_with fail
      have bx : Below w.heap.size w (wr.alloc (.cells #[.int .i64 we, .slice A' n' c'] 67)) := HBL.out.alloc hsz _
      have sx : wr.heap.size < (wr.alloc (.cells #[.int .i64 we, .slice A' n' c'] 67)).heap.size := by simp
      have hrg3 := hrg2.below (HBL.out.size |> fun _ => (Below.refl w.heap.size wr).alloc hsz (.cells #[.int .i64 we, .slice A' n' c'] 67))
      generalize wr.alloc (.cells #[.int .i64 we, .slice A' n' c'] 67) = wx at *
      refine (blockValid_impl hrg3 bx.size hnc hcm).mono ?_
      rintro e w2 ⟨rfl, hb2⟩
      have HB2 := Lib.hid (bx.trans (hb2.mono bx.size))
      clear hrg2 hrg3 bx sx hb2 c0 c1
      by_cases hok : BlockOk ⟨we, ps⟩
      · have HT2 := Lib.hid (HT.out.succ (by rw [HP.out]; exact hok))
        rw [bof_t.2 hok]
        clear hok
        go_wp2
        go_roundw
        case rel => exact ⟨k + 1, by omega, by go_num, HT2.out, HB2.out⟩
        case measure => simp [intOf]; omega
      · have hno := Lib.hid (show ¬ DevOk bs from fun h => hok (by have := h.2 k (by have := HL.out; omega); rw [HP.out] at this; exact this))
        rw [bof_f.2 hok]
        clear hok
        go_wp2
        go_ret
        exact ⟨ret_bof_f hno.out, HB2.out⟩
    · obtain rfl : k = n := by omega
      have hyes := Lib.hid (show DevOk bs from ⟨by have := HL.out; omega, by rw [HL.out]; exact HT.out⟩)
      go_wp2
      go_ret
      exact ⟨ret_bof_t hyes.out, HBL.out⟩
theorem deviceValid_spec {A : Option Addr} {n c B : Nat} {bs : List BlockV} {w : World} (hr : RdB w B A n bs) (hB : B ≤ w.heap.size) (hn : n ≤ 1048576) :
    Calls Try.prog 31 #[.slice A n c] w fun e w' => e = .returned (.bool (bof (DevOk bs))) ∧ Below w.heap.size w w' := by
  have HL := Lib.hid hr.len
  go_enter Try.func31, Try.ntmps31
  go_wp2
  go_loopw [3] (fun kk wr => ∃ k : Nat, k ≤ n ∧ kk = .int .i64 k ∧ DevTo bs k ∧ Below w.heap.size w wr) (fun kk _ => n - (intOf kk).toNat)
  case atStart => exact ⟨0, Nat.zero_le _, rfl, DevTo.zero _, Below.refl _ _⟩
  case round =>
    obtain ⟨k, hk, rfl, hto, hbl⟩ := hrel
    have HT := Lib.hid hto
    have HBL := Lib.hid hbl
    by_cases hlt : k < n
    · obtain ⟨b, off, rfl, hbB, hc⟩ := hr.at_ (by omega)
      obtain ⟨A', n', c', c0, c1, hnc, hcm, hrg⟩ := hc k hlt
      replace c0 := (hbl.cell (p := ⟨b, off + k * 2, none⟩) (show b < w.heap.size by omega)).trans c0
      replace c1 := (hbl.cell (p := ⟨b, off + k * 2 + 1, none⟩) (show b < w.heap.size by omega)).trans c1
      have hrg2 := (hrg.mono hB).below hbl
      obtain ⟨P, hP⟩ : ∃ P, bs.getD k noBlock = P := ⟨_, rfl⟩
      rw [hP] at c0 hrg2
      obtain ⟨we, ps⟩ := P
      simp only at c0 hrg2
      have HP := Lib.hid hP
      have hsz := hbl.size
      clear hP hto hc hr hrg hbl
      go_wp2_with fail
      refine (blockValid_spec hrg2 hsz hnc hcm).mono ?_
      rintro e w2 ⟨rfl, hb2⟩
      have HB2 := Lib.hid (HBL.out.trans (hb2.mono hsz))
      clear hrg2 hb2 c0 c1
      by_cases hok : BlockOk ⟨we, ps⟩
      · have HT2 := Lib.hid (HT.out.succ (by rw [HP.out]; exact hok))
        rw [bof_t.2 hok]
        clear hok
        go_wp2
        go_roundw
        case rel => exact ⟨k + 1, by omega, by go_num, HT2.out, HB2.out⟩
        case measure => simp [intOf]; omega
      · have hno := Lib.hid (show ¬ DevOk bs from fun h => hok (by have := h.2 k (by have := HL.out; omega); rw [HP.out] at this; exact this))
        rw [bof_f.2 hok]
        clear hok
        go_wp2
        go_ret
        exact ⟨ret_bof_f hno.out, HB2.out⟩
    · obtain rfl : k = n := by omega
      by_cases h1 : 1 ≤ k ∧ k ≤ 12
      · have hb : inB (k : Int) 1 12 = true := by rw [inB_t]; omega
        have hyes := Lib.hid (show DevOk bs from ⟨by have := HL.out; omega, by rw [HL.out]; exact HT.out⟩)
        go_wp2_with (go_at_call 32; refine (l1In_c _ _ _ _).mono ?_; rw [hb]; rintro e w' ⟨rfl, rfl⟩)
        go_ret
        exact ⟨ret_bof_t hyes.out, HBL.out⟩
      · have hb : inB (k : Int) 1 12 = false := by rw [inB_f]; omega
        have hno := Lib.hid (show ¬ DevOk bs from fun h => by have := h.1; have := HL.out; omega)
        go_wp2_with (go_at_call 32; refine (l1In_c _ _ _ _).mono ?_; rw [hb]; rintro e w' ⟨rfl, rfl⟩)
        go_ret
        exact ⟨ret_bof_f hno.out, HBL.out⟩
end Go.Proofs.Ytjnpgdhpneifjaa
