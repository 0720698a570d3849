/- The program's FreePages on a valid device. -/
import Derived.Test.YtjnpgdhpneifjaaWrites
namespace Go.Proofs.Ytjnpgdhpneifjaa
open Go.ChangeShapes Go.WideShapes Go.ChangeAt Go.RowKit
set_option linter.unusedVariables false
set_option linter.unusedSimpArgs false

def freeI (bs : List BlockV) : Nat → Int
  | 0 => 0
  | k + 1 => freeI bs k + (4 - wroteTo (bs.getD k noBlock).pages 4)
theorem freeI_range (bs : List BlockV) : ∀ k, 0 ≤ freeI bs k ∧ freeI bs k ≤ 4 * k
  | 0 => ⟨Int.le_refl _, Int.le_refl _⟩
  | k + 1 => by
    have h1 := freeI_range bs k
    have h2 := wroteTo_le (bs.getD k noBlock).pages 4
    have h3 : freeI bs (k + 1) = freeI bs k + (4 - wroteTo (bs.getD k noBlock).pages 4) := rfl
    rw [h3]
    omega
theorem freePages_impl {A : Option Addr} {n c B : Nat} {bs : List BlockV} {w : World} (hr : RdB w B A n bs) (hB : B ≤ w.heap.size) (hn : n ≤ 1048576) (hok : DevOk bs) :
    Calls Try.prog 25 #[.slice A n c] w fun e w' => e = .returned (.int .i64 (freeI bs n)) ∧ Below w.heap.size w w' := by
  have HL := Lib.hid hr.len
  have hn12 : n ≤ 12 := by have := hok.1.2; have := HL.out; omega
  have HOK := Lib.hid hok
  have hbt := bof_t.2 hok
  clear hok
  go_enter Try.func25, Try.ntmps25
  go_wp2_with fail
  refine (deviceValid_impl hr hB hn).mono ?_
  rw [hbt]
  rintro e w1 ⟨rfl, hb1⟩
  have HB1 := Lib.hid hb1
  have hr1 := (hr.mono hB).below hb1
  have hs1 := hb1.size
  clear hb1 hr hbt
  go_wp2_with fail
  go_loopw [3, 11] (fun s kk wr => ∃ k : Nat, k ≤ n ∧ kk = .int .i64 k ∧ s = .int .i64 (freeI bs k) ∧ Below w1.heap.size w1 wr) (fun _ kk _ => n - (intOf kk).toNat)
  case atStart => exact ⟨0, Nat.zero_le _, rfl, rfl, Below.refl _ _⟩
  case round =>
    obtain ⟨k, hk, rfl, rfl, hbl⟩ := hrel
    have HBL := Lib.hid hbl
    have hdev : DevTo bs n := by have := HOK.out.2; rw [HL.out] at this; exact this
    have hrg := freeI_range bs k
    by_cases hlt : k < n
    · obtain ⟨b, off, rfl, hbB, hc⟩ := hr1.at_ (by omega)
      obtain ⟨A', n', c', c0, c1, hnc, hcm, hrp⟩ := hc k hlt
      have hbs : b < w1.heap.size := by omega
      replace c0 := (hbl.cell (p := ⟨b, off + k * 2, none⟩) hbs).trans c0
      replace c1 := (hbl.cell (p := ⟨b, off + k * 2 + 1, none⟩) hbs).trans c1
      have hrg2 := (hrp.mono hs1).below hbl
      have hbk := hdev k hlt
      have HS := Lib.hid (show freeI bs (k + 1) = freeI bs k + (4 - wroteTo (bs.getD k noBlock).pages 4) from rfl)
      obtain ⟨P, hP⟩ : ∃ P, bs.getD k noBlock = P := ⟨_, rfl⟩
      rw [hP] at c0 hrg2 hbk HS
      obtain ⟨we, ps⟩ := P
      simp only at c0 hrg2
      obtain ⟨⟨hw1, hw2⟩, hpl, _⟩ := hbk
      simp only at hw1 hw2 hpl
      have hn4 : n' = 4 := by rw [← hrg2.len, hpl]
      subst hn4
      have hsz := hbl.size
      have hq := wroteTo_le ps 4
      generalize freeI bs k = acc at *
      clear hP hc hr1 hrp hbl hpl hdev
      go_upto_region 7 with (fail)
      have bx : Below w1.heap.size w1 (wr.alloc (.cells #[.int .i64 we, .slice A' 4 c'] 67)) := HBL.out.alloc hsz _
      have hrx := hrg2.below ((Below.refl w1.heap.size wr).alloc hsz (.cells #[.int .i64 we, .slice A' 4 c'] 67))
      have f0 : (wr.alloc (.cells #[.int .i64 we, .slice A' 4 c'] 67)).cell? ⟨wr.heap.size, 0, none⟩ = some (.int .i64 we) := (Blk.new wr 67 #[.int .i64 we, .slice A' 4 c']).cell 0
      have f1 : (wr.alloc (.cells #[.int .i64 we, .slice A' 4 c'] 67)).cell? ⟨wr.heap.size, 1, none⟩ = some (.slice A' 4 c') := (Blk.new wr 67 #[.int .i64 we, .slice A' 4 c']).cell 1
      generalize wr.alloc (.cells #[.int .i64 we, .slice A' 4 c'] 67) = wx at *
      generalize wr.heap.size = g7 at *
      have HRX := Lib.hid hrx
      have BX := Lib.hid bx
      clear hrg2 hrx bx c0 c1
      have v4 : IntKind.i64.wrap (4 - ((wroteTo ps 4 : Nat) : Int)) = 4 - ((wroteTo ps 4 : Nat) : Int) := IntWalk.i64_in _ (by omega)
      have v5 : IntKind.i64.wrap (acc + (4 - ((wroteTo ps 4 : Nat) : Int))) = acc + (4 - ((wroteTo ps 4 : Nat) : Int)) := IntWalk.i64_in _ (by omega)
      go_wp2_with fail
      refine (writtenPages_c HRX.out BX.out.size hnc hcm).mono ?_
      rintro e w2 ⟨rfl, hb2⟩
      have B2 := Lib.hid (BX.out.trans (hb2.mono BX.out.size))
      clear hb2
      go_wp2
      go_roundw
      case rel => exact ⟨k + 1, by omega, by go_num, by rw [HS.out], B2.out⟩
      case measure => simp [intOf]; omega
    · obtain rfl : k = n := by omega
      go_wp2
      go_ret
      exact ⟨rfl, HB1.out.trans (HBL.out.mono hs1)⟩
end Go.Proofs.Ytjnpgdhpneifjaa
