/- LastStamp, the program's and the reference's. Condition: a valid device. -/
import Derived.Test.YtjnpgdhpneifjaaRead
namespace Go.Proofs.Ytjnpgdhpneifjaa
open Go.ChangeShapes Go.WideShapes Go.ChangeAt Go.RowKit
set_option linter.unusedVariables false
set_option linter.unusedSimpArgs false

def lastAt (bs : List BlockV) : Nat → Int
  | 0 => 0
  | k + 1 => if lastAt bs k < (pageN bs k).stamp then (pageN bs k).stamp else lastAt bs k
def lastStamp (bs : List BlockV) : Int := lastAt bs (4 * bs.length)
theorem pageN_ok {bs : List BlockV} (h : DevOk bs) {k : Nat} (hk : k < 4 * bs.length) : PageOk (pageN bs k) := ((h.2 (k / 4) (by omega)).2.2 (k % 4) (by omega)).1
theorem pageOk_stamp {p : PageV} (h : PageOk p) : 0 ≤ p.stamp ∧ p.stamp ≤ 1000000 := by
  unfold PageOk at h
  split at h
  · omega
  · omega
theorem lastAt_range {bs : List BlockV} (h : DevOk bs) : ∀ {k : Nat}, k ≤ 4 * bs.length → 0 ≤ lastAt bs k ∧ lastAt bs k ≤ 1000000
  | 0, _ => by unfold lastAt; omega
  | k + 1, hk => by
    have h1 := lastAt_range h (k := k) (by omega)
    have h2 := pageOk_stamp (pageN_ok h (k := k) (by omega))
    unfold lastAt
    split <;> omega
theorem lastStamp_spec {A : Option Addr} {n c B : Nat} {bs : List BlockV} {w : World} (hr : RdB w B A n bs) (hB : B ≤ w.heap.size) (hn : n ≤ 1048576) (hok : DevOk bs) :
    Calls Try.prog 68 #[.slice A n c] w fun e w' => e = .returned (.int .i64 (lastStamp bs)) ∧ Below w.heap.size w w' := by
  have HL := Lib.hid hr.len
  have hn12 : n ≤ 12 := by have := hok.1.2; have := HL.out; omega
  have hbt := bof_t.2 hok
  have HOK := Lib.hid hok
  have hr0 := hr.mono hB
  clear hok hr
  go_enter Try.func68, Try.ntmps68
  go_wp2_with fail
  refine (deviceValid_spec hr0 (Nat.le_refl _) hn).mono ?_
  rw [hbt]
  rintro e w1 ⟨rfl, hb1⟩
  have hr1 := hr0.below hb1
  have HB1 := Lib.hid hb1
  have hs1 := hb1.size
  clear hr0 hb1 hbt
  go_wp2_with fail
  go_loopw [3, 4] (fun s kk wr => ∃ k : Nat, k ≤ 4 * n ∧ kk = .int .i64 k ∧ s = .int .i64 (lastAt bs k) ∧ Below w1.heap.size w1 wr) (fun _ kk _ => 4 * n - (intOf kk).toNat)
  case atStart => exact ⟨0, Nat.zero_le _, rfl, rfl, Below.refl _ _⟩
  case round =>
    obtain ⟨k, hk, rfl, rfl, hbl⟩ := hrel
    have HBL := Lib.hid hbl
    have hlr := lastAt_range HOK.out (k := k) (by rw [HL.out]; exact hk)
    by_cases hlt : k < 4 * n
    · have hltz : (k : Int) < 4 * (n : Int) := by omega
      have hrw := (hr1.mono hs1).below hbl
      have hsz := hbl.size
      have HF := Lib.hid (show lastAt bs (k + 1) = if lastAt bs k < (pageN bs k).stamp then (pageN bs k).stamp else lastAt bs k from rfl)
      clear hbl
      go_wp2_with fail
      refine (readPage_c hrw hsz hn HOK.out hlt).mono ?_
      rintro e w2 ⟨rfl, hb2⟩
      have HB2 := Lib.hid (HBL.out.trans (hb2.mono hsz))
      have hs2 := HB2.out.size
      generalize lastAt bs k = q at *
      generalize pageN bs k = P at *
      obtain ⟨f, x, y, z, s⟩ := P
      unfold pgv
      clear hrw hb2
      go_wp2
      go_roundw
      case rel => exact ⟨k + 1, by omega, by go_num, by rw [HF.out], HB2.out.alloc hs2 _⟩
      case measure => simp [intOf]; omega
    · obtain rfl : k = 4 * n := by omega
      have HE := Lib.hid (show lastAt bs (4 * n) = lastStamp bs by unfold lastStamp; rw [HL.out])
      go_wp2
      go_ret
      exact ⟨ret_int HE.out, HB1.out.trans (HBL.out.mono hs1)⟩
theorem lastStamp_impl {A : Option Addr} {n c B : Nat} {bs : List BlockV} {w : World} (hr : RdB w B A n bs) (hB : B ≤ w.heap.size) (hn : n ≤ 1048576) (hok : DevOk bs) :
    Calls Try.prog 61 #[.slice A n c] w fun e w' => e = .returned (.int .i64 (lastStamp bs)) ∧ Below w.heap.size w w' := by
  have HL := Lib.hid hr.len
  have hn12 : n ≤ 12 := by have := hok.1.2; have := HL.out; omega
  have hbt := bof_t.2 hok
  have HOK := Lib.hid hok
  have hr0 := hr.mono hB
  clear hok hr
  go_enter Try.func61, Try.ntmps61
  go_wp2_with fail
  refine (deviceValid_impl hr0 (Nat.le_refl _) hn).mono ?_
  rw [hbt]
  rintro e w1 ⟨rfl, hb1⟩
  have hr1 := hr0.below hb1
  have HB1 := Lib.hid hb1
  have hs1 := hb1.size
  clear hr0 hb1 hbt
  go_wp2_with fail
  go_loopw [3, 13] (fun s kk wr => ∃ k : Nat, k ≤ n ∧ kk = .int .i64 k ∧ s = .int .i64 (lastAt bs (4 * k)) ∧ Below w1.heap.size w1 wr) (fun _ kk _ => n - (intOf kk).toNat)
  case atStart => exact ⟨0, Nat.zero_le _, rfl, rfl, Below.refl _ _⟩
  case round =>
    obtain ⟨k, hk, rfl, rfl, hbl⟩ := hrel
    have HBL := Lib.hid hbl
    by_cases hlt : k < n
    · obtain ⟨b, off, rfl, hbB, hc⟩ := hr1.at_ (by omega)
      obtain ⟨A', n', c', c0, c1, hnc, hcm, hrg⟩ := hc k hlt
      have hbs : b < w1.heap.size := by omega
      replace c0 := (hbl.cell (p := ⟨b, off + k * 2, none⟩) hbs).trans c0
      replace c1 := (hbl.cell (p := ⟨b, off + k * 2 + 1, none⟩) hbs).trans c1
      have hrp := (hrg.mono hs1).below hbl
      have hbk := HOK.out.2 k (by rw [HL.out]; exact hlt)
      have hn4 : n' = 4 := by rw [← hrg.len, hbk.2.1]
      subst hn4
      have HPN := Lib.hid (show ∀ j, j < 4 → pageN bs (4 * k + j) = (bs.getD k noBlock).pages.getD j noPage from fun j hj => by
        unfold pageN
        rw [show (4 * k + j) / 4 = k by omega, show (4 * k + j) % 4 = j by omega])
      generalize (bs.getD k noBlock).wear = we at *
      have hltd : decide (k < n) = true := decide_eq_true hlt
      have hsz := hbl.size
      clear hc hr1 hrg hbk hbl
      obtain ⟨wo, rfl⟩ : ∃ wo : World, wo = wr := ⟨_, rfl⟩
      go_wp2
      have bx : Below w1.heap.size wo (wo.alloc (.cells #[.int .i64 we, .slice A' 4 c'] 67)) := (Below.refl _ _).alloc hsz _
      have hrx := hrp.below bx
      have HBX := Lib.hid (HBL.out.trans bx)
      clear hrp bx c0 c1
      generalize wo.alloc (.cells #[.int .i64 we, .slice A' 4 c'] 67) = wx at *
      go_loopw [3, 20] (fun s jj ws => ∃ j : Nat, j ≤ 4 ∧ jj = .int .i64 j ∧ s = .int .i64 (lastAt bs (4 * k + j)) ∧ Below w1.heap.size wx ws) (fun _ jj _ => 4 - (intOf jj).toNat)
      case atStart => exact ⟨0, Nat.zero_le _, rfl, rfl, Below.refl _ _⟩
      case round =>
        obtain ⟨j, hj, rfl, rfl, hb2⟩ := hrel
        have HB2 := Lib.hid hb2
        by_cases hl4 : j < 4
        · obtain ⟨b', off', rfl, hbB', hc'⟩ := hrx.at_ (by omega)
          obtain ⟨d0, d1, d2, d3, d4⟩ := hc' j hl4
          replace d0 := (hb2.cell (p := ⟨b', off' + j * 5, none⟩) hbB').trans d0
          replace d1 := (hb2.cell (p := ⟨b', off' + j * 5 + 1, none⟩) hbB').trans d1
          replace d2 := (hb2.cell (p := ⟨b', off' + j * 5 + 2, none⟩) hbB').trans d2
          replace d3 := (hb2.cell (p := ⟨b', off' + j * 5 + 3, none⟩) hbB').trans d3
          replace d4 := (hb2.cell (p := ⟨b', off' + j * 5 + 4, none⟩) hbB').trans d4
          have HF := Lib.hid (show lastAt bs (4 * k + (j + 1)) = if lastAt bs (4 * k + j) < (pageN bs (4 * k + j)).stamp then (pageN bs (4 * k + j)).stamp else lastAt bs (4 * k + j) from rfl)
          rw [HPN.out j hl4] at HF
          generalize (bs.getD k noBlock).pages.getD j noPage = P at *
          generalize lastAt bs (4 * k + j) = q at *
          obtain ⟨f, x, y, z, s⟩ := P
          simp only at d0 d1 d2 d3 d4
          have hs2 : w1.heap.size ≤ wr.heap.size := by have := HBX.out.size; have := hb2.size; omega
          clear hc' hrx hb2
          go_wp2
          go_roundw
          case rel => exact ⟨j + 1, by omega, by go_num, by rw [HF.out], HB2.out.alloc hs2 _⟩
          case measure => simp [intOf]; omega
        · obtain rfl : j = 4 := by omega
          go_wp2
          go_roundw
          case rel => exact ⟨k + 1, by omega, by go_num, rfl, HBX.out.trans HB2.out⟩
          case measure => simp [intOf]; omega
    · obtain rfl : k = n := by omega
      have HE := Lib.hid (show lastAt bs (4 * k) = lastStamp bs by unfold lastStamp; rw [HL.out])
      go_wp2
      go_ret
      exact ⟨ret_int HE.out, HB1.out.trans (HBL.out.mono hs1)⟩
end Go.Proofs.Ytjnpgdhpneifjaa
