/- Contracts of WritesLeft, the program's and the reference's. Condition: at most 2^20 blocks. -/
import Derived.Test.YtjnpgdhpneifjaaDev
namespace Go.Proofs.Ytjnpgdhpneifjaa
open Go.ChangeShapes Go.WideShapes Go.ChangeAt Go.RowKit
set_option linter.unusedVariables false
set_option linter.unusedSimpArgs false

/-- how many of the first k pages are written -/
def wroteTo (ps : List PageV) : Nat → Nat
  | 0 => 0
  | k + 1 => wroteTo ps k + if (ps.getD k noPage).full then 1 else 0
theorem wroteTo_le (ps : List PageV) : ∀ k, wroteTo ps k ≤ k
  | 0 => Nat.le_refl _
  | k + 1 => by have := wroteTo_le ps k; unfold wroteTo; split <;> omega
/-- how many pages the first k blocks can still take -/
def leftTo (bs : List BlockV) : Nat → Int
  | 0 => 0
  | k + 1 => leftTo bs k + (4 * (100 - (bs.getD k noBlock).wear + 1) - wroteTo (bs.getD k noBlock).pages 4)
theorem leftTo_range {bs : List BlockV} : ∀ {k : Nat}, DevTo bs k → 0 ≤ leftTo bs k ∧ leftTo bs k ≤ 404 * k
  | 0, _ => by unfold leftTo; omega
  | k + 1, h => by
    have h1 := leftTo_range (bs := bs) (k := k) (fun i hi => h i (by omega))
    have h2 := (h k (by omega)).1
    have h3 := wroteTo_le (bs.getD k noBlock).pages 4
    unfold leftTo
    omega
def LeftOk (bs : List BlockV) (sh : Int) : Prop := DevOk bs ∧ 100 ≤ sh ∧ sh ≤ 10000
open Classical in
noncomputable def writesLeft (bs : List BlockV) (sh : Int) : Int := if LeftOk bs sh then leftTo bs bs.length * 100 / sh else -1
theorem left_no {bs sh} (h : ¬ LeftOk bs sh) : writesLeft bs sh = -1 := by unfold writesLeft; rw [if_neg h]
theorem left_yes {bs sh} (h : LeftOk bs sh) : writesLeft bs sh = leftTo bs bs.length * 100 / sh := by unfold writesLeft; rw [if_pos h]

theorem writtenPages_c {we : Int} {A : Option Addr} {n c B : Nat} {ps : List PageV} {w : World} (hr : RdG w B A n ps) (hB : B ≤ w.heap.size) (hnc : n ≤ c) (hcm : c ≤ 9223372036854775807) :
    Calls Try.prog 36 #[.agg #[.int .i64 we, .slice A n c]] w fun e w' => e = .returned (.int .i64 (wroteTo ps n)) ∧ Below w.heap.size w w' := by
  have b1 : Below w.heap.size w (w.alloc (.cells #[.int .i64 we, .slice A n c] 67)) := (Below.refl _ _).alloc (Nat.le_refl _) _
  go_enter Try.func36, Try.ntmps36
  go_wp2
  have hr1 := (hr.mono hB).below b1
  have HB1 := Lib.hid b1
  have hs1 := b1.size
  clear b1 hr
  generalize w.alloc (.cells #[.int .i64 we, .slice A n c] 67) = w1 at *
  generalize hg0 : w.heap.size = g0 at hr1 hs1 hB ⊢
  have HG0 := Lib.hid hg0
  clear hg0
  go_loopw [3, 9] (fun s kk wr => ∃ k : Nat, k ≤ n ∧ kk = .int .i64 k ∧ s = .int .i64 (wroteTo ps k) ∧ Below w1.heap.size w1 wr) (fun _ kk _ => n - (intOf kk).toNat)
  case atStart => exact ⟨0, Nat.zero_le _, rfl, rfl, Below.refl _ _⟩
  case round =>
    obtain ⟨k, hk, rfl, rfl, hbl⟩ := hrel
    have HBL := Lib.hid hbl
    have hwk := wroteTo_le ps k
    by_cases hlt : k < n
    · obtain ⟨b, off, rfl, hbB, hc⟩ := hr1.at_ (by omega)
      have hb1 : b < w1.heap.size := by omega
      obtain ⟨c0, c1, c2, c3, c4⟩ := hc k hlt
      replace c0 := (hbl.cell hb1).trans c0
      replace c1 := (hbl.cell hb1).trans c1
      replace c2 := (hbl.cell hb1).trans c2
      replace c3 := (hbl.cell hb1).trans c3
      replace c4 := (hbl.cell hb1).trans c4
      have HW := Lib.hid (show wroteTo ps (k + 1) = wroteTo ps k + if (ps.getD k noPage).full then 1 else 0 from rfl)
      obtain ⟨P, hP⟩ : ∃ P, ps.getD k noPage = P := ⟨_, rfl⟩
      rw [hP] at c0 c1 c2 c3 c4 HW
      obtain ⟨f, x, y, z, s⟩ := P
      simp only at c0 c1 c2 c3 c4
      generalize wroteTo ps k = q at *
      have hsz := hbl.size
      clear hP hc hr1 hbl
      cases f
      · go_wp2
        go_roundw
        case rel => exact ⟨k + 1, by omega, by go_num, by rw [HW.out]; simp, HBL.out.alloc hsz _⟩
        case measure => simp [intOf]; omega
      · go_wp2
        go_roundw
        case rel => exact ⟨k + 1, by omega, by go_num, by rw [HW.out]; simp, HBL.out.alloc hsz _⟩
        case measure => simp [intOf]; omega
    · obtain rfl : k = n := by omega
      go_wp2
      go_ret
      exact ⟨rfl, HB1.out.trans (HBL.out.mono (by rw [HG0.out]; exact hs1))⟩

theorem writesLeft_impl {A : Option Addr} {n c B : Nat} {bs : List BlockV} {sh : Int} {w : World} (hr : RdB w B A n bs) (hB : B ≤ w.heap.size) (hn : n ≤ 1048576) :
    Calls Try.prog 12 #[.slice A n c, .int .i64 sh] w fun e w' => e = .returned (.int .i64 (writesLeft bs sh)) ∧ Below w.heap.size w w' := by
  have HL := Lib.hid hr.len
  by_cases hok : DevOk bs
  · by_cases h1 : sh < 100
    · have HE := Lib.hid (left_no (bs := bs) (sh := sh) (fun h => by have := h.2; omega))
      go_enter Try.func12, Try.ntmps12
      go_wp2_with (go_at_call 35; refine (deviceValid_impl hr hB hn).mono ?_; rw [bof_t.2 hok]; rintro e w' ⟨rfl, hb2⟩)
      go_ret
      exact ⟨ret_int HE.out.symm, hb2⟩
    by_cases h2 : 10000 < sh
    · have HE := Lib.hid (left_no (bs := bs) (sh := sh) (fun h => by have := h.2; omega))
      go_enter Try.func12, Try.ntmps12
      go_wp2_with (go_at_call 35; refine (deviceValid_impl hr hB hn).mono ?_; rw [bof_t.2 hok]; rintro e w' ⟨rfl, hb2⟩)
      go_ret
      exact ⟨ret_int HE.out.symm, hb2⟩
    have hn12 : n ≤ 12 := by have := hok.1.2; have := HL.out; omega
    have HE := Lib.hid (left_yes (bs := bs) (sh := sh) ⟨hok, by omega, by omega⟩)
    have HOK := Lib.hid hok
    have hbt := bof_t.2 hok
    clear hok
    go_enter Try.func12, Try.ntmps12
    go_wp2_with fail
    refine (deviceValid_impl hr hB hn).mono ?_
    rw [hbt]
    rintro e w1 ⟨rfl, hb1⟩
    have HB1 := Lib.hid hb1
    have hr1 := (hr.mono hB).below hb1
    have hs1 := hb1.size
    clear hb1 hr hbt
    go_wp2_with fail
    go_loopw [5, 21] (fun s kk wr => ∃ k : Nat, k ≤ n ∧ kk = .int .i64 k ∧ s = .int .i64 (leftTo bs k) ∧ Below w1.heap.size w1 wr) (fun _ kk _ => n - (intOf kk).toNat)
    case atStart => exact ⟨0, Nat.zero_le _, rfl, rfl, Below.refl _ _⟩
    case round =>
      obtain ⟨k, hk, rfl, rfl, hbl⟩ := hrel
      have HBL := Lib.hid hbl
      have hdev : DevTo bs n := by have := HOK.out.2; rw [HL.out] at this; exact this
      have hrg := leftTo_range (bs := bs) (k := k) (fun i hi => hdev i (by omega))
      by_cases hlt : k < n
      · obtain ⟨b, off, rfl, hbB, hc⟩ := hr1.at_ (by omega)
        obtain ⟨A', n', c', c0, c1, hnc, hcm, hrp⟩ := hc k hlt
        have hbs : b < w1.heap.size := by omega
        replace c0 := (hbl.cell (p := ⟨b, off + k * 2, none⟩) hbs).trans c0
        replace c1 := (hbl.cell (p := ⟨b, off + k * 2 + 1, none⟩) hbs).trans c1
        have hrg2 := (hrp.mono hs1).below hbl
        have hbk := hdev k hlt
        have HS := Lib.hid (show leftTo bs (k + 1) = leftTo bs k + (4 * (100 - (bs.getD k noBlock).wear + 1) - wroteTo (bs.getD k noBlock).pages 4) from rfl)
        obtain ⟨P, hP⟩ : ∃ P, bs.getD k noBlock = P := ⟨_, rfl⟩
        rw [hP] at c0 hrg2 hbk HS
        obtain ⟨we, ps⟩ := P
        simp only at c0 hrg2
        obtain ⟨⟨hw1, hw2⟩, hpl, _⟩ := hbk
        simp only at hw1 hw2 hpl
        have hn4 : n' = 4 := by rw [← hrg2.len, hpl]
        subst hn4
        have hsz := hbl.size
        have hq := wroteTo_le ps 4
        generalize leftTo bs k = acc at *
        clear hP hc hr1 hrp hbl hpl hdev
        go_wp2_with fail
        have bx : Below w1.heap.size w1 (wr.alloc (.cells #[.int .i64 we, .slice A' 4 c'] 67)).drew := (HBL.out.alloc hsz _).drew
        have hrx := hrg2.below (((Below.refl w1.heap.size wr).alloc hsz (.cells #[.int .i64 we, .slice A' 4 c'] 67)).drew)
        have f0 : (wr.alloc (.cells #[.int .i64 we, .slice A' 4 c'] 67)).cell? ⟨wr.heap.size, 0, none⟩ = some (.int .i64 we) := (Blk.new wr 67 #[.int .i64 we, .slice A' 4 c']).cell 0
        have f1 : (wr.alloc (.cells #[.int .i64 we, .slice A' 4 c'] 67)).cell? ⟨wr.heap.size, 1, none⟩ = some (.slice A' 4 c') := (Blk.new wr 67 #[.int .i64 we, .slice A' 4 c']).cell 1
        have sx : wr.heap.size < (wr.alloc (.cells #[.int .i64 we, .slice A' 4 c'] 67)).drew.heap.size := by simp
        generalize wr.alloc (.cells #[.int .i64 we, .slice A' 4 c'] 67) = wx at *
        generalize wr.heap.size = g7 at *
        have HRX := Lib.hid hrx
        have BX := Lib.hid bx
        clear hrg2 hrx bx c0 c1
        have v1 : IntKind.i64.wrap (100 - we) = 100 - we := IntWalk.i64_in _ (by omega)
        have v2 : IntKind.i64.wrap (100 - we + 1) = 100 - we + 1 := IntWalk.i64_in _ (by omega)
        have v3 : IntKind.i64.wrap (4 * (100 - we + 1)) = 4 * (100 - we + 1) := IntWalk.i64_in _ (by omega)
        have v4 : IntKind.i64.wrap (4 * (100 - we + 1) - ((wroteTo ps 4 : Nat) : Int)) = 4 * (100 - we + 1) - ((wroteTo ps 4 : Nat) : Int) := IntWalk.i64_in _ (by omega)
        have v5 : IntKind.i64.wrap (acc + (4 * (100 - we + 1) - ((wroteTo ps 4 : Nat) : Int))) = acc + (4 * (100 - we + 1) - ((wroteTo ps 4 : Nat) : Int)) := IntWalk.i64_in _ (by omega)
        go_region_with (go_at_call 36; refine (writtenPages_c HRX.out BX.out.size hnc hcm).mono ?_; rintro e w2 ⟨rfl, hb2⟩; have f0' := (hb2.cell (p := ⟨g7, 0, none⟩) sx).trans f0; have f1' := (hb2.cell (p := ⟨g7, 1, none⟩) sx).trans f1)
        all_goals
          go_wp2
          go_roundw
          case rel => exact ⟨k + 1, by omega, by go_num, by rw [HS.out], BX.out.trans (hb2.mono BX.out.size)⟩
          case measure => simp [intOf]; omega
      · obtain rfl : k = n := by omega
        rw [HL.out] at HE
        have v1 : IntKind.i64.wrap (leftTo bs k * 100) = leftTo bs k * 100 := IntWalk.i64_in _ (by omega)
        generalize leftTo bs k = q at *
        have hq1 : 0 ≤ q * 100 / sh := Int.ediv_nonneg (by omega) (by omega)
        have hq2 : q * 100 / sh ≤ 4000000 := Int.ediv_le_of_le_mul (by omega) (by omega)
        clear hr1 hbl hdev
        go_wp2
        go_ret
        exact ⟨ret_int HE.out.symm, HB1.out.trans (HBL.out.mono hs1)⟩
  · have HE := Lib.hid (left_no (bs := bs) (sh := sh) (fun h => hok h.1))
    go_enter Try.func12, Try.ntmps12
    go_wp2_with (go_at_call 35; refine (deviceValid_impl hr hB hn).mono ?_; rw [bof_f.2 hok]; rintro e w' ⟨rfl, hb2⟩)
    go_ret
    exact ⟨ret_int HE.out.symm, hb2⟩
end Go.Proofs.Ytjnpgdhpneifjaa
