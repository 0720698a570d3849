/- Parts of the proof, one after the other; each says what it proves. -/
import Derived.Test.YtjnpgdhpneifjaaG3
/- Contracts of WritesLeft, the program's and the reference's. Condition: at most 2^20 blocks. -/
namespace Go.Proofs.Ytjnpgdhpneifjaa
open Go.ChangeShapes Go.WideShapes Go.ChangeAt Go.RowKit
set_option linter.unusedVariables false
set_option linter.unusedSimpArgs false

/-- how many of the first k pages are written -/
def wroteTo (ps : List PageV) : Nat → Nat
  | 0 => 0
  | k + 1 => wroteTo ps k + if (ps.getD k noPage).full then 1 else 0
theorem wroteTo_le (ps : List PageV) : ∀ k, wroteTo ps k ≤ k
  | 0 => Nat.le_refl _
  | k + 1 => by have := wroteTo_le ps k; unfold wroteTo; split <;> omega
/-- how many pages the first k blocks can still take -/
def leftTo (bs : List BlockV) : Nat → Int
  | 0 => 0
  | k + 1 => leftTo bs k + (4 * (100 - (bs.getD k noBlock).wear + 1) - wroteTo (bs.getD k noBlock).pages 4)
theorem leftTo_range {bs : List BlockV} : ∀ {k : Nat}, DevTo bs k → 0 ≤ leftTo bs k ∧ leftTo bs k ≤ 404 * k
  | 0, _ => by unfold leftTo; omega
  | k + 1, h => by
    have h1 := leftTo_range (bs := bs) (k := k) (fun i hi => h i (by omega))
    have h2 := (h k (by omega)).1
    have h3 := wroteTo_le (bs.getD k noBlock).pages 4
    unfold leftTo
    omega
def LeftOk (bs : List BlockV) (sh : Int) : Prop := DevOk bs ∧ 100 ≤ sh ∧ sh ≤ 10000
open Classical in
noncomputable def writesLeft (bs : List BlockV) (sh : Int) : Int := if LeftOk bs sh then leftTo bs bs.length * 100 / sh else -1
theorem left_no {bs sh} (h : ¬ LeftOk bs sh) : writesLeft bs sh = -1 := by unfold writesLeft; rw [if_neg h]
theorem left_yes {bs sh} (h : LeftOk bs sh) : writesLeft bs sh = leftTo bs bs.length * 100 / sh := by unfold writesLeft; rw [if_pos h]

theorem writtenPages_c {we : Int} {A : Option Addr} {n c B : Nat} {ps : List PageV} {w : World} (hr : RdG w B A n ps) (hB : B ≤ w.heap.size) (hnc : n ≤ c) (hcm : c ≤ 9223372036854775807) :
    Calls Try.prog 36 #[.agg #[.int .i64 we, .slice A n c]] w fun e w' => e = .returned (.int .i64 (wroteTo ps n)) ∧ Below w.heap.size w w' := by
  have b1 : Below w.heap.size w (w.alloc (.cells #[.int .i64 we, .slice A n c] 67)) := (Below.refl _ _).alloc (Nat.le_refl _) _
  go_enter Try.func36, Try.ntmps36
  go_wp2
  have hr1 := (hr.mono hB).below b1
  have HB1 := Lib.hid b1
  have hs1 := b1.size
  clear b1 hr
  generalize w.alloc (.cells #[.int .i64 we, .slice A n c] 67) = w1 at *
  generalize hg0 : w.heap.size = g0 at hr1 hs1 hB ⊢
  have HG0 := Lib.hid hg0
  clear hg0
  go_loopw [3, 9] (fun s kk wr => ∃ k : Nat, k ≤ n ∧ kk = .int .i64 k ∧ s = .int .i64 (wroteTo ps k) ∧ Below w1.heap.size w1 wr) (fun _ kk _ => n - (intOf kk).toNat)
  case atStart => exact ⟨0, Nat.zero_le _, rfl, rfl, Below.refl _ _⟩
  case round =>
    obtain ⟨k, hk, rfl, rfl, hbl⟩ := hrel
    have HBL := Lib.hid hbl
    have hwk := wroteTo_le ps k
    by_cases hlt : k < n
    · obtain ⟨b, off, rfl, hbB, hc⟩ := hr1.at_ (by omega)
      have hb1 : b < w1.heap.size := by omega
      obtain ⟨c0, c1, c2, c3, c4⟩ := hc k hlt
      replace c0 := (hbl.cell hb1).trans c0
      replace c1 := (hbl.cell hb1).trans c1
      replace c2 := (hbl.cell hb1).trans c2
      replace c3 := (hbl.cell hb1).trans c3
      replace c4 := (hbl.cell hb1).trans c4
      have HW := Lib.hid (show wroteTo ps (k + 1) = wroteTo ps k + if (ps.getD k noPage).full then 1 else 0 from rfl)
      obtain ⟨P, hP⟩ : ∃ P, ps.getD k noPage = P := ⟨_, rfl⟩
      rw [hP] at c0 c1 c2 c3 c4 HW
      obtain ⟨f, x, y, z, s⟩ := P
      simp only at c0 c1 c2 c3 c4
      generalize wroteTo ps k = q at *
      have hsz := hbl.size
      clear hP hc hr1 hbl
      cases f
      · go_wp2
        go_roundw
        case rel => exact ⟨k + 1, by omega, by go_num, by rw [HW.out]; simp, HBL.out.alloc hsz _⟩
        case measure => simp [intOf]; omega
      · go_wp2
        go_roundw
        case rel => exact ⟨k + 1, by omega, by go_num, by rw [HW.out]; simp, HBL.out.alloc hsz _⟩
        case measure => simp [intOf]; omega
    · obtain rfl : k = n := by omega
      go_wp2
      go_ret
      exact ⟨rfl, HB1.out.trans (HBL.out.mono (by rw [HG0.out]; exact hs1))⟩

theorem writesLeft_impl {A : Option Addr} {n c B : Nat} {bs : List BlockV} {sh : Int} {w : World} (hr : RdB w B A n bs) (hB : B ≤ w.heap.size) (hn : n ≤ 1048576) :
    Calls Try.prog 12 #[.slice A n c, .int .i64 sh] w fun e w' => e = .returned (.int .i64 (writesLeft bs sh)) ∧ Below w.heap.size w w' := by
  have HL := Lib.hid hr.len
  by_cases hok : DevOk bs
  · by_cases h1 : sh < 100
    · have HE := Lib.hid (left_no (bs := bs) (sh := sh) (fun h => by have := h.2; omega))
      go_enter Try.func12, Try.ntmps12
      go_wp2_with (go_at_call 35; refine (deviceValid_impl hr hB hn).mono ?_; rw [bof_t.2 hok]; rintro e w' ⟨rfl, hb2⟩)
      go_ret
      exact ⟨ret_int HE.out.symm, hb2⟩
    by_cases h2 : 10000 < sh
    · have HE := Lib.hid (left_no (bs := bs) (sh := sh) (fun h => by have := h.2; omega))
      go_enter Try.func12, Try.ntmps12
      go_wp2_with (go_at_call 35; refine (deviceValid_impl hr hB hn).mono ?_; rw [bof_t.2 hok]; rintro e w' ⟨rfl, hb2⟩)
      go_ret
      exact ⟨ret_int HE.out.symm, hb2⟩
    have hn12 : n ≤ 12 := by have := hok.1.2; have := HL.out; omega
    have HE := Lib.hid (left_yes (bs := bs) (sh := sh) ⟨hok, by omega, by omega⟩)
    have HOK := Lib.hid hok
    have hbt := bof_t.2 hok
    clear hok
    go_enter Try.func12, Try.ntmps12
    go_wp2_with fail
    refine (deviceValid_impl hr hB hn).mono ?_
    rw [hbt]
    rintro e w1 ⟨rfl, hb1⟩
    have HB1 := Lib.hid hb1
    have hr1 := (hr.mono hB).below hb1
    have hs1 := hb1.size
    clear hb1 hr hbt
    go_wp2_with fail
    go_loopw [5, 21] (fun s kk wr => ∃ k : Nat, k ≤ n ∧ kk = .int .i64 k ∧ s = .int .i64 (leftTo bs k) ∧ Below w1.heap.size w1 wr) (fun _ kk _ => n - (intOf kk).toNat)
    case atStart => exact ⟨0, Nat.zero_le _, rfl, rfl, Below.refl _ _⟩
    case round =>
      obtain ⟨k, hk, rfl, rfl, hbl⟩ := hrel
      have HBL := Lib.hid hbl
      have hdev : DevTo bs n := by have := HOK.out.2; rw [HL.out] at this; exact this
      have hrg := leftTo_range (bs := bs) (k := k) (fun i hi => hdev i (by omega))
      by_cases hlt : k < n
      · obtain ⟨b, off, rfl, hbB, hc⟩ := hr1.at_ (by omega)
        obtain ⟨A', n', c', c0, c1, hnc, hcm, hrp⟩ := hc k hlt
        have hbs : b < w1.heap.size := by omega
        replace c0 := (hbl.cell (p := ⟨b, off + k * 2, none⟩) hbs).trans c0
        replace c1 := (hbl.cell (p := ⟨b, off + k * 2 + 1, none⟩) hbs).trans c1
        have hrg2 := (hrp.mono hs1).below hbl
        have hbk := hdev k hlt
        have HS := Lib.hid (show leftTo bs (k + 1) = leftTo bs k + (4 * (100 - (bs.getD k noBlock).wear + 1) - wroteTo (bs.getD k noBlock).pages 4) from rfl)
        obtain ⟨P, hP⟩ : ∃ P, bs.getD k noBlock = P := ⟨_, rfl⟩
        rw [hP] at c0 hrg2 hbk HS
        obtain ⟨we, ps⟩ := P
        simp only at c0 hrg2
        obtain ⟨⟨hw1, hw2⟩, hpl, _⟩ := hbk
        simp only at hw1 hw2 hpl
        have hn4 : n' = 4 := by rw [← hrg2.len, hpl]
        subst hn4
        have hsz := hbl.size
        have hq := wroteTo_le ps 4
        generalize leftTo bs k = acc at *
        clear hP hc hr1 hrp hbl hpl hdev
        go_wp2_with fail
        have bx : Below w1.heap.size w1 (wr.alloc (.cells #[.int .i64 we, .slice A' 4 c'] 67)).drew := (HBL.out.alloc hsz _).drew
        have hrx := hrg2.below (((Below.refl w1.heap.size wr).alloc hsz (.cells #[.int .i64 we, .slice A' 4 c'] 67)).drew)
        have f0 : (wr.alloc (.cells #[.int .i64 we, .slice A' 4 c'] 67)).cell? ⟨wr.heap.size, 0, none⟩ = some (.int .i64 we) := (Blk.new wr 67 #[.int .i64 we, .slice A' 4 c']).cell 0
        have f1 : (wr.alloc (.cells #[.int .i64 we, .slice A' 4 c'] 67)).cell? ⟨wr.heap.size, 1, none⟩ = some (.slice A' 4 c') := (Blk.new wr 67 #[.int .i64 we, .slice A' 4 c']).cell 1
        have sx : wr.heap.size < (wr.alloc (.cells #[.int .i64 we, .slice A' 4 c'] 67)).drew.heap.size := by simp
        generalize wr.alloc (.cells #[.int .i64 we, .slice A' 4 c'] 67) = wx at *
        generalize wr.heap.size = g7 at *
        have HRX := Lib.hid hrx
        have BX := Lib.hid bx
        clear hrg2 hrx bx c0 c1
        have v1 : IntKind.i64.wrap (100 - we) = 100 - we := IntWalk.i64_in _ (by omega)
        have v2 : IntKind.i64.wrap (100 - we + 1) = 100 - we + 1 := IntWalk.i64_in _ (by omega)
        have v3 : IntKind.i64.wrap (4 * (100 - we + 1)) = 4 * (100 - we + 1) := IntWalk.i64_in _ (by omega)
        have v4 : IntKind.i64.wrap (4 * (100 - we + 1) - ((wroteTo ps 4 : Nat) : Int)) = 4 * (100 - we + 1) - ((wroteTo ps 4 : Nat) : Int) := IntWalk.i64_in _ (by omega)
        have v5 : IntKind.i64.wrap (acc + (4 * (100 - we + 1) - ((wroteTo ps 4 : Nat) : Int))) = acc + (4 * (100 - we + 1) - ((wroteTo ps 4 : Nat) : Int)) := IntWalk.i64_in _ (by omega)
        go_region_with (go_at_call 36; refine (writtenPages_c HRX.out BX.out.size hnc hcm).mono ?_; rintro e w2 ⟨rfl, hb2⟩; have f0' := (hb2.cell (p := ⟨g7, 0, none⟩) sx).trans f0; have f1' := (hb2.cell (p := ⟨g7, 1, none⟩) sx).trans f1)
        all_goals
          go_wp2
          go_roundw
          case rel => exact ⟨k + 1, by omega, by go_num, by rw [HS.out], BX.out.trans (hb2.mono BX.out.size)⟩
          case measure => simp [intOf]; omega
      · obtain rfl : k = n := by omega
        rw [HL.out] at HE
        have v1 : IntKind.i64.wrap (leftTo bs k * 100) = leftTo bs k * 100 := IntWalk.i64_in _ (by omega)
        generalize leftTo bs k = q at *
        have hq1 : 0 ≤ q * 100 / sh := Int.ediv_nonneg (by omega) (by omega)
        have hq2 : q * 100 / sh ≤ 4000000 := Int.ediv_le_of_le_mul (by omega) (by omega)
        clear hr1 hbl hdev
        go_wp2
        go_ret
        exact ⟨ret_int HE.out.symm, HB1.out.trans (HBL.out.mono hs1)⟩
  · have HE := Lib.hid (left_no (bs := bs) (sh := sh) (fun h => hok h.1))
    go_enter Try.func12, Try.ntmps12
    go_wp2_with (go_at_call 35; refine (deviceValid_impl hr hB hn).mono ?_; rw [bof_f.2 hok]; rintro e w' ⟨rfl, hb2⟩)
    go_ret
    exact ⟨ret_int HE.out.symm, hb2⟩
end Go.Proofs.Ytjnpgdhpneifjaa

/- Contracts of the reference's ReadPage, FreePages and WritesLeft. Condition: at most 2^20 blocks. -/
namespace Go.Proofs.Ytjnpgdhpneifjaa
open Go.ChangeShapes Go.WideShapes Go.ChangeAt Go.RowKit
set_option linter.unusedVariables false
set_option linter.unusedSimpArgs false

def pgv (p : PageV) : Value := .agg #[.bool p.full, .int .i64 p.file, .int .i64 p.place, .int .i64 p.value, .int .i64 p.stamp]
/-- the page with this number -/
def pageN (bs : List BlockV) (at' : Nat) : PageV := (bs.getD (at' / 4) noBlock).pages.getD (at' % 4) noPage

set_option maxHeartbeats 2000000 in
theorem readPage_c {A : Option Addr} {n c B at' : Nat} {bs : List BlockV} {w : World} (hr : RdB w B A n bs) (hB : B ≤ w.heap.size) (hn : n ≤ 1048576) (hok : DevOk bs) (hat : at' < 4 * n) :
    Calls Try.prog 76 #[.slice A n c, .int .i64 (at' : Nat)] w fun e w' => e = .returned (.tuple #[pgv (pageN bs at'), .bool (pageN bs at').full]) ∧ Below w.heap.size w w' := by
  have HL := Lib.hid hr.len
  have hn12 : n ≤ 12 := by have := hok.1.2; have := HL.out; omega
  have hbt := bof_t.2 hok
  have hin : inB (at' : Int) 0 (4 * (n : Int) - 1) = true := by rw [inB_t]; omega
  have v1 : IntKind.i64.wrap (4 * (n : Int)) = 4 * (n : Int) := IntWalk.i64_in _ (by omega)
  have v2 : IntKind.i64.wrap (4 * (n : Int) - 1) = 4 * (n : Int) - 1 := IntWalk.i64_in _ (by omega)
  have b0 : Below w.heap.size w (w.alloc (.cells #[.bool false, .int .i64 0, .int .i64 0, .int .i64 0, .int .i64 0] 102)) := (Below.refl _ _).alloc (Nat.le_refl _) _
  have s0 : w.heap.size < (w.alloc (.cells #[.bool false, .int .i64 0, .int .i64 0, .int .i64 0, .int .i64 0] 102)).heap.size := by simp
  have hr0 := (hr.mono hB).below b0
  have B0 := Lib.hid b0
  have K0 := Lib.hid (Blk.new w 102 #[.bool false, .int .i64 0, .int .i64 0, .int .i64 0, .int .i64 0])
  clear hr b0
  go_enter Try.func76, Try.ntmps76
  go_wp2_with fail
  generalize w.alloc (.cells #[.bool false, .int .i64 0, .int .i64 0, .int .i64 0, .int .i64 0] 102) = w0 at *
  refine (deviceValid_spec hr0 (by omega) hn).mono ?_
  rw [hbt]
  rintro e w1 ⟨rfl, hb1⟩
  have hr1 := hr0.below (hb1.mono (by omega))
  have K1 := K0.out.below hb1 s0
  have B1 := Lib.hid (B0.out.trans (hb1.mono (by omega)))
  have hs1 := hb1.size
  generalize hg0 : w.heap.size = g0 at K1 hr1 s0 ⊢
  have HG0 := Lib.hid hg0
  clear hr0 hb1 hbt hg0
  obtain ⟨b, off, rfl, hbB, hc⟩ := hr1.at_ (by omega)
  have hi : at' / 4 < n := by omega
  obtain ⟨A', n', c', c0, c1, hnc, hcm, hrg⟩ := hc (at' / 4) hi
  have hbk := hok.2 (at' / 4) (by rw [HL.out]; exact hi)
  have hpl := hbk.2.1
  have hn4 : n' = 4 := by rw [← hrg.len, hpl]
  subst hn4
  obtain ⟨b', off', rfl, hbB', hc'⟩ := hrg.at_ (by omega)
  have hj : at' % 4 < 4 := by omega
  obtain ⟨d0, d1, d2, d3, d4⟩ := hc' (at' % 4) hj
  have HP := Lib.hid (show pageN bs at' = (bs.getD (at' / 4) noBlock).pages.getD (at' % 4) noPage from rfl)
  obtain ⟨P, hP⟩ : ∃ P, (bs.getD (at' / 4) noBlock).pages.getD (at' % 4) noPage = P := ⟨_, rfl⟩
  rw [hP] at d0 d1 d2 d3 d4 HP
  obtain ⟨f, x, y, z, s⟩ := P
  simp only at d0 d1 d2 d3 d4
  have q1 : ((at' : Nat) : Int) / 4 = ((at' / 4 : Nat) : Int) := by omega
  have q2 : ((at' : Nat) : Int) % 4 = ((at' % 4 : Nat) : Int) := by omega
  generalize at' / 4 = i at *
  generalize at' % 4 = j at *
  clear hP hc hc' hrg hr1 hbk hpl
  go_wp2_with (go_at_call 32; refine (l1In_c _ _ _ _).mono ?_; rw [hin]; rintro e w' ⟨rfl, rfl⟩)
  have K6 := Blk.new w1 102 #[.bool f, .int .i64 x, .int .i64 y, .int .i64 z, .int .i64 s]
  have K4 := K1.alloc (.cells #[.bool f, .int .i64 x, .int .i64 y, .int .i64 z, .int .i64 s] 102)
  have B6 := Lib.hid (B1.out.alloc B1.out.size (.cells #[.bool f, .int .i64 x, .int .i64 y, .int .i64 z, .int .i64 s] 102))
  have hne : g0 ≠ w1.heap.size := by omega
  generalize w1.alloc (.cells #[.bool f, .int .i64 x, .int .i64 y, .int .i64 z, .int .i64 s] 102) = wx at *
  generalize w1.heap.size = g6 at *
  have e0 := K6.cell 0
  have e1 := K6.cell 1
  have e2 := K6.cell 2
  have e3 := K6.cell 3
  have e4 := K6.cell 4
  have t0 := K4.cell 0
  have t1 := K4.cell 1
  have t2 := K4.cell 2
  have t3 := K4.cell 3
  have t4 := K4.cell 4
  have z0 := K4.frozen 0
  have z1 := K4.frozen 1
  have z2 := K4.frozen 2
  have z3 := K4.frozen 3
  have z4 := K4.frozen 4
  simp at e0 e1 e2 e3 e4 t0 t1 t2 t3 t4
  have S0 := K4.set_ 0 (.bool f)
  have S1 := S0.set_ 1 (.int .i64 x)
  have S2 := S1.set_ 2 (.int .i64 y)
  have S3 := S2.set_ 3 (.int .i64 z)
  have S4 := S3.set_ 4 (.int .i64 s)
  have hge : w.heap.size ≤ g0 := by rw [HG0.out]; exact Nat.le_refl _
  have KS := Lib.hid (show Blk _ g0 102 #[.bool f, .int .i64 x, .int .i64 y, .int .i64 z, .int .i64 s] from (by simpa using S4 : Blk (((((wx.setCell ⟨g0, 0, none⟩ (.bool f)).setCell ⟨g0, 1, none⟩ (.int .i64 x)).setCell ⟨g0, 2, none⟩ (.int .i64 y)).setCell ⟨g0, 3, none⟩ (.int .i64 z)).setCell ⟨g0, 4, none⟩ (.int .i64 s)) g0 102 #[.bool f, .int .i64 x, .int .i64 y, .int .i64 z, .int .i64 s]).drew)
  have BS := Lib.hid ((((((B6.out.setCell (p := ⟨g0, 0, none⟩) hge (.bool f)).setCell (p := ⟨g0, 1, none⟩) hge (.int .i64 x)).setCell (p := ⟨g0, 2, none⟩) hge (.int .i64 y)).setCell (p := ⟨g0, 3, none⟩) hge (.int .i64 z)).setCell (p := ⟨g0, 4, none⟩) hge (.int .i64 s)).drew)
  clear S0 S1 S2 S3 S4
  clear K6 K4 K1 d0 d1 d2 d3 d4 c0 c1
  go_region
  all_goals
    generalize (((((wx.setCell ⟨g0, 0, none⟩ (.bool f)).setCell ⟨g0, 1, none⟩ (.int .i64 x)).setCell ⟨g0, 2, none⟩ (.int .i64 y)).setCell ⟨g0, 3, none⟩ (.int .i64 z)).setCell ⟨g0, 4, none⟩ (.int .i64 s)).drew = ww at *
    have e0 := KS.out.cell 0
    have e1 := KS.out.cell 1
    have e2 := KS.out.cell 2
    have e3 := KS.out.cell 3
    have e4 := KS.out.cell 4
    simp at e0 e1 e2 e3 e4
    go_wp2
    refine bodyPost_ret (by simp [results, Try.results76, go_sem, e0, e1, e2, e3, e4]; try rfl) rfl ?_
    exact ⟨by rw [HP.out]; rfl, BS.out⟩
/-- how many of the first k pages of the device are not written -/
def freeTo (bs : List BlockV) : Nat → Nat
  | 0 => 0
  | k + 1 => freeTo bs k + if (pageN bs k).full then 0 else 1
theorem freeTo_le (bs : List BlockV) : ∀ k, freeTo bs k ≤ k
  | 0 => Nat.le_refl _
  | k + 1 => by
    have := freeTo_le bs k
    show (freeTo bs k + if (pageN bs k).full then 0 else 1) ≤ k + 1
    split <;> omega
def wroteAll (bs : List BlockV) : Nat → Nat
  | 0 => 0
  | k + 1 => wroteAll bs k + wroteTo (bs.getD k noBlock).pages 4
theorem wroteAll_le (bs : List BlockV) : ∀ k, wroteAll bs k ≤ 4 * k
  | 0 => Nat.le_refl _
  | k + 1 => by have := wroteAll_le bs k; have := wroteTo_le (bs.getD k noBlock).pages 4; unfold wroteAll; omega
theorem free_part (bs : List BlockV) (k : Nat) : ∀ j, j ≤ 4 → freeTo bs (4 * k + j) + wroteTo (bs.getD k noBlock).pages j = freeTo bs (4 * k) + j
  | 0, _ => rfl
  | j + 1, h => by
    have ih := free_part bs k j (by omega)
    have e1 : (4 * k + j) / 4 = k := by omega
    have e2 : (4 * k + j) % 4 = j := by omega
    have a1 : freeTo bs (4 * k + (j + 1)) = freeTo bs (4 * k + j) + if (pageN bs (4 * k + j)).full then 0 else 1 := rfl
    have a2 : wroteTo (bs.getD k noBlock).pages (j + 1) = wroteTo (bs.getD k noBlock).pages j + if ((bs.getD k noBlock).pages.getD j noPage).full then 1 else 0 := rfl
    have a3 : pageN bs (4 * k + j) = (bs.getD k noBlock).pages.getD j noPage := by unfold pageN; rw [e1, e2]
    rw [a1, a2, a3]
    split <;> omega
theorem free_wrote (bs : List BlockV) : ∀ k, freeTo bs (4 * k) + wroteAll bs k = 4 * k
  | 0 => rfl
  | k + 1 => by
    have ih := free_wrote bs k
    have h := free_part bs k 4 (Nat.le_refl _)
    show freeTo bs (4 * k + 4) + wroteAll bs (k + 1) = _
    unfold wroteAll
    omega
def capTo (bs : List BlockV) : Nat → Int
  | 0 => 0
  | k + 1 => capTo bs k + 4 * (100 - (bs.getD k noBlock).wear + 1)
theorem capTo_left (bs : List BlockV) : ∀ k, capTo bs k - wroteAll bs k = leftTo bs k
  | 0 => rfl
  | k + 1 => by
    have ih := capTo_left bs k
    show capTo bs k + 4 * (100 - (bs.getD k noBlock).wear + 1) - ((wroteAll bs k + wroteTo (bs.getD k noBlock).pages 4 : Nat) : Int) = leftTo bs k + (4 * (100 - (bs.getD k noBlock).wear + 1) - ((wroteTo (bs.getD k noBlock).pages 4 : Nat) : Int))
    omega
theorem capTo_range {bs : List BlockV} : ∀ {k : Nat}, DevTo bs k → 0 ≤ capTo bs k ∧ capTo bs k ≤ 404 * k
  | 0, _ => by unfold capTo; omega
  | k + 1, h => by
    have h1 := capTo_range (bs := bs) (k := k) (fun i hi => h i (by omega))
    have h2 := (h k (by omega)).1
    unfold capTo
    omega

theorem freePages_spec {A : Option Addr} {n c B : Nat} {bs : List BlockV} {w : World} (hr : RdB w B A n bs) (hB : B ≤ w.heap.size) (hn : n ≤ 1048576) (hok : DevOk bs) :
    Calls Try.prog 33 #[.slice A n c] w fun e w' => e = .returned (.int .i64 (freeTo bs (4 * n))) ∧ Below w.heap.size w w' := by
  have HL := Lib.hid hr.len
  have hn12 : n ≤ 12 := by have := hok.1.2; have := HL.out; omega
  have hbt := bof_t.2 hok
  have HOK := Lib.hid hok
  have v1 : IntKind.i64.wrap (4 * (n : Int)) = 4 * (n : Int) := IntWalk.i64_in _ (by omega)
  have hr0 := hr.mono hB
  clear hok hr
  go_enter Try.func33, Try.ntmps33
  go_wp2_with fail
  refine (deviceValid_spec hr0 (Nat.le_refl _) hn).mono ?_
  rw [hbt]
  rintro e w1 ⟨rfl, hb1⟩
  have hr1 := hr0.below hb1
  have HB1 := Lib.hid hb1
  have hs1 := hb1.size
  clear hr0 hb1 hbt
  go_wp2_with fail
  go_loopw [3, 4] (fun s kk wr => ∃ k : Nat, k ≤ 4 * n ∧ kk = .int .i64 k ∧ s = .int .i64 (freeTo bs k) ∧ Below w1.heap.size w1 wr) (fun _ kk _ => 4 * n - (intOf kk).toNat)
  case atStart => exact ⟨0, Nat.zero_le _, rfl, rfl, Below.refl _ _⟩
  case round =>
    obtain ⟨k, hk, rfl, rfl, hbl⟩ := hrel
    have HBL := Lib.hid hbl
    have hfk := freeTo_le bs k
    by_cases hlt : k < 4 * n
    · have hltz : (k : Int) < 4 * (n : Int) := by omega
      have hrw := (hr1.mono hs1).below hbl
      have hsz := hbl.size
      have HF := Lib.hid (show freeTo bs (k + 1) = freeTo bs k + if (pageN bs k).full then 0 else 1 from rfl)
      clear hbl
      go_wp2_with fail
      refine (readPage_c hrw hsz hn HOK.out hlt).mono ?_
      rintro e w2 ⟨rfl, hb2⟩
      have HB2 := Lib.hid (HBL.out.trans (hb2.mono hsz))
      have hs2 := HB2.out.size
      generalize freeTo bs k = q at *
      generalize pageN bs k = P at *
      obtain ⟨f, x, y, z, s⟩ := P
      unfold pgv
      clear hrw hb2
      cases f
      · go_wp2
        go_roundw
        case rel => exact ⟨k + 1, by omega, by go_num, by rw [HF.out]; simp, HB2.out.alloc hs2 _⟩
        case measure => simp [intOf]; omega
      · go_wp2
        go_roundw
        case rel => exact ⟨k + 1, by omega, by go_num, by rw [HF.out]; simp, HB2.out.alloc hs2 _⟩
        case measure => simp [intOf]; omega
    · obtain rfl : k = 4 * n := by omega
      go_wp2
      go_ret
      exact ⟨rfl, HB1.out.trans (HBL.out.mono hs1)⟩

theorem writesLeft_spec {A : Option Addr} {n c B : Nat} {bs : List BlockV} {sh : Int} {w : World} (hr : RdB w B A n bs) (hB : B ≤ w.heap.size) (hn : n ≤ 1048576) :
    Calls Try.prog 10 #[.slice A n c, .int .i64 sh] w fun e w' => e = .returned (.int .i64 (writesLeft bs sh)) ∧ Below w.heap.size w w' := by
  have HL := Lib.hid hr.len
  by_cases hok : DevOk bs
  · by_cases hsh : 100 ≤ sh ∧ sh ≤ 10000
    · have hn12 : n ≤ 12 := by have := hok.1.2; have := HL.out; omega
      have HE := Lib.hid (left_yes (bs := bs) (sh := sh) ⟨hok, hsh.1, hsh.2⟩)
      have hin : inB sh 100 10000 = true := by rw [inB_t]; exact hsh
      have HOK := Lib.hid hok
      have hbt := bof_t.2 hok
      clear hok
      go_enter Try.func10, Try.ntmps10
      go_wp2_with fail
      refine (deviceValid_spec hr hB hn).mono ?_
      rw [hbt]
      rintro e w1 ⟨rfl, hb1⟩
      have HB1 := Lib.hid hb1
      have hr1 := (hr.mono hB).below hb1
      have hs1 := hb1.size
      clear hb1 hr hbt
      go_wp2_with (go_at_call 32; refine (l1In_c _ _ _ _).mono ?_; rw [hin]; rintro e w' ⟨rfl, rfl⟩)
      go_loopw [5, 6] (fun s kk wr => ∃ k : Nat, k ≤ n ∧ kk = .int .i64 k ∧ s = .int .i64 (capTo bs k) ∧ Below w1.heap.size w1 wr) (fun _ kk _ => n - (intOf kk).toNat)
      case atStart => exact ⟨0, Nat.zero_le _, rfl, rfl, Below.refl _ _⟩
      case round =>
        obtain ⟨k, hk, rfl, rfl, hbl⟩ := hrel
        have HBL := Lib.hid hbl
        have hdev : DevTo bs n := by have := HOK.out.2; rw [HL.out] at this; exact this
        have hrg := capTo_range (bs := bs) (k := k) (fun i hi => hdev i (by omega))
        by_cases hlt : k < n
        · obtain ⟨b, off, rfl, hbB, hc⟩ := hr1.at_ (by omega)
          obtain ⟨A', n', c', c0, c1, hnc, hcm, hrp⟩ := hc k hlt
          have hbs : b < w1.heap.size := by omega
          replace c0 := (hbl.cell (p := ⟨b, off + k * 2, none⟩) hbs).trans c0
          have hbk := (hdev k hlt).1
          have HS := Lib.hid (show capTo bs (k + 1) = capTo bs k + 4 * (100 - (bs.getD k noBlock).wear + 1) from rfl)
          generalize (bs.getD k noBlock).wear = we at *
          generalize capTo bs k = acc at *
          obtain ⟨hw1, hw2⟩ := hbk
          clear hc hr1 hrp hbl hdev c1
          go_wp2
          go_roundw
          case rel => exact ⟨k + 1, by omega, by go_num, by rw [HS.out], HBL.out⟩
          case measure => simp [intOf]; omega
        · obtain rfl : k = n := by omega
          rw [HL.out] at HE
          have HC := Lib.hid (capTo_left bs k)
          have HW := Lib.hid (free_wrote bs k)
          have hwl := wroteAll_le bs k
          have hlr := leftTo_range (bs := bs) (k := k) (fun i hi => hdev i (by omega))
          have hfl := freeTo_le bs (4 * k)
          have hr2 := (hr1.mono hs1).below hbl
          have hsz := hbl.size
          have HV := Lib.hid (show capTo bs k - (4 * (k : Int) - (freeTo bs (4 * k) : Nat)) = leftTo bs k by have := HC.out; have := HW.out; omega)
          have hv0 : 0 ≤ capTo bs k - (4 * (k : Int) - (freeTo bs (4 * k) : Nat)) := by rw [HV.out]; exact hlr.1
          have hv1 : capTo bs k - (4 * (k : Int) - (freeTo bs (4 * k) : Nat)) ≤ 404 * k := by rw [HV.out]; exact hlr.2
          have hq1 : 0 ≤ (capTo bs k - (4 * (k : Int) - (freeTo bs (4 * k) : Nat))) * 100 / sh := Int.ediv_nonneg (by omega) (by omega)
          have hq2 : (capTo bs k - (4 * (k : Int) - (freeTo bs (4 * k) : Nat))) * 100 / sh ≤ 4000000 := Int.ediv_le_of_le_mul (by omega) (by omega)
          clear hr1 hbl hdev
          go_wp2_with fail
          refine (freePages_spec hr2 hsz hn HOK.out).mono ?_
          rintro e w2 ⟨rfl, hb2⟩
          have HB2 := Lib.hid (HB1.out.trans ((HBL.out.trans (hb2.mono hsz)).mono hs1))
          clear hb2 hr2
          generalize freeTo bs (4 * k) = q at *
          generalize capTo bs k = cp at *
          go_wp2
          go_ret
          exact ⟨ret_int (by rw [HE.out, HV.out]), HB2.out⟩
    · have hin : inB sh 100 10000 = false := by rw [inB_f]; omega
      have HE := Lib.hid (left_no (bs := bs) (sh := sh) (fun h => hsh h.2))
      go_enter Try.func10, Try.ntmps10
      go_wp2_with (first | (go_at_call 32; refine (l1In_c _ _ _ _).mono ?_; rw [hin]; rintro e w' ⟨rfl, rfl⟩) | (go_at_call 31; refine (deviceValid_spec hr hB hn).mono ?_; rw [bof_t.2 hok]; rintro e w' ⟨rfl, hb2⟩))
      go_ret
      exact ⟨ret_int HE.out.symm, hb2⟩
  · have HE := Lib.hid (left_no (bs := bs) (sh := sh) (fun h => hok h.1))
    go_enter Try.func10, Try.ntmps10
    go_wp2_with (go_at_call 31; refine (deviceValid_spec hr hB hn).mono ?_; rw [bof_f.2 hok]; rintro e w' ⟨rfl, hb2⟩)
    go_ret
    exact ⟨ret_int HE.out.symm, hb2⟩
end Go.Proofs.Ytjnpgdhpneifjaa

/- ReadPage at any number, the program's and the reference's. Condition: a valid device. -/
namespace Go.Proofs.Ytjnpgdhpneifjaa
open Go.ChangeShapes Go.WideShapes Go.ChangeAt Go.RowKit
set_option linter.unusedVariables false
set_option linter.unusedSimpArgs false

set_option maxHeartbeats 2000000 in
theorem readPage_i {A : Option Addr} {n c B at' : Nat} {bs : List BlockV} {w : World} (hr : RdB w B A n bs) (hB : B ≤ w.heap.size) (hn : n ≤ 1048576) (hok : DevOk bs) (hat : at' < 4 * n) :
    Calls Try.prog 125 #[.slice A n c, .int .i64 (at' : Nat)] w fun e w' => e = .returned (.tuple #[pgv (pageN bs at'), .bool (pageN bs at').full]) ∧ Below w.heap.size w w' := by
  have HL := Lib.hid hr.len
  have hn12 : n ≤ 12 := by have := hok.1.2; have := HL.out; omega
  have hbt := bof_t.2 hok
  have hlt4 : ¬ (4 * (n : Int) ≤ (at' : Int)) := by omega
  have hlt5 : ¬ ((n : Int) * 4 ≤ (at' : Int)) := by omega
  have v1 : IntKind.i64.wrap (4 * (n : Int)) = 4 * (n : Int) := IntWalk.i64_in _ (by omega)
  have v2 : IntKind.i64.wrap (4 * (n : Int) - 1) = 4 * (n : Int) - 1 := IntWalk.i64_in _ (by omega)
  have b0 : Below w.heap.size w (w.alloc (.cells #[.bool false, .int .i64 0, .int .i64 0, .int .i64 0, .int .i64 0] 102)) := (Below.refl _ _).alloc (Nat.le_refl _) _
  have s0 : w.heap.size < (w.alloc (.cells #[.bool false, .int .i64 0, .int .i64 0, .int .i64 0, .int .i64 0] 102)).heap.size := by simp
  have hr0 := (hr.mono hB).below b0
  have B0 := Lib.hid b0
  have K0 := Lib.hid (Blk.new w 102 #[.bool false, .int .i64 0, .int .i64 0, .int .i64 0, .int .i64 0])
  clear hr b0
  go_enter Try.func125, Try.ntmps125
  go_wp2_with fail
  generalize w.alloc (.cells #[.bool false, .int .i64 0, .int .i64 0, .int .i64 0, .int .i64 0] 102) = w0 at *
  refine (deviceValid_impl hr0 (by omega) hn).mono ?_
  rw [hbt]
  rintro e w1 ⟨rfl, hb1⟩
  have hr1 := hr0.below (hb1.mono (by omega))
  have K1 := K0.out.below hb1 s0
  have B1 := Lib.hid (B0.out.trans (hb1.mono (by omega)))
  have hs1 := hb1.size
  generalize hg0 : w.heap.size = g0 at K1 hr1 s0 ⊢
  have HG0 := Lib.hid hg0
  clear hr0 hb1 hbt hg0
  obtain ⟨b, off, rfl, hbB, hc⟩ := hr1.at_ (by omega)
  have hi : at' / 4 < n := by omega
  obtain ⟨A', n', c', c0, c1, hnc, hcm, hrg⟩ := hc (at' / 4) hi
  have hbk := hok.2 (at' / 4) (by rw [HL.out]; exact hi)
  have hpl := hbk.2.1
  have hn4 : n' = 4 := by rw [← hrg.len, hpl]
  subst hn4
  obtain ⟨b', off', rfl, hbB', hc'⟩ := hrg.at_ (by omega)
  have hj : at' % 4 < 4 := by omega
  obtain ⟨d0, d1, d2, d3, d4⟩ := hc' (at' % 4) hj
  have HP := Lib.hid (show pageN bs at' = (bs.getD (at' / 4) noBlock).pages.getD (at' % 4) noPage from rfl)
  obtain ⟨P, hP⟩ : ∃ P, (bs.getD (at' / 4) noBlock).pages.getD (at' % 4) noPage = P := ⟨_, rfl⟩
  rw [hP] at d0 d1 d2 d3 d4 HP
  obtain ⟨f, x, y, z, s⟩ := P
  simp only at d0 d1 d2 d3 d4
  have q1 : ((at' : Nat) : Int) / 4 = ((at' / 4 : Nat) : Int) := by omega
  have q2 : ((at' : Nat) : Int) % 4 = ((at' % 4 : Nat) : Int) := by omega
  generalize at' / 4 = i at *
  generalize at' % 4 = j at *
  clear hP hc hc' hrg hr1 hbk hpl
  go_wp2
  have K6 := Blk.new w1 102 #[.bool f, .int .i64 x, .int .i64 y, .int .i64 z, .int .i64 s]
  have K4 := K1.alloc (.cells #[.bool f, .int .i64 x, .int .i64 y, .int .i64 z, .int .i64 s] 102)
  have B6 := Lib.hid (B1.out.alloc B1.out.size (.cells #[.bool f, .int .i64 x, .int .i64 y, .int .i64 z, .int .i64 s] 102))
  have hne : g0 ≠ w1.heap.size := by omega
  generalize w1.alloc (.cells #[.bool f, .int .i64 x, .int .i64 y, .int .i64 z, .int .i64 s] 102) = wx at *
  generalize w1.heap.size = g6 at *
  have e0 := K6.cell 0
  have e1 := K6.cell 1
  have e2 := K6.cell 2
  have e3 := K6.cell 3
  have e4 := K6.cell 4
  have t0 := K4.cell 0
  have t1 := K4.cell 1
  have t2 := K4.cell 2
  have t3 := K4.cell 3
  have t4 := K4.cell 4
  have z0 := K4.frozen 0
  have z1 := K4.frozen 1
  have z2 := K4.frozen 2
  have z3 := K4.frozen 3
  have z4 := K4.frozen 4
  simp at e0 e1 e2 e3 e4 t0 t1 t2 t3 t4
  have S0 := K4.set_ 0 (.bool f)
  have S1 := S0.set_ 1 (.int .i64 x)
  have S2 := S1.set_ 2 (.int .i64 y)
  have S3 := S2.set_ 3 (.int .i64 z)
  have S4 := S3.set_ 4 (.int .i64 s)
  have hge : w.heap.size ≤ g0 := by rw [HG0.out]; exact Nat.le_refl _
  have KS := Lib.hid (show Blk _ g0 102 #[.bool f, .int .i64 x, .int .i64 y, .int .i64 z, .int .i64 s] from (by simpa using S4 : Blk (((((wx.setCell ⟨g0, 0, none⟩ (.bool f)).setCell ⟨g0, 1, none⟩ (.int .i64 x)).setCell ⟨g0, 2, none⟩ (.int .i64 y)).setCell ⟨g0, 3, none⟩ (.int .i64 z)).setCell ⟨g0, 4, none⟩ (.int .i64 s)) g0 102 #[.bool f, .int .i64 x, .int .i64 y, .int .i64 z, .int .i64 s]).drew)
  have BS := Lib.hid ((((((B6.out.setCell (p := ⟨g0, 0, none⟩) hge (.bool f)).setCell (p := ⟨g0, 1, none⟩) hge (.int .i64 x)).setCell (p := ⟨g0, 2, none⟩) hge (.int .i64 y)).setCell (p := ⟨g0, 3, none⟩) hge (.int .i64 z)).setCell (p := ⟨g0, 4, none⟩) hge (.int .i64 s)).drew)
  clear S0 S1 S2 S3 S4
  clear K6 K4 K1 d0 d1 d2 d3 d4 c0 c1
  go_region
  all_goals
    generalize (((((wx.setCell ⟨g0, 0, none⟩ (.bool f)).setCell ⟨g0, 1, none⟩ (.int .i64 x)).setCell ⟨g0, 2, none⟩ (.int .i64 y)).setCell ⟨g0, 3, none⟩ (.int .i64 z)).setCell ⟨g0, 4, none⟩ (.int .i64 s)).drew = ww at *
    have e0 := KS.out.cell 0
    have e1 := KS.out.cell 1
    have e2 := KS.out.cell 2
    have e3 := KS.out.cell 3
    have e4 := KS.out.cell 4
    simp at e0 e1 e2 e3 e4
    go_wp2
    refine bodyPost_ret (by simp [results, Try.results125, go_sem, e0, e1, e2, e3, e4]; try rfl) rfl ?_
    exact ⟨by rw [HP.out]; rfl, BS.out⟩

/-- the page with this number, or none -/
noncomputable def pgAt (bs : List BlockV) (v : Int) : PageV := if 0 ≤ v ∧ v < 4 * (bs.length : Int) then pageN bs v.toNat else noPage
theorem pgAt_in {bs : List BlockV} {k : Nat} (h : k < 4 * bs.length) : pgAt bs k = pageN bs k := by unfold pgAt; rw [if_pos ⟨by omega, by omega⟩]; rfl
theorem pgAt_out {bs : List BlockV} {v : Int} (h : ¬ (0 ≤ v ∧ v < 4 * (bs.length : Int))) : pgAt bs v = noPage := by unfold pgAt; rw [if_neg h]
theorem readPage_sX {A : Option Addr} {n c B : Nat} {at' : Int} {bs : List BlockV} {w : World} (hr : RdB w B A n bs) (hB : B ≤ w.heap.size) (hn : n ≤ 1048576) (hok : DevOk bs) :
    Calls Try.prog 76 #[.slice A n c, .int .i64 at'] w fun e w' => e = .returned (.tuple #[pgv (pgAt bs at'), .bool (pgAt bs at').full]) ∧ Below w.heap.size w w' := by
  have hl := hr.len
  by_cases hin : 0 ≤ at' ∧ at' < 4 * (n : Int)
  · obtain ⟨k, rfl⟩ := Int.eq_ofNat_of_zero_le hin.1
    have hk : k < 4 * n := by omega
    have hp : pgAt bs (k : Int) = pageN bs k := pgAt_in (by omega)
    rw [hp]
    exact readPage_c hr hB hn hok hk
  · have hp : pgAt bs at' = noPage := pgAt_out (by rw [hl]; exact hin)
    rw [hp]
    have hn12 : n ≤ 12 := by have := hok.1.2; omega
    have hbt := bof_t.2 hok
    have b0 : Below w.heap.size w (w.alloc (.cells #[.bool false, .int .i64 0, .int .i64 0, .int .i64 0, .int .i64 0] 102)) := (Below.refl _ _).alloc (Nat.le_refl _) _
    have k0 := Blk.new w 102 #[.bool false, .int .i64 0, .int .i64 0, .int .i64 0, .int .i64 0]
    have s0 := k0.lt
    have hr0 := (hr.mono hB).below b0
    clear hr hp hl
    go_enter Try.func76, Try.ntmps76
    go_wp2_with fail
    generalize w.alloc (.cells #[.bool false, .int .i64 0, .int .i64 0, .int .i64 0, .int .i64 0] 102) = w0 at *
    refine (deviceValid_spec hr0 b0.size hn).mono ?_
    rw [hbt]
    rintro e w1 ⟨rfl, hb1⟩
    have k1 := k0.below hb1 s0
    have B1 := Lib.hid (b0.trans (hb1.mono b0.size))
    obtain ⟨t0, t1, t2, t3, t4⟩ : w1.cell? ⟨w.heap.size, 0, none⟩ = some (.bool false) ∧ w1.cell? ⟨w.heap.size, 1, none⟩ = some (.int .i64 0) ∧ w1.cell? ⟨w.heap.size, 2, none⟩ = some (.int .i64 0) ∧ w1.cell? ⟨w.heap.size, 3, none⟩ = some (.int .i64 0) ∧ w1.cell? ⟨w.heap.size, 4, none⟩ = some (.int .i64 0) := ⟨k1.cell 0, k1.cell 1, k1.cell 2, k1.cell 3, k1.cell 4⟩
    have z0 := k1.frozen 0
    have z1 := k1.frozen 1
    have z2 := k1.frozen 2
    have z3 := k1.frozen 3
    have z4 := k1.frozen 4
    have S4 := ((((k1.set_ 0 (.bool false)).set_ 1 (.int .i64 0)).set_ 2 (.int .i64 0)).set_ 3 (.int .i64 0)).set_ 4 (.int .i64 0)
    have KS := Lib.hid (show Blk (((((w1.setCell ⟨w.heap.size, 0, none⟩ (.bool false)).setCell ⟨w.heap.size, 1, none⟩ (.int .i64 0)).setCell ⟨w.heap.size, 2, none⟩ (.int .i64 0)).setCell ⟨w.heap.size, 3, none⟩ (.int .i64 0)).setCell ⟨w.heap.size, 4, none⟩ (.int .i64 0)) w.heap.size 102 #[.bool false, .int .i64 0, .int .i64 0, .int .i64 0, .int .i64 0] from by simpa using S4)
    have BS := Lib.hid (((((B1.out.setCell (p := ⟨w.heap.size, 0, none⟩) (Nat.le_refl _) (.bool false)).setCell (p := ⟨w.heap.size, 1, none⟩) (Nat.le_refl _) (.int .i64 0)).setCell (p := ⟨w.heap.size, 2, none⟩) (Nat.le_refl _) (.int .i64 0)).setCell (p := ⟨w.heap.size, 3, none⟩) (Nat.le_refl _) (.int .i64 0)).setCell (p := ⟨w.heap.size, 4, none⟩) (Nat.le_refl _) (.int .i64 0))
    clear k1 k0 b0 hb1 hr0 S4
    have hin2 : inB at' 0 (4 * (n : Int) - 1) = false := by rw [inB_f]; omega
    have v1 : IntKind.i64.wrap (4 * (n : Int)) = 4 * (n : Int) := IntWalk.i64_in _ (by omega)
    have v2 : IntKind.i64.wrap (4 * (n : Int) - 1) = 4 * (n : Int) - 1 := IntWalk.i64_in _ (by omega)
    go_wp2_with (go_at_call 32; refine (l1In_c _ _ _ _).mono ?_; rw [hin2]; rintro e w' ⟨rfl, rfl⟩)
    generalize ((((w1.setCell ⟨w.heap.size, 0, none⟩ (.bool false)).setCell ⟨w.heap.size, 1, none⟩ (.int .i64 0)).setCell ⟨w.heap.size, 2, none⟩ (.int .i64 0)).setCell ⟨w.heap.size, 3, none⟩ (.int .i64 0)).setCell ⟨w.heap.size, 4, none⟩ (.int .i64 0) = ww at *
    obtain ⟨p0, p1, p2, p3, p4⟩ : ww.cell? ⟨w.heap.size, 0, none⟩ = some (.bool false) ∧ ww.cell? ⟨w.heap.size, 1, none⟩ = some (.int .i64 0) ∧ ww.cell? ⟨w.heap.size, 2, none⟩ = some (.int .i64 0) ∧ ww.cell? ⟨w.heap.size, 3, none⟩ = some (.int .i64 0) ∧ ww.cell? ⟨w.heap.size, 4, none⟩ = some (.int .i64 0) := ⟨KS.out.cell 0, KS.out.cell 1, KS.out.cell 2, KS.out.cell 3, KS.out.cell 4⟩
    refine bodyPost_ret (by simp [results, Try.results76, go_sem, p0, p1, p2, p3, p4]; try rfl) rfl ?_
    exact ⟨rfl, BS.out⟩
theorem readPage_iX {A : Option Addr} {n c B : Nat} {at' : Int} {bs : List BlockV} {w : World} (hr : RdB w B A n bs) (hB : B ≤ w.heap.size) (hn : n ≤ 1048576) (hok : DevOk bs) :
    Calls Try.prog 125 #[.slice A n c, .int .i64 at'] w fun e w' => e = .returned (.tuple #[pgv (pgAt bs at'), .bool (pgAt bs at').full]) ∧ Below w.heap.size w w' := by
  have hl := hr.len
  by_cases hin : 0 ≤ at' ∧ at' < 4 * (n : Int)
  · obtain ⟨k, rfl⟩ := Int.eq_ofNat_of_zero_le hin.1
    have hk : k < 4 * n := by omega
    have hp : pgAt bs (k : Int) = pageN bs k := pgAt_in (by omega)
    rw [hp]
    exact readPage_i hr hB hn hok hk
  · have hp : pgAt bs at' = noPage := pgAt_out (by rw [hl]; exact hin)
    rw [hp]
    have hn12 : n ≤ 12 := by have := hok.1.2; omega
    have hbt := bof_t.2 hok
    have b0 : Below w.heap.size w (w.alloc (.cells #[.bool false, .int .i64 0, .int .i64 0, .int .i64 0, .int .i64 0] 102)) := (Below.refl _ _).alloc (Nat.le_refl _) _
    have k0 := Blk.new w 102 #[.bool false, .int .i64 0, .int .i64 0, .int .i64 0, .int .i64 0]
    have s0 := k0.lt
    have hr0 := (hr.mono hB).below b0
    clear hr hp hl
    go_enter Try.func125, Try.ntmps125
    go_wp2_with fail
    generalize w.alloc (.cells #[.bool false, .int .i64 0, .int .i64 0, .int .i64 0, .int .i64 0] 102) = w0 at *
    refine (deviceValid_impl hr0 b0.size hn).mono ?_
    rw [hbt]
    rintro e w1 ⟨rfl, hb1⟩
    have k1 := k0.below hb1 s0
    have B1 := Lib.hid (b0.trans (hb1.mono b0.size))
    obtain ⟨t0, t1, t2, t3, t4⟩ : w1.cell? ⟨w.heap.size, 0, none⟩ = some (.bool false) ∧ w1.cell? ⟨w.heap.size, 1, none⟩ = some (.int .i64 0) ∧ w1.cell? ⟨w.heap.size, 2, none⟩ = some (.int .i64 0) ∧ w1.cell? ⟨w.heap.size, 3, none⟩ = some (.int .i64 0) ∧ w1.cell? ⟨w.heap.size, 4, none⟩ = some (.int .i64 0) := ⟨k1.cell 0, k1.cell 1, k1.cell 2, k1.cell 3, k1.cell 4⟩
    have z0 := k1.frozen 0
    have z1 := k1.frozen 1
    have z2 := k1.frozen 2
    have z3 := k1.frozen 3
    have z4 := k1.frozen 4
    have S4 := ((((k1.set_ 0 (.bool false)).set_ 1 (.int .i64 0)).set_ 2 (.int .i64 0)).set_ 3 (.int .i64 0)).set_ 4 (.int .i64 0)
    have KS := Lib.hid (show Blk (((((w1.setCell ⟨w.heap.size, 0, none⟩ (.bool false)).setCell ⟨w.heap.size, 1, none⟩ (.int .i64 0)).setCell ⟨w.heap.size, 2, none⟩ (.int .i64 0)).setCell ⟨w.heap.size, 3, none⟩ (.int .i64 0)).setCell ⟨w.heap.size, 4, none⟩ (.int .i64 0)) w.heap.size 102 #[.bool false, .int .i64 0, .int .i64 0, .int .i64 0, .int .i64 0] from by simpa using S4)
    have BS := Lib.hid (((((B1.out.setCell (p := ⟨w.heap.size, 0, none⟩) (Nat.le_refl _) (.bool false)).setCell (p := ⟨w.heap.size, 1, none⟩) (Nat.le_refl _) (.int .i64 0)).setCell (p := ⟨w.heap.size, 2, none⟩) (Nat.le_refl _) (.int .i64 0)).setCell (p := ⟨w.heap.size, 3, none⟩) (Nat.le_refl _) (.int .i64 0)).setCell (p := ⟨w.heap.size, 4, none⟩) (Nat.le_refl _) (.int .i64 0))
    clear k1 k0 b0 hb1 hr0 S4
    by_cases hneg : at' < 0
    · go_wp2
      generalize ((((w1.setCell ⟨w.heap.size, 0, none⟩ (.bool false)).setCell ⟨w.heap.size, 1, none⟩ (.int .i64 0)).setCell ⟨w.heap.size, 2, none⟩ (.int .i64 0)).setCell ⟨w.heap.size, 3, none⟩ (.int .i64 0)).setCell ⟨w.heap.size, 4, none⟩ (.int .i64 0) = ww at *
      obtain ⟨p0, p1, p2, p3, p4⟩ : ww.cell? ⟨w.heap.size, 0, none⟩ = some (.bool false) ∧ ww.cell? ⟨w.heap.size, 1, none⟩ = some (.int .i64 0) ∧ ww.cell? ⟨w.heap.size, 2, none⟩ = some (.int .i64 0) ∧ ww.cell? ⟨w.heap.size, 3, none⟩ = some (.int .i64 0) ∧ ww.cell? ⟨w.heap.size, 4, none⟩ = some (.int .i64 0) := ⟨KS.out.cell 0, KS.out.cell 1, KS.out.cell 2, KS.out.cell 3, KS.out.cell 4⟩
      refine bodyPost_ret (by simp [results, Try.results125, go_sem, p0, p1, p2, p3, p4]; try rfl) rfl ?_
      exact ⟨rfl, BS.out⟩
    · have hge : (n : Int) * 4 ≤ at' := by omega
      go_wp2
      generalize ((((w1.setCell ⟨w.heap.size, 0, none⟩ (.bool false)).setCell ⟨w.heap.size, 1, none⟩ (.int .i64 0)).setCell ⟨w.heap.size, 2, none⟩ (.int .i64 0)).setCell ⟨w.heap.size, 3, none⟩ (.int .i64 0)).setCell ⟨w.heap.size, 4, none⟩ (.int .i64 0) = ww at *
      obtain ⟨p0, p1, p2, p3, p4⟩ : ww.cell? ⟨w.heap.size, 0, none⟩ = some (.bool false) ∧ ww.cell? ⟨w.heap.size, 1, none⟩ = some (.int .i64 0) ∧ ww.cell? ⟨w.heap.size, 2, none⟩ = some (.int .i64 0) ∧ ww.cell? ⟨w.heap.size, 3, none⟩ = some (.int .i64 0) ∧ ww.cell? ⟨w.heap.size, 4, none⟩ = some (.int .i64 0) := ⟨KS.out.cell 0, KS.out.cell 1, KS.out.cell 2, KS.out.cell 3, KS.out.cell 4⟩
      refine bodyPost_ret (by simp [results, Try.results125, go_sem, p0, p1, p2, p3, p4]; try rfl) rfl ?_
      exact ⟨rfl, BS.out⟩
end Go.Proofs.Ytjnpgdhpneifjaa

/- LastStamp, the program's and the reference's. Condition: a valid device. -/
namespace Go.Proofs.Ytjnpgdhpneifjaa
open Go.ChangeShapes Go.WideShapes Go.ChangeAt Go.RowKit
set_option linter.unusedVariables false
set_option linter.unusedSimpArgs false

def lastAt (bs : List BlockV) : Nat → Int
  | 0 => 0
  | k + 1 => if lastAt bs k < (pageN bs k).stamp then (pageN bs k).stamp else lastAt bs k
def lastStamp (bs : List BlockV) : Int := lastAt bs (4 * bs.length)
theorem pageN_ok {bs : List BlockV} (h : DevOk bs) {k : Nat} (hk : k < 4 * bs.length) : PageOk (pageN bs k) := ((h.2 (k / 4) (by omega)).2.2 (k % 4) (by omega)).1
theorem pageOk_stamp {p : PageV} (h : PageOk p) : 0 ≤ p.stamp ∧ p.stamp ≤ 1000000 := by
  unfold PageOk at h
  split at h
  · omega
  · omega
theorem lastAt_range {bs : List BlockV} (h : DevOk bs) : ∀ {k : Nat}, k ≤ 4 * bs.length → 0 ≤ lastAt bs k ∧ lastAt bs k ≤ 1000000
  | 0, _ => by unfold lastAt; omega
  | k + 1, hk => by
    have h1 := lastAt_range h (k := k) (by omega)
    have h2 := pageOk_stamp (pageN_ok h (k := k) (by omega))
    unfold lastAt
    split <;> omega
theorem lastStamp_spec {A : Option Addr} {n c B : Nat} {bs : List BlockV} {w : World} (hr : RdB w B A n bs) (hB : B ≤ w.heap.size) (hn : n ≤ 1048576) (hok : DevOk bs) :
    Calls Try.prog 68 #[.slice A n c] w fun e w' => e = .returned (.int .i64 (lastStamp bs)) ∧ Below w.heap.size w w' := by
  have HL := Lib.hid hr.len
  have hn12 : n ≤ 12 := by have := hok.1.2; have := HL.out; omega
  have hbt := bof_t.2 hok
  have HOK := Lib.hid hok
  have hr0 := hr.mono hB
  clear hok hr
  go_enter Try.func68, Try.ntmps68
  go_wp2_with fail
  refine (deviceValid_spec hr0 (Nat.le_refl _) hn).mono ?_
  rw [hbt]
  rintro e w1 ⟨rfl, hb1⟩
  have hr1 := hr0.below hb1
  have HB1 := Lib.hid hb1
  have hs1 := hb1.size
  clear hr0 hb1 hbt
  go_wp2_with fail
  go_loopw [3, 4] (fun s kk wr => ∃ k : Nat, k ≤ 4 * n ∧ kk = .int .i64 k ∧ s = .int .i64 (lastAt bs k) ∧ Below w1.heap.size w1 wr) (fun _ kk _ => 4 * n - (intOf kk).toNat)
  case atStart => exact ⟨0, Nat.zero_le _, rfl, rfl, Below.refl _ _⟩
  case round =>
    obtain ⟨k, hk, rfl, rfl, hbl⟩ := hrel
    have HBL := Lib.hid hbl
    have hlr := lastAt_range HOK.out (k := k) (by rw [HL.out]; exact hk)
    by_cases hlt : k < 4 * n
    · have hltz : (k : Int) < 4 * (n : Int) := by omega
      have hrw := (hr1.mono hs1).below hbl
      have hsz := hbl.size
      have HF := Lib.hid (show lastAt bs (k + 1) = if lastAt bs k < (pageN bs k).stamp then (pageN bs k).stamp else lastAt bs k from rfl)
      clear hbl
      go_wp2_with fail
      refine (readPage_c hrw hsz hn HOK.out hlt).mono ?_
      rintro e w2 ⟨rfl, hb2⟩
      have HB2 := Lib.hid (HBL.out.trans (hb2.mono hsz))
      have hs2 := HB2.out.size
      generalize lastAt bs k = q at *
      generalize pageN bs k = P at *
      obtain ⟨f, x, y, z, s⟩ := P
      unfold pgv
      clear hrw hb2
      go_wp2
      go_roundw
      case rel => exact ⟨k + 1, by omega, by go_num, by rw [HF.out], HB2.out.alloc hs2 _⟩
      case measure => simp [intOf]; omega
    · obtain rfl : k = 4 * n := by omega
      have HE := Lib.hid (show lastAt bs (4 * n) = lastStamp bs by unfold lastStamp; rw [HL.out])
      go_wp2
      go_ret
      exact ⟨ret_int HE.out, HB1.out.trans (HBL.out.mono hs1)⟩
theorem lastStamp_impl {A : Option Addr} {n c B : Nat} {bs : List BlockV} {w : World} (hr : RdB w B A n bs) (hB : B ≤ w.heap.size) (hn : n ≤ 1048576) (hok : DevOk bs) :
    Calls Try.prog 61 #[.slice A n c] w fun e w' => e = .returned (.int .i64 (lastStamp bs)) ∧ Below w.heap.size w w' := by
  have HL := Lib.hid hr.len
  have hn12 : n ≤ 12 := by have := hok.1.2; have := HL.out; omega
  have hbt := bof_t.2 hok
  have HOK := Lib.hid hok
  have hr0 := hr.mono hB
  clear hok hr
  go_enter Try.func61, Try.ntmps61
  go_wp2_with fail
  refine (deviceValid_impl hr0 (Nat.le_refl _) hn).mono ?_
  rw [hbt]
  rintro e w1 ⟨rfl, hb1⟩
  have hr1 := hr0.below hb1
  have HB1 := Lib.hid hb1
  have hs1 := hb1.size
  clear hr0 hb1 hbt
  go_wp2_with fail
  go_loopw [3, 13] (fun s kk wr => ∃ k : Nat, k ≤ n ∧ kk = .int .i64 k ∧ s = .int .i64 (lastAt bs (4 * k)) ∧ Below w1.heap.size w1 wr) (fun _ kk _ => n - (intOf kk).toNat)
  case atStart => exact ⟨0, Nat.zero_le _, rfl, rfl, Below.refl _ _⟩
  case round =>
    obtain ⟨k, hk, rfl, rfl, hbl⟩ := hrel
    have HBL := Lib.hid hbl
    by_cases hlt : k < n
    · obtain ⟨b, off, rfl, hbB, hc⟩ := hr1.at_ (by omega)
      obtain ⟨A', n', c', c0, c1, hnc, hcm, hrg⟩ := hc k hlt
      have hbs : b < w1.heap.size := by omega
      replace c0 := (hbl.cell (p := ⟨b, off + k * 2, none⟩) hbs).trans c0
      replace c1 := (hbl.cell (p := ⟨b, off + k * 2 + 1, none⟩) hbs).trans c1
      have hrp := (hrg.mono hs1).below hbl
      have hbk := HOK.out.2 k (by rw [HL.out]; exact hlt)
      have hn4 : n' = 4 := by rw [← hrg.len, hbk.2.1]
      subst hn4
      have HPN := Lib.hid (show ∀ j, j < 4 → pageN bs (4 * k + j) = (bs.getD k noBlock).pages.getD j noPage from fun j hj => by
        unfold pageN
        rw [show (4 * k + j) / 4 = k by omega, show (4 * k + j) % 4 = j by omega])
      generalize (bs.getD k noBlock).wear = we at *
      have hltd : decide (k < n) = true := decide_eq_true hlt
      have hsz := hbl.size
      clear hc hr1 hrg hbk hbl
      obtain ⟨wo, rfl⟩ : ∃ wo : World, wo = wr := ⟨_, rfl⟩
      go_wp2
      have bx : Below w1.heap.size wo (wo.alloc (.cells #[.int .i64 we, .slice A' 4 c'] 67)) := (Below.refl _ _).alloc hsz _
      have hrx := hrp.below bx
      have HBX := Lib.hid (HBL.out.trans bx)
      clear hrp bx c0 c1
      generalize wo.alloc (.cells #[.int .i64 we, .slice A' 4 c'] 67) = wx at *
      go_loopw [3, 20] (fun s jj ws => ∃ j : Nat, j ≤ 4 ∧ jj = .int .i64 j ∧ s = .int .i64 (lastAt bs (4 * k + j)) ∧ Below w1.heap.size wx ws) (fun _ jj _ => 4 - (intOf jj).toNat)
      case atStart => exact ⟨0, Nat.zero_le _, rfl, rfl, Below.refl _ _⟩
      case round =>
        obtain ⟨j, hj, rfl, rfl, hb2⟩ := hrel
        have HB2 := Lib.hid hb2
        by_cases hl4 : j < 4
        · obtain ⟨b', off', rfl, hbB', hc'⟩ := hrx.at_ (by omega)
          obtain ⟨d0, d1, d2, d3, d4⟩ := hc' j hl4
          replace d0 := (hb2.cell (p := ⟨b', off' + j * 5, none⟩) hbB').trans d0
          replace d1 := (hb2.cell (p := ⟨b', off' + j * 5 + 1, none⟩) hbB').trans d1
          replace d2 := (hb2.cell (p := ⟨b', off' + j * 5 + 2, none⟩) hbB').trans d2
          replace d3 := (hb2.cell (p := ⟨b', off' + j * 5 + 3, none⟩) hbB').trans d3
          replace d4 := (hb2.cell (p := ⟨b', off' + j * 5 + 4, none⟩) hbB').trans d4
          have HF := Lib.hid (show lastAt bs (4 * k + (j + 1)) = if lastAt bs (4 * k + j) < (pageN bs (4 * k + j)).stamp then (pageN bs (4 * k + j)).stamp else lastAt bs (4 * k + j) from rfl)
          rw [HPN.out j hl4] at HF
          generalize (bs.getD k noBlock).pages.getD j noPage = P at *
          generalize lastAt bs (4 * k + j) = q at *
          obtain ⟨f, x, y, z, s⟩ := P
          simp only at d0 d1 d2 d3 d4
          have hs2 : w1.heap.size ≤ wr.heap.size := by have := HBX.out.size; have := hb2.size; omega
          clear hc' hrx hb2
          go_wp2
          go_roundw
          case rel => exact ⟨j + 1, by omega, by go_num, by rw [HF.out], HB2.out.alloc hs2 _⟩
          case measure => simp [intOf]; omega
        · obtain rfl : j = 4 := by omega
          go_wp2
          go_roundw
          case rel => exact ⟨k + 1, by omega, by go_num, rfl, HBX.out.trans HB2.out⟩
          case measure => simp [intOf]; omega
    · obtain rfl : k = n := by omega
      have HE := Lib.hid (show lastAt bs (4 * k) = lastStamp bs by unfold lastStamp; rw [HL.out])
      go_wp2
      go_ret
      exact ⟨ret_int HE.out, HB1.out.trans (HBL.out.mono hs1)⟩
end Go.Proofs.Ytjnpgdhpneifjaa
