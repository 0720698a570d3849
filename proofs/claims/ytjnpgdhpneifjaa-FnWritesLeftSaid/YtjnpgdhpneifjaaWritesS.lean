/- Contracts of the reference's ReadPage, FreePages and WritesLeft. Condition: at most 2^20 blocks. -/
import Derived.Test.YtjnpgdhpneifjaaWrites
namespace Go.Proofs.Ytjnpgdhpneifjaa
open Go.ChangeShapes Go.WideShapes Go.ChangeAt Go.RowKit
set_option linter.unusedVariables false
set_option linter.unusedSimpArgs false

def pgv (p : PageV) : Value := .agg #[.bool p.full, .int .i64 p.file, .int .i64 p.place, .int .i64 p.value, .int .i64 p.stamp]
/-- the page with this number -/
def pageN (bs : List BlockV) (at' : Nat) : PageV := (bs.getD (at' / 4) noBlock).pages.getD (at' % 4) noPage

set_option maxHeartbeats 2000000 in
theorem readPage_c {A : Option Addr} {n c B at' : Nat} {bs : List BlockV} {w : World} (hr : RdB w B A n bs) (hB : B ≤ w.heap.size) (hn : n ≤ 1048576) (hok : DevOk bs) (hat : at' < 4 * n) :
    Calls Try.prog 76 #[.slice A n c, .int .i64 (at' : Nat)] w fun e w' => e = .returned (.tuple #[pgv (pageN bs at'), .bool (pageN bs at').full]) ∧ Below w.heap.size w w' := by
  have HL := Lib.hid hr.len
  have hn12 : n ≤ 12 := by have := hok.1.2; have := HL.out; omega
  have hbt := bof_t.2 hok
  have hin : inB (at' : Int) 0 (4 * (n : Int) - 1) = true := by rw [inB_t]; omega
  have v1 : IntKind.i64.wrap (4 * (n : Int)) = 4 * (n : Int) := IntWalk.i64_in _ (by omega)
  have v2 : IntKind.i64.wrap (4 * (n : Int) - 1) = 4 * (n : Int) - 1 := IntWalk.i64_in _ (by omega)
  have b0 : Below w.heap.size w (w.alloc (.cells #[.bool false, .int .i64 0, .int .i64 0, .int .i64 0, .int .i64 0] 102)) := (Below.refl _ _).alloc (Nat.le_refl _) _
  have s0 : w.heap.size < (w.alloc (.cells #[.bool false, .int .i64 0, .int .i64 0, .int .i64 0, .int .i64 0] 102)).heap.size := by simp
  have hr0 := (hr.mono hB).below b0
  have B0 := Lib.hid b0
  have K0 := Lib.hid (Blk.new w 102 #[.bool false, .int .i64 0, .int .i64 0, .int .i64 0, .int .i64 0])
  clear hr b0
  go_enter Try.func76, Try.ntmps76
  go_wp2_with fail
  generalize w.alloc (.cells #[.bool false, .int .i64 0, .int .i64 0, .int .i64 0, .int .i64 0] 102) = w0 at *
  refine (deviceValid_spec hr0 (by omega) hn).mono ?_
  rw [hbt]
  rintro e w1 ⟨rfl, hb1⟩
  have hr1 := hr0.below (hb1.mono (by omega))
  have K1 := K0.out.below hb1 s0
  have B1 := Lib.hid (B0.out.trans (hb1.mono (by omega)))
  have hs1 := hb1.size
  generalize hg0 : w.heap.size = g0 at K1 hr1 s0 ⊢
  have HG0 := Lib.hid hg0
  clear hr0 hb1 hbt hg0
  obtain ⟨b, off, rfl, hbB, hc⟩ := hr1.at_ (by omega)
  have hi : at' / 4 < n := by omega
  obtain ⟨A', n', c', c0, c1, hnc, hcm, hrg⟩ := hc (at' / 4) hi
  have hbk := hok.2 (at' / 4) (by rw [HL.out]; exact hi)
  have hpl := hbk.2.1
  have hn4 : n' = 4 := by rw [← hrg.len, hpl]
  subst hn4
  obtain ⟨b', off', rfl, hbB', hc'⟩ := hrg.at_ (by omega)
  have hj : at' % 4 < 4 := by omega
  obtain ⟨d0, d1, d2, d3, d4⟩ := hc' (at' % 4) hj
  have HP := Lib.hid (show pageN bs at' = (bs.getD (at' / 4) noBlock).pages.getD (at' % 4) noPage from rfl)
  obtain ⟨P, hP⟩ : ∃ P, (bs.getD (at' / 4) noBlock).pages.getD (at' % 4) noPage = P := ⟨_, rfl⟩
  rw [hP] at d0 d1 d2 d3 d4 HP
  obtain ⟨f, x, y, z, s⟩ := P
  simp only at d0 d1 d2 d3 d4
  have q1 : ((at' : Nat) : Int) / 4 = ((at' / 4 : Nat) : Int) := by omega
  have q2 : ((at' : Nat) : Int) % 4 = ((at' % 4 : Nat) : Int) := by omega
  generalize at' / 4 = i at *
  generalize at' % 4 = j at *
  clear hP hc hc' hrg hr1 hbk hpl
  go_wp2_with (go_at_call 32; refine (l1In_c _ _ _ _).mono ?_; rw [hin]; rintro e w' ⟨rfl, rfl⟩)
  have K6 := Blk.new w1 102 #[.bool f, .int .i64 x, .int .i64 y, .int .i64 z, .int .i64 s]
  have K4 := K1.alloc (.cells #[.bool f, .int .i64 x, .int .i64 y, .int .i64 z, .int .i64 s] 102)
  have B6 := Lib.hid (B1.out.alloc B1.out.size (.cells #[.bool f, .int .i64 x, .int .i64 y, .int .i64 z, .int .i64 s] 102))
  have hne : g0 ≠ w1.heap.size := by omega
  generalize w1.alloc (.cells #[.bool f, .int .i64 x, .int .i64 y, .int .i64 z, .int .i64 s] 102) = wx at *
  generalize w1.heap.size = g6 at *
  have e0 := K6.cell 0
  have e1 := K6.cell 1
  have e2 := K6.cell 2
  have e3 := K6.cell 3
  have e4 := K6.cell 4
  have t0 := K4.cell 0
  have t1 := K4.cell 1
  have t2 := K4.cell 2
  have t3 := K4.cell 3
  have t4 := K4.cell 4
  have z0 := K4.frozen 0
  have z1 := K4.frozen 1
  have z2 := K4.frozen 2
  have z3 := K4.frozen 3
  have z4 := K4.frozen 4
  simp at e0 e1 e2 e3 e4 t0 t1 t2 t3 t4
  have S0 := K4.set_ 0 (.bool f)
  have S1 := S0.set_ 1 (.int .i64 x)
  have S2 := S1.set_ 2 (.int .i64 y)
  have S3 := S2.set_ 3 (.int .i64 z)
  have S4 := S3.set_ 4 (.int .i64 s)
  have hge : w.heap.size ≤ g0 := by rw [HG0.out]; exact Nat.le_refl _
  have KS := Lib.hid (show Blk _ g0 102 #[.bool f, .int .i64 x, .int .i64 y, .int .i64 z, .int .i64 s] from (by simpa using S4 : Blk (((((wx.setCell ⟨g0, 0, none⟩ (.bool f)).setCell ⟨g0, 1, none⟩ (.int .i64 x)).setCell ⟨g0, 2, none⟩ (.int .i64 y)).setCell ⟨g0, 3, none⟩ (.int .i64 z)).setCell ⟨g0, 4, none⟩ (.int .i64 s)) g0 102 #[.bool f, .int .i64 x, .int .i64 y, .int .i64 z, .int .i64 s]).drew)
  have BS := Lib.hid ((((((B6.out.setCell (p := ⟨g0, 0, none⟩) hge (.bool f)).setCell (p := ⟨g0, 1, none⟩) hge (.int .i64 x)).setCell (p := ⟨g0, 2, none⟩) hge (.int .i64 y)).setCell (p := ⟨g0, 3, none⟩) hge (.int .i64 z)).setCell (p := ⟨g0, 4, none⟩) hge (.int .i64 s)).drew)
  clear S0 S1 S2 S3 S4
  clear K6 K4 K1 d0 d1 d2 d3 d4 c0 c1
  go_region
  all_goals
    generalize (((((wx.setCell ⟨g0, 0, none⟩ (.bool f)).setCell ⟨g0, 1, none⟩ (.int .i64 x)).setCell ⟨g0, 2, none⟩ (.int .i64 y)).setCell ⟨g0, 3, none⟩ (.int .i64 z)).setCell ⟨g0, 4, none⟩ (.int .i64 s)).drew = ww at *
    have e0 := KS.out.cell 0
    have e1 := KS.out.cell 1
    have e2 := KS.out.cell 2
    have e3 := KS.out.cell 3
    have e4 := KS.out.cell 4
    simp at e0 e1 e2 e3 e4
    go_wp2
    refine bodyPost_ret (by simp [results, Try.results76, go_sem, e0, e1, e2, e3, e4]; try rfl) rfl ?_
    exact ⟨by rw [HP.out]; rfl, BS.out⟩
/-- how many of the first k pages of the device are not written -/
def freeTo (bs : List BlockV) : Nat → Nat
  | 0 => 0
  | k + 1 => freeTo bs k + if (pageN bs k).full then 0 else 1
theorem freeTo_le (bs : List BlockV) : ∀ k, freeTo bs k ≤ k
  | 0 => Nat.le_refl _
  | k + 1 => by
    have := freeTo_le bs k
    show (freeTo bs k + if (pageN bs k).full then 0 else 1) ≤ k + 1
    split <;> omega
def wroteAll (bs : List BlockV) : Nat → Nat
  | 0 => 0
  | k + 1 => wroteAll bs k + wroteTo (bs.getD k noBlock).pages 4
theorem wroteAll_le (bs : List BlockV) : ∀ k, wroteAll bs k ≤ 4 * k
  | 0 => Nat.le_refl _
  | k + 1 => by have := wroteAll_le bs k; have := wroteTo_le (bs.getD k noBlock).pages 4; unfold wroteAll; omega
theorem free_part (bs : List BlockV) (k : Nat) : ∀ j, j ≤ 4 → freeTo bs (4 * k + j) + wroteTo (bs.getD k noBlock).pages j = freeTo bs (4 * k) + j
  | 0, _ => rfl
  | j + 1, h => by
    have ih := free_part bs k j (by omega)
    have e1 : (4 * k + j) / 4 = k := by omega
    have e2 : (4 * k + j) % 4 = j := by omega
    have a1 : freeTo bs (4 * k + (j + 1)) = freeTo bs (4 * k + j) + if (pageN bs (4 * k + j)).full then 0 else 1 := rfl
    have a2 : wroteTo (bs.getD k noBlock).pages (j + 1) = wroteTo (bs.getD k noBlock).pages j + if ((bs.getD k noBlock).pages.getD j noPage).full then 1 else 0 := rfl
    have a3 : pageN bs (4 * k + j) = (bs.getD k noBlock).pages.getD j noPage := by unfold pageN; rw [e1, e2]
    rw [a1, a2, a3]
    split <;> omega
theorem free_wrote (bs : List BlockV) : ∀ k, freeTo bs (4 * k) + wroteAll bs k = 4 * k
  | 0 => rfl
  | k + 1 => by
    have ih := free_wrote bs k
    have h := free_part bs k 4 (Nat.le_refl _)
    show freeTo bs (4 * k + 4) + wroteAll bs (k + 1) = _
    unfold wroteAll
    omega
def capTo (bs : List BlockV) : Nat → Int
  | 0 => 0
  | k + 1 => capTo bs k + 4 * (100 - (bs.getD k noBlock).wear + 1)
theorem capTo_left (bs : List BlockV) : ∀ k, capTo bs k - wroteAll bs k = leftTo bs k
  | 0 => rfl
  | k + 1 => by
    have ih := capTo_left bs k
    show capTo bs k + 4 * (100 - (bs.getD k noBlock).wear + 1) - ((wroteAll bs k + wroteTo (bs.getD k noBlock).pages 4 : Nat) : Int) = leftTo bs k + (4 * (100 - (bs.getD k noBlock).wear + 1) - ((wroteTo (bs.getD k noBlock).pages 4 : Nat) : Int))
    omega
theorem capTo_range {bs : List BlockV} : ∀ {k : Nat}, DevTo bs k → 0 ≤ capTo bs k ∧ capTo bs k ≤ 404 * k
  | 0, _ => by unfold capTo; omega
  | k + 1, h => by
    have h1 := capTo_range (bs := bs) (k := k) (fun i hi => h i (by omega))
    have h2 := (h k (by omega)).1
    unfold capTo
    omega

theorem freePages_spec {A : Option Addr} {n c B : Nat} {bs : List BlockV} {w : World} (hr : RdB w B A n bs) (hB : B ≤ w.heap.size) (hn : n ≤ 1048576) (hok : DevOk bs) :
    Calls Try.prog 33 #[.slice A n c] w fun e w' => e = .returned (.int .i64 (freeTo bs (4 * n))) ∧ Below w.heap.size w w' := by
  have HL := Lib.hid hr.len
  have hn12 : n ≤ 12 := by have := hok.1.2; have := HL.out; omega
  have hbt := bof_t.2 hok
  have HOK := Lib.hid hok
  have v1 : IntKind.i64.wrap (4 * (n : Int)) = 4 * (n : Int) := IntWalk.i64_in _ (by omega)
  have hr0 := hr.mono hB
  clear hok hr
  go_enter Try.func33, Try.ntmps33
  go_wp2_with fail
  refine (deviceValid_spec hr0 (Nat.le_refl _) hn).mono ?_
  rw [hbt]
  rintro e w1 ⟨rfl, hb1⟩
  have hr1 := hr0.below hb1
  have HB1 := Lib.hid hb1
  have hs1 := hb1.size
  clear hr0 hb1 hbt
  go_wp2_with fail
  go_loopw [3, 4] (fun s kk wr => ∃ k : Nat, k ≤ 4 * n ∧ kk = .int .i64 k ∧ s = .int .i64 (freeTo bs k) ∧ Below w1.heap.size w1 wr) (fun _ kk _ => 4 * n - (intOf kk).toNat)
  case atStart => exact ⟨0, Nat.zero_le _, rfl, rfl, Below.refl _ _⟩
  case round =>
    obtain ⟨k, hk, rfl, rfl, hbl⟩ := hrel
    have HBL := Lib.hid hbl
    have hfk := freeTo_le bs k
    by_cases hlt : k < 4 * n
    · have hltz : (k : Int) < 4 * (n : Int) := by omega
      have hrw := (hr1.mono hs1).below hbl
      have hsz := hbl.size
      have HF := Lib.hid (show freeTo bs (k + 1) = freeTo bs k + if (pageN bs k).full then 0 else 1 from rfl)
      clear hbl
      go_wp2_with fail
      refine (readPage_c hrw hsz hn HOK.out hlt).mono ?_
      rintro e w2 ⟨rfl, hb2⟩
      have HB2 := Lib.hid (HBL.out.trans (hb2.mono hsz))
      have hs2 := HB2.out.size
      generalize freeTo bs k = q at *
      generalize pageN bs k = P at *
      obtain ⟨f, x, y, z, s⟩ := P
      unfold pgv
      clear hrw hb2
      cases f
      · go_wp2
        go_roundw
        case rel => exact ⟨k + 1, by omega, by go_num, by rw [HF.out]; simp, HB2.out.alloc hs2 _⟩
        case measure => simp [intOf]; omega
      · go_wp2
        go_roundw
        case rel => exact ⟨k + 1, by omega, by go_num, by rw [HF.out]; simp, HB2.out.alloc hs2 _⟩
        case measure => simp [intOf]; omega
    · obtain rfl : k = 4 * n := by omega
      go_wp2
      go_ret
      exact ⟨rfl, HB1.out.trans (HBL.out.mono hs1)⟩

theorem writesLeft_spec {A : Option Addr} {n c B : Nat} {bs : List BlockV} {sh : Int} {w : World} (hr : RdB w B A n bs) (hB : B ≤ w.heap.size) (hn : n ≤ 1048576) :
    Calls Try.prog 10 #[.slice A n c, .int .i64 sh] w fun e w' => e = .returned (.int .i64 (writesLeft bs sh)) ∧ Below w.heap.size w w' := by
  have HL := Lib.hid hr.len
  by_cases hok : DevOk bs
  · by_cases hsh : 100 ≤ sh ∧ sh ≤ 10000
    · have hn12 : n ≤ 12 := by have := hok.1.2; have := HL.out; omega
      have HE := Lib.hid (left_yes (bs := bs) (sh := sh) ⟨hok, hsh.1, hsh.2⟩)
      have hin : inB sh 100 10000 = true := by rw [inB_t]; exact hsh
      have HOK := Lib.hid hok
      have hbt := bof_t.2 hok
      clear hok
      go_enter Try.func10, Try.ntmps10
      go_wp2_with fail
      refine (deviceValid_spec hr hB hn).mono ?_
      rw [hbt]
      rintro e w1 ⟨rfl, hb1⟩
      have HB1 := Lib.hid hb1
      have hr1 := (hr.mono hB).below hb1
      have hs1 := hb1.size
      clear hb1 hr hbt
      go_wp2_with (go_at_call 32; refine (l1In_c _ _ _ _).mono ?_; rw [hin]; rintro e w' ⟨rfl, rfl⟩)
      go_loopw [5, 6] (fun s kk wr => ∃ k : Nat, k ≤ n ∧ kk = .int .i64 k ∧ s = .int .i64 (capTo bs k) ∧ Below w1.heap.size w1 wr) (fun _ kk _ => n - (intOf kk).toNat)
      case atStart => exact ⟨0, Nat.zero_le _, rfl, rfl, Below.refl _ _⟩
      case round =>
        obtain ⟨k, hk, rfl, rfl, hbl⟩ := hrel
        have HBL := Lib.hid hbl
        have hdev : DevTo bs n := by have := HOK.out.2; rw [HL.out] at this; exact this
        have hrg := capTo_range (bs := bs) (k := k) (fun i hi => hdev i (by omega))
        by_cases hlt : k < n
        · obtain ⟨b, off, rfl, hbB, hc⟩ := hr1.at_ (by omega)
          obtain ⟨A', n', c', c0, c1, hnc, hcm, hrp⟩ := hc k hlt
          have hbs : b < w1.heap.size := by omega
          replace c0 := (hbl.cell (p := ⟨b, off + k * 2, none⟩) hbs).trans c0
          have hbk := (hdev k hlt).1
          have HS := Lib.hid (show capTo bs (k + 1) = capTo bs k + 4 * (100 - (bs.getD k noBlock).wear + 1) from rfl)
          generalize (bs.getD k noBlock).wear = we at *
          generalize capTo bs k = acc at *
          obtain ⟨hw1, hw2⟩ := hbk
          clear hc hr1 hrp hbl hdev c1
          go_wp2
          go_roundw
          case rel => exact ⟨k + 1, by omega, by go_num, by rw [HS.out], HBL.out⟩
          case measure => simp [intOf]; omega
        · obtain rfl : k = n := by omega
          rw [HL.out] at HE
          have HC := Lib.hid (capTo_left bs k)
          have HW := Lib.hid (free_wrote bs k)
          have hwl := wroteAll_le bs k
          have hlr := leftTo_range (bs := bs) (k := k) (fun i hi => hdev i (by omega))
          have hfl := freeTo_le bs (4 * k)
          have hr2 := (hr1.mono hs1).below hbl
          have hsz := hbl.size
          have HV := Lib.hid (show capTo bs k - (4 * (k : Int) - (freeTo bs (4 * k) : Nat)) = leftTo bs k by have := HC.out; have := HW.out; omega)
          have hv0 : 0 ≤ capTo bs k - (4 * (k : Int) - (freeTo bs (4 * k) : Nat)) := by rw [HV.out]; exact hlr.1
          have hv1 : capTo bs k - (4 * (k : Int) - (freeTo bs (4 * k) : Nat)) ≤ 404 * k := by rw [HV.out]; exact hlr.2
          have hq1 : 0 ≤ (capTo bs k - (4 * (k : Int) - (freeTo bs (4 * k) : Nat))) * 100 / sh := Int.ediv_nonneg (by omega) (by omega)
          have hq2 : (capTo bs k - (4 * (k : Int) - (freeTo bs (4 * k) : Nat))) * 100 / sh ≤ 4000000 := Int.ediv_le_of_le_mul (by omega) (by omega)
          clear hr1 hbl hdev
          go_wp2_with fail
          refine (freePages_spec hr2 hsz hn HOK.out).mono ?_
          rintro e w2 ⟨rfl, hb2⟩
          have HB2 := Lib.hid (HB1.out.trans ((HBL.out.trans (hb2.mono hsz)).mono hs1))
          clear hb2 hr2
          generalize freeTo bs (4 * k) = q at *
          generalize capTo bs k = cp at *
          go_wp2
          go_ret
          exact ⟨ret_int (by rw [HE.out, HV.out]), HB2.out⟩
    · have hin : inB sh 100 10000 = false := by rw [inB_f]; omega
      have HE := Lib.hid (left_no (bs := bs) (sh := sh) (fun h => hsh h.2))
      go_enter Try.func10, Try.ntmps10
      go_wp2_with (first | (go_at_call 32; refine (l1In_c _ _ _ _).mono ?_; rw [hin]; rintro e w' ⟨rfl, rfl⟩) | (go_at_call 31; refine (deviceValid_spec hr hB hn).mono ?_; rw [bof_t.2 hok]; rintro e w' ⟨rfl, hb2⟩))
      go_ret
      exact ⟨ret_int HE.out.symm, hb2⟩
  · have HE := Lib.hid (left_no (bs := bs) (sh := sh) (fun h => hok h.1))
    go_enter Try.func10, Try.ntmps10
    go_wp2_with (go_at_call 31; refine (deviceValid_spec hr hB hn).mono ?_; rw [bof_f.2 hok]; rintro e w' ⟨rfl, hb2⟩)
    go_ret
    exact ⟨ret_int HE.out.symm, hb2⟩
end Go.Proofs.Ytjnpgdhpneifjaa
