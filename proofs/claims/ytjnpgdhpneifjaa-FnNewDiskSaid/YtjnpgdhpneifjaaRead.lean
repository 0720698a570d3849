/- ReadPage at any number, the program's and the reference's. Condition: a valid device. -/
import Derived.Test.YtjnpgdhpneifjaaWritesS
namespace Go.Proofs.Ytjnpgdhpneifjaa
open Go.ChangeShapes Go.WideShapes Go.ChangeAt Go.RowKit
set_option linter.unusedVariables false
set_option linter.unusedSimpArgs false

set_option maxHeartbeats 2000000 in
theorem readPage_i {A : Option Addr} {n c B at' : Nat} {bs : List BlockV} {w : World} (hr : RdB w B A n bs) (hB : B ≤ w.heap.size) (hn : n ≤ 1048576) (hok : DevOk bs) (hat : at' < 4 * n) :
    Calls Try.prog 125 #[.slice A n c, .int .i64 (at' : Nat)] w fun e w' => e = .returned (.tuple #[pgv (pageN bs at'), .bool (pageN bs at').full]) ∧ Below w.heap.size w w' := by
  have HL := Lib.hid hr.len
  have hn12 : n ≤ 12 := by have := hok.1.2; have := HL.out; omega
  have hbt := bof_t.2 hok
  have hlt4 : ¬ (4 * (n : Int) ≤ (at' : Int)) := by omega
  have hlt5 : ¬ ((n : Int) * 4 ≤ (at' : Int)) := by omega
  have v1 : IntKind.i64.wrap (4 * (n : Int)) = 4 * (n : Int) := IntWalk.i64_in _ (by omega)
  have v2 : IntKind.i64.wrap (4 * (n : Int) - 1) = 4 * (n : Int) - 1 := IntWalk.i64_in _ (by omega)
  have b0 : Below w.heap.size w (w.alloc (.cells #[.bool false, .int .i64 0, .int .i64 0, .int .i64 0, .int .i64 0] 102)) := (Below.refl _ _).alloc (Nat.le_refl _) _
  have s0 : w.heap.size < (w.alloc (.cells #[.bool false, .int .i64 0, .int .i64 0, .int .i64 0, .int .i64 0] 102)).heap.size := by simp
  have hr0 := (hr.mono hB).below b0
  have B0 := Lib.hid b0
  have K0 := Lib.hid (Blk.new w 102 #[.bool false, .int .i64 0, .int .i64 0, .int .i64 0, .int .i64 0])
  clear hr b0
  go_enter Try.func125, Try.ntmps125
  go_wp2_with fail
  generalize w.alloc (.cells #[.bool false, .int .i64 0, .int .i64 0, .int .i64 0, .int .i64 0] 102) = w0 at *
  refine (deviceValid_impl hr0 (by omega) hn).mono ?_
  rw [hbt]
  rintro e w1 ⟨rfl, hb1⟩
  have hr1 := hr0.below (hb1.mono (by omega))
  have K1 := K0.out.below hb1 s0
  have B1 := Lib.hid (B0.out.trans (hb1.mono (by omega)))
  have hs1 := hb1.size
  generalize hg0 : w.heap.size = g0 at K1 hr1 s0 ⊢
  have HG0 := Lib.hid hg0
  clear hr0 hb1 hbt hg0
  obtain ⟨b, off, rfl, hbB, hc⟩ := hr1.at_ (by omega)
  have hi : at' / 4 < n := by omega
  obtain ⟨A', n', c', c0, c1, hnc, hcm, hrg⟩ := hc (at' / 4) hi
  have hbk := hok.2 (at' / 4) (by rw [HL.out]; exact hi)
  have hpl := hbk.2.1
  have hn4 : n' = 4 := by rw [← hrg.len, hpl]
  subst hn4
  obtain ⟨b', off', rfl, hbB', hc'⟩ := hrg.at_ (by omega)
  have hj : at' % 4 < 4 := by omega
  obtain ⟨d0, d1, d2, d3, d4⟩ := hc' (at' % 4) hj
  have HP := Lib.hid (show pageN bs at' = (bs.getD (at' / 4) noBlock).pages.getD (at' % 4) noPage from rfl)
  obtain ⟨P, hP⟩ : ∃ P, (bs.getD (at' / 4) noBlock).pages.getD (at' % 4) noPage = P := ⟨_, rfl⟩
  rw [hP] at d0 d1 d2 d3 d4 HP
  obtain ⟨f, x, y, z, s⟩ := P
  simp only at d0 d1 d2 d3 d4
  have q1 : ((at' : Nat) : Int) / 4 = ((at' / 4 : Nat) : Int) := by omega
  have q2 : ((at' : Nat) : Int) % 4 = ((at' % 4 : Nat) : Int) := by omega
  generalize at' / 4 = i at *
  generalize at' % 4 = j at *
  clear hP hc hc' hrg hr1 hbk hpl
  go_wp2
  have K6 := Blk.new w1 102 #[.bool f, .int .i64 x, .int .i64 y, .int .i64 z, .int .i64 s]
  have K4 := K1.alloc (.cells #[.bool f, .int .i64 x, .int .i64 y, .int .i64 z, .int .i64 s] 102)
  have B6 := Lib.hid (B1.out.alloc B1.out.size (.cells #[.bool f, .int .i64 x, .int .i64 y, .int .i64 z, .int .i64 s] 102))
  have hne : g0 ≠ w1.heap.size := by omega
  generalize w1.alloc (.cells #[.bool f, .int .i64 x, .int .i64 y, .int .i64 z, .int .i64 s] 102) = wx at *
  generalize w1.heap.size = g6 at *
  have e0 := K6.cell 0
  have e1 := K6.cell 1
  have e2 := K6.cell 2
  have e3 := K6.cell 3
  have e4 := K6.cell 4
  have t0 := K4.cell 0
  have t1 := K4.cell 1
  have t2 := K4.cell 2
  have t3 := K4.cell 3
  have t4 := K4.cell 4
  have z0 := K4.frozen 0
  have z1 := K4.frozen 1
  have z2 := K4.frozen 2
  have z3 := K4.frozen 3
  have z4 := K4.frozen 4
  simp at e0 e1 e2 e3 e4 t0 t1 t2 t3 t4
  have S0 := K4.set_ 0 (.bool f)
  have S1 := S0.set_ 1 (.int .i64 x)
  have S2 := S1.set_ 2 (.int .i64 y)
  have S3 := S2.set_ 3 (.int .i64 z)
  have S4 := S3.set_ 4 (.int .i64 s)
  have hge : w.heap.size ≤ g0 := by rw [HG0.out]; exact Nat.le_refl _
  have KS := Lib.hid (show Blk _ g0 102 #[.bool f, .int .i64 x, .int .i64 y, .int .i64 z, .int .i64 s] from (by simpa using S4 : Blk (((((wx.setCell ⟨g0, 0, none⟩ (.bool f)).setCell ⟨g0, 1, none⟩ (.int .i64 x)).setCell ⟨g0, 2, none⟩ (.int .i64 y)).setCell ⟨g0, 3, none⟩ (.int .i64 z)).setCell ⟨g0, 4, none⟩ (.int .i64 s)) g0 102 #[.bool f, .int .i64 x, .int .i64 y, .int .i64 z, .int .i64 s]).drew)
  have BS := Lib.hid ((((((B6.out.setCell (p := ⟨g0, 0, none⟩) hge (.bool f)).setCell (p := ⟨g0, 1, none⟩) hge (.int .i64 x)).setCell (p := ⟨g0, 2, none⟩) hge (.int .i64 y)).setCell (p := ⟨g0, 3, none⟩) hge (.int .i64 z)).setCell (p := ⟨g0, 4, none⟩) hge (.int .i64 s)).drew)
  clear S0 S1 S2 S3 S4
  clear K6 K4 K1 d0 d1 d2 d3 d4 c0 c1
  go_region
  all_goals
    generalize (((((wx.setCell ⟨g0, 0, none⟩ (.bool f)).setCell ⟨g0, 1, none⟩ (.int .i64 x)).setCell ⟨g0, 2, none⟩ (.int .i64 y)).setCell ⟨g0, 3, none⟩ (.int .i64 z)).setCell ⟨g0, 4, none⟩ (.int .i64 s)).drew = ww at *
    have e0 := KS.out.cell 0
    have e1 := KS.out.cell 1
    have e2 := KS.out.cell 2
    have e3 := KS.out.cell 3
    have e4 := KS.out.cell 4
    simp at e0 e1 e2 e3 e4
    go_wp2
    refine bodyPost_ret (by simp [results, Try.results125, go_sem, e0, e1, e2, e3, e4]; try rfl) rfl ?_
    exact ⟨by rw [HP.out]; rfl, BS.out⟩

/-- the page with this number, or none -/
noncomputable def pgAt (bs : List BlockV) (v : Int) : PageV := if 0 ≤ v ∧ v < 4 * (bs.length : Int) then pageN bs v.toNat else noPage
theorem pgAt_in {bs : List BlockV} {k : Nat} (h : k < 4 * bs.length) : pgAt bs k = pageN bs k := by unfold pgAt; rw [if_pos ⟨by omega, by omega⟩]; rfl
theorem pgAt_out {bs : List BlockV} {v : Int} (h : ¬ (0 ≤ v ∧ v < 4 * (bs.length : Int))) : pgAt bs v = noPage := by unfold pgAt; rw [if_neg h]
theorem readPage_sX {A : Option Addr} {n c B : Nat} {at' : Int} {bs : List BlockV} {w : World} (hr : RdB w B A n bs) (hB : B ≤ w.heap.size) (hn : n ≤ 1048576) (hok : DevOk bs) :
    Calls Try.prog 76 #[.slice A n c, .int .i64 at'] w fun e w' => e = .returned (.tuple #[pgv (pgAt bs at'), .bool (pgAt bs at').full]) ∧ Below w.heap.size w w' := by
  have hl := hr.len
  by_cases hin : 0 ≤ at' ∧ at' < 4 * (n : Int)
  · obtain ⟨k, rfl⟩ := Int.eq_ofNat_of_zero_le hin.1
    have hk : k < 4 * n := by omega
    have hp : pgAt bs (k : Int) = pageN bs k := pgAt_in (by omega)
    rw [hp]
    exact readPage_c hr hB hn hok hk
  · have hp : pgAt bs at' = noPage := pgAt_out (by rw [hl]; exact hin)
    rw [hp]
    have hn12 : n ≤ 12 := by have := hok.1.2; omega
    have hbt := bof_t.2 hok
    have b0 : Below w.heap.size w (w.alloc (.cells #[.bool false, .int .i64 0, .int .i64 0, .int .i64 0, .int .i64 0] 102)) := (Below.refl _ _).alloc (Nat.le_refl _) _
    have k0 := Blk.new w 102 #[.bool false, .int .i64 0, .int .i64 0, .int .i64 0, .int .i64 0]
    have s0 := k0.lt
    have hr0 := (hr.mono hB).below b0
    clear hr hp hl
    go_enter Try.func76, Try.ntmps76
    go_wp2_with fail
    generalize w.alloc (.cells #[.bool false, .int .i64 0, .int .i64 0, .int .i64 0, .int .i64 0] 102) = w0 at *
    refine (deviceValid_spec hr0 b0.size hn).mono ?_
    rw [hbt]
    rintro e w1 ⟨rfl, hb1⟩
    have k1 := k0.below hb1 s0
    have B1 := Lib.hid (b0.trans (hb1.mono b0.size))
    obtain ⟨t0, t1, t2, t3, t4⟩ : w1.cell? ⟨w.heap.size, 0, none⟩ = some (.bool false) ∧ w1.cell? ⟨w.heap.size, 1, none⟩ = some (.int .i64 0) ∧ w1.cell? ⟨w.heap.size, 2, none⟩ = some (.int .i64 0) ∧ w1.cell? ⟨w.heap.size, 3, none⟩ = some (.int .i64 0) ∧ w1.cell? ⟨w.heap.size, 4, none⟩ = some (.int .i64 0) := ⟨k1.cell 0, k1.cell 1, k1.cell 2, k1.cell 3, k1.cell 4⟩
    have z0 := k1.frozen 0
    have z1 := k1.frozen 1
    have z2 := k1.frozen 2
    have z3 := k1.frozen 3
    have z4 := k1.frozen 4
    have S4 := ((((k1.set_ 0 (.bool false)).set_ 1 (.int .i64 0)).set_ 2 (.int .i64 0)).set_ 3 (.int .i64 0)).set_ 4 (.int .i64 0)
    have KS := Lib.hid (show Blk (((((w1.setCell ⟨w.heap.size, 0, none⟩ (.bool false)).setCell ⟨w.heap.size, 1, none⟩ (.int .i64 0)).setCell ⟨w.heap.size, 2, none⟩ (.int .i64 0)).setCell ⟨w.heap.size, 3, none⟩ (.int .i64 0)).setCell ⟨w.heap.size, 4, none⟩ (.int .i64 0)) w.heap.size 102 #[.bool false, .int .i64 0, .int .i64 0, .int .i64 0, .int .i64 0] from by simpa using S4)
    have BS := Lib.hid (((((B1.out.setCell (p := ⟨w.heap.size, 0, none⟩) (Nat.le_refl _) (.bool false)).setCell (p := ⟨w.heap.size, 1, none⟩) (Nat.le_refl _) (.int .i64 0)).setCell (p := ⟨w.heap.size, 2, none⟩) (Nat.le_refl _) (.int .i64 0)).setCell (p := ⟨w.heap.size, 3, none⟩) (Nat.le_refl _) (.int .i64 0)).setCell (p := ⟨w.heap.size, 4, none⟩) (Nat.le_refl _) (.int .i64 0))
    clear k1 k0 b0 hb1 hr0 S4
    have hin2 : inB at' 0 (4 * (n : Int) - 1) = false := by rw [inB_f]; omega
    have v1 : IntKind.i64.wrap (4 * (n : Int)) = 4 * (n : Int) := IntWalk.i64_in _ (by omega)
    have v2 : IntKind.i64.wrap (4 * (n : Int) - 1) = 4 * (n : Int) - 1 := IntWalk.i64_in _ (by omega)
    go_wp2_with (go_at_call 32; refine (l1In_c _ _ _ _).mono ?_; rw [hin2]; rintro e w' ⟨rfl, rfl⟩)
    generalize ((((w1.setCell ⟨w.heap.size, 0, none⟩ (.bool false)).setCell ⟨w.heap.size, 1, none⟩ (.int .i64 0)).setCell ⟨w.heap.size, 2, none⟩ (.int .i64 0)).setCell ⟨w.heap.size, 3, none⟩ (.int .i64 0)).setCell ⟨w.heap.size, 4, none⟩ (.int .i64 0) = ww at *
    obtain ⟨p0, p1, p2, p3, p4⟩ : ww.cell? ⟨w.heap.size, 0, none⟩ = some (.bool false) ∧ ww.cell? ⟨w.heap.size, 1, none⟩ = some (.int .i64 0) ∧ ww.cell? ⟨w.heap.size, 2, none⟩ = some (.int .i64 0) ∧ ww.cell? ⟨w.heap.size, 3, none⟩ = some (.int .i64 0) ∧ ww.cell? ⟨w.heap.size, 4, none⟩ = some (.int .i64 0) := ⟨KS.out.cell 0, KS.out.cell 1, KS.out.cell 2, KS.out.cell 3, KS.out.cell 4⟩
    refine bodyPost_ret (by simp [results, Try.results76, go_sem, p0, p1, p2, p3, p4]; try rfl) rfl ?_
    exact ⟨rfl, BS.out⟩
theorem readPage_iX {A : Option Addr} {n c B : Nat} {at' : Int} {bs : List BlockV} {w : World} (hr : RdB w B A n bs) (hB : B ≤ w.heap.size) (hn : n ≤ 1048576) (hok : DevOk bs) :
    Calls Try.prog 125 #[.slice A n c, .int .i64 at'] w fun e w' => e = .returned (.tuple #[pgv (pgAt bs at'), .bool (pgAt bs at').full]) ∧ Below w.heap.size w w' := by
  have hl := hr.len
  by_cases hin : 0 ≤ at' ∧ at' < 4 * (n : Int)
  · obtain ⟨k, rfl⟩ := Int.eq_ofNat_of_zero_le hin.1
    have hk : k < 4 * n := by omega
    have hp : pgAt bs (k : Int) = pageN bs k := pgAt_in (by omega)
    rw [hp]
    exact readPage_i hr hB hn hok hk
  · have hp : pgAt bs at' = noPage := pgAt_out (by rw [hl]; exact hin)
    rw [hp]
    have hn12 : n ≤ 12 := by have := hok.1.2; omega
    have hbt := bof_t.2 hok
    have b0 : Below w.heap.size w (w.alloc (.cells #[.bool false, .int .i64 0, .int .i64 0, .int .i64 0, .int .i64 0] 102)) := (Below.refl _ _).alloc (Nat.le_refl _) _
    have k0 := Blk.new w 102 #[.bool false, .int .i64 0, .int .i64 0, .int .i64 0, .int .i64 0]
    have s0 := k0.lt
    have hr0 := (hr.mono hB).below b0
    clear hr hp hl
    go_enter Try.func125, Try.ntmps125
    go_wp2_with fail
    generalize w.alloc (.cells #[.bool false, .int .i64 0, .int .i64 0, .int .i64 0, .int .i64 0] 102) = w0 at *
    refine (deviceValid_impl hr0 b0.size hn).mono ?_
    rw [hbt]
    rintro e w1 ⟨rfl, hb1⟩
    have k1 := k0.below hb1 s0
    have B1 := Lib.hid (b0.trans (hb1.mono b0.size))
    obtain ⟨t0, t1, t2, t3, t4⟩ : w1.cell? ⟨w.heap.size, 0, none⟩ = some (.bool false) ∧ w1.cell? ⟨w.heap.size, 1, none⟩ = some (.int .i64 0) ∧ w1.cell? ⟨w.heap.size, 2, none⟩ = some (.int .i64 0) ∧ w1.cell? ⟨w.heap.size, 3, none⟩ = some (.int .i64 0) ∧ w1.cell? ⟨w.heap.size, 4, none⟩ = some (.int .i64 0) := ⟨k1.cell 0, k1.cell 1, k1.cell 2, k1.cell 3, k1.cell 4⟩
    have z0 := k1.frozen 0
    have z1 := k1.frozen 1
    have z2 := k1.frozen 2
    have z3 := k1.frozen 3
    have z4 := k1.frozen 4
    have S4 := ((((k1.set_ 0 (.bool false)).set_ 1 (.int .i64 0)).set_ 2 (.int .i64 0)).set_ 3 (.int .i64 0)).set_ 4 (.int .i64 0)
    have KS := Lib.hid (show Blk (((((w1.setCell ⟨w.heap.size, 0, none⟩ (.bool false)).setCell ⟨w.heap.size, 1, none⟩ (.int .i64 0)).setCell ⟨w.heap.size, 2, none⟩ (.int .i64 0)).setCell ⟨w.heap.size, 3, none⟩ (.int .i64 0)).setCell ⟨w.heap.size, 4, none⟩ (.int .i64 0)) w.heap.size 102 #[.bool false, .int .i64 0, .int .i64 0, .int .i64 0, .int .i64 0] from by simpa using S4)
    have BS := Lib.hid (((((B1.out.setCell (p := ⟨w.heap.size, 0, none⟩) (Nat.le_refl _) (.bool false)).setCell (p := ⟨w.heap.size, 1, none⟩) (Nat.le_refl _) (.int .i64 0)).setCell (p := ⟨w.heap.size, 2, none⟩) (Nat.le_refl _) (.int .i64 0)).setCell (p := ⟨w.heap.size, 3, none⟩) (Nat.le_refl _) (.int .i64 0)).setCell (p := ⟨w.heap.size, 4, none⟩) (Nat.le_refl _) (.int .i64 0))
    clear k1 k0 b0 hb1 hr0 S4
    by_cases hneg : at' < 0
    · go_wp2
      generalize ((((w1.setCell ⟨w.heap.size, 0, none⟩ (.bool false)).setCell ⟨w.heap.size, 1, none⟩ (.int .i64 0)).setCell ⟨w.heap.size, 2, none⟩ (.int .i64 0)).setCell ⟨w.heap.size, 3, none⟩ (.int .i64 0)).setCell ⟨w.heap.size, 4, none⟩ (.int .i64 0) = ww at *
      obtain ⟨p0, p1, p2, p3, p4⟩ : ww.cell? ⟨w.heap.size, 0, none⟩ = some (.bool false) ∧ ww.cell? ⟨w.heap.size, 1, none⟩ = some (.int .i64 0) ∧ ww.cell? ⟨w.heap.size, 2, none⟩ = some (.int .i64 0) ∧ ww.cell? ⟨w.heap.size, 3, none⟩ = some (.int .i64 0) ∧ ww.cell? ⟨w.heap.size, 4, none⟩ = some (.int .i64 0) := ⟨KS.out.cell 0, KS.out.cell 1, KS.out.cell 2, KS.out.cell 3, KS.out.cell 4⟩
      refine bodyPost_ret (by simp [results, Try.results125, go_sem, p0, p1, p2, p3, p4]; try rfl) rfl ?_
      exact ⟨rfl, BS.out⟩
    · have hge : (n : Int) * 4 ≤ at' := by omega
      go_wp2
      generalize ((((w1.setCell ⟨w.heap.size, 0, none⟩ (.bool false)).setCell ⟨w.heap.size, 1, none⟩ (.int .i64 0)).setCell ⟨w.heap.size, 2, none⟩ (.int .i64 0)).setCell ⟨w.heap.size, 3, none⟩ (.int .i64 0)).setCell ⟨w.heap.size, 4, none⟩ (.int .i64 0) = ww at *
      obtain ⟨p0, p1, p2, p3, p4⟩ : ww.cell? ⟨w.heap.size, 0, none⟩ = some (.bool false) ∧ ww.cell? ⟨w.heap.size, 1, none⟩ = some (.int .i64 0) ∧ ww.cell? ⟨w.heap.size, 2, none⟩ = some (.int .i64 0) ∧ ww.cell? ⟨w.heap.size, 3, none⟩ = some (.int .i64 0) ∧ ww.cell? ⟨w.heap.size, 4, none⟩ = some (.int .i64 0) := ⟨KS.out.cell 0, KS.out.cell 1, KS.out.cell 2, KS.out.cell 3, KS.out.cell 4⟩
      refine bodyPost_ret (by simp [results, Try.results125, go_sem, p0, p1, p2, p3, p4]; try rfl) rfl ?_
      exact ⟨rfl, BS.out⟩
end Go.Proofs.Ytjnpgdhpneifjaa
