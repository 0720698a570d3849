/- The walk of the law FnDiskValid. -/
import Derived.Test.YtjnpgdhpneifjaaG30
import Derived.Test.YtjnpgdhpneifjaaG1
import Derived.Test.YtjnpgdhpneifjaaG17
namespace Go.Proofs.Ytjnpgdhpneifjaa
open Go.ChangeShapes Go.WideShapes Go.ChangeAt Go.RowKit Go.Deep
set_option linter.unusedVariables false
set_option linter.unusedSimpArgs false

/-- a drawn disk, at the law's level -/
def DrawnDk (w : World) (e : Ending) (w' : World) : Prop := ∃ (h : DH) (d : DiskV), e = .returned (dkv h d) ∧ OwD w' w.heap.size h d ∧ SmallDV d ∧ Below w.heap.size w w'
set_option maxRecDepth 8000 in
set_option maxHeartbeats 4000000 in
theorem drawDiskValid_c {A : Option Addr} {n c : Nat} {xs : List Int} {w : World} (hr : RdI .u8 w w.heap.size A n xs) (hx : ∀ x ∈ xs, 0 ≤ x ∧ x ≤ 255) (hnc : n ≤ c) (hcm : c ≤ 9223372036854775807) :
    Calls Try.prog 29 #[.slice A n c] w (DrawnDk w) := by
  have bz : Below w.heap.size w (w.alloc (.cells #[.slice none 0 0, .slice none 0 0, .int .i64 0, .int .i64 0, .int .i64 0, .int .i64 0, .slice none 0 0] 42)) := (Below.refl _ _).alloc (Nat.le_refl _) _
  have KZ := Blk.new w 42 #[.slice none 0 0, .slice none 0 0, .int .i64 0, .int .i64 0, .int .i64 0, .int .i64 0, .slice none 0 0]
  have HR := Lib.hid ((hr.below bz).mono bz.size)
  have BZ := Lib.hid bz
  clear hr bz
  go_enter Try.func29, Try.ntmps29
  go_upto_region 1 with (fail)
  generalize w.alloc (.cells #[.slice none 0 0, .slice none 0 0, .int .i64 0, .int .i64 0, .int .i64 0, .int .i64 0, .slice none 0 0] 42) = w1 at *
  go_wp2_with fail
  refine (open_c HR.out hx hnc hcm).mono ?_
  rintro e w2 ⟨rfl, h2, b2⟩
  have K2 := KZ.below b2 KZ.lt
  have szz := BZ.out.size
  have B2 := Lib.hid (BZ.out.trans (b2.mono szz))
  have lz := KZ.lt
  clear KZ BZ HR b2
  go_wp2_with fail
  refine (l20Disk_c h2 (by omega) (by omega) (by omega)).mono ?_
  rintro e w3 ⟨h, d, rfl, o3, SM, R3, g3⟩
  have szy := B2.out.size
  have hne : w.heap.size ≠ w1.heap.size := by omega
  have K3 := K2.grown g3 (by intro e; injection e with e; omega)
  have B3 := Lib.hid (below_of_gb B2.out g3 szy szz)
  have O3 := o3.lower szy
  clear K2 o3 h2 g3 B2 R3
  obtain ⟨bA, bn, bc, tA, tn, tc, nA, nn, nc⟩ := h
  obtain ⟨bs, ts, hot, warm, cold, stamp, ns⟩ := d
  obtain ⟨y0, y1, y2, y3, y4, y5, y6⟩ := K3.all7
  obtain ⟨z0, z1, z2, z3, z4, z5, z6⟩ := K3.free7
  have KP := Lib.hid (blk_putDisk K3 ⟨bA, bn, bc, tA, tn, tc, nA, nn, nc⟩ ⟨bs, ts, hot, warm, cold, stamp, ns⟩).1
  have HO := Lib.hid (show DrawnDk w (.returned (dkv ⟨bA, bn, bc, tA, tn, tc, nA, nn, nc⟩ ⟨bs, ts, hot, warm, cold, stamp, ns⟩)) (putDisk w3 w.heap.size ⟨bA, bn, bc, tA, tn, tc, nA, nn, nc⟩ ⟨bs, ts, hot, warm, cold, stamp, ns⟩) from ⟨_, _, rfl, O3.put K3 _ _, SM, below_putDisk B3.out (Nat.le_refl _) _ _⟩)
  clear K3 O3 SM B3
  dsimp only [putDisk, BoxD] at KP HO
  go_simp
  repeat (first | go_values | go_skip | go_guarded | go_step | go_upon)
  generalize ((((((w3.setCell ⟨w.heap.size, 0, none⟩ (.slice bA bn bc)).setCell ⟨w.heap.size, 1, none⟩ (.slice tA tn tc)).setCell ⟨w.heap.size, 2, none⟩ (.int .i64 hot)).setCell ⟨w.heap.size, 3, none⟩ (.int .i64 warm)).setCell ⟨w.heap.size, 4, none⟩ (.int .i64 cold)).setCell ⟨w.heap.size, 5, none⟩ (.int .i64 stamp)).setCell ⟨w.heap.size, 6, none⟩ (.slice nA nn nc) = wz at *
  obtain ⟨e0, e1, e2, e3, e4, e5, e6⟩ := KP.out.all7
  refine bodyPost_ret (by simp [results, Try.results29, go_sem, e0, e1, e2, e3, e4, e5, e6]; try rfl) rfl ?_
  exact HO.out
theorem diskOk_bare {d : DiskV} (h : DiskOk d) : DiskOk { d with ns := [] } := ⟨h.1, h.2.1, h.2.2.1, h.2.2.2.1, fun _ h => absurd h (Nat.not_lt_zero _), fun _ _ _ h => absurd h (Nat.not_lt_zero _)⟩
theorem diskOk_none {d : DiskV} : ¬ DiskOk { d with bs := [] } := fun h => by have := h.1.1.1.1; simp at this
set_option maxRecDepth 8000 in
set_option maxHeartbeats 4000000 in
theorem fnDiskValid_w (a0 : Option Addr) (len0 cap0 : Nat) (z0 : List Int) (w : World) (w0 : IsRow .u8 w a0 len0 cap0 z0) :
    Calls Try.prog 8 #[.slice a0 len0 cap0] w fun e w' => e = .returned (.bool true) ∧ Below w.heap.size w w' := by
  obtain ⟨q1, q2, q3, q4⟩ := bytes_ok w0
  by_cases hl : 1048576 < len0
  · go_enter Try.func8, Try.ntmps8
    go_wp2
    go_ret
    exact ⟨rfl, Below.refl _ _⟩
  go_enter Try.func8, Try.ntmps8
  go_wp2_with fail
  refine (drawDiskValid_c q3 q4 q1 q2).mono ?_
  rintro e w1 ⟨h, d, rfl, o1, SM, b1⟩
  have B1 := Lib.hid b1
  have R1 := Lib.hid o1.rd
  have SMH := SM.h o1.rd
  have HSM := Lib.hid SM
  obtain ⟨bA, bn, bc, tA, tn, tc, nA, nn, nc⟩ := h
  obtain ⟨bs, ts, hot, warm, cold, stamp, ns⟩ := d
  have S1 := Lib.hid (show bn ≤ 1048576 from SMH.b)
  have S2 := Lib.hid (show tn ≤ 1048576 from SMH.t)
  have S3 := Lib.hid (show nn ≤ 1048576 from SMH.n)
  have S4 := Lib.hid (show ∀ i, i < nn → (nTxt ns i).size ≤ 9223372036854775807 from fun i hi => by have := SMH.ns i hi; simp only [nTxt]; simp only at this; omega)
  clear q3 q4 w0 b1 o1 SM SMH
  go_upto_region 4 with (fail)
  have b2 : Below w1.heap.size w1 (w1.alloc (.cells #[.slice bA bn bc, .slice tA tn tc, .int .i64 hot, .int .i64 warm, .int .i64 cold, .int .i64 stamp, .slice nA nn nc] 42)) := (Below.refl _ _).alloc (Nat.le_refl _) _
  have K2 := Blk.new w1 42 #[.slice bA bn bc, .slice tA tn tc, .int .i64 hot, .int .i64 warm, .int .i64 cold, .int .i64 stamp, .slice nA nn nc]
  have B2 := Lib.hid (B1.out.trans (b2.mono B1.out.size))
  have R2 := Lib.hid (R1.out.below b2)
  have s12 := b2.size
  clear b2 B1 R1
  generalize w1.alloc (.cells #[.slice bA bn bc, .slice tA tn tc, .int .i64 hot, .int .i64 warm, .int .i64 cold, .int .i64 stamp, .slice nA nn nc] 42) = w2 at *
  generalize w1.heap.size = gd at *
  obtain ⟨p0, p1, p2, p3, p4, p5, p6⟩ := K2.all7
  go_wp2_with fail
  refine (diskValid_impl (h := ⟨bA, bn, bc, tA, tn, tc, nA, nn, nc⟩) (d := ⟨bs, ts, hot, warm, cold, stamp, ns⟩) R2.out s12 S1.out S2.out S3.out S4.out).mono ?_
  rintro e w3 ⟨rfl, b3⟩
  have K3 := K2.below b3 K2.lt
  have B3 := Lib.hid (B2.out.trans (b3.mono B2.out.size))
  have R3 := Lib.hid (R2.out.below (b3.mono s12))
  have s13 := Nat.le_trans s12 b3.size
  clear b3 B2 R2 K2 p0 p1 p2 p3 p4 p5 p6
  obtain ⟨p0, p1, p2, p3, p4, p5, p6⟩ := K3.all7
  go_wp2_with fail
  refine (diskValid_spec (h := ⟨bA, bn, bc, tA, tn, tc, nA, nn, nc⟩) (d := ⟨bs, ts, hot, warm, cold, stamp, ns⟩) R3.out s13 S1.out S2.out S3.out S4.out).mono ?_
  rintro e w4 ⟨rfl, b4⟩
  have K4 := K3.below b4 K3.lt
  have B4 := Lib.hid (B3.out.trans (b4.mono B3.out.size))
  have R4 := Lib.hid (R3.out.below (b4.mono s13))
  have s14 := Nat.le_trans s13 b4.size
  clear b4 B3 R3 K3 p0 p1 p2 p3 p4 p5 p6
  go_upto_region 7 with (fail)
  obtain ⟨p0, p1, p2, p3, p4, p5, p6⟩ := K4.all7
  have HN := Lib.hid (bof_f.2 (diskOk_none (d := ⟨bs, ts, hot, warm, cold, stamp, ns⟩)))
  simp only at HN
  have HX := Lib.hid (fun (h : DiskOk ⟨bs, ts, hot, warm, cold, stamp, ns⟩) => bof_t.2 (diskOk_bare h))
  simp only at HX
  have RN := Lib.hid (show RdD w4 gd ⟨none, 0, 0, tA, tn, tc, nA, nn, nc⟩ ⟨[], ts, hot, warm, cold, stamp, ns⟩ from ⟨⟨rfl, fun h => absurd h (Nat.lt_irrefl _)⟩, R4.out.t, R4.out.n⟩)
  have RB := Lib.hid (show RdD w4 gd ⟨bA, bn, bc, tA, tn, tc, none, 0, 0⟩ ⟨bs, ts, hot, warm, cold, stamp, []⟩ from ⟨R4.out.b, R4.out.t, ⟨rfl, fun h => absurd h (Nat.lt_irrefl _)⟩⟩)
  have S0 := Lib.hid (show ∀ i, i < 0 → (nTxt [] i).size ≤ 9223372036854775807 from fun i hi => absurd hi (Nat.not_lt_zero _))
  go_wp2_with fail
  refine (diskValid_impl (h := ⟨none, 0, 0, tA, tn, tc, nA, nn, nc⟩) (d := ⟨[], ts, hot, warm, cold, stamp, ns⟩) RN.out s14 (Nat.zero_le _) S2.out S3.out S4.out).mono ?_
  rw [HN.out]
  rintro e w5 ⟨rfl, b5⟩
  have K5 := K4.below b5 K4.lt
  have B5 := Lib.hid (B4.out.trans (b5.mono B4.out.size))
  have RB5 := Lib.hid (RB.out.below (b5.mono s14))
  have s15 := Nat.le_trans s14 b5.size
  clear b5 B4 RN RB K4 p0 p1 p2 p3 p4 p5 p6
  by_cases hok : DiskOk ⟨bs, ts, hot, warm, cold, stamp, ns⟩
  · have hb := bof_t.2 hok
    have hb2 := HX.out hok
    rw [hb]
    clear hok HX
    obtain ⟨p0, p1, p2, p3, p4, p5, p6⟩ := K5.all7
    go_wp2_with fail
    refine (diskValid_impl (h := ⟨bA, bn, bc, tA, tn, tc, none, 0, 0⟩) (d := ⟨bs, ts, hot, warm, cold, stamp, []⟩) RB5.out s15 S1.out S2.out (Nat.zero_le _) S0.out).mono ?_
    rw [hb2]
    rintro e w6 ⟨rfl, b6⟩
    go_wp2_with (go_at_call 15; refine (alive_c _).mono ?_; rintro e w' ⟨rfl, rfl⟩)
    go_ret
    exact ⟨rfl, B5.out.trans (b6.mono B5.out.size)⟩
  · have hb := bof_f.2 hok
    rw [hb]
    clear hok HX
    go_wp2_with (go_at_call 15; refine (alive_c _).mono ?_; rintro e w' ⟨rfl, rfl⟩)
    go_ret
    exact ⟨rfl, B5.out⟩
end Go.Proofs.Ytjnpgdhpneifjaa
