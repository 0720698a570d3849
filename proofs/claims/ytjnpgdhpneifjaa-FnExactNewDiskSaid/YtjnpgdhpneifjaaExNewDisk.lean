/- The walk of the exact law on NewDisk. -/
import Derived.Test.YtjnpgdhpneifjaaNewDisk
import Derived.Test.YtjnpgdhpneifjaaDiskLaw
namespace Go.Proofs.Ytjnpgdhpneifjaa
open Go.ChangeShapes Go.WideShapes Go.ChangeAt Go.RowKit
set_option linter.unusedVariables false
set_option linter.unusedSimpArgs false

theorem exactNewDisk_w (a0 : Int) (w : World) (w0 : (Lit.int .i64 a0).wf = true) :
    Calls Try.prog 5 #[.int .i64 a0] w fun e w' => e = .returned (.bool true) ∧ Below w.heap.size w w' := by
  clear w0
  have hsm := newDisk_small a0
  have HSM := Lib.hid hsm
  have hk := kD_range (k0 := 1) (by omega) (by omega) hsm
  go_enter Try.func5, Try.ntmps5
  go_wp2_with fail
  refine (newDisk_spec a0 _).mono ?_
  rintro e w1 ⟨h1, rfl, o1, b1⟩
  have B1 := Lib.hid b1
  have s1 := b1.size
  clear b1 hsm
  generalize hd : newDiskF a0 = d at *
  have HD := Lib.hid hd
  clear hd
  go_wp2_with fail
  have bx : Below w1.heap.size w1 (w1.alloc (.cells #[.slice h1.bA h1.bn h1.bc, .slice h1.tA h1.tn h1.tc, .int .i64 d.hot, .int .i64 d.warm, .int .i64 d.cold, .int .i64 d.stamp, .slice h1.nA h1.nn h1.nc] 42)) := (Below.refl _ _).alloc (Nat.le_refl _) _
  have kx : BoxD (w1.alloc (.cells #[.slice h1.bA h1.bn h1.bc, .slice h1.tA h1.tn h1.tc, .int .i64 d.hot, .int .i64 d.warm, .int .i64 d.cold, .int .i64 d.stamp, .slice h1.nA h1.nn h1.nc] 42)) w1.heap.size h1 d := Blk.new _ _ _
  have lx := Blk.lt kx
  have r1 := o1.rd.below bx
  have B1x := Lib.hid (B1.out.trans (bx.mono s1))
  generalize w1.alloc (.cells #[.slice h1.bA h1.bn h1.bc, .slice h1.tA h1.tn h1.tc, .int .i64 d.hot, .int .i64 d.warm, .int .i64 d.cold, .int .i64 d.stamp, .slice h1.nA h1.nn h1.nc] 42) = w1x at *
  have sx := bx.size
  generalize w1.heap.size = g1 at *
  clear o1 bx B1
  refine (newDisk_impl a0 _).mono ?_
  rintro e w2 ⟨h2, rfl, o2, b2⟩
  rw [HD.out] at o2 ⊢
  have B2 := Lib.hid (B1x.out.trans (b2.mono (by omega)))
  have s2 := b2.size
  have r2 := r1.below (b2.mono (by omega))
  have k2 := Blk.below kx b2 lx
  clear b2 r1 kx B1x
  obtain ⟨t0, t1, t2, t3, t4, t5, t6⟩ := Blk.all7 k2
  have l2 : g1 < w2.heap.size := by omega
  go_wp2_with fail
  have by2 : Below w2.heap.size w2 (w2.alloc (.cells #[.slice h2.bA h2.bn h2.bc, .slice h2.tA h2.tn h2.tc, .int .i64 d.hot, .int .i64 d.warm, .int .i64 d.cold, .int .i64 d.stamp, .slice h2.nA h2.nn h2.nc] 42)) := (Below.refl _ _).alloc (Nat.le_refl _) _
  have ky : BoxD (w2.alloc (.cells #[.slice h2.bA h2.bn h2.bc, .slice h2.tA h2.tn h2.tc, .int .i64 d.hot, .int .i64 d.warm, .int .i64 d.cold, .int .i64 d.stamp, .slice h2.nA h2.nn h2.nc] 42)) w2.heap.size h2 d := Blk.new _ _ _
  have ly := Blk.lt ky
  have r3 := r2.below (by2.mono (by omega))
  have k3 := Blk.below k2 by2 (by omega)
  have o3 := o2.below by2
  have B3 := Lib.hid (B2.out.trans (by2.mono (by omega)))
  have sy := by2.size
  clear t0 t1 t2 t3 t4 t5 t6 by2 r2 k2 o2 B2
  generalize w2.alloc (.cells #[.slice h2.bA h2.bn h2.bc, .slice h2.tA h2.tn h2.tc, .int .i64 d.hot, .int .i64 d.warm, .int .i64 d.cold, .int .i64 d.stamp, .slice h2.nA h2.nn h2.nc] 42) = w3 at *
  generalize w2.heap.size = g2 at *
  refine (eqDisk_same o3.rd r3 (Nat.le_refl _) (by omega) HSM.out).mono ?_
  rintro e w4 ⟨rfl, b4⟩
  have B4 := Lib.hid (B3.out.trans (b4.mono (by omega)))
  have o4 := o3.below b4
  have r4 := r3.below (b4.mono (by omega))
  have k4 := Blk.below k3 b4 (by omega)
  have y4 := Blk.below ky b4 ly
  have s4 := b4.size
  clear b4 o3 r3 k3 ky B3
  obtain ⟨t0, t1, t2, t3, t4, t5, t6⟩ := Blk.all7 y4
  go_wp2_with fail
  refine (markDisk_c (k0 := 1) o4 (by omega) HSM.out (by omega) (by omega)).mono ?_
  rintro e w5 ⟨rfl, o5, b5, c5⟩
  have B5 := Lib.hid (B4.out.trans (b5.mono (by omega)))
  have r5 := r4.below (b5.mono (by omega))
  have k5 := Blk.below k4 b5 (by omega)
  have y5 := Blk.typed y4 c5 (by decide)
  have m5 := o5.rd
  have s5 := b5.size
  clear t0 t1 t2 t3 t4 t5 t6 b5 c5 o4 r4 k4 y4 o5 B4
  obtain ⟨t0, t1, t2, t3, t4, t5, t6⟩ := Blk.all7 y5
  have hk0 := hk.1
  have hk1 := hk.2
  go_wp2_with fail
  refine (heldDisk_c (k0 := 1) m5 (Nat.le_refl _) HSM.out (by omega) (by omega)).mono ?_
  rintro e w6 ⟨rfl, b6⟩
  have B6 := Lib.hid (B5.out.trans (b6.mono (by omega)))
  have r6 := r5.below (b6.mono (by omega))
  have k6 := Blk.below k5 b6 (by omega)
  have y6 := Blk.below y5 b6 (by omega)
  have m6 := m5.below b6
  have s6 := b6.size
  clear t0 t1 t2 t3 t4 t5 t6 b6 m5 r5 k5 y5 B5
  go_wp2_with fail
  refine (newDisk_impl a0 _).mono ?_
  rintro e w7 ⟨h7, rfl, o7, b7⟩
  rw [HD.out] at o7 ⊢
  have B7 := Lib.hid (B6.out.trans (b7.mono (by omega)))
  have r7 := r6.below (b7.mono (by omega))
  have k7 := Blk.below k6 b7 (by omega)
  have y7 := Blk.below y6 b7 (by omega)
  have m7 := m6.below (b7.mono (by omega))
  have s7 := b7.size
  clear b7 r6 k6 y6 m6 B6
  obtain ⟨t0, t1, t2, t3, t4, t5, t6⟩ := Blk.all7 k7
  have l7 : g1 < w7.heap.size := by omega
  go_wp2_with fail
  have bz : Below w7.heap.size w7 (w7.alloc (.cells #[.slice h7.bA h7.bn h7.bc, .slice h7.tA h7.tn h7.tc, .int .i64 d.hot, .int .i64 d.warm, .int .i64 d.cold, .int .i64 d.stamp, .slice h7.nA h7.nn h7.nc] 42)) := (Below.refl _ _).alloc (Nat.le_refl _) _
  have r8 := r7.below (bz.mono (by omega))
  have y8 := Blk.below y7 bz (by omega)
  have m8 := m7.below (bz.mono (by omega))
  have o8 := o7.below bz
  have B8 := Lib.hid (B7.out.trans (bz.mono (by omega)))
  have s8 := bz.size
  clear t0 t1 t2 t3 t4 t5 t6 bz r7 k7 y7 m7 o7 B7
  generalize w7.alloc (.cells #[.slice h7.bA h7.bn h7.bc, .slice h7.tA h7.tn h7.tc, .int .i64 d.hot, .int .i64 d.warm, .int .i64 d.cold, .int .i64 d.stamp, .slice h7.nA h7.nn h7.nc] 42) = w8 at *
  refine (eqDisk_same o8.rd r8 (Nat.le_refl _) (by omega) HSM.out).mono ?_
  rintro e w9 ⟨rfl, b9⟩
  have B9 := Lib.hid (B8.out.trans (b9.mono (by omega)))
  have y9 := Blk.below y8 b9 (by omega)
  have m9 := m8.below (b9.mono (by omega))
  have s9 := b9.size
  clear b9 r8 y8 m8 o8 B8
  obtain ⟨t0, t1, t2, t3, t4, t5, t6⟩ := Blk.all7 y9
  go_wp2_with fail
  refine (heldDisk_c (k0 := 1) m9 (by omega) HSM.out (by omega) (by omega)).mono ?_
  rintro e w10 ⟨rfl, b10⟩
  have B10 := Lib.hid (B9.out.trans (b10.mono (by omega)))
  clear t0 t1 t2 t3 t4 t5 t6 b10 m9 y9 B9
  go_wp2
  go_ret
  exact ⟨rfl, B10.out⟩
end Go.Proofs.Ytjnpgdhpneifjaa
