/- The walk of the exact law on DiskValid. -/
import Derived.Test.YtjnpgdhpneifjaaDiskOkS
import Derived.Test.YtjnpgdhpneifjaaDiskLaw
import Derived.Test.YtjnpgdhpneifjaaOpenD
import Derived.Deep.RegionHeld3
namespace Go.Proofs.Ytjnpgdhpneifjaa
open Go.ChangeShapes Go.WideShapes Go.ChangeAt Go.RowKit
set_option linter.unusedVariables false
set_option linter.unusedSimpArgs false

theorem SmallDV.of {w B h d} (s : SmallDV d) (r : RdD w B h d) : SmallD h d := by
  obtain ⟨s1, s2, s3, s4, s5, s6⟩ := s
  have e1 := r.b.len
  have e2 := r.t.len
  have e3 := r.n.len
  rw [e1] at s1 s4
  rw [e2] at s2 s5
  rw [e3] at s3 s6
  exact ⟨s1, s2, s3, s4, s5, s6⟩
set_option maxRecDepth 8000 in
set_option maxHeartbeats 2000000 in
theorem exactDiskValid_w (z : DH × DiskV) (w : World) (w0 : OpenDisk w z) :
    Calls Try.prog 7 #[dkv z.1 z.2] w fun e w' => e = .returned (.bool true) ∧ Below w.heap.size w w' := by
  obtain ⟨hA, d⟩ := z
  obtain ⟨rd, lim⟩ := w0
  simp only at rd lim
  have b1 : Below w.heap.size w (w.alloc (.cells #[.slice hA.bA hA.bn hA.bc, .slice hA.tA hA.tn hA.tc, .int .i64 d.hot, .int .i64 d.warm, .int .i64 d.cold, .int .i64 d.stamp, .slice hA.nA hA.nn hA.nc] 54)) := (Below.refl _ _).alloc (Nat.le_refl _) _
  have k1 := Blk.new w 54 #[.slice hA.bA hA.bn hA.bc, .slice hA.tA hA.tn hA.tc, .int .i64 d.hot, .int .i64 d.warm, .int .i64 d.cold, .int .i64 d.stamp, .slice hA.nA hA.nn hA.nc]
  have l1 := k1.lt
  have r1 := rd.below b1
  have B1 := Lib.hid b1
  have g1 : w.heap.size ≤ (w.alloc (.cells #[.slice hA.bA hA.bn hA.bc, .slice hA.tA hA.tn hA.tc, .int .i64 d.hot, .int .i64 d.warm, .int .i64 d.cold, .int .i64 d.stamp, .slice hA.nA hA.nn hA.nc] 54)).heap.size := b1.size
  clear b1 rd
  simp only
  go_enter Try.func7, Try.ntmps7
  go_wp2_with fail
  generalize w.alloc (.cells #[.slice hA.bA hA.bn hA.bc, .slice hA.tA hA.tn hA.tc, .int .i64 d.hot, .int .i64 d.warm, .int .i64 d.cold, .int .i64 d.stamp, .slice hA.nA hA.nn hA.nc] 54) = w1 at *
  refine (szDisk_c r1 g1 lim).mono ?_
  rintro e w2 ⟨⟨r, rfl, q1, q2, q3⟩, b2⟩
  have B2 := Lib.hid (B1.out.trans (b2.mono g1))
  have r2 := r1.below (b2.mono g1)
  have k2 := k1.below b2 l1
  have l2 := k2.lt
  have g2 := B2.out.size
  have HR := Lib.hid q3
  clear q3 b2 r1 k1 l1 B1
  by_cases hneg : r < 0
  · go_wp2
    go_ret
    exact ⟨rfl, B2.out⟩
  · have SM := Lib.hid (HR.out (by omega))
    have SMV := Lib.hid (SM.out.v r2)
    clear HR
    obtain ⟨t0, t1, t2, t3, t4, t5, t6⟩ := k2.all7
    go_wp2_with fail
    refine (toDisk_c r2 g2 SM.out).mono ?_
    rintro e w3 ⟨h3, rfl, o3, b3⟩
    have B3 := Lib.hid (B2.out.trans (b3.mono g2))
    have r3 := r2.below (b3.mono g2)
    have k3 := k2.below b3 l2
    have l3 := k3.lt
    have g3 := B3.out.size
    have SM3 := Lib.hid (SMV.out.of o3.rd)
    clear b3 r2 k2 l2 B2 t0 t1 t2 t3 t4 t5 t6
    go_wp2_with fail
    refine (diskValid_spec o3.rd (Nat.le_refl _) SM3.out.b SM3.out.t SM3.out.n (fun i hi => by have := SM3.out.ns i hi; simp only [nTxt]; omega)).mono ?_
    rintro e w4 ⟨rfl, b4⟩
    have B4 := Lib.hid (B3.out.trans (b4.mono g3))
    have r4 := r3.below (b4.mono g3)
    have k4 := k3.below b4 l3
    have l4 := k4.lt
    have g4 := B4.out.size
    clear b4 r3 k3 l3 B3 o3 SM3
    obtain ⟨q, hq⟩ : ∃ q, bof (DiskOk d) = q := ⟨_, rfl⟩
    have HQ := Lib.hid hq
    rw [hq]
    clear hq
    obtain ⟨t0, t1, t2, t3, t4, t5, t6⟩ := k4.all7
    go_wp2_with fail
    refine (toDisk_c r4 g4 SM.out).mono ?_
    rintro e w5 ⟨h5, rfl, o5, b5⟩
    have B5 := Lib.hid (B4.out.trans (b5.mono g4))
    have r5 := r4.below (b5.mono g4)
    have k5 := k4.below b5 l4
    have l5 := k5.lt
    have g5 := B5.out.size
    have SM5 := Lib.hid (SMV.out.of o5.rd)
    clear b5 r4 k4 l4 B4 t0 t1 t2 t3 t4 t5 t6
    go_upto_region 7 with (fail)
    have bx : Below w.heap.size w5 (w5.alloc (.cells #[.slice h5.bA h5.bn h5.bc, .slice h5.tA h5.tn h5.tc, .int .i64 d.hot, .int .i64 d.warm, .int .i64 d.cold, .int .i64 d.stamp, .slice h5.nA h5.nn h5.nc] 42)) := (Below.refl _ _).alloc g5 _
    have bx5 : Below w5.heap.size w5 (w5.alloc (.cells #[.slice h5.bA h5.bn h5.bc, .slice h5.tA h5.tn h5.tc, .int .i64 d.hot, .int .i64 d.warm, .int .i64 d.cold, .int .i64 d.stamp, .slice h5.nA h5.nn h5.nc] 42)) := (Below.refl _ _).alloc (Nat.le_refl _) _
    have kx := Blk.new w5 42 #[.slice h5.bA h5.bn h5.bc, .slice h5.tA h5.tn h5.tc, .int .i64 d.hot, .int .i64 d.warm, .int .i64 d.cold, .int .i64 d.stamp, .slice h5.nA h5.nn h5.nc]
    have lx := kx.lt
    have B6 := Lib.hid (B5.out.trans bx)
    have r6 := r5.below bx
    have k6 := k5.below bx5 l5
    have o6 := o5.below bx5
    have l6 := k6.lt
    have g6 := B6.out.size
    have gne : w.heap.size < w5.heap.size := l5
    clear bx bx5 r5 k5 l5 B5 o5 g5
    generalize w5.alloc (.cells #[.slice h5.bA h5.bn h5.bc, .slice h5.tA h5.tn h5.tc, .int .i64 d.hot, .int .i64 d.warm, .int .i64 d.cold, .int .i64 d.stamp, .slice h5.nA h5.nn h5.nc] 42) = w6 at *
    generalize w5.heap.size = g5 at *
    obtain ⟨t0, t1, t2, t3, t4, t5, t6⟩ := kx.all7
    go_wp2_with fail
    refine (diskValid_impl o6.rd (Nat.le_refl _) SM5.out.b SM5.out.t SM5.out.n (fun i hi => by have := SM5.out.ns i hi; simp only [nTxt]; omega)).mono ?_
    rintro e w7 ⟨rfl, b7⟩
    have B7 := Lib.hid (B6.out.trans (b7.mono g6))
    have r7 := r6.below (b7.mono g6)
    have k7 := k6.below b7 l6
    have x7 := kx.below b7 lx
    have o7 := o6.below b7
    have l7 := k7.lt
    have lx7 := x7.lt
    have g7 := B7.out.size
    rw [show bof (DiskOk d) = q from HQ.out]
    clear b7 r6 k6 kx o6 l6 lx B6 t0 t1 t2 t3 t4 t5 t6
    go_upto_region 10 with (fail)
    have AA := k7.all7
    have XX := x7.all7
    refine wp_region_held_drew (S := fun w' => (w'.cell? ⟨w.heap.size, 0, none⟩ = some (.slice hA.bA hA.bn hA.bc) ∧ w'.cell? ⟨w.heap.size, 1, none⟩ = some (.slice hA.tA hA.tn hA.tc) ∧ w'.cell? ⟨w.heap.size, 2, none⟩ = some (.int .i64 d.hot) ∧ w'.cell? ⟨w.heap.size, 3, none⟩ = some (.int .i64 d.warm) ∧ w'.cell? ⟨w.heap.size, 4, none⟩ = some (.int .i64 d.cold) ∧ w'.cell? ⟨w.heap.size, 5, none⟩ = some (.int .i64 d.stamp) ∧ w'.cell? ⟨w.heap.size, 6, none⟩ = some (.slice hA.nA hA.nn hA.nc)) ∧ w'.cell? ⟨g5, 0, none⟩ = some (.slice h5.bA h5.bn h5.bc) ∧ w'.cell? ⟨g5, 1, none⟩ = some (.slice h5.tA h5.tn h5.tc) ∧ w'.cell? ⟨g5, 2, none⟩ = some (.int .i64 d.hot) ∧ w'.cell? ⟨g5, 3, none⟩ = some (.int .i64 d.warm) ∧ w'.cell? ⟨g5, 4, none⟩ = some (.int .i64 d.cold) ∧ w'.cell? ⟨g5, 5, none⟩ = some (.int .i64 d.stamp) ∧ w'.cell? ⟨g5, 6, none⟩ = some (.slice h5.nA h5.nn h5.nc)) (by kernel_rfl) ?_ (fun hHeld => ?_)
    · exact ⟨AA, XX⟩
    refine wpAnyH_take (i := 0) (v := ?_) rfl (by kernel_rfl) (by kernel_rfl) (by kernel_rfl) (fun _ _ _ h => h) (Or.inl ⟨by rfl, ?_⟩) (by assumption) ?_
    rotate_left
    · (intro w hSw; (try dsimp only at hSw); go_simp; (try with_reducible rfl))
    try simp only [Act.put, List.setIfInBounds_toArray, List.set_cons_zero, List.set_cons_succ, List.getElem_toArray, List.getElem_cons_zero, List.getElem_cons_succ]
    refine wpAnyH_take (i := 1) (v := ?_) rfl (by kernel_rfl) (by kernel_rfl) (by kernel_rfl) (fun _ _ _ h => h) (Or.inl ⟨by rfl, ?_⟩) (by assumption) ?_
    rotate_left
    · (intro w hSw; (try dsimp only at hSw); go_simp; (try with_reducible rfl))
    try simp only [Act.put, List.setIfInBounds_toArray, List.set_cons_zero, List.set_cons_succ, List.getElem_toArray, List.getElem_cons_zero, List.getElem_cons_succ]
    refine wpAnyH_ready (rs := [2]) (by kernel_rfl) (by simp) ?_
    refine AllReadyH.cons rfl (fun K hK => ?_) AllReadyH.nil
    go_simp
    refine (toDisk_c r7.drew g7 SM.out).mono ?_; rintro e w8 ⟨h8, rfl, o8, b8⟩; have B8 := Lib.hid (B7.out.drew.trans (b8.mono g7)); have k8 := (show Blk w7.drew w.heap.size _ _ from k7).below b8 l7; have x8 := (show Blk w7.drew g5 _ _ from x7).below b8 lx7; have p8 := (o7.below ((Below.refl _ _).drew)).below b8; have AA8 := k8.all7; have XX8 := x8.all7; have g8 := B8.out.size; clear AA XX
    go_wp2_with fail
    refine hK.out _ _ ?_ (fun hHeld => ?_)
    · exact ⟨AA8, XX8⟩
    clear hK K
    try simp only [Act.put, List.setIfInBounds_toArray, List.set_cons_zero, List.set_cons_succ, List.getElem_toArray, List.getElem_cons_zero, List.getElem_cons_succ]
    refine wpAnyH_ready (rs := [3]) (by kernel_rfl) (by simp) ?_
    refine AllReadyH.cons rfl (fun K hK => ?_) AllReadyH.nil
    go_simp
    refine (eqDisk_same p8.rd o8.rd (Nat.le_refl _) (Nat.le_refl _) SMV.out).mono ?_; rintro e w9 ⟨rfl, b9⟩; have B9 := Lib.hid (B8.out.trans (b9.mono g8)); have AA9 := (k8.below b9 (by have := k8.lt; exact this)).all7; have XX9 := (x8.below b9 (by have := x8.lt; exact this)).all7
    go_wp2_with fail
    refine hK.out _ _ ?_ (fun hHeld => ?_)
    · exact ⟨AA9, XX9⟩
    clear hK K
    try simp only [Act.put, List.setIfInBounds_toArray, List.set_cons_zero, List.set_cons_succ, List.getElem_toArray, List.getElem_cons_zero, List.getElem_cons_succ]
    refine wpAnyH_take (i := 4) (v := ?_) rfl (by kernel_rfl) (by kernel_rfl) (by kernel_rfl) (fun _ _ _ h => h) (Or.inl ⟨by rfl, ?_⟩) (by assumption) ?_
    rotate_left
    · (intro w hSw; (try dsimp only at hSw); go_simp; (try with_reducible rfl))
    try simp only [Act.put, List.setIfInBounds_toArray, List.set_cons_zero, List.set_cons_succ, List.getElem_toArray, List.getElem_cons_zero, List.getElem_cons_succ]
    refine wpAnyH_done (by kernel_rfl) ?_ _
    go_wp2
    go_ret
    exact ⟨rfl, B9.out⟩
end Go.Proofs.Ytjnpgdhpneifjaa
