/- New disks, the program's and the reference's. No condition. -/
import Derived.Test.YtjnpgdhpneifjaaDiskV
import Derived.Test.YtjnpgdhpneifjaaNewDev
import Derived.Test.YtjnpgdhpneifjaaNewTab
namespace Go.Proofs.Ytjnpgdhpneifjaa
open Go.ChangeShapes Go.WideShapes Go.ChangeAt Go.RowKit Go.Deep
set_option linter.unusedVariables false
set_option linter.unusedSimpArgs false

/-- a disk in new memory, returned -/
def OwnD (w0 : World) (d : DiskV) (e : Ending) (w' : World) : Prop := ∃ h, e = .returned (dkv h d) ∧ OwD w' w0.heap.size h d ∧ Below w0.heap.size w0 w'
def zeroDisk : DiskV := ⟨[], [], 0, 0, 0, 0, []⟩
def newDiskV (n : Nat) : DiskV := ⟨newDev n, emptyT, -1, -1, -1, 0, []⟩
def newDiskF (m : Int) : DiskV := if 1 ≤ m ∧ m ≤ 12 then newDiskV m.toNat else zeroDisk
theorem newDisk_small (m : Int) : SmallDV (newDiskF m) := by
  unfold newDiskF
  split
  · refine ⟨?_, ?_, ?_, fun i hi => ?_, fun i hi => ?_, fun i hi => absurd hi (Nat.not_lt_zero _)⟩
    · simp only [newDiskV, newDev_len]; omega
    · show 8 ≤ _; omega
    · show 0 ≤ _; omega
    · simp only [newDiskV, newDev_len] at hi
      simp only [newDiskV]
      rw [newDev_get hi]
      show (4 : Int) ≤ _
      omega
    · have hi8 : i < 8 := hi
      simp only [newDiskV, emptyT]
      rw [List.getD_eq_getElem?_getD, List.getElem?_replicate, if_pos hi8]
      show (6 : Int) ≤ _
      omega
  · exact ⟨by show 0 ≤ _; omega, by show 0 ≤ _; omega, by show 0 ≤ _; omega, fun i hi => absurd hi (Nat.not_lt_zero _), fun i hi => absurd hi (Nat.not_lt_zero _), fun i hi => absurd hi (Nat.not_lt_zero _)⟩
theorem newDisk_impl (m : Int) (w : World) : Calls Try.prog 18 #[.int .i64 m] w (OwnD w (newDiskF m)) := by
  have b1 : Below w.heap.size w (w.alloc (.cells #[.slice none 0 0, .slice none 0 0, .int .i64 0, .int .i64 0, .int .i64 0, .int .i64 0, .slice none 0 0] 42)) := (Below.refl _ _).alloc (Nat.le_refl _) _
  have K1 := Blk.new w 42 #[.slice none 0 0, .slice none 0 0, .int .i64 0, .int .i64 0, .int .i64 0, .int .i64 0, .slice none 0 0]
  have s1 : w.heap.size < (w.alloc (.cells #[.slice none 0 0, .slice none 0 0, .int .i64 0, .int .i64 0, .int .i64 0, .int .i64 0, .slice none 0 0] 42)).heap.size := by simp
  by_cases hm : 1 ≤ m ∧ m ≤ 12
  · have HE := Lib.hid (show newDiskF m = newDiskV m.toNat by unfold newDiskF; rw [if_pos hm])
    obtain ⟨n, rfl⟩ := Int.eq_ofNat_of_zero_le (show 0 ≤ m by omega)
    rw [Int.toNat_natCast] at HE
    have n1 : 1 ≤ n := by omega
    have n2 : n ≤ 12 := by omega
    have B1 := Lib.hid b1
    have K1' := Lib.hid K1
    clear hm b1 K1
    go_enter Try.func18, Try.ntmps18
    go_wp2_with fail
    generalize w.alloc (.cells #[.slice none 0 0, .slice none 0 0, .int .i64 0, .int .i64 0, .int .i64 0, .int .i64 0, .slice none 0 0] 42) = w1 at *
    refine (newDevice_impl n _ n1 n2).mono ?_
    rintro e w2 ⟨A2, c2, rfl, o2, b2⟩
    have K2 := Lib.hid (K1'.out.below b2 s1)
    have B2 := Lib.hid (B1.out.trans (b2.mono B1.out.size))
    have s2 : w.heap.size < w2.heap.size := by have := b2.size; omega
    have q1 := B1.out.size
    clear b2 K1' B1
    go_wp2_with fail
    refine (emptyTable_c _).mono ?_
    rintro e w3 ⟨A3, c3, rfl, o3, b3⟩
    have K3 := K2.out.below b3 s2
    have B3 := Lib.hid (B2.out.trans (b3.mono B2.out.size))
    have o2' := o2.below b3
    have q2 := B2.out.size
    have OD : OwD w3 w.heap.size ⟨A2, (newDev n).length, c2, A3, emptyT.length, c3, none, 0, 0⟩ (newDiskV n) := ⟨o2'.lower (by omega), o3.lower (by omega), OwN.nil _ _⟩
    have OP := OD.put K3 ⟨A2, (newDev n).length, c2, A3, emptyT.length, c3, none, 0, 0⟩ (newDiskV n)
    have KP := (blk_putDisk K3 ⟨A2, (newDev n).length, c2, A3, emptyT.length, c3, none, 0, 0⟩ (newDiskV n)).1
    have BP' := (below_putDisk B3.out (Nat.le_refl _) ⟨A2, (newDev n).length, c2, A3, emptyT.length, c3, none, 0, 0⟩ (newDiskV n))
    obtain ⟨t0, t1, t2, t3, t4, t5, t6⟩ := K3.all7
    obtain ⟨z0, z1, z2, z3, z4, z5, z6⟩ := K3.free7
    unfold newDiskV at OP KP BP'
    dsimp only [putDisk, BoxD] at OP KP BP'
    have BP := Lib.hid BP'
    have HO := Lib.hid OP
    have HK := Lib.hid KP
    clear b3 K2 B2 o2 o2' o3 OD OP KP K3 BP'
    go_wp2
    generalize (((((((w3.setCell ⟨w.heap.size, 0, none⟩ (.slice A2 (newDev n).length c2)).setCell ⟨w.heap.size, 1, none⟩ (.slice A3 emptyT.length c3)).setCell ⟨w.heap.size, 2, none⟩ (.int .i64 (-1))).setCell ⟨w.heap.size, 3, none⟩ (.int .i64 (-1))).setCell ⟨w.heap.size, 4, none⟩ (.int .i64 (-1))).setCell ⟨w.heap.size, 5, none⟩ (.int .i64 0)).setCell ⟨w.heap.size, 6, none⟩ (.slice none 0 0)) = wz at *
    obtain ⟨p0, p1, p2, p3, p4, p5, p6⟩ := HK.out.all7
    refine bodyPost_ret (by simp [results, Try.results18, go_sem, p0, p1, p2, p3, p4, p5, p6]; try rfl) rfl ?_
    rw [HE.out]
    exact ⟨_, rfl, HO.out, BP.out⟩
  · have HE := Lib.hid (show newDiskF m = zeroDisk by unfold newDiskF; rw [if_neg hm])
    have B1 := Lib.hid b1
    have K1' := Lib.hid K1
    clear b1 K1
    by_cases h1 : m < 1
    · go_enter Try.func18, Try.ntmps18
      go_wp2
      generalize w.alloc (.cells #[.slice none 0 0, .slice none 0 0, .int .i64 0, .int .i64 0, .int .i64 0, .int .i64 0, .slice none 0 0] 42) = w1 at *
      obtain ⟨p0, p1, p2, p3, p4, p5, p6⟩ := K1'.out.all7
      refine bodyPost_ret (by simp [results, Try.results18, go_sem, p0, p1, p2, p3, p4, p5, p6]; try rfl) rfl ?_
      rw [HE.out]
      exact ⟨⟨none, 0, 0, none, 0, 0, none, 0, 0⟩, rfl, ⟨OwB.nil _ _, OwT.nil _ _, OwN.nil _ _⟩, B1.out⟩
    · have h2 : 12 < m := by omega
      go_enter Try.func18, Try.ntmps18
      go_wp2
      generalize w.alloc (.cells #[.slice none 0 0, .slice none 0 0, .int .i64 0, .int .i64 0, .int .i64 0, .int .i64 0, .slice none 0 0] 42) = w1 at *
      obtain ⟨p0, p1, p2, p3, p4, p5, p6⟩ := K1'.out.all7
      refine bodyPost_ret (by simp [results, Try.results18, go_sem, p0, p1, p2, p3, p4, p5, p6]; try rfl) rfl ?_
      rw [HE.out]
      exact ⟨⟨none, 0, 0, none, 0, 0, none, 0, 0⟩, rfl, ⟨OwB.nil _ _, OwT.nil _ _, OwN.nil _ _⟩, B1.out⟩
theorem newDisk_spec (m : Int) (w : World) : Calls Try.prog 17 #[.int .i64 m] w (OwnD w (newDiskF m)) := by
  have b1 : Below w.heap.size w (w.alloc (.cells #[.slice none 0 0, .slice none 0 0, .int .i64 0, .int .i64 0, .int .i64 0, .int .i64 0, .slice none 0 0] 42)) := (Below.refl _ _).alloc (Nat.le_refl _) _
  have K1 := Blk.new w 42 #[.slice none 0 0, .slice none 0 0, .int .i64 0, .int .i64 0, .int .i64 0, .int .i64 0, .slice none 0 0]
  have s1 : w.heap.size < (w.alloc (.cells #[.slice none 0 0, .slice none 0 0, .int .i64 0, .int .i64 0, .int .i64 0, .int .i64 0, .slice none 0 0] 42)).heap.size := by simp
  by_cases hm : 1 ≤ m ∧ m ≤ 12
  · have HE := Lib.hid (show newDiskF m = newDiskV m.toNat by unfold newDiskF; rw [if_pos hm])
    obtain ⟨n, rfl⟩ := Int.eq_ofNat_of_zero_le (show 0 ≤ m by omega)
    rw [Int.toNat_natCast] at HE
    have n1 : 1 ≤ n := by omega
    have n2 : n ≤ 12 := by omega
    have B1 := Lib.hid b1
    have K1' := Lib.hid K1
    have hin : inB (n : Int) 1 12 = true := by rw [inB_t]; omega
    clear hm b1 K1
    go_enter Try.func17, Try.ntmps17
    go_wp2_with (go_at_call 32; refine (l1In_c _ _ _ _).mono ?_; rw [hin]; rintro e w' ⟨rfl, rfl⟩)
    generalize w.alloc (.cells #[.slice none 0 0, .slice none 0 0, .int .i64 0, .int .i64 0, .int .i64 0, .int .i64 0, .slice none 0 0] 42) = w1 at *
    refine (newDevice_spec n _ n1 n2).mono ?_
    rintro e w2 ⟨A2, c2, rfl, o2, b2⟩
    have K2 := Lib.hid (K1'.out.below b2 s1)
    have B2 := Lib.hid (B1.out.trans (b2.mono B1.out.size))
    have s2 : w.heap.size < w2.heap.size := by have := b2.size; omega
    have q1 := B1.out.size
    clear b2 K1' B1
    go_wp2_with fail
    refine (l7New_c _).mono ?_
    rintro e w3 ⟨A3, c3, rfl, o3, b3⟩
    have K3 := K2.out.below b3 s2
    have B3 := Lib.hid (B2.out.trans (b3.mono B2.out.size))
    have o2' := o2.below b3
    have q2 := B2.out.size
    have OD : OwD w3 w.heap.size ⟨A2, (newDev n).length, c2, A3, emptyT.length, c3, none, 0, 0⟩ (newDiskV n) := ⟨o2'.lower (by omega), o3.lower (by omega), OwN.nil _ _⟩
    have OP := OD.put K3 ⟨A2, (newDev n).length, c2, A3, emptyT.length, c3, none, 0, 0⟩ (newDiskV n)
    have KP := (blk_putDisk K3 ⟨A2, (newDev n).length, c2, A3, emptyT.length, c3, none, 0, 0⟩ (newDiskV n)).1
    have BP' := (below_putDisk B3.out (Nat.le_refl _) ⟨A2, (newDev n).length, c2, A3, emptyT.length, c3, none, 0, 0⟩ (newDiskV n))
    obtain ⟨t0, t1, t2, t3, t4, t5, t6⟩ := K3.all7
    obtain ⟨z0, z1, z2, z3, z4, z5, z6⟩ := K3.free7
    unfold newDiskV at OP KP BP'
    dsimp only [putDisk, BoxD] at OP KP BP'
    have BP := Lib.hid BP'
    have HO := Lib.hid OP
    have HK := Lib.hid KP
    clear b3 K2 B2 o2 o2' o3 OD OP KP K3 BP'
    go_wp2
    generalize (((((((w3.setCell ⟨w.heap.size, 0, none⟩ (.slice A2 (newDev n).length c2)).setCell ⟨w.heap.size, 1, none⟩ (.slice A3 emptyT.length c3)).setCell ⟨w.heap.size, 2, none⟩ (.int .i64 (-1))).setCell ⟨w.heap.size, 3, none⟩ (.int .i64 (-1))).setCell ⟨w.heap.size, 4, none⟩ (.int .i64 (-1))).setCell ⟨w.heap.size, 5, none⟩ (.int .i64 0)).setCell ⟨w.heap.size, 6, none⟩ (.slice none 0 0)) = wz at *
    obtain ⟨p0, p1, p2, p3, p4, p5, p6⟩ := HK.out.all7
    refine bodyPost_ret (by simp [results, Try.results17, go_sem, p0, p1, p2, p3, p4, p5, p6]; try rfl) rfl ?_
    rw [HE.out]
    exact ⟨_, rfl, HO.out, BP.out⟩
  · have HE := Lib.hid (show newDiskF m = zeroDisk by unfold newDiskF; rw [if_neg hm])
    have B1 := Lib.hid b1
    have K1' := Lib.hid K1
    clear b1 K1
    have hin : inB m 1 12 = false := by rw [inB_f]; omega
    · go_enter Try.func17, Try.ntmps17
      go_wp2_with (go_at_call 32; refine (l1In_c _ _ _ _).mono ?_; rw [hin]; rintro e w' ⟨rfl, rfl⟩)
      generalize w.alloc (.cells #[.slice none 0 0, .slice none 0 0, .int .i64 0, .int .i64 0, .int .i64 0, .int .i64 0, .slice none 0 0] 42) = w1 at *
      obtain ⟨p0, p1, p2, p3, p4, p5, p6⟩ := K1'.out.all7
      refine bodyPost_ret (by simp [results, Try.results17, go_sem, p0, p1, p2, p3, p4, p5, p6]; try rfl) rfl ?_
      rw [HE.out]
      exact ⟨⟨none, 0, 0, none, 0, 0, none, 0, 0⟩, rfl, ⟨OwB.nil _ _, OwT.nil _ _, OwN.nil _ _⟩, B1.out⟩
end Go.Proofs.Ytjnpgdhpneifjaa
