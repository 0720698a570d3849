/- The laws' helpers on disks: size, copy, compare, mark, look. Conditions: lengths of at most 2^20. -/
import Derived.Test.YtjnpgdhpneifjaaDiskV
namespace Go.Proofs.Ytjnpgdhpneifjaa
open Go.ChangeShapes Go.WideShapes Go.ChangeAt Go.RowKit Go.Deep
set_option linter.unusedVariables false
set_option linter.unusedSimpArgs false

theorem toHeads_c (x y z : Int) (w : World) :
    Calls Try.prog 71 #[.agg #[.int .i64 x, .int .i64 y, .int .i64 z]] w fun e w' => e = .returned (.agg #[.int .i64 x, .int .i64 y, .int .i64 z]) ∧ Below w.heap.size w w' := by
  go_enter Try.func71, Try.ntmps71
  go_wp2
  go_returns
  exact ⟨rfl, (((Below.refl _ _).alloc (Nat.le_refl _) _).alloc (by simp) _).alloc (by simp; omega) _⟩
theorem toDisk_c {h : DH} {d : DiskV} {B : Nat} {w : World} (hr : RdD w B h d) (hB : B ≤ w.heap.size) (hs : SmallD h d) :
    Calls Try.prog 28 #[dkv h d] w fun e w' => ∃ h', e = .returned (dkv h' d) ∧ OwD w' w.heap.size h' d ∧ Below w.heap.size w w' := by
  obtain ⟨bs, ts, x, y, z, st, ns⟩ := d
  obtain ⟨bA, bn, bc, tA, tn, tc, nA, nn, nc⟩ := h
  have hr0 := hr.mono hB
  obtain ⟨s1, s2, s3, s4, s5, s6⟩ := hs
  simp only at s1 s2 s3 s4 s5 s6
  obtain rfl : bs.length = bn := hr0.b.len
  obtain rfl : ts.length = tn := hr0.t.len
  obtain rfl : ns.length = nn := hr0.n.len
  clear hr
  have SB := Lib.hid s4
  have ST := Lib.hid s5
  have e1 : (w.alloc (.cells #[.slice bA bs.length bc, .slice tA ts.length tc, .int .i64 x, .int .i64 y, .int .i64 z, .int .i64 st, .slice nA ns.length nc] 54)).heap.size = w.heap.size + 1 := by simp
  have e2 : ((w.alloc (.cells #[.slice bA bs.length bc, .slice tA ts.length tc, .int .i64 x, .int .i64 y, .int .i64 z, .int .i64 st, .slice nA ns.length nc] 54)).alloc (.cells #[.slice none 0 0, .slice none 0 0, .int .i64 0, .int .i64 0, .int .i64 0, .int .i64 0, .slice none 0 0] 42)).heap.size = w.heap.size + 1 + 1 := by simp
  have K1 := ((Blk.new w 54 #[.slice bA bs.length bc, .slice tA ts.length tc, .int .i64 x, .int .i64 y, .int .i64 z, .int .i64 st, .slice nA ns.length nc]).alloc (.cells #[.slice none 0 0, .slice none 0 0, .int .i64 0, .int .i64 0, .int .i64 0, .int .i64 0, .slice none 0 0] 42)).alloc (.cells #[.slice none 0 0, .slice none 0 0, .int .i64 0, .int .i64 0, .int .i64 0, .int .i64 0, .slice none 0 0] 42)
  have K2 := (Blk.new (w.alloc (.cells #[.slice bA bs.length bc, .slice tA ts.length tc, .int .i64 x, .int .i64 y, .int .i64 z, .int .i64 st, .slice nA ns.length nc] 54)) 42 #[.slice none 0 0, .slice none 0 0, .int .i64 0, .int .i64 0, .int .i64 0, .int .i64 0, .slice none 0 0]).alloc (.cells #[.slice none 0 0, .slice none 0 0, .int .i64 0, .int .i64 0, .int .i64 0, .int .i64 0, .slice none 0 0] 42)
  have K3 := Blk.new ((w.alloc (.cells #[.slice bA bs.length bc, .slice tA ts.length tc, .int .i64 x, .int .i64 y, .int .i64 z, .int .i64 st, .slice nA ns.length nc] 54)).alloc (.cells #[.slice none 0 0, .slice none 0 0, .int .i64 0, .int .i64 0, .int .i64 0, .int .i64 0, .slice none 0 0] 42)) 42 #[.slice none 0 0, .slice none 0 0, .int .i64 0, .int .i64 0, .int .i64 0, .int .i64 0, .slice none 0 0]
  have b3 : Below w.heap.size w (((w.alloc (.cells #[.slice bA bs.length bc, .slice tA ts.length tc, .int .i64 x, .int .i64 y, .int .i64 z, .int .i64 st, .slice nA ns.length nc] 54)).alloc (.cells #[.slice none 0 0, .slice none 0 0, .int .i64 0, .int .i64 0, .int .i64 0, .int .i64 0, .slice none 0 0] 42)).alloc (.cells #[.slice none 0 0, .slice none 0 0, .int .i64 0, .int .i64 0, .int .i64 0, .int .i64 0, .slice none 0 0] 42)) := (((Below.refl _ _).alloc (Nat.le_refl _) _).alloc (by simp) _).alloc (by simp; omega) _
  rw [e1] at K2
  rw [e2] at K3
  have s3' : w.heap.size + 1 + 1 < (((w.alloc (.cells #[.slice bA bs.length bc, .slice tA ts.length tc, .int .i64 x, .int .i64 y, .int .i64 z, .int .i64 st, .slice nA ns.length nc] 54)).alloc (.cells #[.slice none 0 0, .slice none 0 0, .int .i64 0, .int .i64 0, .int .i64 0, .int .i64 0, .slice none 0 0] 42)).alloc (.cells #[.slice none 0 0, .slice none 0 0, .int .i64 0, .int .i64 0, .int .i64 0, .int .i64 0, .slice none 0 0] 42)).heap.size := by simp
  go_enter Try.func28, Try.ntmps28
  go_wp2_with fail
  clear e1 e2
  generalize (((w.alloc (.cells #[.slice bA bs.length bc, .slice tA ts.length tc, .int .i64 x, .int .i64 y, .int .i64 z, .int .i64 st, .slice nA ns.length nc] 54)).alloc (.cells #[.slice none 0 0, .slice none 0 0, .int .i64 0, .int .i64 0, .int .i64 0, .int .i64 0, .slice none 0 0] 42)).alloc (.cells #[.slice none 0 0, .slice none 0 0, .int .i64 0, .int .i64 0, .int .i64 0, .int .i64 0, .slice none 0 0] 42)) = w3 at *
  have hr3 := hr0.below b3
  have q3 : w.heap.size ≤ w3.heap.size := b3.size
  refine (toBlockS_c hr3.b b3.size s1 SB.out).mono ?_
  rintro e w4 ⟨A4, c4, rfl, o4, b4⟩
  have K1a := K1.below b4 (by omega)
  have K2a := K2.below b4 (by omega)
  have K3a := K3.below b4 (by omega)
  have hr4 := hr3.below (b4.mono b3.size)
  have b4' := b3.trans (b4.mono b3.size)
  have f := K1a.cell 1
  have u := K3a.cell 0
  have v := K3a.frozen 0
  simp at f u
  have o5 := o4.typed (ChgT.blk K3a 0 (.slice A4 bs.length c4)) (by decide) (by decide)
  have K1b := K1a.far (p := ⟨w.heap.size + 1 + 1, 0, none⟩) (by show w.heap.size ≠ w.heap.size + 1 + 1; omega) (.slice A4 bs.length c4)
  have K2b := K2a.far (p := ⟨w.heap.size + 1 + 1, 0, none⟩) (by show w.heap.size + 1 ≠ w.heap.size + 1 + 1; omega) (.slice A4 bs.length c4)
  have K3b := K3a.set_ 0 (.slice A4 bs.length c4)
  have b5 := b4'.setCell (p := ⟨w.heap.size + 1 + 1, 0, none⟩) (by show w.heap.size ≤ _ + 1 + 1; omega) (.slice A4 bs.length c4)
  have hr5 := hr0.below b5
  have s5' : w.heap.size + 1 + 1 < (w4.setCell ⟨w.heap.size + 1 + 1, 0, none⟩ (.slice A4 bs.length c4)).heap.size := by have := b4.size; simp; omega
  clear K1 K2 K3 K1a K2a K3a b4 o4 hr3 hr4 b3 b4' s3'
  go_wp2_with fail
  generalize w4.setCell ⟨w.heap.size + 1 + 1, 0, none⟩ (.slice A4 bs.length c4) = w5 at *
  clear f u v
  refine (toTable_c hr5.t b5.size s2 ST.out).mono ?_
  rintro e w6 ⟨A6, c6, rfl, o6, b6⟩
  have K1 := K1b.below b6 (by omega)
  have K2 := K2b.below b6 (by omega)
  have K3 := K3b.below b6 (by omega)
  have ob := o5.below b6
  have f2 := K1.cell 2
  have f3 := K1.cell 3
  have f4 := K1.cell 4
  have u := K3.cell 1
  have v := K3.frozen 1
  simp at f2 f3 f4 u
  have o7 := o6.typed (ChgT.blk K3 1 (.slice A6 ts.length c6)) (by decide) (by decide)
  have ob7 := ob.typed (ChgT.blk K3 1 (.slice A6 ts.length c6)) (by decide) (by decide)
  have b7 := (b5.trans (b6.mono b5.size)).setCell (p := ⟨w.heap.size + 1 + 1, 1, none⟩) (by show w.heap.size ≤ _ + 1 + 1; omega) (.slice A6 ts.length c6)
  have s7 : w.heap.size + 1 + 1 < (w6.setCell ⟨w.heap.size + 1 + 1, 1, none⟩ (.slice A6 ts.length c6)).heap.size := by have := b6.size; simp; omega
  have L1 := K1.far (p := ⟨w.heap.size + 1 + 1, 1, none⟩) (by show w.heap.size ≠ w.heap.size + 1 + 1; omega) (.slice A6 ts.length c6)
  have L2 := K2.far (p := ⟨w.heap.size + 1 + 1, 1, none⟩) (by show w.heap.size + 1 ≠ w.heap.size + 1 + 1; omega) (.slice A6 ts.length c6)
  have L3 := K3.set_ 1 (.slice A6 ts.length c6)
  have q5 : w.heap.size ≤ w5.heap.size := b5.size
  have qb := Lib.hid (ob7.lower (base' := w.heap.size) (by omega))
  have qt := Lib.hid (o7.lower (base' := w.heap.size) (by omega))
  clear K1 K2 K3 K1b K2b K3b ob ob7 o5 o6 o7 b6 hr5
  go_wp2_with fail
  generalize w6.setCell ⟨w.heap.size + 1 + 1, 1, none⟩ (.slice A6 ts.length c6) = w7 at *
  clear f2 f3 f4 u v
  refine (toHeads_c x y z _).mono ?_
  rintro e w8 ⟨rfl, b8⟩
  have K1 := L1.below b8 (by omega)
  have K2 := L2.below b8 (by omega)
  have K3 := L3.below b8 (by omega)
  have ob := qb.out.below b8
  have ot := qt.out.below b8
  have f5 := K1.cell 5
  have f6 := K1.cell 6
  have u2 := K3.cell 2
  have u3 := K3.cell 3
  have u4 := K3.cell 4
  have u5 := K3.cell 5
  have v2 := K3.frozen 2
  have v3 := K3.frozen 3
  have v4 := K3.frozen 4
  have v5 := K3.frozen 5
  simp at f5 f6 u2 u3 u4 u5
  have M1 := (((K1.far (p := ⟨w.heap.size + 1 + 1, 2, none⟩) (by show w.heap.size ≠ w.heap.size + 1 + 1; omega) (.int .i64 x)).far (p := ⟨w.heap.size + 1 + 1, 3, none⟩) (by show w.heap.size ≠ w.heap.size + 1 + 1; omega) (.int .i64 y)).far (p := ⟨w.heap.size + 1 + 1, 4, none⟩) (by show w.heap.size ≠ w.heap.size + 1 + 1; omega) (.int .i64 z)).far (p := ⟨w.heap.size + 1 + 1, 5, none⟩) (by show w.heap.size ≠ w.heap.size + 1 + 1; omega) (.int .i64 st)
  have M2 := (((K2.far (p := ⟨w.heap.size + 1 + 1, 2, none⟩) (by show w.heap.size + 1 ≠ w.heap.size + 1 + 1; omega) (.int .i64 x)).far (p := ⟨w.heap.size + 1 + 1, 3, none⟩) (by show w.heap.size + 1 ≠ w.heap.size + 1 + 1; omega) (.int .i64 y)).far (p := ⟨w.heap.size + 1 + 1, 4, none⟩) (by show w.heap.size + 1 ≠ w.heap.size + 1 + 1; omega) (.int .i64 z)).far (p := ⟨w.heap.size + 1 + 1, 5, none⟩) (by show w.heap.size + 1 ≠ w.heap.size + 1 + 1; omega) (.int .i64 st)
  have N2 := K3.set_ 2 (.int .i64 x)
  have N3 := N2.set_ 3 (.int .i64 y)
  have N4 := N3.set_ 4 (.int .i64 z)
  have M3 := N4.set_ 5 (.int .i64 st)
  have tt := (((ChgT.blk K3 2 (.int .i64 x)).trans (ChgT.blk N2 3 (.int .i64 y))).trans (ChgT.blk N3 4 (.int .i64 z))).trans (ChgT.blk N4 5 (.int .i64 st))
  have b9 := ((((b7.trans (b8.mono b7.size)).setCell (p := ⟨w.heap.size + 1 + 1, 2, none⟩) (by show w.heap.size ≤ _ + 1 + 1; omega) (.int .i64 x)).setCell (p := ⟨w.heap.size + 1 + 1, 3, none⟩) (by show w.heap.size ≤ _ + 1 + 1; omega) (.int .i64 y)).setCell (p := ⟨w.heap.size + 1 + 1, 4, none⟩) (by show w.heap.size ≤ _ + 1 + 1; omega) (.int .i64 z)).setCell (p := ⟨w.heap.size + 1 + 1, 5, none⟩) (by show w.heap.size ≤ _ + 1 + 1; omega) (.int .i64 st)
  have rb := Lib.hid (ob.typed tt (by decide) (by decide))
  have rt := Lib.hid (ot.typed tt (by decide) (by decide))
  have hr9 := hr0.below b9
  have s9 : w.heap.size + 1 + 1 < ((((w8.setCell ⟨w.heap.size + 1 + 1, 2, none⟩ (.int .i64 x)).setCell ⟨w.heap.size + 1 + 1, 3, none⟩ (.int .i64 y)).setCell ⟨w.heap.size + 1 + 1, 4, none⟩ (.int .i64 z)).setCell ⟨w.heap.size + 1 + 1, 5, none⟩ (.int .i64 st)).heap.size := by have := b8.size; simp; omega
  clear K1 K2 K3 L1 L2 L3 N2 N3 N4 tt ob ot b7 b8 qb qt s7
  go_wp2_with fail
  generalize (((w8.setCell ⟨w.heap.size + 1 + 1, 2, none⟩ (.int .i64 x)).setCell ⟨w.heap.size + 1 + 1, 3, none⟩ (.int .i64 y)).setCell ⟨w.heap.size + 1 + 1, 4, none⟩ (.int .i64 z)).setCell ⟨w.heap.size + 1 + 1, 5, none⟩ (.int .i64 st) = w9 at *
  clear f5 f6 u2 u3 u4 u5 v2 v3 v4 v5
  refine (toNameS_c hr9.n b9.size s3).mono ?_
  rintro e w10 ⟨A10, c10, rfl, o10, b10⟩
  have K1 := M1.below b10 (by omega)
  have K2 := M2.below b10 (by omega)
  have K3 := M3.below b10 (by omega)
  have ob := rb.out.below b10
  have ot := rt.out.below b10
  have u0 := K3.cell 0
  have u1 := K3.cell 1
  have u2 := K3.cell 2
  have u3 := K3.cell 3
  have u4 := K3.cell 4
  have u5 := K3.cell 5
  have u6 := K3.cell 6
  have v6 := K3.frozen 6
  have t0 := K2.cell 0
  have t1 := K2.cell 1
  have t2 := K2.cell 2
  have t3 := K2.cell 3
  have t4 := K2.cell 4
  have t5 := K2.cell 5
  have t6 := K2.cell 6
  have z0 := K2.frozen 0
  have z1 := K2.frozen 1
  have z2 := K2.frozen 2
  have z3 := K2.frozen 3
  have z4 := K2.frozen 4
  have z5 := K2.frozen 5
  have z6 := K2.frozen 6
  simp at u0 u1 u2 u3 u4 u5 u6 t0 t1 t2 t3 t4 t5 t6
  have P2 := K2.far (p := ⟨w.heap.size + 1 + 1, 6, none⟩) (by show w.heap.size + 1 ≠ w.heap.size + 1 + 1; omega) (.slice A10 ns.length c10)
  have P3 := P2.set_ 0 (.slice A4 bs.length c4)
  have P4 := P3.set_ 1 (.slice A6 ts.length c6)
  have P5 := P4.set_ 2 (.int .i64 x)
  have P6 := P5.set_ 3 (.int .i64 y)
  have P7 := P6.set_ 4 (.int .i64 z)
  have P8 := P7.set_ 5 (.int .i64 st)
  have P9 := P8.set_ 6 (.slice A10 ns.length c10)
  have tt := (((((((ChgT.blk K3 6 (.slice A10 ns.length c10)).trans (ChgT.blk P2 0 (.slice A4 bs.length c4))).trans (ChgT.blk P3 1 (.slice A6 ts.length c6))).trans (ChgT.blk P4 2 (.int .i64 x))).trans (ChgT.blk P5 3 (.int .i64 y))).trans (ChgT.blk P6 4 (.int .i64 z))).trans (ChgT.blk P7 5 (.int .i64 st))).trans (ChgT.blk P8 6 (.slice A10 ns.length c10))
  have hg1 : w.heap.size ≤ w.heap.size + 1 := by omega
  have b11 := ((((((((b9.trans (b10.mono b9.size)).setCell (p := ⟨w.heap.size + 1 + 1, 6, none⟩) (by show w.heap.size ≤ _ + 1 + 1; omega) (.slice A10 ns.length c10)).setCell (p := ⟨w.heap.size + 1, 0, none⟩) hg1 (.slice A4 bs.length c4)).setCell (p := ⟨w.heap.size + 1, 1, none⟩) hg1 (.slice A6 ts.length c6)).setCell (p := ⟨w.heap.size + 1, 2, none⟩) hg1 (.int .i64 x)).setCell (p := ⟨w.heap.size + 1, 3, none⟩) hg1 (.int .i64 y)).setCell (p := ⟨w.heap.size + 1, 4, none⟩) hg1 (.int .i64 z)).setCell (p := ⟨w.heap.size + 1, 5, none⟩) hg1 (.int .i64 st)).setCell (p := ⟨w.heap.size + 1, 6, none⟩) hg1 (.slice A10 ns.length c10)
  have FB := Lib.hid (ob.typed tt (by decide) (by decide))
  have FT := Lib.hid (ot.typed tt (by decide) (by decide))
  have FN := Lib.hid ((o10.typed tt (by decide)).lower b9.size)
  have FP := Lib.hid P9
  have B11 := Lib.hid b11
  clear K1 K2 K3 M1 M2 M3 P2 P3 P4 P5 P6 P7 P8 P9 tt ob ot b9 b10 b11 o10 rb rt s9 hr9
  go_wp2
  generalize (((((((w10.setCell ⟨w.heap.size + 1 + 1, 6, none⟩ (.slice A10 ns.length c10)).setCell ⟨w.heap.size + 1, 0, none⟩ (.slice A4 bs.length c4)).setCell ⟨w.heap.size + 1, 1, none⟩ (.slice A6 ts.length c6)).setCell ⟨w.heap.size + 1, 2, none⟩ (.int .i64 x)).setCell ⟨w.heap.size + 1, 3, none⟩ (.int .i64 y)).setCell ⟨w.heap.size + 1, 4, none⟩ (.int .i64 z)).setCell ⟨w.heap.size + 1, 5, none⟩ (.int .i64 st)).setCell ⟨w.heap.size + 1, 6, none⟩ (.slice A10 ns.length c10) = wz at *
  have p0 := FP.out.cell 0
  have p1 := FP.out.cell 1
  have p2 := FP.out.cell 2
  have p3 := FP.out.cell 3
  have p4 := FP.out.cell 4
  have p5 := FP.out.cell 5
  have p6 := FP.out.cell 6
  simp at p0 p1 p2 p3 p4 p5 p6
  refine bodyPost_ret (by simp [results, Try.results28, go_sem, p0, p1, p2, p3, p4, p5, p6]; try rfl) rfl ?_
  exact ⟨⟨A4, bs.length, c4, A6, ts.length, c6, A10, ns.length, c10⟩, rfl, ⟨FB.out, FT.out, FN.out⟩, B11.out⟩

theorem small_leB {bs : List BlockV} {n : Nat} {l : Int} (h : SmallB bs n l) (hl : l ≤ 1048576) : SmallB bs n 1048576 := fun i hi => by have := h i hi; omega
theorem small_leT {ts : List (List Int)} {n : Nat} {l : Int} (h : SmallT ts n l) (hl : l ≤ 1048576) : SmallT ts n 1048576 := fun i hi => by have := h i hi; omega
theorem small_leN {ns : List NameV} {n : Nat} {l : Int} (h : SmallN ns n l) (hl : l ≤ 1048576) : SmallN ns n 1048576 := fun i hi => by have := h i hi; omega
/-- what the sizes of an argument may be -/
structure LimD (h : DH) (d : DiskV) : Prop where
  b : h.bn ≤ 9223372036854775807
  t : h.tn ≤ 9223372036854775807
  n : h.nn ≤ 9223372036854775807
  ns : LimN d.ns h.nn
theorem szDisk_c {h : DH} {d : DiskV} {B : Nat} {w : World} (hr : RdD w B h d) (hB : B ≤ w.heap.size) (hlim : LimD h d) :
    Calls Try.prog 26 #[.agg #[.slice h.bA h.bn h.bc, .slice h.tA h.tn h.tc, .int .i64 d.hot, .int .i64 d.warm, .int .i64 d.cold, .int .i64 d.stamp, .slice h.nA h.nn h.nc], .int .i64 1048576] w fun e w' => SzOk 1048576 (SmallD h d) e ∧ Below w.heap.size w w' := by
  obtain ⟨bs, ts, x, y, z, st, ns⟩ := d
  obtain ⟨bA, bn, bc, tA, tn, tc, nA, nn, nc⟩ := h
  obtain ⟨m1, m2, m3, m4⟩ := hlim
  simp only at m1 m2 m3 m4
  have M4 := Lib.hid m4
  clear m4
  simp only
  have K1 := Blk.new w 54 #[.slice bA bn bc, .slice tA tn tc, .int .i64 x, .int .i64 y, .int .i64 z, .int .i64 st, .slice nA nn nc]
  have b1 : Below w.heap.size w (w.alloc (.cells #[.slice bA bn bc, .slice tA tn tc, .int .i64 x, .int .i64 y, .int .i64 z, .int .i64 st, .slice nA nn nc] 54)) := (Below.refl _ _).alloc (Nat.le_refl _) _
  have s1 : w.heap.size < (w.alloc (.cells #[.slice bA bn bc, .slice tA tn tc, .int .i64 x, .int .i64 y, .int .i64 z, .int .i64 st, .slice nA nn nc] 54)).heap.size := by simp
  go_enter Try.func26, Try.ntmps26
  go_wp2_with fail
  generalize w.alloc (.cells #[.slice bA bn bc, .slice tA tn tc, .int .i64 x, .int .i64 y, .int .i64 z, .int .i64 st, .slice nA nn nc] 54) = w1 at *
  have hr1 := (hr.mono hB).below b1
  refine (szBlockS_c hr1.b b1.size (by omega) (by omega) (by omega)).mono ?_
  rintro e w2 ⟨⟨r, rfl, r1, r2, r3⟩, b2⟩
  have HR := Lib.hid r3
  have K2 := K1.below b2 s1
  have f1 := K2.cell 1
  have f6 := K2.cell 6
  simp at f1 f6
  have B2 := Lib.hid (b1.trans (b2.mono b1.size))
  have hr2 := hr1.below (b2.mono b1.size)
  have hs2 := B2.out.size
  have s2 : w.heap.size < w2.heap.size := by have := b2.size; omega
  clear r3 K1 hr1 b1 b2 hr
  by_cases hneg : r < 0
  · go_wp2
    go_ret
    exact ⟨⟨_, rfl, by omega, by omega, fun h => by omega⟩, B2.out⟩
  · go_wp2_with fail
    refine (szTable_c hr2.t hs2 (left := r) (by omega) (by omega) (by omega)).mono ?_
    rintro e w3 ⟨⟨q, rfl, q1, q2, q3⟩, b3⟩
    have HQ := Lib.hid q3
    have K3 := K2.below b3 s2
    have g6 := K3.cell 6
    simp at g6
    have B3 := Lib.hid (B2.out.trans (b3.mono hs2))
    have hr3 := hr2.below (b3.mono hs2)
    have hs3 := B3.out.size
    clear q3 K2 hr2 b3
    by_cases hneg : q < 0
    · go_wp2
      go_ret
      exact ⟨⟨_, rfl, by omega, by omega, fun h => by omega⟩, B3.out⟩
    · go_wp2_with fail
      refine (szNameS_c hr3.n hs3 (left := q) (by omega) (by omega) (by omega) M4.out).mono ?_
      rintro e w4 ⟨⟨p, rfl, p1, p2, p3⟩, b4⟩
      have HP := Lib.hid p3
      have B4 := Lib.hid (B3.out.trans (b4.mono hs3))
      clear p3 K3 hr3 b4
      by_cases hneg : p < 0
      · go_wp2
        go_ret
        exact ⟨⟨_, rfl, by omega, by omega, fun h => by omega⟩, B4.out⟩
      · have HS := Lib.hid (show SmallD ⟨bA, bn, bc, tA, tn, tc, nA, nn, nc⟩ ⟨bs, ts, x, y, z, st, ns⟩ from by
          obtain ⟨a1, a2⟩ := HR.out (by omega)
          obtain ⟨a3, a4⟩ := HQ.out (by omega)
          obtain ⟨a5, a6⟩ := HP.out (by omega)
          have a1' : (bn : Int) ≤ 1048576 := a1
          have a3' : (tn : Int) ≤ r := a3
          have a5' : (nn : Int) ≤ q := a5
          exact ⟨by show bn ≤ _; omega, by show tn ≤ _; omega, by show nn ≤ _; omega, a2, small_leT a4 (by omega), small_leN a6 (by omega)⟩)
        go_wp2
        go_ret
        exact ⟨⟨_, rfl, by omega, by omega, fun _ => HS.out⟩, B4.out⟩
theorem eqHeads_same (x y z : Int) (w : World) :
    Calls Try.prog 47 #[.agg #[.int .i64 x, .int .i64 y, .int .i64 z], .agg #[.int .i64 x, .int .i64 y, .int .i64 z]] w fun e w' => e = .returned (.bool true) ∧ Below w.heap.size w w' := by
  go_enter Try.func47, Try.ntmps47
  go_wp2
  go_ret
  exact ⟨rfl, ((Below.refl _ _).alloc (Nat.le_refl _) _).alloc (by simp) _⟩
theorem eqDisk_same {h h' : DH} {d : DiskV} {B B' : Nat} {w : World} (hr : RdD w B h d) (hr' : RdD w B' h' d) (hB : B ≤ w.heap.size) (hB' : B' ≤ w.heap.size) (hs : SmallDV d) :
    Calls Try.prog 19 #[.agg #[.slice h.bA h.bn h.bc, .slice h.tA h.tn h.tc, .int .i64 d.hot, .int .i64 d.warm, .int .i64 d.cold, .int .i64 d.stamp, .slice h.nA h.nn h.nc], .agg #[.slice h'.bA h'.bn h'.bc, .slice h'.tA h'.tn h'.tc, .int .i64 d.hot, .int .i64 d.warm, .int .i64 d.cold, .int .i64 d.stamp, .slice h'.nA h'.nn h'.nc]] w fun e w' => e = .returned (.bool true) ∧ Below w.heap.size w w' := by
  obtain ⟨bs, ts, x, y, z, st, ns⟩ := d
  obtain ⟨bA, bn, bc, tA, tn, tc, nA, nn, nc⟩ := h
  obtain ⟨bA', bn', bc', tA', tn', tc', nA', nn', nc'⟩ := h'
  obtain ⟨m1, m2, m3, m4, m5, m6⟩ := hs
  simp only at m1 m2 m3 m4 m5 m6
  simp only
  obtain rfl : bs.length = bn := hr.b.len
  obtain rfl : ts.length = tn := hr.t.len
  obtain rfl : ns.length = nn := hr.n.len
  obtain rfl : bs.length = bn' := hr'.b.len
  obtain rfl : ts.length = tn' := hr'.t.len
  obtain rfl : ns.length = nn' := hr'.n.len
  have M4 := Lib.hid m4
  have M5 := Lib.hid m5
  clear m4 m5 m6
  have e1 : (w.alloc (.cells #[.slice bA bs.length bc, .slice tA ts.length tc, .int .i64 x, .int .i64 y, .int .i64 z, .int .i64 st, .slice nA ns.length nc] 42)).heap.size = w.heap.size + 1 := by simp
  have K1 := (Blk.new w 42 #[.slice bA bs.length bc, .slice tA ts.length tc, .int .i64 x, .int .i64 y, .int .i64 z, .int .i64 st, .slice nA ns.length nc]).alloc (.cells #[.slice bA' bs.length bc', .slice tA' ts.length tc', .int .i64 x, .int .i64 y, .int .i64 z, .int .i64 st, .slice nA' ns.length nc'] 42)
  have K2 := Blk.new (w.alloc (.cells #[.slice bA bs.length bc, .slice tA ts.length tc, .int .i64 x, .int .i64 y, .int .i64 z, .int .i64 st, .slice nA ns.length nc] 42)) 42 #[.slice bA' bs.length bc', .slice tA' ts.length tc', .int .i64 x, .int .i64 y, .int .i64 z, .int .i64 st, .slice nA' ns.length nc']
  rw [e1] at K2
  have b1 : Below w.heap.size w ((w.alloc (.cells #[.slice bA bs.length bc, .slice tA ts.length tc, .int .i64 x, .int .i64 y, .int .i64 z, .int .i64 st, .slice nA ns.length nc] 42)).alloc (.cells #[.slice bA' bs.length bc', .slice tA' ts.length tc', .int .i64 x, .int .i64 y, .int .i64 z, .int .i64 st, .slice nA' ns.length nc'] 42)) := ((Below.refl _ _).alloc (Nat.le_refl _) _).alloc (by simp) _
  have s1 : w.heap.size + 1 < ((w.alloc (.cells #[.slice bA bs.length bc, .slice tA ts.length tc, .int .i64 x, .int .i64 y, .int .i64 z, .int .i64 st, .slice nA ns.length nc] 42)).alloc (.cells #[.slice bA' bs.length bc', .slice tA' ts.length tc', .int .i64 x, .int .i64 y, .int .i64 z, .int .i64 st, .slice nA' ns.length nc'] 42)).heap.size := by simp
  go_enter Try.func19, Try.ntmps19
  go_wp2_with fail
  clear e1
  generalize (w.alloc (.cells #[.slice bA bs.length bc, .slice tA ts.length tc, .int .i64 x, .int .i64 y, .int .i64 z, .int .i64 st, .slice nA ns.length nc] 42)).alloc (.cells #[.slice bA' bs.length bc', .slice tA' ts.length tc', .int .i64 x, .int .i64 y, .int .i64 z, .int .i64 st, .slice nA' ns.length nc'] 42) = w1 at *
  have hr1 := (hr.mono hB).below b1
  have hr1' := (hr'.mono hB').below b1
  refine (eqBlockS_same (n := bs.length) hr1.b hr1'.b b1.size b1.size (by omega) M4.out).mono ?_
  rintro e w2 ⟨rfl, b2⟩
  have K3 := K1.below b2 (by omega)
  have K4 := K2.below b2 (by omega)
  have f1 := K3.cell 1
  have g1 := K4.cell 1
  simp at f1 g1
  have B2 := Lib.hid (b1.trans (b2.mono b1.size))
  have hr2 := hr1.below (b2.mono b1.size)
  have hr2' := hr1'.below (b2.mono b1.size)
  have hs2 := B2.out.size
  have s2 : w.heap.size + 1 < w2.heap.size := by have := b2.size; omega
  clear K1 K2 hr1 hr1' b1 b2 hr hr' s1
  go_wp2_with fail
  refine (eqTable_same (n := ts.length) hr2.t hr2'.t hs2 hs2 (by omega) M5.out).mono ?_
  rintro e w3 ⟨rfl, b3⟩
  have K1 := K3.below b3 (by omega)
  have K2 := K4.below b3 (by omega)
  have f2 := K1.cell 2
  have f3 := K1.cell 3
  have f4 := K1.cell 4
  have g2 := K2.cell 2
  have g3 := K2.cell 3
  have g4 := K2.cell 4
  simp at f2 f3 f4 g2 g3 g4
  have B3 := Lib.hid (B2.out.trans (b3.mono hs2))
  have hr3 := hr2.below (b3.mono hs2)
  have hr3' := hr2'.below (b3.mono hs2)
  have hs3 := B3.out.size
  have s3 : w.heap.size + 1 < w3.heap.size := by have := b3.size; omega
  clear K3 K4 hr2 hr2' b3 f1 g1 s2
  go_wp2_with fail
  refine (eqHeads_same x y z _).mono ?_
  rintro e w4 ⟨rfl, b4⟩
  have K3 := K1.below b4 (by omega)
  have K4 := K2.below b4 (by omega)
  have f5 := K3.cell 5
  have f6 := K3.cell 6
  have g5 := K4.cell 5
  have g6 := K4.cell 6
  simp at f5 f6 g5 g6
  have B4 := Lib.hid (B3.out.trans (b4.mono hs3))
  have hr4 := hr3.below (b4.mono hs3)
  have hr4' := hr3'.below (b4.mono hs3)
  have hs4 := B4.out.size
  clear K1 K2 hr3 hr3' b4 f2 f3 f4 g2 g3 g4 s3
  go_wp2_with fail
  try go_quiet (fail)
  go_wp2_with fail
  refine (eqNameS_same (n := ns.length) hr4.n hr4'.n (by omega)).mono ?_
  rintro e w5 ⟨rfl, b5⟩
  have B5 := Lib.hid (B4.out.trans (b5.mono hs4))
  clear b5 hr4 hr4'
  go_wp2
  go_ret
  exact ⟨rfl, B5.out⟩

/-- the first mark of the tables, of the names, and behind all -/
def kD1 (k0 : Int) (d : DiskV) : Int := kB k0 d.bs d.bs.length
def kD2 (k0 : Int) (d : DiskV) : Int := kT (kD1 k0 d) d.ts d.ts.length
def kD (k0 : Int) (d : DiskV) : Int := kD2 k0 d + 2 * d.ns.length
def marksD (k0 : Int) (d : DiskV) : DiskV := ⟨marksB k0 d.bs, marksT (kD1 k0 d) d.ts, d.hot, d.warm, d.cold, d.stamp, marksN (kD2 k0 d) d.ns.length⟩
theorem kD1_range {k0 : Int} {d : DiskV} (h0 : 0 ≤ k0) (h1 : k0 ≤ 1000000) (hs : SmallDV d) : 0 ≤ kD1 k0 d ∧ kD1 k0 d ≤ 6000000000000 := by
  have := kB_range h0 hs.bs
  have := hs.b
  unfold kD1
  omega
theorem kD2_range {k0 : Int} {d : DiskV} (h0 : 0 ≤ k0) (h1 : k0 ≤ 1000000) (hs : SmallDV d) : 0 ≤ kD2 k0 d ∧ kD2 k0 d ≤ 8000000000000 := by
  have h2 := kD1_range h0 h1 hs
  have := kT_range h2.1 hs.ts
  have := hs.t
  unfold kD2
  omega
theorem kD_range {k0 : Int} {d : DiskV} (h0 : 0 ≤ k0) (h1 : k0 ≤ 1000000) (hs : SmallDV d) : 0 ≤ kD k0 d ∧ kD k0 d ≤ 9000000000000 := by
  have h2 := kD2_range h0 h1 hs
  have := hs.n
  unfold kD
  omega
theorem markDisk_c {h : DH} {d : DiskV} {base : Nat} {w : World} {k0 : Int} (ho : OwD w base h d) (hbase : base ≤ w.heap.size) (hs : SmallDV d) (hk0 : 0 ≤ k0) (hk1 : k0 ≤ 1000000) :
    Calls Try.prog 20 #[.agg #[.slice h.bA h.bn h.bc, .slice h.tA h.tn h.tc, .int .i64 d.hot, .int .i64 d.warm, .int .i64 d.cold, .int .i64 d.stamp, .slice h.nA h.nn h.nc], .int .i64 k0] w fun e w' => e = .returned (.int .i64 (kD k0 d)) ∧ OwD w' base h (marksD k0 d) ∧ Below base w w' ∧ ChgT [67, 102, 3, 90] w w' := by
  have R1 := kD1_range hk0 hk1 hs
  have R2 := kD2_range hk0 hk1 hs
  obtain ⟨bs, ts, x, y, z, st, ns⟩ := d
  obtain ⟨bA, bn, bc, tA, tn, tc, nA, nn, nc⟩ := h
  obtain ⟨m1, m2, m3, m4, m5, m6⟩ := hs
  simp only at m1 m2 m3 m4 m5 m6
  simp only
  have hb := ho.b
  have ht := ho.t
  have hn := ho.n
  simp only at hb ht hn
  obtain rfl : bs.length = bn := hb.len
  obtain rfl : ts.length = tn := ht.len
  obtain rfl : ns.length = nn := hn.len
  have M4 := Lib.hid m4
  have M5 := Lib.hid m5
  have K1 := Blk.new w 42 #[.slice bA bs.length bc, .slice tA ts.length tc, .int .i64 x, .int .i64 y, .int .i64 z, .int .i64 st, .slice nA ns.length nc]
  have b1 : Below w.heap.size w (w.alloc (.cells #[.slice bA bs.length bc, .slice tA ts.length tc, .int .i64 x, .int .i64 y, .int .i64 z, .int .i64 st, .slice nA ns.length nc] 42)) := (Below.refl _ _).alloc (Nat.le_refl _) _
  have s1 : w.heap.size < (w.alloc (.cells #[.slice bA bs.length bc, .slice tA ts.length tc, .int .i64 x, .int .i64 y, .int .i64 z, .int .i64 st, .slice nA ns.length nc] 42)).heap.size := by simp
  clear m4 m5 m6 ho
  go_enter Try.func20, Try.ntmps20
  go_wp2_with fail
  have C1 := Lib.hid (ChgT.of_below (ts := [67, 102, 3, 90]) b1)
  have hb1 := hb.below b1
  have ht1 := ht.below b1
  have hn1 := hn.below b1
  have bb1 := b1.mono hbase
  generalize w.alloc (.cells #[.slice bA bs.length bc, .slice tA ts.length tc, .int .i64 x, .int .i64 y, .int .i64 z, .int .i64 st, .slice nA ns.length nc] 42) = w1 at *
  refine (markBlockS_c hb1 (by omega) hk0 (by omega) (by omega) M4.out).mono ?_
  rintro e w2 ⟨rfl, ob, tb, b2⟩
  have ht2 := ht1.typed tb (by decide) (by decide)
  have hn2 := hn1.typed tb (by decide)
  have K2 : Blk w2 w.heap.size 42 #[.slice bA bs.length bc, .slice tA ts.length tc, .int .i64 x, .int .i64 y, .int .i64 z, .int .i64 st, .slice nA ns.length nc] := (tb.block w.heap.size s1 (fun cur e fz he hm => by
    rw [show w1.heap[w.heap.size]? = _ from K1] at he
    injection he with he
    injection he with _ he
    subst he
    revert hm; decide)).trans K1
  have f1 := K2.cell 1
  have f6 := K2.cell 6
  simp at f1 f6
  have B2 := Lib.hid (bb1.trans b2)
  have C2 := Lib.hid (C1.out.trans (tb.wide (ts' := [67, 102, 3, 90]) (by simp)))
  have s2 : w.heap.size < w2.heap.size := by have := b2.size; omega
  have OB := Lib.hid ob
  have KD1 := Lib.hid (show kB k0 bs bs.length = kD1 k0 ⟨bs, ts, x, y, z, st, ns⟩ from rfl)
  rw [KD1.out]
  clear K1 hb hb1 ht ht1 hn hn1 bb1 b1 b2 tb ob s1
  go_wp2_with fail
  refine (markTable_c ht2 (by omega) R1.1 (by omega) m2 M5.out).mono ?_
  rintro e w3 ⟨rfl, ot, tt, b3⟩
  have OB3 := Lib.hid (OB.out.typed tt (by decide) (by decide))
  have hn3 := hn2.typed tt (by decide)
  have K3 : Blk w3 w.heap.size 42 #[.slice bA bs.length bc, .slice tA ts.length tc, .int .i64 x, .int .i64 y, .int .i64 z, .int .i64 st, .slice nA ns.length nc] := (tt.block w.heap.size s2 (fun cur e fz he hm => by
    rw [show w2.heap[w.heap.size]? = _ from K2] at he
    injection he with he
    injection he with _ he
    subst he
    revert hm; decide)).trans K2
  have g6 := K3.cell 6
  simp at g6
  have B3 := Lib.hid (B2.out.trans b3)
  have C3 := Lib.hid (C2.out.trans (tt.wide (ts' := [67, 102, 3, 90]) (by simp)))
  have s3 : w.heap.size < w3.heap.size := by have := b3.size; omega
  have OT := Lib.hid ot
  have KD2 := Lib.hid (show kT (kD1 k0 ⟨bs, ts, x, y, z, st, ns⟩) ts ts.length = kD2 k0 ⟨bs, ts, x, y, z, st, ns⟩ from rfl)
  rw [KD2.out]
  clear K2 OB ht2 hn2 b3 tt ot s2 f1 f6
  go_wp2_with fail
  refine (markNameS_c hn3 (by omega) R2.1 (by omega) m3).mono ?_
  rintro e w4 ⟨rfl, on, tn, b4⟩
  have FB := Lib.hid (OB3.out.typed tn (by decide) (by decide))
  have FT := Lib.hid (OT.out.typed tn (by decide) (by decide))
  have FN := Lib.hid on
  have B4 := Lib.hid (B3.out.trans b4)
  have C4 := Lib.hid (C3.out.trans (tn.wide (ts' := [67, 102, 3, 90]) (by simp)))
  clear K3 OB3 hn3 b4 tn on OT g6
  go_wp2
  go_ret
  exact ⟨rfl, ⟨FB.out, FT.out, FN.out⟩, B4.out, C4.out⟩
theorem heldDisk_c {h : DH} {d : DiskV} {B : Nat} {w : World} {k0 : Int} (hr : RdD w B h (marksD k0 d)) (hB : B ≤ w.heap.size) (hs : SmallDV d) (hk0 : 0 ≤ k0) (hk1 : k0 ≤ 1000000) :
    Calls Try.prog 21 #[.agg #[.slice h.bA h.bn h.bc, .slice h.tA h.tn h.tc, .int .i64 d.hot, .int .i64 d.warm, .int .i64 d.cold, .int .i64 d.stamp, .slice h.nA h.nn h.nc], .int .i64 k0] w fun e w' => e = .returned (.int .i64 (kD k0 d)) ∧ Below w.heap.size w w' := by
  have R1 := kD1_range hk0 hk1 hs
  have R2 := kD2_range hk0 hk1 hs
  obtain ⟨bs, ts, x, y, z, st, ns⟩ := d
  obtain ⟨bA, bn, bc, tA, tn, tc, nA, nn, nc⟩ := h
  obtain ⟨m1, m2, m3, m4, m5, m6⟩ := hs
  simp only at m1 m2 m3 m4 m5 m6
  simp only
  have hr0 := hr.mono hB
  obtain rfl : bs.length = bn := by have := hr0.b.len; simp only [marksD, marksB_len] at this; exact this
  obtain rfl : ts.length = tn := by have := hr0.t.len; simp only [marksD, marksT_len] at this; exact this
  obtain rfl : ns.length = nn := by have := hr0.n.len; simp only [marksD, marksN_len] at this; exact this
  have M4 := Lib.hid m4
  have M5 := Lib.hid m5
  have K1 := Blk.new w 42 #[.slice bA bs.length bc, .slice tA ts.length tc, .int .i64 x, .int .i64 y, .int .i64 z, .int .i64 st, .slice nA ns.length nc]
  have b1 : Below w.heap.size w (w.alloc (.cells #[.slice bA bs.length bc, .slice tA ts.length tc, .int .i64 x, .int .i64 y, .int .i64 z, .int .i64 st, .slice nA ns.length nc] 42)) := (Below.refl _ _).alloc (Nat.le_refl _) _
  have s1 : w.heap.size < (w.alloc (.cells #[.slice bA bs.length bc, .slice tA ts.length tc, .int .i64 x, .int .i64 y, .int .i64 z, .int .i64 st, .slice nA ns.length nc] 42)).heap.size := by simp
  have hr1 := hr0.below b1
  clear m4 m5 m6 hr hr0
  go_enter Try.func21, Try.ntmps21
  go_wp2_with fail
  generalize w.alloc (.cells #[.slice bA bs.length bc, .slice tA ts.length tc, .int .i64 x, .int .i64 y, .int .i64 z, .int .i64 st, .slice nA ns.length nc] 42) = w1 at *
  have hrb := hr1.b
  have hrt := hr1.t
  have hrn := hr1.n
  simp only [marksD] at hrb hrt hrn
  refine (heldBlockS_c hrb hk0 (by omega) (by omega) M4.out).mono ?_
  rintro e w2 ⟨rfl, rfl⟩
  have f1 := K1.cell 1
  have f6 := K1.cell 6
  simp at f1 f6
  have KD1 := Lib.hid (show kB k0 bs bs.length = kD1 k0 ⟨bs, ts, x, y, z, st, ns⟩ from rfl)
  rw [KD1.out]
  have q1 := R1.1
  clear hrb hr1
  go_wp2_with fail
  refine (heldTable_c hrt b1.size R1.1 (by omega) m2 M5.out).mono ?_
  rintro e w3 ⟨rfl, b3⟩
  have K3 := K1.below b3 s1
  have g6 := K3.cell 6
  simp at g6
  have B3 := Lib.hid (b1.trans (b3.mono b1.size))
  have hrn3 := hrn.below (b3.mono b1.size)
  have KD2 := Lib.hid (show kT (kD1 k0 ⟨bs, ts, x, y, z, st, ns⟩) ts ts.length = kD2 k0 ⟨bs, ts, x, y, z, st, ns⟩ from rfl)
  rw [KD2.out]
  have q2 := R2.1
  have hs3 := B3.out.size
  clear K1 hrn hrt b3 b1 f1 f6
  go_wp2_with fail
  refine (heldNameS_c hrn3 hs3 R2.1 (by omega) m3).mono ?_
  rintro e w4 ⟨rfl, b4⟩
  have q3 : 0 ≤ kD2 k0 ⟨bs, ts, x, y, z, st, ns⟩ + 2 * (ns.length : Int) := by omega
  have B4 := Lib.hid (B3.out.trans (b4.mono hs3))
  clear K3 hrn3 b4 g6
  go_wp2
  go_ret
  exact ⟨rfl, B4.out⟩
end Go.Proofs.Ytjnpgdhpneifjaa
