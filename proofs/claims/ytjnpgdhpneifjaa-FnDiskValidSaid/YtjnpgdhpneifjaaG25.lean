/- Parts of the proof, one after the other; each says what it proves. -/
import Derived.Test.YtjnpgdhpneifjaaG24
import Derived.Test.YtjnpgdhpneifjaaG17
import Derived.Test.YtjnpgdhpneifjaaG1
/- DiskLine by the reference, at a disk that is not valid. -/
namespace Go.Proofs.Ytjnpgdhpneifjaa
open Go.ChangeShapes Go.WideShapes Go.ChangeAt Go.RowKit Go.Deep
set_option linter.unusedVariables false
set_option linter.unusedSimpArgs false

set_option maxRecDepth 8000 in
set_option maxHeartbeats 2000000 in
theorem diskLine_no {h : DH} {d : DiskV} {s : ByteArray} {B : Nat} {w : World} (hr : RdD w B h d) (hB : B ≤ w.heap.size) (hs : SmallDV d) (hno : ¬ DiskOk d) :
    Calls Try.prog 105 #[dkv h d, .string s] w (OwnL w (lineF d s)) := by
  have hsh := hs.h hr
  have HR := Lib.hid (hr.mono hB)
  have HNO := Lib.hid (bof_f.2 hno)
  have HL := Lib.hid (lineF_no (s := s) hno)
  have S1 := Lib.hid hsh.b
  have S2 := Lib.hid hsh.t
  have S3 := Lib.hid hsh.n
  have S4 := Lib.hid (show ∀ i, i < h.nn → (nTxt d.ns i).size ≤ 9223372036854775807 from fun i hi => by have := hsh.ns i hi; simp only [nTxt]; omega)
  clear hr hno hs hsh
  obtain ⟨bA, bn, bc, tA, tn, tc, nA, nn, nc⟩ := h
  obtain ⟨bs, ts, hot, warm, cold, stamp, ns⟩ := d
  have b2 : Below w.heap.size w ((w.alloc (.cells #[.slice bA bn bc, .slice tA tn tc, .int .i64 hot, .int .i64 warm, .int .i64 cold, .int .i64 stamp, .slice nA nn nc] 42)).alloc (.cells #[.slice none 0 0, .slice none 0 0, .int .i64 0, .int .i64 0, .int .i64 0, .int .i64 0, .slice none 0 0] 42)) := ((Below.refl _ _).alloc (Nat.le_refl _) _).alloc (by simp) _
  have K2 := (Blk.new w 42 #[.slice bA bn bc, .slice tA tn tc, .int .i64 hot, .int .i64 warm, .int .i64 cold, .int .i64 stamp, .slice nA nn nc]).alloc (.cells #[.slice none 0 0, .slice none 0 0, .int .i64 0, .int .i64 0, .int .i64 0, .int .i64 0, .slice none 0 0] 42)
  have R2 := Blk.new (w.alloc (.cells #[.slice bA bn bc, .slice tA tn tc, .int .i64 hot, .int .i64 warm, .int .i64 cold, .int .i64 stamp, .slice nA nn nc] 42)) 42 #[.slice none 0 0, .slice none 0 0, .int .i64 0, .int .i64 0, .int .i64 0, .int .i64 0, .slice none 0 0]
  rw [show (w.alloc (.cells #[.slice bA bn bc, .slice tA tn tc, .int .i64 hot, .int .i64 warm, .int .i64 cold, .int .i64 stamp, .slice nA nn nc] 42)).heap.size = w.heap.size + 1 by simp] at R2
  go_enter Try.func105, Try.ntmps105
  go_upto_region 1 with (fail)
  generalize (w.alloc (.cells #[.slice bA bn bc, .slice tA tn tc, .int .i64 hot, .int .i64 warm, .int .i64 cold, .int .i64 stamp, .slice nA nn nc] 42)).alloc (.cells #[.slice none 0 0, .slice none 0 0, .int .i64 0, .int .i64 0, .int .i64 0, .int .i64 0, .slice none 0 0] 42) = w2 at *
  obtain ⟨t0, t1, t2, t3, t4, t5, t6⟩ := K2.all7
  go_wp2_with fail
  refine (diskValid_spec (HR.out.below b2) b2.size S1.out S2.out S3.out S4.out).mono ?_
  rw [HNO.out]
  rintro e w3 ⟨rfl, b3⟩
  have R3 := R2.below b3 R2.lt
  have B3 := Lib.hid (b2.trans (b3.mono b2.size))
  clear K2 R2 b2 b3 t0 t1 t2 t3 t4 t5 t6 HR
  have OZ : OwD w3 w.heap.size ⟨none, 0, 0, none, 0, 0, none, 0, 0⟩ zeroDisk := ⟨OwB.nil _ _, OwT.nil _ _, OwN.nil _ _⟩
  have HO := Lib.hid (ownL_of HL.out OZ (Below.refl _ _) R3 B3.out)
  have KP := Lib.hid (blk_putDisk R3 ⟨none, 0, 0, none, 0, 0, none, 0, 0⟩ zeroDisk).1
  obtain ⟨y0, y1, y2, y3, y4, y5, y6⟩ := R3.all7
  obtain ⟨z0, z1, z2, z3, z4, z5, z6⟩ := R3.free7
  clear R3 OZ
  have KQ := Lib.hid (KP.out : Blk (putDisk w3 (w.heap.size + 1) ⟨none, 0, 0, none, 0, 0, none, 0, 0⟩ zeroDisk) (w.heap.size + 1) 42 #[.slice none 0 0, .slice none 0 0, .int .i64 0, .int .i64 0, .int .i64 0, .int .i64 0, .slice none 0 0])
  clear KP
  dsimp only [putDisk, zeroDisk] at KQ HO
  go_wp2_with fail
  generalize ((((((w3.setCell ⟨w.heap.size + 1, 0, none⟩ (.slice none 0 0)).setCell ⟨w.heap.size + 1, 1, none⟩ (.slice none 0 0)).setCell ⟨w.heap.size + 1, 2, none⟩ (.int .i64 0)).setCell ⟨w.heap.size + 1, 3, none⟩ (.int .i64 0)).setCell ⟨w.heap.size + 1, 4, none⟩ (.int .i64 0)).setCell ⟨w.heap.size + 1, 5, none⟩ (.int .i64 0)).setCell ⟨w.heap.size + 1, 6, none⟩ (.slice none 0 0) = wz at *
  obtain ⟨e0, e1, e2, e3, e4, e5, e6⟩ := KQ.out.all7
  refine bodyPost_ret (by simp [results, Try.results105, go_sem, e0, e1, e2, e3, e4, e5, e6]; try rfl) rfl ?_
  exact HO.out
end Go.Proofs.Ytjnpgdhpneifjaa

/- DiskLine by the reference, at a valid disk, the command drop. -/
namespace Go.Proofs.Ytjnpgdhpneifjaa
open Go.ChangeShapes Go.WideShapes Go.ChangeAt Go.RowKit Go.Deep
set_option linter.unusedVariables false
set_option linter.unusedSimpArgs false

set_option maxRecDepth 8000 in
set_option maxHeartbeats 8000000 in
theorem diskLine_drop {h : DH} {d : DiskV} {s : ByteArray} {B : Nat} {w : World} (hr : RdD w B h d) (hB : B ≤ w.heap.size) (hcap : CapN h) (hok : DiskOk d) (hs : s.size ≤ 1048576) (h1 : wd s 0 = sDrop) (h2 : (wordsL s).length = 2) (h3 : 0 ≤ findN d.ns (wd s 1)) :
    Calls Try.prog 105 #[dkv h d, .string s] w (OwnL w (lineF d s)) := by
  have H1 := Lib.hid h1
  have H2 := Lib.hid h2
  have H3 := Lib.hid h3
  clear h1 h2 h3
  have hsh := (small_ok hok).h hr
  have HR := Lib.hid (hr.mono hB)
  have HOK := Lib.hid (bof_t.2 hok)
  have HL := Lib.hid (lineF_yes (s := s) hok)
  have HHD := Lib.hid hok.1
  have HTB := Lib.hid hok.2.1
  have HFIT := Lib.hid hok.2.2.1
  have HSTA := Lib.hid (show 0 ≤ d.stamp ∧ d.stamp ≤ 1000 from ⟨Int.le_trans (lastAt_range hok.1.1 (Nat.le_refl _)).1 hok.2.2.2.1.1, hok.2.2.2.1.2⟩)
  have HNM := Lib.hid hok.2.2.2.2.1
  have HDO := Lib.hid hok
  have HCAP := Lib.hid hcap
  have S1 := Lib.hid hsh.b
  have S2 := Lib.hid hsh.t
  have S3 := Lib.hid hsh.n
  have S4 := Lib.hid (show ∀ i, i < h.nn → (nTxt d.ns i).size ≤ 9223372036854775807 from fun i hi => by have := hsh.ns i hi; simp only [nTxt]; omega)
  have HN9 := Lib.hid (names_nine hok.2.2.2.2.1)
  clear hr hok hsh hcap
  obtain ⟨bA, bn, bc, tA, tn, tc, nA, nn, nc⟩ := h
  obtain ⟨bs, ts, hot, warm, cold, stamp, ns⟩ := d
  have b2 : Below w.heap.size w ((w.alloc (.cells #[.slice bA bn bc, .slice tA tn tc, .int .i64 hot, .int .i64 warm, .int .i64 cold, .int .i64 stamp, .slice nA nn nc] 42)).alloc (.cells #[.slice none 0 0, .slice none 0 0, .int .i64 0, .int .i64 0, .int .i64 0, .int .i64 0, .slice none 0 0] 42)) := ((Below.refl _ _).alloc (Nat.le_refl _) _).alloc (by simp) _
  have K2 := (Blk.new w 42 #[.slice bA bn bc, .slice tA tn tc, .int .i64 hot, .int .i64 warm, .int .i64 cold, .int .i64 stamp, .slice nA nn nc]).alloc (.cells #[.slice none 0 0, .slice none 0 0, .int .i64 0, .int .i64 0, .int .i64 0, .int .i64 0, .slice none 0 0] 42)
  have R2 := Blk.new (w.alloc (.cells #[.slice bA bn bc, .slice tA tn tc, .int .i64 hot, .int .i64 warm, .int .i64 cold, .int .i64 stamp, .slice nA nn nc] 42)) 42 #[.slice none 0 0, .slice none 0 0, .int .i64 0, .int .i64 0, .int .i64 0, .int .i64 0, .slice none 0 0]
  rw [show (w.alloc (.cells #[.slice bA bn bc, .slice tA tn tc, .int .i64 hot, .int .i64 warm, .int .i64 cold, .int .i64 stamp, .slice nA nn nc] 42)).heap.size = w.heap.size + 1 by simp] at R2
  go_enter Try.func105, Try.ntmps105
  go_upto_region 1 with (fail)
  generalize (w.alloc (.cells #[.slice bA bn bc, .slice tA tn tc, .int .i64 hot, .int .i64 warm, .int .i64 cold, .int .i64 stamp, .slice nA nn nc] 42)).alloc (.cells #[.slice none 0 0, .slice none 0 0, .int .i64 0, .int .i64 0, .int .i64 0, .int .i64 0, .slice none 0 0] 42) = w2 at *
  obtain ⟨t0, t1, t2, t3, t4, t5, t6⟩ := K2.all7
  go_wp2_with fail
  refine (diskValid_spec (HR.out.below b2) b2.size S1.out S2.out S3.out S4.out).mono ?_
  rw [HOK.out]
  rintro e w3 ⟨rfl, b3⟩
  have R3 := R2.below b3 R2.lt
  have K3 := K2.below b3 K2.lt
  have B3 := b2.trans (b3.mono b2.size)
  clear K2 R2 b2 b3 t0 t1 t2 t3 t4 t5 t6
  have HB3 := Lib.hid B3
  clear B3
  go_upto_region 3 with (fail)
  obtain ⟨t0, t1, t2, t3, t4, t5, t6⟩ := K3.all7
  go_wp2_with fail
  refine (l34Copy_c (h := ⟨bA, bn, bc, tA, tn, tc, nA, nn, nc⟩) (d := ⟨bs, ts, hot, warm, cold, stamp, ns⟩) (HR.out.below HB3.out) HB3.out.size HHD.out.1 HTB.out S3.out HCAP.out.nil).mono ?_
  rintro e w4 ⟨h4, rfl, o4, b4⟩
  have R4 := R3.below b4 R3.lt
  have K4 := K3.below b4 K3.lt
  have HB4 := Lib.hid (HB3.out.trans (b4.mono HB3.out.size))
  have O4 := Lib.hid (o4.lower (base' := w.heap.size) HB3.out.size)
  clear K3 R3 HB3 b4 t0 t1 t2 t3 t4 t5 t6 o4
  go_upto_region 4 with (fail)
  have b5 : Below w4.heap.size w4 (w4.alloc (.cells #[.slice h4.bA h4.bn h4.bc, .slice h4.tA h4.tn h4.tc, .int .i64 hot, .int .i64 warm, .int .i64 cold, .int .i64 stamp, .slice h4.nA h4.nn h4.nc] 42)) := (Below.refl _ _).alloc (Nat.le_refl _) _
  have HS5 := Lib.hid (Blk.new w4 42 #[.slice h4.bA h4.bn h4.bc, .slice h4.tA h4.tn h4.tc, .int .i64 hot, .int .i64 warm, .int .i64 cold, .int .i64 stamp, .slice h4.nA h4.nn h4.nc])
  have R5 := R4.below b5 R4.lt
  have K5 := K4.below b5 K4.lt
  have HB5 := Lib.hid (HB4.out.trans (b5.mono HB4.out.size))
  have O5 := Lib.hid (O4.out.below b5)
  have L5 : w.heap.size + 1 < w4.heap.size := R4.lt
  clear b5 K4 R4 HB4 O4
  generalize w4.alloc (.cells #[.slice h4.bA h4.bn h4.bc, .slice h4.tA h4.tn h4.tc, .int .i64 hot, .int .i64 warm, .int .i64 cold, .int .i64 stamp, .slice h4.nA h4.nn h4.nc] 42) = w5 at *
  generalize w4.heap.size = gs at *
  obtain ⟨t0, t1, t2, t3, t4, t5, t6⟩ := K5.all7
  have HK5 := Lib.hid K5
  have HR5 := Lib.hid R5
  clear K5 R5
  go_wp2_with fail
  refine (l34Copy_c (h := ⟨bA, bn, bc, tA, tn, tc, nA, nn, nc⟩) (d := ⟨bs, ts, hot, warm, cold, stamp, ns⟩) (HR.out.below HB5.out) HB5.out.size HHD.out.1 HTB.out S3.out HCAP.out.nil).mono ?_
  rintro e w6 ⟨⟨oA, on, oc, pA, pn, pc, qA, qn, qc⟩, rfl, O6, b6⟩
  clear t0 t1 t2 t3 t4 t5 t6
  go_upto_region 5 with (fail)
  have b7 : Below w6.heap.size w6 (w6.alloc (.cells #[.slice oA on oc, .slice pA pn pc, .int .i64 hot, .int .i64 warm, .int .i64 cold, .int .i64 stamp, .slice qA qn qc] 42)) := (Below.refl _ _).alloc (Nat.le_refl _) _
  have G7 := Blk.new w6 42 #[.slice oA on oc, .slice pA pn pc, .int .i64 hot, .int .i64 warm, .int .i64 cold, .int .i64 stamp, .slice qA qn qc]
  have HB7 := Lib.hid (b6.trans (b7.mono b6.size))
  have O7 := O6.below b7
  have L7 : w5.heap.size ≤ w6.heap.size := b6.size
  clear b6 b7 O6
  generalize w6.alloc (.cells #[.slice oA on oc, .slice pA pn pc, .int .i64 hot, .int .i64 warm, .int .i64 cold, .int .i64 stamp, .slice qA qn qc] 42) = w7 at *
  generalize w6.heap.size = go at *
  go_wp2_with fail
  refine (l34Words_c s w7 hs).mono ?_
  rintro e w8 ⟨g8, c8, rfl, o8, b8⟩
  have HW8 := wordsTo_len s s.size
  change 1 ≤ (wordsL s).length ∧ (wordsL s).length ≤ s.size + 1 at HW8
  have G8 := G7.below b8 G7.lt
  have O8 := O7.below b8
  have HB8 := Lib.hid (HB7.out.trans (b8.mono HB7.out.size))
  have HB78 := Lib.hid (show Below w5.heap.size w5 w7 from HB7.out)
  have L8 : go < w7.heap.size := G7.lt
  clear G7 O7 HB7
  generalize hws : (wordsL s).length = m at *
  go_wp2_with (at_builtin; refine wpList_appSt3 rfl rfl rfl o8 rfl (by omega) b8.size ?_; rintro g9 c9 w9 o9 gr9)
  have G9 := G8.grown gr9 (fun h => by injection h with h; have := (own_lt o8 (k := go) (by rw [h]; rfl)).1; omega)
  have C9 : ChgT [9] w8 w9 := ChgT.grown o8 (by simp) gr9
  have O9 := O8.typed C9 (by decide) (by decide) (by decide) (by decide) (by decide)
  have HB9 := Lib.hid (below_app HB8.out (own_lower o8 HB78.out.size) HB8.out.size gr9)
  have HW9 := Lib.hid (words_cells o9 hws)
  have gl9 : g9 < w9.heap.size := (own_lt o9 (k := g9) rfl).2
  have HG9 := Lib.hid G9
  have HO9 := Lib.hid O9
  clear G8 O8 HB8 L8 o8 b8 gr9 C9 G9 O9 HB78 o9
  go_upto_region 7 with (fail)
  have l5w := HK5.out.lt
  have HK9 := Lib.hid (HK5.out.below HB9.out l5w)
  have c10 := HK9.out.cell 6
  simp at c10
  have c11 := HW9.out 1 (by omega)
  have q0 : (0 : Int) < (m : Int) + 3 := by omega
  have q1 : (1 : Int) < (m : Int) + 3 := by omega
  have q2 : (2 : Int) < (m : Int) + 3 := by omega
  have q3 : (3 : Int) < (m : Int) + 3 := by omega
  refine wp_region_held_drew (S := fun w' => w'.cell? ⟨w.heap.size, 6, none⟩ = some (.slice nA nn nc) ∧ w'.cell? ⟨g9, 1, none⟩ = some (.string (wd s 1))) (by kernel_rfl) ?_ (fun hHeld => ?_)
  · exact ⟨c10, c11⟩
  refine tk 0 ?_
  refine tk 1 ?_
  refine tk 2 ?_
  refine tk 3 ?_
  refine tk 4 ?_
  refine rd1 5 (fun K hK => ?_)
  go_simp
  refine (findName_spec (HR.out.below (HB5.out.trans (HB9.out.mono HB5.out.size))).drew.n (Nat.le_trans HB5.out.size HB9.out.size) S3.out S4.out HNM.out).mono ?_; rintro e w10 ⟨rfl, b10⟩; have b10 : Below w9.heap.size w9 w10 := ((Below.refl _ _).drew).trans b10
  go_wp2_with fail
  refine hK.out _ _ ?_ (fun hHeld => ?_)
  · exact ⟨(b10.cell (p := ⟨w.heap.size, 6, none⟩) HK9.out.lt).trans c10, (b10.cell (p := ⟨g9, 1, none⟩) gl9).trans c11⟩
  clear hK K
  refine pt ?_
  refine tk 6 ?_
  refine wpAnyH_done (by kernel_rfl) ?_ _
  clear hHeld c10 c11
  have c12 := (b10.cell (p := ⟨g9, 2, none⟩) gl9).trans (HW9.out 2 (by omega))
  have HB10 := Lib.hid b10
  clear b10
  have hwd2 : (wd s 2).size ≤ 9223372036854775807 := by have := wd_size s 2; omega
  have m1 : ((wd s 0).toList == [109, 97, 107, 101]) = false := toList_ne sMake_l (by rw [H1.out]; decide)
  have m2 : ((wd s 0).toList == [119, 114, 105, 116, 101]) = false := toList_ne sWrite_l (by rw [H1.out]; decide)
  have m3 : ((wd s 0).toList == [114, 101, 97, 100]) = false := toList_ne sRead_l (by rw [H1.out]; decide)
  have m4 : ((wd s 0).toList == [100, 114, 111, 112]) = true := by rw [H1.out, sDrop_l]; rfl
  have mc : ((m : Int) == 2) = true := by rw [H2.out]; rfl
  have mf : 0 ≤ findN ns (wd s 1) := H3.out
  go_upto_region 11 with (go_at_call 132; refine (l34Number_c _ _ hwd2).mono ?_; rintro e w11 ⟨rfl, b11⟩; have HB11 := Lib.hid (HB10.out.trans (b11.mono HB10.out.size)); clear HB10 b11 c12 hwd2; have y0 := (HB11.out.cell (p := ⟨g9, 0, none⟩) gl9).trans (HW9.out 0 (by omega)))
  obtain rfl : ns.length = nn := HR.out.n.len
  have hn9 : ns.length ≤ 9 := HN9.out
  have HBB := Lib.hid (HB9.out.trans (HB11.out.mono HB9.out.size))
  have HBW := Lib.hid (HB5.out.trans (HBB.out.mono HB5.out.size))
  have HRr := Lib.hid (HR.out.below HBW.out)
  have HKk := Lib.hid (HK5.out.below HBB.out HK5.out.lt)
  have HGg := Lib.hid (HG9.out.below HB11.out HG9.out.lt)
  have HOo := Lib.hid (HO9.out.below HB11.out)
  have HWw := Lib.hid (show ∀ i, i < m + 3 → w11.cell? ⟨g9, i, none⟩ = some (.string (wd s i)) from fun i hi => (HB11.out.cell (p := ⟨g9, i, none⟩) gl9).trans (HW9.out i hi))
  have gl : g9 < w11.heap.size := Nat.lt_of_lt_of_le gl9 HB11.out.size
  have gl5 : w5.heap.size ≤ w11.heap.size := HBB.out.size
  have glw : w.heap.size ≤ w11.heap.size := HBW.out.size
  clear HB9 HB11 HK9 HG9 HO9 HW9 gl9 l5w
  go_upto_region 40 with (fail)
  have p6 := HKk.out.cell 6
  simp at p6
  have c21 := HWw.out 1 (by omega)
  refine wp_region_held_drew (S := fun w' => w'.cell? ⟨w.heap.size, 6, none⟩ = some (.slice nA ns.length nc) ∧ w'.cell? ⟨g9, 1, none⟩ = some (.string (wd s 1))) (by kernel_rfl) ?_ (fun hHeld => ?_)
  · exact ⟨p6, c21⟩
  refine tk 0 ?_
  refine tk 1 ?_
  refine tk 2 ?_
  refine tk 3 ?_
  refine tk 4 ?_
  refine rd1 5 (fun K hK => ?_)
  go_simp
  refine (dropName_spec HRr.out.drew.n glw S3.out S4.out HNM.out).mono ?_; rintro e w12 ⟨A12, c12, rfl, o12, b12⟩; have b12 : Below w11.heap.size w11 w12 := ((Below.refl _ _).drew).trans b12; have HO12 := Lib.hid (show OwN w12 w5.heap.size _ _ _ _ from o12.lower gl5); clear o12
  go_wp2_with fail
  refine hK.out _ _ ?_ (fun hHeld => ?_)
  · exact ⟨(b12.cell (p := ⟨w.heap.size, 6, none⟩) HKk.out.lt).trans p6, (b12.cell (p := ⟨g9, 1, none⟩) gl).trans c21⟩
  clear hK K
  refine pt ?_
  refine tk 6 ?_
  refine tk 7 ?_
  refine tk 8 ?_
  refine tk 9 ?_
  refine tk 10 ?_
  refine wpAnyH_done (by kernel_rfl) ?_ _
  clear hHeld p6 c21
  have HG12 := Lib.hid (HGg.out.below b12 HGg.out.lt)
  have HB12 := Lib.hid (HBB.out.trans (b12.mono gl5))
  have HO12' := Lib.hid (HOo.out.below b12)
  have HR12 := Lib.hid (HRr.out.below (b12.mono glw))
  have HK12 := Lib.hid (HKk.out.below b12 HKk.out.lt)
  have sw12 : w.heap.size ≤ w12.heap.size := Nat.le_trans glw b12.size
  clear b12
  have i6 := HG12.out.cell 6
  simp at i6
  have f6 := HG12.out.frozen 6
  go_upto_region 42 with (fail)
  have Gt := (HG12.out.set_ 6 (.slice A12 (dropN ns (wd s 1)).length c12))
  simp at Gt
  have HB13 := Lib.hid ((HB12.out.setCell (p := ⟨go, 6, none⟩) L7 (.slice A12 (dropN ns (wd s 1)).length c12)))
  have HG13 := Lib.hid Gt
  have HO13 := Lib.hid ((HO12'.out.typed (ChgT.blk HG12.out 6 (.slice A12 (dropN ns (wd s 1)).length c12)) (by decide) (by decide) (by decide) (by decide) (by decide)))
  have HN13 := Lib.hid ((HO12.out.typed (ChgT.blk HG12.out 6 (.slice A12 (dropN ns (wd s 1)).length c12)) (by decide)))
  clear Gt
  generalize w12.setCell ⟨go, 6, none⟩ (.slice A12 (dropN ns (wd s 1)).length c12) = w13 at *
  clear i6 f6
  have hfr := findN_range HNM.out (wd s 1)
  obtain ⟨fN, hfN⟩ : ∃ n : Nat, findN ns (wd s 1) = n := ⟨(findN ns (wd s 1)).toNat, by omega⟩
  have HLX := Lib.hid (show lineF ⟨bs, ts, hot, warm, cold, stamp, ns⟩ s = lineO ⟨bs, ts, hot, warm, cold, stamp, ns⟩ (some ⟨⟨bs, cutT ts fN, hot, warm, cold, stamp, dropN ns (wd s 1)⟩, sOk⟩) from by rw [HL.out, cmdC_drop H1.out (hws.trans H2.out), dropC_yes hfN])
  have hf8 : fN < 8 := by omega
  have HSM := Lib.hid (show SmallDV ⟨bs, cutT ts fN, hot, warm, cold, stamp, dropN ns (wd s 1)⟩ from small_shape HHD.out.1 (cutT_shape HTB.out) (by have := (dropN_txt (t := wd s 1) HNM.out).1; omega) (fun i hi => by have := (dropN_txt (t := wd s 1) HNM.out).2 i hi; omega))
  have K13 := HK5.out.below HB13.out HK5.out.lt
  have p1 := K13.cell 1
  simp at p1
  clear K13
  have HR13 := Lib.hid (HR.out.below (HB5.out.trans (HB13.out.mono HB5.out.size)))
  rw [hfN]
  clear hfN hfr
  go_wp2_with fail
  refine (cutFile_spec HR13.out.t (Nat.le_trans HB5.out.size HB13.out.size) HTB.out hf8).mono ?_
  rintro e w14 ⟨tA14, tc14, rfl, o14, b14⟩
  have HG14 := Lib.hid (HG13.out.below b14 HG13.out.lt)
  have HO14 := Lib.hid (HO13.out.below b14)
  have HN14 := Lib.hid (HN13.out.below b14)
  have HB14 := Lib.hid (HB13.out.trans (b14.mono HB13.out.size))
  have HT14 := Lib.hid (o14.lower (base' := w5.heap.size) HB13.out.size)
  clear b14 o14 p1
  have i1 := HG14.out.cell 1
  simp at i1
  have f1 := HG14.out.frozen 1
  go_upto_region 53 with (fail)
  have Gt := (HG14.out.set_ 1 (.slice tA14 (cutT ts fN).length tc14))
  simp at Gt
  have HB15 := Lib.hid ((HB14.out.setCell (p := ⟨go, 1, none⟩) L7 (.slice tA14 (cutT ts fN).length tc14)))
  have HG15 := Lib.hid Gt
  have HO15 := Lib.hid ((HO14.out.typed (ChgT.blk HG14.out 1 (.slice tA14 (cutT ts fN).length tc14)) (by decide) (by decide) (by decide) (by decide) (by decide)))
  have HN15 := Lib.hid ((HN14.out.typed (ChgT.blk HG14.out 1 (.slice tA14 (cutT ts fN).length tc14)) (by decide)))
  have HT15 := Lib.hid ((HT14.out.typed (ChgT.blk HG14.out 1 (.slice tA14 (cutT ts fN).length tc14)) (by decide) (by decide)))
  clear Gt
  generalize w14.setCell ⟨go, 1, none⟩ (.slice tA14 (cutT ts fN).length tc14) = w15 at *
  clear i1 f1
  have HOD := Lib.hid (show OwD w15 w5.heap.size ⟨oA, on, oc, tA14, (cutT ts fN).length, tc14, A12, (dropN ns (wd s 1)).length, c12⟩ ⟨bs, cutT ts fN, hot, warm, cold, stamp, dropN ns (wd s 1)⟩ from ⟨HO15.out.b, HT15.out, HN15.out⟩)
  have HKO := Lib.hid (show BoxD w15 go ⟨oA, on, oc, tA14, (cutT ts fN).length, tc14, A12, (dropN ns (wd s 1)).length, c12⟩ ⟨bs, cutT ts fN, hot, warm, cold, stamp, dropN ns (wd s 1)⟩ from HG15.out)
  go_upto_region 53 with (fail)
  have sm := HSM.out.h HOD.out.rd
  obtain ⟨p0, p1, p2, p3, p4, p5, p6⟩ := HKO.out.all7
  go_wp2_with fail
  refine (diskValid_spec (h := ⟨oA, on, oc, tA14, (cutT ts fN).length, tc14, A12, (dropN ns (wd s 1)).length, c12⟩) (d := ⟨bs, cutT ts fN, hot, warm, cold, stamp, dropN ns (wd s 1)⟩) HOD.out.rd (Nat.le_refl _) sm.b sm.t sm.n (fun i hi => Nat.le_trans (Int.ofNat_le.1 (show _ ≤ ((1048576 : Nat) : Int) from sm.ns i hi)) (by decide))).mono ?_
  by_cases hdo : DiskOk ⟨bs, cutT ts fN, hot, warm, cold, stamp, dropN ns (wd s 1)⟩
  · have hbo := bof_t.2 hdo
    have HLZ := Lib.hid (HLX.out.trans (lineO_yes (show DiskOk (LineR.mk ⟨bs, cutT ts fN, hot, warm, cold, stamp, dropN ns (wd s 1)⟩ _).d from hdo)))
    clear hdo
    rw [hbo]
    rintro e w16 ⟨rfl, bf⟩
    have HBf := Lib.hid (HB15.out.trans (bf.mono HB15.out.size))
    have KF := HKO.out.below bf HKO.out.lt
    have BF := Lib.hid bf
    have ODL := HOD.out.lower HB5.out.size
    clear p0 p1 p2 p3 p4 p5 p6 bf sm
    obtain ⟨s0, s1, s2, s3, s4, s5, s6⟩ := KF.all7
    have RR := HR5.out.below HBf.out HR5.out.lt
    obtain ⟨y0, y1, y2, y3, y4, y5, y6⟩ := RR.all7
    obtain ⟨z0, z1, z2, z3, z4, z5, z6⟩ := RR.free7
    have KP := Lib.hid (blk_putDisk RR ⟨oA, on, oc, tA14, (cutT ts fN).length, tc14, A12, (dropN ns (wd s 1)).length, c12⟩ ⟨bs, cutT ts fN, hot, warm, cold, stamp, dropN ns (wd s 1)⟩).1
    have HO := Lib.hid (ownL_of HLZ.out ODL BF.out RR (HB5.out.trans (HBf.out.mono HB5.out.size)))
    clear RR
    dsimp only [putDisk, BoxD] at KP HO
    go_upto_region 55 with (fail)
    repeat (first | go_values | go_skip | go_guarded | go_step | go_upon)
    generalize ((((((w16.setCell ⟨w.heap.size + 1, 0, none⟩ (.slice oA on oc)).setCell ⟨w.heap.size + 1, 1, none⟩ (.slice tA14 (cutT ts fN).length tc14)).setCell ⟨w.heap.size + 1, 2, none⟩ (.int .i64 hot)).setCell ⟨w.heap.size + 1, 3, none⟩ (.int .i64 warm)).setCell ⟨w.heap.size + 1, 4, none⟩ (.int .i64 cold)).setCell ⟨w.heap.size + 1, 5, none⟩ (.int .i64 stamp)).setCell ⟨w.heap.size + 1, 6, none⟩ (.slice A12 (dropN ns (wd s 1)).length c12) = wz at *
    obtain ⟨e0, e1, e2, e3, e4, e5, e6⟩ := KP.out.all7
    refine bodyPost_ret (by simp [results, Try.results105, go_sem, e0, e1, e2, e3, e4, e5, e6]; try rfl) rfl ?_
    exact HO.out
  · have hbo := bof_f.2 hdo
    have HLZ := Lib.hid (HLX.out.trans (lineO_no (show ¬ DiskOk (LineR.mk ⟨bs, cutT ts fN, hot, warm, cold, stamp, dropN ns (wd s 1)⟩ _).d from hdo)))
    clear hdo
    rw [hbo]
    rintro e w16 ⟨rfl, bf⟩
    have HBf := Lib.hid (HB15.out.trans (bf.mono HB15.out.size))
    clear p0 p1 p2 p3 p4 p5 p6 bf sm
    have KS := HS5.out.below HBf.out HS5.out.lt
    obtain ⟨s0, s1, s2, s3, s4, s5, s6⟩ := KS.all7
    have RR := HR5.out.below HBf.out HR5.out.lt
    obtain ⟨y0, y1, y2, y3, y4, y5, y6⟩ := RR.all7
    obtain ⟨z0, z1, z2, z3, z4, z5, z6⟩ := RR.free7
    have KP := Lib.hid (blk_putDisk RR h4 ⟨bs, ts, hot, warm, cold, stamp, ns⟩).1
    have HO := Lib.hid (ownL_of HLZ.out O5.out HBf.out RR (HB5.out.trans (HBf.out.mono HB5.out.size)))
    clear RR
    dsimp only [putDisk, BoxD] at KP HO
    go_upto_region 54 with (fail)
    repeat (first | go_values | go_skip | go_guarded | go_step | go_upon)
    generalize ((((((w16.setCell ⟨w.heap.size + 1, 0, none⟩ (.slice h4.bA h4.bn h4.bc)).setCell ⟨w.heap.size + 1, 1, none⟩ (.slice h4.tA h4.tn h4.tc)).setCell ⟨w.heap.size + 1, 2, none⟩ (.int .i64 hot)).setCell ⟨w.heap.size + 1, 3, none⟩ (.int .i64 warm)).setCell ⟨w.heap.size + 1, 4, none⟩ (.int .i64 cold)).setCell ⟨w.heap.size + 1, 5, none⟩ (.int .i64 stamp)).setCell ⟨w.heap.size + 1, 6, none⟩ (.slice h4.nA h4.nn h4.nc) = wz at *
    obtain ⟨e0, e1, e2, e3, e4, e5, e6⟩ := KP.out.all7
    refine bodyPost_ret (by simp [results, Try.results105, go_sem, e0, e1, e2, e3, e4, e5, e6]; try rfl) rfl ?_
    exact HO.out
end Go.Proofs.Ytjnpgdhpneifjaa

/- DiskLine by the reference, at a valid disk, the command make. -/
namespace Go.Proofs.Ytjnpgdhpneifjaa
open Go.ChangeShapes Go.WideShapes Go.ChangeAt Go.RowKit Go.Deep
set_option linter.unusedVariables false
set_option linter.unusedSimpArgs false

set_option maxRecDepth 8000 in
set_option maxHeartbeats 8000000 in
theorem diskLine_make {h : DH} {d : DiskV} {s : ByteArray} {B : Nat} {w : World} (hr : RdD w B h d) (hB : B ≤ w.heap.size) (hcap : CapN h) (hok : DiskOk d) (hs : s.size ≤ 1048576) (h1 : wd s 0 = sMake) (h2 : (wordsL s).length = 2) :
    Calls Try.prog 105 #[dkv h d, .string s] w (OwnL w (lineF d s)) := by
  have H1 := Lib.hid h1
  have H2 := Lib.hid h2
  clear h1 h2
  have hsh := (small_ok hok).h hr
  have HR := Lib.hid (hr.mono hB)
  have HOK := Lib.hid (bof_t.2 hok)
  have HL := Lib.hid (lineF_yes (s := s) hok)
  have HHD := Lib.hid hok.1
  have HTB := Lib.hid hok.2.1
  have HFIT := Lib.hid hok.2.2.1
  have HSTA := Lib.hid (show 0 ≤ d.stamp ∧ d.stamp ≤ 1000 from ⟨Int.le_trans (lastAt_range hok.1.1 (Nat.le_refl _)).1 hok.2.2.2.1.1, hok.2.2.2.1.2⟩)
  have HNM := Lib.hid hok.2.2.2.2.1
  have HDO := Lib.hid hok
  have HCAP := Lib.hid hcap
  have S1 := Lib.hid hsh.b
  have S2 := Lib.hid hsh.t
  have S3 := Lib.hid hsh.n
  have S4 := Lib.hid (show ∀ i, i < h.nn → (nTxt d.ns i).size ≤ 9223372036854775807 from fun i hi => by have := hsh.ns i hi; simp only [nTxt]; omega)
  have HN9 := Lib.hid (names_nine hok.2.2.2.2.1)
  clear hr hok hsh hcap
  obtain ⟨bA, bn, bc, tA, tn, tc, nA, nn, nc⟩ := h
  obtain ⟨bs, ts, hot, warm, cold, stamp, ns⟩ := d
  have b2 : Below w.heap.size w ((w.alloc (.cells #[.slice bA bn bc, .slice tA tn tc, .int .i64 hot, .int .i64 warm, .int .i64 cold, .int .i64 stamp, .slice nA nn nc] 42)).alloc (.cells #[.slice none 0 0, .slice none 0 0, .int .i64 0, .int .i64 0, .int .i64 0, .int .i64 0, .slice none 0 0] 42)) := ((Below.refl _ _).alloc (Nat.le_refl _) _).alloc (by simp) _
  have K2 := (Blk.new w 42 #[.slice bA bn bc, .slice tA tn tc, .int .i64 hot, .int .i64 warm, .int .i64 cold, .int .i64 stamp, .slice nA nn nc]).alloc (.cells #[.slice none 0 0, .slice none 0 0, .int .i64 0, .int .i64 0, .int .i64 0, .int .i64 0, .slice none 0 0] 42)
  have R2 := Blk.new (w.alloc (.cells #[.slice bA bn bc, .slice tA tn tc, .int .i64 hot, .int .i64 warm, .int .i64 cold, .int .i64 stamp, .slice nA nn nc] 42)) 42 #[.slice none 0 0, .slice none 0 0, .int .i64 0, .int .i64 0, .int .i64 0, .int .i64 0, .slice none 0 0]
  rw [show (w.alloc (.cells #[.slice bA bn bc, .slice tA tn tc, .int .i64 hot, .int .i64 warm, .int .i64 cold, .int .i64 stamp, .slice nA nn nc] 42)).heap.size = w.heap.size + 1 by simp] at R2
  go_enter Try.func105, Try.ntmps105
  go_upto_region 1 with (fail)
  generalize (w.alloc (.cells #[.slice bA bn bc, .slice tA tn tc, .int .i64 hot, .int .i64 warm, .int .i64 cold, .int .i64 stamp, .slice nA nn nc] 42)).alloc (.cells #[.slice none 0 0, .slice none 0 0, .int .i64 0, .int .i64 0, .int .i64 0, .int .i64 0, .slice none 0 0] 42) = w2 at *
  obtain ⟨t0, t1, t2, t3, t4, t5, t6⟩ := K2.all7
  go_wp2_with fail
  refine (diskValid_spec (HR.out.below b2) b2.size S1.out S2.out S3.out S4.out).mono ?_
  rw [HOK.out]
  rintro e w3 ⟨rfl, b3⟩
  have R3 := R2.below b3 R2.lt
  have K3 := K2.below b3 K2.lt
  have B3 := b2.trans (b3.mono b2.size)
  clear K2 R2 b2 b3 t0 t1 t2 t3 t4 t5 t6
  have HB3 := Lib.hid B3
  clear B3
  go_upto_region 3 with (fail)
  obtain ⟨t0, t1, t2, t3, t4, t5, t6⟩ := K3.all7
  go_wp2_with fail
  refine (l34Copy_c (h := ⟨bA, bn, bc, tA, tn, tc, nA, nn, nc⟩) (d := ⟨bs, ts, hot, warm, cold, stamp, ns⟩) (HR.out.below HB3.out) HB3.out.size HHD.out.1 HTB.out S3.out HCAP.out.nil).mono ?_
  rintro e w4 ⟨h4, rfl, o4, b4⟩
  have R4 := R3.below b4 R3.lt
  have K4 := K3.below b4 K3.lt
  have HB4 := Lib.hid (HB3.out.trans (b4.mono HB3.out.size))
  have O4 := Lib.hid (o4.lower (base' := w.heap.size) HB3.out.size)
  clear K3 R3 HB3 b4 t0 t1 t2 t3 t4 t5 t6 o4
  go_upto_region 4 with (fail)
  have b5 : Below w4.heap.size w4 (w4.alloc (.cells #[.slice h4.bA h4.bn h4.bc, .slice h4.tA h4.tn h4.tc, .int .i64 hot, .int .i64 warm, .int .i64 cold, .int .i64 stamp, .slice h4.nA h4.nn h4.nc] 42)) := (Below.refl _ _).alloc (Nat.le_refl _) _
  have HS5 := Lib.hid (Blk.new w4 42 #[.slice h4.bA h4.bn h4.bc, .slice h4.tA h4.tn h4.tc, .int .i64 hot, .int .i64 warm, .int .i64 cold, .int .i64 stamp, .slice h4.nA h4.nn h4.nc])
  have R5 := R4.below b5 R4.lt
  have K5 := K4.below b5 K4.lt
  have HB5 := Lib.hid (HB4.out.trans (b5.mono HB4.out.size))
  have O5 := Lib.hid (O4.out.below b5)
  have L5 : w.heap.size + 1 < w4.heap.size := R4.lt
  clear b5 K4 R4 HB4 O4
  generalize w4.alloc (.cells #[.slice h4.bA h4.bn h4.bc, .slice h4.tA h4.tn h4.tc, .int .i64 hot, .int .i64 warm, .int .i64 cold, .int .i64 stamp, .slice h4.nA h4.nn h4.nc] 42) = w5 at *
  generalize w4.heap.size = gs at *
  obtain ⟨t0, t1, t2, t3, t4, t5, t6⟩ := K5.all7
  have HK5 := Lib.hid K5
  have HR5 := Lib.hid R5
  clear K5 R5
  go_wp2_with fail
  refine (l34Copy_c (h := ⟨bA, bn, bc, tA, tn, tc, nA, nn, nc⟩) (d := ⟨bs, ts, hot, warm, cold, stamp, ns⟩) (HR.out.below HB5.out) HB5.out.size HHD.out.1 HTB.out S3.out HCAP.out.nil).mono ?_
  rintro e w6 ⟨⟨oA, on, oc, pA, pn, pc, qA, qn, qc⟩, rfl, O6, b6⟩
  clear t0 t1 t2 t3 t4 t5 t6
  go_upto_region 5 with (fail)
  have b7 : Below w6.heap.size w6 (w6.alloc (.cells #[.slice oA on oc, .slice pA pn pc, .int .i64 hot, .int .i64 warm, .int .i64 cold, .int .i64 stamp, .slice qA qn qc] 42)) := (Below.refl _ _).alloc (Nat.le_refl _) _
  have G7 := Blk.new w6 42 #[.slice oA on oc, .slice pA pn pc, .int .i64 hot, .int .i64 warm, .int .i64 cold, .int .i64 stamp, .slice qA qn qc]
  have HB7 := Lib.hid (b6.trans (b7.mono b6.size))
  have O7 := O6.below b7
  have L7 : w5.heap.size ≤ w6.heap.size := b6.size
  clear b6 b7 O6
  generalize w6.alloc (.cells #[.slice oA on oc, .slice pA pn pc, .int .i64 hot, .int .i64 warm, .int .i64 cold, .int .i64 stamp, .slice qA qn qc] 42) = w7 at *
  generalize w6.heap.size = go at *
  go_wp2_with fail
  refine (l34Words_c s w7 hs).mono ?_
  rintro e w8 ⟨g8, c8, rfl, o8, b8⟩
  have HW8 := wordsTo_len s s.size
  change 1 ≤ (wordsL s).length ∧ (wordsL s).length ≤ s.size + 1 at HW8
  have G8 := G7.below b8 G7.lt
  have O8 := O7.below b8
  have HB8 := Lib.hid (HB7.out.trans (b8.mono HB7.out.size))
  have HB78 := Lib.hid (show Below w5.heap.size w5 w7 from HB7.out)
  have L8 : go < w7.heap.size := G7.lt
  clear G7 O7 HB7
  generalize hws : (wordsL s).length = m at *
  go_wp2_with (at_builtin; refine wpList_appSt3 rfl rfl rfl o8 rfl (by omega) b8.size ?_; rintro g9 c9 w9 o9 gr9)
  have G9 := G8.grown gr9 (fun h => by injection h with h; have := (own_lt o8 (k := go) (by rw [h]; rfl)).1; omega)
  have C9 : ChgT [9] w8 w9 := ChgT.grown o8 (by simp) gr9
  have O9 := O8.typed C9 (by decide) (by decide) (by decide) (by decide) (by decide)
  have HB9 := Lib.hid (below_app HB8.out (own_lower o8 HB78.out.size) HB8.out.size gr9)
  have HW9 := Lib.hid (words_cells o9 hws)
  have gl9 : g9 < w9.heap.size := (own_lt o9 (k := g9) rfl).2
  have HG9 := Lib.hid G9
  have HO9 := Lib.hid O9
  clear G8 O8 HB8 L8 o8 b8 gr9 C9 G9 O9 HB78 o9
  go_upto_region 7 with (fail)
  have l5w := HK5.out.lt
  have HK9 := Lib.hid (HK5.out.below HB9.out l5w)
  have c10 := HK9.out.cell 6
  simp at c10
  have c11 := HW9.out 1 (by omega)
  have q0 : (0 : Int) < (m : Int) + 3 := by omega
  have q1 : (1 : Int) < (m : Int) + 3 := by omega
  have q2 : (2 : Int) < (m : Int) + 3 := by omega
  have q3 : (3 : Int) < (m : Int) + 3 := by omega
  refine wp_region_held_drew (S := fun w' => w'.cell? ⟨w.heap.size, 6, none⟩ = some (.slice nA nn nc) ∧ w'.cell? ⟨g9, 1, none⟩ = some (.string (wd s 1))) (by kernel_rfl) ?_ (fun hHeld => ?_)
  · exact ⟨c10, c11⟩
  refine tk 0 ?_
  refine tk 1 ?_
  refine tk 2 ?_
  refine tk 3 ?_
  refine tk 4 ?_
  refine rd1 5 (fun K hK => ?_)
  go_simp
  refine (findName_spec (HR.out.below (HB5.out.trans (HB9.out.mono HB5.out.size))).drew.n (Nat.le_trans HB5.out.size HB9.out.size) S3.out S4.out HNM.out).mono ?_; rintro e w10 ⟨rfl, b10⟩; have b10 : Below w9.heap.size w9 w10 := ((Below.refl _ _).drew).trans b10
  go_wp2_with fail
  refine hK.out _ _ ?_ (fun hHeld => ?_)
  · exact ⟨(b10.cell (p := ⟨w.heap.size, 6, none⟩) HK9.out.lt).trans c10, (b10.cell (p := ⟨g9, 1, none⟩) gl9).trans c11⟩
  clear hK K
  refine pt ?_
  refine tk 6 ?_
  refine wpAnyH_done (by kernel_rfl) ?_ _
  clear hHeld c10 c11
  have c12 := (b10.cell (p := ⟨g9, 2, none⟩) gl9).trans (HW9.out 2 (by omega))
  have HB10 := Lib.hid b10
  clear b10
  have hwd2 : (wd s 2).size ≤ 9223372036854775807 := by have := wd_size s 2; omega
  have m1 : ((wd s 0).toList == [109, 97, 107, 101]) = true := by rw [H1.out, sMake_l]; rfl
  have mc : ((m : Int) == 2) = true := by rw [H2.out]; rfl
  go_upto_region 11 with (go_at_call 132; refine (l34Number_c _ _ hwd2).mono ?_; rintro e w11 ⟨rfl, b11⟩; have HB11 := Lib.hid (HB10.out.trans (b11.mono HB10.out.size)); clear HB10 b11 c12 hwd2; have y0 := (HB11.out.cell (p := ⟨g9, 0, none⟩) gl9).trans (HW9.out 0 (by omega)))
  obtain rfl : ns.length = nn := HR.out.n.len
  have hn9 : ns.length ≤ 9 := HN9.out
  have HBB := Lib.hid (HB9.out.trans (HB11.out.mono HB9.out.size))
  have HBW := Lib.hid (HB5.out.trans (HBB.out.mono HB5.out.size))
  have HRr := Lib.hid (HR.out.below HBW.out)
  have HKk := Lib.hid (HK5.out.below HBB.out HK5.out.lt)
  have HGg := Lib.hid (HG9.out.below HB11.out HG9.out.lt)
  have HOo := Lib.hid (HO9.out.below HB11.out)
  have HWw := Lib.hid (show ∀ i, i < m + 3 → w11.cell? ⟨g9, i, none⟩ = some (.string (wd s i)) from fun i hi => (HB11.out.cell (p := ⟨g9, i, none⟩) gl9).trans (HW9.out i hi))
  have gl : g9 < w11.heap.size := Nat.lt_of_lt_of_le gl9 HB11.out.size
  have gl5 : w5.heap.size ≤ w11.heap.size := HBB.out.size
  have glw : w.heap.size ≤ w11.heap.size := HBW.out.size
  clear HB9 HB11 HK9 HG9 HO9 HW9 gl9 l5w
  have p6 := HKk.out.cell 6
  simp at p6
  go_upto_region 14 with (fail)
  go_loop [13, 14] (fun f k => ∃ (kk ff : Nat), kk ≤ ns.length ∧ f = .int .i64 ff ∧ k = .int .i64 kk ∧ FrInv ns kk 0 ff) (fun _ k => ns.length - (intOf k).toNat)
  case atStart => exact ⟨0, 0, Nat.zero_le _, rfl, rfl, FrInv.zero _⟩
  case round =>
    obtain ⟨kk, ff, hkk, rfl, rfl, hinv⟩ := hrel
    have HI := Lib.hid hinv
    have hf8 := hinv.le HNM.out
    clear hinv
    by_cases hlt : kk < ns.length
    · have kI : (kk : Int) < ns.length := by omega
      go_upto_region 17 with (fail)
      go_loop [13, 15] (fun f j => ∃ (jj fg : Nat), jj ≤ ns.length ∧ f = .int .i64 fg ∧ j = .int .i64 jj ∧ FrInv ns kk jj fg) (fun _ j => ns.length - (intOf j).toNat)
      case atStart => exact ⟨0, ff, Nat.zero_le _, rfl, rfl, HI.out⟩
      case round =>
        obtain ⟨jj, fg, hjj, rfl, rfl, hinv⟩ := hrel
        have HJ := Lib.hid hinv
        have hf8' := hinv.le HNM.out
        clear hinv
        by_cases hjl : jj < ns.length
        · have jI : (jj : Int) < ns.length := by omega
          obtain ⟨b, off, rfl, hbB, hc⟩ := (show RdN w11 w.heap.size nA ns.length ns from HRr.out.n).at_ (by omega)
          obtain ⟨d0, d1⟩ := hc jj hjl
          clear hc
          have HF := Lib.hid (show nFil ns jj = (ns.getD jj noName).2 from rfl)
          generalize (ns.getD jj noName).2 = fi at *
          by_cases he : fi = (fg : Int)
          · have HX := Lib.hid (HJ.out.hit hjl (by rw [HF.out]; exact he))
            have he1 : (fi == (fg : Int)) = true := by simpa using he
            subst he
            go_wp2
            go_round
            case rel => exact ⟨jj + 1, fg + 1, by omega, by go_num, by go_num, HX.out⟩
            case measure => simp [intOf]; omega
          · have HX := Lib.hid (HJ.out.miss (by rw [HF.out]; exact he))
            have he1 : (fi == (fg : Int)) = false := by simpa using he
            go_wp2
            go_round
            case rel => exact ⟨jj + 1, fg, by omega, rfl, by go_num, HX.out⟩
            case measure => simp [intOf]; omega
        · obtain rfl : jj = ns.length := by omega
          have HX := Lib.hid HJ.out.pass
          go_wp2
          go_round
          case rel => exact ⟨kk + 1, fg, by omega, rfl, by go_num, HX.out⟩
          case measure => simp [intOf]; omega
    · obtain rfl : kk = ns.length := by omega
      have HFR := Lib.hid HI.out.done
      go_upto_region 21 with (fail)
      have c21 := HWw.out 1 (by omega)
      refine wp_region_held_drew (S := fun w' => w'.cell? ⟨w.heap.size, 6, none⟩ = some (.slice nA ns.length nc) ∧ w'.cell? ⟨g9, 1, none⟩ = some (.string (wd s 1))) (by kernel_rfl) ?_ (fun hHeld => ?_)
      · exact ⟨p6, c21⟩
      refine tk 0 ?_
      refine tk 1 ?_
      refine tk 2 ?_
      refine tk 3 ?_
      refine tk 4 ?_
      refine tk 5 ?_
      refine tk 6 ?_
      refine rd1 7 (fun K hK => ?_)
      go_simp
      refine (putName_spec HRr.out.drew.n glw (show ns.length ≤ 1000000 by omega) HCAP.out.le HCAP.out.max HCAP.out.nil S4.out (by have := wd_size s 1; omega) HNM.out).mono ?_; rintro e w12 ⟨A12, c12, rfl, o12, b12⟩; have b12 : Below w11.heap.size w11 w12 := ((Below.refl _ _).drew).trans b12; have HO12 := Lib.hid (show OwN w12 w5.heap.size _ _ _ _ from o12.lower gl5); clear o12
      go_wp2_with fail
      refine hK.out _ _ ?_ (fun hHeld => ?_)
      · exact ⟨(b12.cell (p := ⟨w.heap.size, 6, none⟩) HKk.out.lt).trans p6, (b12.cell (p := ⟨g9, 1, none⟩) gl).trans c21⟩
      clear hK K
      refine pt ?_
      refine tk 8 ?_
      refine tk 9 ?_
      refine tk 10 ?_
      refine tk 11 ?_
      refine tk 12 ?_
      refine wpAnyH_done (by kernel_rfl) ?_ _
      clear hHeld p6 c21
      have HG12 := Lib.hid (HGg.out.below b12 HGg.out.lt)
      have HB12 := Lib.hid (HBB.out.trans (b12.mono gl5))
      have HO12' := Lib.hid (HOo.out.below b12)
      clear b12
      have i6 := HG12.out.cell 6
      simp at i6
      have f6 := HG12.out.frozen 6
      go_upto_region 23 with (fail)
      have Gt := (HG12.out.set_ 6 (.slice A12 (putN ns (wd s 1) ff).length c12))
      simp at Gt
      have HB13 := Lib.hid ((HB12.out.setCell (p := ⟨go, 6, none⟩) L7 (.slice A12 (putN ns (wd s 1) ff).length c12)))
      have HG13 := Lib.hid Gt
      have HOB := Lib.hid ((HO12'.out.typed (ChgT.blk HG12.out 6 (.slice A12 (putN ns (wd s 1) ff).length c12)) (by decide) (by decide) (by decide) (by decide) (by decide)))
      have HON := Lib.hid ((HO12.out.typed (ChgT.blk HG12.out 6 (.slice A12 (putN ns (wd s 1) ff).length c12)) (by decide)))
      clear Gt
      generalize w12.setCell ⟨go, 6, none⟩ (.slice A12 (putN ns (wd s 1) ff).length c12) = w13 at *
      clear i6 f6
      by_cases hnm : NamesOk (putL ns (wd s 1) ff)
      · have hb := bof_t.2 hnm
        have HLX := Lib.hid (show lineF ⟨bs, ts, hot, warm, cold, stamp, ns⟩ s = lineO ⟨bs, ts, hot, warm, cold, stamp, ns⟩ (some ⟨⟨bs, ts, hot, warm, cold, stamp, putL ns (wd s 1) ff⟩, sOk⟩) from by rw [HL.out, cmdC_make H1.out (hws.trans H2.out), makeC_yes HFR.out hnm])
        have HSM := Lib.hid (show SmallDV ⟨bs, ts, hot, warm, cold, stamp, putL ns (wd s 1) ff⟩ from small_parts HHD.out.1 HTB.out hnm)
        rw [putN_yes hnm] at HG13 HON
        clear hnm
        generalize hpn : putN ns (wd s 1) ff = pnl at *
        clear hpn
        have HOD := Lib.hid (show OwD w13 w5.heap.size ⟨oA, on, oc, pA, pn, pc, A12, (putL ns (wd s 1) ff).length, c12⟩ ⟨bs, ts, hot, warm, cold, stamp, putL ns (wd s 1) ff⟩ from ⟨HOB.out.b, HOB.out.t, HON.out⟩)
        have HKO := Lib.hid (show BoxD w13 go ⟨oA, on, oc, pA, pn, pc, A12, (putL ns (wd s 1) ff).length, c12⟩ ⟨bs, ts, hot, warm, cold, stamp, putL ns (wd s 1) ff⟩ from HG13.out)
        go_upto_region 53 with (fail)
        have sm := HSM.out.h HOD.out.rd
        obtain ⟨p0, p1, p2, p3, p4, p5, p6⟩ := HKO.out.all7
        go_wp2_with fail
        refine (diskValid_spec (h := ⟨oA, on, oc, pA, pn, pc, A12, (putL ns (wd s 1) ff).length, c12⟩) (d := ⟨bs, ts, hot, warm, cold, stamp, putL ns (wd s 1) ff⟩) HOD.out.rd (Nat.le_refl _) sm.b sm.t sm.n (fun i hi => Nat.le_trans (Int.ofNat_le.1 (show _ ≤ ((1048576 : Nat) : Int) from sm.ns i hi)) (by decide))).mono ?_
        by_cases hdo : DiskOk ⟨bs, ts, hot, warm, cold, stamp, putL ns (wd s 1) ff⟩
        · have hbo := bof_t.2 hdo
          have HLZ := Lib.hid (HLX.out.trans (lineO_yes (show DiskOk (LineR.mk ⟨bs, ts, hot, warm, cold, stamp, putL ns (wd s 1) ff⟩ _).d from hdo)))
          clear hdo
          rw [hbo]
          rintro e w14 ⟨rfl, bf⟩
          have HBf := Lib.hid (HB13.out.trans (bf.mono HB13.out.size))
          have KF := HKO.out.below bf HKO.out.lt
          have BF := Lib.hid bf
          have ODL := HOD.out.lower HB5.out.size
          clear p0 p1 p2 p3 p4 p5 p6 bf sm
          obtain ⟨s0, s1, s2, s3, s4, s5, s6⟩ := KF.all7
          have RR := HR5.out.below HBf.out HR5.out.lt
          obtain ⟨y0, y1, y2, y3, y4, y5, y6⟩ := RR.all7
          obtain ⟨z0, z1, z2, z3, z4, z5, z6⟩ := RR.free7
          have KP := Lib.hid (blk_putDisk RR ⟨oA, on, oc, pA, pn, pc, A12, (putL ns (wd s 1) ff).length, c12⟩ ⟨bs, ts, hot, warm, cold, stamp, putL ns (wd s 1) ff⟩).1
          have HO := Lib.hid (ownL_of HLZ.out ODL BF.out RR (HB5.out.trans (HBf.out.mono HB5.out.size)))
          clear RR
          dsimp only [putDisk, BoxD] at KP HO
          go_upto_region 55 with (fail)
          repeat (first | go_values | go_skip | go_guarded | go_step | go_upon)
          generalize ((((((w14.setCell ⟨w.heap.size + 1, 0, none⟩ (.slice oA on oc)).setCell ⟨w.heap.size + 1, 1, none⟩ (.slice pA pn pc)).setCell ⟨w.heap.size + 1, 2, none⟩ (.int .i64 hot)).setCell ⟨w.heap.size + 1, 3, none⟩ (.int .i64 warm)).setCell ⟨w.heap.size + 1, 4, none⟩ (.int .i64 cold)).setCell ⟨w.heap.size + 1, 5, none⟩ (.int .i64 stamp)).setCell ⟨w.heap.size + 1, 6, none⟩ (.slice A12 (putL ns (wd s 1) ff).length c12) = wz at *
          obtain ⟨e0, e1, e2, e3, e4, e5, e6⟩ := KP.out.all7
          refine bodyPost_ret (by simp [results, Try.results105, go_sem, e0, e1, e2, e3, e4, e5, e6]; try rfl) rfl ?_
          exact HO.out
        · have hbo := bof_f.2 hdo
          have HLZ := Lib.hid (HLX.out.trans (lineO_no (show ¬ DiskOk (LineR.mk ⟨bs, ts, hot, warm, cold, stamp, putL ns (wd s 1) ff⟩ _).d from hdo)))
          clear hdo
          rw [hbo]
          rintro e w14 ⟨rfl, bf⟩
          have HBf := Lib.hid (HB13.out.trans (bf.mono HB13.out.size))
          clear p0 p1 p2 p3 p4 p5 p6 bf sm
          have KS := HS5.out.below HBf.out HS5.out.lt
          obtain ⟨s0, s1, s2, s3, s4, s5, s6⟩ := KS.all7
          have RR := HR5.out.below HBf.out HR5.out.lt
          obtain ⟨y0, y1, y2, y3, y4, y5, y6⟩ := RR.all7
          obtain ⟨z0, z1, z2, z3, z4, z5, z6⟩ := RR.free7
          have KP := Lib.hid (blk_putDisk RR h4 ⟨bs, ts, hot, warm, cold, stamp, ns⟩).1
          have HO := Lib.hid (ownL_of HLZ.out O5.out HBf.out RR (HB5.out.trans (HBf.out.mono HB5.out.size)))
          clear RR
          dsimp only [putDisk, BoxD] at KP HO
          go_upto_region 54 with (fail)
          repeat (first | go_values | go_skip | go_guarded | go_step | go_upon)
          generalize ((((((w14.setCell ⟨w.heap.size + 1, 0, none⟩ (.slice h4.bA h4.bn h4.bc)).setCell ⟨w.heap.size + 1, 1, none⟩ (.slice h4.tA h4.tn h4.tc)).setCell ⟨w.heap.size + 1, 2, none⟩ (.int .i64 hot)).setCell ⟨w.heap.size + 1, 3, none⟩ (.int .i64 warm)).setCell ⟨w.heap.size + 1, 4, none⟩ (.int .i64 cold)).setCell ⟨w.heap.size + 1, 5, none⟩ (.int .i64 stamp)).setCell ⟨w.heap.size + 1, 6, none⟩ (.slice h4.nA h4.nn h4.nc) = wz at *
          obtain ⟨e0, e1, e2, e3, e4, e5, e6⟩ := KP.out.all7
          refine bodyPost_ret (by simp [results, Try.results105, go_sem, e0, e1, e2, e3, e4, e5, e6]; try rfl) rfl ?_
          exact HO.out
      · have hb := bof_f.2 hnm
        have HLX := Lib.hid (show lineF ⟨bs, ts, hot, warm, cold, stamp, ns⟩ s = ⟨⟨bs, ts, hot, warm, cold, stamp, ns⟩, sNo⟩ from by rw [HL.out, cmdC_make H1.out (hws.trans H2.out), makeC_no HFR.out hnm]; rfl)
        clear hnm
        have KS := HS5.out.below HB13.out HS5.out.lt
        obtain ⟨s0, s1, s2, s3, s4, s5, s6⟩ := KS.all7
        have RR := HR5.out.below HB13.out HR5.out.lt
        obtain ⟨y0, y1, y2, y3, y4, y5, y6⟩ := RR.all7
        obtain ⟨z0, z1, z2, z3, z4, z5, z6⟩ := RR.free7
        have KP := Lib.hid (blk_putDisk RR h4 ⟨bs, ts, hot, warm, cold, stamp, ns⟩).1
        have HO := Lib.hid (ownL_of HLX.out O5.out HB13.out RR (HB5.out.trans (HB13.out.mono HB5.out.size)))
        clear RR
        dsimp only [putDisk, BoxD] at KP HO
        go_upto_region 24 with (fail)
        repeat (first | go_values | go_skip | go_guarded | go_step | go_upon)
        generalize ((((((w13.setCell ⟨w.heap.size + 1, 0, none⟩ (.slice h4.bA h4.bn h4.bc)).setCell ⟨w.heap.size + 1, 1, none⟩ (.slice h4.tA h4.tn h4.tc)).setCell ⟨w.heap.size + 1, 2, none⟩ (.int .i64 hot)).setCell ⟨w.heap.size + 1, 3, none⟩ (.int .i64 warm)).setCell ⟨w.heap.size + 1, 4, none⟩ (.int .i64 cold)).setCell ⟨w.heap.size + 1, 5, none⟩ (.int .i64 stamp)).setCell ⟨w.heap.size + 1, 6, none⟩ (.slice h4.nA h4.nn h4.nc) = wz at *
        obtain ⟨e0, e1, e2, e3, e4, e5, e6⟩ := KP.out.all7
        refine bodyPost_ret (by simp [results, Try.results105, go_sem, e0, e1, e2, e3, e4, e5, e6]; try rfl) rfl ?_
        exact HO.out
end Go.Proofs.Ytjnpgdhpneifjaa
