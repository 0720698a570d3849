/- DiskLine by the reference, at a valid disk, the command clean. -/
import Derived.Test.YtjnpgdhpneifjaaG1
import Derived.Test.YtjnpgdhpneifjaaG24
import Derived.Test.YtjnpgdhpneifjaaG17
import Derived.Test.YtjnpgdhpneifjaaG22
import Derived.Test.YtjnpgdhpneifjaaG21
namespace Go.Proofs.Ytjnpgdhpneifjaa
open Go.ChangeShapes Go.WideShapes Go.ChangeAt Go.RowKit Go.Deep
set_option linter.unusedVariables false
set_option linter.unusedSimpArgs false

set_option maxRecDepth 8000 in
set_option maxHeartbeats 8000000 in
theorem diskLine_clean {h : DH} {d : DiskV} {s : ByteArray} {B : Nat} {w : World} (hr : RdD w B h d) (hB : B ≤ w.heap.size) (hcap : CapN h) (hok : DiskOk d) (hs : s.size ≤ 1048576) (h1 : s = sClean) :
    Calls Try.prog 105 #[dkv h d, .string s] w (OwnL w (lineF d s)) := by
  have H1 := Lib.hid h1
  clear h1
  have hsh := (small_ok hok).h hr
  have HR := Lib.hid (hr.mono hB)
  have HOK := Lib.hid (bof_t.2 hok)
  have HL := Lib.hid (lineF_yes (s := s) hok)
  have HHD := Lib.hid hok.1
  have HTB := Lib.hid hok.2.1
  have HFIT := Lib.hid hok.2.2.1
  have HSTA := Lib.hid (show 0 ≤ d.stamp ∧ d.stamp ≤ 1000 from ⟨Int.le_trans (lastAt_range hok.1.1 (Nat.le_refl _)).1 hok.2.2.2.1.1, hok.2.2.2.1.2⟩)
  have HNM := Lib.hid hok.2.2.2.2.1
  have HDO := Lib.hid hok
  have HCAP := Lib.hid hcap
  have S1 := Lib.hid hsh.b
  have S2 := Lib.hid hsh.t
  have S3 := Lib.hid hsh.n
  have S4 := Lib.hid (show ∀ i, i < h.nn → (nTxt d.ns i).size ≤ 9223372036854775807 from fun i hi => by have := hsh.ns i hi; simp only [nTxt]; omega)
  have HN9 := Lib.hid (names_nine hok.2.2.2.2.1)
  clear hr hok hsh hcap
  obtain ⟨bA, bn, bc, tA, tn, tc, nA, nn, nc⟩ := h
  obtain ⟨bs, ts, hot, warm, cold, stamp, ns⟩ := d
  have b2 : Below w.heap.size w ((w.alloc (.cells #[.slice bA bn bc, .slice tA tn tc, .int .i64 hot, .int .i64 warm, .int .i64 cold, .int .i64 stamp, .slice nA nn nc] 42)).alloc (.cells #[.slice none 0 0, .slice none 0 0, .int .i64 0, .int .i64 0, .int .i64 0, .int .i64 0, .slice none 0 0] 42)) := ((Below.refl _ _).alloc (Nat.le_refl _) _).alloc (by simp) _
  have K2 := (Blk.new w 42 #[.slice bA bn bc, .slice tA tn tc, .int .i64 hot, .int .i64 warm, .int .i64 cold, .int .i64 stamp, .slice nA nn nc]).alloc (.cells #[.slice none 0 0, .slice none 0 0, .int .i64 0, .int .i64 0, .int .i64 0, .int .i64 0, .slice none 0 0] 42)
  have R2 := Blk.new (w.alloc (.cells #[.slice bA bn bc, .slice tA tn tc, .int .i64 hot, .int .i64 warm, .int .i64 cold, .int .i64 stamp, .slice nA nn nc] 42)) 42 #[.slice none 0 0, .slice none 0 0, .int .i64 0, .int .i64 0, .int .i64 0, .int .i64 0, .slice none 0 0]
  rw [show (w.alloc (.cells #[.slice bA bn bc, .slice tA tn tc, .int .i64 hot, .int .i64 warm, .int .i64 cold, .int .i64 stamp, .slice nA nn nc] 42)).heap.size = w.heap.size + 1 by simp] at R2
  go_enter Try.func105, Try.ntmps105
  go_upto_region 1 with (fail)
  generalize (w.alloc (.cells #[.slice bA bn bc, .slice tA tn tc, .int .i64 hot, .int .i64 warm, .int .i64 cold, .int .i64 stamp, .slice nA nn nc] 42)).alloc (.cells #[.slice none 0 0, .slice none 0 0, .int .i64 0, .int .i64 0, .int .i64 0, .int .i64 0, .slice none 0 0] 42) = w2 at *
  obtain ⟨t0, t1, t2, t3, t4, t5, t6⟩ := K2.all7
  go_wp2_with fail
  refine (diskValid_spec (HR.out.below b2) b2.size S1.out S2.out S3.out S4.out).mono ?_
  rw [HOK.out]
  rintro e w3 ⟨rfl, b3⟩
  have R3 := R2.below b3 R2.lt
  have K3 := K2.below b3 K2.lt
  have B3 := b2.trans (b3.mono b2.size)
  clear K2 R2 b2 b3 t0 t1 t2 t3 t4 t5 t6
  have HB3 := Lib.hid B3
  clear B3
  go_upto_region 3 with (fail)
  obtain ⟨t0, t1, t2, t3, t4, t5, t6⟩ := K3.all7
  go_wp2_with fail
  refine (l34Copy_c (h := ⟨bA, bn, bc, tA, tn, tc, nA, nn, nc⟩) (d := ⟨bs, ts, hot, warm, cold, stamp, ns⟩) (HR.out.below HB3.out) HB3.out.size HHD.out.1 HTB.out S3.out HCAP.out.nil).mono ?_
  rintro e w4 ⟨h4, rfl, o4, b4⟩
  have R4 := R3.below b4 R3.lt
  have K4 := K3.below b4 K3.lt
  have HB4 := Lib.hid (HB3.out.trans (b4.mono HB3.out.size))
  have O4 := Lib.hid (o4.lower (base' := w.heap.size) HB3.out.size)
  clear K3 R3 HB3 b4 t0 t1 t2 t3 t4 t5 t6 o4
  go_upto_region 4 with (fail)
  have b5 : Below w4.heap.size w4 (w4.alloc (.cells #[.slice h4.bA h4.bn h4.bc, .slice h4.tA h4.tn h4.tc, .int .i64 hot, .int .i64 warm, .int .i64 cold, .int .i64 stamp, .slice h4.nA h4.nn h4.nc] 42)) := (Below.refl _ _).alloc (Nat.le_refl _) _
  have HS5 := Lib.hid (Blk.new w4 42 #[.slice h4.bA h4.bn h4.bc, .slice h4.tA h4.tn h4.tc, .int .i64 hot, .int .i64 warm, .int .i64 cold, .int .i64 stamp, .slice h4.nA h4.nn h4.nc])
  have R5 := R4.below b5 R4.lt
  have K5 := K4.below b5 K4.lt
  have HB5 := Lib.hid (HB4.out.trans (b5.mono HB4.out.size))
  have O5 := Lib.hid (O4.out.below b5)
  have L5 : w.heap.size + 1 < w4.heap.size := R4.lt
  clear b5 K4 R4 HB4 O4
  generalize w4.alloc (.cells #[.slice h4.bA h4.bn h4.bc, .slice h4.tA h4.tn h4.tc, .int .i64 hot, .int .i64 warm, .int .i64 cold, .int .i64 stamp, .slice h4.nA h4.nn h4.nc] 42) = w5 at *
  generalize w4.heap.size = gs at *
  obtain ⟨t0, t1, t2, t3, t4, t5, t6⟩ := K5.all7
  have HK5 := Lib.hid K5
  have HR5 := Lib.hid R5
  clear K5 R5
  go_wp2_with fail
  refine (l34Copy_c (h := ⟨bA, bn, bc, tA, tn, tc, nA, nn, nc⟩) (d := ⟨bs, ts, hot, warm, cold, stamp, ns⟩) (HR.out.below HB5.out) HB5.out.size HHD.out.1 HTB.out S3.out HCAP.out.nil).mono ?_
  rintro e w6 ⟨⟨oA, on, oc, pA, pn, pc, qA, qn, qc⟩, rfl, O6, b6⟩
  clear t0 t1 t2 t3 t4 t5 t6
  go_upto_region 5 with (fail)
  have b7 : Below w6.heap.size w6 (w6.alloc (.cells #[.slice oA on oc, .slice pA pn pc, .int .i64 hot, .int .i64 warm, .int .i64 cold, .int .i64 stamp, .slice qA qn qc] 42)) := (Below.refl _ _).alloc (Nat.le_refl _) _
  have G7 := Blk.new w6 42 #[.slice oA on oc, .slice pA pn pc, .int .i64 hot, .int .i64 warm, .int .i64 cold, .int .i64 stamp, .slice qA qn qc]
  have HB7 := Lib.hid (b6.trans (b7.mono b6.size))
  have O7 := O6.below b7
  have L7 : w5.heap.size ≤ w6.heap.size := b6.size
  clear b6 b7 O6
  generalize w6.alloc (.cells #[.slice oA on oc, .slice pA pn pc, .int .i64 hot, .int .i64 warm, .int .i64 cold, .int .i64 stamp, .slice qA qn qc] 42) = w7 at *
  generalize w6.heap.size = go at *
  go_wp2_with fail
  refine (l34Words_c s w7 hs).mono ?_
  rintro e w8 ⟨g8, c8, rfl, o8, b8⟩
  have HW8 := wordsTo_len s s.size
  change 1 ≤ (wordsL s).length ∧ (wordsL s).length ≤ s.size + 1 at HW8
  have G8 := G7.below b8 G7.lt
  have O8 := O7.below b8
  have HB8 := Lib.hid (HB7.out.trans (b8.mono HB7.out.size))
  have HB78 := Lib.hid (show Below w5.heap.size w5 w7 from HB7.out)
  have L8 : go < w7.heap.size := G7.lt
  clear G7 O7 HB7
  generalize hws : (wordsL s).length = m at *
  go_wp2_with (at_builtin; refine wpList_appSt3 rfl rfl rfl o8 rfl (by omega) b8.size ?_; rintro g9 c9 w9 o9 gr9)
  have G9 := G8.grown gr9 (fun h => by injection h with h; have := (own_lt o8 (k := go) (by rw [h]; rfl)).1; omega)
  have C9 : ChgT [9] w8 w9 := ChgT.grown o8 (by simp) gr9
  have O9 := O8.typed C9 (by decide) (by decide) (by decide) (by decide) (by decide)
  have HB9 := Lib.hid (below_app HB8.out (own_lower o8 HB78.out.size) HB8.out.size gr9)
  have HW9 := Lib.hid (words_cells o9 hws)
  have gl9 : g9 < w9.heap.size := (own_lt o9 (k := g9) rfl).2
  have HG9 := Lib.hid G9
  have HO9 := Lib.hid O9
  clear G8 O8 HB8 L8 o8 b8 gr9 C9 G9 O9 HB78 o9
  go_upto_region 7 with (fail)
  have l5w := HK5.out.lt
  have HK9 := Lib.hid (HK5.out.below HB9.out l5w)
  have c10 := HK9.out.cell 6
  simp at c10
  have c11 := HW9.out 1 (by omega)
  have q0 : (0 : Int) < (m : Int) + 3 := by omega
  have q1 : (1 : Int) < (m : Int) + 3 := by omega
  have q2 : (2 : Int) < (m : Int) + 3 := by omega
  have q3 : (3 : Int) < (m : Int) + 3 := by omega
  refine wp_region_held_drew (S := fun w' => w'.cell? ⟨w.heap.size, 6, none⟩ = some (.slice nA nn nc) ∧ w'.cell? ⟨g9, 1, none⟩ = some (.string (wd s 1))) (by kernel_rfl) ?_ (fun hHeld => ?_)
  · exact ⟨c10, c11⟩
  refine tk 0 ?_
  refine tk 1 ?_
  refine tk 2 ?_
  refine tk 3 ?_
  refine tk 4 ?_
  refine rd1 5 (fun K hK => ?_)
  go_simp
  refine (findName_spec (HR.out.below (HB5.out.trans (HB9.out.mono HB5.out.size))).drew.n (Nat.le_trans HB5.out.size HB9.out.size) S3.out S4.out HNM.out).mono ?_; rintro e w10 ⟨rfl, b10⟩; have b10 : Below w9.heap.size w9 w10 := ((Below.refl _ _).drew).trans b10
  go_wp2_with fail
  refine hK.out _ _ ?_ (fun hHeld => ?_)
  · exact ⟨(b10.cell (p := ⟨w.heap.size, 6, none⟩) HK9.out.lt).trans c10, (b10.cell (p := ⟨g9, 1, none⟩) gl9).trans c11⟩
  clear hK K
  refine pt ?_
  refine tk 6 ?_
  refine wpAnyH_done (by kernel_rfl) ?_ _
  clear hHeld c10 c11
  have c12 := (b10.cell (p := ⟨g9, 2, none⟩) gl9).trans (HW9.out 2 (by omega))
  have HB10 := Lib.hid b10
  clear b10
  have hwd2 : (wd s 2).size ≤ 9223372036854775807 := by have := wd_size s 2; omega
  have m1 : ((wd s 0).toList == [109, 97, 107, 101]) = false := toList_ne sMake_l (by rw [H1.out, wd_clean]; decide)
  have m2 : ((wd s 0).toList == [119, 114, 105, 116, 101]) = false := toList_ne sWrite_l (by rw [H1.out, wd_clean]; decide)
  have m3 : ((wd s 0).toList == [114, 101, 97, 100]) = false := toList_ne sRead_l (by rw [H1.out, wd_clean]; decide)
  have m4 : ((wd s 0).toList == [100, 114, 111, 112]) = false := toList_ne sDrop_l (by rw [H1.out, wd_clean]; decide)
  have m5 : (s.toList == [99, 108, 101, 97, 110]) = true := by rw [H1.out, sClean_l]; rfl
  go_upto_region 11 with (go_at_call 132; refine (l34Number_c _ _ hwd2).mono ?_; rintro e w11 ⟨rfl, b11⟩; have HB11 := Lib.hid (HB10.out.trans (b11.mono HB10.out.size)); clear HB10 b11 c12 hwd2; have y0 := (HB11.out.cell (p := ⟨g9, 0, none⟩) gl9).trans (HW9.out 0 (by omega)))
  obtain rfl : ns.length = nn := HR.out.n.len
  have hn9 : ns.length ≤ 9 := HN9.out
  have HBB := Lib.hid (HB9.out.trans (HB11.out.mono HB9.out.size))
  have HBW := Lib.hid (HB5.out.trans (HBB.out.mono HB5.out.size))
  have HRr := Lib.hid (HR.out.below HBW.out)
  have HKk := Lib.hid (HK5.out.below HBB.out HK5.out.lt)
  have HGg := Lib.hid (HG9.out.below HB11.out HG9.out.lt)
  have HOo := Lib.hid (HO9.out.below HB11.out)
  have HWw := Lib.hid (show ∀ i, i < m + 3 → w11.cell? ⟨g9, i, none⟩ = some (.string (wd s i)) from fun i hi => (HB11.out.cell (p := ⟨g9, i, none⟩) gl9).trans (HW9.out i hi))
  have gl : g9 < w11.heap.size := Nat.lt_of_lt_of_le gl9 HB11.out.size
  have gl5 : w5.heap.size ≤ w11.heap.size := HBB.out.size
  have glw : w.heap.size ≤ w11.heap.size := HBW.out.size
  clear HB9 HB11 HK9 HG9 HO9 HW9 gl9 l5w
  go_upto_region 44 with (fail)
  obtain ⟨p0, p1, p2, p3, p4, p5, p6⟩ := HKk.out.all7
  go_wp2_with fail
  refine (greedyVictim_spec (h := ⟨hot, warm, cold⟩) HRr.out.b glw HHD.out HRr.out.t HTB.out).mono ?_
  rintro e w12 ⟨rfl, b12⟩
  have hvr := victTo_range bs (countsL bs ts) ⟨hot, warm, cold⟩ bs.length
  have HVD := Lib.hid (show victD ⟨bs, ts, hot, warm, cold, stamp, ns⟩ = greedyV bs ts ⟨hot, warm, cold⟩ from rfl)
  change -1 ≤ greedyV bs ts ⟨hot, warm, cold⟩ ∧ _ at hvr
  generalize hv : greedyV bs ts ⟨hot, warm, cold⟩ = v at *
  have hb12 : bs.length ≤ 12 := HHD.out.1.1.2
  have HG12 := Lib.hid (HGg.out.below b12 HGg.out.lt)
  have HO12 := Lib.hid (HOo.out.below b12)
  have HB12 := Lib.hid (HBB.out.trans (b12.mono gl5))
  have HR12 := Lib.hid (HRr.out.below (b12.mono glw))
  have HK12 := Lib.hid (HKk.out.below b12 HKk.out.lt)
  have sw12 : w.heap.size ≤ w12.heap.size := Nat.le_trans glw b12.size
  clear p0 p1 p2 p3 p4 p5 p6 b12 hv
  have hst : 0 ≤ stamp ∧ stamp ≤ 1000 := HSTA.out
  have wst : IntKind.i64.wrap (stamp + 1) = stamp + 1 := IntWalk.i64_in _ (by omega)
  go_upto_region 45 with (fail)
  obtain ⟨p0, p1, p2, p3, p4, p5, p6⟩ := HK12.out.all7
  by_cases hneg : v < 0
  · obtain rfl : v = -1 := by omega
    have HLX := Lib.hid (show lineF ⟨bs, ts, hot, warm, cold, stamp, ns⟩ s = ⟨⟨bs, ts, hot, warm, cold, stamp, ns⟩, sNo⟩ from by rw [HL.out, H1.out, cmdC_clean, cleanC_neg (by rw [HVD.out]; exact hneg)]; rfl)
    go_wp2_with fail
    refine (cleanBlock_no (h := ⟨hot, warm, cold⟩) HR12.out.b sw12 HHD.out HR12.out.t HTB.out).mono ?_
    rintro e w13 ⟨⟨gn, rfl⟩, b13⟩
    have HG13 := Lib.hid (HG12.out.below b13 HG12.out.lt)
    have HO13 := Lib.hid (HO12.out.below b13)
    have HB13 := Lib.hid (HB12.out.trans (b13.mono HB12.out.size))
    clear p0 p1 p2 p3 p4 p5 p6 b13
    go_upto_region 46 with (fail)
    have ba : Below w13.heap.size w13 ((w13.alloc (.cells #[.slice none 0 0] 37)).alloc (.cells #[.int .i64 0, .int .i64 0, .int .i64 0] 39)) := ((Below.refl _ _).alloc (Nat.le_refl _) _).alloc (by simp) _
    have HT2 := Lib.hid ((Blk.new w13 37 #[.slice none 0 0]).alloc (.cells #[.int .i64 0, .int .i64 0, .int .i64 0] 39))
    have HH2 := Blk.new (w13.alloc (.cells #[.slice none 0 0] 37)) 39 #[.int .i64 0, .int .i64 0, .int .i64 0]
    rw [show (w13.alloc (.cells #[.slice none 0 0] 37)).heap.size = w13.heap.size + 1 by simp] at HH2
    have HH2 := Lib.hid HH2
    have HGx := Lib.hid (HG13.out.below ba HG13.out.lt)
    have HOx := Lib.hid (HO13.out.below ba)
    have HBx := Lib.hid (HB13.out.trans (ba.mono HB13.out.size))
    have Lgo := HG13.out.lt
    generalize (w13.alloc (.cells #[.slice none 0 0] 37)).alloc (.cells #[.int .i64 0, .int .i64 0, .int .i64 0] 39) = w14 at *
    generalize w13.heap.size = gq at *
    clear ba
    have KS := HS5.out.below HBx.out HS5.out.lt
    obtain ⟨s0, s1, s2, s3, s4, s5, s6⟩ := KS.all7
    have RR := HR5.out.below HBx.out HR5.out.lt
    obtain ⟨y0, y1, y2, y3, y4, y5, y6⟩ := RR.all7
    obtain ⟨z0, z1, z2, z3, z4, z5, z6⟩ := RR.free7
    have KP := Lib.hid (blk_putDisk RR h4 ⟨bs, ts, hot, warm, cold, stamp, ns⟩).1
    have HO := Lib.hid (ownL_of HLX.out O5.out HBx.out RR (HB5.out.trans (HBx.out.mono HB5.out.size)))
    clear RR
    dsimp only [putDisk, BoxD] at KP HO
    go_upto_region 47 with (fail)
    repeat (first | go_values | go_skip | go_guarded | go_step | go_upon)
    generalize ((((((w14.setCell ⟨w.heap.size + 1, 0, none⟩ (.slice h4.bA h4.bn h4.bc)).setCell ⟨w.heap.size + 1, 1, none⟩ (.slice h4.tA h4.tn h4.tc)).setCell ⟨w.heap.size + 1, 2, none⟩ (.int .i64 hot)).setCell ⟨w.heap.size + 1, 3, none⟩ (.int .i64 warm)).setCell ⟨w.heap.size + 1, 4, none⟩ (.int .i64 cold)).setCell ⟨w.heap.size + 1, 5, none⟩ (.int .i64 stamp)).setCell ⟨w.heap.size + 1, 6, none⟩ (.slice h4.nA h4.nn h4.nc) = wz at *
    obtain ⟨e0, e1, e2, e3, e4, e5, e6⟩ := KP.out.all7
    refine bodyPost_ret (by simp [results, Try.results105, go_sem, e0, e1, e2, e3, e4, e5, e6]; try rfl) rfl ?_
    exact HO.out
  · have HVO := Lib.hid (vict_ok HDO.out (show 0 ≤ victD ⟨bs, ts, hot, warm, cold, stamp, ns⟩ by rw [HVD.out]; omega))
    have HCO := Lib.hid (cleanD_ok HDO.out (show 0 ≤ victD ⟨bs, ts, hot, warm, cold, stamp, ns⟩ by rw [HVD.out]; omega))
    obtain ⟨vn, rfl⟩ : ∃ n : Nat, v = n := ⟨v.toNat, by omega⟩
    rw [HVD.out, Int.toNat_natCast] at HVO
    have HCD := Lib.hid (show cleanD ⟨bs, ts, hot, warm, cold, stamp, ns⟩ = cleanF bs ts ⟨hot, warm, cold⟩ vn (stamp + 1) from by unfold cleanD; rw [HVD.out, Int.toNat_natCast])
    rw [HCD.out] at HCO
    have hne := has_not HVO.out.head
    simp only at hne
    have HLX := Lib.hid (show lineF ⟨bs, ts, hot, warm, cold, stamp, ns⟩ s = lineO ⟨bs, ts, hot, warm, cold, stamp, ns⟩ (cleanC ⟨bs, ts, hot, warm, cold, stamp, ns⟩) from by rw [HL.out, H1.out, cmdC_clean])
    go_wp2_with fail
    refine (cleanBlock_spec (h := ⟨hot, warm, cold⟩) HR12.out.b sw12 HHD.out HR12.out.t HTB.out HFIT.out HVO.out.lt HVO.out.head HVO.out.full (by omega) (by omega) ⟨beq_eq_false_iff_ne.2 hne.1, beq_eq_false_iff_ne.2 hne.2.1, beq_eq_false_iff_ne.2 hne.2.2⟩).mono ?_
    generalize hR : cleanF bs ts ⟨hot, warm, cold⟩ vn (stamp + 1) = R at *
    obtain ⟨rbs, rts, ⟨rx, ry, rz⟩, rm, rok⟩ := R
    rintro e w13 ⟨A13, c13, tA13, tc13, rfl, o13, t13, b13⟩
    simp only at o13 t13
    have HRR := Lib.hid hR
    clear hR hne
    have HG13 := Lib.hid (HG12.out.below b13 HG12.out.lt)
    have HO13 := Lib.hid (HO12.out.below b13)
    have HB13 := Lib.hid (HB12.out.trans (b13.mono HB12.out.size))
    have HD13 := Lib.hid (o13.lower (base' := w5.heap.size) HB12.out.size)
    have HE13 := Lib.hid (t13.lower (base' := w5.heap.size) HB12.out.size)
    clear p0 p1 p2 p3 p4 p5 p6 b13 o13 t13
    go_upto_region 46 with (fail)
    have ba : Below w13.heap.size w13 ((w13.alloc (.cells #[.slice tA13 rts.length tc13] 37)).alloc (.cells #[.int .i64 rx, .int .i64 ry, .int .i64 rz] 39)) := ((Below.refl _ _).alloc (Nat.le_refl _) _).alloc (by simp) _
    have HT2 := Lib.hid ((Blk.new w13 37 #[.slice tA13 rts.length tc13]).alloc (.cells #[.int .i64 rx, .int .i64 ry, .int .i64 rz] 39))
    have HH2 := Blk.new (w13.alloc (.cells #[.slice tA13 rts.length tc13] 37)) 39 #[.int .i64 rx, .int .i64 ry, .int .i64 rz]
    rw [show (w13.alloc (.cells #[.slice tA13 rts.length tc13] 37)).heap.size = w13.heap.size + 1 by simp] at HH2
    have HH2 := Lib.hid HH2
    have HGx := Lib.hid (HG13.out.below ba HG13.out.lt)
    have HOx := Lib.hid (HO13.out.below ba)
    have HBx := Lib.hid (HB13.out.trans (ba.mono HB13.out.size))
    have Lgo := HG13.out.lt
    have HDx := Lib.hid (HD13.out.below ba)
    have HEx := Lib.hid (HE13.out.below ba)
    generalize (w13.alloc (.cells #[.slice tA13 rts.length tc13] 37)).alloc (.cells #[.int .i64 rx, .int .i64 ry, .int .i64 rz] 39) = w14 at *
    generalize w13.heap.size = gq at *
    clear ba
    clear HG12 HO12 HB12 HR12 HG13 HO13 HB13 HD13 HE13
    cases rok
    · have HLY := Lib.hid (show lineF ⟨bs, ts, hot, warm, cold, stamp, ns⟩ s = ⟨⟨bs, ts, hot, warm, cold, stamp, ns⟩, sNo⟩ from by rw [HLX.out, cleanC_no (HCD.out) rfl]; rfl)
      have KS := HS5.out.below HBx.out HS5.out.lt
      obtain ⟨s0, s1, s2, s3, s4, s5, s6⟩ := KS.all7
      have RR := HR5.out.below HBx.out HR5.out.lt
      obtain ⟨y0, y1, y2, y3, y4, y5, y6⟩ := RR.all7
      obtain ⟨z0, z1, z2, z3, z4, z5, z6⟩ := RR.free7
      have KP := Lib.hid (blk_putDisk RR h4 ⟨bs, ts, hot, warm, cold, stamp, ns⟩).1
      have HO := Lib.hid (ownL_of HLY.out O5.out HBx.out RR (HB5.out.trans (HBx.out.mono HB5.out.size)))
      clear RR
      dsimp only [putDisk, BoxD] at KP HO
      go_upto_region 47 with (fail)
      repeat (first | go_values | go_skip | go_guarded | go_step | go_upon)
      generalize ((((((w14.setCell ⟨w.heap.size + 1, 0, none⟩ (.slice h4.bA h4.bn h4.bc)).setCell ⟨w.heap.size + 1, 1, none⟩ (.slice h4.tA h4.tn h4.tc)).setCell ⟨w.heap.size + 1, 2, none⟩ (.int .i64 hot)).setCell ⟨w.heap.size + 1, 3, none⟩ (.int .i64 warm)).setCell ⟨w.heap.size + 1, 4, none⟩ (.int .i64 cold)).setCell ⟨w.heap.size + 1, 5, none⟩ (.int .i64 stamp)).setCell ⟨w.heap.size + 1, 6, none⟩ (.slice h4.nA h4.nn h4.nc) = wz at *
      obtain ⟨e0, e1, e2, e3, e4, e5, e6⟩ := KP.out.all7
      refine bodyPost_ret (by simp [results, Try.results105, go_sem, e0, e1, e2, e3, e4, e5, e6]; try rfl) rfl ?_
      exact HO.out
    · have HLY := Lib.hid (show lineF ⟨bs, ts, hot, warm, cold, stamp, ns⟩ s = lineO ⟨bs, ts, hot, warm, cold, stamp, ns⟩ (some ⟨⟨rbs, rts, rx, ry, rz, stamp + (rm : Int), ns⟩, decT rm⟩) from by rw [HLX.out, cleanC_yes (by rw [HVD.out]; omega) HCD.out rfl])
      have hm4 : rm ≤ 4 := HCO.out.many
      have HSM := Lib.hid (show SmallDV ⟨rbs, rts, rx, ry, rz, stamp + (rm : Int), ns⟩ from small_shape HCO.out.heads.1 (shapeT_of HCO.out.tab) (by omega) (fun i hi => by have := names_txt HNM.out i hi; omega))
      have i0 := HGx.out.cell 0
      simp at i0
      have f0 := HGx.out.frozen 0
      go_upto_region 49 with (fail)
      have Gt := (HGx.out.set_ 0 (.slice A13 rbs.length c13))
      simp at Gt
      have HB15 := Lib.hid ((HBx.out.setCell (p := ⟨go, 0, none⟩) L7 (.slice A13 rbs.length c13)))
      have HG15 := Lib.hid Gt
      have HO15 := Lib.hid ((HOx.out.typed (ChgT.blk HGx.out 0 (.slice A13 rbs.length c13)) (by decide) (by decide) (by decide) (by decide) (by decide)))
      have HD15 := Lib.hid ((HDx.out.typed (ChgT.blk HGx.out 0 (.slice A13 rbs.length c13)) (by decide) (by decide)))
      have HE15 := Lib.hid ((HEx.out.typed (ChgT.blk HGx.out 0 (.slice A13 rbs.length c13)) (by decide) (by decide)))
      have HT15 := Lib.hid ((HT2.out.far (p := ⟨go, 0, none⟩) (by show gq ≠ go; omega) (.slice A13 rbs.length c13)))
      have HH15 := Lib.hid ((HH2.out.far (p := ⟨go, 0, none⟩) (by show gq + 1 ≠ go; omega) (.slice A13 rbs.length c13)))
      clear Gt
      generalize w14.setCell ⟨go, 0, none⟩ (.slice A13 rbs.length c13) = w15 at *
      clear i0 f0
      have u0 := HT15.out.cell 0
      simp at u0
      have i1 := HG15.out.cell 1
      simp at i1
      have f1 := HG15.out.frozen 1
      go_upto_region 50 with (fail)
      have Gt := (HG15.out.set_ 1 (.slice tA13 rts.length tc13))
      simp at Gt
      have HB16 := Lib.hid ((HB15.out.setCell (p := ⟨go, 1, none⟩) L7 (.slice tA13 rts.length tc13)))
      have HG16 := Lib.hid Gt
      have HO16 := Lib.hid ((HO15.out.typed (ChgT.blk HG15.out 1 (.slice tA13 rts.length tc13)) (by decide) (by decide) (by decide) (by decide) (by decide)))
      have HD16 := Lib.hid ((HD15.out.typed (ChgT.blk HG15.out 1 (.slice tA13 rts.length tc13)) (by decide) (by decide)))
      have HE16 := Lib.hid ((HE15.out.typed (ChgT.blk HG15.out 1 (.slice tA13 rts.length tc13)) (by decide) (by decide)))
      have HH16 := Lib.hid ((HH15.out.far (p := ⟨go, 1, none⟩) (by show gq + 1 ≠ go; omega) (.slice tA13 rts.length tc13)))
      clear Gt
      generalize w15.setCell ⟨go, 1, none⟩ (.slice tA13 rts.length tc13) = w16 at *
      clear i1 f1 u0
      have u0 := HH16.out.cell 0
      have u1 := HH16.out.cell 1
      have u2 := HH16.out.cell 2
      simp at u0 u1 u2
      have i2 := HG16.out.cell 2
      have i3 := HG16.out.cell 3
      have i4 := HG16.out.cell 4
      simp at i2 i3 i4
      have f2 := HG16.out.frozen 2
      have f3 := HG16.out.frozen 3
      have f4 := HG16.out.frozen 4
      go_upto_region 51 with (fail)
      have Gt := (((HG16.out.set_ 2 (.int .i64 rx)).set_ 3 (.int .i64 ry)).set_ 4 (.int .i64 rz))
      simp at Gt
      have HB17 := Lib.hid ((((HB16.out.setCell (p := ⟨go, 2, none⟩) L7 (.int .i64 rx)).setCell (p := ⟨go, 3, none⟩) L7 (.int .i64 ry)).setCell (p := ⟨go, 4, none⟩) L7 (.int .i64 rz)))
      have HG17 := Lib.hid Gt
      have HO17 := Lib.hid ((((HO16.out.typed (ChgT.blk HG16.out 2 (.int .i64 rx)) (by decide) (by decide) (by decide) (by decide) (by decide)).typed (ChgT.blk (HG16.out.set_ 2 (.int .i64 rx)) 3 (.int .i64 ry)) (by decide) (by decide) (by decide) (by decide) (by decide)).typed (ChgT.blk ((HG16.out.set_ 2 (.int .i64 rx)).set_ 3 (.int .i64 ry)) 4 (.int .i64 rz)) (by decide) (by decide) (by decide) (by decide) (by decide)))
      have HD17 := Lib.hid ((((HD16.out.typed (ChgT.blk HG16.out 2 (.int .i64 rx)) (by decide) (by decide)).typed (ChgT.blk (HG16.out.set_ 2 (.int .i64 rx)) 3 (.int .i64 ry)) (by decide) (by decide)).typed (ChgT.blk ((HG16.out.set_ 2 (.int .i64 rx)).set_ 3 (.int .i64 ry)) 4 (.int .i64 rz)) (by decide) (by decide)))
      have HE17 := Lib.hid ((((HE16.out.typed (ChgT.blk HG16.out 2 (.int .i64 rx)) (by decide) (by decide)).typed (ChgT.blk (HG16.out.set_ 2 (.int .i64 rx)) 3 (.int .i64 ry)) (by decide) (by decide)).typed (ChgT.blk ((HG16.out.set_ 2 (.int .i64 rx)).set_ 3 (.int .i64 ry)) 4 (.int .i64 rz)) (by decide) (by decide)))
      clear Gt
      generalize ((w16.setCell ⟨go, 2, none⟩ (.int .i64 rx)).setCell ⟨go, 3, none⟩ (.int .i64 ry)).setCell ⟨go, 4, none⟩ (.int .i64 rz) = w17 at *
      clear i2 i3 i4 f2 f3 f4 u0 u1 u2
      have K17 := HK5.out.below HB17.out HK5.out.lt
      have p5 := K17.cell 5
      simp at p5
      clear K17
      have wsm : IntKind.i64.wrap (stamp + (rm : Int)) = stamp + (rm : Int) := IntWalk.i64_in _ (by omega)
      have i5 := HG17.out.cell 5
      simp at i5
      have f5 := HG17.out.frozen 5
      go_upto_region 52 with (fail)
      have Gt := (HG17.out.set_ 5 (.int .i64 (stamp + (rm : Int))))
      simp at Gt
      have HB18 := Lib.hid ((HB17.out.setCell (p := ⟨go, 5, none⟩) L7 (.int .i64 (stamp + (rm : Int)))))
      have HG18 := Lib.hid Gt
      have HO18 := Lib.hid ((HO17.out.typed (ChgT.blk HG17.out 5 (.int .i64 (stamp + (rm : Int)))) (by decide) (by decide) (by decide) (by decide) (by decide)))
      have HD18 := Lib.hid ((HD17.out.typed (ChgT.blk HG17.out 5 (.int .i64 (stamp + (rm : Int)))) (by decide) (by decide)))
      have HE18 := Lib.hid ((HE17.out.typed (ChgT.blk HG17.out 5 (.int .i64 (stamp + (rm : Int)))) (by decide) (by decide)))
      clear Gt
      generalize w17.setCell ⟨go, 5, none⟩ (.int .i64 (stamp + (rm : Int))) = w18 at *
      clear i5 f5 p5
      go_upto_region 53 with (go_at_call 135; refine (l34Text_c rm (by omega) _).mono ?_; rintro e w19 ⟨rfl, b19⟩; have HG19 := Lib.hid (HG18.out.below b19 HG18.out.lt); have HO19 := Lib.hid (HO18.out.below b19); have HD19 := Lib.hid (HD18.out.below b19); have HE19 := Lib.hid (HE18.out.below b19); have HB19 := Lib.hid (HB18.out.trans (b19.mono HB18.out.size)); clear b19)
      have HOD := Lib.hid (show OwD w19 w5.heap.size ⟨A13, rbs.length, c13, tA13, rts.length, tc13, qA, qn, qc⟩ ⟨rbs, rts, rx, ry, rz, stamp + (rm : Int), ns⟩ from ⟨HD19.out, HE19.out, HO19.out.n⟩)
      have HKO := Lib.hid (show BoxD w19 go ⟨A13, rbs.length, c13, tA13, rts.length, tc13, qA, qn, qc⟩ ⟨rbs, rts, rx, ry, rz, stamp + (rm : Int), ns⟩ from HG19.out)
      go_upto_region 53 with (fail)
      have sm := HSM.out.h HOD.out.rd
      obtain ⟨p0, p1, p2, p3, p4, p5, p6⟩ := HKO.out.all7
      go_wp2_with fail
      refine (diskValid_spec (h := ⟨A13, rbs.length, c13, tA13, rts.length, tc13, qA, qn, qc⟩) (d := ⟨rbs, rts, rx, ry, rz, stamp + (rm : Int), ns⟩) HOD.out.rd (Nat.le_refl _) sm.b sm.t sm.n (fun i hi => Nat.le_trans (Int.ofNat_le.1 (show _ ≤ ((1048576 : Nat) : Int) from sm.ns i hi)) (by decide))).mono ?_
      by_cases hdo : DiskOk ⟨rbs, rts, rx, ry, rz, stamp + (rm : Int), ns⟩
      · have hbo := bof_t.2 hdo
        have HLZ := Lib.hid (HLY.out.trans (lineO_yes (show DiskOk (LineR.mk ⟨rbs, rts, rx, ry, rz, stamp + (rm : Int), ns⟩ _).d from hdo)))
        clear hdo
        rw [hbo]
        rintro e w20 ⟨rfl, bf⟩
        have HBf := Lib.hid (HB19.out.trans (bf.mono HB19.out.size))
        have KF := HKO.out.below bf HKO.out.lt
        have BF := Lib.hid bf
        have ODL := HOD.out.lower HB5.out.size
        clear p0 p1 p2 p3 p4 p5 p6 bf sm
        obtain ⟨s0, s1, s2, s3, s4, s5, s6⟩ := KF.all7
        have RR := HR5.out.below HBf.out HR5.out.lt
        obtain ⟨y0, y1, y2, y3, y4, y5, y6⟩ := RR.all7
        obtain ⟨z0, z1, z2, z3, z4, z5, z6⟩ := RR.free7
        have KP := Lib.hid (blk_putDisk RR ⟨A13, rbs.length, c13, tA13, rts.length, tc13, qA, qn, qc⟩ ⟨rbs, rts, rx, ry, rz, stamp + (rm : Int), ns⟩).1
        have HO := Lib.hid (ownL_of HLZ.out ODL BF.out RR (HB5.out.trans (HBf.out.mono HB5.out.size)))
        clear RR
        dsimp only [putDisk, BoxD] at KP HO
        go_upto_region 55 with (fail)
        repeat (first | go_values | go_skip | go_guarded | go_step | go_upon)
        generalize ((((((w20.setCell ⟨w.heap.size + 1, 0, none⟩ (.slice A13 rbs.length c13)).setCell ⟨w.heap.size + 1, 1, none⟩ (.slice tA13 rts.length tc13)).setCell ⟨w.heap.size + 1, 2, none⟩ (.int .i64 rx)).setCell ⟨w.heap.size + 1, 3, none⟩ (.int .i64 ry)).setCell ⟨w.heap.size + 1, 4, none⟩ (.int .i64 rz)).setCell ⟨w.heap.size + 1, 5, none⟩ (.int .i64 (stamp + (rm : Int)))).setCell ⟨w.heap.size + 1, 6, none⟩ (.slice qA qn qc) = wz at *
        obtain ⟨e0, e1, e2, e3, e4, e5, e6⟩ := KP.out.all7
        refine bodyPost_ret (by simp [results, Try.results105, go_sem, e0, e1, e2, e3, e4, e5, e6]; try rfl) rfl ?_
        exact HO.out
      · have hbo := bof_f.2 hdo
        have HLZ := Lib.hid (HLY.out.trans (lineO_no (show ¬ DiskOk (LineR.mk ⟨rbs, rts, rx, ry, rz, stamp + (rm : Int), ns⟩ _).d from hdo)))
        clear hdo
        rw [hbo]
        rintro e w20 ⟨rfl, bf⟩
        have HBf := Lib.hid (HB19.out.trans (bf.mono HB19.out.size))
        clear p0 p1 p2 p3 p4 p5 p6 bf sm
        have KS := HS5.out.below HBf.out HS5.out.lt
        obtain ⟨s0, s1, s2, s3, s4, s5, s6⟩ := KS.all7
        have RR := HR5.out.below HBf.out HR5.out.lt
        obtain ⟨y0, y1, y2, y3, y4, y5, y6⟩ := RR.all7
        obtain ⟨z0, z1, z2, z3, z4, z5, z6⟩ := RR.free7
        have KP := Lib.hid (blk_putDisk RR h4 ⟨bs, ts, hot, warm, cold, stamp, ns⟩).1
        have HO := Lib.hid (ownL_of HLZ.out O5.out HBf.out RR (HB5.out.trans (HBf.out.mono HB5.out.size)))
        clear RR
        dsimp only [putDisk, BoxD] at KP HO
        go_upto_region 54 with (fail)
        repeat (first | go_values | go_skip | go_guarded | go_step | go_upon)
        generalize ((((((w20.setCell ⟨w.heap.size + 1, 0, none⟩ (.slice h4.bA h4.bn h4.bc)).setCell ⟨w.heap.size + 1, 1, none⟩ (.slice h4.tA h4.tn h4.tc)).setCell ⟨w.heap.size + 1, 2, none⟩ (.int .i64 hot)).setCell ⟨w.heap.size + 1, 3, none⟩ (.int .i64 warm)).setCell ⟨w.heap.size + 1, 4, none⟩ (.int .i64 cold)).setCell ⟨w.heap.size + 1, 5, none⟩ (.int .i64 stamp)).setCell ⟨w.heap.size + 1, 6, none⟩ (.slice h4.nA h4.nn h4.nc) = wz at *
        obtain ⟨e0, e1, e2, e3, e4, e5, e6⟩ := KP.out.all7
        refine bodyPost_ret (by simp [results, Try.results105, go_sem, e0, e1, e2, e3, e4, e5, e6]; try rfl) rfl ?_
        exact HO.out
end Go.Proofs.Ytjnpgdhpneifjaa
