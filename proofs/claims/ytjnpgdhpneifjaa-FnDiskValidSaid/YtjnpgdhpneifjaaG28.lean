/- DiskLine by the reference, at a valid disk, the command read. -/
import Derived.Test.YtjnpgdhpneifjaaG1
import Derived.Test.YtjnpgdhpneifjaaG24
import Derived.Test.YtjnpgdhpneifjaaG17
namespace Go.Proofs.Ytjnpgdhpneifjaa
open Go.ChangeShapes Go.WideShapes Go.ChangeAt Go.RowKit Go.Deep
set_option linter.unusedVariables false
set_option linter.unusedSimpArgs false

set_option maxRecDepth 8000 in
set_option maxHeartbeats 8000000 in
theorem diskLine_read {h : DH} {d : DiskV} {s : ByteArray} {B : Nat} {w : World} (hr : RdD w B h d) (hB : B ≤ w.heap.size) (hcap : CapN h) (hok : DiskOk d) (hs : s.size ≤ 1048576) (h1 : wd s 0 = sRead) (h2 : (wordsL s).length = 3) (h3 : 0 ≤ findN d.ns (wd s 1)) (h4 : 0 ≤ numT (wd s 2) ∧ numT (wd s 2) ≤ 5) :
    Calls Try.prog 105 #[dkv h d, .string s] w (OwnL w (lineF d s)) := by
  have H1 := Lib.hid h1
  have H2 := Lib.hid h2
  have H3 := Lib.hid h3
  have H4 := Lib.hid h4
  clear h1 h2 h3 h4
  have hsh := (small_ok hok).h hr
  have HR := Lib.hid (hr.mono hB)
  have HOK := Lib.hid (bof_t.2 hok)
  have HL := Lib.hid (lineF_yes (s := s) hok)
  have HHD := Lib.hid hok.1
  have HTB := Lib.hid hok.2.1
  have HFIT := Lib.hid hok.2.2.1
  have HSTA := Lib.hid (show 0 ≤ d.stamp ∧ d.stamp ≤ 1000 from ⟨Int.le_trans (lastAt_range hok.1.1 (Nat.le_refl _)).1 hok.2.2.2.1.1, hok.2.2.2.1.2⟩)
  have HNM := Lib.hid hok.2.2.2.2.1
  have HDO := Lib.hid hok
  have HCAP := Lib.hid hcap
  have S1 := Lib.hid hsh.b
  have S2 := Lib.hid hsh.t
  have S3 := Lib.hid hsh.n
  have S4 := Lib.hid (show ∀ i, i < h.nn → (nTxt d.ns i).size ≤ 9223372036854775807 from fun i hi => by have := hsh.ns i hi; simp only [nTxt]; omega)
  have HN9 := Lib.hid (names_nine hok.2.2.2.2.1)
  clear hr hok hsh hcap
  obtain ⟨bA, bn, bc, tA, tn, tc, nA, nn, nc⟩ := h
  obtain ⟨bs, ts, hot, warm, cold, stamp, ns⟩ := d
  have b2 : Below w.heap.size w ((w.alloc (.cells #[.slice bA bn bc, .slice tA tn tc, .int .i64 hot, .int .i64 warm, .int .i64 cold, .int .i64 stamp, .slice nA nn nc] 42)).alloc (.cells #[.slice none 0 0, .slice none 0 0, .int .i64 0, .int .i64 0, .int .i64 0, .int .i64 0, .slice none 0 0] 42)) := ((Below.refl _ _).alloc (Nat.le_refl _) _).alloc (by simp) _
  have K2 := (Blk.new w 42 #[.slice bA bn bc, .slice tA tn tc, .int .i64 hot, .int .i64 warm, .int .i64 cold, .int .i64 stamp, .slice nA nn nc]).alloc (.cells #[.slice none 0 0, .slice none 0 0, .int .i64 0, .int .i64 0, .int .i64 0, .int .i64 0, .slice none 0 0] 42)
  have R2 := Blk.new (w.alloc (.cells #[.slice bA bn bc, .slice tA tn tc, .int .i64 hot, .int .i64 warm, .int .i64 cold, .int .i64 stamp, .slice nA nn nc] 42)) 42 #[.slice none 0 0, .slice none 0 0, .int .i64 0, .int .i64 0, .int .i64 0, .int .i64 0, .slice none 0 0]
  rw [show (w.alloc (.cells #[.slice bA bn bc, .slice tA tn tc, .int .i64 hot, .int .i64 warm, .int .i64 cold, .int .i64 stamp, .slice nA nn nc] 42)).heap.size = w.heap.size + 1 by simp] at R2
  go_enter Try.func105, Try.ntmps105
  go_upto_region 1 with (fail)
  generalize (w.alloc (.cells #[.slice bA bn bc, .slice tA tn tc, .int .i64 hot, .int .i64 warm, .int .i64 cold, .int .i64 stamp, .slice nA nn nc] 42)).alloc (.cells #[.slice none 0 0, .slice none 0 0, .int .i64 0, .int .i64 0, .int .i64 0, .int .i64 0, .slice none 0 0] 42) = w2 at *
  obtain ⟨t0, t1, t2, t3, t4, t5, t6⟩ := K2.all7
  go_wp2_with fail
  refine (diskValid_spec (HR.out.below b2) b2.size S1.out S2.out S3.out S4.out).mono ?_
  rw [HOK.out]
  rintro e w3 ⟨rfl, b3⟩
  have R3 := R2.below b3 R2.lt
  have K3 := K2.below b3 K2.lt
  have B3 := b2.trans (b3.mono b2.size)
  clear K2 R2 b2 b3 t0 t1 t2 t3 t4 t5 t6
  have HB3 := Lib.hid B3
  clear B3
  go_upto_region 3 with (fail)
  obtain ⟨t0, t1, t2, t3, t4, t5, t6⟩ := K3.all7
  go_wp2_with fail
  refine (l34Copy_c (h := ⟨bA, bn, bc, tA, tn, tc, nA, nn, nc⟩) (d := ⟨bs, ts, hot, warm, cold, stamp, ns⟩) (HR.out.below HB3.out) HB3.out.size HHD.out.1 HTB.out S3.out HCAP.out.nil).mono ?_
  rintro e w4 ⟨h4, rfl, o4, b4⟩
  have R4 := R3.below b4 R3.lt
  have K4 := K3.below b4 K3.lt
  have HB4 := Lib.hid (HB3.out.trans (b4.mono HB3.out.size))
  have O4 := Lib.hid (o4.lower (base' := w.heap.size) HB3.out.size)
  clear K3 R3 HB3 b4 t0 t1 t2 t3 t4 t5 t6 o4
  go_upto_region 4 with (fail)
  have b5 : Below w4.heap.size w4 (w4.alloc (.cells #[.slice h4.bA h4.bn h4.bc, .slice h4.tA h4.tn h4.tc, .int .i64 hot, .int .i64 warm, .int .i64 cold, .int .i64 stamp, .slice h4.nA h4.nn h4.nc] 42)) := (Below.refl _ _).alloc (Nat.le_refl _) _
  have HS5 := Lib.hid (Blk.new w4 42 #[.slice h4.bA h4.bn h4.bc, .slice h4.tA h4.tn h4.tc, .int .i64 hot, .int .i64 warm, .int .i64 cold, .int .i64 stamp, .slice h4.nA h4.nn h4.nc])
  have R5 := R4.below b5 R4.lt
  have K5 := K4.below b5 K4.lt
  have HB5 := Lib.hid (HB4.out.trans (b5.mono HB4.out.size))
  have O5 := Lib.hid (O4.out.below b5)
  have L5 : w.heap.size + 1 < w4.heap.size := R4.lt
  clear b5 K4 R4 HB4 O4
  generalize w4.alloc (.cells #[.slice h4.bA h4.bn h4.bc, .slice h4.tA h4.tn h4.tc, .int .i64 hot, .int .i64 warm, .int .i64 cold, .int .i64 stamp, .slice h4.nA h4.nn h4.nc] 42) = w5 at *
  generalize w4.heap.size = gs at *
  obtain ⟨t0, t1, t2, t3, t4, t5, t6⟩ := K5.all7
  have HK5 := Lib.hid K5
  have HR5 := Lib.hid R5
  clear K5 R5
  go_wp2_with fail
  refine (l34Copy_c (h := ⟨bA, bn, bc, tA, tn, tc, nA, nn, nc⟩) (d := ⟨bs, ts, hot, warm, cold, stamp, ns⟩) (HR.out.below HB5.out) HB5.out.size HHD.out.1 HTB.out S3.out HCAP.out.nil).mono ?_
  rintro e w6 ⟨⟨oA, on, oc, pA, pn, pc, qA, qn, qc⟩, rfl, O6, b6⟩
  clear t0 t1 t2 t3 t4 t5 t6
  go_upto_region 5 with (fail)
  have b7 : Below w6.heap.size w6 (w6.alloc (.cells #[.slice oA on oc, .slice pA pn pc, .int .i64 hot, .int .i64 warm, .int .i64 cold, .int .i64 stamp, .slice qA qn qc] 42)) := (Below.refl _ _).alloc (Nat.le_refl _) _
  have G7 := Blk.new w6 42 #[.slice oA on oc, .slice pA pn pc, .int .i64 hot, .int .i64 warm, .int .i64 cold, .int .i64 stamp, .slice qA qn qc]
  have HB7 := Lib.hid (b6.trans (b7.mono b6.size))
  have O7 := O6.below b7
  have L7 : w5.heap.size ≤ w6.heap.size := b6.size
  clear b6 b7 O6
  generalize w6.alloc (.cells #[.slice oA on oc, .slice pA pn pc, .int .i64 hot, .int .i64 warm, .int .i64 cold, .int .i64 stamp, .slice qA qn qc] 42) = w7 at *
  generalize w6.heap.size = go at *
  go_wp2_with fail
  refine (l34Words_c s w7 hs).mono ?_
  rintro e w8 ⟨g8, c8, rfl, o8, b8⟩
  have HW8 := wordsTo_len s s.size
  change 1 ≤ (wordsL s).length ∧ (wordsL s).length ≤ s.size + 1 at HW8
  have G8 := G7.below b8 G7.lt
  have O8 := O7.below b8
  have HB8 := Lib.hid (HB7.out.trans (b8.mono HB7.out.size))
  have HB78 := Lib.hid (show Below w5.heap.size w5 w7 from HB7.out)
  have L8 : go < w7.heap.size := G7.lt
  clear G7 O7 HB7
  generalize hws : (wordsL s).length = m at *
  go_wp2_with (at_builtin; refine wpList_appSt3 rfl rfl rfl o8 rfl (by omega) b8.size ?_; rintro g9 c9 w9 o9 gr9)
  have G9 := G8.grown gr9 (fun h => by injection h with h; have := (own_lt o8 (k := go) (by rw [h]; rfl)).1; omega)
  have C9 : ChgT [9] w8 w9 := ChgT.grown o8 (by simp) gr9
  have O9 := O8.typed C9 (by decide) (by decide) (by decide) (by decide) (by decide)
  have HB9 := Lib.hid (below_app HB8.out (own_lower o8 HB78.out.size) HB8.out.size gr9)
  have HW9 := Lib.hid (words_cells o9 hws)
  have gl9 : g9 < w9.heap.size := (own_lt o9 (k := g9) rfl).2
  have HG9 := Lib.hid G9
  have HO9 := Lib.hid O9
  clear G8 O8 HB8 L8 o8 b8 gr9 C9 G9 O9 HB78 o9
  go_upto_region 7 with (fail)
  have l5w := HK5.out.lt
  have HK9 := Lib.hid (HK5.out.below HB9.out l5w)
  have c10 := HK9.out.cell 6
  simp at c10
  have c11 := HW9.out 1 (by omega)
  have q0 : (0 : Int) < (m : Int) + 3 := by omega
  have q1 : (1 : Int) < (m : Int) + 3 := by omega
  have q2 : (2 : Int) < (m : Int) + 3 := by omega
  have q3 : (3 : Int) < (m : Int) + 3 := by omega
  refine wp_region_held_drew (S := fun w' => w'.cell? ⟨w.heap.size, 6, none⟩ = some (.slice nA nn nc) ∧ w'.cell? ⟨g9, 1, none⟩ = some (.string (wd s 1))) (by kernel_rfl) ?_ (fun hHeld => ?_)
  · exact ⟨c10, c11⟩
  refine tk 0 ?_
  refine tk 1 ?_
  refine tk 2 ?_
  refine tk 3 ?_
  refine tk 4 ?_
  refine rd1 5 (fun K hK => ?_)
  go_simp
  refine (findName_spec (HR.out.below (HB5.out.trans (HB9.out.mono HB5.out.size))).drew.n (Nat.le_trans HB5.out.size HB9.out.size) S3.out S4.out HNM.out).mono ?_; rintro e w10 ⟨rfl, b10⟩; have b10 : Below w9.heap.size w9 w10 := ((Below.refl _ _).drew).trans b10
  go_wp2_with fail
  refine hK.out _ _ ?_ (fun hHeld => ?_)
  · exact ⟨(b10.cell (p := ⟨w.heap.size, 6, none⟩) HK9.out.lt).trans c10, (b10.cell (p := ⟨g9, 1, none⟩) gl9).trans c11⟩
  clear hK K
  refine pt ?_
  refine tk 6 ?_
  refine wpAnyH_done (by kernel_rfl) ?_ _
  clear hHeld c10 c11
  have c12 := (b10.cell (p := ⟨g9, 2, none⟩) gl9).trans (HW9.out 2 (by omega))
  have HB10 := Lib.hid b10
  clear b10
  have hwd2 : (wd s 2).size ≤ 9223372036854775807 := by have := wd_size s 2; omega
  have m1 : ((wd s 0).toList == [109, 97, 107, 101]) = false := toList_ne sMake_l (by rw [H1.out]; decide)
  have m2 : ((wd s 0).toList == [119, 114, 105, 116, 101]) = false := toList_ne sWrite_l (by rw [H1.out]; decide)
  have m3 : ((wd s 0).toList == [114, 101, 97, 100]) = true := by rw [H1.out, sRead_l]; rfl
  have mc : ((m : Int) == 3) = true := by rw [H2.out]; rfl
  have mf : 0 ≤ findN ns (wd s 1) := H3.out
  have mp := H4.out
  go_upto_region 11 with (go_at_call 132; refine (l34Number_c _ _ hwd2).mono ?_; rintro e w11 ⟨rfl, b11⟩; have HB11 := Lib.hid (HB10.out.trans (b11.mono HB10.out.size)); clear HB10 b11 c12 hwd2; have y0 := (HB11.out.cell (p := ⟨g9, 0, none⟩) gl9).trans (HW9.out 0 (by omega)))
  obtain rfl : ns.length = nn := HR.out.n.len
  have hn9 : ns.length ≤ 9 := HN9.out
  have HBB := Lib.hid (HB9.out.trans (HB11.out.mono HB9.out.size))
  have HBW := Lib.hid (HB5.out.trans (HBB.out.mono HB5.out.size))
  have HRr := Lib.hid (HR.out.below HBW.out)
  have HKk := Lib.hid (HK5.out.below HBB.out HK5.out.lt)
  have HGg := Lib.hid (HG9.out.below HB11.out HG9.out.lt)
  have HOo := Lib.hid (HO9.out.below HB11.out)
  have HWw := Lib.hid (show ∀ i, i < m + 3 → w11.cell? ⟨g9, i, none⟩ = some (.string (wd s i)) from fun i hi => (HB11.out.cell (p := ⟨g9, i, none⟩) gl9).trans (HW9.out i hi))
  have gl : g9 < w11.heap.size := Nat.lt_of_lt_of_le gl9 HB11.out.size
  have gl5 : w5.heap.size ≤ w11.heap.size := HBB.out.size
  have glw : w.heap.size ≤ w11.heap.size := HBW.out.size
  clear HB9 HB11 HK9 HG9 HO9 HW9 gl9 l5w
  have hib : inB (numT (wd s 2)) 0 5 = true := inB_t.2 mp
  go_upto_region 35 with (go_at_call 32; refine (l1In_c _ _ _ _).mono ?_; rw [hib]; rintro e w' ⟨rfl, rfl⟩)
  clear hib
  have hfr := findN_range HNM.out (wd s 1)
  obtain ⟨fN, hfN⟩ : ∃ n : Nat, findN ns (wd s 1) = n := ⟨(findN ns (wd s 1)).toNat, by omega⟩
  obtain ⟨pN, hpN⟩ : ∃ n : Nat, numT (wd s 2) = n := ⟨(numT (wd s 2)).toNat, by omega⟩
  have hlx : lineF ⟨bs, ts, hot, warm, cold, stamp, ns⟩ s = lineO ⟨bs, ts, hot, warm, cold, stamp, ns⟩ (some ⟨⟨bs, ts, hot, warm, cold, stamp, ns⟩, if (pgAt bs (tE ts fN pN)).full = true then decT (pgAt bs (tE ts fN pN)).value.toNat else sNone⟩) := by rw [HL.out, cmdC_read H1.out (hws.trans H2.out), readC_yes hfN hpN (by omega)]
  rw [lineO_yes (show DiskOk (LineR.mk ⟨bs, ts, hot, warm, cold, stamp, ns⟩ _).d from HDO.out)] at hlx
  have hpo : PageOk (pgAt bs (tE ts fN pN)) := pgAt_ok HHD.out.1 (tE ts fN pN)
  generalize hpv : pgAt bs (tE ts fN pN) = pv at hlx hpo
  obtain ⟨pf, pfi, ppl, pva, pst⟩ := pv
  have HPV := Lib.hid hpv
  have HLX := Lib.hid hlx
  clear hpv hlx
  have hva : 0 ≤ pva ∧ pva ≤ 9999 := by unfold PageOk at hpo; split at hpo <;> simp only at hpo <;> omega
  clear hpo
  obtain ⟨vn, rfl⟩ : ∃ n : Nat, pva = n := ⟨pva.toNat, by omega⟩
  have hf8 : fN < 8 := by omega
  have hp6 : pN < 6 := by omega
  rw [hfN, hpN]
  clear mf mp hfr hfN hpN
  have p0 := HKk.out.cell 0
  have p1 := HKk.out.cell 1
  simp at p0 p1
  have lk := HKk.out.lt
  go_cut [22, 23] from 178 to 187 (fun p q wx => ∃ g, p = .pointer (some ⟨g, 0, none⟩) ∧ q = .bool pf ∧ w11.heap.size ≤ g ∧ Blk wx g 102 #[.bool pf, .int .i64 pfi, .int .i64 ppl, .int .i64 (vn : Int), .int .i64 pst] ∧ Below w11.heap.size w11 wx)
  case first =>
    refine wp_region_held_drew (S := fun w' => w'.cell? ⟨w.heap.size, 0, none⟩ = some (.slice bA bn bc) ∧ w'.cell? ⟨w.heap.size, 1, none⟩ = some (.slice tA tn tc)) (by kernel_rfl) ?_ (fun hHeld => ?_)
    · exact ⟨p0, p1⟩
    refine tk 0 ?_
    refine tk 1 ?_
    refine tk 2 ?_
    refine tk 3 ?_
    refine tk 4 ?_
    refine tk 5 ?_
    have bdwq : Below w11.heap.size w11 w11.drew := (Below.refl _ _).drew
    have szd : w11.heap.size ≤ w11.drew.heap.size := Nat.le_refl _
    have HRwq := Lib.hid HRr.out.drew
    have p0q : w11.drew.cell? ⟨w.heap.size, 0, none⟩ = some (.slice bA bn bc) := p0
    have p1q : w11.drew.cell? ⟨w.heap.size, 1, none⟩ = some (.slice tA tn tc) := p1
    generalize w11.drew = wq at *
    refine rd2 6 11 (fun K hK => ?_) (fun K hK => ?_)
    · go_simp
      refine (tableGet_spec HRwq.out.t (by omega) HTB.out hf8 hp6).mono ?_
      rintro e wb ⟨rfl, bx⟩
      go_wp2_with fail
      have sx := bx.size
      have p0r := (bx.cell (p := ⟨w.heap.size, 0, none⟩) (by show w.heap.size < _; omega)).trans p0q
      have p1r := (bx.cell (p := ⟨w.heap.size, 1, none⟩) (by show w.heap.size < _; omega)).trans p1q
      refine hK.out _ _ ?_ (fun hHeld => ?_)
      · exact ⟨p0r, p1r⟩
      clear hK K
      refine pt ?_
      have HRwb := Lib.hid (HRwq.out.below (bx.mono (by omega)))
      have bdwb := bdwq.trans (bx.mono (by omega))
      clear bx
      refine rd2 7 11 (fun K hK => ?_) (fun K hK => ?_)
      · go_simp
        refine (readPage_sX HRwb.out.b (by omega) S1.out HHD.out.1).mono ?_
        rw [HPV.out, show pgv ⟨pf, pfi, ppl, (vn : Int), pst⟩ = .agg #[.bool pf, .int .i64 pfi, .int .i64 ppl, .int .i64 (vn : Int), .int .i64 pst] from rfl]
        rintro e we ⟨rfl, bx⟩
        go_wp2_with fail
        have sx := bx.size
        have p0t := (bx.cell (p := ⟨w.heap.size, 0, none⟩) (by show w.heap.size < _; omega)).trans p0r
        have p1t := (bx.cell (p := ⟨w.heap.size, 1, none⟩) (by show w.heap.size < _; omega)).trans p1r
        refine hK.out _ _ ?_ (fun hHeld => ?_)
        · exact ⟨p0t, p1t⟩
        clear hK K
        refine pt ?_
        have HRwe := Lib.hid (HRwb.out.below (bx.mono (by omega)))
        have bdwe := bdwb.trans (bx.mono (by omega))
        clear bx
        refine tk 8 ?_
        refine tk 9 ?_
        refine tk 10 ?_
        have bz : Below we.heap.size we (we.alloc (.cells #[.bool false, .int .i64 0, .int .i64 0, .int .i64 0, .int .i64 0] 102)) := (Below.refl _ _).alloc (Nat.le_refl _) _
        have bw : Below we.heap.size we (we.alloc (.cells #[.bool pf, .int .i64 pfi, .int .i64 ppl, .int .i64 (vn : Int), .int .i64 pst] 102)) := (Below.refl _ _).alloc (Nat.le_refl _) _
        have p0z := (bz.cell (p := ⟨w.heap.size, 0, none⟩) (by show w.heap.size < _; omega)).trans p0t
        have p1z := (bz.cell (p := ⟨w.heap.size, 1, none⟩) (by show w.heap.size < _; omega)).trans p1t
        have p0v := (bw.cell (p := ⟨w.heap.size, 0, none⟩) (by show w.heap.size < _; omega)).trans p0t
        have p1v := (bw.cell (p := ⟨w.heap.size, 1, none⟩) (by show w.heap.size < _; omega)).trans p1t
        refine rd1 11 (fun K hK => ?_)
        go_simp
        refine hK.out _ _ ?_ (fun hHeld => ?_)
        · exact ⟨p0z, p1z⟩
        clear hK K
        refine pt ?_
        refine rd1 12 (fun K hK => ?_)
        go_simp
        refine hK.out _ _ ?_ (fun hHeld => ?_)
        · exact ⟨p0v, p1v⟩
        clear hK K
        refine pt ?_
        refine tk 13 ?_
        refine wpAnyH_done (by kernel_rfl) ?_ _
        have ke := Blk.new we 102 #[.bool pf, .int .i64 pfi, .int .i64 ppl, .int .i64 (vn : Int), .int .i64 pst]
        have be := bdwe.trans (bw.mono (by omega))
        go_wp2_with fail
        go_meet
        exact ⟨_, rfl, rfl, by omega, ke, be⟩
      · go_simp
        have bz : Below wb.heap.size wb (wb.alloc (.cells #[.bool false, .int .i64 0, .int .i64 0, .int .i64 0, .int .i64 0] 102)) := (Below.refl _ _).alloc (Nat.le_refl _) _
        have nb := Blk.new wb 102 #[.bool false, .int .i64 0, .int .i64 0, .int .i64 0, .int .i64 0]
        have szz := bz.size
        have lnb := nb.lt
        have hgq : w11.heap.size ≤ wb.heap.size := by omega
        have p0s := (bz.cell (p := ⟨w.heap.size, 0, none⟩) (by show w.heap.size < _; omega)).trans p0r
        have p1s := (bz.cell (p := ⟨w.heap.size, 1, none⟩) (by show w.heap.size < _; omega)).trans p1r
        refine hK.out _ _ ?_ (fun hHeld => ?_)
        · exact ⟨p0s, p1s⟩
        clear hK K
        refine pt ?_
        have HRwa := Lib.hid (HRwb.out.below (bz.mono (by omega)))
        have bdwa := bdwb.trans (bz.mono (by omega))
        generalize wb.alloc (.cells #[.bool false, .int .i64 0, .int .i64 0, .int .i64 0, .int .i64 0] 102) = wa at *
        generalize wb.heap.size = gq at *
        clear bz
        refine rd1 7 (fun K hK => ?_)
        go_simp
        refine (readPage_sX HRwa.out.b (by omega) S1.out HHD.out.1).mono ?_
        rw [HPV.out, show pgv ⟨pf, pfi, ppl, (vn : Int), pst⟩ = .agg #[.bool pf, .int .i64 pfi, .int .i64 ppl, .int .i64 (vn : Int), .int .i64 pst] from rfl]
        rintro e we ⟨rfl, bx⟩
        go_wp2_with fail
        have sx := bx.size
        have p0t := (bx.cell (p := ⟨w.heap.size, 0, none⟩) (by show w.heap.size < _; omega)).trans p0s
        have p1t := (bx.cell (p := ⟨w.heap.size, 1, none⟩) (by show w.heap.size < _; omega)).trans p1s
        refine hK.out _ _ ?_ (fun hHeld => ?_)
        · exact ⟨p0t, p1t⟩
        clear hK K
        refine pt ?_
        have HRwe := Lib.hid (HRwa.out.below (bx.mono (by omega)))
        have bdwe := bdwa.trans (bx.mono (by omega))
        have nbb := nb.below bx lnb
        clear nb lnb
        have nb := nbb
        have lnb := nb.lt
        clear nbb
        clear bx
        refine tk 8 ?_
        refine tk 9 ?_
        refine tk 10 ?_
        have yy0 := nb.cell 0
        have yy1 := nb.cell 1
        have yy2 := nb.cell 2
        have yy3 := nb.cell 3
        have yy4 := nb.cell 4
        simp at yy0 yy1 yy2 yy3 yy4
        have zz0 := nb.frozen 0
        have zz1 := nb.frozen 1
        have zz2 := nb.frozen 2
        have zz3 := nb.frozen 3
        have zz4 := nb.frozen 4
        have ke := (((((nb.set_ 0 (.bool pf)).set_ 1 (.int .i64 pfi)).set_ 2 (.int .i64 ppl)).set_ 3 (.int .i64 (vn : Int))).set_ 4 (.int .i64 pst))
        simp at ke
        have be := (((((bdwe).setCell (p := ⟨gq, 0, none⟩) hgq (.bool pf)).setCell (p := ⟨gq, 1, none⟩) hgq (.int .i64 pfi)).setCell (p := ⟨gq, 2, none⟩) hgq (.int .i64 ppl)).setCell (p := ⟨gq, 3, none⟩) hgq (.int .i64 (vn : Int))).setCell (p := ⟨gq, 4, none⟩) hgq (.int .i64 pst)
        have p0u := ((World.cell?_setCell_far _ ⟨gq, 4, none⟩ ⟨w.heap.size, 0, none⟩ (.int .i64 pst) (by show gq ≠ w.heap.size; omega)).trans ((World.cell?_setCell_far _ ⟨gq, 3, none⟩ ⟨w.heap.size, 0, none⟩ (.int .i64 (vn : Int)) (by show gq ≠ w.heap.size; omega)).trans ((World.cell?_setCell_far _ ⟨gq, 2, none⟩ ⟨w.heap.size, 0, none⟩ (.int .i64 ppl) (by show gq ≠ w.heap.size; omega)).trans ((World.cell?_setCell_far _ ⟨gq, 1, none⟩ ⟨w.heap.size, 0, none⟩ (.int .i64 pfi) (by show gq ≠ w.heap.size; omega)).trans ((World.cell?_setCell_far _ ⟨gq, 0, none⟩ ⟨w.heap.size, 0, none⟩ (.bool pf) (by show gq ≠ w.heap.size; omega)).trans p0t)))))
        have p1u := ((World.cell?_setCell_far _ ⟨gq, 4, none⟩ ⟨w.heap.size, 1, none⟩ (.int .i64 pst) (by show gq ≠ w.heap.size; omega)).trans ((World.cell?_setCell_far _ ⟨gq, 3, none⟩ ⟨w.heap.size, 1, none⟩ (.int .i64 (vn : Int)) (by show gq ≠ w.heap.size; omega)).trans ((World.cell?_setCell_far _ ⟨gq, 2, none⟩ ⟨w.heap.size, 1, none⟩ (.int .i64 ppl) (by show gq ≠ w.heap.size; omega)).trans ((World.cell?_setCell_far _ ⟨gq, 1, none⟩ ⟨w.heap.size, 1, none⟩ (.int .i64 pfi) (by show gq ≠ w.heap.size; omega)).trans ((World.cell?_setCell_far _ ⟨gq, 0, none⟩ ⟨w.heap.size, 1, none⟩ (.bool pf) (by show gq ≠ w.heap.size; omega)).trans p1t)))))
        refine rd1 12 (fun K hK => ?_)
        go_simp
        refine hK.out _ _ ?_ (fun hHeld => ?_)
        · exact ⟨p0u, p1u⟩
        clear hK K
        refine pt ?_
        refine tk 13 ?_
        refine wpAnyH_done (by kernel_rfl) ?_ _
        go_wp2_with fail
        go_meet
        exact ⟨_, rfl, rfl, by omega, ke, be⟩
    · go_simp
      have bz : Below wq.heap.size wq (wq.alloc (.cells #[.bool false, .int .i64 0, .int .i64 0, .int .i64 0, .int .i64 0] 102)) := (Below.refl _ _).alloc (Nat.le_refl _) _
      have nb := Blk.new wq 102 #[.bool false, .int .i64 0, .int .i64 0, .int .i64 0, .int .i64 0]
      have szz := bz.size
      have lnb := nb.lt
      have hgq : w11.heap.size ≤ wq.heap.size := by omega
      have p0r := (bz.cell (p := ⟨w.heap.size, 0, none⟩) (by show w.heap.size < _; omega)).trans p0q
      have p1r := (bz.cell (p := ⟨w.heap.size, 1, none⟩) (by show w.heap.size < _; omega)).trans p1q
      refine hK.out _ _ ?_ (fun hHeld => ?_)
      · exact ⟨p0r, p1r⟩
      clear hK K
      refine pt ?_
      have HRwa := Lib.hid (HRwq.out.below (bz.mono (by omega)))
      have bdwa := bdwq.trans (bz.mono (by omega))
      generalize wq.alloc (.cells #[.bool false, .int .i64 0, .int .i64 0, .int .i64 0, .int .i64 0] 102) = wa at *
      generalize wq.heap.size = gq at *
      clear bz
      refine rd1 6 (fun K hK => ?_)
      go_simp
      refine (tableGet_spec HRwa.out.t (by omega) HTB.out hf8 hp6).mono ?_
      rintro e wb ⟨rfl, bx⟩
      go_wp2_with fail
      have sx := bx.size
      have p0s := (bx.cell (p := ⟨w.heap.size, 0, none⟩) (by show w.heap.size < _; omega)).trans p0r
      have p1s := (bx.cell (p := ⟨w.heap.size, 1, none⟩) (by show w.heap.size < _; omega)).trans p1r
      refine hK.out _ _ ?_ (fun hHeld => ?_)
      · exact ⟨p0s, p1s⟩
      clear hK K
      refine pt ?_
      have HRwb := Lib.hid (HRwa.out.below (bx.mono (by omega)))
      have bdwb := bdwa.trans (bx.mono (by omega))
      have nbb := nb.below bx lnb
      clear nb lnb
      have nb := nbb
      have lnb := nb.lt
      clear nbb
      clear bx
      refine rd1 7 (fun K hK => ?_)
      go_simp
      refine (readPage_sX HRwb.out.b (by omega) S1.out HHD.out.1).mono ?_
      rw [HPV.out, show pgv ⟨pf, pfi, ppl, (vn : Int), pst⟩ = .agg #[.bool pf, .int .i64 pfi, .int .i64 ppl, .int .i64 (vn : Int), .int .i64 pst] from rfl]
      rintro e we ⟨rfl, bx⟩
      go_wp2_with fail
      have sx := bx.size
      have p0t := (bx.cell (p := ⟨w.heap.size, 0, none⟩) (by show w.heap.size < _; omega)).trans p0s
      have p1t := (bx.cell (p := ⟨w.heap.size, 1, none⟩) (by show w.heap.size < _; omega)).trans p1s
      refine hK.out _ _ ?_ (fun hHeld => ?_)
      · exact ⟨p0t, p1t⟩
      clear hK K
      refine pt ?_
      have HRwe := Lib.hid (HRwb.out.below (bx.mono (by omega)))
      have bdwe := bdwb.trans (bx.mono (by omega))
      have nbb := nb.below bx lnb
      clear nb lnb
      have nb := nbb
      have lnb := nb.lt
      clear nbb
      clear bx
      refine tk 8 ?_
      refine tk 9 ?_
      refine tk 10 ?_
      have yy0 := nb.cell 0
      have yy1 := nb.cell 1
      have yy2 := nb.cell 2
      have yy3 := nb.cell 3
      have yy4 := nb.cell 4
      simp at yy0 yy1 yy2 yy3 yy4
      have zz0 := nb.frozen 0
      have zz1 := nb.frozen 1
      have zz2 := nb.frozen 2
      have zz3 := nb.frozen 3
      have zz4 := nb.frozen 4
      have ke := (((((nb.set_ 0 (.bool pf)).set_ 1 (.int .i64 pfi)).set_ 2 (.int .i64 ppl)).set_ 3 (.int .i64 (vn : Int))).set_ 4 (.int .i64 pst))
      simp at ke
      have be := (((((bdwe).setCell (p := ⟨gq, 0, none⟩) hgq (.bool pf)).setCell (p := ⟨gq, 1, none⟩) hgq (.int .i64 pfi)).setCell (p := ⟨gq, 2, none⟩) hgq (.int .i64 ppl)).setCell (p := ⟨gq, 3, none⟩) hgq (.int .i64 (vn : Int))).setCell (p := ⟨gq, 4, none⟩) hgq (.int .i64 pst)
      have p0u := ((World.cell?_setCell_far _ ⟨gq, 4, none⟩ ⟨w.heap.size, 0, none⟩ (.int .i64 pst) (by show gq ≠ w.heap.size; omega)).trans ((World.cell?_setCell_far _ ⟨gq, 3, none⟩ ⟨w.heap.size, 0, none⟩ (.int .i64 (vn : Int)) (by show gq ≠ w.heap.size; omega)).trans ((World.cell?_setCell_far _ ⟨gq, 2, none⟩ ⟨w.heap.size, 0, none⟩ (.int .i64 ppl) (by show gq ≠ w.heap.size; omega)).trans ((World.cell?_setCell_far _ ⟨gq, 1, none⟩ ⟨w.heap.size, 0, none⟩ (.int .i64 pfi) (by show gq ≠ w.heap.size; omega)).trans ((World.cell?_setCell_far _ ⟨gq, 0, none⟩ ⟨w.heap.size, 0, none⟩ (.bool pf) (by show gq ≠ w.heap.size; omega)).trans p0t)))))
      have p1u := ((World.cell?_setCell_far _ ⟨gq, 4, none⟩ ⟨w.heap.size, 1, none⟩ (.int .i64 pst) (by show gq ≠ w.heap.size; omega)).trans ((World.cell?_setCell_far _ ⟨gq, 3, none⟩ ⟨w.heap.size, 1, none⟩ (.int .i64 (vn : Int)) (by show gq ≠ w.heap.size; omega)).trans ((World.cell?_setCell_far _ ⟨gq, 2, none⟩ ⟨w.heap.size, 1, none⟩ (.int .i64 ppl) (by show gq ≠ w.heap.size; omega)).trans ((World.cell?_setCell_far _ ⟨gq, 1, none⟩ ⟨w.heap.size, 1, none⟩ (.int .i64 pfi) (by show gq ≠ w.heap.size; omega)).trans ((World.cell?_setCell_far _ ⟨gq, 0, none⟩ ⟨w.heap.size, 1, none⟩ (.bool pf) (by show gq ≠ w.heap.size; omega)).trans p1t)))))
      refine rd1 12 (fun K hK => ?_)
      go_simp
      refine hK.out _ _ ?_ (fun hHeld => ?_)
      · exact ⟨p0u, p1u⟩
      clear hK K
      refine pt ?_
      refine tk 13 ?_
      refine wpAnyH_done (by kernel_rfl) ?_ _
      go_wp2_with fail
      go_meet
      exact ⟨_, rfl, rfl, by omega, ke, be⟩
  case rest =>
    obtain ⟨gp, rfl, rfl, hgp, PB, bc⟩ := hcut
    have HBc := Lib.hid (HBB.out.trans (bc.mono gl5))
    clear bc p0 p1
    cases pf
    · have HLY := Lib.hid (show lineF ⟨bs, ts, hot, warm, cold, stamp, ns⟩ s = ⟨⟨bs, ts, hot, warm, cold, stamp, ns⟩, sNone⟩ from by rw [HLX.out]; rfl)
      have KS := HS5.out.below HBc.out HS5.out.lt
      obtain ⟨s0, s1, s2, s3, s4, s5, s6⟩ := KS.all7
      have RR := HR5.out.below HBc.out HR5.out.lt
      obtain ⟨y0, y1, y2, y3, y4, y5, y6⟩ := RR.all7
      obtain ⟨z0, z1, z2, z3, z4, z5, z6⟩ := RR.free7
      have KP := Lib.hid (blk_putDisk RR h4 ⟨bs, ts, hot, warm, cold, stamp, ns⟩).1
      have HO := Lib.hid (ownL_of HLY.out O5.out HBc.out RR (HB5.out.trans (HBc.out.mono HB5.out.size)))
      clear RR
      dsimp only [putDisk, BoxD] at KP HO
      go_upto_region 37 with (fail)
      repeat (first | go_values | go_skip | go_guarded | go_step | go_upon)
      generalize ((((((wc.setCell ⟨w.heap.size + 1, 0, none⟩ (.slice h4.bA h4.bn h4.bc)).setCell ⟨w.heap.size + 1, 1, none⟩ (.slice h4.tA h4.tn h4.tc)).setCell ⟨w.heap.size + 1, 2, none⟩ (.int .i64 hot)).setCell ⟨w.heap.size + 1, 3, none⟩ (.int .i64 warm)).setCell ⟨w.heap.size + 1, 4, none⟩ (.int .i64 cold)).setCell ⟨w.heap.size + 1, 5, none⟩ (.int .i64 stamp)).setCell ⟨w.heap.size + 1, 6, none⟩ (.slice h4.nA h4.nn h4.nc) = wz at *
      obtain ⟨e0, e1, e2, e3, e4, e5, e6⟩ := KP.out.all7
      refine bodyPost_ret (by simp [results, Try.results105, go_sem, e0, e1, e2, e3, e4, e5, e6]; try rfl) rfl ?_
      exact HO.out
    · have HLY := Lib.hid (show lineF ⟨bs, ts, hot, warm, cold, stamp, ns⟩ s = ⟨⟨bs, ts, hot, warm, cold, stamp, ns⟩, decT vn⟩ from by rw [HLX.out]; rfl)
      go_upto_region 38 with (fail)
      have KS := HS5.out.below HBc.out HS5.out.lt
      obtain ⟨s0, s1, s2, s3, s4, s5, s6⟩ := KS.all7
      have g3 := PB.cell 3
      simp at g3
      have lks := KS.lt
      have lpb := PB.lt
      refine wp_region_held_drew (S := fun w' => (w'.cell? ⟨gs, 0, none⟩ = some (.slice h4.bA h4.bn h4.bc) ∧ w'.cell? ⟨gs, 1, none⟩ = some (.slice h4.tA h4.tn h4.tc) ∧ w'.cell? ⟨gs, 2, none⟩ = some (.int .i64 hot) ∧ w'.cell? ⟨gs, 3, none⟩ = some (.int .i64 warm) ∧ w'.cell? ⟨gs, 4, none⟩ = some (.int .i64 cold) ∧ w'.cell? ⟨gs, 5, none⟩ = some (.int .i64 stamp) ∧ w'.cell? ⟨gs, 6, none⟩ = some (.slice h4.nA h4.nn h4.nc)) ∧ w'.cell? ⟨gp, 3, none⟩ = some (.int .i64 (vn : Int))) (by kernel_rfl) ?_ (fun hHeld => ?_)
      · exact ⟨⟨s0, s1, s2, s3, s4, s5, s6⟩, g3⟩
      refine tk 0 ?_
      refine tk 1 ?_
      refine tk 2 ?_
      refine rd1 3 (fun K hK => ?_)
      go_simp
      refine (l34Text_c vn (by omega) _).mono ?_; rintro e wt ⟨rfl, bt⟩; have bt : Below wc.heap.size wc wt := ((Below.refl _ _).drew).trans bt
      go_wp2_with fail
      refine hK.out _ _ ?_ (fun hHeld => ?_)
      · exact ⟨(KS.below bt lks).all7, (bt.cell (p := ⟨gp, 3, none⟩) lpb).trans g3⟩
      clear hK K
      refine pt ?_
      have HBt := Lib.hid (HBc.out.trans (bt.mono HBc.out.size))
      have KSt := KS.below bt lks
      have PBt := PB.below bt lpb
      clear bt hHeld s0 s1 s2 s3 s4 s5 s6 g3 KS PB
      have RR := HR5.out.below HBt.out HR5.out.lt
      obtain ⟨y0, y1, y2, y3, y4, y5, y6⟩ := RR.all7
      obtain ⟨z0, z1, z2, z3, z4, z5, z6⟩ := RR.free7
      have KP := Lib.hid (blk_putDisk RR h4 ⟨bs, ts, hot, warm, cold, stamp, ns⟩).1
      have HO := Lib.hid (ownL_of HLY.out O5.out HBt.out RR (HB5.out.trans (HBt.out.mono HB5.out.size)))
      clear RR
      have KSP := Lib.hid (putDisk_far (g := w.heap.size + 1) KSt (by omega) h4 ⟨bs, ts, hot, warm, cold, stamp, ns⟩)
      have PBP := Lib.hid (putDisk_far (g := w.heap.size + 1) PBt (by have := HS5.out.lt; omega) h4 ⟨bs, ts, hot, warm, cold, stamp, ns⟩)
      clear KSt PBt
      dsimp only [putDisk, BoxD] at KP HO KSP PBP
      refine rd1 4 (fun K hK => ?_)
      go_simp
      refine hK.out _ _ ?_ (fun hHeld => ?_)
      · exact ⟨KSP.out.all7, PBP.out.cell 3⟩
      clear hK K
      refine pt ?_
      refine tk 5 ?_
      refine wpAnyH_done (by kernel_rfl) ?_ _
      clear hHeld KSP PBP
      repeat (first | go_values | go_skip | go_guarded | go_step | go_upon)
      generalize ((((((wt.setCell ⟨w.heap.size + 1, 0, none⟩ (.slice h4.bA h4.bn h4.bc)).setCell ⟨w.heap.size + 1, 1, none⟩ (.slice h4.tA h4.tn h4.tc)).setCell ⟨w.heap.size + 1, 2, none⟩ (.int .i64 hot)).setCell ⟨w.heap.size + 1, 3, none⟩ (.int .i64 warm)).setCell ⟨w.heap.size + 1, 4, none⟩ (.int .i64 cold)).setCell ⟨w.heap.size + 1, 5, none⟩ (.int .i64 stamp)).setCell ⟨w.heap.size + 1, 6, none⟩ (.slice h4.nA h4.nn h4.nc) = wz at *
      obtain ⟨e0, e1, e2, e3, e4, e5, e6⟩ := KP.out.all7
      refine bodyPost_ret (by simp [results, Try.results105, go_sem, e0, e1, e2, e3, e4, e5, e6]; try rfl) rfl ?_
      exact HO.out
end Go.Proofs.Ytjnpgdhpneifjaa
