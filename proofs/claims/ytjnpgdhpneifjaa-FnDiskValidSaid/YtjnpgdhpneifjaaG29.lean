/- Parts of the proof, one after the other; each says what it proves. -/
import Derived.Test.YtjnpgdhpneifjaaG1
import Derived.Test.YtjnpgdhpneifjaaG24
import Derived.Test.YtjnpgdhpneifjaaG17
import Derived.Test.YtjnpgdhpneifjaaG20
import Derived.Test.YtjnpgdhpneifjaaG25
import Derived.Test.YtjnpgdhpneifjaaG27
import Derived.Test.YtjnpgdhpneifjaaG28
import Derived.Test.YtjnpgdhpneifjaaG26
/- DiskLine by the reference, at a valid disk, the command write. -/
namespace Go.Proofs.Ytjnpgdhpneifjaa
open Go.ChangeShapes Go.WideShapes Go.ChangeAt Go.RowKit Go.Deep
set_option linter.unusedVariables false
set_option linter.unusedSimpArgs false

set_option maxRecDepth 8000 in
set_option maxHeartbeats 8000000 in
theorem diskLine_write {h : DH} {d : DiskV} {s : ByteArray} {B : Nat} {w : World} (hr : RdD w B h d) (hB : B ≤ w.heap.size) (hcap : CapN h) (hok : DiskOk d) (hs : s.size ≤ 1048576) (h1 : wd s 0 = sWrite) (h2 : (wordsL s).length = 4) (h3 : 0 ≤ findN d.ns (wd s 1)) :
    Calls Try.prog 105 #[dkv h d, .string s] w (OwnL w (lineF d s)) := by
  have H1 := Lib.hid h1
  have H2 := Lib.hid h2
  have H3 := Lib.hid h3
  clear h1 h2 h3
  have hsh := (small_ok hok).h hr
  have HR := Lib.hid (hr.mono hB)
  have HOK := Lib.hid (bof_t.2 hok)
  have HL := Lib.hid (lineF_yes (s := s) hok)
  have HHD := Lib.hid hok.1
  have HTB := Lib.hid hok.2.1
  have HFIT := Lib.hid hok.2.2.1
  have HSTA := Lib.hid (show 0 ≤ d.stamp ∧ d.stamp ≤ 1000 from ⟨Int.le_trans (lastAt_range hok.1.1 (Nat.le_refl _)).1 hok.2.2.2.1.1, hok.2.2.2.1.2⟩)
  have HNM := Lib.hid hok.2.2.2.2.1
  have HDO := Lib.hid hok
  have HCAP := Lib.hid hcap
  have S1 := Lib.hid hsh.b
  have S2 := Lib.hid hsh.t
  have S3 := Lib.hid hsh.n
  have S4 := Lib.hid (show ∀ i, i < h.nn → (nTxt d.ns i).size ≤ 9223372036854775807 from fun i hi => by have := hsh.ns i hi; simp only [nTxt]; omega)
  have HN9 := Lib.hid (names_nine hok.2.2.2.2.1)
  clear hr hok hsh hcap
  obtain ⟨bA, bn, bc, tA, tn, tc, nA, nn, nc⟩ := h
  obtain ⟨bs, ts, hot, warm, cold, stamp, ns⟩ := d
  have b2 : Below w.heap.size w ((w.alloc (.cells #[.slice bA bn bc, .slice tA tn tc, .int .i64 hot, .int .i64 warm, .int .i64 cold, .int .i64 stamp, .slice nA nn nc] 42)).alloc (.cells #[.slice none 0 0, .slice none 0 0, .int .i64 0, .int .i64 0, .int .i64 0, .int .i64 0, .slice none 0 0] 42)) := ((Below.refl _ _).alloc (Nat.le_refl _) _).alloc (by simp) _
  have K2 := (Blk.new w 42 #[.slice bA bn bc, .slice tA tn tc, .int .i64 hot, .int .i64 warm, .int .i64 cold, .int .i64 stamp, .slice nA nn nc]).alloc (.cells #[.slice none 0 0, .slice none 0 0, .int .i64 0, .int .i64 0, .int .i64 0, .int .i64 0, .slice none 0 0] 42)
  have R2 := Blk.new (w.alloc (.cells #[.slice bA bn bc, .slice tA tn tc, .int .i64 hot, .int .i64 warm, .int .i64 cold, .int .i64 stamp, .slice nA nn nc] 42)) 42 #[.slice none 0 0, .slice none 0 0, .int .i64 0, .int .i64 0, .int .i64 0, .int .i64 0, .slice none 0 0]
  rw [show (w.alloc (.cells #[.slice bA bn bc, .slice tA tn tc, .int .i64 hot, .int .i64 warm, .int .i64 cold, .int .i64 stamp, .slice nA nn nc] 42)).heap.size = w.heap.size + 1 by simp] at R2
  go_enter Try.func105, Try.ntmps105
  go_upto_region 1 with (fail)
  generalize (w.alloc (.cells #[.slice bA bn bc, .slice tA tn tc, .int .i64 hot, .int .i64 warm, .int .i64 cold, .int .i64 stamp, .slice nA nn nc] 42)).alloc (.cells #[.slice none 0 0, .slice none 0 0, .int .i64 0, .int .i64 0, .int .i64 0, .int .i64 0, .slice none 0 0] 42) = w2 at *
  obtain ⟨t0, t1, t2, t3, t4, t5, t6⟩ := K2.all7
  go_wp2_with fail
  refine (diskValid_spec (HR.out.below b2) b2.size S1.out S2.out S3.out S4.out).mono ?_
  rw [HOK.out]
  rintro e w3 ⟨rfl, b3⟩
  have R3 := R2.below b3 R2.lt
  have K3 := K2.below b3 K2.lt
  have B3 := b2.trans (b3.mono b2.size)
  clear K2 R2 b2 b3 t0 t1 t2 t3 t4 t5 t6
  have HB3 := Lib.hid B3
  clear B3
  go_upto_region 3 with (fail)
  obtain ⟨t0, t1, t2, t3, t4, t5, t6⟩ := K3.all7
  go_wp2_with fail
  refine (l34Copy_c (h := ⟨bA, bn, bc, tA, tn, tc, nA, nn, nc⟩) (d := ⟨bs, ts, hot, warm, cold, stamp, ns⟩) (HR.out.below HB3.out) HB3.out.size HHD.out.1 HTB.out S3.out HCAP.out.nil).mono ?_
  rintro e w4 ⟨h4, rfl, o4, b4⟩
  have R4 := R3.below b4 R3.lt
  have K4 := K3.below b4 K3.lt
  have HB4 := Lib.hid (HB3.out.trans (b4.mono HB3.out.size))
  have O4 := Lib.hid (o4.lower (base' := w.heap.size) HB3.out.size)
  clear K3 R3 HB3 b4 t0 t1 t2 t3 t4 t5 t6 o4
  go_upto_region 4 with (fail)
  have b5 : Below w4.heap.size w4 (w4.alloc (.cells #[.slice h4.bA h4.bn h4.bc, .slice h4.tA h4.tn h4.tc, .int .i64 hot, .int .i64 warm, .int .i64 cold, .int .i64 stamp, .slice h4.nA h4.nn h4.nc] 42)) := (Below.refl _ _).alloc (Nat.le_refl _) _
  have HS5 := Lib.hid (Blk.new w4 42 #[.slice h4.bA h4.bn h4.bc, .slice h4.tA h4.tn h4.tc, .int .i64 hot, .int .i64 warm, .int .i64 cold, .int .i64 stamp, .slice h4.nA h4.nn h4.nc])
  have R5 := R4.below b5 R4.lt
  have K5 := K4.below b5 K4.lt
  have HB5 := Lib.hid (HB4.out.trans (b5.mono HB4.out.size))
  have O5 := Lib.hid (O4.out.below b5)
  have L5 : w.heap.size + 1 < w4.heap.size := R4.lt
  clear b5 K4 R4 HB4 O4
  generalize w4.alloc (.cells #[.slice h4.bA h4.bn h4.bc, .slice h4.tA h4.tn h4.tc, .int .i64 hot, .int .i64 warm, .int .i64 cold, .int .i64 stamp, .slice h4.nA h4.nn h4.nc] 42) = w5 at *
  generalize w4.heap.size = gs at *
  obtain ⟨t0, t1, t2, t3, t4, t5, t6⟩ := K5.all7
  have HK5 := Lib.hid K5
  have HR5 := Lib.hid R5
  clear K5 R5
  go_wp2_with fail
  refine (l34Copy_c (h := ⟨bA, bn, bc, tA, tn, tc, nA, nn, nc⟩) (d := ⟨bs, ts, hot, warm, cold, stamp, ns⟩) (HR.out.below HB5.out) HB5.out.size HHD.out.1 HTB.out S3.out HCAP.out.nil).mono ?_
  rintro e w6 ⟨⟨oA, on, oc, pA, pn, pc, qA, qn, qc⟩, rfl, O6, b6⟩
  clear t0 t1 t2 t3 t4 t5 t6
  go_upto_region 5 with (fail)
  have b7 : Below w6.heap.size w6 (w6.alloc (.cells #[.slice oA on oc, .slice pA pn pc, .int .i64 hot, .int .i64 warm, .int .i64 cold, .int .i64 stamp, .slice qA qn qc] 42)) := (Below.refl _ _).alloc (Nat.le_refl _) _
  have G7 := Blk.new w6 42 #[.slice oA on oc, .slice pA pn pc, .int .i64 hot, .int .i64 warm, .int .i64 cold, .int .i64 stamp, .slice qA qn qc]
  have HB7 := Lib.hid (b6.trans (b7.mono b6.size))
  have O7 := O6.below b7
  have L7 : w5.heap.size ≤ w6.heap.size := b6.size
  clear b6 b7 O6
  generalize w6.alloc (.cells #[.slice oA on oc, .slice pA pn pc, .int .i64 hot, .int .i64 warm, .int .i64 cold, .int .i64 stamp, .slice qA qn qc] 42) = w7 at *
  generalize w6.heap.size = go at *
  go_wp2_with fail
  refine (l34Words_c s w7 hs).mono ?_
  rintro e w8 ⟨g8, c8, rfl, o8, b8⟩
  have HW8 := wordsTo_len s s.size
  change 1 ≤ (wordsL s).length ∧ (wordsL s).length ≤ s.size + 1 at HW8
  have G8 := G7.below b8 G7.lt
  have O8 := O7.below b8
  have HB8 := Lib.hid (HB7.out.trans (b8.mono HB7.out.size))
  have HB78 := Lib.hid (show Below w5.heap.size w5 w7 from HB7.out)
  have L8 : go < w7.heap.size := G7.lt
  clear G7 O7 HB7
  generalize hws : (wordsL s).length = m at *
  go_wp2_with (at_builtin; refine wpList_appSt3 rfl rfl rfl o8 rfl (by omega) b8.size ?_; rintro g9 c9 w9 o9 gr9)
  have G9 := G8.grown gr9 (fun h => by injection h with h; have := (own_lt o8 (k := go) (by rw [h]; rfl)).1; omega)
  have C9 : ChgT [9] w8 w9 := ChgT.grown o8 (by simp) gr9
  have O9 := O8.typed C9 (by decide) (by decide) (by decide) (by decide) (by decide)
  have HB9 := Lib.hid (below_app HB8.out (own_lower o8 HB78.out.size) HB8.out.size gr9)
  have HW9 := Lib.hid (words_cells o9 hws)
  have gl9 : g9 < w9.heap.size := (own_lt o9 (k := g9) rfl).2
  have HG9 := Lib.hid G9
  have HO9 := Lib.hid O9
  clear G8 O8 HB8 L8 o8 b8 gr9 C9 G9 O9 HB78 o9
  go_upto_region 7 with (fail)
  have l5w := HK5.out.lt
  have HK9 := Lib.hid (HK5.out.below HB9.out l5w)
  have c10 := HK9.out.cell 6
  simp at c10
  have c11 := HW9.out 1 (by omega)
  have q0 : (0 : Int) < (m : Int) + 3 := by omega
  have q1 : (1 : Int) < (m : Int) + 3 := by omega
  have q2 : (2 : Int) < (m : Int) + 3 := by omega
  have q3 : (3 : Int) < (m : Int) + 3 := by omega
  refine wp_region_held_drew (S := fun w' => w'.cell? ⟨w.heap.size, 6, none⟩ = some (.slice nA nn nc) ∧ w'.cell? ⟨g9, 1, none⟩ = some (.string (wd s 1))) (by kernel_rfl) ?_ (fun hHeld => ?_)
  · exact ⟨c10, c11⟩
  refine tk 0 ?_
  refine tk 1 ?_
  refine tk 2 ?_
  refine tk 3 ?_
  refine tk 4 ?_
  refine rd1 5 (fun K hK => ?_)
  go_simp
  refine (findName_spec (HR.out.below (HB5.out.trans (HB9.out.mono HB5.out.size))).drew.n (Nat.le_trans HB5.out.size HB9.out.size) S3.out S4.out HNM.out).mono ?_; rintro e w10 ⟨rfl, b10⟩; have b10 : Below w9.heap.size w9 w10 := ((Below.refl _ _).drew).trans b10
  go_wp2_with fail
  refine hK.out _ _ ?_ (fun hHeld => ?_)
  · exact ⟨(b10.cell (p := ⟨w.heap.size, 6, none⟩) HK9.out.lt).trans c10, (b10.cell (p := ⟨g9, 1, none⟩) gl9).trans c11⟩
  clear hK K
  refine pt ?_
  refine tk 6 ?_
  refine wpAnyH_done (by kernel_rfl) ?_ _
  clear hHeld c10 c11
  have c12 := (b10.cell (p := ⟨g9, 2, none⟩) gl9).trans (HW9.out 2 (by omega))
  have HB10 := Lib.hid b10
  clear b10
  have hwd2 : (wd s 2).size ≤ 9223372036854775807 := by have := wd_size s 2; omega
  have m1 : ((wd s 0).toList == [109, 97, 107, 101]) = false := toList_ne sMake_l (by rw [H1.out]; decide)
  have m2 : ((wd s 0).toList == [119, 114, 105, 116, 101]) = true := by rw [H1.out, sWrite_l]; rfl
  have mc : ((m : Int) == 4) = true := by rw [H2.out]; rfl
  have mf : 0 ≤ findN ns (wd s 1) := H3.out
  go_upto_region 11 with (go_at_call 132; refine (l34Number_c _ _ hwd2).mono ?_; rintro e w11 ⟨rfl, b11⟩; have HB11 := Lib.hid (HB10.out.trans (b11.mono HB10.out.size)); clear HB10 b11 c12 hwd2; have y0 := (HB11.out.cell (p := ⟨g9, 0, none⟩) gl9).trans (HW9.out 0 (by omega)))
  obtain rfl : ns.length = nn := HR.out.n.len
  have hn9 : ns.length ≤ 9 := HN9.out
  have HBB := Lib.hid (HB9.out.trans (HB11.out.mono HB9.out.size))
  have HBW := Lib.hid (HB5.out.trans (HBB.out.mono HB5.out.size))
  have HRr := Lib.hid (HR.out.below HBW.out)
  have HKk := Lib.hid (HK5.out.below HBB.out HK5.out.lt)
  have HGg := Lib.hid (HG9.out.below HB11.out HG9.out.lt)
  have HOo := Lib.hid (HO9.out.below HB11.out)
  have HWw := Lib.hid (show ∀ i, i < m + 3 → w11.cell? ⟨g9, i, none⟩ = some (.string (wd s i)) from fun i hi => (HB11.out.cell (p := ⟨g9, i, none⟩) gl9).trans (HW9.out i hi))
  have gl : g9 < w11.heap.size := Nat.lt_of_lt_of_le gl9 HB11.out.size
  have gl5 : w5.heap.size ≤ w11.heap.size := HBB.out.size
  have glw : w.heap.size ≤ w11.heap.size := HBW.out.size
  clear HB9 HB11 HK9 HG9 HO9 HW9 gl9 l5w
  go_upto_region 26 with (fail)
  have hst : 0 ≤ stamp ∧ stamp ≤ 1000 := HSTA.out
  have wst : IntKind.i64.wrap (stamp + 1) = stamp + 1 := IntWalk.i64_in _ (by omega)
  have hwd3 : (wd s 3).size ≤ 9223372036854775807 := by have := wd_size s 3; omega
  have p5 := HKk.out.cell 5
  simp at p5
  have c26 := HWw.out 3 (by omega)
  have lk := HKk.out.lt
  go_cut [18] from 120 to 129 (fun p wx => ∃ g, p = .pointer (some ⟨g, 0, none⟩) ∧ w11.heap.size ≤ g ∧ Blk wx g 102 #[.bool true, .int .i64 (findN ns (wd s 1)), .int .i64 (numT (wd s 2)), .int .i64 (numT (wd s 3)), .int .i64 (stamp + 1)] ∧ Below w11.heap.size w11 wx)
  case first =>
    refine wp_region_held_drew (S := fun w' => w'.cell? ⟨w.heap.size, 5, none⟩ = some (.int .i64 stamp) ∧ w'.cell? ⟨g9, 3, none⟩ = some (.string (wd s 3))) (by kernel_rfl) ?_ (fun hHeld => ?_)
    · exact ⟨p5, c26⟩
    refine tk 0 ?_
    refine tk 1 ?_
    refine tk 2 ?_
    refine tk 3 ?_
    refine tk 4 ?_
    refine tk 6 ?_
    refine tk 7 ?_
    refine tk 8 ?_
    have bd : Below w11.heap.size w11 w11.drew := (Below.refl _ _).drew
    have szd : w11.heap.size ≤ w11.drew.heap.size := Nat.le_refl _
    have p5q : w11.drew.cell? ⟨w.heap.size, 5, none⟩ = some (.int .i64 stamp) := p5
    have c26q : w11.drew.cell? ⟨g9, 3, none⟩ = some (.string (wd s 3)) := c26
    generalize w11.drew = wq at *
    refine rd2 5 10 (fun K hK => ?_) (fun K hK => ?_)
    · go_simp
      refine (l34Number_c _ _ hwd3).mono ?_; rintro e w12 ⟨rfl, b12⟩
      go_wp2_with fail
      have s12 := b12.size
      have p5r := (b12.cell (p := ⟨w.heap.size, 5, none⟩) (by show w.heap.size < _; omega)).trans p5q
      have c26r := (b12.cell (p := ⟨g9, 3, none⟩) (by show g9 < _; omega)).trans c26q
      refine hK.out _ _ ?_ (fun hHeld => ?_)
      · exact ⟨p5r, c26r⟩
      clear hK K
      refine pt ?_
      refine tk 9 ?_
      have bz : Below w12.heap.size w12 (w12.alloc (.cells #[.bool false, .int .i64 0, .int .i64 0, .int .i64 0, .int .i64 0] 102)) := (Below.refl _ _).alloc (Nat.le_refl _) _
      have bw : Below w12.heap.size w12 (w12.alloc (.cells #[.bool true, .int .i64 (findN ns (wd s 1)), .int .i64 (numT (wd s 2)), .int .i64 (numT (wd s 3)), .int .i64 (stamp + 1)] 102)) := (Below.refl _ _).alloc (Nat.le_refl _) _
      refine rd1 10 (fun K hK => ?_)
      go_simp
      refine hK.out _ _ ?_ (fun hHeld => ?_)
      · exact ⟨(bz.cell (p := ⟨w.heap.size, 5, none⟩) (by show w.heap.size < _; omega)).trans p5r, (bz.cell (p := ⟨g9, 3, none⟩) (by show g9 < _; omega)).trans c26r⟩
      clear hK K
      refine pt ?_
      refine rd1 11 (fun K hK => ?_)
      go_simp
      refine hK.out _ _ ?_ (fun hHeld => ?_)
      · exact ⟨(bw.cell (p := ⟨w.heap.size, 5, none⟩) (by show w.heap.size < _; omega)).trans p5r, (bw.cell (p := ⟨g9, 3, none⟩) (by show g9 < _; omega)).trans c26r⟩
      clear hK K
      refine pt ?_
      refine wpAnyH_done (by kernel_rfl) ?_ _
      have ke := Blk.new w12 102 #[.bool true, .int .i64 (findN ns (wd s 1)), .int .i64 (numT (wd s 2)), .int .i64 (numT (wd s 3)), .int .i64 (stamp + 1)]
      have be := (bd.trans (b12.mono szd)).trans (bw.mono (Nat.le_trans szd s12))
      go_wp2_with fail
      go_meet
      exact ⟨_, rfl, Nat.le_trans szd s12, ke, be⟩
    · go_simp
      have bz : Below wq.heap.size wq (wq.alloc (.cells #[.bool false, .int .i64 0, .int .i64 0, .int .i64 0, .int .i64 0] 102)) := (Below.refl _ _).alloc (Nat.le_refl _) _
      have nb := Blk.new wq 102 #[.bool false, .int .i64 0, .int .i64 0, .int .i64 0, .int .i64 0]
      have szz := bz.size
      have lnb := nb.lt
      have p5r := (bz.cell (p := ⟨w.heap.size, 5, none⟩) (by show w.heap.size < _; omega)).trans p5q
      have c26r := (bz.cell (p := ⟨g9, 3, none⟩) (by show g9 < _; omega)).trans c26q
      refine hK.out _ _ ?_ (fun hHeld => ?_)
      · exact ⟨p5r, c26r⟩
      clear hK K
      refine pt ?_
      generalize wq.alloc (.cells #[.bool false, .int .i64 0, .int .i64 0, .int .i64 0, .int .i64 0] 102) = wa at *
      generalize wq.heap.size = gq at *
      refine rd1 5 (fun K hK => ?_)
      go_simp
      refine (l34Number_c _ _ hwd3).mono ?_; rintro e w12 ⟨rfl, b12⟩
      go_wp2_with fail
      have nb2 := nb.below b12 lnb
      have s12 := b12.size
      have p5t := (b12.cell (p := ⟨w.heap.size, 5, none⟩) (by show w.heap.size < _; omega)).trans p5r
      have c26t := (b12.cell (p := ⟨g9, 3, none⟩) (by show g9 < _; omega)).trans c26r
      refine hK.out _ _ ?_ (fun hHeld => ?_)
      · exact ⟨p5t, c26t⟩
      clear hK K
      refine pt ?_
      refine tk 9 ?_
      have yy0 := nb2.cell 0
      have yy1 := nb2.cell 1
      have yy2 := nb2.cell 2
      have yy3 := nb2.cell 3
      have yy4 := nb2.cell 4
      simp at yy0 yy1 yy2 yy3 yy4
      have zz0 := nb2.frozen 0
      have zz1 := nb2.frozen 1
      have zz2 := nb2.frozen 2
      have zz3 := nb2.frozen 3
      have zz4 := nb2.frozen 4
      have ke := (((((nb2.set_ 0 (.bool true)).set_ 1 (.int .i64 (findN ns (wd s 1)))).set_ 2 (.int .i64 (numT (wd s 2)))).set_ 3 (.int .i64 (numT (wd s 3)))).set_ 4 (.int .i64 (stamp + 1)))
      simp at ke
      have be := ((((((bd.trans (bz.mono szd)).trans (b12.mono (by omega))).setCell (p := ⟨gq, 0, none⟩) szd (.bool true)).setCell (p := ⟨gq, 1, none⟩) szd (.int .i64 (findN ns (wd s 1)))).setCell (p := ⟨gq, 2, none⟩) szd (.int .i64 (numT (wd s 2)))).setCell (p := ⟨gq, 3, none⟩) szd (.int .i64 (numT (wd s 3)))).setCell (p := ⟨gq, 4, none⟩) szd (.int .i64 (stamp + 1))
      have p5u := ((World.cell?_setCell_far _ ⟨gq, 4, none⟩ ⟨w.heap.size, 5, none⟩ (.int .i64 (stamp + 1)) (by show gq ≠ w.heap.size; omega)).trans ((World.cell?_setCell_far _ ⟨gq, 3, none⟩ ⟨w.heap.size, 5, none⟩ (.int .i64 (numT (wd s 3))) (by show gq ≠ w.heap.size; omega)).trans ((World.cell?_setCell_far _ ⟨gq, 2, none⟩ ⟨w.heap.size, 5, none⟩ (.int .i64 (numT (wd s 2))) (by show gq ≠ w.heap.size; omega)).trans ((World.cell?_setCell_far _ ⟨gq, 1, none⟩ ⟨w.heap.size, 5, none⟩ (.int .i64 (findN ns (wd s 1))) (by show gq ≠ w.heap.size; omega)).trans ((World.cell?_setCell_far _ ⟨gq, 0, none⟩ ⟨w.heap.size, 5, none⟩ (.bool true) (by show gq ≠ w.heap.size; omega)).trans p5t)))))
      have c26u := ((World.cell?_setCell_far _ ⟨gq, 4, none⟩ ⟨g9, 3, none⟩ (.int .i64 (stamp + 1)) (by show gq ≠ g9; omega)).trans ((World.cell?_setCell_far _ ⟨gq, 3, none⟩ ⟨g9, 3, none⟩ (.int .i64 (numT (wd s 3))) (by show gq ≠ g9; omega)).trans ((World.cell?_setCell_far _ ⟨gq, 2, none⟩ ⟨g9, 3, none⟩ (.int .i64 (numT (wd s 2))) (by show gq ≠ g9; omega)).trans ((World.cell?_setCell_far _ ⟨gq, 1, none⟩ ⟨g9, 3, none⟩ (.int .i64 (findN ns (wd s 1))) (by show gq ≠ g9; omega)).trans ((World.cell?_setCell_far _ ⟨gq, 0, none⟩ ⟨g9, 3, none⟩ (.bool true) (by show gq ≠ g9; omega)).trans c26t)))))
      refine rd1 11 (fun K hK => ?_)
      go_simp
      refine hK.out _ _ ?_ (fun hHeld => ?_)
      · exact ⟨p5u, c26u⟩
      clear hK K
      refine pt ?_
      refine wpAnyH_done (by kernel_rfl) ?_ _
      go_wp2_with fail
      go_meet
      exact ⟨_, rfl, szd, ke, be⟩
  case rest =>
    obtain ⟨gp, rfl, hgp, PB, bc⟩ := hcut
    have HGc := Lib.hid (HGg.out.below bc HGg.out.lt)
    have HOc := Lib.hid (HOo.out.below bc)
    have HBc := Lib.hid (HBB.out.trans (bc.mono gl5))
    have HKc := Lib.hid (HKk.out.below bc HKk.out.lt)
    have HRc := Lib.hid (HRr.out.below (bc.mono glw))
    have szc := bc.size
    clear bc p5 c26
    obtain ⟨p0, p1, p2, p3, p4, p5, p6⟩ := HKc.out.all7
    have g0 := PB.cell 0
    have g1 := PB.cell 1
    have g2 := PB.cell 2
    have g3 := PB.cell 3
    have g4 := PB.cell 4
    simp at g0 g1 g2 g3 g4
    go_wp2_with fail
    refine (appendPage_spec (h := ⟨hot, warm, cold⟩) (p := ⟨true, (findN ns (wd s 1)), (numT (wd s 2)), (numT (wd s 3)), stamp + 1⟩) (heat := 1) HRc.out.b (by omega) HHD.out (by omega)).mono ?_
    rintro e w13 ⟨A13, c13, rfl, o13, b13⟩
    have hin := fun h0 => appendF_in (bs := bs) (h := ⟨hot, warm, cold⟩) (heat := 1) (p := ⟨true, (findN ns (wd s 1)), (numT (wd s 2)), (numT (wd s 3)), stamp + 1⟩) h0
    have hkp := fun h0 => appendF_kept (bs := bs) (h := ⟨hot, warm, cold⟩) (heat := 1) (p := ⟨true, (findN ns (wd s 1)), (numT (wd s 2)), (numT (wd s 3)), stamp + 1⟩) HHD.out (by omega) (hin h0) h0
    have hok := fun h0 => appendF_ok (bs := bs) (h := ⟨hot, warm, cold⟩) (heat := 1) (p := ⟨true, (findN ns (wd s 1)), (numT (wd s 2)), (numT (wd s 3)), stamp + 1⟩) HHD.out (by omega) (hin h0).1 (hin h0).2
    generalize hR : appendF bs ⟨hot, warm, cold⟩ 1 ⟨true, (findN ns (wd s 1)), (numT (wd s 2)), (numT (wd s 3)), stamp + 1⟩ = R at *
    have HIN := Lib.hid hin
    have HKP := Lib.hid hkp
    have HOK2 := Lib.hid hok
    have HRR := Lib.hid hR
    clear hin hkp hok hR
    obtain ⟨rbs, ⟨rx, ry, rz⟩, rat⟩ := R
    have HG13 := Lib.hid (HGc.out.below b13 HGc.out.lt)
    have HO13 := Lib.hid (HOc.out.below b13)
    have HB13 := Lib.hid (HBc.out.trans (b13.mono HBc.out.size))
    have HD13 := Lib.hid (o13.lower HBc.out.size)
    clear b13 o13 p0 p1 p2 p3 p4 p5 p6 g0 g1 g2 g3 g4 PB HGc HOc HBc HKc HRc
    go_upto_region 28 with (fail)
    have b14 : Below w13.heap.size w13 (w13.alloc (.cells #[.int .i64 rx, .int .i64 ry, .int .i64 rz] 39)) := (Below.refl _ _).alloc (Nat.le_refl _) _
    have HY := Lib.hid (Blk.new w13 39 #[.int .i64 rx, .int .i64 ry, .int .i64 rz])
    have HG14 := Lib.hid (HG13.out.below b14 HG13.out.lt)
    have HO14 := Lib.hid (HO13.out.below b14)
    have HB14 := Lib.hid (HB13.out.trans (b14.mono HB13.out.size))
    have HD14 := Lib.hid (HD13.out.below b14)
    have L14 := HG13.out.lt
    clear b14 HG13 HO13 HB13 HD13
    generalize w13.alloc (.cells #[.int .i64 rx, .int .i64 ry, .int .i64 rz] 39) = w14 at *
    generalize w13.heap.size = gy at *
    by_cases hat : rat < 0
    · have HLX := Lib.hid (show lineF ⟨bs, ts, hot, warm, cold, stamp, ns⟩ s = ⟨⟨bs, ts, hot, warm, cold, stamp, ns⟩, sNo⟩ from by rw [HL.out, cmdC_write H1.out (hws.trans H2.out), writeC_no HRR.out hat]; rfl)
      have KS := HS5.out.below HB14.out HS5.out.lt
      obtain ⟨s0, s1, s2, s3, s4, s5, s6⟩ := KS.all7
      have RR := HR5.out.below HB14.out HR5.out.lt
      obtain ⟨y0, y1, y2, y3, y4, y5, y6⟩ := RR.all7
      obtain ⟨z0, z1, z2, z3, z4, z5, z6⟩ := RR.free7
      have KP := Lib.hid (blk_putDisk RR h4 ⟨bs, ts, hot, warm, cold, stamp, ns⟩).1
      have HO := Lib.hid (ownL_of HLX.out O5.out HB14.out RR (HB5.out.trans (HB14.out.mono HB5.out.size)))
      clear RR
      dsimp only [putDisk, BoxD] at KP HO
      go_upto_region 29 with (fail)
      repeat (first | go_values | go_skip | go_guarded | go_step | go_upon)
      generalize ((((((w14.setCell ⟨w.heap.size + 1, 0, none⟩ (.slice h4.bA h4.bn h4.bc)).setCell ⟨w.heap.size + 1, 1, none⟩ (.slice h4.tA h4.tn h4.tc)).setCell ⟨w.heap.size + 1, 2, none⟩ (.int .i64 hot)).setCell ⟨w.heap.size + 1, 3, none⟩ (.int .i64 warm)).setCell ⟨w.heap.size + 1, 4, none⟩ (.int .i64 cold)).setCell ⟨w.heap.size + 1, 5, none⟩ (.int .i64 stamp)).setCell ⟨w.heap.size + 1, 6, none⟩ (.slice h4.nA h4.nn h4.nc) = wz at *
      obtain ⟨e0, e1, e2, e3, e4, e5, e6⟩ := KP.out.all7
      refine bodyPost_ret (by simp [results, Try.results105, go_sem, e0, e1, e2, e3, e4, e5, e6]; try rfl) rfl ?_
      exact HO.out
    · have HLX := Lib.hid (show lineF ⟨bs, ts, hot, warm, cold, stamp, ns⟩ s = lineO ⟨bs, ts, hot, warm, cold, stamp, ns⟩ (some ⟨⟨rbs, setE ts (findN ns (wd s 1)).toNat (numT (wd s 2)).toNat rat, rx, ry, rz, stamp + 1, ns⟩, sOk⟩) from by rw [HL.out, cmdC_write H1.out (hws.trans H2.out), writeC_yes (by omega) HRR.out hat])
      have hin := (HIN.out (by show 0 ≤ rat; omega)).1
      unfold PageOk at hin
      rw [if_pos rfl] at hin
      have hF : 0 ≤ (findN ns (wd s 1)) ∧ (findN ns (wd s 1)) ≤ 7 := hin.1
      have hP : 0 ≤ (numT (wd s 2)) ∧ (numT (wd s 2)) ≤ 5 := hin.2.1
      clear hin
      have hHD2 : HeadsOk rbs rx ry rz := HOK2.out (by show 0 ≤ rat; omega)
      have hk4 : rat ≤ 47 := by
        obtain ⟨n', j', A'⟩ := HKP.out (by show 0 ≤ rat; omega)
        have e1 : rat = (n' : Int) * 4 + (j' : Int) := A'.at_; have e2 : n' < bs.length := A'.nlt; have e3 := A'.jlt; have e4 : bs.length ≤ 12 := HHD.out.1.1.2; omega
      have HT8 := Lib.hid HTB.out.1
      obtain rfl : pn = 8 := by have e1 : ts.length = pn := HO14.out.t.len; have e2 : ts.length = 8 := HT8.out; omega
      obtain ⟨gt, e, hgt1, hgt2⟩ := HO14.out.t.form (by show 0 < 8; omega)
      change pA = _ at e
      subst e
      obtain ⟨fN, hfN⟩ : ∃ n : Nat, (findN ns (wd s 1)) = n := ⟨(findN ns (wd s 1)).toNat, by omega⟩
      obtain ⟨pN, hpN⟩ : ∃ n : Nat, (numT (wd s 2)) = n := ⟨(numT (wd s 2)).toNat, by omega⟩
      have HSM := Lib.hid (show SmallDV ⟨rbs, setE ts (findN ns (wd s 1)).toNat (numT (wd s 2)).toNat rat, rx, ry, rz, stamp + 1, ns⟩ from small_shape hHD2.1 (shapeT_set (shapeT_of HTB.out) (by omega)) (by omega) (fun i hi => by have := names_txt HNM.out i hi; omega))
      have HFN := Lib.hid hfN
      have HPN := Lib.hid hpN
      rw [hfN] at hF
      rw [hpN] at hP
      have hf8 : fN < 8 := by omega
      have hp6 : pN < 6 := by omega
      have i0 := HG14.out.cell 0
      simp at i0
      have f0 := HG14.out.frozen 0
      go_upto_region 31 with (fail)
      have Gt := (HG14.out.set_ 0 (.slice A13 rbs.length c13))
      simp at Gt
      have HB15 := Lib.hid ((HB14.out.setCell (p := ⟨go, 0, none⟩) L7 (.slice A13 rbs.length c13)))
      have HG15 := Lib.hid Gt
      have HO15 := Lib.hid ((HO14.out.typed (ChgT.blk HG14.out 0 (.slice A13 rbs.length c13)) (by decide) (by decide) (by decide) (by decide) (by decide)))
      have HD15 := Lib.hid ((HD14.out.typed (ChgT.blk HG14.out 0 (.slice A13 rbs.length c13)) (by decide) (by decide)))
      have HY15 := Lib.hid ((HY.out.far (p := ⟨go, 0, none⟩) (by show gy ≠ go; omega) (.slice A13 rbs.length c13)))
      clear Gt
      generalize w14.setCell ⟨go, 0, none⟩ (.slice A13 rbs.length c13) = w15 at *
      clear i0 f0
      have u0 := HY15.out.cell 0
      have u1 := HY15.out.cell 1
      have u2 := HY15.out.cell 2
      simp at u0 u1 u2
      have i2 := HG15.out.cell 2
      have i3 := HG15.out.cell 3
      have i4 := HG15.out.cell 4
      simp at i2 i3 i4
      have f2 := HG15.out.frozen 2
      have f3 := HG15.out.frozen 3
      have f4 := HG15.out.frozen 4
      go_upto_region 32 with (fail)
      have Gt := (((HG15.out.set_ 2 (.int .i64 rx)).set_ 3 (.int .i64 ry)).set_ 4 (.int .i64 rz))
      simp at Gt
      have HB16 := Lib.hid ((((HB15.out.setCell (p := ⟨go, 2, none⟩) L7 (.int .i64 rx)).setCell (p := ⟨go, 3, none⟩) L7 (.int .i64 ry)).setCell (p := ⟨go, 4, none⟩) L7 (.int .i64 rz)))
      have HG16 := Lib.hid Gt
      have HO16 := Lib.hid ((((HO15.out.typed (ChgT.blk HG15.out 2 (.int .i64 rx)) (by decide) (by decide) (by decide) (by decide) (by decide)).typed (ChgT.blk (HG15.out.set_ 2 (.int .i64 rx)) 3 (.int .i64 ry)) (by decide) (by decide) (by decide) (by decide) (by decide)).typed (ChgT.blk ((HG15.out.set_ 2 (.int .i64 rx)).set_ 3 (.int .i64 ry)) 4 (.int .i64 rz)) (by decide) (by decide) (by decide) (by decide) (by decide)))
      have HD16 := Lib.hid ((((HD15.out.typed (ChgT.blk HG15.out 2 (.int .i64 rx)) (by decide) (by decide)).typed (ChgT.blk (HG15.out.set_ 2 (.int .i64 rx)) 3 (.int .i64 ry)) (by decide) (by decide)).typed (ChgT.blk ((HG15.out.set_ 2 (.int .i64 rx)).set_ 3 (.int .i64 ry)) 4 (.int .i64 rz)) (by decide) (by decide)))
      clear Gt
      generalize ((w15.setCell ⟨go, 2, none⟩ (.int .i64 rx)).setCell ⟨go, 3, none⟩ (.int .i64 ry)).setCell ⟨go, 4, none⟩ (.int .i64 rz) = w16 at *
      clear i2 i3 i4 f2 f3 f4 u0 u1 u2
      have K16 := HK5.out.below HB16.out HK5.out.lt
      have p5 := K16.cell 5
      simp at p5
      clear K16
      have i5 := HG16.out.cell 5
      simp at i5
      have f5 := HG16.out.frozen 5
      go_upto_region 33 with (fail)
      have Gt := (HG16.out.set_ 5 (.int .i64 (stamp + 1)))
      simp at Gt
      have HB17 := Lib.hid ((HB16.out.setCell (p := ⟨go, 5, none⟩) L7 (.int .i64 (stamp + 1))))
      have HG17 := Lib.hid Gt
      have HO17 := Lib.hid ((HO16.out.typed (ChgT.blk HG16.out 5 (.int .i64 (stamp + 1))) (by decide) (by decide) (by decide) (by decide) (by decide)))
      have HD17 := Lib.hid ((HD16.out.typed (ChgT.blk HG16.out 5 (.int .i64 (stamp + 1))) (by decide) (by decide)))
      clear Gt
      generalize w16.setCell ⟨go, 5, none⟩ (.int .i64 (stamp + 1)) = w17 at *
      clear i5 f5 p5
      have i1 := HG17.out.cell 1
      simp at i1
      have OT := HO17.out.t
      obtain ⟨A', n', c', d0, z0, hnc, hcm, hnl, hrow⟩ := OwT.cells OT fN hf8
      have hn6 : n' = 6 := by rw [hnl]; exact HTB.out.2.1 fN hf8
      obtain ⟨gr, cap, e, hg1, hg2⟩ := hrow.form (by omega)
      injection e with e _ _
      subst e
      subst hn6
      have d1 := own_cellI hrow pN (by rw [← hnl]; omega)
      have z1 := hrow.frozenAt (g := gr) (cap := c') pN
      have hstd := hrow.stored (g := gr) (cap := c') pN (.int .i64 rat)
      rw [← List.map_set] at hstd
      have E18 := OwT.turn OT hf8 d0 hstd.2 hstd.1 hnl
      have hch := OwT.chg OT hf8 d0 hstd.2 (show w5.heap.size ≤ w17.heap.size from HB17.out.size)
      have HG18 := Lib.hid (HG17.out.typed hch.1 (by decide))
      have HB18 := Lib.hid (HB17.out.trans hch.2)
      have HD18 := Lib.hid (HD17.out.typed hch.1 (by decide) (by decide))
      have HN18 := Lib.hid (HO17.out.n.typed hch.1 (by decide))
      have HE18 := Lib.hid (show OwT (w17.setCell ⟨gr, pN, none⟩ (.int .i64 rat)) w5.heap.size (some ⟨gt, 0, none⟩) 8 pc (setE ts (findN ns (wd s 1)).toNat (numT (wd s 2)).toNat rat) from by rw [HFN.out, HPN.out, Int.toNat_natCast, Int.toNat_natCast]; exact E18)
      clear E18 hch hstd hrow OT hnl hg1 hg2
      have fI : (fN : Int) < 8 := by omega
      have pI : (pN : Int) < 6 := by omega
      clear hfN hpN
      rw [HFN.out, HPN.out]
      go_upto_region 53 with (fail)
      generalize w17.setCell ⟨gr, pN, none⟩ (.int .i64 rat) = w18 at *
      clear i1 d0 d1 z0 z1
      have HOD := Lib.hid (show OwD w18 w5.heap.size ⟨A13, rbs.length, c13, (some ⟨gt, 0, none⟩), 8, pc, qA, qn, qc⟩ ⟨rbs, setE ts (findN ns (wd s 1)).toNat (numT (wd s 2)).toNat rat, rx, ry, rz, stamp + 1, ns⟩ from ⟨HD18.out, HE18.out, HN18.out⟩)
      have HKO := Lib.hid (show BoxD w18 go ⟨A13, rbs.length, c13, (some ⟨gt, 0, none⟩), 8, pc, qA, qn, qc⟩ ⟨rbs, setE ts (findN ns (wd s 1)).toNat (numT (wd s 2)).toNat rat, rx, ry, rz, stamp + 1, ns⟩ from HG18.out)
      go_upto_region 53 with (fail)
      have sm := HSM.out.h HOD.out.rd
      obtain ⟨p0, p1, p2, p3, p4, p5, p6⟩ := HKO.out.all7
      go_wp2_with fail
      refine (diskValid_spec (h := ⟨A13, rbs.length, c13, (some ⟨gt, 0, none⟩), 8, pc, qA, qn, qc⟩) (d := ⟨rbs, setE ts (findN ns (wd s 1)).toNat (numT (wd s 2)).toNat rat, rx, ry, rz, stamp + 1, ns⟩) HOD.out.rd (Nat.le_refl _) sm.b sm.t sm.n (fun i hi => Nat.le_trans (Int.ofNat_le.1 (show _ ≤ ((1048576 : Nat) : Int) from sm.ns i hi)) (by decide))).mono ?_
      by_cases hdo : DiskOk ⟨rbs, setE ts (findN ns (wd s 1)).toNat (numT (wd s 2)).toNat rat, rx, ry, rz, stamp + 1, ns⟩
      · have hbo := bof_t.2 hdo
        have HLZ := Lib.hid (HLX.out.trans (lineO_yes (show DiskOk (LineR.mk ⟨rbs, setE ts (findN ns (wd s 1)).toNat (numT (wd s 2)).toNat rat, rx, ry, rz, stamp + 1, ns⟩ _).d from hdo)))
        clear hdo
        rw [hbo]
        rintro e w19 ⟨rfl, bf⟩
        have HBf := Lib.hid (HB18.out.trans (bf.mono HB18.out.size))
        have KF := HKO.out.below bf HKO.out.lt
        have BF := Lib.hid bf
        have ODL := HOD.out.lower HB5.out.size
        clear p0 p1 p2 p3 p4 p5 p6 bf sm
        obtain ⟨s0, s1, s2, s3, s4, s5, s6⟩ := KF.all7
        have RR := HR5.out.below HBf.out HR5.out.lt
        obtain ⟨y0, y1, y2, y3, y4, y5, y6⟩ := RR.all7
        obtain ⟨z0, z1, z2, z3, z4, z5, z6⟩ := RR.free7
        have KP := Lib.hid (blk_putDisk RR ⟨A13, rbs.length, c13, (some ⟨gt, 0, none⟩), 8, pc, qA, qn, qc⟩ ⟨rbs, setE ts (findN ns (wd s 1)).toNat (numT (wd s 2)).toNat rat, rx, ry, rz, stamp + 1, ns⟩).1
        have HO := Lib.hid (ownL_of HLZ.out ODL BF.out RR (HB5.out.trans (HBf.out.mono HB5.out.size)))
        clear RR
        dsimp only [putDisk, BoxD] at KP HO
        go_upto_region 55 with (fail)
        repeat (first | go_values | go_skip | go_guarded | go_step | go_upon)
        generalize ((((((w19.setCell ⟨w.heap.size + 1, 0, none⟩ (.slice A13 rbs.length c13)).setCell ⟨w.heap.size + 1, 1, none⟩ (.slice (some ⟨gt, 0, none⟩) 8 pc)).setCell ⟨w.heap.size + 1, 2, none⟩ (.int .i64 rx)).setCell ⟨w.heap.size + 1, 3, none⟩ (.int .i64 ry)).setCell ⟨w.heap.size + 1, 4, none⟩ (.int .i64 rz)).setCell ⟨w.heap.size + 1, 5, none⟩ (.int .i64 (stamp + 1))).setCell ⟨w.heap.size + 1, 6, none⟩ (.slice qA qn qc) = wz at *
        obtain ⟨e0, e1, e2, e3, e4, e5, e6⟩ := KP.out.all7
        refine bodyPost_ret (by simp [results, Try.results105, go_sem, e0, e1, e2, e3, e4, e5, e6]; try rfl) rfl ?_
        exact HO.out
      · have hbo := bof_f.2 hdo
        have HLZ := Lib.hid (HLX.out.trans (lineO_no (show ¬ DiskOk (LineR.mk ⟨rbs, setE ts (findN ns (wd s 1)).toNat (numT (wd s 2)).toNat rat, rx, ry, rz, stamp + 1, ns⟩ _).d from hdo)))
        clear hdo
        rw [hbo]
        rintro e w19 ⟨rfl, bf⟩
        have HBf := Lib.hid (HB18.out.trans (bf.mono HB18.out.size))
        clear p0 p1 p2 p3 p4 p5 p6 bf sm
        have KS := HS5.out.below HBf.out HS5.out.lt
        obtain ⟨s0, s1, s2, s3, s4, s5, s6⟩ := KS.all7
        have RR := HR5.out.below HBf.out HR5.out.lt
        obtain ⟨y0, y1, y2, y3, y4, y5, y6⟩ := RR.all7
        obtain ⟨z0, z1, z2, z3, z4, z5, z6⟩ := RR.free7
        have KP := Lib.hid (blk_putDisk RR h4 ⟨bs, ts, hot, warm, cold, stamp, ns⟩).1
        have HO := Lib.hid (ownL_of HLZ.out O5.out HBf.out RR (HB5.out.trans (HBf.out.mono HB5.out.size)))
        clear RR
        dsimp only [putDisk, BoxD] at KP HO
        go_upto_region 54 with (fail)
        repeat (first | go_values | go_skip | go_guarded | go_step | go_upon)
        generalize ((((((w19.setCell ⟨w.heap.size + 1, 0, none⟩ (.slice h4.bA h4.bn h4.bc)).setCell ⟨w.heap.size + 1, 1, none⟩ (.slice h4.tA h4.tn h4.tc)).setCell ⟨w.heap.size + 1, 2, none⟩ (.int .i64 hot)).setCell ⟨w.heap.size + 1, 3, none⟩ (.int .i64 warm)).setCell ⟨w.heap.size + 1, 4, none⟩ (.int .i64 cold)).setCell ⟨w.heap.size + 1, 5, none⟩ (.int .i64 stamp)).setCell ⟨w.heap.size + 1, 6, none⟩ (.slice h4.nA h4.nn h4.nc) = wz at *
        obtain ⟨e0, e1, e2, e3, e4, e5, e6⟩ := KP.out.all7
        refine bodyPost_ret (by simp [results, Try.results105, go_sem, e0, e1, e2, e3, e4, e5, e6]; try rfl) rfl ?_
        exact HO.out
end Go.Proofs.Ytjnpgdhpneifjaa

/- DiskLine by the reference, at any disk and line of the laws' sizes. -/
namespace Go.Proofs.Ytjnpgdhpneifjaa
open Go.ChangeShapes Go.WideShapes Go.ChangeAt Go.RowKit Go.Deep
set_option linter.unusedVariables false

theorem diskLine_spec {h : DH} {d : DiskV} {s : ByteArray} {B : Nat} {w : World} (hr : RdD w B h d) (hB : B ≤ w.heap.size) (hcap : CapN h) (hsm : SmallDV d) (hs : s.size ≤ 1048576) :
    Calls Try.prog 105 #[dkv h d, .string s] w (OwnL w (lineF d s)) := by
  by_cases hok : DiskOk d
  · rcases line_cases d s with ⟨h1, h2⟩ | ⟨h1, h2, h3⟩ | ⟨h1, h2, h3, h4⟩ | ⟨h1, h2, h3⟩ | h1 | h1
    · exact diskLine_make hr hB hcap hok hs h1 h2
    · exact diskLine_write hr hB hcap hok hs h1 h2 h3
    · exact diskLine_read hr hB hcap hok hs h1 h2 h3 h4
    · exact diskLine_drop hr hB hcap hok hs h1 h2 h3
    · exact diskLine_clean hr hB hcap hok hs h1
    · exact diskLine_other hr hB hcap hok hs h1
  · exact diskLine_no hr hB hsm hok
end Go.Proofs.Ytjnpgdhpneifjaa
