/- Parts of the proof, one after the other. -/
import Derived.Test.YtefdjahaimnndaaGreatDoorG2
import Derived.Test.YtefdjahaimnndaaGreatDoorC30
import Derived.Test.YtefdjahaimnndaaGreatDoorG4
namespace Go.Proofs.YtefdjahaimnndaaGreatDoor
open Go.ChangeShapes Go.WideShapes Go.ChangeAt Go.RowKit Go.Deep
open Go.Lib (hid)
set_option linter.unusedVariables false
set_option linter.unusedSimpArgs false
abbrev zeroH : DH := ⟨none, 0, 0, none, 0, 0, none, 0, 0⟩
theorem rd_zero (w : World) (B : Nat) : RdD w B zeroH zeroDisk := ⟨⟨rfl, fun h => absurd h (Nat.lt_irrefl _)⟩, ⟨rfl, fun h => absurd h (Nat.lt_irrefl _)⟩, ⟨rfl, fun h => absurd h (Nat.lt_irrefl _)⟩⟩
theorem fres_le (bs : List BlockV) (ts : List (List Int)) (f : Nat) : (fres bs ts f).length ≤ 1048576 := by
 unfold fres; split
 · rw [fvals_len]; have := fsTo_le ts f 6; unfold fsize; omega
 · simp
theorem txt_eq {a b : ByteArray} : (a.toList == b.toList) = decide (a = b) := by
 rw [ByteArray.toList_eq, ByteArray.toList_eq]; by_cases h : a = b
 · subst h; simp
 · rw [decide_eq_false h]; exact beq_eq_false_iff_ne.2 (fun e => h (ByteArray.ext (Array.toList_inj.1 e)))
set_option maxRecDepth 8000 in
set_option maxHeartbeats 4000000 in
theorem fnDiskLine_w (a0 : Option Addr) (len0 cap0 : Nat) (z0 : List Int) (w : World) (w0 : IsRow .u8 w a0 len0 cap0 z0) (hgl : Gl w) (hw4 : 4 ≤ w.heap.size) :
 Calls Tryz.prog 6 #[.slice a0 len0 cap0] w fun e w' => e = .returned (.bool true) ∧ Below w.heap.size w w' := by
 obtain ⟨q1, q2, q3, q4⟩ := bytes_ok w0; have GL := hid hgl; clear hgl; by_cases hl : 1048576 < len0
 · go_enter Tryz.func6, Tryz.ntmps6
   go_wp2; go_ret
   exact ⟨rfl, Below.refl _ _⟩
 go_enter Tryz.func6, Tryz.ntmps6
 go_wp2_with fail; refine (drawDiskLine_c q3 q4 q1 q2).mono ?_
 rintro e w1 ⟨h, d, s, rfl, hs100, o1, SM, b1⟩; have B1 := hid b1; have HSM := hid SM; have hs : s.size ≤ 1048576 := by omega
 have HS := hid hs; obtain ⟨R, hR⟩ : ∃ R, lineF d s = R := ⟨_, rfl⟩; have HRR := hid hR; have SMX := hid (show SmallDV R.d by rw [← hR]; exact lineF_small d s); clear hR q3 q4 w0 b1 SM hs hs100; obtain ⟨X, ans⟩ := R; simp only at SMX; go_upto_region 4 with (fail)
 have bx : Below w1.heap.size w1 (w1.alloc (.cells (dc h.bA h.bn h.bc h.tA h.tn h.tc d.hot d.warm d.cold d.stamp h.nA h.nn h.nc) 31)) := (Below.refl _ _).alloc (Nat.le_refl _) _; have KD2 : BoxD (w1.alloc (.cells (dc h.bA h.bn h.bc h.tA h.tn h.tc d.hot d.warm d.cold d.stamp h.nA h.nn h.nc) 31)) w1.heap.size h d := Blk.new _ _ _; have B2 := hid (B1.out.trans (bx.mono B1.out.size)); have s2 := bx.size; have RD2 := hid (o1.rd.below bx); have HCAP := hid o1.capN; have hg2 : w.heap.size ≤ w1.heap.size := B1.out.size; clear bx o1 B1; generalize w1.alloc (.cells (dc h.bA h.bn h.bc h.tA h.tn h.tc d.hot d.warm d.cold d.stamp h.nA h.nn h.nc) 31) = w2 at *; generalize hggd : w1.heap.size = gd at *; obtain ⟨t0, t1, t2, t3, t4, t5, t6⟩ := Blk.all7 KD2; go_wp2_with fail; refine (diskLine_impl RD2.out s2 HCAP.out HSM.out HS.out (GL.out.below B2.out) (by omega)).mono ?_; rw [HRR.out]; rintro e w3 ⟨h3, rfl, o3, b3⟩; simp only at o3 ⊢; have KD3 := Blk.below KD2 b3 (Blk.lt KD2); have RD3 := hid (RD2.out.below (b3.mono s2)); have B3 := hid (B2.out.trans (b3.mono B2.out.size)); have s3 := Nat.le_trans s2 b3.size; clear KD2 RD2 B2 b3 t0 t1 t2 t3 t4 t5 t6; go_upto_region 5 with (fail)
 have bx : Below w3.heap.size w3 (w3.alloc (.cells (dc h3.bA h3.bn h3.bc h3.tA h3.tn h3.tc X.hot X.warm X.cold X.stamp h3.nA h3.nn h3.nc) 31)) := (Below.refl _ _).alloc (Nat.le_refl _) _; have KX4 : BoxD (w3.alloc (.cells (dc h3.bA h3.bn h3.bc h3.tA h3.tn h3.tc X.hot X.warm X.cold X.stamp h3.nA h3.nn h3.nc) 31)) w3.heap.size h3 X := Blk.new _ _ _; have B4 := hid (B3.out.trans (bx.mono B3.out.size)); have s4 := bx.size; have RX4 := hid (o3.rd.below bx); have KD4 := Blk.below KD3 bx (Blk.lt KD3); have RD4 := hid (RD3.out.below (bx.mono s3)); have l4 := Blk.lt KX4; clear bx o3 KD3 RD3 B3; generalize w3.alloc (.cells (dc h3.bA h3.bn h3.bc h3.tA h3.tn h3.tc X.hot X.warm X.cold X.stamp h3.nA h3.nn h3.nc) 31) = w4 at *; generalize hggx : w3.heap.size = gx at *; obtain ⟨t0, t1, t2, t3, t4, t5, t6⟩ := Blk.all7 KD4; go_wp2_with fail; refine (diskLine_spec RD4.out (by omega) HCAP.out HSM.out HS.out).mono ?_; rw [HRR.out]; rintro e w5 ⟨h5, rfl, o5, b5⟩; simp only at o5 ⊢; have KD5 := Blk.below KD4 b5 (Blk.lt KD4); have KX5 := Blk.below KX4 b5 (Blk.lt KX4); have RD5 := hid (RD4.out.below (b5.mono (by omega))); have RX5 := hid (RX4.out.below (b5.mono (by omega))); have B5 := hid (B4.out.trans (b5.mono B4.out.size)); have s5 := b5.size; clear KD4 KX4 RD4 RX4 B4 b5 t0 t1 t2 t3 t4 t5 t6
 go_upto_region 6 with (fail)
 have bx : Below w5.heap.size w5 (w5.alloc (.cells (dc h5.bA h5.bn h5.bc h5.tA h5.tn h5.tc X.hot X.warm X.cold X.stamp h5.nA h5.nn h5.nc) 31)) := (Below.refl _ _).alloc (Nat.le_refl _) _; have KY6 : BoxD (w5.alloc (.cells (dc h5.bA h5.bn h5.bc h5.tA h5.tn h5.tc X.hot X.warm X.cold X.stamp h5.nA h5.nn h5.nc) 31)) w5.heap.size h5 X := Blk.new _ _ _; have B6 := hid (B5.out.trans (bx.mono B5.out.size)); have s6 := bx.size; have RY6 := hid (o5.rd.below bx); have KD6 := Blk.below KD5 bx (Blk.lt KD5); have KX6 := Blk.below KX5 bx (Blk.lt KX5); have RD6 := hid (RD5.out.below (bx.mono (by omega))); have RX6 := hid (RX5.out.below (bx.mono (by omega))); clear bx o5 KD5 KX5 RD5 RX5 B5; generalize w5.alloc (.cells (dc h5.bA h5.bn h5.bc h5.tA h5.tn h5.tc X.hot X.warm X.cold X.stamp h5.nA h5.nn h5.nc) 31) = w6 at *; generalize hggy : w5.heap.size = gy at *; obtain ⟨t0, t1, t2, t3, t4, t5, t6⟩ := Blk.all7 KX6; obtain ⟨u0, u1, u2, u3, u4, u5, u6⟩ := Blk.all7 KY6; go_wp2_with fail; refine (sameDisk_same RX6.out RY6.out (by omega) (by omega) SMX.out).mono ?_; rintro e w7 ⟨rfl, b7⟩; have KD7 := Blk.below KD6 b7 (Blk.lt KD6); have KX7 := Blk.below KX6 b7 (Blk.lt KX6); have RD7 := hid (RD6.out.below (b7.mono (by omega))); have RX7 := hid (RX6.out.below (b7.mono (by omega))); have B7 := hid (B6.out.trans (b7.mono B6.out.size))
 have s7 := b7.size; clear KD6 KX6 KY6 RD6 RX6 RY6 B6 b7 t0 t1 t2 t3 t4 t5 t6 u0 u1 u2 u3 u4 u5 u6; go_upto_region 8 with (fail)
 obtain ⟨t0, t1, t2, t3, t4, t5, t6⟩ := Blk.all7 KD7; have SH := HSM.out.at_ RD7.out; go_wp2_with fail; refine (diskValid_impl RD7.out (by omega) SH.b SH.t SH.n (fun i hi => by have := SH.ns i hi; simp only [nTxt]; omega)).mono ?_; rintro e w8 ⟨rfl, b8⟩; have KD8 := Blk.below KD7 b8 (Blk.lt KD7); have KX8 := Blk.below KX7 b8 (Blk.lt KX7); have RD8 := hid (RD7.out.below (b8.mono (by omega))); have RX8 := hid (RX7.out.below (b8.mono (by omega))); have B8 := hid (B7.out.trans (b8.mono B7.out.size)); have s8 := b8.size; clear KD7 KX7 RD7 RX7 B7 b8 SH t0 t1 t2 t3 t4 t5 t6; by_cases hok : DiskOk d
 · have hb := bof_t.2 hok; rw [hb]; have HOK := hid hok; have hA := lineF_answer s hok; have hXo := lineF_ok s hok; rw [HRR.out] at hA hXo; simp only at hA hXo; have HXO := hid hXo; have HA := hid hA; obtain ⟨C, hC⟩ : ∃ C, lineF d sClean = C := ⟨_, rfl⟩; have HV := lineF_clean hok; rw [hC] at HV; have HSV := hid HV; have hCo := lineF_ok sClean hok; rw [hC] at hCo; have HCO := hid hCo; have HCC := hid hC; clear hok hb hA hXo HV hCo hC; obtain ⟨D2, a2⟩ := C; simp only at HSV HCO; go_upto_region 10 with (fail)
   obtain ⟨t0, t1, t2, t3, t4, t5, t6⟩ := Blk.all7 KD8; go_wp2_with fail; refine (diskLine_impl (s := sClean) RD8.out (by omega) HCAP.out HSM.out (by decide) (GL.out.below B8.out) (by omega)).mono ?_; rw [HCC.out]; rintro e w9 ⟨h9, rfl, o9, b9⟩; simp only at o9 ⊢; have KD9 := Blk.below KD8 b9 (Blk.lt KD8); have KX9 := Blk.below KX8 b9 (Blk.lt KX8); have RD9 := hid (RD8.out.below (b9.mono (by omega))); have RX9 := hid (RX8.out.below (b9.mono (by omega))); have B9 := hid (B8.out.trans (b9.mono B8.out.size)); have s9 := b9.size; clear KD8 KX8 RD8 RX8 B8 b9 t0 t1 t2 t3 t4 t5 t6; go_upto_region 11 with (fail)
   have bx : Below w9.heap.size w9 (w9.alloc (.cells (dc h9.bA h9.bn h9.bc h9.tA h9.tn h9.tc D2.hot D2.warm D2.cold D2.stamp h9.nA h9.nn h9.nc) 31)) := (Below.refl _ _).alloc (Nat.le_refl _) _; have KC10 : BoxD (w9.alloc (.cells (dc h9.bA h9.bn h9.bc h9.tA h9.tn h9.tc D2.hot D2.warm D2.cold D2.stamp h9.nA h9.nn h9.nc) 31)) w9.heap.size h9 D2 := Blk.new _ _ _; have B10 := hid (B9.out.trans (bx.mono B9.out.size)); have s10 := bx.size; have RC10 := hid (o9.rd.below bx); have KD10 := Blk.below KD9 bx (Blk.lt KD9); have KX10 := Blk.below KX9 bx (Blk.lt KX9); have RD10 := hid (RD9.out.below (bx.mono (by omega))); have RX10 := hid (RX9.out.below (bx.mono (by omega))); clear bx o9 KD9 KX9 RD9 RX9 B9; generalize w9.alloc (.cells (dc h9.bA h9.bn h9.bc h9.tA h9.tn h9.tc D2.hot D2.warm D2.cold D2.stamp h9.nA h9.nn h9.nc) 31) = w10 at *; generalize hggc : w9.heap.size = gc at *; go_upto_region 12 with (fail)
   go_loopw [11] (fun i wr => ∃ f : Nat, f ≤ 8 ∧ i = .int .i64 f ∧ Below w10.heap.size w10 wr) (fun i _ => 8 - (intOf i).toNat)
   case atStart => exact ⟨0, by omega, rfl, Below.refl _ _⟩
   case round =>
    obtain ⟨f, hf, rfl, hb⟩ := hrel; have HB := hid hb; have hsz := hb.size; have KDr := Blk.below KD10 hb (Blk.lt KD10); have KCr := Blk.below KC10 hb (Blk.lt KC10); clear hb; by_cases hlt : f < 8
    · have hsv := HSV.out f hlt; have HE := hid hsv.1; have HI := hid (show bof (FitsF D2.bs D2.ts f) = bof (FitsF d.bs d.ts f) by
       by_cases e : FitsF d.bs d.ts f
       · rw [bof_t.2 e, bof_t.2 (hsv.2.1 e)]
       · rw [bof_f.2 e, bof_f.2 (fun h => e (hsv.2.2 h))])
      have HFL := hid (show (fres d.bs d.ts f).length ≤ 1048576 from fres_le d.bs d.ts f); clear hsv; obtain ⟨t0, t1, t2, t3, t4, t5, t6⟩ := Blk.all7 KDr; obtain ⟨u0, u1, u2, u3, u4, u5, u6⟩ := Blk.all7 KCr; have SH := HSM.out.at_ RD10.out; have SHC := (small_ok HCO.out).at_ RC10.out; have hSb := SH.b; have hCb := SHC.b; clear SH SHC; go_upto_region 14 with (fail)
      go_wp2_with fail; refine (fileValues_impl (RD10.out.b.below (HB.out.mono (by omega))) (by omega) hSb HOK.out.1.1 (RD10.out.t.below (HB.out.mono (by omega))) (by omega) HOK.out.2.1 hlt).mono ?_
      rintro e w11 ⟨A1, c1, rfl, o11, b11⟩; have HO11 := hid o11; have HB11 := hid (HB.out.trans (b11.mono hsz)); have KC11 := Blk.below KCr b11 (Blk.lt KCr); have s11 := b11.size; clear o11 b11 t0 t1 t2 t3 t4 t5 t6 u0 u1 u2 u3 u4 u5 u6 KCr KDr; obtain ⟨u0, u1, u2, u3, u4, u5, u6⟩ := Blk.all7 KC11; go_wp2_with fail; refine (fileValues_impl (RC10.out.b.below (HB11.out.mono (by omega))) (by omega) hCb HCO.out.1.1 (RC10.out.t.below (HB11.out.mono (by omega))) (by omega) HCO.out.2.1 hlt).mono ?_; unfold OwnIx; rw [← HE.out, HI.out]; rintro e w12 ⟨A2, c2, rfl, o12, b12⟩; have HR1 := hid (rdoI (own_below HO11.out b12)); have HR2 := hid (rdoI o12); have HB12 := hid (HB11.out.trans (b12.mono (by omega))); have s12 := b12.size; clear o12 b12 u0 u1 u2 u3 u4 u5 u6 KC11 HO11 HB11; generalize bof (FitsF d.bs d.ts f) = q at *; have hqq : (q != q) = false := by simp
      have hfl := HFL.out; generalize fres d.bs d.ts f = fl at *; generalize hfn : fl.length = fn at *; clear hfn; go_wp2_with fail; refine (sameInts_o HR1.out HR2.out (by omega)).mono ?_; rintro e w13 ⟨rfl, b13⟩; have HB13 := hid (HB12.out.trans (b13.mono (by omega))); clear b13 HB12; go_wp2_with fail; go_roundw
      case rel => exact ⟨f + 1, by omega, by go_num, HB13.out⟩
      case measure => simp [intOf]; omega
    · obtain rfl : f = 8 := by omega
      have KXr := Blk.below KX10 HB.out (Blk.lt KX10); have RXr := hid (RX10.out.below (HB.out.mono (by omega))); have RDr := hid (RD10.out.below (HB.out.mono (by omega))); have BR := hid (B10.out.trans (HB.out.mono B10.out.size)); have SX := SMX.out.at_ RXr.out; obtain ⟨t0, t1, t2, t3, t4, t5, t6⟩ := Blk.all7 KXr; clear KX10 KD10 KC10 KCr RX10 RD10 RC10; go_upto_region 18 with (fail)
      go_wp2_with fail; refine (diskValid_impl RXr.out (by omega) SX.b SX.t SX.n (fun i hi => by have := SX.ns i hi; simp only [nTxt]; omega)).mono ?_
      rw [bof_t.2 HXO.out]; rintro e w14 ⟨rfl, b14⟩; have KX14 := Blk.below KXr b14 (Blk.lt KXr); have KD14 := Blk.below KDr b14 (Blk.lt KDr); have RX14 := hid (RXr.out.below (b14.mono (by omega))); have RD14 := hid (RDr.out.below (b14.mono (by omega))); have B14 := hid (BR.out.trans (b14.mono BR.out.size)); have s14 := b14.size; clear KXr KDr RXr RDr BR b14 t0 t1 t2 t3 t4 t5 t6 SX; have n1 : (ans.toList == ([] : List UInt8)) = false := by
       have h0 := txt_eq (a := ans) (b := ByteArray.empty); rw [decide_eq_false HA.out.1, show ByteArray.empty.toList = ([] : List UInt8) from (ByteArray.toList_eq _).trans rfl] at h0; exact h0
      have n2 : (ans.toList != ([] : List UInt8)) = true := by rw [bne, n1]; rfl
      by_cases hno : ans = sNo
      · obtain rfl : X = d := HA.out.2 hno; have n3 : (ans.toList == ([110, 111] : List UInt8)) = true := by rw [hno]; exact (congrArg (· == [110, 111]) (ByteArray.toList_eq _)).trans rfl
        have n4 : (ans.toList != ([110, 111] : List UInt8)) = false := by rw [bne, n3]; rfl
        clear hno; obtain ⟨t0, t1, t2, t3, t4, t5, t6⟩ := Blk.all7 KX14; obtain ⟨u0, u1, u2, u3, u4, u5, u6⟩ := Blk.all7 KD14; go_wp2_with fail; refine (sameDisk_same RX14.out RD14.out (by omega) (by omega) SMX.out).mono ?_; rintro e w15 ⟨rfl, b15⟩; go_wp2_with fail; go_ret; exact ⟨rfl, B14.out.trans (b15.mono B14.out.size)⟩
      · have n3 : (ans.toList == ([110, 111] : List UInt8)) = false := by
         have h0 := txt_eq (a := ans) (b := sNo); rw [decide_eq_false hno, show sNo.toList = [110, 111] from ByteArray.toList_eq _] at h0; exact h0
        have n4 : (ans.toList != ([110, 111] : List UInt8)) = true := by rw [bne, n3]; rfl
        clear hno; go_wp2_with fail; go_ret; exact ⟨rfl, B14.out⟩
 · have hb := bof_f.2 hok; rw [hb]; have he := HRR.out; rw [lineF_no hok] at he; injection he with e1 e2; subst e1 e2; clear hok hb; go_upto_region 9 with (fail)
   obtain ⟨t0, t1, t2, t3, t4, t5, t6⟩ := Blk.all7 KX8; have RZ := hid (rd_zero w8 w8.heap.size); go_wp2_with fail; refine (sameDisk_same (h' := zeroH) RX8.out RZ.out (by omega) (Nat.le_refl _) SMX.out).mono ?_; rintro e w9 ⟨rfl, b9⟩; have n1 : (ByteArray.empty.toList == ([] : List UInt8)) = true := (congrArg (· == []) (ByteArray.toList_eq _)).trans rfl; go_wp2_with (go_at_call 12; refine (alive_c _).mono ?_; rintro e w' ⟨rfl, rfl⟩)
   go_ret; exact ⟨rfl, B8.out.trans (b9.mono B8.out.size)⟩
end Go.Proofs.YtefdjahaimnndaaGreatDoor
