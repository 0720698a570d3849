/- Parts of the proof, one after the other. -/
import Derived.Test.YtefdjahaimnndaaGreatDoorC31
import Derived.Test.YtefdjahaimnndaaGreatDoorC13
import Derived.Test.YtefdjahaimnndaaGreatDoorC10
import Derived.Test.YtefdjahaimnndaaGreatDoorC8
import Derived.Test.YtefdjahaimnndaaGreatDoorC7
import Derived.Test.YtefdjahaimnndaaGreatDoorC5
namespace Go.Proofs.YtefdjahaimnndaaGreatDoor
open Go.ChangeShapes Go.WideShapes Go.ChangeAt Go.RowKit Go.Deep
open Go.Lib (hid)
set_option linter.unusedVariables false
set_option linter.unusedSimpArgs false
def OwnTb (w0 : World) (ts : List (List Int)) (b : Bool) (e : Ending) (w' : World) : Prop := ∃ A c, e = .returned (.tuple #[.agg #[.slice A ts.length c], .bool b]) ∧ OwT w' w0.heap.size A ts.length c ts ∧ Below w0.heap.size w0 w'
theorem ownTb_of {w0 w' : World} {ts : List (List Int)} {b : Bool} {A : Option Addr} {m c : Nat} (hm : ts.length = m) (h : OwT w' w0.heap.size A m c ts) (hb : Below w0.heap.size w0 w') : OwnTb w0 ts b (.returned (.tuple #[.agg #[.slice A m c], .bool b])) w' := by
 subst hm; exact ⟨A, c, rfl, h, hb⟩
set_option maxRecDepth 8000 in
theorem tableGet_impl {A : Option Addr} {n c B f k : Nat} {ts : List (List Int)} {w : World} (hr : RdT w B A n ts) (hB : B ≤ w.heap.size) (hok : TableOk ts) (hf : f < 8) (hk : k < 6) :
 Calls Tryz.prog 127 #[.agg #[.slice A n c], .int .i64 f, .int .i64 k] w fun e w' => e = .returned (.int .i64 (tE ts f k)) ∧ Below w.heap.size w w' := by
 have HE := hid (show (ts.getD f []).getD k 0 = tE ts f k from rfl); obtain rfl : n = 8 := by rw [← hr.len, hok.1]
 have HB := hid (bof_t.2 hok); have HR := hid (hr.mono hB); have H6 := hid (hok.2.1 f hf); have b1 : Below w.heap.size w (w.alloc (.cells #[.slice A 8 c] 26)) := (Below.refl _ _).alloc (Nat.le_refl _) _; have k1 := Blk.new w 26 #[.slice A 8 c]; have B1 := hid b1; clear hr hok b1; go_enter Tryz.func127, Tryz.ntmps127
 go_upto_region 1 with (fail)
 generalize w.alloc (.cells #[.slice A 8 c] 26) = w1 at *; have t0 := k1.cell 0; simp at t0; have f0 : (0 : Int) ≤ f := by omega
 have f8 : (f : Int) < 8 := by omega
 have p0 : (0 : Int) ≤ k := by omega
 have p5 : (k : Int) ≤ 5 := by omega
 have p6 : (k : Int) < 6 := by omega
 go_wp2_with fail; refine (tableValid_impl (HR.out.below B1.out) B1.out.size (by omega)).mono ?_
 rw [HB.out]; rintro e w2 ⟨rfl, b2⟩; have k2 := k1.below b2 k1.lt; have B2 := hid (B1.out.trans (b2.mono B1.out.size)); clear t0 k1 B1 b2; have t0 := k2.cell 0; simp at t0; obtain ⟨b, off, e, hbB, hc⟩ := (HR.out.below B2.out).at_ (by omega); subst e; obtain ⟨A', n', c', d0, hnc, hcm, hrg⟩ := hc f hf; have hn6 : n' = 6 := by rw [← hrg.len]; exact H6.out
 subst hn6; obtain ⟨b', off', e', hb', hcc⟩ := hrg.at_ (by omega); subst e'; have d1 := hcc k hk; rw [HE.out] at d1; clear hc hcc hrg; go_wp2; go_ret; exact ⟨rfl, B2.out⟩
set_option maxRecDepth 8000 in
set_option maxHeartbeats 2000000 in
theorem tablePut_impl {A : Option Addr} {n c B f k : Nat} {v : Int} {ts : List (List Int)} {w : World} (hr : RdT w B A n ts) (hB : B ≤ w.heap.size) (hok : TableOk ts) (hf : f < 8) (hk : k < 6) (hv : 0 ≤ v ∧ v ≤ 47) (hno : ∀ a b, a < 8 → b < 6 → tE ts a b ≠ v) :
 Calls Tryz.prog 126 #[.agg #[.slice A n c], .int .i64 f, .int .i64 k, .int .i64 v] w (OwnTb w (setE ts f k v) true) := by
 have HNO := hid hno; have HPN := hid (show inB v (-1) 47 = true from by rw [inB_t]; omega); clear hno; obtain rfl : n = 8 := by rw [← hr.len, hok.1]
 have HB := hid (bof_t.2 hok); have HR := hid (hr.mono hB); have HOK := hid hok; have b2 : Below w.heap.size w ((w.alloc (.cells #[.slice A 8 c] 26)).alloc (.cells #[.slice none 0 0] 26)) := ((Below.refl _ _).alloc (Nat.le_refl _) _).alloc (by simp) _; have K2 := (Blk.new w 26 #[.slice A 8 c]).alloc (.cells #[.slice none 0 0] 26); have R2 := Blk.new (w.alloc (.cells #[.slice A 8 c] 26)) 26 #[.slice none 0 0]; rw [show (w.alloc (.cells #[.slice A 8 c] 26)).heap.size = w.heap.size + 1 by simp] at R2; have B2 := hid b2; clear hr hok b2; go_enter Tryz.func126, Tryz.ntmps126
 go_upto_region 1 with (fail)
 generalize (w.alloc (.cells #[.slice A 8 c] 26)).alloc (.cells #[.slice none 0 0] 26) = w2 at *; have t0 := K2.cell 0; simp at t0; have f0 : (0 : Int) ≤ f := by omega
 have f8 : (f : Int) < 8 := by omega
 have p0 : (0 : Int) ≤ k := by omega
 have p5 : (k : Int) ≤ 5 := by omega
 have p6 : (k : Int) < 6 := by omega
 have v0 : (0 : Int) ≤ v := by omega
 go_wp2_with fail; refine (tableValid_impl (HR.out.below B2.out) B2.out.size (by omega)).mono ?_
 rw [HB.out]; rintro e w3 ⟨rfl, b3⟩; have K3 := K2.below b3 K2.lt; have R3 := R2.below b3 R2.lt; have B3 := hid (B2.out.trans (b3.mono B2.out.size)); clear t0 K2 R2 B2 b3; go_upto_region 3 with (go_at_call 98; refine (pageNumber_c v _).mono ?_; rw [HPN.out]; rintro e w' ⟨rfl, rfl⟩)
 have t0 := K3.cell 0; simp at t0; go_wp2_with fail; refine (cloneTable_c (HR.out.below B3.out) B3.out.size ⟨HOK.out.1, HOK.out.2.1⟩).mono ?_; rintro e w4 ⟨A4, c4, rfl, o4, b4⟩; rw [HOK.out.1] at o4 ⊢; have K4 := K3.below b4 K3.lt; have R4 := R3.below b4 R3.lt; have O4 := hid (o4.lower (base' := w.heap.size) B3.out.size); have B4 := hid (B3.out.trans (b4.mono B3.out.size)); clear t0 K3 R3 B3 b4 o4; go_upto_region 4 with (fail)
 have bx : Below w4.heap.size w4 (w4.alloc (.cells #[.slice A4 8 c4] 26)) := (Below.refl _ _).alloc (Nat.le_refl _) _; have Q5 := Blk.new w4 26 #[.slice A4 8 c4]; have K5 := K4.below bx K4.lt; have R5 := R4.below bx R4.lt; have O5 := hid (O4.out.below bx); have B5 := hid (B4.out.trans (bx.mono B4.out.size)); have lr := R4.lt; clear bx K4 R4 O4 B4; generalize w4.alloc (.cells #[.slice A4 8 c4] 26) = w5 at *; generalize w4.heap.size = go at *; have t0 := K5.cell 0; simp at t0; go_upto_region 5 with (fail)
 have HRT := hid (HR.out.below B5.out); go_loop [45] (fun i => ∃ ff : Nat, ff ≤ 8 ∧ i = .int .i64 ff) (fun i => 8 - (intOf i).toNat)
 case atStart => exact ⟨0, by omega, rfl⟩
 case round =>
  obtain ⟨ff, hff, rfl⟩ := hrel; by_cases hlt : ff < 8
  · have fI : (ff : Int) < 8 := by omega
    obtain ⟨b, off, e, hbB, hc⟩ := HRT.out.at_ (by omega); subst e; obtain ⟨A', n', c', d0, hnc, hcm, hrg⟩ := hc ff hlt; have hn6 : n' = 6 := by rw [← hrg.len]; exact HOK.out.2.1 ff hlt
    subst hn6; obtain ⟨b', off', e', hb', hcc⟩ := hrg.at_ (by omega); subst e'; clear hc; go_upto_region 8 with (fail)
    clear d0; go_loop [52] (fun i => ∃ kk : Nat, kk ≤ 6 ∧ i = .int .i64 kk) (fun i => 6 - (intOf i).toNat)
    case atStart => exact ⟨0, by omega, rfl⟩
    case round =>
     obtain ⟨kk, hkk, rfl⟩ := hrel; by_cases hkl : kk < 6
     · have kI : (kk : Int) < 6 := by omega
       have d1 := hcc kk hkl; have hne : ((ts.getD ff []).getD kk 0 == v) = false := beq_eq_false_iff_ne.2 (HNO.out ff kk hlt hkl); generalize (ts.getD ff []).getD kk 0 = u at *; have HCC := hid hcc; clear hcc; go_wp2; go_round
       case rel => exact ⟨kk + 1, by omega, by go_num⟩
       case measure => simp [intOf]; omega
     · obtain rfl : kk = 6 := by omega
       clear hcc; go_wp2; go_round
       case rel => exact ⟨ff + 1, by omega, by go_num⟩
       case measure => simp [intOf]; omega
  · obtain rfl : ff = 8 := by omega
    have q0 := Q5.cell 0; simp at q0; obtain ⟨gt, e, hgt1, hgt2⟩ := O5.out.form (by omega); subst e; obtain ⟨A', n', c', d0, z0, hnc, hcm, hnl, hrow⟩ := OwT.cells O5.out f hf; have hn6 : n' = 6 := by rw [hnl]; exact HOK.out.2.1 f hf
    obtain ⟨gr, cap, e, hg1, hg2⟩ := hrow.form (by omega); injection e with e _ _; subst e; subst hn6; have d1 := own_cellI hrow k (by rw [← hnl]; exact hk); have z1 := hrow.frozenAt (g := gr) (cap := c') k; have hstd := hrow.stored (g := gr) (cap := c') k (.int .i64 v); rw [← List.map_set] at hstd; have E6 := OwT.turn O5.out hf d0 hstd.2 hstd.1 hnl; have hch := OwT.chg O5.out hf d0 hstd.2 B5.out.size; have Q6 := Q5.typed hch.1 (by decide); have R6 := R5.typed hch.1 (by decide); have B6 := hid (B5.out.trans hch.2); have T6 := hid (show OwT (w5.setCell ⟨gr, k, none⟩ (.int .i64 v)) w.heap.size (some ⟨gt, 0, none⟩) 8 c4 (setE ts f k v) from E6); clear hstd hch E6 hnl hrow hg1 hg2; go_upto_region 15 with (fail)
    generalize w5.setCell ⟨gr, k, none⟩ (.int .i64 v) = w6 at *; clear d0 d1 z0 z1 q0 t0; have q0 := Q6.cell 0; have y0 := R6.cell 0; simp at q0 y0; have z0 := R6.frozen 0; have R7 := R6.set_ 0 (.slice (some ⟨gt, 0, none⟩) 8 c4); simp at R7; have T7 := hid (T6.out.typed (ChgT.blk R6 0 (.slice (some ⟨gt, 0, none⟩) 8 c4)) (by decide) (by decide)); have B7 := hid (B6.out.setCell (p := ⟨w.heap.size + 1, 0, none⟩) (by show w.heap.size ≤ w.heap.size + 1; omega) (.slice (some ⟨gt, 0, none⟩) 8 c4)); have HR7 := hid R7; clear R7 R6; repeat (first | go_values | go_skip | go_guarded | go_step | go_upon)
    generalize w6.setCell ⟨w.heap.size + 1, 0, none⟩ (.slice (some ⟨gt, 0, none⟩) 8 c4) = wz at *; have e0 := HR7.out.cell 0; simp at e0; refine bodyPost_ret (by simp [results, Tryz.results126, go_sem, e0]; try rfl) rfl ?_; exact ownTb_of (by unfold setE; simpa using HOK.out.1) T7.out B7.out
set_option maxRecDepth 8000 in
set_option maxHeartbeats 2000000 in
theorem cutFile_impl {A : Option Addr} {n c B f : Nat} {ts : List (List Int)} {w : World} (hr : RdT w B A n ts) (hB : B ≤ w.heap.size) (hok : TableOk ts) (hf : f < 8) :
 Calls Tryz.prog 130 #[.agg #[.slice A n c], .int .i64 f, .int .i64 0] w (OwnT w (cutT ts f)) := by
 obtain rfl : n = 8 := by rw [← hr.len, hok.1]
 have HB := hid (bof_t.2 hok); have HR := hid (hr.mono hB); have HOK := hid hok; have b2 : Below w.heap.size w ((w.alloc (.cells #[.slice A 8 c] 26)).alloc (.cells #[.slice none 0 0] 26)) := ((Below.refl _ _).alloc (Nat.le_refl _) _).alloc (by simp) _; have K2 := (Blk.new w 26 #[.slice A 8 c]).alloc (.cells #[.slice none 0 0] 26); have R2 := Blk.new (w.alloc (.cells #[.slice A 8 c] 26)) 26 #[.slice none 0 0]; rw [show (w.alloc (.cells #[.slice A 8 c] 26)).heap.size = w.heap.size + 1 by simp] at R2; have B2 := hid b2; clear hr hok b2; go_enter Tryz.func130, Tryz.ntmps130
 go_upto_region 1 with (fail)
 generalize (w.alloc (.cells #[.slice A 8 c] 26)).alloc (.cells #[.slice none 0 0] 26) = w2 at *; have t0 := K2.cell 0; simp at t0; have f0 : (0 : Int) ≤ f := by omega
 have f8 : (f : Int) < 8 := by omega
 go_wp2_with fail; refine (tableValid_impl (HR.out.below B2.out) B2.out.size (by omega)).mono ?_
 rw [HB.out]; rintro e w3 ⟨rfl, b3⟩; have K3 := K2.below b3 K2.lt; have R3 := R2.below b3 R2.lt; have B3 := hid (B2.out.trans (b3.mono B2.out.size)); clear t0 K2 R2 B2 b3; go_upto_region 3 with (fail)
 have t0 := K3.cell 0; simp at t0; go_wp2_with fail; refine (cloneTable_c (HR.out.below B3.out) B3.out.size ⟨HOK.out.1, HOK.out.2.1⟩).mono ?_; rintro e w4 ⟨A4, c4, rfl, o4, b4⟩; rw [HOK.out.1] at o4 ⊢; have K4 := K3.below b4 K3.lt; have R4 := R3.below b4 R3.lt; have O4 := hid (o4.lower (base' := w.heap.size) B3.out.size); have B4 := hid (B3.out.trans (b4.mono B3.out.size)); clear t0 K3 R3 B3 b4 o4; go_upto_region 4 with (fail)
 have bx : Below w4.heap.size w4 (w4.alloc (.cells #[.slice A4 8 c4] 26)) := (Below.refl _ _).alloc (Nat.le_refl _) _; have Q5 := Blk.new w4 26 #[.slice A4 8 c4]; have K5 := K4.below bx K4.lt; have R5 := R4.below bx R4.lt; have O5 := hid (O4.out.below bx); have B5 := hid (B4.out.trans (bx.mono B4.out.size)); have lr := R4.lt; clear bx K4 R4 O4 B4; generalize w4.alloc (.cells #[.slice A4 8 c4] 26) = w5 at *; generalize w4.heap.size = go at *; go_upto_region 5 with (fail)
 go_loopw [8] (fun i wr => ∃ kk : Nat, kk ≤ 6 ∧ i = .int .i64 kk ∧ OwT wr w.heap.size A4 8 c4 (ts.set f (cutRow (ts.getD f []) kk)) ∧ Blk wr (w.heap.size + 1) 26 #[.slice none 0 0] ∧ Blk wr go 26 #[.slice A4 8 c4] ∧ Below w.heap.size w wr) (fun i _ => 6 - (intOf i).toNat)
 case atStart => exact ⟨0, by omega, rfl, by rw [show cutRow (ts.getD f []) 0 = ts.getD f [] from by simp [cutRow], set_getD_self [] ts (by rw [HOK.out.1]; exact hf)]; exact O5.out, R5, Q5, B5.out⟩
 case round =>
  obtain ⟨kk, hkk, rfl, hO, hR, hQ, hBb⟩ := hrel; have H6 := hid (HOK.out.2.1 f hf); have HO := hid hO; have HRb := hid hR; have HQ := hid hQ; have HBb := hid hBb; clear hO hR hQ hBb; by_cases hkl : kk < 6
  · have kI : (kk : Int) ≤ 5 := by omega
    have kJ : (kk : Int) < 6 := by omega
    have q0 := HQ.out.cell 0; simp at q0; obtain ⟨gt, e, hgt1, hgt2⟩ := HO.out.form (by omega); subst e; obtain ⟨A', n', c', d0, z0, hnc, hcm, hnl, hrow⟩ := OwT.cells HO.out f hf; have hfl : f < (ts.set f (cutRow (ts.getD f []) kk)).length := by simp [HOK.out.1]; exact hf
    have hgd : (ts.set f (cutRow (ts.getD f []) kk)).getD f [] = cutRow (ts.getD f []) kk := getD_setG [] ts f _ (by rw [HOK.out.1]; exact hf); rw [hgd] at hnl hrow; rw [cutRow_len H6.out hkk] at hnl; subst hnl; obtain ⟨gr, cap, e, hg1, hg2⟩ := hrow.form (by omega); injection e with e _ _; subst e; have d1 := own_cellI hrow kk (by rw [cutRow_len H6.out hkk]; exact hkl); have z1 := hrow.frozenAt (g := gr) (cap := c') kk; have hstd := hrow.stored (g := gr) (cap := c') kk (.int .i64 (-1)); rw [← List.map_set, cutRow_set H6.out hkl] at hstd; have E6 := OwT.turn HO.out hf d0 hstd.2 hstd.1 (by rw [hgd, cutRow_len H6.out hkk]); rw [List.set_set] at E6; have hch := OwT.chg HO.out hf d0 hstd.2 HBb.out.size; have T6 := hid E6; have Q6 := hid (HQ.out.typed hch.1 (by decide)); have R6 := hid (HRb.out.typed hch.1 (by decide)); have B6 := hid (HBb.out.trans hch.2); clear hstd E6 hch hrow hgd hg1 hg2 hfl; go_upto_region 6 with (fail)
    generalize wr.setCell ⟨gr, kk, none⟩ (.int .i64 (-1)) = w6 at *; go_wp2; go_roundw
    case rel => exact ⟨kk + 1, by omega, by go_num, T6.out, R6.out, Q6.out, B6.out⟩
    case measure => simp [intOf]; omega
  · obtain rfl : kk = 6 := by omega
    rw [cutRow_six H6.out] at HO; obtain ⟨gt, e, hgt1, hgt2⟩ := HO.out.form (by omega); subst e; have Q6 := HQ.out; have R6 := HRb.out; have T6 := hid HO.out; have B6 := HBb; go_upto_region 8 with (fail)
    have q0 := Q6.cell 0; have y0 := R6.cell 0; simp at q0 y0; have z0 := R6.frozen 0; have R7 := R6.set_ 0 (.slice (some ⟨gt, 0, none⟩) 8 c4); simp at R7; have T7 := hid (T6.out.typed (ChgT.blk R6 0 (.slice (some ⟨gt, 0, none⟩) 8 c4)) (by decide) (by decide)); have B7 := hid (B6.out.setCell (p := ⟨w.heap.size + 1, 0, none⟩) (by show w.heap.size ≤ w.heap.size + 1; omega) (.slice (some ⟨gt, 0, none⟩) 8 c4)); have HR7 := hid R7; clear R7 R6; repeat (first | go_values | go_skip | go_guarded | go_step | go_upon)
    generalize wr.setCell ⟨w.heap.size + 1, 0, none⟩ (.slice (some ⟨gt, 0, none⟩) 8 c4) = wz at *; have e0 := HR7.out.cell 0; simp at e0; refine bodyPost_ret (by simp [results, Tryz.results130, go_sem, e0]; try rfl) rfl ?_; exact ownT_of (by unfold cutT; simpa using HOK.out.1) T7.out B7.out
end Go.Proofs.YtefdjahaimnndaaGreatDoor
