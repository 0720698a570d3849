/- Parts of the proof, one after the other. -/
import Derived.Test.YtefdjahaimnndaaGreatDoorC11
namespace Go.Proofs.YtefdjahaimnndaaGreatDoor
open Go.ChangeShapes Go.WideShapes Go.ChangeAt Go.RowKit
open Go.Lib (hid)
set_option linter.unusedVariables false
set_option linter.unusedSimpArgs false
set_option maxRecDepth 8000 in
set_option maxHeartbeats 4000000 in
theorem diskValid_spec {h : DH} {d : DiskV} {B : Nat} {w : World} (hr : RdD w B h d) (hB : B ≤ w.heap.size) (s1 : h.bn ≤ 1048576) (s2 : h.tn ≤ 1048576) (s3 : h.nn ≤ 1048576) (s4 : ∀ i, i < h.nn → (nTxt d.ns i).size ≤ 9223372036854775807) :
 Calls Tryz.prog 34 #[.agg (dc h.bA h.bn h.bc h.tA h.tn h.tc d.hot d.warm d.cold d.stamp h.nA h.nn h.nc)] w fun e w' => e = .returned (.bool (bof (DiskOk d))) ∧ Below w.heap.size w w' := by
 obtain ⟨bs, ts, x, y, z, st, ns⟩ := d; obtain ⟨bA, bn, bc, tA, tn, tc, nA, nn, nc⟩ := h; simp only at s1 s2 s3 s4; have S4 := hid s4; clear s4; have b0 : Below w.heap.size w (w.alloc (.cells (dc bA bn bc tA tn tc x y z st nA nn nc) 31)) := (Below.refl _ _).alloc (Nat.le_refl _) _; have k0 := Blk.new w 31 (dc bA bn bc tA tn tc x y z st nA nn nc); have hr1 := ((hr.mono hB).below b0).below ((Below.refl _ _).drew); have BB1 := hid b0.drew; clear hr; simp only
 go_enter Tryz.func34, Tryz.ntmps34
 go_upto_region 1 with (fail)
 generalize w.alloc (.cells (dc bA bn bc tA tn tc x y z st nA nn nc) 31) = w1 at *; have k1 : Blk w1.drew w.heap.size 31 (dc bA bn bc tA tn tc x y z st nA nn nc) := k0.below ((Below.refl _ _).drew) k0.lt; have l1 := k1.lt; have AA1 := k1.all7; clear b0 k0; by_cases hH : HeadsOk bs x y z
 · by_cases hT : TableOk ts
   · by_cases hN : NamesOk ns
     · have hls := lastAt_range hH.1 (k := 4 * bs.length) (Nat.le_refl _); have HLS := hid (show lastAt bs (4 * bs.length) = lastStamp bs from rfl); rw [HLS.out] at hls; by_cases hS : lastStamp bs ≤ st ∧ st ≤ 1000
       · have hst : inB st (lastStamp bs) 1000 = true := by rw [inB_t]; exact hS
         refine wp_region_held_drew (S := fun w' => w'.cell? ⟨w.heap.size, 0, none⟩ = some (.slice bA bn bc) ∧ w'.cell? ⟨w.heap.size, 1, none⟩ = some (.slice tA tn tc) ∧ w'.cell? ⟨w.heap.size, 2, none⟩ = some (.int .i64 x) ∧ w'.cell? ⟨w.heap.size, 3, none⟩ = some (.int .i64 y) ∧ w'.cell? ⟨w.heap.size, 4, none⟩ = some (.int .i64 z) ∧ w'.cell? ⟨w.heap.size, 5, none⟩ = some (.int .i64 st) ∧ w'.cell? ⟨w.heap.size, 6, none⟩ = some (.slice nA nn nc)) (by kernel_rfl) ?_ (fun h_ => ?_)
         · exact AA1
         refine tk 0 ?_; refine tk 1 ?_; refine tk 2 ?_; refine tk 3 ?_; refine rd1 4 (fun K hK => ?_); go_simp; refine (headsValid_spec hr1.b BB1.out.size s1).mono ?_; rintro e w2 ⟨rfl, b2⟩; rw [bof_t.2 hH]; have k2 := k1.below b2 l1; have l2 := k2.lt; have BB2 := hid (BB1.out.trans (b2.mono BB1.out.size)); have hr2 := hr1.below (b2.mono BB1.out.size); have AA2 := k2.all7; clear b2 AA1; go_wp2_with fail; refine hK.out _ _ (AA2) fun h_ => ?_
         clear hK K; refine pt ?_; refine tk 5 ?_; refine tk 6 ?_; refine tk 7 ?_; refine tk 8 ?_; refine rd1 9 (fun K hK => ?_); go_simp; refine (tableValid_spec hr2.t BB2.out.size s2).mono ?_; rintro e w3 ⟨rfl, b3⟩; rw [bof_t.2 hT]; have k3 := k2.below b3 l2; have l3 := k3.lt; have BB3 := hid (BB2.out.trans (b3.mono BB2.out.size)); have hr3 := hr2.below (b3.mono BB2.out.size); have AA3 := k3.all7; clear b3 AA2; go_wp2_with fail; refine hK.out _ _ (AA3) fun h_ => ?_
         clear hK K; refine pt ?_; refine tk 10 ?_; refine tk 11 ?_; refine tk 12 ?_; refine tk 13 ?_; refine tk 14 ?_; refine rd1 15 (fun K hK => ?_); go_simp; refine (namesValid_spec hr3.n s3 S4.out).mono ?_; rintro e w4 ⟨rfl, hm4⟩; rw [bof_t.2 hN]; have b4 : Below w3.heap.size w3 w4 := (by obtain ⟨m, rfl⟩ := hm4; exact below_drewN (Below.refl _ _) m); clear hm4; have k4 := k3.below b4 l3; have l4 := k4.lt; have BB4 := hid (BB3.out.trans (b4.mono BB3.out.size)); have hr4 := hr3.below (b4.mono BB3.out.size); have AA4 := k4.all7; clear b4 AA3; go_wp2_with fail; refine hK.out _ _ (AA4) fun h_ => ?_
         clear hK K; refine pt ?_; refine tk 16 ?_; refine tk 17 ?_; refine tk 18 ?_; refine tk 19 ?_; refine tk 20 ?_; refine tk 21 ?_; refine tk 22 ?_; refine rd1 23 (fun K hK => ?_); go_simp; refine (lastStamp_spec hr4.b BB4.out.size s1 hH.1).mono ?_; rintro e w5 ⟨rfl, b5⟩; have k5 := k4.below b5 l4; have l5 := k5.lt; have BB5 := hid (BB4.out.trans (b5.mono BB4.out.size)); have hr5 := hr4.below (b5.mono BB4.out.size); have AA5 := k5.all7; clear b5 AA4; go_wp2_with fail; refine hK.out _ _ (AA5) fun h_ => ?_
         clear hK K; refine pt ?_; refine rd1 24 (fun K hK => ?_); go_simp; refine (l1In_c _ _ _ _).mono ?_; rw [hst]; rintro e w6 ⟨rfl, rfl⟩; go_wp2_with fail; refine hK.out _ _ (AA5) fun h_ => ?_
         clear hK K; refine pt ?_; refine tk 25 ?_; refine tk 26 ?_; refine dn ?_; clear h_ hst hls HLS AA5; have BW := hid (Below.refl w5.heap.size w5); go_wp2_with fail; go_loopw [3] (fun i wr => ∃ k : Nat, k ≤ 8 ∧ i = .int .i64 k ∧ (∀ f, f < k → FitsF bs ts f) ∧ Below w.heap.size w wr ∧ Below w5.heap.size w5 wr) (fun i _ => 8 - (intOf i).toNat)
         case atStart => exact ⟨0, Nat.zero_le _, rfl, fun j h => absurd h (Nat.not_lt_zero _), BB5.out, BW.out⟩
         case round =>
          obtain ⟨k, hk, rfl, hfit, hbel, hb1⟩ := hrel; have HF := hid hfit; have HB := hid hbel; have HB1 := hid hb1; have hsz := hbel.size; have hrr := hr5.below (hb1.mono BB5.out.size); have kk := k5.below hb1 l5; obtain ⟨t0, t1, t2, t3, t4, t5, t6⟩ := kk.all7; clear hfit hbel hb1; by_cases hlt : k < 8
          · go_wp2_with fail; refine (fileValues_spec hrr.b hsz s1 hH.1 hrr.t hsz hT hlt).mono ?_
            rintro e w8 ⟨A8, c8, rfl, o8, b8⟩; have HB8 := hid (HB.out.trans (b8.mono hsz)); have HB18 := hid (HB1.out.trans (b8.mono HB1.out.size)); clear b8 hrr t0 t1 t2 t3 t4 t5 t6 o8 kk; by_cases hft : FitsF bs ts k
            · have HF2 := hid (show ∀ f, f < k + 1 → FitsF bs ts f from fun f hf => by
               by_cases e : f = k
               · subst e; exact hft
               · exact HF.out f (by omega))
              rw [bof_t.2 hft]; clear hft; go_wp2; go_roundw
              case rel => exact ⟨k + 1, by omega, by go_num, HF2.out, HB8.out, HB18.out⟩
              case measure => simp [intOf]; omega
            · have hno := hid (show ¬ DiskOk ⟨bs, ts, x, y, z, st, ns⟩ from fun h => hft (h.2.2.1 k hlt)); rw [bof_f.2 hft]; clear hft; go_wp2; go_ret; exact ⟨ret_bof_f hno.out, HB8.out⟩
          · obtain rfl : k = 8 := by omega
            have HFT := hid (show DiskFits bs ts from HF.out); have rn := hrr.n; have HLN := hid rn.len; clear hrr kk t0 t1 t2 t3 t4 t5 HF HB1 k5 l5 hr5 BB1 BB2 BB3 BB4 BB5 l1 l2 l3 l4 k1 k2 k3 k4 hr1 hr2 hr3 hr4; obtain ⟨wo, rfl⟩ : ∃ wo : World, wo = wr := ⟨_, rfl⟩; go_wp2_with fail; go_loopw [6] (fun i wr => ∃ k : Nat, k ≤ nn ∧ i = .int .i64 k ∧ OneEach ns k ∧ ∃ m, wr = wo.drewN m) (fun i _ => nn - (intOf i).toNat)
            case atStart => exact ⟨0, Nat.zero_le _, rfl, OneEach.zero _, 0, rfl⟩
            case round =>
             obtain ⟨k, hk, rfl, hone, m, rfl⟩ := hrel; have HO := hid hone; clear hone; by_cases hlk : k < nn
             · obtain ⟨b, off, rfl, hbB, hc⟩ := rn.at_ (by omega); have HC := hid hc; have ck := (hc k hlk).2; have HV := hid (show (ns.getD k noName).2 = nFil ns k from rfl); rw [HV.out] at ck; obtain ⟨fk, hfk⟩ : ∃ fk, nFil ns k = fk := ⟨_, rfl⟩; rw [hfk] at ck; have HFK := hid hfk; clear hc rn hfk; go_wp2_with fail; go_loopw [7] (fun i wr => ∃ j : Nat, j ≤ k ∧ i = .int .i64 j ∧ (∀ i, i < j → nFil ns i ≠ nFil ns k) ∧ ∃ m, wr = wo.drewN m) (fun i _ => k - (intOf i).toNat)
               case atStart => exact ⟨0, Nat.zero_le _, rfl, fun j h => absurd h (Nat.not_lt_zero _), _, rfl⟩
               case round =>
                obtain ⟨j, hj, rfl, hdif, m2, rfl⟩ := hrel; have HD := hid hdif; clear hdif; by_cases hjk : j < k
                · have hjn : j < nn := by omega
                  have cj := (HC.out j hjn).2; have HV2 := hid (show (ns.getD j noName).2 = nFil ns j from rfl); rw [HV2.out] at cj; obtain ⟨fj, hfj⟩ : ∃ fj, nFil ns j = fj := ⟨_, rfl⟩; rw [hfj] at cj; have HFJ := hid hfj; clear hfj; by_cases he : fj = fk
                  · have hno := hid (show ¬ DiskOk ⟨bs, ts, x, y, z, st, ns⟩ from fun h => h.2.2.2.2.2 k j hjk (by have := HLN.out; simp only; omega) (by simp only; rw [HFJ.out, HFK.out]; exact he)); have hq : (fj == fk) = true := by simp [he]
                    clear he; go_upto_region 15 with (fail)
                    go_quiet (fail)
                    go_wp2; go_ret
                    exact ⟨ret_bof_f hno.out, below_drewN HB.out _⟩
                  · have HD2 := hid (show ∀ i, i < j + 1 → nFil ns i ≠ nFil ns k from fun i hi => by
                     by_cases e : i = j
                     · subst e; rw [HFJ.out, HFK.out]; exact he
                     · exact HD.out i (by omega))
                    have hq : (fj == fk) = false := by simp [he]
                    clear he; go_upto_region 15 with (fail)
                    go_quiet (fail)
                    go_wp2; go_roundw
                    case rel => exact ⟨j + 1, by omega, by go_num, HD2.out, _, by first | rfl | rw [World.drewN_drewN]⟩
                    case measure => simp [intOf]; omega
                · obtain rfl : j = k := by omega
                  have HO2 := hid (show OneEach ns (j + 1) from HO.out.step HD.out); go_wp2; go_roundw
                  case rel => exact ⟨j + 1, by omega, by go_num, HO2.out, _, rfl⟩
                  case measure => simp [intOf]; omega
             · obtain rfl : k = nn := by omega
               have hyes := hid (show DiskOk ⟨bs, ts, x, y, z, st, ns⟩ from ⟨hH, hT, HFT.out, hS, hN, by have := HO.out; rw [← HLN.out] at this; exact this⟩); clear rn; go_wp2; go_ret; exact ⟨ret_bof_t hyes.out, below_drewN HB.out _⟩
       · have hst : inB st (lastStamp bs) 1000 = false := by rw [inB_f]; omega
         have hno := hid (show ¬ DiskOk ⟨bs, ts, x, y, z, st, ns⟩ from fun h => hS h.2.2.2.1); refine wp_region_held_drew (S := fun w' => w'.cell? ⟨w.heap.size, 0, none⟩ = some (.slice bA bn bc) ∧ w'.cell? ⟨w.heap.size, 1, none⟩ = some (.slice tA tn tc) ∧ w'.cell? ⟨w.heap.size, 2, none⟩ = some (.int .i64 x) ∧ w'.cell? ⟨w.heap.size, 3, none⟩ = some (.int .i64 y) ∧ w'.cell? ⟨w.heap.size, 4, none⟩ = some (.int .i64 z) ∧ w'.cell? ⟨w.heap.size, 5, none⟩ = some (.int .i64 st) ∧ w'.cell? ⟨w.heap.size, 6, none⟩ = some (.slice nA nn nc)) (by kernel_rfl) ?_ (fun h_ => ?_)
         · exact AA1
         refine tk 0 ?_; refine tk 1 ?_; refine tk 2 ?_; refine tk 3 ?_; refine rd1 4 (fun K hK => ?_); go_simp; refine (headsValid_spec hr1.b BB1.out.size s1).mono ?_; rintro e w2 ⟨rfl, b2⟩; rw [bof_t.2 hH]; have k2 := k1.below b2 l1; have l2 := k2.lt; have BB2 := hid (BB1.out.trans (b2.mono BB1.out.size)); have hr2 := hr1.below (b2.mono BB1.out.size); have AA2 := k2.all7; clear b2 AA1; go_wp2_with fail; refine hK.out _ _ (AA2) fun h_ => ?_
         clear hK K; refine pt ?_; refine tk 5 ?_; refine tk 6 ?_; refine tk 7 ?_; refine tk 8 ?_; refine rd1 9 (fun K hK => ?_); go_simp; refine (tableValid_spec hr2.t BB2.out.size s2).mono ?_; rintro e w3 ⟨rfl, b3⟩; rw [bof_t.2 hT]; have k3 := k2.below b3 l2; have l3 := k3.lt; have BB3 := hid (BB2.out.trans (b3.mono BB2.out.size)); have hr3 := hr2.below (b3.mono BB2.out.size); have AA3 := k3.all7; clear b3 AA2; go_wp2_with fail; refine hK.out _ _ (AA3) fun h_ => ?_
         clear hK K; refine pt ?_; refine tk 10 ?_; refine tk 11 ?_; refine tk 12 ?_; refine tk 13 ?_; refine tk 14 ?_; refine rd1 15 (fun K hK => ?_); go_simp; refine (namesValid_spec hr3.n s3 S4.out).mono ?_; rintro e w4 ⟨rfl, hm4⟩; rw [bof_t.2 hN]; have b4 : Below w3.heap.size w3 w4 := (by obtain ⟨m, rfl⟩ := hm4; exact below_drewN (Below.refl _ _) m); clear hm4; have k4 := k3.below b4 l3; have l4 := k4.lt; have BB4 := hid (BB3.out.trans (b4.mono BB3.out.size)); have hr4 := hr3.below (b4.mono BB3.out.size); have AA4 := k4.all7; clear b4 AA3; go_wp2_with fail; refine hK.out _ _ (AA4) fun h_ => ?_
         clear hK K; refine pt ?_; refine tk 16 ?_; refine tk 17 ?_; refine tk 18 ?_; refine tk 19 ?_; refine tk 20 ?_; refine tk 21 ?_; refine tk 22 ?_; refine rd1 23 (fun K hK => ?_); go_simp; refine (lastStamp_spec hr4.b BB4.out.size s1 hH.1).mono ?_; rintro e w5 ⟨rfl, b5⟩; have k5 := k4.below b5 l4; have l5 := k5.lt; have BB5 := hid (BB4.out.trans (b5.mono BB4.out.size)); have hr5 := hr4.below (b5.mono BB4.out.size); have AA5 := k5.all7; clear b5 AA4; go_wp2_with fail; refine hK.out _ _ (AA5) fun h_ => ?_
         clear hK K; refine pt ?_; refine rd1 24 (fun K hK => ?_); go_simp; refine (l1In_c _ _ _ _).mono ?_; rw [hst]; rintro e w6 ⟨rfl, rfl⟩; go_wp2_with fail; refine hK.out _ _ (AA5) fun h_ => ?_
         clear hK K; refine pt ?_; refine tk 25 ?_; refine tk 26 ?_; refine dn ?_; go_wp2; go_ret; exact ⟨ret_bof_f hno.out, BB5.out⟩
     · have hno := hid (show ¬ DiskOk ⟨bs, ts, x, y, z, st, ns⟩ from fun h => hN h.2.2.2.2.1); refine wp_region_held_drew (S := fun w' => w'.cell? ⟨w.heap.size, 0, none⟩ = some (.slice bA bn bc) ∧ w'.cell? ⟨w.heap.size, 1, none⟩ = some (.slice tA tn tc) ∧ w'.cell? ⟨w.heap.size, 2, none⟩ = some (.int .i64 x) ∧ w'.cell? ⟨w.heap.size, 3, none⟩ = some (.int .i64 y) ∧ w'.cell? ⟨w.heap.size, 4, none⟩ = some (.int .i64 z) ∧ w'.cell? ⟨w.heap.size, 5, none⟩ = some (.int .i64 st) ∧ w'.cell? ⟨w.heap.size, 6, none⟩ = some (.slice nA nn nc)) (by kernel_rfl) ?_ (fun h_ => ?_)
       · exact AA1
       refine tk 0 ?_; refine tk 1 ?_; refine tk 2 ?_; refine tk 3 ?_; refine rd1 4 (fun K hK => ?_); go_simp; refine (headsValid_spec hr1.b BB1.out.size s1).mono ?_; rintro e w2 ⟨rfl, b2⟩; rw [bof_t.2 hH]; have k2 := k1.below b2 l1; have l2 := k2.lt; have BB2 := hid (BB1.out.trans (b2.mono BB1.out.size)); have hr2 := hr1.below (b2.mono BB1.out.size); have AA2 := k2.all7; clear b2 AA1; go_wp2_with fail; refine hK.out _ _ (AA2) fun h_ => ?_
       clear hK K; refine pt ?_; refine tk 5 ?_; refine tk 6 ?_; refine tk 7 ?_; refine tk 8 ?_; refine rd1 9 (fun K hK => ?_); go_simp; refine (tableValid_spec hr2.t BB2.out.size s2).mono ?_; rintro e w3 ⟨rfl, b3⟩; rw [bof_t.2 hT]; have k3 := k2.below b3 l2; have l3 := k3.lt; have BB3 := hid (BB2.out.trans (b3.mono BB2.out.size)); have hr3 := hr2.below (b3.mono BB2.out.size); have AA3 := k3.all7; clear b3 AA2; go_wp2_with fail; refine hK.out _ _ (AA3) fun h_ => ?_
       clear hK K; refine pt ?_; refine tk 10 ?_; refine tk 11 ?_; refine tk 12 ?_; refine tk 13 ?_; refine tk 14 ?_; refine rd1 15 (fun K hK => ?_); go_simp; refine (namesValid_spec hr3.n s3 S4.out).mono ?_; rintro e w4 ⟨rfl, hm4⟩; rw [bof_f.2 hN]; have b4 : Below w3.heap.size w3 w4 := (by obtain ⟨m, rfl⟩ := hm4; exact below_drewN (Below.refl _ _) m); clear hm4; have k4 := k3.below b4 l3; have l4 := k4.lt; have BB4 := hid (BB3.out.trans (b4.mono BB3.out.size)); have hr4 := hr3.below (b4.mono BB3.out.size); have AA4 := k4.all7; clear b4 AA3; go_wp2_with fail; refine hK.out _ _ (AA4) fun h_ => ?_
       clear hK K; refine pt ?_; refine tk 16 ?_; refine tk 17 ?_; refine tk 18 ?_; refine sk 19 ?_; refine sk 20 ?_; refine sk 21 ?_; refine sk 22 ?_; refine sk 23 ?_; refine sk 24 ?_; refine sk 25 ?_; refine tk 26 ?_; refine dn ?_; go_wp2; go_ret; exact ⟨ret_bof_f hno.out, BB4.out⟩
   · have hno := hid (show ¬ DiskOk ⟨bs, ts, x, y, z, st, ns⟩ from fun h => hT h.2.1); refine wp_region_held_drew (S := fun w' => w'.cell? ⟨w.heap.size, 0, none⟩ = some (.slice bA bn bc) ∧ w'.cell? ⟨w.heap.size, 1, none⟩ = some (.slice tA tn tc) ∧ w'.cell? ⟨w.heap.size, 2, none⟩ = some (.int .i64 x) ∧ w'.cell? ⟨w.heap.size, 3, none⟩ = some (.int .i64 y) ∧ w'.cell? ⟨w.heap.size, 4, none⟩ = some (.int .i64 z) ∧ w'.cell? ⟨w.heap.size, 5, none⟩ = some (.int .i64 st) ∧ w'.cell? ⟨w.heap.size, 6, none⟩ = some (.slice nA nn nc)) (by kernel_rfl) ?_ (fun h_ => ?_)
     · exact AA1
     refine tk 0 ?_; refine tk 1 ?_; refine tk 2 ?_; refine tk 3 ?_; refine rd1 4 (fun K hK => ?_); go_simp; refine (headsValid_spec hr1.b BB1.out.size s1).mono ?_; rintro e w2 ⟨rfl, b2⟩; rw [bof_t.2 hH]; have k2 := k1.below b2 l1; have l2 := k2.lt; have BB2 := hid (BB1.out.trans (b2.mono BB1.out.size)); have hr2 := hr1.below (b2.mono BB1.out.size); have AA2 := k2.all7; clear b2 AA1; go_wp2_with fail; refine hK.out _ _ (AA2) fun h_ => ?_
     clear hK K; refine pt ?_; refine tk 5 ?_; refine tk 6 ?_; refine tk 7 ?_; refine tk 8 ?_; refine rd1 9 (fun K hK => ?_); go_simp; refine (tableValid_spec hr2.t BB2.out.size s2).mono ?_; rintro e w3 ⟨rfl, b3⟩; rw [bof_f.2 hT]; have k3 := k2.below b3 l2; have l3 := k3.lt; have BB3 := hid (BB2.out.trans (b3.mono BB2.out.size)); have hr3 := hr2.below (b3.mono BB2.out.size); have AA3 := k3.all7; clear b3 AA2; go_wp2_with fail; refine hK.out _ _ (AA3) fun h_ => ?_
     clear hK K; refine pt ?_; refine tk 10 ?_; refine tk 11 ?_; refine tk 12 ?_; refine sk 13 ?_; refine sk 14 ?_; refine sk 15 ?_; refine sk 16 ?_; refine tk 17 ?_; refine tk 18 ?_; refine sk 19 ?_; refine sk 20 ?_; refine sk 21 ?_; refine sk 22 ?_; refine sk 23 ?_; refine sk 24 ?_; refine sk 25 ?_; refine tk 26 ?_; refine dn ?_; go_wp2; go_ret; exact ⟨ret_bof_f hno.out, BB3.out⟩
 · have hno := hid (show ¬ DiskOk ⟨bs, ts, x, y, z, st, ns⟩ from fun h => hH h.1); refine wp_region_held_drew (S := fun w' => w'.cell? ⟨w.heap.size, 0, none⟩ = some (.slice bA bn bc) ∧ w'.cell? ⟨w.heap.size, 1, none⟩ = some (.slice tA tn tc) ∧ w'.cell? ⟨w.heap.size, 2, none⟩ = some (.int .i64 x) ∧ w'.cell? ⟨w.heap.size, 3, none⟩ = some (.int .i64 y) ∧ w'.cell? ⟨w.heap.size, 4, none⟩ = some (.int .i64 z) ∧ w'.cell? ⟨w.heap.size, 5, none⟩ = some (.int .i64 st) ∧ w'.cell? ⟨w.heap.size, 6, none⟩ = some (.slice nA nn nc)) (by kernel_rfl) ?_ (fun h_ => ?_)
   · exact AA1
   refine tk 0 ?_; refine tk 1 ?_; refine tk 2 ?_; refine tk 3 ?_; refine rd1 4 (fun K hK => ?_); go_simp; refine (headsValid_spec hr1.b BB1.out.size s1).mono ?_; rintro e w2 ⟨rfl, b2⟩; rw [bof_f.2 hH]; have k2 := k1.below b2 l1; have l2 := k2.lt; have BB2 := hid (BB1.out.trans (b2.mono BB1.out.size)); have hr2 := hr1.below (b2.mono BB1.out.size); have AA2 := k2.all7; clear b2 AA1; go_wp2_with fail; refine hK.out _ _ (AA2) fun h_ => ?_
   clear hK K; refine pt ?_; refine tk 5 ?_; refine tk 6 ?_; refine sk 7 ?_; refine sk 8 ?_; refine sk 9 ?_; refine sk 10 ?_; refine tk 11 ?_; refine tk 12 ?_; refine sk 13 ?_; refine sk 14 ?_; refine sk 15 ?_; refine sk 16 ?_; refine tk 17 ?_; refine tk 18 ?_; refine sk 19 ?_; refine sk 20 ?_; refine sk 21 ?_; refine sk 22 ?_; refine sk 23 ?_; refine sk 24 ?_; refine sk 25 ?_; refine tk 26 ?_; refine dn ?_; go_wp2; go_ret; exact ⟨ret_bof_f hno.out, BB2.out⟩
end Go.Proofs.YtefdjahaimnndaaGreatDoor
