/- Parts. -/
import Derived.Test.YtefdjahaimnndaaGreatDoorC26
namespace Go.Proofs.YtefdjahaimnndaaGreatDoor
open Go.ChangeShapes Go.WideShapes Go.ChangeAt Go.RowKit Go.Deep
open Go.Lib (hid)
set_option linter.unusedVariables false
set_option linter.unusedSimpArgs false
theorem wroteTo_all {ps : List PageV} : ∀ {k : Nat}, wroteTo ps k = k → ∀ i, i < k → (ps.getD i noPage).full = true
 | 0, _, i, hi => absurd hi (Nat.not_lt_zero _)
 | k + 1, h, i, hi => by
  have hle := wroteTo_le ps k; unfold wroteTo at h; by_cases hf : (ps.getD k noPage).full = true
  · rw [if_pos hf] at h; by_cases e : i = k
    · subst e; exact hf
    · exact wroteTo_all (k := k) (by omega) i (by omega)
  · rw [if_neg hf] at h; omega
theorem wroteTo_full {ps : List PageV} : ∀ {k : Nat}, (∀ i, i < k → (ps.getD i noPage).full = true) → wroteTo ps k = k
 | 0, _ => rfl
 | k + 1, h => by
  unfold wroteTo; rw [wroteTo_full (k := k) (fun i hi => h i (by omega)), if_pos (h k (by omega))]
theorem wrote_next {ps : List PageV} (hl : ps.length = 4) : wroteTo ps 4 = 4 ↔ nextP ps < 0 := by
 rcases nextP_or ps with ⟨h1, h2⟩ | ⟨j, h1, h2, h3, _⟩
 · rw [hl] at h2; exact ⟨fun _ => by omega, fun _ => wroteTo_full h2⟩
 · refine ⟨fun h => ?_, fun h => by omega⟩; have := wroteTo_all h j (by omega); rw [h3] at this; cases this
set_option maxHeartbeats 2000000 in
theorem pageAt_impl {A : Option Addr} {n c B at' : Nat} {bs : List BlockV} {w : World} (hr : RdB w B A n bs) (hB : B ≤ w.heap.size) (hok : DevOk bs) (hat : at' < 4 * n) :
 Calls Tryz.prog 184 #[.slice A n c, .int .i64 (at' : Nat)] w fun e w' => e = .returned (pgv (pageN bs at')) ∧ Below w.heap.size w w' := by
 have HL := hid hr.len; have hn12 : n ≤ 12 := by have := hok.1.2; have := HL.out; omega
 have b0 : Below w.heap.size w (w.alloc (.cells #[.bool false, .int .i64 0, .int .i64 0, .int .i64 0, .int .i64 0] 88)) := (Below.refl _ _).alloc (Nat.le_refl _) _; have hr0 := (hr.mono hB).below b0; have B0 := hid b0; have K0 := Blk.new w 88 #[.bool false, .int .i64 0, .int .i64 0, .int .i64 0, .int .i64 0]; have hge : w.heap.size ≤ w.heap.size := Nat.le_refl _; clear hr b0; obtain ⟨b, off, rfl, hbB, hc⟩ := hr0.at_ (by omega); have hi : at' / 4 < n := by omega
 obtain ⟨A', n', c', c0, c1, hnc, hcm, hrg⟩ := hc (at' / 4) hi; have hpl := (hok.2 (at' / 4) (by rw [HL.out]; exact hi)).2.1; have hn4 : n' = 4 := by rw [← hrg.len, hpl]
 subst hn4; obtain ⟨b', off', rfl, hbB', hc'⟩ := hrg.at_ (by omega); have hj : at' % 4 < 4 := by omega
 obtain ⟨d0, d1, d2, d3, d4⟩ := hc' (at' % 4) hj; have HP := hid (show pageN bs at' = (bs.getD (at' / 4) noBlock).pages.getD (at' % 4) noPage from rfl); obtain ⟨P, hP⟩ : ∃ P, (bs.getD (at' / 4) noBlock).pages.getD (at' % 4) noPage = P := ⟨_, rfl⟩; rw [hP] at d0 d1 d2 d3 d4 HP; obtain ⟨f, x, y, z, s⟩ := P; simp only at d0 d1 d2 d3 d4; have q1 : ((at' : Nat) : Int) / 4 = ((at' / 4 : Nat) : Int) := by omega
 have q2 : ((at' : Nat) : Int) % 4 = ((at' % 4 : Nat) : Int) := by omega
 have q3 : ((at' : Nat) : Int).tdiv 4 = ((at' / 4 : Nat) : Int) := by rw [Int.tdiv_eq_ediv_of_nonneg (by omega)]; exact q1
 have q4 : ((at' : Nat) : Int).tmod 4 = ((at' % 4 : Nat) : Int) := by rw [Int.tmod_eq_emod_of_nonneg (by omega)]; exact q2
 generalize at' / 4 = i at *; generalize at' % 4 = j at *; clear hP hc hc' hrg hpl hr0; go_enter Tryz.func184, Tryz.ntmps184
 go_upto_region 1 with (fail)
 generalize w.alloc (.cells #[.bool false, .int .i64 0, .int .i64 0, .int .i64 0, .int .i64 0] 88) = w0 at *; have z0 := K0.frozen 0; have z1 := K0.frozen 1; have z2 := K0.frozen 2; have z3 := K0.frozen 3; have z4 := K0.frozen 4; have t0 := K0.cell 0; have t1 := K0.cell 1; have t2 := K0.cell 2; have t3 := K0.cell 3; have t4 := K0.cell 4; simp at t0 t1 t2 t3 t4; generalize hg0 : w.heap.size = g0 at *; have KS := hid (show Blk _ g0 88 #[.bool f, .int .i64 x, .int .i64 y, .int .i64 z, .int .i64 s] from (by simpa using ((((K0.set_ 0 (.bool f)).set_ 1 (.int .i64 x)).set_ 2 (.int .i64 y)).set_ 3 (.int .i64 z)).set_ 4 (.int .i64 s) : Blk (((((w0.setCell ⟨g0, 0, none⟩ (.bool f)).setCell ⟨g0, 1, none⟩ (.int .i64 x)).setCell ⟨g0, 2, none⟩ (.int .i64 y)).setCell ⟨g0, 3, none⟩ (.int .i64 z)).setCell ⟨g0, 4, none⟩ (.int .i64 s)) g0 88 #[.bool f, .int .i64 x, .int .i64 y, .int .i64 z, .int .i64 s])); have BS := hid (((((B0.out.setCell (p := ⟨g0, 0, none⟩) hge (.bool f)).setCell (p := ⟨g0, 1, none⟩) hge (.int .i64 x)).setCell (p := ⟨g0, 2, none⟩) hge (.int .i64 y)).setCell (p := ⟨g0, 3, none⟩) hge (.int .i64 z)).setCell (p := ⟨g0, 4, none⟩) hge (.int .i64 s)); clear K0; repeat (first | go_values | go_skip | go_guarded | go_step | go_upon)
 generalize (((((w0.setCell ⟨g0, 0, none⟩ (.bool f)).setCell ⟨g0, 1, none⟩ (.int .i64 x)).setCell ⟨g0, 2, none⟩ (.int .i64 y)).setCell ⟨g0, 3, none⟩ (.int .i64 z)).setCell ⟨g0, 4, none⟩ (.int .i64 s)) = ww at *; have e0 := KS.out.cell 0; have e1 := KS.out.cell 1; have e2 := KS.out.cell 2; have e3 := KS.out.cell 3; have e4 := KS.out.cell 4; simp at e0 e1 e2 e3 e4; go_wp2; refine bodyPost_ret (by simp [results, Tryz.results184, go_sem, e0, e1, e2, e3, e4]; try rfl) rfl ?_; exact ⟨by rw [HP.out]; rfl, by rw [hg0]; exact BS.out⟩
set_option maxHeartbeats 2000000 in
theorem mayClean_impl {we u : Int} {A : Option Addr} {c B : Nat} {ps : List PageV} {w : World} (hr : RdG w B A 4 ps) (hB : B ≤ w.heap.size) (h4c : 4 ≤ c) (hcm : c ≤ 9223372036854775807) :
 Calls Tryz.prog 167 #[.agg #[.int .i64 we, .slice A 4 c], .int .i64 u] w fun e w' => e = .returned (.bool (decide (nextP ps < 0) && decide (u < 4))) ∧ Below w.heap.size w w' := by
 have b1 : Below w.heap.size w (w.alloc (.cells #[.int .i64 we, .slice A 4 c] 127)) := (Below.refl _ _).alloc (Nat.le_refl _) _; have k1 := Blk.new w 127 #[.int .i64 we, .slice A 4 c]; have HR := hid (hr.mono hB); have B1 := hid b1; have HW := hid (wrote_next hr.len); clear b1 hr; go_enter Tryz.func167, Tryz.ntmps167
 go_upto_region 1 with (fail)
 generalize w.alloc (.cells #[.int .i64 we, .slice A 4 c] 127) = w1 at *; have t0 := k1.cell 0; have t1 := k1.cell 1; simp at t0 t1; clear k1; by_cases hq : wroteTo ps 4 = 4
 · have hn : decide (nextP ps < 0) = true := decide_eq_true (HW.out.1 hq); have hb : (((wroteTo ps 4 : Nat) : Int) == 4) = true := by rw [hq]; rfl
   have HN := hid hn; clear hn HW hq; go_wp2_with (go_at_call 185; refine (writtenPages_c (we := we) (HR.out.below B1.out) B1.out.size h4c hcm).mono ?_; rintro e w2 ⟨rfl, b2⟩; have B2 := hid (B1.out.trans (b2.mono B1.out.size)); clear b2)
   go_ret; exact ⟨by rw [HN.out]; rfl, B2.out⟩
 · have hn : decide (nextP ps < 0) = false := decide_eq_false (fun h => hq (HW.out.2 h)); have hb : (((wroteTo ps 4 : Nat) : Int) == 4) = false := by rw [beq_eq_false_iff_ne]; omega
   have HN := hid hn; clear hn HW hq; go_wp2_with (go_at_call 185; refine (writtenPages_c (we := we) (HR.out.below B1.out) B1.out.size h4c hcm).mono ?_; rintro e w2 ⟨rfl, b2⟩; have B2 := hid (B1.out.trans (b2.mono B1.out.size)); clear b2)
   go_ret; exact ⟨by rw [HN.out]; rfl, B2.out⟩
theorem field_full (f : Bool) (x y z s : Int) (W : World) : (Instr.field 88 (.agg #[.bool f, .int .i64 x, .int .i64 y, .int .i64 z, .int .i64 s]) 0).run Tryz.prog W = .ok (.bool f) W := by
 simp [Instr.field, asAgg, go_sem]
theorem own_some {w : World} {base e size n c : Nat} {A : Option Addr} {xs : List Value} (h : w.ownsRow base e size (.slice A n c) n xs) (hn : 0 < n) : ∃ g, A = some ⟨g, 0, none⟩ ∧ base ≤ g := by
 rcases h.2 with ⟨h0, h1⟩ | ⟨g, cap, cur, hv, hg, _⟩
 · injection h0 with _ h2 _; omega
 · injection hv with h1 _ _; exact ⟨g, h1, hg⟩
theorem cntI_le (bs : List BlockV) (us : List Int) (n : Nat) : cntI bs us n ≤ us.length := List.countP_le_length
set_option maxRecDepth 8000 in
set_option maxHeartbeats 4000000 in
theorem blockCounts_impl {A At : Option Addr} {m c n ct B : Nat} {bs : List BlockV} {ts : List (List Int)} {w : World} (hr : RdB w B A m bs) (hB : B ≤ w.heap.size) (hok : DevOk bs) (ht : RdT w B At n ts) (hokt : TableOk ts) :
 Calls Tryz.prog 166 #[.slice A m c, .agg #[.slice At n ct]] w (OwI w (countsL bs ts)) := by
 obtain rfl : bs.length = m := hr.len; obtain rfl : n = 8 := by rw [← ht.len, hokt.1]
 have hm12 : bs.length ≤ 12 := hok.1.2; have HBD := hid (bof_t.2 hok); have HBT := hid (bof_t.2 hokt); have HOK := hid hok; have HTK := hid hokt; have HR := hid (hr.mono hB); have HT := hid (ht.mono hB); have b1 : Below w.heap.size w (w.alloc (.cells #[.slice At 8 ct] 26)) := (Below.refl _ _).alloc (Nat.le_refl _) _; have k1 := Blk.new w 26 #[.slice At 8 ct]; have B1 := hid b1; have hmk := make_ints bs.length (by omega); have hff := field_full; clear hr ht b1 hok hokt; go_enter Tryz.func166, Tryz.ntmps166
 go_upto_region 1 with (fail)
 generalize w.alloc (.cells #[.slice At 8 ct] 26) = w1 at *; go_wp2_with fail; refine (deviceValid_impl (HR.out.below B1.out) B1.out.size (by omega)).mono ?_; rw [HBD.out]; rintro e w2 ⟨rfl, b2⟩; have k2 := k1.below b2 k1.lt; have B2 := hid (B1.out.trans (b2.mono B1.out.size)); have t0 := k2.cell 0; simp at t0; clear k1 b2 B1; go_wp2_with fail; refine (tableValid_impl (HT.out.below B2.out) B2.out.size (by omega)).mono ?_; rw [HBT.out]; rintro e w3 ⟨rfl, b3⟩; have k3 := k2.below b3 k2.lt; have B3 := hid (B2.out.trans (b3.mono B2.out.size)); clear k2 b3 B2 t0; go_upto_region 4 with (fail)
 have k4 := k3.alloc (.cells (cellsI (List.replicate bs.length 0)) 3); have r4 : RowI _ _ _ := Blk.new w3 3 (cellsI (List.replicate bs.length 0)); have B4 := hid (B3.out.alloc B3.out.size (.cells (cellsI (List.replicate bs.length 0)) 3)); have s3 := B3.out.size; have l4 := Blk.lt r4; have e4 : (w3.alloc (.cells (cellsI (List.replicate bs.length 0)) 3)).heap.size = w3.heap.size + 1 := by simp
 generalize w3.alloc (.cells (cellsI (List.replicate bs.length 0)) 3) = w4 at *; obtain ⟨g4, hg4⟩ : ∃ g, w3.heap.size = g := ⟨_, rfl⟩; rw [hg4] at r4 s3 l4 e4 ⊢; have R4 := hid r4; have t0 := k4.cell 0; simp at t0; clear hg4 k3 B3 r4 hmk; go_wp2_with fail; refine (usedPages_impl (HT.out.below B4.out) B4.out.size HTK.out).mono ?_; rintro e w5 ⟨us, hp, A5, c5, rfl, o5, b5⟩; have HCL := hid (countsL_inc bs hp); have hul : us.length ≤ 48 := by rw [hp.length_eq]; exact usedTo_len ts 48
 have HUS := hid (fun x (hx : x ∈ us) => usedTo_mem ts 48 x (hp.mem_iff.1 hx)); have R5 := hid (show RowI w5 g4 (incL bs (us.take 0)) from by rw [List.take_zero, incL_nil]; exact Blk.below R4.out b5 l4); have O5 := hid o5; have B5 := hid (B4.out.trans (b5.mono B4.out.size)); clear hp o5 b5 R4 B4 k4 t0; go_wp2_with fail; go_loopw [22] (fun i wr => ∃ k : Nat, k ≤ us.length ∧ i = .int .i64 k ∧ RowI wr g4 (incL bs (us.take k)) ∧ wr.ownsRow w4.heap.size 3 1 (.slice A5 us.length c5) us.length (us.map (Value.int .i64)) ∧ Below w.heap.size w wr) (fun i _ => us.length - (intOf i).toNat)
 case atStart => exact ⟨0, Nat.zero_le _, rfl, R5.out, O5.out, B5.out⟩
 case round =>
  obtain ⟨k, hk, rfl, r6, o6, b6⟩ := hrel; have B6 := hid b6; have s6 := b6.size; have R6 := hid r6; clear b6 R5 O5 B5 r6; by_cases hlt : k < us.length
  · have kI : (k : Int) < us.length := by omega
    obtain ⟨gu, rfl, hgu⟩ := own_some o6 (by omega); have d0 := own_cellI o6 k hlt; have O6 := hid o6; have hu := HUS.out (us.getD k 0) (by rw [List.getD_eq_getElem?_getD, List.getElem?_eq_getElem hlt]; exact List.getElem_mem hlt); have HTA := hid (show us.take (k + 1) = us.take k ++ [us.getD k 0] from by rw [List.take_succ_eq_append_getElem hlt, List.getD_eq_getElem?_getD, List.getElem?_eq_getElem hlt]; rfl); have hcl := cntI_le bs (us.take k); have htl : (us.take k).length ≤ 48 := by rw [List.length_take]; omega
    generalize us.getD k 0 = u at *; generalize us.take k = vs at *; obtain ⟨v, rfl⟩ := Int.eq_ofNat_of_zero_le hu.1; clear o6; by_cases h4 : v < 4 * bs.length
    · have hb4 : decide ((v : Int) < (bs.length : Int) * 4) = true := decide_eq_true (by omega); have HPA := hid (pgAt_in h4); have hcl4 := hcl (v / 4); have HYES := hid (fun h => incL_yes (us := vs) (v := v) h (by omega : v / 4 < bs.length)); have HNO := hid (fun h => incL_no (bs := bs) (us := vs) (v := (v : Int)) h); have c0 := (Blk.cell R6.out (v / 4)).trans (cellsI_get _ (v / 4) (by rw [incL_len]; omega)); have z0 := Blk.frozen R6.out (v / 4); rw [incL_get (show v / 4 < bs.length by omega)] at c0; have HG := hid (incL_get (us := vs) (show v / 4 < bs.length by omega)); rw [HPA.out] at HYES HNO; have q3 : ((v : Nat) : Int).tdiv 4 = ((v / 4 : Nat) : Int) := by rw [Int.tdiv_eq_ediv_of_nonneg (by omega)]; omega
      have q1 : ((v : Nat) : Int) / 4 = ((v / 4 : Nat) : Int) := by omega
      have q5 : ((v / 4 : Nat) : Int) < bs.length := by omega
      have HLL := hid (show v / 4 < (incL bs vs).length by rw [incL_len]; omega); generalize cntI bs vs (v / 4) = y at *; generalize v / 4 = jj at *; have y1 : IntKind.i64.wrap ((y : Int) + 1) = (y : Int) + 1 := IntWalk.i64_in _ (by omega); have HPI := hid (pageAt_impl (c := c) (at' := v) (HR.out.below B6.out) s6 HOK.out h4); generalize pageN bs v = P at *; obtain ⟨pf, px, py, pz, ps⟩ := P; unfold pgv at HPI; simp only at HYES HNO HPI; cases pf
      · go_wp2_with (go_at_call 184; refine HPI.out.mono ?_; rintro e w7 ⟨rfl, b7⟩; have R7 := hid (Blk.below R6.out b7 (Blk.lt R6.out)); have O7 := hid (own_below O6.out b7); have c7 := (b7.cell (p := ⟨g4, jj, none⟩) (Blk.lt R6.out)).trans c0; have z7 := Blk.frozen R7.out jj; have B7 := hid (B6.out.trans (b7.mono s6)); clear b7 c0 z0 R6 O6 B6 d0)
        have HE := hid (HNO.out (by simp)); go_roundw
        case rel => exact ⟨k + 1, by omega, by go_num, by rw [HTA.out, HE.out]; exact R7.out, O7.out, B7.out⟩
        case measure => simp [intOf]; omega
      · have HE := hid (HYES.out rfl); go_upto_region 8 with (go_at_call 184; refine HPI.out.mono ?_; rintro e w7 ⟨rfl, b7⟩; have R7 := hid (Blk.below R6.out b7 (Blk.lt R6.out)); have O7 := hid (own_below O6.out b7); have c7 := (b7.cell (p := ⟨g4, jj, none⟩) (Blk.lt R6.out)).trans c0; have z7 := Blk.frozen R7.out jj; have B7 := hid (B6.out.trans (b7.mono s6)); clear b7 c0 z0 R6 O6 B6 d0)
        have R8 := hid (show RowI (w7.setCell ⟨g4, jj, none⟩ (.int .i64 ((y : Int) + 1))) g4 (incL bs (vs ++ [(v : Int)])) from by
         rw [HE.out, HG.out]; unfold RowI; rw [← cellsI_set]; exact Blk.set_ R7.out jj _)
        have O8 := hid (own_other O7.out (gb_setCell (World.grownBy.refl w7 (some g4)) (p := ⟨g4, jj, none⟩) (.inl rfl) (.int .i64 ((y : Int) + 1))) (fun q hq e => by have h1 : gu = q := Option.some.inj hq; have h2 : g4 = q := Option.some.inj e; omega)); have B8 := hid (B7.out.setCell (p := ⟨g4, jj, none⟩) s3 (.int .i64 ((y : Int) + 1))); clear HYES HNO HE HG R7 O7 B7; go_wp2; go_roundw
        case rel => exact ⟨k + 1, by omega, by go_num, by rw [HTA.out]; exact R8.out, O8.out, B8.out⟩
        case measure => simp [intOf]; omega
    · have hb4 : decide ((v : Int) < (bs.length : Int) * 4) = false := decide_eq_false (by omega); have HE := hid (incL_no (bs := bs) (us := vs) (v := (v : Int)) (by rw [pgAt_out (by omega)]; simp [noPage])); go_wp2; go_roundw
      case rel => exact ⟨k + 1, by omega, by go_num, by rw [HTA.out, HE.out]; exact R6.out, O6.out, B6.out⟩
      case measure => simp [intOf]; omega
  · obtain rfl : k = us.length := by omega
    have HF := hid (show incL bs (us.take us.length) = countsL bs ts from by rw [List.take_length]; exact HCL.out); have O9 := hid (RowI.own R6.out s3 (by rw [incL_len]; unfold maxLen; omega)); have HLN := hid (countsL_len bs ts); rw [HF.out] at O9; clear R6 HF; go_wp2; go_ret; exact owI_of HLN.out (by have := O9.out; rw [HLN.out] at this; exact this) B6.out
set_option maxRecDepth 8000 in
set_option maxHeartbeats 4000000 in
theorem greedyVictim_impl {A At : Option Addr} {m c n ct B : Nat} {bs : List BlockV} {ts : List (List Int)} {h : HeadV} {w : World} (hr : RdB w B A m bs) (hB : B ≤ w.heap.size) (hok : HeadsOk bs h.x h.y h.z) (ht : RdT w B At n ts) (hokt : TableOk ts) :
 Calls Tryz.prog 131 #[.slice A m c, .agg #[.slice At n ct], hdv h] w fun e w' => e = .returned (.int .i64 (greedyV bs ts h)) ∧ Below w.heap.size w w' := by
 obtain rfl : bs.length = m := hr.len; obtain rfl : n = 8 := by rw [← ht.len, hokt.1]
 have hm12 : bs.length ≤ 12 := hok.1.1.2; obtain ⟨x, y, z⟩ := h; simp only at hok; have HBT := hid (bof_t.2 hok); have HBK := hid (bof_t.2 hokt); have HDV := hid hok.1; have HOT := hid hokt; have HR := hid (hr.mono hB); have HT := hid (ht.mono hB); have b1 : Below w.heap.size w ((w.alloc (.cells #[.slice At 8 ct] 26)).alloc (.cells #[.int .i64 x, .int .i64 y, .int .i64 z] 28)) := ((Below.refl _ _).alloc (Nat.le_refl _) _).alloc (by simp) _; have k1 := (Blk.new w 26 #[.slice At 8 ct]).alloc (.cells #[.int .i64 x, .int .i64 y, .int .i64 z] 28); have h1 := Blk.new (w.alloc (.cells #[.slice At 8 ct] 26)) 28 #[.int .i64 x, .int .i64 y, .int .i64 z]; rw [show (w.alloc (.cells #[.slice At 8 ct] 26)).heap.size = w.heap.size + 1 by simp] at h1; have B1 := hid b1; clear hr ht b1 hok; go_enter Tryz.func131, Tryz.ntmps131
 go_upto_region 1 with (fail)
 generalize (w.alloc (.cells #[.slice At 8 ct] 26)).alloc (.cells #[.int .i64 x, .int .i64 y, .int .i64 z] 28) = w1 at *; have t0 := k1.cell 0; have e0 := h1.cell 0; have e1 := h1.cell 1; have e2 := h1.cell 2; simp at t0 e0 e1 e2; go_wp2_with fail; refine (headsValid_impl (HR.out.below B1.out) B1.out.size (by omega)).mono ?_; rw [HBT.out]; rintro e w2 ⟨rfl, b2⟩; have k2 := k1.below b2 k1.lt; have h2 := h1.below b2 h1.lt; have B2 := hid (B1.out.trans (b2.mono B1.out.size)); clear k1 h1 B1 b2 t0 e0 e1 e2; have t0 := k2.cell 0; simp at t0; go_wp2_with fail; refine (tableValid_impl (HT.out.below B2.out) B2.out.size (by omega)).mono ?_; rw [HBK.out]; rintro e w3 ⟨rfl, b3⟩; have k3 := k2.below b3 k2.lt; have h3 := h2.below b3 h2.lt; have B3 := hid (B2.out.trans (b3.mono B2.out.size)); clear k2 h2 B2 b3 t0; have t0 := k3.cell 0; simp at t0; go_wp2_with fail; refine (blockCounts_impl (HR.out.below B3.out) B3.out.size HDV.out (HT.out.below B3.out) HOT.out).mono ?_; rintro e w4 ⟨gc, cc, rfl, oc, b4⟩; rw [countsL_len] at oc ⊢; have HLC := hid (countsL_len bs ts); have HGV := hid (show greedyV bs ts ⟨x, y, z⟩ = victTo bs (countsL bs ts) ⟨x, y, z⟩ bs.length from rfl); generalize countsL bs ts = cs at *; have O4 := own_lower oc (base' := w.heap.size) B3.out.size; have h4 := h3.below b4 h3.lt; have B4 := B3.out.trans (b4.mono B3.out.size); clear oc k3 h3 B3 b4 t0; go_wp2_with fail; go_loopw [8, 25] (fun v i wr => ∃ k : Nat, k ≤ bs.length ∧ i = .int .i64 k ∧ v = .int .i64 (victTo bs cs ⟨x, y, z⟩ k) ∧ wr.ownsRow w.heap.size 3 1 (.slice (some ⟨gc, 0, none⟩) bs.length cc) bs.length (cs.map (Value.int .i64)) ∧ Blk wr (w.heap.size + 1) 28 #[.int .i64 x, .int .i64 y, .int .i64 z] ∧ Below w.heap.size w wr) (fun _ i _ => bs.length - (intOf i).toNat)
 case atStart => exact ⟨0, Nat.zero_le _, rfl, rfl, O4, h4, B4⟩
 case round =>
  obtain ⟨k, hk, rfl, rfl, o3, h3, b3⟩ := hrel; clear O4 h4 B4; have B3 := hid b3; have s3 := b3.size; clear b3; by_cases hlt : k < bs.length
  · have kI : (k : Int) < bs.length := by omega
    obtain ⟨b, off, rfl, hbB, hc⟩ := (HR.out.below B3.out).at_ (by omega); obtain ⟨A', n', c', c0, c1, h4c, hcm, hrg⟩ := hc k hlt; obtain rfl : n' = 4 := by rw [← hrg.len]; exact (HDV.out.2 k hlt).2.1
    have HPS := hid hrg.len; have RG := hid (show RdG w w.heap.size A' 4 (bs.getD k noBlock).pages from by
     obtain ⟨b', off', e', _, hc'⟩ := HR.out.at_ (by omega); injection e' with e'; injection e' with e1 e2 _; subst e1; subst e2; obtain ⟨A2, n2, c2, _, d1, _, _, hg2⟩ := hc' k hlt; have := (B3.out.cell (p := ⟨b, off + k * 2 + 1, none⟩) hbB).trans d1; rw [c1] at this; injection this with this; injection this with e3 e4 e5; subst e3; subst e4; exact hg2)
    clear hc hrg; have hcl : k < cs.length := by rw [HLC.out]; exact hlt
    have HV := hid (show victTo bs cs ⟨x, y, z⟩ (k + 1) = if mayB bs cs ⟨x, y, z⟩ k = true then (if victTo bs cs ⟨x, y, z⟩ k < 0 ∨ cs.getD k 0 < cs.getD (victTo bs cs ⟨x, y, z⟩ k).toNat 0 then (k : Int) else victTo bs cs ⟨x, y, z⟩ k) else victTo bs cs ⟨x, y, z⟩ k from rfl); have HRG := victTo_range bs cs ⟨x, y, z⟩ k; generalize victTo bs cs ⟨x, y, z⟩ k = V at *; obtain ⟨we, hwe⟩ : ∃ we, (bs.getD k noBlock).wear = we := ⟨_, rfl⟩; rw [hwe] at c0; clear hwe; obtain ⟨ck, hck⟩ : ∃ ck, cs.getD k 0 = ck := ⟨_, rfl⟩; have HC1 := hid hck; have HMB := hid (show mayB bs cs ⟨x, y, z⟩ k = ((decide (nextP (bs.getD k noBlock).pages < 0) && decide (ck < 4)) && !HeadV.has ⟨x, y, z⟩ k) from by rw [← hck]; unfold mayB; rw [Bool.and_assoc]); rw [hck] at HV; clear hck; go_upto_region 8 with (fail)
    have bx : Below wr.heap.size wr (wr.alloc (.cells #[.int .i64 we, .slice A' 4 c'] 127)) := (Below.refl _ _).alloc (Nat.le_refl _) _; have x4 := Blk.new wr 127 #[.int .i64 we, .slice A' 4 c']; have h4 := h3.below bx h3.lt; have o4 := own_below o3 bx; have HB4 := hid (B3.out.trans (bx.mono s3)); have hs4 := HB4.out.size; have gxlt := x4.lt; clear bx h3 o3 B3 c0 c1; generalize wr.alloc (.cells #[.int .i64 we, .slice A' 4 c'] 127) = w4 at *; obtain ⟨gx, hgx⟩ : ∃ g, wr.heap.size = g := ⟨_, rfl⟩; rw [hgx] at x4 gxlt ⊢; clear hgx; cases hmy : (decide (nextP (bs.getD k noBlock).pages < 0) && decide (ck < 4))
    · have HMY := hid hmy; clear hmy; refine wp_region_held_drew (S := fun w' => w'.cell? ⟨gx, 0, none⟩ = some (.int .i64 we) ∧ w'.cell? ⟨gx, 1, none⟩ = some (.slice A' 4 c') ∧ w'.cell? ⟨gc, k, none⟩ = some (.int .i64 ck) ∧ w'.cell? ⟨w.heap.size + 1, 0, none⟩ = some (.int .i64 x) ∧ w'.cell? ⟨w.heap.size + 1, 1, none⟩ = some (.int .i64 y) ∧ w'.cell? ⟨w.heap.size + 1, 2, none⟩ = some (.int .i64 z)) (by kernel_rfl) ?_ (fun h_ => ?_)
      · exact ⟨x4.cell 0, x4.cell 1, HC1.out ▸ own_cellI o4 k hcl, h4.cell 0, h4.cell 1, h4.cell 2⟩
      refine tk 0 ?_; refine tk 1 ?_; refine tk 2 ?_; refine tk 3 ?_; refine tk 4 ?_; refine rd1 5 (fun K hK => ?_); go_simp; refine (mayClean_impl (we := we) (RG.out.below HB4.out.drew) (show w.heap.size ≤ w4.drew.heap.size from hs4) h4c hcm).mono ?_; rw [HMY.out]; rintro e w5 ⟨rfl, bb⟩; have HB5 := hid (HB4.out.drew.trans (bb.mono hs4)); have hs5 := HB5.out.size; have h5 := (show Blk w4.drew (w.heap.size + 1) 28 _ from h4).below bb h4.lt; have x5 := (show Blk w4.drew gx 127 _ from x4).below bb x4.lt; have o5 := own_below (show World.ownsRow w4.drew _ _ _ _ _ _ from o4) bb; clear bb h4 x4 o4; go_wp2_with fail; refine hK.out _ _ ?_ (fun h_ => ?_)
      · exact ⟨x5.cell 0, x5.cell 1, HC1.out ▸ own_cellI o5 k hcl, h5.cell 0, h5.cell 1, h5.cell 2⟩
      clear hK K; try simp only [Act.put, List.setIfInBounds_toArray, List.set_cons_zero, List.set_cons_succ, List.getElem_toArray, List.getElem_cons_zero, List.getElem_cons_succ]
      refine tk 6 ?_; refine tk 7 ?_; refine sk 8 ?_; refine sk 9 ?_; refine sk 10 ?_; refine tk 11 ?_; refine dn ?_; clear h_; have HV' := hid (show victTo bs cs ⟨x, y, z⟩ (k + 1) = V from by rw [HV.out, if_neg (by rw [HMB.out, HMY.out]; simp)]); go_wp2; go_roundw
      case rel => exact ⟨k + 1, by omega, by go_num, by rw [HV'.out], o5, h5, HB5.out⟩
      case measure => simp [intOf]; omega
    · have HMY := hid hmy; clear hmy; cases hhas : HeadV.has ⟨x, y, z⟩ k
      · have HHAS := hid hhas; clear hhas; have HYE := hid (show mayB bs cs ⟨x, y, z⟩ k = true from by rw [HMB.out, HMY.out, HHAS.out]; rfl); refine wp_region_held_drew (S := fun w' => w'.cell? ⟨gx, 0, none⟩ = some (.int .i64 we) ∧ w'.cell? ⟨gx, 1, none⟩ = some (.slice A' 4 c') ∧ w'.cell? ⟨gc, k, none⟩ = some (.int .i64 ck) ∧ w'.cell? ⟨w.heap.size + 1, 0, none⟩ = some (.int .i64 x) ∧ w'.cell? ⟨w.heap.size + 1, 1, none⟩ = some (.int .i64 y) ∧ w'.cell? ⟨w.heap.size + 1, 2, none⟩ = some (.int .i64 z)) (by kernel_rfl) ?_ (fun h_ => ?_)
        · exact ⟨x4.cell 0, x4.cell 1, HC1.out ▸ own_cellI o4 k hcl, h4.cell 0, h4.cell 1, h4.cell 2⟩
        refine tk 0 ?_; refine tk 1 ?_; refine tk 2 ?_; refine tk 3 ?_; refine tk 4 ?_; refine rd1 5 (fun K hK => ?_); go_simp; refine (mayClean_impl (we := we) (RG.out.below HB4.out.drew) (show w.heap.size ≤ w4.drew.heap.size from hs4) h4c hcm).mono ?_; rw [HMY.out]; rintro e w5 ⟨rfl, bb⟩; have HB5 := hid (HB4.out.drew.trans (bb.mono hs4)); have hs5 := HB5.out.size; have h5 := (show Blk w4.drew (w.heap.size + 1) 28 _ from h4).below bb h4.lt; have x5 := (show Blk w4.drew gx 127 _ from x4).below bb x4.lt; have o5 := own_below (show World.ownsRow w4.drew _ _ _ _ _ _ from o4) bb; clear bb h4 x4 o4; go_wp2_with fail; refine hK.out _ _ ?_ (fun h_ => ?_)
        · exact ⟨x5.cell 0, x5.cell 1, HC1.out ▸ own_cellI o5 k hcl, h5.cell 0, h5.cell 1, h5.cell 2⟩
        clear hK K; try simp only [Act.put, List.setIfInBounds_toArray, List.set_cons_zero, List.set_cons_succ, List.getElem_toArray, List.getElem_cons_zero, List.getElem_cons_succ]
        refine tk 6 ?_; refine tk 7 ?_; refine tk 8 ?_; refine tk 9 ?_; refine rd1 10 (fun K hK => ?_); go_simp; refine (isHead_c ⟨x, y, z⟩ k w5).mono ?_; rw [HHAS.out]; rintro e w6 ⟨rfl, bb⟩; have HB6 := hid (HB5.out.trans (bb.mono hs5)); have hs6 := HB6.out.size; have h6 := (show Blk w5 (w.heap.size + 1) 28 _ from h5).below bb h5.lt; have x6 := (show Blk w5 gx 127 _ from x5).below bb x5.lt; have o6 := own_below (show World.ownsRow w5 _ _ _ _ _ _ from o5) bb; clear bb h5 x5 o5; go_wp2_with fail; refine hK.out _ _ ?_ (fun h_ => ?_)
        · exact ⟨x6.cell 0, x6.cell 1, HC1.out ▸ own_cellI o6 k hcl, h6.cell 0, h6.cell 1, h6.cell 2⟩
        clear hK K; try simp only [Act.put, List.setIfInBounds_toArray, List.set_cons_zero, List.set_cons_succ, List.getElem_toArray, List.getElem_cons_zero, List.getElem_cons_succ]
        refine tk 11 ?_; refine dn ?_; clear h_; by_cases hv : V < 0
        · have hb0 : decide (V < 0) = true := decide_eq_true hv; go_upto_region 9 with (fail)
          refine wp_region_held_drew (S := fun _ => True) (by kernel_rfl) ?_ (fun h_ => ?_)
          · exact trivial
          refine tk 0 ?_; refine tk 1 ?_; refine tk 2 ?_; refine sk 3 ?_; refine sk 4 ?_; refine sk 5 ?_; refine sk 6 ?_; refine sk 7 ?_; refine sk 8 ?_; refine sk 9 ?_; refine sk 10 ?_; refine sk 11 ?_; refine tk 12 ?_; refine dn ?_; clear h_; have HV' := hid (show victTo bs cs ⟨x, y, z⟩ (k + 1) = k from by rw [HV.out, if_pos HYE.out, if_pos (.inl hv)]); go_wp2; go_roundw
          case rel => exact ⟨k + 1, by omega, by go_num, by rw [HV'.out], o6, h6, HB6.out.drew⟩
          case measure => simp [intOf]; omega
        · obtain ⟨u, rfl⟩ : ∃ u : Nat, V = u := ⟨V.toNat, by omega⟩; have hul : u < cs.length := by rw [HLC.out]; omega
          have uI : (u : Int) < bs.length := by rw [← HLC.out]; omega
          rw [Int.toNat_natCast] at HV; obtain ⟨cu, hcu⟩ : ∃ cu, cs.getD u 0 = cu := ⟨_, rfl⟩; have HC2 := hid hcu; rw [hcu] at HV; clear hcu; by_cases hlc : ck < cu
          · have hb1 : decide (ck < cu) = true := decide_eq_true hlc; go_upto_region 9 with (fail)
            refine wp_region_held_drew (S := fun w' => w'.cell? ⟨gc, k, none⟩ = some (.int .i64 ck) ∧ w'.cell? ⟨gc, u, none⟩ = some (.int .i64 cu)) (by kernel_rfl) ?_ (fun h_ => ?_)
            · exact ⟨HC1.out ▸ own_cellI o6 k hcl, HC2.out ▸ own_cellI o6 u hul⟩
            refine tk 0 ?_; refine tk 1 ?_; refine tk 2 ?_; refine tk 3 ?_; refine tk 4 ?_; refine tk 5 ?_; refine tk 6 ?_; refine tk 7 ?_; refine tk 8 ?_; refine tk 9 ?_; refine tk 10 ?_; refine tk 11 ?_; refine tk 12 ?_; refine dn ?_; clear h_; have HV' := hid (show victTo bs cs ⟨x, y, z⟩ (k + 1) = k from by rw [HV.out, if_pos HYE.out, if_pos (.inr hlc)]); go_wp2; go_roundw
            case rel => exact ⟨k + 1, by omega, by go_num, by rw [HV'.out], o6, h6, HB6.out.drew⟩
            case measure => simp [intOf]; omega
          · have hb1 : decide (ck < cu) = false := decide_eq_false hlc; go_upto_region 9 with (fail)
            refine wp_region_held_drew (S := fun w' => w'.cell? ⟨gc, k, none⟩ = some (.int .i64 ck) ∧ w'.cell? ⟨gc, u, none⟩ = some (.int .i64 cu)) (by kernel_rfl) ?_ (fun h_ => ?_)
            · exact ⟨HC1.out ▸ own_cellI o6 k hcl, HC2.out ▸ own_cellI o6 u hul⟩
            refine tk 0 ?_; refine tk 1 ?_; refine tk 2 ?_; refine tk 3 ?_; refine tk 4 ?_; refine tk 5 ?_; refine tk 6 ?_; refine tk 7 ?_; refine tk 8 ?_; refine tk 9 ?_; refine tk 10 ?_; refine tk 11 ?_; refine tk 12 ?_; refine dn ?_; clear h_; have HV' := hid (show victTo bs cs ⟨x, y, z⟩ (k + 1) = u from by rw [HV.out, if_pos HYE.out, if_neg (fun h => by rcases h with h | h <;> omega)]); go_wp2; go_roundw
            case rel => exact ⟨k + 1, by omega, by go_num, by rw [HV'.out], o6, h6, HB6.out.drew⟩
            case measure => simp [intOf]; omega
      · have HHAS := hid hhas; clear hhas; refine wp_region_held_drew (S := fun w' => w'.cell? ⟨gx, 0, none⟩ = some (.int .i64 we) ∧ w'.cell? ⟨gx, 1, none⟩ = some (.slice A' 4 c') ∧ w'.cell? ⟨gc, k, none⟩ = some (.int .i64 ck) ∧ w'.cell? ⟨w.heap.size + 1, 0, none⟩ = some (.int .i64 x) ∧ w'.cell? ⟨w.heap.size + 1, 1, none⟩ = some (.int .i64 y) ∧ w'.cell? ⟨w.heap.size + 1, 2, none⟩ = some (.int .i64 z)) (by kernel_rfl) ?_ (fun h_ => ?_)
        · exact ⟨x4.cell 0, x4.cell 1, HC1.out ▸ own_cellI o4 k hcl, h4.cell 0, h4.cell 1, h4.cell 2⟩
        refine tk 0 ?_; refine tk 1 ?_; refine tk 2 ?_; refine tk 3 ?_; refine tk 4 ?_; refine rd1 5 (fun K hK => ?_); go_simp; refine (mayClean_impl (we := we) (RG.out.below HB4.out.drew) (show w.heap.size ≤ w4.drew.heap.size from hs4) h4c hcm).mono ?_; rw [HMY.out]; rintro e w5 ⟨rfl, bb⟩; have HB5 := hid (HB4.out.drew.trans (bb.mono hs4)); have hs5 := HB5.out.size; have h5 := (show Blk w4.drew (w.heap.size + 1) 28 _ from h4).below bb h4.lt; have x5 := (show Blk w4.drew gx 127 _ from x4).below bb x4.lt; have o5 := own_below (show World.ownsRow w4.drew _ _ _ _ _ _ from o4) bb; clear bb h4 x4 o4; go_wp2_with fail; refine hK.out _ _ ?_ (fun h_ => ?_)
        · exact ⟨x5.cell 0, x5.cell 1, HC1.out ▸ own_cellI o5 k hcl, h5.cell 0, h5.cell 1, h5.cell 2⟩
        clear hK K; try simp only [Act.put, List.setIfInBounds_toArray, List.set_cons_zero, List.set_cons_succ, List.getElem_toArray, List.getElem_cons_zero, List.getElem_cons_succ]
        refine tk 6 ?_; refine tk 7 ?_; refine tk 8 ?_; refine tk 9 ?_; refine rd1 10 (fun K hK => ?_); go_simp; refine (isHead_c ⟨x, y, z⟩ k w5).mono ?_; rw [HHAS.out]; rintro e w6 ⟨rfl, bb⟩; have HB6 := hid (HB5.out.trans (bb.mono hs5)); have hs6 := HB6.out.size; have h6 := (show Blk w5 (w.heap.size + 1) 28 _ from h5).below bb h5.lt; have x6 := (show Blk w5 gx 127 _ from x5).below bb x5.lt; have o6 := own_below (show World.ownsRow w5 _ _ _ _ _ _ from o5) bb; clear bb h5 x5 o5; go_wp2_with fail; refine hK.out _ _ ?_ (fun h_ => ?_)
        · exact ⟨x6.cell 0, x6.cell 1, HC1.out ▸ own_cellI o6 k hcl, h6.cell 0, h6.cell 1, h6.cell 2⟩
        clear hK K; try simp only [Act.put, List.setIfInBounds_toArray, List.set_cons_zero, List.set_cons_succ, List.getElem_toArray, List.getElem_cons_zero, List.getElem_cons_succ]
        refine tk 11 ?_; refine dn ?_; clear h_; have HV' := hid (show victTo bs cs ⟨x, y, z⟩ (k + 1) = V from by rw [HV.out, if_neg (by rw [HMB.out, HMY.out, HHAS.out]; simp)]); go_wp2; go_roundw
        case rel => exact ⟨k + 1, by omega, by go_num, by rw [HV'.out], o6, h6, HB6.out⟩
        case measure => simp [intOf]; omega
  · obtain rfl : k = bs.length := by omega
    go_wp2; go_ret
    exact ⟨by rw [HGV.out]; rfl, B3.out⟩
end Go.Proofs.YtefdjahaimnndaaGreatDoor
