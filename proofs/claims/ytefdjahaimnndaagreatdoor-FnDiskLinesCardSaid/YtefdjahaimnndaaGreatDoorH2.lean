/- Parts of the proof, one after the other. -/
import Derived.Test.YtefdjahaimnndaaGreatDoorH1
import Derived.Test.YtefdjahaimnndaaGreatDoorC25
namespace Go.Proofs.YtefdjahaimnndaaGreatDoor
open Go.ChangeShapes Go.WideShapes Go.ChangeAt Go.RowKit Go.Deep
open Go.Lib (hid)
set_option linter.unusedVariables false
set_option linter.unusedSimpArgs false
set_option maxRecDepth 8000 in
set_option maxHeartbeats 4000000 in
theorem diskLines_spec_bad {h : DH} {d : DiskV} {ss : List ByteArray} {lA : Option Addr} {ln lc B : Nat} {w : World} (hr : RdD w B h d) (hB : B ≤ w.heap.size) (hs : SmallDV d) (hl : ss.length = ln) (hno : ¬ GoodL d ss) (hll : ln ≤ 1048576) :
 Calls Tryz.prog 9 #[dkv h d, .slice lA ln lc] w (OwnLs w (linesF d ss)) := by
 have hsh := hs.h hr; have HR := hid (hr.mono hB); have HL := hid (linesF_no hno); have S1 := hid hsh.b; have S2 := hid hsh.t; have S3 := hid hsh.n; have S4 := hid (show ∀ i, i < h.nn → (nTxt d.ns i).size ≤ 9223372036854775807 from fun i hi => by have := hsh.ns i hi; simp only [nTxt]; omega); obtain ⟨q, hq⟩ : ∃ q, bof (DiskOk d) = q := ⟨_, rfl⟩; have HQ := hid hq; have hor : q = false ∨ (q = true ∧ 20 < ln) := by
  cases q with
  | false => exact .inl rfl
  | true => exact .inr ⟨rfl, by have h1 := bof_t.1 hq; rcases Nat.lt_or_ge 20 ln with h2 | h2; exact h2; exact absurd ⟨h1, by omega⟩ hno⟩
 clear hr hno hs hsh hq hl; obtain ⟨bA, bn, bc, tA, tn, tc, nA, nn, nc⟩ := h; obtain ⟨bs, ts, hot, warm, cold, stamp, ns⟩ := d; have b2 : Below w.heap.size w (((w.alloc (.cells (dc bA bn bc tA tn tc hot warm cold stamp nA nn nc) 31)).alloc (.cells Zd 31)).alloc (.cells #[] 9)) := (((Below.refl _ _).alloc (Nat.le_refl _) _).alloc (by simp) _).alloc (by simp; omega) _; have K2 := ((Blk.new w 31 (dc bA bn bc tA tn tc hot warm cold stamp nA nn nc)).alloc (.cells Zd 31)).alloc (.cells #[] 9); have R2 := (Blk.new (w.alloc (.cells (dc bA bn bc tA tn tc hot warm cold stamp nA nn nc) 31)) 31 Zd).alloc (.cells #[] 9); rw [show (w.alloc (.cells (dc bA bn bc tA tn tc hot warm cold stamp nA nn nc) 31)).heap.size = w.heap.size + 1 by simp] at R2; have E2 : OwS (((w.alloc (.cells (dc bA bn bc tA tn tc hot warm cold stamp nA nn nc) 31)).alloc (.cells Zd 31)).alloc (.cells #[] 9)) w.heap.size (some ⟨w.heap.size + 1 + 1, 0, none⟩) 0 0 [] := by
  have h := World.ownsRow_lit (base := w.heap.size) (e := 9) (size := 1) ((w.alloc (.cells (dc bA bn bc tA tn tc hot warm cold stamp nA nn nc) 31)).alloc (.cells Zd 31)) #[] 0 (by simp; omega) (by decide) rfl; rw [show ((w.alloc (.cells (dc bA bn bc tA tn tc hot warm cold stamp nA nn nc) 31)).alloc (.cells Zd 31)).heap.size = w.heap.size + 1 + 1 by simp] at h; exact h
 go_enter Tryz.func9, Tryz.ntmps9
 go_upto_region 2 with (fail)
 generalize ((w.alloc (.cells (dc bA bn bc tA tn tc hot warm cold stamp nA nn nc) 31)).alloc (.cells Zd 31)).alloc (.cells #[] 9) = w2 at *; obtain ⟨t0, t1, t2, t3, t4, t5, t6⟩ := K2.all7; go_wp2_with fail; refine (diskValid_spec (h := ⟨bA, bn, bc, tA, tn, tc, nA, nn, nc⟩) (d := ⟨bs, ts, hot, warm, cold, stamp, ns⟩) (HR.out.below b2) b2.size S1.out S2.out S3.out S4.out).mono ?_; rw [HQ.out]; rintro e w3 ⟨rfl, b3⟩; have R3 := R2.below b3 R2.lt; have B3 := hid (b2.trans (b3.mono b2.size)); have E3 := E2.below b3; clear K2 R2 b2 b3 t0 t1 t2 t3 t4 t5 t6 HR E2; have OZ : OwD w3 w.heap.size ⟨none, 0, 0, none, 0, 0, none, 0, 0⟩ zeroDisk := ⟨OwB.nil _ _, OwT.nil _ _, OwN.nil _ _⟩; have HO := hid (ownLs_of (n := 0) HL.out rfl OZ E3 (Below.refl _ _) R3 B3.out); have KP := hid (blk_putDisk R3 ⟨none, 0, 0, none, 0, 0, none, 0, 0⟩ zeroDisk).1; obtain ⟨y0, y1, y2, y3, y4, y5, y6⟩ := R3.all7; obtain ⟨z0, z1, z2, z3, z4, z5, z6⟩ := R3.free7; clear R3 OZ E3; have KQ := hid (KP.out : Blk (putDisk w3 (w.heap.size + 1) ⟨none, 0, 0, none, 0, 0, none, 0, 0⟩ zeroDisk) (w.heap.size + 1) 31 Zd); clear KP; dsimp only [putDisk, zeroDisk] at KQ HO; rcases hor with rfl | ⟨rfl, hlt⟩
 · clear HQ; go_upto_region 3 with (fail)
   repeat (first | go_values | go_skip | go_guarded | go_step | go_upon)
   generalize (p6 w3 (w.heap.size + 1) (.slice none 0 0) (.slice none 0 0) (.int .i64 0) (.int .i64 0) (.int .i64 0) (.int .i64 0)).setCell ⟨w.heap.size + 1, 6, none⟩ (.slice none 0 0) = wz at *; obtain ⟨e0, e1, e2, e3, e4, e5, e6⟩ := KQ.out.all7; refine bodyPost_ret (by simp [results, Tryz.results9, go_sem, e0, e1, e2, e3, e4, e5, e6]; try rfl) rfl ?_; exact HO.out
 · have hln : (20 : Int) < ln := by omega
   go_upto_region 3 with (fail)
   repeat (first | go_values | go_skip | go_guarded | go_step | go_upon)
   generalize (p6 w3 (w.heap.size + 1) (.slice none 0 0) (.slice none 0 0) (.int .i64 0) (.int .i64 0) (.int .i64 0) (.int .i64 0)).setCell ⟨w.heap.size + 1, 6, none⟩ (.slice none 0 0) = wz at *; obtain ⟨e0, e1, e2, e3, e4, e5, e6⟩ := KQ.out.all7; refine bodyPost_ret (by simp [results, Tryz.results9, go_sem, e0, e1, e2, e3, e4, e5, e6]; try rfl) rfl ?_; exact HO.out
set_option maxRecDepth 8000 in
set_option maxHeartbeats 8000000 in
theorem diskLines_spec_good {h : DH} {d : DiskV} {ss : List ByteArray} {lA : Option Addr} {ln lc B B' : Nat} {w : World} (hr : RdD w B h d) (hB : B ≤ w.heap.size) (hcap : CapN h) (hl : RdS w B' lA ln ss) (hB' : B' ≤ w.heap.size) (hok : DiskOk d) (hln : ln ≤ 20) (hss : SmallS ss ln 1048576) :
 Calls Tryz.prog 9 #[dkv h d, .slice lA ln lc] w (OwnLs w (linesF d ss)) := by
 have hsh := (small_ok hok).h hr; have HR := hid (hr.mono hB); have HOK := hid (bof_t.2 hok); have HL := hid (linesF_yes (d := d) (ss := ss) ⟨hok, by rw [hl.len]; exact hln⟩); have HDO := hid hok; have HCAP := hid hcap; have HLL := hid (hl.mono hB'); have HSS := hid hss; have S1 := hid hsh.b; have S2 := hid hsh.t; have S3 := hid hsh.n; have S4 := hid (show ∀ i, i < h.nn → (nTxt d.ns i).size ≤ 9223372036854775807 from fun i hi => by have := hsh.ns i hi; simp only [nTxt]; omega); have hln' : ¬ ((20 : Int) < ln) := by omega
 clear hr hok hsh hcap hl hss; obtain ⟨bA, bn, bc, tA, tn, tc, nA, nn, nc⟩ := h; obtain ⟨D, hD⟩ : ∃ D, d = D := ⟨_, rfl⟩; obtain ⟨bs, ts, hot, warm, cold, stamp, ns⟩ := D; subst hD; have b2 : Below w.heap.size w (((w.alloc (.cells (dc bA bn bc tA tn tc hot warm cold stamp nA nn nc) 31)).alloc (.cells Zd 31)).alloc (.cells #[] 9)) := (((Below.refl _ _).alloc (Nat.le_refl _) _).alloc (by simp) _).alloc (by simp; omega) _; have K2 := ((Blk.new w 31 (dc bA bn bc tA tn tc hot warm cold stamp nA nn nc)).alloc (.cells Zd 31)).alloc (.cells #[] 9); have R2 := (Blk.new (w.alloc (.cells (dc bA bn bc tA tn tc hot warm cold stamp nA nn nc) 31)) 31 Zd).alloc (.cells #[] 9); rw [show (w.alloc (.cells (dc bA bn bc tA tn tc hot warm cold stamp nA nn nc) 31)).heap.size = w.heap.size + 1 by simp] at R2; have E2 : OwS (((w.alloc (.cells (dc bA bn bc tA tn tc hot warm cold stamp nA nn nc) 31)).alloc (.cells Zd 31)).alloc (.cells #[] 9)) w.heap.size (some ⟨w.heap.size + 1 + 1, 0, none⟩) 0 0 [] := by
  have h := World.ownsRow_lit (base := w.heap.size) (e := 9) (size := 1) ((w.alloc (.cells (dc bA bn bc tA tn tc hot warm cold stamp nA nn nc) 31)).alloc (.cells Zd 31)) #[] 0 (by simp; omega) (by decide) rfl; rw [show ((w.alloc (.cells (dc bA bn bc tA tn tc hot warm cold stamp nA nn nc) 31)).alloc (.cells Zd 31)).heap.size = w.heap.size + 1 + 1 by simp] at h; exact h
 go_enter Tryz.func9, Tryz.ntmps9
 go_upto_region 2 with (fail)
 generalize ((w.alloc (.cells (dc bA bn bc tA tn tc hot warm cold stamp nA nn nc) 31)).alloc (.cells Zd 31)).alloc (.cells #[] 9) = w2 at *; obtain ⟨t0, t1, t2, t3, t4, t5, t6⟩ := K2.all7; go_wp2_with fail; refine (diskValid_spec (h := ⟨bA, bn, bc, tA, tn, tc, nA, nn, nc⟩) (d := ⟨bs, ts, hot, warm, cold, stamp, ns⟩) (HR.out.below b2) b2.size S1.out S2.out S3.out S4.out).mono ?_; rw [HOK.out]; rintro e w3 ⟨rfl, b3⟩; have R3 := R2.below b3 R2.lt; have K3 := K2.below b3 K2.lt; have HB3 := hid (b2.trans (b3.mono b2.size)); have E3 := hid (E2.below b3); clear K2 R2 b2 b3 t0 t1 t2 t3 t4 t5 t6 E2; go_upto_region 4 with (fail)
 obtain ⟨t0, t1, t2, t3, t4, t5, t6⟩ := K3.all7; go_wp2_with fail; refine (l34Copy_c (h := ⟨bA, bn, bc, tA, tn, tc, nA, nn, nc⟩) (d := ⟨bs, ts, hot, warm, cold, stamp, ns⟩) (HR.out.below HB3.out) HB3.out.size HDO.out.1.1 HDO.out.2.1 S3.out HCAP.out.nil).mono ?_; rintro e w4 ⟨h4, rfl, o4, b4⟩; have R4 := R3.below b4 R3.lt; have HB4 := hid (HB3.out.trans (b4.mono HB3.out.size)); have O4 := hid (o4.lower (base' := w.heap.size) HB3.out.size); have E4 := hid (E3.out.below b4); clear K3 R3 HB3 b4 t0 t1 t2 t3 t4 t5 t6 o4 E3; go_upto_region 5 with (fail)
 have b5 : Below w4.heap.size w4 (w4.alloc (.cells (dc h4.bA h4.bn h4.bc h4.tA h4.tn h4.tc hot warm cold stamp h4.nA h4.nn h4.nc) 31)) := (Below.refl _ _).alloc (Nat.le_refl _) _; have G5 := Blk.new w4 31 (dc h4.bA h4.bn h4.bc h4.tA h4.tn h4.tc hot warm cold stamp h4.nA h4.nn h4.nc); have R5 := R4.below b5 R4.lt; have HB5 := hid (HB4.out.trans (b5.mono HB4.out.size)); have O5 := hid (O4.out.below b5); have E5 := hid (E4.out.below b5); have L5 : w.heap.size + 1 < w4.heap.size := R4.lt; clear b5 R4 HB4 O4 E4; generalize w4.alloc (.cells (dc h4.bA h4.bn h4.bc h4.tA h4.tn h4.tc hot warm cold stamp h4.nA h4.nn h4.nc) 31) = w5 at *; generalize w4.heap.size = go at *; obtain ⟨d, hd⟩ : ∃ d : DiskV, ⟨bs, ts, hot, warm, cold, stamp, ns⟩ = d := ⟨_, rfl⟩; have HDD := hid hd; have G5 := hid (show BoxD w5 go h4 d by rw [← hd]; exact G5); rw [hd] at O5 HL HDO; have RR5 := hid R5; clear hd R5 HR HOK S1 S2 S3 S4 HCAP; go_upto_region 6 with (fail)
 go_loopw [6, 8] (fun v i wr => ∃ (k : Nat) (A : Option Addr) (c : Nat) (hk : DH), k ≤ ln ∧ i = .int .i64 k ∧ v = .slice A k c ∧ BoxD wr go hk (lineD d ss k) ∧ OwD wr w.heap.size hk (lineD d ss k) ∧ OwS wr w.heap.size A k c (lineA d ss k) ∧ Blk wr (w.heap.size + 1) 31 Zd ∧ Below w.heap.size w wr) (fun _ i _ => ln - (intOf i).toNat)
 case atStart => exact ⟨0, some ⟨w.heap.size + 1 + 1, 0, none⟩, 0, h4, Nat.zero_le _, rfl, rfl, G5.out, O5.out, E5.out, RR5.out, HB5.out⟩
 case round =>
  obtain ⟨k, A, c, hk, hkn, rfl, rfl, K, O, SO, R, hb⟩ := hrel; have HB := hid hb; have HSO := hid SO; have HRR := hid R; have HGB : w.heap.size ≤ wr.heap.size := hb.size; clear SO R; by_cases hlt : k < ln
  · obtain ⟨b, off, rfl, hbB, hc⟩ := HLL.out.at_ (by omega); have hc0 := (hb.cell (p := ⟨b, off + k, none⟩) hbB).trans (hc k hlt); have hs0 := HSS.out k hlt; have HOKD := hid (lineD_ok ss HDO.out k); have HN1 := hid (show lineD d ss (k + 1) = (lineF (lineD d ss k) (ss.getD k noTxt)).d from rfl); have HN2 := hid (show lineA d ss (k + 1) = lineA d ss k ++ [(lineF (lineD d ss k) (ss.getD k noTxt)).a] from lineA_succ d ss k); clear hc hb; generalize lineD d ss k = D at *; generalize ss.getD k noTxt = s at *; generalize hR : lineF D s = R at *; have HRL := hid hR; clear hR; obtain ⟨D2, an⟩ := R; simp only at HN1 HN2; have hsz : s.size ≤ 1048576 := by omega
    have lgo := Blk.lt K; obtain ⟨t0, t1, t2, t3, t4, t5, t6⟩ := Blk.all7 K; go_upto_region 8 with (fail)
    go_cut [9, 10] from 30 to 38 (fun p a wx => ∃ (gx : Nat) (hx : DH), p = .pointer (some ⟨gx, 0, none⟩) ∧ a = .string an ∧ BoxD wx gx hx D2 ∧ OwD wx w.heap.size hx D2 ∧ BoxD wx go hk D ∧ Below wr.heap.size wr wx)
    case first =>
     refine wp_region_held_drew (S := fun w' => (w'.cell? ⟨go, 0, none⟩ = some (.slice hk.bA hk.bn hk.bc) ∧ w'.cell? ⟨go, 1, none⟩ = some (.slice hk.tA hk.tn hk.tc) ∧ w'.cell? ⟨go, 2, none⟩ = some (.int .i64 D.hot) ∧ w'.cell? ⟨go, 3, none⟩ = some (.int .i64 D.warm) ∧ w'.cell? ⟨go, 4, none⟩ = some (.int .i64 D.cold) ∧ w'.cell? ⟨go, 5, none⟩ = some (.int .i64 D.stamp) ∧ w'.cell? ⟨go, 6, none⟩ = some (.slice hk.nA hk.nn hk.nc)) ∧ w'.cell? ⟨b, off + k, none⟩ = some (.string s)) (by kernel_rfl) ?_ (fun h_ => ?_)
     · exact ⟨⟨t0, t1, t2, t3, t4, t5, t6⟩, hc0⟩
     refine tk 0 ?_; refine tk 1 ?_; refine tk 2 ?_; refine tk 3 ?_; refine tk 4 ?_; have lb := block_lt_of_cell hc0; have K1 : BoxD wr.drew go hk D := K; have O1 := O.below ((Below.refl _ _).drew); have C1 : Below wr.heap.size wr wr.drew := (Below.refl _ _).drew; have d1 : wr.drew.cell? ⟨b, off + k, none⟩ = some (.string s) := hc0; have lb1 : b < wr.drew.heap.size := lb; clear t0 t1 t2 t3 t4 t5 t6 K O hc0 lb; generalize wr.drew = w1 at *; refine rd2 5 9 (fun K hK => ?_) (fun K hK => ?_)
     · go_simp; refine (diskLine_spec O1.rd (Nat.le_refl _) O1.capN (small_ok HOKD.out) hsz).mono ?_
       rw [HRL.out]; rintro e w2 ⟨hx, rfl, OX, bx⟩; simp only at OX ⊢; go_wp2_with fail; have K2 := Blk.below K1 bx (Blk.lt K1); have d2 := (bx.cell (p := ⟨b, off + k, none⟩) lb1).trans d1; have lb2 : b < w2.heap.size := Nat.lt_of_lt_of_le lb1 bx.size; have szx : w.heap.size ≤ w1.heap.size := Nat.le_trans HGB C1.size; have C2 := C1.trans (bx.mono C1.size); have OX2 := OX.lower szx; refine hK.out _ _ (⟨Blk.all7 K2, d2⟩) fun h_ => ?_
       clear hK K; refine pt ?_; clear K1 d1 lb1 O1 C1 bx OX szx; refine tk 6 ?_; refine tk 7 ?_; refine tk 8 ?_; have bz : Below w2.heap.size w2 (w2.alloc (.cells Zd 31)) := (Below.refl _ _).alloc (Nat.le_refl _) _; have bw : Below w2.heap.size w2 (w2.alloc (.cells (dc hx.bA hx.bn hx.bc hx.tA hx.tn hx.tc D2.hot D2.warm D2.cold D2.stamp hx.nA hx.nn hx.nc) 31)) := (Below.refl _ _).alloc (Nat.le_refl _) _; refine rd1 9 (fun K hK => ?_); go_simp; refine hK.out _ _ (⟨Blk.all7 (Blk.below K2 bz (Blk.lt K2)), (bz.cell (p := ⟨b, off + k, none⟩) lb2).trans d2⟩) fun h_ => ?_
       clear hK K; refine pt ?_; refine rd1 10 (fun K hK => ?_); go_simp; refine hK.out _ _ (⟨Blk.all7 (Blk.below K2 bw (Blk.lt K2)), (bw.cell (p := ⟨b, off + k, none⟩) lb2).trans d2⟩) fun h_ => ?_
       clear hK K; refine pt ?_; refine tk 11 ?_; refine dn ?_; have ke := Blk.new w2 31 (dc hx.bA hx.bn hx.bc hx.tA hx.tn hx.tc D2.hot D2.warm D2.cold D2.stamp hx.nA hx.nn hx.nc); clear h_; go_wp2_with fail; go_meet; exact ⟨_, hx, rfl, rfl, ke, OX2.below bw, Blk.below K2 bw (Blk.lt K2), C2.trans (bw.mono C2.size)⟩
     · go_simp; have bx : Below w1.heap.size w1 (w1.alloc (.cells Zd 31)) := (Below.refl _ _).alloc (Nat.le_refl _) _
       have NB2 := Blk.new w1 31 Zd; have K2 := Blk.below K1 bx (Blk.lt K1); have O2 := O1.below bx; have d2 := (bx.cell (p := ⟨b, off + k, none⟩) lb1).trans d1; have lb2 : b < (w1.alloc (.cells Zd 31)).heap.size := Nat.lt_of_lt_of_le lb1 bx.size; have C2 := C1.trans (bx.mono C1.size); have hgx : wr.heap.size ≤ w1.heap.size := C1.size; have hgn : go ≠ w1.heap.size := Nat.ne_of_lt (Blk.lt K1); have hgb : b ≠ w1.heap.size := Nat.ne_of_lt lb1; refine hK.out _ _ (⟨Blk.all7 K2, d2⟩) fun h_ => ?_
       clear hK K; refine pt ?_; clear K1 O1 C1 bx d1 lb1; generalize w1.alloc (.cells Zd 31) = w2 at *; generalize w1.heap.size = gx at *; refine rd1 5 (fun K hK => ?_); go_simp; refine (diskLine_spec O2.rd (Nat.le_refl _) O2.capN (small_ok HOKD.out) hsz).mono ?_; rw [HRL.out]; rintro e w3 ⟨hx, rfl, OX, bx⟩; simp only at OX ⊢; go_wp2_with fail; have K3 := Blk.below K2 bx (Blk.lt K2); have d3 := (bx.cell (p := ⟨b, off + k, none⟩) lb2).trans d2; have lb3 : b < w3.heap.size := Nat.lt_of_lt_of_le lb2 bx.size; have szx : w.heap.size ≤ w2.heap.size := Nat.le_trans HGB C2.size; have C3 := C2.trans (bx.mono C2.size); have OX3 := OX.lower szx; have NB3 := NB2.below bx NB2.lt; refine hK.out _ _ (⟨Blk.all7 K3, d3⟩) fun h_ => ?_
       clear hK K; refine pt ?_; clear K2 d2 lb2 O2 C2 bx OX szx; refine tk 6 ?_; refine tk 7 ?_; refine tk 8 ?_; obtain ⟨y0, y1, y2, y3, y4, y5, y6⟩ := NB3.all7; obtain ⟨z0, z1, z2, z3, z4, z5, z6⟩ := NB3.free7; have ke := hid (blk_putDisk NB3 hx D2).1; have kk := hid (putDisk_far (g := gx) K3 hgn hx D2); have ko := hid (OX3.put NB3 hx D2); have kc := hid (below_putDisk C3 hgx hx D2); have kd := hid (show (putDisk w3 gx hx D2).cell? ⟨b, off + k, none⟩ = some (.string s) from (far_putDisk (Ne.symm hgb) hx D2).trans d3); dsimp only [putDisk, BoxD] at ke kk ko kc kd; refine rd1 10 (fun K hK => ?_); go_simp; refine hK.out _ _ (⟨Blk.all7 kk.out, kd.out⟩) fun h_ => ?_
       clear hK K; refine pt ?_; refine tk 11 ?_; refine dn ?_; clear h_ y0 y1 y2 y3 y4 y5 y6 z0 z1 z2 z3 z4 z5 z6; go_wp2_with fail; go_meet; exact ⟨_, hx, rfl, rfl, ke.out, ko.out, kk.out, kc.out⟩
    case rest =>
     obtain ⟨gx, hx, rfl, rfl, KX, OX, KD, bx⟩ := hcut; have RX := HRR.out.below bx HRR.out.lt; have EX := HSO.out.below bx; have BX := HB.out.trans (bx.mono HGB); obtain ⟨s0, s1, s2, s3, s4, s5, s6⟩ := Blk.all7 KX; obtain ⟨y0, y1, y2, y3, y4, y5, y6⟩ := Blk.all7 KD; obtain ⟨z0, z1, z2, z3, z4, z5, z6⟩ := Blk.free7 KD; have KP := hid (blk_putDisk KD hx D2).1; have OP := hid (OX.put KD hx D2); have EP := hid (EX.typed (blk_putDisk KD hx D2).2 (by decide)); have RP := hid (putDisk_far RX (show w.heap.size + 1 ≠ go by omega) hx D2); have BP := hid (below_putDisk BX (show w.heap.size ≤ go by omega) hx D2); clear KX OX KD bx RX EX BX K O t0 t1 t2 t3 t4 t5 t6 HRR HSO HB hc0; dsimp only [putDisk, BoxD] at KP OP EP RP BP; go_upto_region 10 with (fail)
     generalize (p6 wc go (.slice hx.bA hx.bn hx.bc) (.slice hx.tA hx.tn hx.tc) (.int .i64 D2.hot) (.int .i64 D2.warm) (.int .i64 D2.cold) (.int .i64 D2.stamp)).setCell ⟨go, 6, none⟩ (.slice hx.nA hx.nn hx.nc) = w3 at *; clear s0 s1 s2 s3 s4 s5 s6 y0 y1 y2 y3 y4 y5 y6 z0 z1 z2 z3 z4 z5 z6 HGB; have HGB : w.heap.size ≤ w3.heap.size := BP.out.size; go_wp2_with (at_builtin; refine wpList_appS (xs := lineA d ss k) rfl rfl rfl EP.out rfl (by omega) HGB ?_; rintro g c2 w4 e4 gr4)
     have ct := ChgT.grown (ts := [9]) EP.out (by simp) gr4; have K4 := hid (Blk.typed KP.out ct (by decide)); have O4 := hid (OP.out.typed ct (by decide) (by decide) (by decide) (by decide) (by decide)); have R4 := hid (RP.out.typed ct (by decide)); have B4 := hid (below_app BP.out EP.out HGB gr4); rw [← HN2.out] at e4; have E4 := hid e4; rw [← HN1.out] at K4 O4; clear ct KP OP RP BP EP gr4 e4; go_roundw
     case rel => exact ⟨k + 1, some ⟨g, 0, none⟩, c2, hx, by omega, by go_num, rfl, K4.out, O4.out, E4.out, R4.out, B4.out⟩
     case measure => simp [intOf]; omega
  · obtain rfl : k = ln := by omega
    have hlen := HLL.out.len; have HF := hid (show linesF d ss = ⟨lineD d ss k, lineA d ss k⟩ by rw [HL.out, hlen]); have hal : (lineA d ss k).length = k := lineA_len d ss k; generalize lineD d ss k = D at *; have HO := hid (ownLs_of HF.out hal O HSO.out (Below.refl _ _) HRR.out HB.out); have KP := hid (blk_putDisk HRR.out hk D).1; obtain ⟨t0, t1, t2, t3, t4, t5, t6⟩ := Blk.all7 K; obtain ⟨y0, y1, y2, y3, y4, y5, y6⟩ := HRR.out.all7; obtain ⟨z0, z1, z2, z3, z4, z5, z6⟩ := HRR.out.free7; clear hlen hal HF O K HSO hb HLL HL; dsimp only [putDisk, BoxD] at KP HO; go_upto_region 11 with (fail)
    repeat (first | go_values | go_skip | go_guarded | go_step | go_upon)
    generalize (p6 wr (w.heap.size + 1) (.slice hk.bA hk.bn hk.bc) (.slice hk.tA hk.tn hk.tc) (.int .i64 D.hot) (.int .i64 D.warm) (.int .i64 D.cold) (.int .i64 D.stamp)).setCell ⟨w.heap.size + 1, 6, none⟩ (.slice hk.nA hk.nn hk.nc) = wz at *; obtain ⟨e0, e1, e2, e3, e4, e5, e6⟩ := KP.out.all7; refine bodyPost_ret (by simp [results, Tryz.results9, go_sem, e0, e1, e2, e3, e4, e5, e6]; try rfl) rfl ?_; rw [HDD.out]; exact HO.out
theorem diskLines_spec {h : DH} {d : DiskV} {ss : List ByteArray} {lA : Option Addr} {ln lc B B' : Nat} {w : World} (hr : RdD w B h d) (hB : B ≤ w.heap.size) (hcap : CapN h) (hsm : SmallDV d) (hl : RdS w B' lA ln ss) (hB' : B' ≤ w.heap.size) (hll : ln ≤ 1048576) (hss : SmallS ss ln 1048576) :
 Calls Tryz.prog 9 #[dkv h d, .slice lA ln lc] w (OwnLs w (linesF d ss)) := by
 by_cases g : GoodL d ss
 · exact diskLines_spec_good hr hB hcap hl hB' g.1 (by have := g.2; rw [hl.len] at this; exact this) hss
 · exact diskLines_spec_bad hr hB hsm hl.len g hll
theorem SmallDV.at_ {w B h d} (s : SmallDV d) (r : RdD w B h d) : SmallD h d := by
 obtain ⟨s1, s2, s3, s4, s5, s6⟩ := s; have e1 := r.b.len; have e2 := r.t.len; have e3 := r.n.len; rw [e1] at s1 s4; rw [e2] at s2 s5; rw [e3] at s3 s6; exact ⟨s1, s2, s3, s4, s5, s6⟩
theorem samePages_same {A A' : Option Addr} {n c c' B B' : Nat} {ps : List PageV} {w : World} (hr : RdG w B A n ps) (hr' : RdG w B' A' n ps) (hn : n ≤ 9000000000000) :
 Calls Tryz.prog 146 #[.slice A n c, .slice A' n c'] w fun e w' => e = .returned (.bool true) ∧ Below w.heap.size w w' := by
 go_enter Tryz.func146, Tryz.ntmps146
 go_wp2; go_loopw [5] (fun i wr => ∃ k : Nat, k ≤ n ∧ i = .int .i64 k ∧ Below w.heap.size w wr) (fun i _ => n - (intOf i).toNat)
 case atStart => exact ⟨0, Nat.zero_le _, rfl, Below.refl _ _⟩
 case round =>
  obtain ⟨k, hk, rfl, hbel⟩ := hrel; by_cases hlt : k < n
  · obtain ⟨b, off, rfl, hbB, hc⟩ := hr.at_ (by omega); obtain ⟨b', off', rfl, hbB', hc'⟩ := hr'.at_ (by omega); obtain ⟨c0, c1, c2, c3, c4⟩ := hc k hlt; obtain ⟨d0, d1, d2, d3, d4⟩ := hc' k hlt; have l0 := block_lt_of_cell c0; have l1 := block_lt_of_cell d0; replace c0 := (hbel.cell (p := ⟨b, off + k * 5, none⟩) l0).trans c0; replace c1 := (hbel.cell (p := ⟨b, off + k * 5 + 1, none⟩) l0).trans c1; replace c2 := (hbel.cell (p := ⟨b, off + k * 5 + 2, none⟩) l0).trans c2; replace c3 := (hbel.cell (p := ⟨b, off + k * 5 + 3, none⟩) l0).trans c3; replace c4 := (hbel.cell (p := ⟨b, off + k * 5 + 4, none⟩) l0).trans c4; replace d0 := (hbel.cell (p := ⟨b', off' + k * 5, none⟩) l1).trans d0; replace d1 := (hbel.cell (p := ⟨b', off' + k * 5 + 1, none⟩) l1).trans d1; replace d2 := (hbel.cell (p := ⟨b', off' + k * 5 + 2, none⟩) l1).trans d2; replace d3 := (hbel.cell (p := ⟨b', off' + k * 5 + 3, none⟩) l1).trans d3; replace d4 := (hbel.cell (p := ⟨b', off' + k * 5 + 4, none⟩) l1).trans d4; generalize ps.getD k noPage = P at *; have HB := hid hbel; clear hc hr hc' hr' hbel; go_wp2_with fail; go_quiet (fail)
    go_wp2_with fail; go_roundw
    case rel => exact ⟨k + 1, by omega, by go_num, below_drewN HB.out _⟩
    case measure => simp [intOf]; omega
  · have hkn : k = n := by omega
    subst hkn; go_wp2; go_ret; exact ⟨rfl, hbel⟩
theorem sameBlock_same {A A' : Option Addr} {n c c' B B' : Nat} {we : Int} {ps : List PageV} {w : World} (hr : RdG w B A n ps) (hr' : RdG w B' A' n ps) (hB : B ≤ w.heap.size) (hB' : B' ≤ w.heap.size) (hn : n ≤ 9000000000000) :
 Calls Tryz.prog 97 #[.agg #[.int .i64 we, .slice A n c], .agg #[.int .i64 we, .slice A' n c']] w fun e w' => e = .returned (.bool true) ∧ Below w.heap.size w w' := by
 have hr0 := hr.mono hB; have hr0' := hr'.mono hB'; go_enter Tryz.func97, Tryz.ntmps97
 go_wp2_with fail; have b2 : Below w.heap.size w ((w.alloc (.cells #[.int .i64 we, .slice A n c] 127)).alloc (.cells #[.int .i64 we, .slice A' n c'] 127)) := ((Below.refl _ _).alloc (Nat.le_refl _) _).alloc (by simp) _
 refine (samePages_same (hr0.below b2) (hr0'.below b2) hn).mono ?_; rintro e w' ⟨rfl, hb⟩; go_wp2; go_ret; exact ⟨rfl, b2.trans (hb.mono b2.size)⟩
theorem sameDevice_same {A A' : Option Addr} {n c c' B B' : Nat} {bs : List BlockV} {w : World} (hr : RdB w B A n bs) (hr' : RdB w B' A' n bs) (hB : B ≤ w.heap.size) (hB' : B' ≤ w.heap.size) (hn : n ≤ 9000000000000) (hsm : SmallB bs n 1048576) :
 Calls Tryz.prog 36 #[.slice A n c, .slice A' n c'] w fun e w' => e = .returned (.bool true) ∧ Below w.heap.size w w' := by
 have HSM := hid hsm; clear hsm; go_enter Tryz.func36, Tryz.ntmps36
 go_wp2; go_loopw [5] (fun i wr => ∃ k : Nat, k ≤ n ∧ i = .int .i64 k ∧ Below w.heap.size w wr) (fun i _ => n - (intOf i).toNat)
 case atStart => exact ⟨0, Nat.zero_le _, rfl, Below.refl _ _⟩
 case round =>
  obtain ⟨k, hk, rfl, hbel⟩ := hrel; by_cases hlt : k < n
  · obtain ⟨b, off, rfl, hbB, hc⟩ := hr.at_ (by omega); obtain ⟨b', off', rfl, hbB', hc'⟩ := hr'.at_ (by omega); obtain ⟨P, np, cp, c0, c1, hp1, hp2, hp⟩ := hc k hlt; obtain ⟨Q, nq, cq, d0, d1, hq1, hq2, hq⟩ := hc' k hlt; have hnq : nq = np := by rw [← hp.len, ← hq.len]
    subst hnq; have hns : nq ≤ 1048576 := by have := HSM.out k hlt; rw [hp.len] at this; omega
    have l0 : b < w.heap.size := by omega
    have l1 : b' < w.heap.size := by omega
    replace c0 := (hbel.cell (p := ⟨b, off + k * 2, none⟩) l0).trans c0; replace c1 := (hbel.cell (p := ⟨b, off + k * 2 + 1, none⟩) l0).trans c1; replace d0 := (hbel.cell (p := ⟨b', off' + k * 2, none⟩) l1).trans d0; replace d1 := (hbel.cell (p := ⟨b', off' + k * 2 + 1, none⟩) l1).trans d1; have HP := hid ((hp.mono hB).below hbel); have HQ := hid ((hq.mono hB').below hbel); generalize bs.getD k noBlock = X at *; obtain ⟨we, ps⟩ := X; simp only at c0 d0 HP HQ; have HB := hid hbel; clear hc hr hc' hr' hbel hp hq; go_wp2_with fail; go_region_with (go_at_call 97; refine (sameBlock_same HP.out.drew HQ.out.drew HB.out.size HB.out.size (by omega)).mono ?_; rintro e w2 ⟨rfl, hb2⟩)
    all_goals
     go_wp2_with fail; go_roundw
     case rel => exact ⟨k + 1, by omega, by go_num, HB.out.drew.trans (hb2.mono HB.out.size)⟩
     case measure => simp [intOf]; omega
  · have hkn : k = n := by omega
    subst hkn; go_wp2; go_ret; exact ⟨rfl, hbel⟩
theorem sameNames_same {A A' : Option Addr} {n c c' B B' : Nat} {ns : List NameV} {w : World} (hr : RdN w B A n ns) (hr' : RdN w B' A' n ns) (hn : n ≤ 9000000000000) :
 Calls Tryz.prog 38 #[.slice A n c, .slice A' n c'] w fun e w' => e = .returned (.bool true) ∧ Below w.heap.size w w' := by
 go_enter Tryz.func38, Tryz.ntmps38
 go_wp2; go_loopw [5] (fun i wr => ∃ k : Nat, k ≤ n ∧ i = .int .i64 k ∧ Below w.heap.size w wr) (fun i _ => n - (intOf i).toNat)
 case atStart => exact ⟨0, Nat.zero_le _, rfl, Below.refl _ _⟩
 case round =>
  obtain ⟨k, hk, rfl, hbel⟩ := hrel; by_cases hlt : k < n
  · obtain ⟨b, off, rfl, hbB, hc⟩ := hr.at_ (by omega); obtain ⟨b', off', rfl, hbB', hc'⟩ := hr'.at_ (by omega); obtain ⟨c0, c1⟩ := hc k hlt; obtain ⟨d0, d1⟩ := hc' k hlt; have l0 := block_lt_of_cell c0; have l1 := block_lt_of_cell d0; replace c0 := (hbel.cell (p := ⟨b, off + k * 2, none⟩) l0).trans c0; replace c1 := (hbel.cell (p := ⟨b, off + k * 2 + 1, none⟩) l0).trans c1; replace d0 := (hbel.cell (p := ⟨b', off' + k * 2, none⟩) l1).trans d0; replace d1 := (hbel.cell (p := ⟨b', off' + k * 2 + 1, none⟩) l1).trans d1; generalize ns.getD k noName = P at *; obtain ⟨s, f⟩ := P; have HB := hid hbel; clear hc hr hc' hr' hbel; go_wp2_with fail; go_quiet (fail)
    go_wp2_with fail; go_roundw
    case rel => exact ⟨k + 1, by omega, by go_num, below_drewN HB.out _⟩
    case measure => simp [intOf]; omega
  · have hkn : k = n := by omega
    subst hkn; go_wp2; go_ret; exact ⟨rfl, hbel⟩
theorem sameTable_same {A A' : Option Addr} {n c c' B B' : Nat} {ts : List (List Int)} {w : World} (hr : RdT w B A n ts) (hr' : RdT w B' A' n ts) (hB : B ≤ w.heap.size) (hB' : B' ≤ w.heap.size) (hn : n ≤ 9000000000000) (hsm : SmallT ts n 1048576) :
 Calls Tryz.prog 37 #[.agg #[.slice A n c], .agg #[.slice A' n c']] w fun e w' => e = .returned (.bool true) ∧ Below w.heap.size w w' := by
 have HSM := hid hsm; have b2 : Below w.heap.size w ((w.alloc (.cells #[.slice A n c] 26)).alloc (.cells #[.slice A' n c'] 26)) := ((Below.refl _ _).alloc (Nat.le_refl _) _).alloc (by simp) _; have k1 := (Blk.new w 26 #[.slice A n c]).alloc (.cells #[.slice A' n c'] 26); have k2 := Blk.new (w.alloc (.cells #[.slice A n c] 26)) 26 #[.slice A' n c']; rw [show (w.alloc (.cells #[.slice A n c] 26)).heap.size = w.heap.size + 1 by simp] at k2; have hr1 := (hr.mono hB).below b2; have hr1' := (hr'.mono hB').below b2; have lw : w.heap.size + 1 < ((w.alloc (.cells #[.slice A n c] 26)).alloc (.cells #[.slice A' n c'] 26)).heap.size := by simp
 have B2 := hid b2; clear hsm hr hr' b2; go_enter Tryz.func37, Tryz.ntmps37
 go_upto_region 1 with (fail)
 generalize (w.alloc (.cells #[.slice A n c] 26)).alloc (.cells #[.slice A' n c'] 26) = w1 at *; have t1 := k1.cell 0; have t2 := k2.cell 0; simp at t1 t2; go_wp2_with fail; go_loopw [5] (fun i wr => ∃ k : Nat, k ≤ n ∧ i = .int .i64 k ∧ Below w1.heap.size w1 wr) (fun i _ => n - (intOf i).toNat)
 case atStart => exact ⟨0, Nat.zero_le _, rfl, Below.refl _ _⟩
 case round =>
  obtain ⟨k, hk, rfl, hbel⟩ := hrel; replace t1 := (hbel.cell (p := ⟨w.heap.size, 0, none⟩) (by show w.heap.size < w1.heap.size; omega)).trans t1; replace t2 := (hbel.cell (p := ⟨w.heap.size + 1, 0, none⟩) lw).trans t2; by_cases hlt : k < n
  · obtain ⟨b, off, rfl, hbB, hc⟩ := hr1.at_ (by omega); obtain ⟨b', off', rfl, hbB', hc'⟩ := hr1'.at_ (by omega); obtain ⟨P, np, cp, c1, hp1, hp2, hp⟩ := hc k hlt; obtain ⟨Q, nq, cq, d1, hq1, hq2, hq⟩ := hc' k hlt; have hnq : nq = np := by rw [← hp.len, ← hq.len]
    subst hnq; have hns : nq ≤ 1048576 := by have := HSM.out k hlt; rw [hp.len] at this; omega
    have l0 : b < w1.heap.size := by omega
    have l1 : b' < w1.heap.size := by omega
    replace c1 := (hbel.cell (p := ⟨b, off + k, none⟩) l0).trans c1; replace d1 := (hbel.cell (p := ⟨b', off' + k, none⟩) l1).trans d1; have HP := hid ((hp.mono (Nat.le_of_lt (Nat.lt_of_lt_of_le (Nat.lt_succ_self _) (Nat.le_of_lt lw)))).below hbel); have HQ := hid ((hq.mono (Nat.le_of_lt (Nat.lt_of_lt_of_le (Nat.lt_succ_self _) (Nat.le_of_lt lw)))).below hbel); generalize ts.getD k [] = xs at *; have HB := hid hbel; clear hc hr1 hc' hr1' hbel hp hq k1 k2; go_upto_region 6 with (fail)
    go_region_held3 (fun w' => w'.cell? ⟨w.heap.size, 0, none⟩ = some (.slice (some ⟨b, off, none⟩) n c) ∧ w'.cell? ⟨w.heap.size + 1, 0, none⟩ = some (.slice (some ⟨b', off', none⟩) n c') ∧ w'.cell? ⟨b, off + k, none⟩ = some (.slice P nq cp) ∧ w'.cell? ⟨b', off' + k, none⟩ = some (.slice Q nq cq)) (first | exact ⟨t1, t2, c1, d1⟩ | exact ⟨u1, u2, u3, u4⟩) (first | (go_at_call 27; refine (sameInts_o HP.out.drew HQ.out.drew (by omega)).mono ?_; rintro e w2 ⟨rfl, hb2⟩; have u1 := (hb2.cell (p := ⟨w.heap.size, 0, none⟩) (block_lt_of_cell t1)).trans t1; have u2 := (hb2.cell (p := ⟨w.heap.size + 1, 0, none⟩) (block_lt_of_cell t2)).trans t2; have u3 := (hb2.cell (p := ⟨b, off + k, none⟩) (block_lt_of_cell c1)).trans c1; have u4 := (hb2.cell (p := ⟨b', off' + k, none⟩) (block_lt_of_cell d1)).trans d1))
    all_goals
     go_wp2_with fail; go_roundw
     case rel => exact ⟨k + 1, by omega, by go_num, HB.out.drew.trans (hb2.mono HB.out.size)⟩
     case measure => simp [intOf]; omega
  · have hkn : k = n := by omega
    subst hkn; go_wp2; go_ret; exact ⟨rfl, B2.out.trans (hbel.mono B2.out.size)⟩
theorem sameDisk_same {h h' : DH} {d : DiskV} {B B' : Nat} {w : World} (hr : RdD w B h d) (hr' : RdD w B' h' d) (hB : B ≤ w.heap.size) (hB' : B' ≤ w.heap.size) (hs : SmallDV d) :
 Calls Tryz.prog 10 #[.agg (dc h.bA h.bn h.bc h.tA h.tn h.tc d.hot d.warm d.cold d.stamp h.nA h.nn h.nc), .agg (dc h'.bA h'.bn h'.bc h'.tA h'.tn h'.tc d.hot d.warm d.cold d.stamp h'.nA h'.nn h'.nc)] w fun e w' => e = .returned (.bool true) ∧ Below w.heap.size w w' := by
 obtain ⟨bs, ts, x, y, z, st, ns⟩ := d; obtain ⟨bA, bn, bc, tA, tn, tc, nA, nn, nc⟩ := h; obtain ⟨bA', bn', bc', tA', tn', tc', nA', nn', nc'⟩ := h'; obtain ⟨m1, m2, m3, m4, m5, m6⟩ := hs; simp only at m1 m2 m3 m4 m5 m6; simp only
 obtain rfl : bs.length = bn := hr.b.len; obtain rfl : ts.length = tn := hr.t.len; obtain rfl : ns.length = nn := hr.n.len; obtain rfl : bs.length = bn' := hr'.b.len; obtain rfl : ts.length = tn' := hr'.t.len; obtain rfl : ns.length = nn' := hr'.n.len; have M4 := hid m4; have M5 := hid m5; clear m4 m5 m6; have e1 : (w.alloc (.cells (dc bA bs.length bc tA ts.length tc x y z st nA ns.length nc) 31)).heap.size = w.heap.size + 1 := by simp
 have K1 := (Blk.new w 31 (dc bA bs.length bc tA ts.length tc x y z st nA ns.length nc)).alloc (.cells (dc bA' bs.length bc' tA' ts.length tc' x y z st nA' ns.length nc') 31); have K2 := Blk.new (w.alloc (.cells (dc bA bs.length bc tA ts.length tc x y z st nA ns.length nc) 31)) 31 (dc bA' bs.length bc' tA' ts.length tc' x y z st nA' ns.length nc'); rw [e1] at K2; have b1 : Below w.heap.size w ((w.alloc (.cells (dc bA bs.length bc tA ts.length tc x y z st nA ns.length nc) 31)).alloc (.cells (dc bA' bs.length bc' tA' ts.length tc' x y z st nA' ns.length nc') 31)) := ((Below.refl _ _).alloc (Nat.le_refl _) _).alloc (by simp) _; have s1 : w.heap.size + 1 < ((w.alloc (.cells (dc bA bs.length bc tA ts.length tc x y z st nA ns.length nc) 31)).alloc (.cells (dc bA' bs.length bc' tA' ts.length tc' x y z st nA' ns.length nc') 31)).heap.size := by simp
 go_enter Tryz.func10, Tryz.ntmps10
 go_upto_region 1 with (fail)
 clear e1; generalize (w.alloc (.cells (dc bA bs.length bc tA ts.length tc x y z st nA ns.length nc) 31)).alloc (.cells (dc bA' bs.length bc' tA' ts.length tc' x y z st nA' ns.length nc') 31) = w1 at *; have hr1 := (hr.mono hB).below b1; have hr1' := (hr'.mono hB').below b1; obtain ⟨f0, f1, f2, f3, f4, f5, f6⟩ := K1.all7; obtain ⟨g0, g1, g2, g3, g4, g5, g6⟩ := K2.all7; go_wp2_with fail; refine (sameDevice_same (n := bs.length) hr1.b hr1'.b b1.size b1.size (by omega) M4.out).mono ?_; rintro e w2 ⟨rfl, b2⟩; have K3 := K1.below b2 (by omega); have K4 := K2.below b2 (by omega); have B2 := hid (b1.trans (b2.mono b1.size)); have hr2 := hr1.below (b2.mono b1.size); have hr2' := hr1'.below (b2.mono b1.size); have hs2 := B2.out.size; have s2 : w.heap.size + 1 < w2.heap.size := by have := b2.size; omega
 clear K1 K2 hr1 hr1' b1 b2 hr hr' s1 f0 f1 f2 f3 f4 f5 f6 g0 g1 g2 g3 g4 g5 g6; obtain ⟨f0, f1, f2, f3, f4, f5, f6⟩ := K3.all7; obtain ⟨g0, g1, g2, g3, g4, g5, g6⟩ := K4.all7; go_wp2_with fail; refine (sameTable_same (n := ts.length) hr2.t hr2'.t hs2 hs2 (by omega) M5.out).mono ?_; rintro e w3 ⟨rfl, b3⟩; have K1 := K3.below b3 (by omega); have K2 := K4.below b3 (by omega); have B3 := hid (B2.out.trans (b3.mono hs2)); have hr3 := hr2.below (b3.mono hs2); have hr3' := hr2'.below (b3.mono hs2); have hs3 := B3.out.size; clear K3 K4 hr2 hr2' b3 s2 f0 f1 f2 f3 f4 f5 f6 g0 g1 g2 g3 g4 g5 g6; obtain ⟨f0, f1, f2, f3, f4, f5, f6⟩ := K1.all7; obtain ⟨g0, g1, g2, g3, g4, g5, g6⟩ := K2.all7; go_wp2_with fail; refine (sameNames_same (n := ns.length) hr3.n hr3'.n (by omega)).mono ?_; rintro e w5 ⟨rfl, b5⟩; have B5 := hid (B3.out.trans (b5.mono hs3)); clear b5 hr3 hr3'; go_wp2; go_ret; exact ⟨rfl, B5.out⟩
theorem bytes_ok {w : World} {a : Option Addr} {n c : Nat} {z : List Int} (h : IsRow .u8 w a n c z) :
 n ≤ c ∧ c ≤ 9223372036854775807 ∧ RdI .u8 w w.heap.size a n (z.take n) ∧ ∀ x ∈ z.take n, 0 ≤ x ∧ x ≤ 255 := by
 obtain ⟨h1, h2, h3, h4⟩ := isRow_rd h; refine ⟨h1, by unfold maxLen at h2; exact h2, h3, fun x hx => ?_⟩; have := bounds_u8 (h4 x hx); omega
theorem bitCount_10 (w : World) : Calls Tryz.prog 44 #[.int .i64 10] w fun e w' => e = .returned (.int .i64 2) ∧ w = w' := by
 go_enter Tryz.func44, Tryz.ntmps44
 go_wp2_with fail; refine wp_loop_rounds 5 ?_
 repeat any_goals (rw [rounds_succ]; go_wp2)
 go_ret; exact ⟨rfl, rfl⟩
theorem bitCount_m1 (w : World) : Calls Tryz.prog 44 #[.int .i64 (-1)] w fun e w' => e = .returned (.int .i64 (-1)) ∧ w = w' := by
 go_enter Tryz.func44, Tryz.ntmps44
 go_wp2; go_ret
 exact ⟨rfl, rfl⟩
theorem alive_c (w : World) : Calls Tryz.prog 12 #[] w fun e w' => e = .returned (.bool true) ∧ w = w' := by
 go_enter Tryz.func12, Tryz.ntmps12
 go_wp2_with fail; refine (bitCount_10 _).mono ?_; rintro e w' ⟨rfl, rfl⟩
 go_wp2_with fail; refine (bitCount_m1 _).mono ?_; rintro e w' ⟨rfl, rfl⟩
 go_wp2_with fail; go_ret
 exact ⟨rfl, rfl⟩
end Go.Proofs.YtefdjahaimnndaaGreatDoor
