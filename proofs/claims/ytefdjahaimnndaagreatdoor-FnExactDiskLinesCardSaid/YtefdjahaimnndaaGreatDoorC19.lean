/- Parts. -/
import Derived.Test.YtefdjahaimnndaaGreatDoorC18
namespace Go.Proofs.YtefdjahaimnndaaGreatDoor
open Go.ChangeShapes Go.WideShapes Go.ChangeAt Go.RowKit Go.Deep
open Go.Lib (hid)
set_option linter.unusedVariables false
set_option linter.unusedSimpArgs false
set_option maxRecDepth 8000 in
set_option maxHeartbeats 4000000 in
theorem cleanBlock_no {A tA : Option Addr} {m c tn tc B : Nat} {bs : List BlockV} {ts : List (List Int)} {h : HeadV} {st : Int} {w : World} (hr : RdB w B A m bs) (hB : B ≤ w.heap.size) (hok : HeadsOk bs h.x h.y h.z) (ht : RdT w B tA tn ts) (hokt : TableOk ts) :
 Calls Tryz.prog 60 #[.slice A m c, .agg #[.slice tA tn tc], hdv h, .int .i64 (-1), .int .i64 st] w fun e w' => (∃ g, e = .returned (.tuple #[.slice (some ⟨g, 0, none⟩) 0 0, .agg #[.slice none 0 0], hdv ⟨0, 0, 0⟩, .int .i64 0, .bool false])) ∧ Below w.heap.size w w' := by
 obtain rfl : bs.length = m := hr.len; obtain rfl : tn = 8 := by rw [← ht.len, hokt.1]
 have hm12 : bs.length ≤ 12 := hok.1.1.2; obtain ⟨x, y, z⟩ := h; simp only at hok; have HBT := hid (bof_t.2 hok); have HBK := hid (bof_t.2 hokt); have HR := hid (hr.mono hB); have HT := hid (ht.mono hB); have i1 := hid (show inB (-1) 0 ((bs.length : Int) - 1) = false from by rw [inB_f]; omega); have v1 : IntKind.i64.wrap ((bs.length : Int) - 1) = (bs.length : Int) - 1 := IntWalk.i64_in _ (by omega); have b4 : Below w.heap.size w ((((w.alloc (.cells #[.slice tA 8 tc] 26)).alloc (.cells #[.int .i64 x, .int .i64 y, .int .i64 z] 28)).alloc (.cells #[.slice none 0 0] 26)).alloc (.cells #[.int .i64 0, .int .i64 0, .int .i64 0] 28)) := ((((Below.refl _ _).alloc (Nat.le_refl _) _).alloc (by simp) _).alloc (by simp; omega) _).alloc (by simp; omega) _; have T4 := (((Blk.new w 26 #[.slice tA 8 tc]).alloc (.cells #[.int .i64 x, .int .i64 y, .int .i64 z] 28)).alloc (.cells #[.slice none 0 0] 26)).alloc (.cells #[.int .i64 0, .int .i64 0, .int .i64 0] 28); have H4 := ((Blk.new (w.alloc (.cells #[.slice tA 8 tc] 26)) 28 #[.int .i64 x, .int .i64 y, .int .i64 z]).alloc (.cells #[.slice none 0 0] 26)).alloc (.cells #[.int .i64 0, .int .i64 0, .int .i64 0] 28); have P4 := (Blk.new ((w.alloc (.cells #[.slice tA 8 tc] 26)).alloc (.cells #[.int .i64 x, .int .i64 y, .int .i64 z] 28)) 26 #[.slice none 0 0]).alloc (.cells #[.int .i64 0, .int .i64 0, .int .i64 0] 28); have Q4 := Blk.new (((w.alloc (.cells #[.slice tA 8 tc] 26)).alloc (.cells #[.int .i64 x, .int .i64 y, .int .i64 z] 28)).alloc (.cells #[.slice none 0 0] 26)) 28 #[.int .i64 0, .int .i64 0, .int .i64 0]
 rw [show (w.alloc (.cells #[.slice tA 8 tc] 26)).heap.size = w.heap.size + 1 by simp] at H4; rw [show ((w.alloc (.cells #[.slice tA 8 tc] 26)).alloc (.cells #[.int .i64 x, .int .i64 y, .int .i64 z] 28)).heap.size = w.heap.size + 1 + 1 by simp] at P4; rw [show (((w.alloc (.cells #[.slice tA 8 tc] 26)).alloc (.cells #[.int .i64 x, .int .i64 y, .int .i64 z] 28)).alloc (.cells #[.slice none 0 0] 26)).heap.size = w.heap.size + 1 + 1 + 1 by simp] at Q4; have B4 := hid b4; clear hr ht hok hokt b4; go_enter Tryz.func60, Tryz.ntmps60
 go_upto_region 1 with (fail)
 generalize (((w.alloc (.cells #[.slice tA 8 tc] 26)).alloc (.cells #[.int .i64 x, .int .i64 y, .int .i64 z] 28)).alloc (.cells #[.slice none 0 0] 26)).alloc (.cells #[.int .i64 0, .int .i64 0, .int .i64 0] 28) = w4 at *; have u0 := H4.cell 0; have u1 := H4.cell 1; have u2 := H4.cell 2; simp at u0 u1 u2; go_wp2_with fail; refine (headsValid_spec (HR.out.below B4.out) B4.out.size (by omega)).mono ?_; rw [HBT.out]; rintro e w5 ⟨rfl, b5⟩; have T5 := T4.below b5 T4.lt; have H5 := H4.below b5 H4.lt; have P5 := P4.below b5 P4.lt; have Q5 := Q4.below b5 Q4.lt; have B5 := hid (B4.out.trans (b5.mono B4.out.size)); clear T4 H4 P4 Q4 B4 b5; clear u0 u1 u2; have t0 := T5.cell 0; simp at t0; go_wp2_with fail; refine (tableValid_spec (HT.out.below B5.out) B5.out.size (by omega)).mono ?_; rw [HBK.out]; rintro e w6 ⟨rfl, b6⟩; have T6 := T5.below b6 T5.lt; have H6 := H5.below b6 H5.lt; have P6 := P5.below b6 P5.lt; have Q6 := Q5.below b6 Q5.lt; have B6 := hid (B5.out.trans (b6.mono B5.out.size)); clear T5 H5 P5 Q5 B5 b6; clear t0; clear T6 H6; go_upto_region 2 with (go_at_call 53; refine (l1In_c _ _ _ _).mono ?_; rw [i1.out]; rintro e w' ⟨rfl, rfl⟩)
 have P7 := P6.alloc (.cells #[] 127); have Q7 := Q6.alloc (.cells #[] 127); have B7 := B6.out.alloc B6.out.size (.cells #[] 127); have g6 : w.heap.size ≤ w6.heap.size := B6.out.size; have p0 := P7.cell 0; have q0 := Q7.cell 0; have q1 := Q7.cell 1; have q2 := Q7.cell 2; simp at p0 q0 q1 q2; have zp0 := P7.frozen 0; have zq0 := Q7.frozen 0; have zq1 := Q7.frozen 1; have zq2 := Q7.frozen 2; have P8 := P7.set_ 0 (.slice none 0 0); have P9 := ((P8.far (p := ⟨w.heap.size + 1 + 1 + 1, 0, none⟩) (by show w.heap.size + 1 + 1 ≠ w.heap.size + 1 + 1 + 1; omega) (.int .i64 0)).far (p := ⟨w.heap.size + 1 + 1 + 1, 1, none⟩) (by show w.heap.size + 1 + 1 ≠ w.heap.size + 1 + 1 + 1; omega) (.int .i64 0)).far (p := ⟨w.heap.size + 1 + 1 + 1, 2, none⟩) (by show w.heap.size + 1 + 1 ≠ w.heap.size + 1 + 1 + 1; omega) (.int .i64 0); have Q8 := Q7.far (p := ⟨w.heap.size + 1 + 1, 0, none⟩) (by show w.heap.size + 1 + 1 + 1 ≠ w.heap.size + 1 + 1; omega) (.slice none 0 0); have Q9 := ((Q8.set_ 0 (.int .i64 0)).set_ 1 (.int .i64 0)).set_ 2 (.int .i64 0); have B9 := hid ((((B7.setCell (p := ⟨w.heap.size + 1 + 1, 0, none⟩) (by show w.heap.size ≤ w.heap.size + 1 + 1; omega) (.slice none 0 0)).setCell (p := ⟨w.heap.size + 1 + 1 + 1, 0, none⟩) (by show w.heap.size ≤ w.heap.size + 1 + 1 + 1; omega) (.int .i64 0)).setCell (p := ⟨w.heap.size + 1 + 1 + 1, 1, none⟩) (by show w.heap.size ≤ w.heap.size + 1 + 1 + 1; omega) (.int .i64 0)).setCell (p := ⟨w.heap.size + 1 + 1 + 1, 2, none⟩) (by show w.heap.size ≤ w.heap.size + 1 + 1 + 1; omega) (.int .i64 0))
 simp at P9 Q9; have HP9 := hid P9; have HQ9 := hid Q9; clear P6 Q6 B6 P7 Q7 B7 P8 Q8 P9 Q9; go_wp2; generalize ((((w6.alloc (.cells #[] 127)).setCell ⟨w.heap.size + 1 + 1, 0, none⟩ (.slice none 0 0)).setCell ⟨w.heap.size + 1 + 1 + 1, 0, none⟩ (.int .i64 0)).setCell ⟨w.heap.size + 1 + 1 + 1, 1, none⟩ (.int .i64 0)).setCell ⟨w.heap.size + 1 + 1 + 1, 2, none⟩ (.int .i64 0) = wz at *; have e0 := HP9.out.cell 0; have e1 := HQ9.out.cell 0; have e2 := HQ9.out.cell 1; have e3 := HQ9.out.cell 2; simp at e0 e1 e2 e3; refine bodyPost_ret (by simp [results, Tryz.results60, go_sem, e0, e1, e2, e3]; try rfl) rfl ?_; exact ⟨⟨_, rfl⟩, B9.out⟩
set_option maxRecDepth 8000 in
theorem cloneNames_c {A : Option Addr} {n c B : Nat} {ns : List NameV} {w : World} (hr : RdN w B A n ns) (hB : B ≤ w.heap.size) (hn : n ≤ 1048576) (hnl : A = none → c = 0) :
 Calls Tryz.prog 89 #[.slice A n c] w fun e w' => ∃ A' c', e = .returned (.slice A' n c') ∧ OwN w' w.heap.size A' n c' ns ∧ Below w.heap.size w w' := by
 have hnil := fun (W : World) (a : Option Addr) (m k : Nat) => Lib.run_eql_slice_nil (P := Tryz.prog) W 29 78 a m k 0 0 Tryz.underlying29
 rcases A with _ | ad
 · have hm : n = 0 := by
    rcases Nat.eq_zero_or_pos n with h0 | h0
    · exact h0
    · obtain ⟨b, off, e, _⟩ := hr.at_ h0; cases e
   subst hm; have hy : ns = [] := List.eq_nil_of_length_eq_zero hr.len; subst hy; go_enter Tryz.func89, Tryz.ntmps89
   go_wp2; go_ret
   exact ⟨none, 0, rfl, OwN.nil _ _, Below.refl _ _⟩
 · have b0 : Below w.heap.size w (w.alloc (.cells #[] 78)) := (Below.refl _ _).alloc (Nat.le_refl _) _; have o0 : OwN (w.alloc (.cells #[] 78)) w.heap.size (some ⟨w.heap.size, 0, none⟩) 0 0 [] := World.ownsRow_lit w #[] 0 (Nat.le_refl _) (by decide) rfl; have hr1 := (hr.mono hB).below b0; go_enter Tryz.func89, Tryz.ntmps89
   go_wp2_with (at_builtin; refine wpList_appNs rfl rfl rfl o0 rfl (by intro h; cases h) hr1 (by omega) b0.size ?_; rintro A' c' w' ho hg)
   go_ret; rw [Nat.zero_add, List.nil_append] at ho
   exact ⟨A', c', by simp, ho, below_app b0 o0 b0.size hg⟩
set_option maxRecDepth 8000 in
set_option maxHeartbeats 4000000 in
theorem cloneDisk_c {h : DH} {d : DiskV} {B : Nat} {w : World} (hr : RdD w B h d) (hB : B ≤ w.heap.size) (hdv : DevOk d.bs) (htk : TableOk d.ts) (hnn : h.nn ≤ 1048576) (hnil : h.nA = none → h.nc = 0) :
 Calls Tryz.prog 33 #[dkv h d] w (OwnD w d) := by
 obtain ⟨bA, bn, bc, tA, tn, tc, nA, nn, nc⟩ := h; obtain ⟨bs, ts, hot, warm, cold, stamp, ns⟩ := d; have HR := hid (hr.mono hB); have HNIL := hid hnil; have HNN := hid hnn; have hbl : bs.length = bn := hr.b.len; have hm12 : bn ≤ 12 := by rw [← hbl]; exact hdv.1.2
 have HP4 := hid (show ∀ i, i < bn → 0 < (bs.getD i noBlock).pages.length ∧ (bs.getD i noBlock).pages.length ≤ 1048576 from fun i hi => by have e : (bs.getD i noBlock).pages.length = 4 := (hdv.2 i (by show i < bs.length; omega)).2.1; omega); have HSH := hid (show ts.length = 8 ∧ ∀ i, i < 8 → (ts.getD i []).length = 6 from ⟨htk.1, htk.2.1⟩); clear hr hnil hdv htk hbl hnn; have b2 : Below w.heap.size w ((w.alloc (.cells (dc bA bn bc tA tn tc hot warm cold stamp nA nn nc) 31)).alloc (.cells Zd 31)) := ((Below.refl _ _).alloc (Nat.le_refl _) _).alloc (by simp) _; have K2 := (Blk.new w 31 (dc bA bn bc tA tn tc hot warm cold stamp nA nn nc)).alloc (.cells Zd 31); have R2 := Blk.new (w.alloc (.cells (dc bA bn bc tA tn tc hot warm cold stamp nA nn nc) 31)) 31 Zd; rw [show (w.alloc (.cells (dc bA bn bc tA tn tc hot warm cold stamp nA nn nc) 31)).heap.size = w.heap.size + 1 by simp] at R2; go_enter Tryz.func33, Tryz.ntmps33
 go_upto_region 1 with (fail)
 generalize (w.alloc (.cells (dc bA bn bc tA tn tc hot warm cold stamp nA nn nc) 31)).alloc (.cells Zd 31) = w2 at *; obtain ⟨t0, t1, t2, t3, t4, t5, t6⟩ := K2.all7; refine wp_region_held_drew (S := fun w' => w'.cell? ⟨w.heap.size, 0, none⟩ = some (.slice bA bn bc) ∧ w'.cell? ⟨w.heap.size, 1, none⟩ = some (.slice tA tn tc) ∧ w'.cell? ⟨w.heap.size, 2, none⟩ = some (.int .i64 hot) ∧ w'.cell? ⟨w.heap.size, 3, none⟩ = some (.int .i64 warm) ∧ w'.cell? ⟨w.heap.size, 4, none⟩ = some (.int .i64 cold) ∧ w'.cell? ⟨w.heap.size, 5, none⟩ = some (.int .i64 stamp) ∧ w'.cell? ⟨w.heap.size, 6, none⟩ = some (.slice nA nn nc)) (by kernel_rfl) ?_ (fun h_ => ?_)
 · exact ⟨t0, t1, t2, t3, t4, t5, t6⟩
 have K3 : Blk w2.drew w.heap.size 31 _ := K2; have R3 : Blk w2.drew (w.heap.size + 1) 31 _ := R2; have B3 := hid b2.drew; clear t0 t1 t2 t3 t4 t5 t6 K2 R2 b2; generalize w2.drew = w3 at *; refine tk 0 ?_; refine tk 1 ?_; refine tk 3 ?_; refine tk 4 ?_; refine tk 6 ?_; refine tk 7 ?_; refine tk 8 ?_; refine tk 9 ?_; refine tk 10 ?_; refine tk 11 ?_; refine rd1 2 (fun K hK => ?_); go_simp; refine (cloneDevice_c (HR.out.b.below B3.out) B3.out.size (by show bn ≤ 1048576; omega) HP4.out).mono ?_; rintro e w4 ⟨A4, c4, rfl, o4, b4⟩; have K4 := K3.below b4 K3.lt; have R4 := R3.below b4 R3.lt; have B4 := hid (B3.out.trans (b4.mono B3.out.size)); have O4 := hid (o4.lower (base' := w.heap.size) B3.out.size); go_wp2_with fail; refine hK.out _ _ (K4.all7) fun h_ => ?_
 clear hK K; refine pt ?_; clear K3 R3 B3 o4 b4; refine rd1 5 (fun K hK => ?_); go_simp; refine (cloneTable_c (HR.out.t.below B4.out) B4.out.size HSH.out).mono ?_; rintro e w5 ⟨A5, c5, rfl, o5, b5⟩; have K5 := K4.below b5 K4.lt; have R5 := R4.below b5 R4.lt; have B5 := hid (B4.out.trans (b5.mono B4.out.size)); have O5 := hid (o5.lower (base' := w.heap.size) B4.out.size); have O4x := hid (O4.out.below b5); go_wp2_with fail; refine hK.out _ _ (K5.all7) fun h_ => ?_
 clear hK K; refine pt ?_; clear K4 R4 B4 o5 b5; refine rd1 12 (fun K hK => ?_); go_simp; refine (cloneNames_c (HR.out.n.below B5.out) B5.out.size HNN.out HNIL.out).mono ?_; rintro e w6 ⟨A6, c6, rfl, o6, b6⟩; have K6 := K5.below b6 K5.lt; have R6 := R5.below b6 R5.lt; have B6 := hid (B5.out.trans (b6.mono B5.out.size)); have O6 := hid (o6.lower (base' := w.heap.size) B5.out.size); have O4y := hid (O4x.out.below b6); have O5x := hid (O5.out.below b6); go_wp2_with fail; refine hK.out _ _ (K6.all7) fun h_ => ?_
 clear hK K; refine pt ?_; clear K5 R5 B5 o6 b6; refine tk 13 ?_; have OD : OwD w6 w.heap.size ⟨A4, bs.length, c4, A5, ts.length, c5, A6, nn, c6⟩ ⟨bs, ts, hot, warm, cold, stamp, ns⟩ := ⟨O4y.out, O5x.out, O6.out⟩; have HO := hid (show OwnD w ⟨bs, ts, hot, warm, cold, stamp, ns⟩ (.returned (dkv ⟨A4, bs.length, c4, A5, ts.length, c5, A6, nn, c6⟩ ⟨bs, ts, hot, warm, cold, stamp, ns⟩)) (putDisk w6 (w.heap.size + 1) ⟨A4, bs.length, c4, A5, ts.length, c5, A6, nn, c6⟩ ⟨bs, ts, hot, warm, cold, stamp, ns⟩) from ⟨_, rfl, OD.put R6 _ _, below_putDisk B6.out (by omega) _ _⟩); have KP := hid (blk_putDisk R6 ⟨A4, bs.length, c4, A5, ts.length, c5, A6, nn, c6⟩ ⟨bs, ts, hot, warm, cold, stamp, ns⟩).1; have KK := hid (putDisk_far (g := w.heap.size + 1) K6 (by omega) (⟨A4, bs.length, c4, A5, ts.length, c5, A6, nn, c6⟩ : DH) ⟨bs, ts, hot, warm, cold, stamp, ns⟩); obtain ⟨y0, y1, y2, y3, y4, y5, y6⟩ := R6.all7; obtain ⟨z0, z1, z2, z3, z4, z5, z6⟩ := R6.free7; clear OD R6 K6 B6; dsimp only [putDisk, BoxD] at HO KP KK; refine rd1 14 (fun K hK => ?_); go_simp; refine hK.out _ _ (KK.out.all7) fun h_ => ?_
 clear hK K; refine pt ?_; refine dn ?_; clear h_ KK; repeat (first | go_values | go_skip | go_guarded | go_step | go_upon)
 generalize (p6 w6 (w.heap.size + 1) (.slice A4 bs.length c4) (.slice A5 ts.length c5) (.int .i64 hot) (.int .i64 warm) (.int .i64 cold) (.int .i64 stamp)).setCell ⟨w.heap.size + 1, 6, none⟩ (.slice A6 nn c6) = wz at *; obtain ⟨e0, e1, e2, e3, e4, e5, e6⟩ := KP.out.all7; refine bodyPost_ret (by simp [results, Tryz.results33, go_sem, e0, e1, e2, e3, e4, e5, e6]; try rfl) rfl ?_; exact HO.out
def CmdP (w0 : World) (base g : Nat) (o : Option LineR) (e : Ending) (w' : World) : Prop :=
 ∃ (a : ByteArray) (ok : Bool), e = .returned (.tuple #[.string a, .bool ok]) ∧ w0.grownBy w' (some g) ∧ (ok = false → o = none) ∧
  (ok = true → ∃ h x, o = some ⟨x, a⟩ ∧ BoxD w' g h x ∧ OwD w' base h x ∧ SmallDV x)
theorem cmd_no {w0 w' : World} {base g : Nat} {o : Option LineR} {a : ByteArray} (ho : o = none) (hg : w0.grownBy w' (some g)) : CmdP w0 base g o (.returned (.tuple #[.string a, .bool false])) w' :=
 ⟨a, false, rfl, hg, fun _ => ho, fun h => nomatch h⟩
theorem cmd_yes {w0 w' : World} {base g : Nat} {o : Option LineR} {a : ByteArray} {h : DH} {x : DiskV} (ho : o = some ⟨x, a⟩) (hg : w0.grownBy w' (some g)) (hb : BoxD w' g h x) (hw : OwD w' base h x) (hs : SmallDV x) : CmdP w0 base g o (.returned (.tuple #[.string a, .bool true])) w' :=
 ⟨a, true, rfl, hg, fun h => (nomatch h), fun _ => ⟨h, x, ho, hb, hw, hs⟩⟩
structure InBox (w : World) (base g : Nat) (h : DH) (d : DiskV) : Prop where
 box : BoxD w g h d
 own : OwD w base h d
 ok : DiskOk d
 lt : base ≤ g
theorem InBox.below {w w' : World} {base g : Nat} {h : DH} {d : DiskV} (i : InBox w base g h d) (b : Below w.heap.size w w') : InBox w' base g h d :=
 ⟨i.box.below b i.box.lt, i.own.below b, i.ok, i.lt⟩
theorem InBox.size {w : World} {base g : Nat} {h : DH} {d : DiskV} (i : InBox w base g h d) : base ≤ w.heap.size := by
 have := i.box.lt; have := i.lt; omega
abbrev askF (gf : Nat) : Value := .func (.func 121) #[] #[.pointer (some ⟨gf, 0, none⟩)]
theorem isNamed_c {t : ByteArray} {f0 f : Int} {gf : Nat} {w : World} (hc : w.cell? ⟨gf, 0, none⟩ = some (.int .i64 f)) : Calls Tryz.prog 121 #[.agg #[.string t, .int .i64 f0], .pointer (some ⟨gf, 0, none⟩)] w fun e w' => e = .returned (.bool (f0 == f)) ∧ Below w.heap.size w w' := by
 have hlt := block_lt_of_cell hc; have b1 : Below w.heap.size w (w.alloc (.cells #[.string t, .int .i64 f0] 78)) := (Below.refl _ _).alloc (Nat.le_refl _) _; have k1 := Blk.new w 78 #[.string t, .int .i64 f0]; have c1 := (b1.cell (p := ⟨gf, 0, none⟩) hlt).trans hc; have B1 := hid b1; clear b1 hc; go_enter Tryz.func121, Tryz.ntmps121
 go_upto_region 1 with (fail)
 generalize w.alloc (.cells #[.string t, .int .i64 f0] 78) = w1 at *; have t1 := k1.cell 1; simp at t1; go_wp2; go_ret; exact ⟨rfl, B1.out⟩
set_option maxHeartbeats 2000000 in
theorem indexName_c {A : Option Addr} {n c B gf : Nat} {ns : List NameV} {f : Int} {w : World} (hr : RdN w B A n ns) (hB : B ≤ w.heap.size) (hn : n ≤ 1048576) (hc : w.cell? ⟨gf, 0, none⟩ = some (.int .i64 f)) :
 Calls Tryz.prog 159 #[.slice A n c, askF gf] w fun e w' => (∃ v : Int, e = .returned (.int .i64 v) ∧ (0 ≤ v ↔ Named ns f)) ∧ Below w.heap.size w w' := by
 obtain rfl : ns.length = n := hr.len; have HR := hid (hr.mono hB); have hlt := block_lt_of_cell hc; have HC := hid hc; clear hr hc; go_enter Tryz.func159, Tryz.ntmps159
 go_wp2_with fail; go_loopw [8] (fun i wr => ∃ k : Nat, k ≤ ns.length ∧ i = .int .i64 k ∧ (∀ j, j < k → nFil ns j ≠ f) ∧ Below w.heap.size w wr) (fun i _ => ns.length - (intOf i).toNat)
 case atStart => exact ⟨0, Nat.zero_le _, rfl, fun j h => absurd h (Nat.not_lt_zero _), Below.refl _ _⟩
 case round =>
  obtain ⟨k, hk, rfl, hno, b1⟩ := hrel; have HNO := hid hno; have B1 := hid b1; have c1 := (b1.cell (p := ⟨gf, 0, none⟩) hlt).trans HC.out; have s1 := b1.size; clear hno b1; by_cases hl : k < ns.length
  · have kI : (k : Int) < ns.length := by omega
    obtain ⟨b, off, rfl, hbB, hcc⟩ := (HR.out.below B1.out).at_ (by omega); obtain ⟨d0, d1⟩ := hcc k hl; have HF := hid (show nFil ns k = (ns.getD k noName).2 from rfl); obtain ⟨P, hP⟩ : ∃ P, ns.getD k noName = P := ⟨_, rfl⟩; rw [hP] at d0 d1 HF; obtain ⟨t, f0⟩ := P; simp only at d0 d1 HF; clear hcc hP; have HFC := hid (isNamed_c (t := t) (f0 := f0) c1); by_cases he : f0 = f
    · have hb : (f0 == f) = true := by rw [he]; exact beq_self_eq_true _
      rw [hb] at HFC; have HNM := hid (show Named ns f from ⟨k, hl, by rw [HF.out, he]⟩); clear he hb; go_wp2_with (go_at_call 121; refine HFC.out.mono ?_; rintro e w2 ⟨rfl, b2⟩; have B2 := hid (B1.out.trans (b2.mono s1)); clear b2)
      go_ret; exact ⟨⟨(k : Int), rfl, fun _ => HNM.out, fun _ => Int.natCast_nonneg k⟩, B2.out⟩
    · have hb : (f0 == f) = false := beq_eq_false_iff_ne.2 he; rw [hb] at HFC; have HN2 := hid (show ∀ j, j < k + 1 → nFil ns j ≠ f from fun j hj => by
       by_cases e : j = k
       · subst e; rw [HF.out]; exact he
       · exact HNO.out j (by omega))
      clear he hb; go_wp2_with (go_at_call 121; refine HFC.out.mono ?_; rintro e w2 ⟨rfl, b2⟩; have B2 := hid (B1.out.trans (b2.mono s1)); clear b2)
      go_roundw
      case rel => exact ⟨k + 1, by omega, by go_num, HN2.out, B2.out⟩
      case measure => simp [intOf]; omega
  · obtain rfl : k = ns.length := by omega
    have HNM := hid (show ¬ Named ns f from fun ⟨j, hj, e⟩ => HNO.out j hj e); go_wp2; go_ret; exact ⟨⟨-1, rfl, fun h => by omega, fun h => absurd h HNM.out⟩, B1.out⟩
open Classical in
theorem contains_c {A : Option Addr} {n c B gf : Nat} {ns : List NameV} {f : Int} {w : World} (hr : RdN w B A n ns) (hB : B ≤ w.heap.size) (hn : n ≤ 1048576) (hc : w.cell? ⟨gf, 0, none⟩ = some (.int .i64 f)) :
 Calls Tryz.prog 120 #[.slice A n c, askF gf] w fun e w' => e = .returned (.bool (bof (Named ns f))) ∧ Below w.heap.size w w' := by
 have HI := hid (indexName_c (c := c) hr hB hn hc); clear hr hc; go_enter Tryz.func120, Tryz.ntmps120
 go_wp2_with (go_at_call 159; refine HI.out.mono ?_; rintro e w2 ⟨⟨v, rfl, hv⟩, b2⟩; have HV := hid hv; have B2 := hid b2; clear hv b2)
 go_ret; refine ⟨?_, B2.out⟩
 show Ending.returned (.bool _) = _
 congr 2
 by_cases h : Named ns f
 · rw [bof_t.2 h]; exact decide_eq_true (HV.out.2 h)
 · rw [bof_f.2 h]; exact decide_eq_false (fun h' => h (HV.out.1 h'))
def insN (ns : List NameV) (t : ByteArray) (f : Int) (q : Nat) : List NameV := ns.take q ++ [(t, f)] ++ ns.drop q
theorem insN_len {ns : List NameV} {t : ByteArray} {f : Int} {q : Nat} (hq : q ≤ ns.length) : (insN ns t f q).length = ns.length + 1 := by
 unfold insN; simp; omega
theorem insN_at {ns : List NameV} {t : ByteArray} {f : Int} {q : Nat} (hq : q ≤ ns.length) : nTxt (insN ns t f q) q = t := by
 unfold nTxt insN; rw [List.getD_eq_getElem?_getD, List.append_assoc, List.getElem?_append_right (by simp; omega)]; simp [Nat.min_eq_left hq]
theorem insN_low {ns : List NameV} {t : ByteArray} {f : Int} {q i : Nat} (hq : q ≤ ns.length) (hi : i < q) : nTxt (insN ns t f q) i = nTxt ns i := by
 unfold nTxt insN; rw [List.getD_eq_getElem?_getD, List.append_assoc, List.getElem?_append_left (by simp; omega), List.getElem?_take_of_lt hi, ← List.getD_eq_getElem?_getD]
theorem insN_high {ns : List NameV} {t : ByteArray} {f : Int} {q i : Nat} (hq : q ≤ ns.length) (hi : q ≤ i) : nTxt (insN ns t f q) (i + 1) = nTxt ns i := by
 unfold nTxt insN; rw [List.getD_eq_getElem?_getD, List.getElem?_append_right (by simp; omega), List.getElem?_drop, ← List.getD_eq_getElem?_getD]; congr 2
 simp; omega
theorem ok_bef {ns : List NameV} (h : NamesOk ns) : ∀ {j i : Nat}, i < j → j < ns.length → NBef (nTxt ns i) (nTxt ns j)
 | 0, i, h1, _ => absurd h1 (Nat.not_lt_zero _)
 | j + 1, i, h1, h2 => by
  have hb := (h (j + 1) h2).2.2.1 (by omega); rw [Nat.add_sub_cancel] at hb; by_cases e : i = j
  · subst e; exact hb
  · exact NBef_trans (ok_bef h (by omega) (by omega)) hb
theorem insN_twice {ns : List NameV} {t : ByteArray} {f : Int} {q j : Nat} (hq : q ≤ ns.length) (hj : j < ns.length) (he : nTxt ns j = t) : ¬ NamesOk (insN ns t f q) := by
 intro h
 have hl := insN_len (t := t) (f := f) hq; by_cases hjq : j < q
 · have := ok_bef h hjq (by omega); rw [insN_at hq, insN_low hq hjq, he] at this; exact NBef_irrefl t this
 · have := ok_bef h (show q < j + 1 by omega) (by omega); rw [insN_at hq, insN_high hq (by omega), he] at this; exact NBef_irrefl t this
theorem putAt_le (ns : List NameV) (t : ByteArray) : putAt ns t ≤ ns.length := by
 have key : ∀ m k, putFrom ns t k m ≤ k + m := by
  intro m
  induction m with
  | zero => intro k; exact Nat.le_refl _
  | succ m ih =>
   intro k
   unfold putFrom; split
   · have := ih (k + 1); omega
   · omega
 have := key ns.length 0; unfold putAt; omega
theorem putN_same {ns : List NameV} {t : ByteArray} {f : Int} {q : Nat} (hq : q ≤ ns.length) (h1 : ∀ i, i < q → ¬ NBef t (nTxt ns i)) (h2 : q < ns.length → NBef t (nTxt ns q)) (hok : NamesOk ns) :
 (NamesOk (insN ns t f q) ↔ NamesOk (putL ns t f)) ∧ (NamesOk (insN ns t f q) → insN ns t f q = putL ns t f) := by
 by_cases hin : ∃ j, j < ns.length ∧ nTxt ns j = t
 · obtain ⟨j, hj, he⟩ := hin; have n1 := insN_twice (f := f) hq hj he; have n2 : ¬ NamesOk (putL ns t f) := insN_twice (f := f) (putAt_le ns t) hj he; exact ⟨⟨fun h => absurd h n1, fun h => absurd h n2⟩, fun h => absurd h n1⟩
 · have hno : ∀ j, j < ns.length → nTxt ns j ≠ t := fun j hj he => hin ⟨j, hj, he⟩
   have hb : ∀ i, i < q → NBef (nTxt ns i) t := by
    intro i hi
    rcases NBef_total (nTxt ns i) t with h | h | h
    · exact h
    · exact absurd h (hno i (by omega))
    · exact absurd h (h1 i hi)
   have hat : putAt ns t = q := by
    by_cases e : q = ns.length
    · subst e; exact putAt_end hb
    · refine putAt_at (by omega) hb (fun h => ?_); exact NBef_irrefl t (NBef_trans (h2 (by omega)) h)
   have e : insN ns t f q = putL ns t f := by unfold putL insN; rw [hat]
   rw [e]; exact ⟨Iff.rfl, fun _ => rfl⟩
theorem insN_size {ns : List NameV} {t : ByteArray} {f : Int} {q : Nat} (h : ∀ i, i < ns.length → (nTxt ns i).size ≤ 9223372036854775807) (ht : t.size ≤ 9223372036854775807) : ∀ i, i < ns.length + 1 → (nTxt (insN ns t f q) i).size ≤ 9223372036854775807 := by
 have hall : ∀ x ∈ insN ns t f q, x.1.size ≤ 9223372036854775807 := by
  have hns : ∀ x ∈ ns, x.1.size ≤ 9223372036854775807 := by
   intro x hx
   obtain ⟨j, hj, e⟩ := List.getElem_of_mem hx; have := h j hj; unfold nTxt at this; rw [List.getD_eq_getElem?_getD, List.getElem?_eq_getElem hj] at this; simp only [Option.getD_some] at this; rwa [e] at this
  intro x hx
  unfold insN at hx; rw [List.mem_append, List.mem_append] at hx; rcases hx with (hx | hx) | hx
  · exact hns x (List.mem_of_mem_take hx)
  · simp at hx; subst hx; exact ht
  · exact hns x (List.mem_of_mem_drop hx)
 intro i _
 unfold nTxt; rw [List.getD_eq_getElem?_getD]; rcases Nat.lt_or_ge i (insN ns t f q).length with h1 | h1
 · rw [List.getElem?_eq_getElem h1]; exact hall _ (List.getElem_mem h1)
 · rw [List.getElem?_eq_none h1]; simp [noName]
theorem makeNames0 (n : Nat) (hn : n ≤ 1048576) (W : World) : (Instr.makeSlice 29 (.int .i64 0) (.int .i64 ((n : Int) + 1))).run Tryz.prog W = .ok (.slice (some ⟨W.heap.size, 0, none⟩) 0 (n + 1)) (W.alloc (.cells (madeCells #[.string ByteArray.empty, .int .i64 0] ((n + 1) * 2)) 78)) := by
 obtain ⟨i0, hi, hz0, hz1, hz2⟩ := info_parts infoName; have := run_make (P := Tryz.prog) W 29 78 i0 _ Tryz.underlying29 hi hz0 .i64 .i64 0 ((n : Int) + 1) (by omega) (by omega) (by rw [hz2]; omega) (by omega); rw [this, hz1]; have e : ((n : Int) + 1).toNat = n + 1 := by omega
 rw [e]; rfl
set_option maxRecDepth 8000 in
set_option maxHeartbeats 8000000 in
theorem putName_impl {A : Option Addr} {n c B : Nat} {ns : List NameV} {t : ByteArray} {f : Int} {w : World} (hr : RdN w B A n ns) (hB : B ≤ w.heap.size) (hn : n ≤ 1000000) (hnc : n ≤ c) (hcm : c ≤ 9223372036854775807) (hnil : A = none → c = 0) (hsm : ∀ i, i < n → (nTxt ns i).size ≤ 9223372036854775807) (hts : t.size ≤ 9223372036854775807) (hok : NamesOk ns) :
 Calls Tryz.prog 122 #[.slice A n c, .agg #[.string t, .int .i64 f]] w (OwnN w (putN ns t f) (bof (NamesOk (putL ns t f)))) := by
 obtain rfl : ns.length = n := hr.len; have HBT := hid (bof_t.2 hok); have HOK := hid hok; have HSM := hid hsm; have HR := hid (hr.mono hB); have HNIL := hid hnil; have b1 : Below w.heap.size w (w.alloc (.cells #[.string t, .int .i64 f] 78)) := (Below.refl _ _).alloc (Nat.le_refl _) _; have k1 := Blk.new w 78 #[.string t, .int .i64 f]; have B1 := hid b1; clear hr hok hsm b1 hnil; go_enter Tryz.func122, Tryz.ntmps122
 go_upto_region 1 with (fail)
 generalize w.alloc (.cells #[.string t, .int .i64 f] 78) = w1 at *; go_wp2_with fail; refine (namesValid_impl (HR.out.below B1.out) B1.out.size (by omega) HSM.out).mono ?_; rw [HBT.out]; rintro e w2 ⟨rfl, b2⟩; have k2 := k1.below b2 k1.lt; have B2 := hid (B1.out.trans (b2.mono B1.out.size)); clear k1 B1 b2; go_upto_region 5 with (fail)
 go_loopw [6, 17] (fun v i wr => ∃ k : Nat, k ≤ ns.length ∧ v = .int .i64 ns.length ∧ i = .int .i64 k ∧ (∀ i, i < k → ¬ NBef t (nTxt ns i)) ∧ Blk wr w.heap.size 78 #[.string t, .int .i64 f] ∧ Below w.heap.size w wr) (fun _ i _ => ns.length - (intOf i).toNat)
 case atStart => exact ⟨0, Nat.zero_le _, rfl, rfl, fun i hi => absurd hi (Nat.not_lt_zero _), k2, B2.out⟩
 case round =>
  obtain ⟨k, hk, rfl, rfl, hbef, k3, b3⟩ := hrel; have HBE := hid hbef; have B3 := hid b3; have s3 := b3.size; clear hbef b3 k2 B2; have t0 := k3.cell 0; have t1 := k3.cell 1; simp at t0 t1; by_cases hlt : k < ns.length
  · have kI : (k : Int) < ns.length := by omega
    obtain ⟨b, off, rfl, hbB, hc⟩ := (HR.out.below B3.out).at_ (by omega); obtain ⟨d0, d1⟩ := hc k hlt; have hsz := HSM.out k hlt; have HT := hid (show nTxt ns k = (ns.getD k noName).1 from rfl); obtain ⟨P, hP⟩ : ∃ P, ns.getD k noName = P := ⟨_, rfl⟩; have hP1 : nTxt ns k = P.1 := by rw [← hP]
    rw [hP] at d0 d1 HT; rw [hP1] at hsz; obtain ⟨s, f0⟩ := P; simp only at d0 d1 hsz HT; clear hc hP hP1; go_upto_region 7 with (fail)
    have bx : Below wr.heap.size wr (wr.alloc (.cells #[.string s, .int .i64 f0] 78)) := (Below.refl _ _).alloc (Nat.le_refl _) _; have KX := Blk.new wr 78 #[.string s, .int .i64 f0]; have B4 := hid (B3.out.trans (bx.mono s3)); have k4 := k3.below bx k3.lt; clear bx d0 d1 B3 k3 t0 t1; generalize wr.alloc (.cells #[.string s, .int .i64 f0] 78) = wx at *; have f0' := KX.cell 0; have t0 := k4.cell 0; have t1 := k4.cell 1; simp at f0' t0 t1; by_cases hb : NBef t s
    · have hbt := bof_t.2 hb; have HB := hid hb; clear hb; have HQ := hid (putN_same (f := f) hk HBE.out (fun _ => by rw [HT.out]; exact HB.out) HOK.out); go_upto_region 8 with (go_at_call 100; refine (nameBefore_c t s _ hts hsz).mono ?_; rintro e w' ⟨rfl, rfl⟩; rw [hbt])
      have hrT := hid (rdN_take (HR.out) (k := k) (by omega)); have hrD := hid (show RdN w w.heap.size (some ⟨b, off + k * 2, none⟩) (ns.length - k) (ns.drop k) from by
       have h := rdN_drop (HR.out) (k := k) (c := c) (by omega) hnc; rw [if_neg (by omega), Option.map_some, add_none] at h; exact h)
      have hdn := hid (show (some ⟨b, off + k * 2, none⟩ : Option Addr) = none → c - k = 0 from fun h => by cases h); have hmk := makeNames0 ns.length (by omega); go_upto_region 11 with (fail)
      have bb : Below wx.heap.size wx (wx.alloc (.cells (madeCells #[.string ByteArray.empty, .int .i64 0] ((ns.length + 1) * 2)) 78)) := (Below.refl _ _).alloc (Nat.le_refl _) _; have sx := B4.out.size; have O5 := hid (show OwN (wx.alloc (.cells (madeCells #[.string ByteArray.empty, .int .i64 0] ((ns.length + 1) * 2)) 78)) wx.heap.size (some ⟨wx.heap.size, 0, none⟩) 0 (ns.length + 1) [] from World.ownsRow_made wx _ _ (Nat.le_refl _) (by unfold maxLen; omega) (by rw [size_madeCells])); have k5 := k4.below bb k4.lt; have B5 := hid (B4.out.trans (bb.mono sx)); have kl := k4.lt; clear k4 B4 bb hmk t0 t1; generalize wx.alloc (.cells (madeCells #[.string ByteArray.empty, .int .i64 0] ((ns.length + 1) * 2)) 78) = w5 at *; obtain ⟨g0, hg0⟩ : ∃ g, wx.heap.size = g := ⟨_, rfl⟩; rw [hg0] at O5 kl sx ⊢; clear hg0; have s5 := (own_lt O5.out rfl).2; go_upto_region 12 with (at_builtin; refine wpList_appNs (ns := []) (qs := ns.take k) rfl rfl rfl O5.out rfl HNIL.out (hrT.out.below B5.out) (by omega) (Nat.le_of_lt s5) ?_; rintro A6 c6 w6 o6 gr6)
      rw [Nat.zero_add, List.nil_append] at o6; have O6 := hid o6; have k6 := k5.grown gr6 (own_ne_low (O5.out.lower (by omega))); have B6 := hid (below_app B5.out (O5.out.lower (by omega)) B5.out.size gr6); have s6 : g0 ≤ w6.heap.size := Nat.le_trans (Nat.le_of_lt s5) gr6.size; clear k5 B5 O5 o6 gr6; have t0 := k6.cell 0; have t1 := k6.cell 1; simp at t0 t1; go_upto_region 13 with (at_builtin; refine wpList_appN0 rfl rfl rfl O6.out rfl (by omega) (by omega) ?_; rintro g7 c7 w7 o7 gr7)
      have O7 := hid o7; have k7 := k6.grown gr7 (own_ne_low (O6.out.lower (by omega))); have B7 := hid (below_app B6.out (O6.out.lower (by omega)) B6.out.size gr7); have s7 : g0 ≤ w7.heap.size := Nat.le_trans s6 gr7.size; clear k6 B6 O6 o7 gr7 t0 t1; go_upto_region 14 with (at_builtin; refine wpList_appNs (qs := ns.drop k) rfl rfl rfl O7.out rfl hdn.out (hrD.out.below B7.out) (by omega) (by omega) ?_; rintro A8 c8 w8 o8 gr8)
      have e8 : k + 1 + (ns.length - k) = ns.length + 1 := by omega
      rw [e8] at o8 ⊢; have O8 := hid (show OwN w8 g0 A8 (ns.length + 1) c8 (insN ns t f k) from o8); have HSP := hid (insN_size (f := f) (q := k) HSM.out hts); have B8 := hid (below_app B7.out (O7.out.lower (by omega)) B7.out.size gr8); have s8 : g0 ≤ w8.heap.size := Nat.le_trans s7 gr8.size; clear k7 B7 O7 o8 gr8 e8 hrT hrD hdn; generalize insN ns t f k = PL at *; have HPL := hid O8.out.len; go_wp2_with fail; refine (namesValid_impl O8.out.rd (Nat.le_refl _) (by omega) HSP.out).mono ?_; rintro e w9 ⟨rfl, b9⟩; have O9 := hid ((O8.out.below b9).lower (base' := w.heap.size) (by omega)); have B9 := hid (B8.out.trans (b9.mono B8.out.size)); clear O8 B8 b9; by_cases hno : NamesOk PL
      · have hb := bof_t.2 hno; rw [hb]; have HE := hid (show putN ns t f = PL from by rw [putN_yes (HQ.out.1.1 hno)]; exact (HQ.out.2 hno).symm); have HBB := hid (show bof (NamesOk (putL ns t f)) = true from bof_t.2 (HQ.out.1.1 hno)); clear hno hb HQ; go_wp2; go_returns; rw [HE.out, HBB.out]; exact ownN_of HPL.out O9.out B9.out
      · have hb := bof_f.2 hno; rw [hb]; have HE := hid (show putN ns t f = ns from putN_no (fun h => hno (HQ.out.1.2 h))); have HBB := hid (show bof (NamesOk (putL ns t f)) = false from bof_f.2 (fun h => hno (HQ.out.1.2 h))); clear hno hb HQ O9; go_wp2_with fail; refine (cloneNames_c (HR.out.below B9.out) B9.out.size (by omega) HNIL.out).mono ?_; rintro e w10 ⟨A10, c10, rfl, o10, b10⟩; have O10 := hid (o10.lower (base' := w.heap.size) B9.out.size); have B10 := hid (B9.out.trans (b10.mono B9.out.size)); clear o10 b10 B9; go_wp2; go_returns; rw [HE.out, HBB.out]; exact ownN_of rfl O10.out B10.out
    · have hbt := bof_f.2 hb; have HB := hid hb; clear hb; have HN2 := hid (show ∀ i, i < k + 1 → ¬ NBef t (nTxt ns i) from fun i hi => by
       by_cases e : i = k
       · subst e; rw [HT.out]; exact HB.out
       · exact HBE.out i (by omega))
      go_wp2_with (go_at_call 100; refine (nameBefore_c t s _ hts hsz).mono ?_; rintro e w' ⟨rfl, rfl⟩; rw [hbt])
      go_roundw
      case rel => exact ⟨k + 1, by omega, rfl, by go_num, HN2.out, k4, B4.out⟩
      case measure => simp [intOf]; omega
  · obtain rfl : k = ns.length := by omega
    have HQ := hid (putN_same (f := f) hk HBE.out (fun h => absurd h (by omega)) HOK.out); have B4 := hid B3.out; have k4 := k3; clear B3 k3; generalize wr = wx at *; go_upto_region 10 with (fail)
    have hrT := hid (rdN_take (HR.out) (k := ns.length) (by omega)); have hrD := hid (show RdN w w.heap.size (if c = ns.length then A else (A : Option Addr).map (·.add (ns.length * 2))) 0 (ns.drop ns.length) from by
     have h := rdN_drop (HR.out) (k := ns.length) (c := c) (by omega) hnc; rw [Nat.sub_self] at h; exact h)
    have hdn := hid (fun h => drop_nil (k := ns.length) HNIL.out h); have hmk := makeNames0 ns.length (by omega); go_upto_region 11 with (fail)
    have bb : Below wx.heap.size wx (wx.alloc (.cells (madeCells #[.string ByteArray.empty, .int .i64 0] ((ns.length + 1) * 2)) 78)) := (Below.refl _ _).alloc (Nat.le_refl _) _; have sx := B4.out.size; have O5 := hid (show OwN (wx.alloc (.cells (madeCells #[.string ByteArray.empty, .int .i64 0] ((ns.length + 1) * 2)) 78)) wx.heap.size (some ⟨wx.heap.size, 0, none⟩) 0 (ns.length + 1) [] from World.ownsRow_made wx _ _ (Nat.le_refl _) (by unfold maxLen; omega) (by rw [size_madeCells])); have k5 := k4.below bb k4.lt; have B5 := hid (B4.out.trans (bb.mono sx)); have kl := k4.lt; clear k4 B4 bb hmk t0 t1; generalize wx.alloc (.cells (madeCells #[.string ByteArray.empty, .int .i64 0] ((ns.length + 1) * 2)) 78) = w5 at *; obtain ⟨g0, hg0⟩ : ∃ g, wx.heap.size = g := ⟨_, rfl⟩; rw [hg0] at O5 kl sx ⊢; clear hg0; have s5 := (own_lt O5.out rfl).2; go_upto_region 12 with (at_builtin; refine wpList_appNs (ns := []) (qs := ns.take ns.length) rfl rfl rfl O5.out rfl HNIL.out (hrT.out.below B5.out) (by omega) (Nat.le_of_lt s5) ?_; rintro A6 c6 w6 o6 gr6)
    rw [Nat.zero_add, List.nil_append] at o6; have O6 := hid o6; have k6 := k5.grown gr6 (own_ne_low (O5.out.lower (by omega))); have B6 := hid (below_app B5.out (O5.out.lower (by omega)) B5.out.size gr6); have s6 : g0 ≤ w6.heap.size := Nat.le_trans (Nat.le_of_lt s5) gr6.size; clear k5 B5 O5 o6 gr6; have t0 := k6.cell 0; have t1 := k6.cell 1; simp at t0 t1; go_upto_region 13 with (at_builtin; refine wpList_appN0 rfl rfl rfl O6.out rfl (by omega) (by omega) ?_; rintro g7 c7 w7 o7 gr7)
    have O7 := hid o7; have k7 := k6.grown gr7 (own_ne_low (O6.out.lower (by omega))); have B7 := hid (below_app B6.out (O6.out.lower (by omega)) B6.out.size gr7); have s7 : g0 ≤ w7.heap.size := Nat.le_trans s6 gr7.size; clear k6 B6 O6 o7 gr7 t0 t1; go_upto_region 14 with (at_builtin; refine wpList_appNs (qs := ns.drop ns.length) rfl rfl rfl O7.out rfl hdn.out (hrD.out.below B7.out) (by omega) (by omega) ?_; rintro A8 c8 w8 o8 gr8)
    have e8 : ns.length + 1 + 0 = ns.length + 1 := rfl; rw [e8] at o8 ⊢; have O8 := hid (show OwN w8 g0 A8 (ns.length + 1) c8 (insN ns t f ns.length) from o8); have HSP := hid (insN_size (f := f) (q := ns.length) HSM.out hts); have B8 := hid (below_app B7.out (O7.out.lower (by omega)) B7.out.size gr8); have s8 : g0 ≤ w8.heap.size := Nat.le_trans s7 gr8.size; clear k7 B7 O7 o8 gr8 e8 hrT hrD hdn; generalize insN ns t f ns.length = PL at *; have HPL := hid O8.out.len; generalize (if c = ns.length then A else (A : Option Addr).map (·.add (ns.length * 2))) = AX at *; go_wp2_with fail; refine (namesValid_impl O8.out.rd (Nat.le_refl _) (by omega) HSP.out).mono ?_; rintro e w9 ⟨rfl, b9⟩; have O9 := hid ((O8.out.below b9).lower (base' := w.heap.size) (by omega)); have B9 := hid (B8.out.trans (b9.mono B8.out.size)); clear O8 B8 b9; by_cases hno : NamesOk PL
    · have hb := bof_t.2 hno; rw [hb]; have HE := hid (show putN ns t f = PL from by rw [putN_yes (HQ.out.1.1 hno)]; exact (HQ.out.2 hno).symm); have HBB := hid (show bof (NamesOk (putL ns t f)) = true from bof_t.2 (HQ.out.1.1 hno)); clear hno hb HQ; go_wp2; go_returns; rw [HE.out, HBB.out]; exact ownN_of HPL.out O9.out B9.out
    · have hb := bof_f.2 hno; rw [hb]; have HE := hid (show putN ns t f = ns from putN_no (fun h => hno (HQ.out.1.2 h))); have HBB := hid (show bof (NamesOk (putL ns t f)) = false from bof_f.2 (fun h => hno (HQ.out.1.2 h))); clear hno hb HQ O9; go_wp2_with fail; refine (cloneNames_c (HR.out.below B9.out) B9.out.size (by omega) HNIL.out).mono ?_; rintro e w10 ⟨A10, c10, rfl, o10, b10⟩; have O10 := hid (o10.lower (base' := w.heap.size) B9.out.size); have B10 := hid (B9.out.trans (b10.mono B9.out.size)); clear o10 b10 B9; go_wp2; go_returns; rw [HE.out, HBB.out]; exact ownN_of rfl O10.out B10.out
set_option maxRecDepth 8000 in
set_option maxHeartbeats 4000000 in
theorem makeName_impl {h : DH} {d : DiskV} {base g : Nat} {t : ByteArray} {w : World} (hi : InBox w base g h d) (ht : t.size ≤ 9223372036854775807) :
 Calls Tryz.prog 66 #[.pointer (some ⟨g, 0, none⟩), .string t] w (CmdP w base g (makeC d t)) := by
 have HI := hid hi; have HNM := hid hi.ok.2.2.2.2.1; have HDV := hid hi.ok.1.1; have HTB := hid hi.ok.2.1; have HSM := hid ((small_ok hi.ok).h hi.own.rd); have HN9 := hid (names_nine hi.ok.2.2.2.2.1); have HTX := hid (names_txt hi.ok.2.2.2.2.1); clear hi; obtain ⟨bA, bn, bc, tA, tn, tc, nA, nn, nc⟩ := h; obtain ⟨bs, ts, hot, warm, cold, stamp, ns⟩ := d; have HLN := hid (show ns.length = nn from HI.out.own.n.len); have HLB := hid (show bs.length = bn from HI.out.own.b.len); have HLT := hid (show ts.length = tn from HI.out.own.t.len); have HTZ := hid (show ∀ i, i < nn → (nTxt ns i).size ≤ 9223372036854775807 from fun i hi => by
  have hl : ns.length = nn := HLN.out; have h1 : (nTxt ns i).size ≤ 8 := HTX.out i (by show i < ns.length; omega); omega)
 have HGL := hid HI.out.lt; have HNA := hid (show ∀ f : Nat, (∀ i : Nat, i < f → Named ns i) → f ≤ 9 from fun f hf => by
  rcases Nat.lt_or_ge 9 f with h | h
  · exfalso
    have h9 : ns.length ≤ 9 := HN9.out; exact pigeon ns.length (nFil ns) (fun i hi => hf i (by omega))
  · exact h)
 have b1 : Below w.heap.size w (w.alloc (.cells #[.int .i64 0] 3)) := (Below.refl _ _).alloc (Nat.le_refl _) _; have k1 := Blk.new w 3 #[.int .i64 0]; have HB1 := hid b1; clear b1; go_enter Tryz.func66, Tryz.ntmps66
 go_upto_region 2 with (fail)
 generalize w.alloc (.cells #[.int .i64 0] 3) = w1 at *; generalize hgf : w.heap.size = gf at *; have HGF := hid hgf; clear hgf; go_loopw [] (fun wr => ∃ f : Nat, f ≤ 9 ∧ (∀ i : Nat, i < f → Named ns i) ∧ Blk wr gf 3 #[.int .i64 f] ∧ Below gf w wr) (fun wr => 10 - (intOf ((wr.cell? ⟨gf, 0, none⟩).getD undef)).toNat)
 case atStart => exact ⟨0, Nat.zero_le _, fun i h => absurd h (Nat.not_lt_zero _), k1, HB1.out⟩
 case round =>
  obtain ⟨f, hf9, hnm, k2, b2⟩ := hrel; have HNF := hid hnm; have HB2 := hid (show Below w.heap.size w wr from by rw [HGF.out]; exact b2); have HI2 := hid (HI.out.below HB2.out); have c2 := k2.cell 0; simp at c2; have HC2 := hid c2; have z2 := k2.frozen 0; clear hnm b2 k1 HB1; obtain ⟨t0, t1, t2, t3, t4, t5, t6⟩ := HI2.out.box.all; clear t0 t1 t2 t3 t4 t5; have glt := HI2.out.box.lt; by_cases hn : Named ns (f : Int)
  · have hb := bof_t.2 hn; have HN2 := hid (show ∀ i : Nat, i < f + 1 → Named ns i from fun i hi => by
     by_cases e : i = f
     · subst e; exact hn
     · exact HNF.out i (by omega))
    have hf10 := HNA.out (f + 1) HN2.out; clear hn; go_upto_region 3 with (go_at_call 120; refine (contains_c (show RdN _ _ nA nn ns from HI2.out.own.n.rd) (Nat.le_refl _) (by have := HLN.out; have : ns.length ≤ 9 := HN9.out; omega) c2).mono ?_; rw [hb]; rintro e w3 ⟨rfl, b3⟩)
    have k3 := k2.below b3 k2.lt; have HB3 := hid (HB2.out.trans (b3.mono HB2.out.size)); clear c2 z2 t6 k2 HB2 b3 hb; have c3 := k3.cell 0; simp at c3; have z3 := k3.frozen 0; have K4 := hid (k3.set_ 0 (.int .i64 ((f : Int) + 1))); have HB4 := hid (HB3.out.setCell (p := ⟨gf, 0, none⟩) (by rw [HGF.out]; exact Nat.le_refl _) (.int .i64 ((f : Int) + 1))); have wf : IntKind.i64.wrap ((f : Int) + 1) = (f : Int) + 1 := IntWalk.i64_in _ (by omega); go_wp2; go_roundw
    case rel => exact ⟨f + 1, hf10, HN2.out, by have := K4.out; simp at this; exact this, by have := HB4.out; rw [HGF.out] at this; exact this⟩
    case measure =>
     have e1 := K4.out.cell 0; simp at e1; have e2 := HC2.out; simp [e1, e2, intOf]
     omega
  · have hb := bof_f.2 hn; have HLE := hid (leastN_eq ⟨HNF.out, hn⟩); clear hn; go_upto_region 5 with (go_at_call 120; refine (contains_c (show RdN _ _ nA nn ns from HI2.out.own.n.rd) (Nat.le_refl _) (by have := HLN.out; have : ns.length ≤ 9 := HN9.out; omega) c2).mono ?_; rw [hb]; rintro e w3 ⟨rfl, b3⟩)
    have k3 := k2.below b3 k2.lt; have HB3 := hid (HB2.out.trans (b3.mono HB2.out.size)); have HI3 := hid (HI2.out.below b3); have gl3 : g < w3.heap.size := HI3.out.box.lt; clear c2 z2 t6 k2 HB2 HI2 b3 hb; have c3 := k3.cell 0; simp at c3; refine wp_region_held_drew (S := fun w' => w'.cell? ⟨gf, 0, none⟩ = some (.int .i64 (f : Int))) (by kernel_rfl) ?_ (fun h_ => ?_)
    · exact c3
    refine tk 0 ?_; refine tk 1 ?_; refine tk 2 ?_; refine tk 3 ?_; refine tk 5 ?_; refine tk 6 ?_; refine tk 7 ?_; have HI4 := hid (show InBox w3.drew base g _ _ from ⟨HI3.out.box, HI3.out.own.below ((Below.refl _ _).drew), HI3.out.ok, HI3.out.lt⟩); have HB4 := hid HB3.out.drew; have k4 : Blk w3.drew gf 3 _ := k3; replace c3 : w3.drew.cell? ⟨gf, 0, none⟩ = some (.int .i64 (f : Int)) := c3; clear k3 HI3 HB3; generalize w3.drew = w4 at *; obtain ⟨t0, t1, t2, t3, t4, t5, t6⟩ := HI4.out.box.all; clear t0 t1 t2 t3 t4 t5; refine rd1 4 (fun K hK => ?_); go_simp; refine hK.out _ _ (c3) fun h_ => ?_
    clear hK K; refine pt ?_; clear t6 c3; have hcp : nn ≤ nc ∧ nc ≤ 9223372036854775807 := HI4.out.own.n.cap; refine rd1 8 (fun K hK => ?_); go_simp; refine (putName_impl (c := nc) (show RdN _ _ nA nn ns from HI4.out.own.n.rd) (Nat.le_refl _) (by have hl : ns.length = nn := HLN.out; have : ns.length ≤ 9 := HN9.out; omega) hcp.1 hcp.2 HI4.out.own.n.capN HTZ.out ht HNM.out).mono ?_; rintro e w5 ⟨A5, n5, rfl, o5, b5⟩; have HI5 := hid (HI4.out.below b5); have HB5 := hid (HB4.out.trans (b5.mono HB4.out.size)); have k5 := k4.below b5 k4.lt; have HO5 := hid (OwN.lower o5 (base' := base) HI4.out.size); clear HI4 HB4 k4 o5 b5 hcp; have c5 := k5.cell 0; simp at c5; go_wp2_with fail; refine hK.out _ _ (c5) fun h_ => ?_
    clear hK K; refine pt ?_; refine tk 9 ?_; refine tk 10 ?_; refine tk 11 ?_; refine tk 12 ?_; refine tk 13 ?_; obtain ⟨t0, t1, t2, t3, t4, t5, t6⟩ := HI5.out.box.all; clear t0 t1 t2 t3 t4 t5; have z6 := HI5.out.box.frozen 6; have KB := hid (HI5.out.box.set_ 6 (.slice A5 (putN ns t f).length n5)); have HG6 := hid (show w.grownBy (w5.setCell ⟨g, 6, none⟩ (.slice A5 (putN ns t f).length n5)) (some g) from gb_setCell (gb_of_below HB5.out (some g)) (.inl rfl) (.slice A5 (putN ns t f).length n5)); have HO6 := hid (HI5.out.own.typed (ChgT.blk HI5.out.box 6 (.slice A5 (putN ns t f).length n5)) (by decide) (by decide) (by decide) (by decide) (by decide)); have HN6 := hid (OwN.typed HO5.out (ChgT.blk HI5.out.box 6 (.slice A5 (putN ns t f).length n5)) (by decide)); have c6 := (World.cell?_setCell_far w5 ⟨g, 6, none⟩ ⟨gf, 0, none⟩ (.slice A5 (putN ns t f).length n5) (by have := HI5.out.lt; have := k5.lt; show g ≠ gf; intro e; subst e; have e1 := HI5.out.box.cell 1; have e2 := k5.cell 1; rw [e1] at e2; simp at e2)).trans c5; refine rd1 14 (fun K hK => ?_); go_simp; refine hK.out _ _ (c6) fun h_ => ?_
    clear hK K; refine pt ?_; refine tk 15 ?_; refine dn ?_; clear h_ t6 z6 c5 c6; generalize w5.setCell ⟨g, 6, none⟩ (.slice A5 (putN ns t f).length n5) = w6 at *; by_cases hok : NamesOk (putL ns t f)
    · have hb := hid (bof_t.2 hok); have HMK := hid (makeC_yes (bs := bs) (ts := ts) (a := hot) (b := warm) (c := cold) (st := stamp) HLE.out hok); have HPN := hid (putN_yes hok); have HSP := hid (small_parts (a := hot) (b := warm) (c := cold) (st := stamp) HDV.out HTB.out hok); clear hok; go_wp2; go_returns; rw [hb.out]; refine cmd_yes (h := ⟨bA, bn, bc, tA, tn, tc, A5, (putN ns t f).length, n5⟩) HMK.out HG6.out ?_ ⟨HO6.out.b, HO6.out.t, ?_⟩ HSP.out
      · have := KB.out; simp at this; exact this
      · have := HN6.out; rw [HPN.out] at this ⊢; exact this
    · have hb := hid (bof_f.2 hok); have HMK := hid (makeC_no (bs := bs) (ts := ts) (a := hot) (b := warm) (c := cold) (st := stamp) HLE.out hok); clear hok; go_wp2; go_returns; rw [hb.out]; exact cmd_no HMK.out HG6.out
end Go.Proofs.YtefdjahaimnndaaGreatDoor
