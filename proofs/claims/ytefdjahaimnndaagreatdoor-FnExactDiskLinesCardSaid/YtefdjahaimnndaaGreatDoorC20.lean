/- Parts. -/
import Derived.Test.YtefdjahaimnndaaGreatDoorC32
import Derived.Test.YtefdjahaimnndaaGreatDoorC19
namespace Go.Proofs.YtefdjahaimnndaaGreatDoor
open Go.ChangeShapes Go.WideShapes Go.ChangeAt Go.RowKit Go.Deep
open Go.Lib (hid)
set_option linter.unusedVariables false
set_option linter.unusedSimpArgs false
set_option maxRecDepth 8000 in
set_option maxHeartbeats 4000000 in
theorem dropName_cmd {h : DH} {d : DiskV} {base g : Nat} {t : ByteArray} {w : World} (hi : InBox w base g h d) (ht : t.size ≤ 9223372036854775807) :
 Calls Tryz.prog 69 #[.pointer (some ⟨g, 0, none⟩), .string t] w (CmdP w base g (dropC d t)) := by
 have HI := hid hi; have HNM := hid hi.ok.2.2.2.2.1; have HDV := hid hi.ok.1.1; have HTB := hid hi.ok.2.1; have HSM := hid ((small_ok hi.ok).h hi.own.rd); have HN9 := hid (names_nine hi.ok.2.2.2.2.1); have HTX := hid (names_txt hi.ok.2.2.2.2.1); clear hi; obtain ⟨bA, bn, bc, tA, tn, tc, nA, nn, nc⟩ := h; obtain ⟨bs, ts, hot, warm, cold, stamp, ns⟩ := d; have HLN := hid (show ns.length = nn from HI.out.own.n.len); have HLB := hid (show bs.length = bn from HI.out.own.b.len); have HLT := hid (show ts.length = tn from HI.out.own.t.len); have HTZ := hid (show ∀ i, i < nn → (nTxt ns i).size ≤ 9223372036854775807 from fun i hi => by
  have hl : ns.length = nn := HLN.out; have h1 : (nTxt ns i).size ≤ 8 := HTX.out i (by show i < ns.length; omega); omega)
 have HGL := hid HI.out.lt; have HRG := hid (findN_range HNM.out t); go_enter Tryz.func69, Tryz.ntmps69
 obtain ⟨t0, t1, t2, t3, t4, t5, t6⟩ := HI.out.box.all; clear t0 t1 t2 t3 t4 t5; go_wp2_with fail; refine (findName_impl (t := t) (show RdN _ _ nA nn ns from HI.out.own.n.rd) (Nat.le_refl _) (by have hl : ns.length = nn := HLN.out; have : ns.length ≤ 9 := HN9.out; omega) HTZ.out HNM.out).mono ?_; rintro e w2 ⟨rfl, b2⟩; have HI2 := hid (HI.out.below b2); have HB2 := hid b2; clear b2 t6; by_cases hf : findN ns t < 0
 · have hd := decide_eq_true hf; have HC := hid (dropC_neg (d := ⟨bs, ts, hot, warm, cold, stamp, ns⟩) (t := t) hf); clear hf; generalize findN ns t = F at *; go_wp2; go_returns; exact cmd_no HC.out (gb_of_below HB2.out (some g))
 · obtain ⟨f, hF⟩ : ∃ f : Nat, findN ns t = f := ⟨(findN ns t).toNat, by omega⟩; have hf8 : f < 8 := by have h := HRG.out; rw [hF] at h; omega
   have HC := hid (dropC_yes (bs := bs) (ts := ts) (a := hot) (b := warm) (c := cold) (st := stamp) hF); have HSP := hid (small_shape (a := hot) (b := warm) (c := cold) (st := stamp) (ns := dropN ns t) HDV.out (cutT_shape (f := f) HTB.out) (by have := (dropN_txt (t := t) HNM.out).1; omega) (fun i hi => by have := (dropN_txt (t := t) HNM.out).2 i hi; omega)); rw [hF]; clear hf hF; go_upto_region 4 with (fail)
   obtain ⟨t0, t1, t2, t3, t4, t5, t6⟩ := HI2.out.box.all; clear t0 t1 t2 t3 t4 t5; go_wp2_with fail; refine (dropName_impl (t := t) (show RdN _ _ nA nn ns from HI2.out.own.n.rd) (Nat.le_refl _) (by have hl : ns.length = nn := HLN.out; have : ns.length ≤ 9 := HN9.out; omega) HTZ.out HNM.out).mono ?_; rintro e w3 ⟨A3, n3, rfl, o3, b3⟩; have HI3 := hid (HI2.out.below b3); have HB3 := hid (HB2.out.trans (b3.mono HB2.out.size)); have HO3 := hid (OwN.lower o3 (base' := base) HI2.out.size); clear HI2 HB2 o3 b3 t6; obtain ⟨t0, t1, t2, t3, t4, t5, t6⟩ := HI3.out.box.all; clear t0 t1 t2 t3 t4 t5; have z6 := HI3.out.box.frozen 6; have KB := hid (HI3.out.box.set_ 6 (.slice A3 (dropN ns t).length n3)); have HG := hid (show w.grownBy (w3.setCell ⟨g, 6, none⟩ (.slice A3 (dropN ns t).length n3)) (some g) from gb_setCell (gb_of_below HB3.out (some g)) (.inl rfl) (.slice A3 (dropN ns t).length n3)); have HO4 := hid (HI3.out.own.typed (ChgT.blk HI3.out.box 6 (.slice A3 (dropN ns t).length n3)) (by decide) (by decide) (by decide) (by decide) (by decide)); have HN4 := hid (OwN.typed HO3.out (ChgT.blk HI3.out.box 6 (.slice A3 (dropN ns t).length n3)) (by decide)); have HSZ := hid (show base ≤ w3.heap.size from HI3.out.size); clear HB3 HO3; go_upto_region 5 with (fail)
   have HZ4 := hid (show base ≤ (w3.setCell ⟨g, 6, none⟩ (.slice A3 (dropN ns t).length n3)).heap.size from by simpa [World.setCell] using HSZ.out); clear t6 z6 HI3 HSZ; generalize w3.setCell ⟨g, 6, none⟩ (.slice A3 (dropN ns t).length n3) = w4 at *; have kb := KB.out; simp at kb; have t1 := kb.cell 1; simp at t1; go_wp2_with fail; refine (cutFile_impl (f := f) (show RdT _ _ tA tn ts from HO4.out.t.rd) (Nat.le_refl _) HTB.out hf8).mono ?_; rintro e w5 ⟨A5, n5, rfl, o5, b5⟩; rw [show (cutT ts f).length = 8 from (cutT_shape HTB.out).1] at o5 ⊢; have k5 := kb.below b5 kb.lt; have HO5 := hid (HO4.out.below b5); have HN5 := hid (HN4.out.below b5); have HT5 := hid (OwT.lower o5 (base' := base) HZ4.out); have HG5 := hid (gb_trans HG.out (gb_of_below b5 (some g))); clear kb KB HO4 HN4 HZ4 HG o5 b5 t1; have t1 := k5.cell 1; simp at t1; have z1 := k5.frozen 1; have KC := hid (k5.set_ 1 (.slice A5 8 n5)); have HG6 := hid (show w.grownBy (w5.setCell ⟨g, 1, none⟩ (.slice A5 8 n5)) (some g) from gb_setCell HG5.out (.inl rfl) (.slice A5 8 n5)); have HO6 := hid (HO5.out.typed (ChgT.blk k5 1 (.slice A5 8 n5)) (by decide) (by decide) (by decide) (by decide) (by decide)); have HN6 := hid (OwN.typed HN5.out (ChgT.blk k5 1 (.slice A5 8 n5)) (by decide)); have HT6 := hid (OwT.typed HT5.out (ChgT.blk k5 1 (.slice A5 8 n5)) (by decide) (by decide)); clear HG5 HO5 HN5 HT5; go_upto_region 6 with (fail)
   clear t1 z1 k5; generalize w5.setCell ⟨g, 1, none⟩ (.slice A5 8 n5) = w6 at *; go_wp2; go_returns; refine cmd_yes (h := ⟨bA, bn, bc, A5, 8, n5, A3, (dropN ns t).length, n3⟩) HC.out HG6.out ?_ ⟨HO6.out.b, ?_, HN6.out⟩ HSP.out
   · have := KC.out; simp at this; exact this
   · have := HT6.out; exact this
set_option maxRecDepth 8000 in
set_option maxHeartbeats 4000000 in
theorem cleanBlock_none {A tA : Option Addr} {m c tn tc B : Nat} {bs : List BlockV} {ts : List (List Int)} {h : HeadV} {st : Int} {w : World} (hr : RdB w B A m bs) (hB : B ≤ w.heap.size) (hok : HeadsOk bs h.x h.y h.z) (ht : RdT w B tA tn ts) (hokt : TableOk ts) :
 Calls Tryz.prog 132 #[.slice A m c, .agg #[.slice tA tn tc], hdv h, .int .i64 (-1), .int .i64 st] w (OwnC w ⟨[], [], ⟨0, 0, 0⟩, 0, false⟩) := by
 obtain rfl : bs.length = m := hr.len; obtain rfl : tn = 8 := by rw [← ht.len, hokt.1]
 have hm12 : bs.length ≤ 12 := hok.1.1.2; obtain ⟨x, y, z⟩ := h; simp only at hok; have HBT := hid (bof_t.2 hok); have HBK := hid (bof_t.2 hokt); have HR := hid (hr.mono hB); have HT := hid (ht.mono hB); have b4 : Below w.heap.size w ((((w.alloc (.cells #[.slice tA 8 tc] 26)).alloc (.cells #[.int .i64 x, .int .i64 y, .int .i64 z] 28)).alloc (.cells #[.slice none 0 0] 26)).alloc (.cells #[.int .i64 0, .int .i64 0, .int .i64 0] 28)) := ((((Below.refl _ _).alloc (Nat.le_refl _) _).alloc (by simp) _).alloc (by simp; omega) _).alloc (by simp; omega) _; have T4 := (((Blk.new w 26 #[.slice tA 8 tc]).alloc (.cells #[.int .i64 x, .int .i64 y, .int .i64 z] 28)).alloc (.cells #[.slice none 0 0] 26)).alloc (.cells #[.int .i64 0, .int .i64 0, .int .i64 0] 28); have H4 := ((Blk.new (w.alloc (.cells #[.slice tA 8 tc] 26)) 28 #[.int .i64 x, .int .i64 y, .int .i64 z]).alloc (.cells #[.slice none 0 0] 26)).alloc (.cells #[.int .i64 0, .int .i64 0, .int .i64 0] 28); have P4 := (Blk.new ((w.alloc (.cells #[.slice tA 8 tc] 26)).alloc (.cells #[.int .i64 x, .int .i64 y, .int .i64 z] 28)) 26 #[.slice none 0 0]).alloc (.cells #[.int .i64 0, .int .i64 0, .int .i64 0] 28); have Q4 := Blk.new (((w.alloc (.cells #[.slice tA 8 tc] 26)).alloc (.cells #[.int .i64 x, .int .i64 y, .int .i64 z] 28)).alloc (.cells #[.slice none 0 0] 26)) 28 #[.int .i64 0, .int .i64 0, .int .i64 0]; rw [show (w.alloc (.cells #[.slice tA 8 tc] 26)).heap.size = w.heap.size + 1 by simp] at H4; rw [show ((w.alloc (.cells #[.slice tA 8 tc] 26)).alloc (.cells #[.int .i64 x, .int .i64 y, .int .i64 z] 28)).heap.size = w.heap.size + 1 + 1 by simp] at P4
 rw [show (((w.alloc (.cells #[.slice tA 8 tc] 26)).alloc (.cells #[.int .i64 x, .int .i64 y, .int .i64 z] 28)).alloc (.cells #[.slice none 0 0] 26)).heap.size = w.heap.size + 1 + 1 + 1 by simp] at Q4; have B4 := hid b4; clear hr ht hok hokt b4; go_enter Tryz.func132, Tryz.ntmps132
 go_upto_region 1 with (fail)
 generalize (((w.alloc (.cells #[.slice tA 8 tc] 26)).alloc (.cells #[.int .i64 x, .int .i64 y, .int .i64 z] 28)).alloc (.cells #[.slice none 0 0] 26)).alloc (.cells #[.int .i64 0, .int .i64 0, .int .i64 0] 28) = w4 at *; have u0 := H4.cell 0; have u1 := H4.cell 1; have u2 := H4.cell 2; simp at u0 u1 u2; go_wp2_with fail; refine (headsValid_impl (HR.out.below B4.out) B4.out.size (by omega)).mono ?_; rw [HBT.out]; rintro e w5 ⟨rfl, b5⟩; have T5 := T4.below b5 T4.lt; have H5 := H4.below b5 H4.lt; have P5 := P4.below b5 P4.lt; have Q5 := Q4.below b5 Q4.lt; have B5 := hid (B4.out.trans (b5.mono B4.out.size)); clear T4 H4 P4 Q4 B4 b5; clear u0 u1 u2; have t0 := T5.cell 0; simp at t0; go_wp2_with fail; refine (tableValid_impl (HT.out.below B5.out) B5.out.size (by omega)).mono ?_; rw [HBK.out]; rintro e w6 ⟨rfl, b6⟩; have T6 := T5.below b6 T5.lt; have H6 := H5.below b6 H5.lt; have P6 := P5.below b6 P5.lt; have Q6 := Q5.below b6 Q5.lt; have B6 := hid (B5.out.trans (b6.mono B5.out.size)); clear T5 H5 P5 Q5 B5 b6; clear t0 T6 H6; go_upto_region 2 with (fail)
 have p0 := P6.cell 0; have q0 := Q6.cell 0; have q1 := Q6.cell 1; have q2 := Q6.cell 2; simp at p0 q0 q1 q2; have zp0 := P6.frozen 0; have zq0 := Q6.frozen 0; have zq1 := Q6.frozen 1; have zq2 := Q6.frozen 2; have P8 := P6.set_ 0 (.slice none 0 0); have P9 := ((P8.far (p := ⟨w.heap.size + 1 + 1 + 1, 0, none⟩) (by show w.heap.size + 1 + 1 ≠ w.heap.size + 1 + 1 + 1; omega) (.int .i64 0)).far (p := ⟨w.heap.size + 1 + 1 + 1, 1, none⟩) (by show w.heap.size + 1 + 1 ≠ w.heap.size + 1 + 1 + 1; omega) (.int .i64 0)).far (p := ⟨w.heap.size + 1 + 1 + 1, 2, none⟩) (by show w.heap.size + 1 + 1 ≠ w.heap.size + 1 + 1 + 1; omega) (.int .i64 0); have Q8 := Q6.far (p := ⟨w.heap.size + 1 + 1, 0, none⟩) (by show w.heap.size + 1 + 1 + 1 ≠ w.heap.size + 1 + 1; omega) (.slice none 0 0); have Q9 := ((Q8.set_ 0 (.int .i64 0)).set_ 1 (.int .i64 0)).set_ 2 (.int .i64 0); have B9 := hid ((((B6.out.setCell (p := ⟨w.heap.size + 1 + 1, 0, none⟩) (by show w.heap.size ≤ w.heap.size + 1 + 1; omega) (.slice none 0 0)).setCell (p := ⟨w.heap.size + 1 + 1 + 1, 0, none⟩) (by show w.heap.size ≤ w.heap.size + 1 + 1 + 1; omega) (.int .i64 0)).setCell (p := ⟨w.heap.size + 1 + 1 + 1, 1, none⟩) (by show w.heap.size ≤ w.heap.size + 1 + 1 + 1; omega) (.int .i64 0)).setCell (p := ⟨w.heap.size + 1 + 1 + 1, 2, none⟩) (by show w.heap.size ≤ w.heap.size + 1 + 1 + 1; omega) (.int .i64 0)); simp at P9 Q9; have HP9 := hid P9; have HQ9 := hid Q9; clear P6 Q6 B6 P8 Q8 P9 Q9; repeat (first | go_values | go_skip | go_guarded | go_step | go_upon)
 generalize (((w6.setCell ⟨w.heap.size + 1 + 1, 0, none⟩ (.slice none 0 0)).setCell ⟨w.heap.size + 1 + 1 + 1, 0, none⟩ (.int .i64 0)).setCell ⟨w.heap.size + 1 + 1 + 1, 1, none⟩ (.int .i64 0)).setCell ⟨w.heap.size + 1 + 1 + 1, 2, none⟩ (.int .i64 0) = wz at *; have e0 := HP9.out.cell 0; have e1 := HQ9.out.cell 0; have e2 := HQ9.out.cell 1; have e3 := HQ9.out.cell 2; simp at e0 e1 e2 e3; go_wp2; refine bodyPost_ret (by simp [results, Tryz.results132, go_sem, e0, e1, e2, e3]; try rfl) rfl ?_; exact ⟨none, 0, none, 0, rfl, OwB.nil _ _, OwT.nil _ _, B9.out⟩
structure UsedI (ts : List (List Int)) (f k : Nat) (xs : List Int) : Prop where
 nd : xs.Nodup
 pos : ∀ x ∈ xs, 0 ≤ x
 mem : ∀ v : Nat, (v : Int) ∈ xs ↔ SeenT ts f k v
 len : xs.length ≤ 6 * f + k
theorem UsedI.zero (ts : List (List Int)) : UsedI ts 0 0 [] := { nd := List.nodup_nil, pos := (fun _ h => (nomatch h)), mem := (fun v => ⟨fun h => (nomatch h), fun h => absurd h (SeenT.zero ts v)⟩), len := Nat.zero_le _ }
theorem UsedI.yes {ts : List (List Int)} {f k : Nat} {xs : List Int} (h : UsedI ts f k xs) (hk : k < (ts.getD f []).length) (he : EntOk ts f k) (h0 : 0 ≤ tE ts f k) : UsedI ts f (k + 1) (xs ++ [tE ts f k]) := by
 have hn := entOk_seen he h0; have e : tE ts f k = (((tE ts f k).toNat : Nat) : Int) := by omega
 refine ⟨?_, ?_, ?_, ?_⟩
 · rw [List.nodup_append]; refine ⟨h.nd, by simp, ?_⟩; intro a ha b hb hab
   simp at hb; subst hb; subst hab; rw [e] at ha; exact hn ((h.mem _).1 ha)
 · intro x hx
   rw [List.mem_append] at hx; rcases hx with hx | hx
   · exact h.pos x hx
   · simp at hx; omega
 · intro v
   rw [List.mem_append, SeenT.step hk, h.mem v, List.mem_singleton]; constructor
   · rintro (h1 | h1)
     · exact .inl h1
     · exact .inr h1.symm
   · rintro (h1 | h1)
     · exact .inl h1
     · exact .inr h1.symm
 · rw [List.length_append]; have := h.len; simp; omega
theorem UsedI.no {ts : List (List Int)} {f k : Nat} {xs : List Int} (h : UsedI ts f k xs) (hk : k < (ts.getD f []).length) (h0 : ¬ 0 ≤ tE ts f k) : UsedI ts f (k + 1) xs :=
 ⟨h.nd, h.pos, fun v => by
  rw [SeenT.step hk, h.mem v]; exact ⟨.inl, fun h1 => h1.resolve_right (by omega)⟩, by have := h.len; omega⟩
theorem UsedI.row {ts : List (List Int)} {f : Nat} {xs : List Int} (hl : (ts.getD f []).length = 6) (h : UsedI ts f 6 xs) : UsedI ts (f + 1) 0 xs :=
 ⟨h.nd, h.pos, fun v => by
  rw [h.mem v]; have := SeenT.row (ts := ts) (f := f) v; rwa [hl] at this, by have := h.len; omega⟩
theorem usedTo_seen {ts : List (List Int)} : ∀ n v, v < n → ((v : Int) ∈ usedTo ts n ↔ SeenT ts 8 0 v)
 | 0, v, h => absurd h (Nat.not_lt_zero _)
 | n + 1, v, h => by
  unfold usedTo; by_cases e : v = n
  · subst e; have hno : ¬ (v : Int) ∈ usedTo ts v := fun hm => by have := usedTo_mem ts v _ hm; omega
    split
    · rename_i hs; exact ⟨fun _ => hs, fun _ => by simp⟩
    · rename_i hs; exact ⟨fun hm => absurd hm hno, fun h' => absurd h' hs⟩
  · have ih := usedTo_seen (ts := ts) n v (by omega); split
    · rw [List.mem_append, ih]; exact ⟨fun h1 => h1.elim id (fun h2 => by simp at h2; omega), .inl⟩
    · exact ih
theorem usedTo_nodup (ts : List (List Int)) : ∀ n, (usedTo ts n).Nodup
 | 0 => List.nodup_nil
 | n + 1 => by
  have ih := usedTo_nodup ts n; unfold usedTo; split
  · rw [List.nodup_append]; refine ⟨ih, by simp, ?_⟩; intro a ha b hb hab
    simp at hb; have := usedTo_mem ts n a ha; omega
  · exact ih
theorem seen_lt {ts : List (List Int)} (hok : TableOk ts) {v : Nat} (h : SeenT ts 8 0 v) : v < 48 := by
 obtain ⟨a, b, hb, hbef, he⟩ := h; have := (hok.2.2 a b hb hbef).1; omega
theorem UsedI.perm {ts : List (List Int)} {xs : List Int} (hok : TableOk ts) (h : UsedI ts 8 0 xs) : xs.Perm (usedL ts) := by
 unfold usedL; rw [List.perm_ext_iff_of_nodup h.nd (usedTo_nodup ts 48)]; intro a
 constructor
 · intro ha
   have h0 := h.pos a ha; have e : a = ((a.toNat : Nat) : Int) := by omega
   rw [e] at ha ⊢; have hs := (h.mem _).1 ha; exact (usedTo_seen 48 _ (seen_lt hok hs)).2 hs
 · intro ha
   have h0 := usedTo_mem ts 48 a ha; have e : a = ((a.toNat : Nat) : Int) := by omega
   rw [e] at ha ⊢; exact (h.mem _).2 ((usedTo_seen 48 _ (by omega)).1 ha)
noncomputable def cntI (bs : List BlockV) (us : List Int) (n : Nat) : Nat := us.countP fun v => (pgAt bs v).full && decide (v / 4 = (n : Int))
theorem cntTo_cntI (bs : List BlockV) (us : List Int) (n : Nat) : ∀ k, k ≤ us.length → cntTo bs us n k = cntI bs (us.take k) n
 | 0, _ => by simp [cntTo, cntI]
 | k + 1, hk => by
  have ih := cntTo_cntI bs us n k (by omega); have hg : us.getD k 0 = us[k] := by rw [List.getD_eq_getElem?_getD, List.getElem?_eq_getElem (by omega)]; rfl
  unfold cntTo; rw [ih, hg, List.take_succ_eq_append_getElem (by omega)]; unfold cntI; rw [List.countP_append, List.countP_singleton]; congr 1
  by_cases h1 : (pgAt bs us[k]).full = true <;> by_cases h2 : us[k] / 4 = (n : Int) <;> simp [h1, h2]
noncomputable def incL (bs : List BlockV) (us : List Int) : List Int := (List.range bs.length).map fun n => ((cntI bs us n : Nat) : Int)
theorem incL_len (bs : List BlockV) (us : List Int) : (incL bs us).length = bs.length := by simp [incL]
theorem incL_nil (bs : List BlockV) : incL bs [] = List.replicate bs.length 0 := by
 apply List.ext_getElem
 · simp [incL]
 · intro i h1 h2; simp [incL, cntI]
theorem incL_get {bs : List BlockV} {us : List Int} {n : Nat} (h : n < bs.length) : (incL bs us).getD n 0 = ((cntI bs us n : Nat) : Int) := by
 rw [List.getD_eq_getElem?_getD, List.getElem?_eq_getElem (by rw [incL_len]; exact h)]; simp [incL]
theorem cntI_snoc (bs : List BlockV) (us : List Int) (v : Int) (n : Nat) : cntI bs (us ++ [v]) n = cntI bs us n + if (pgAt bs v).full = true ∧ v / 4 = (n : Int) then 1 else 0 := by
 unfold cntI; rw [List.countP_append, List.countP_singleton]; congr 1
 by_cases h1 : (pgAt bs v).full = true <;> by_cases h2 : v / 4 = (n : Int) <;> simp [h1, h2]
theorem incL_no {bs : List BlockV} {us : List Int} {v : Int} (h : ¬ (pgAt bs v).full = true) : incL bs (us ++ [v]) = incL bs us := by
 unfold incL; congr 1
 funext n
 rw [cntI_snoc, if_neg (fun h' => h h'.1)]; rfl
theorem incL_yes {bs : List BlockV} {us : List Int} {v : Nat} (h : (pgAt bs (v : Int)).full = true) (hv : v / 4 < bs.length) : incL bs (us ++ [(v : Int)]) = (incL bs us).set (v / 4) ((incL bs us).getD (v / 4) 0 + 1) := by
 apply List.ext_getElem
 · simp [incL]
 · intro i h1 h2
   rw [List.getElem_set]; have hg := incL_get (us := us) hv; generalize (incL bs us).getD (v / 4) 0 = q at *; subst hg; simp only [incL, List.getElem_map, List.getElem_range, cntI_snoc]; by_cases e : v / 4 = i
   · rw [if_pos e, if_pos ⟨h, by omega⟩, e]; rfl
   · rw [if_neg e, if_neg (fun h' => e (by have := h'.2; omega))]; rfl
theorem incL_perm {bs : List BlockV} {us us' : List Int} (h : us.Perm us') : incL bs us = incL bs us' := by
 unfold incL; congr 1
 funext n
 unfold cntI; rw [h.countP_eq]
theorem countsTo_map (bs : List BlockV) (us : List Int) : ∀ n, countsTo bs us n = (List.range n).map fun i => ((cntTo bs us i us.length : Nat) : Int)
 | 0 => rfl
 | n + 1 => by
  unfold countsTo; rw [countsTo_map bs us n, List.range_succ, List.map_append]; rfl
theorem countsL_inc (bs : List BlockV) {ts : List (List Int)} {us : List Int} (h : us.Perm (usedL ts)) : incL bs us = countsL bs ts := by
 rw [incL_perm h]; unfold countsL; rw [countsTo_map]; unfold incL; congr 1
 funext n
 rw [cntTo_cntI bs _ n _ (Nat.le_refl _), List.take_length]
end Go.Proofs.YtefdjahaimnndaaGreatDoor
