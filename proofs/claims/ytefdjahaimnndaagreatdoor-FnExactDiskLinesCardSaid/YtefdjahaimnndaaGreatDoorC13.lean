/- Parts of the proof, one after the other. -/
import Derived.Test.YtefdjahaimnndaaGreatDoorC10
import Derived.Laws.CopyOwn
namespace Go.Proofs.YtefdjahaimnndaaGreatDoor
open Go.ChangeShapes Go.WideShapes Go.ChangeAt Go.RowKit Go.Deep
open Go.Lib (hid)
set_option linter.unusedVariables false
set_option linter.unusedSimpArgs false
open Classical in
/-- the pages below v that the table names, in ascending order -/
noncomputable def usedTo (ts : List (List Int)) : Nat → List Int
 | 0 => []
 | v + 1 => if SeenT ts 8 0 v then usedTo ts v ++ [(v : Int)] else usedTo ts v
open Classical in
noncomputable def usedAt (ts : List (List Int)) (a f k : Nat) : List Int := if SeenT ts f k a then usedTo ts a ++ [(a : Int)] else usedTo ts a
noncomputable def usedL (ts : List (List Int)) : List Int := usedTo ts 48
theorem usedTo_len (ts : List (List Int)) : ∀ v, (usedTo ts v).length ≤ v
 | 0 => Nat.le_refl _
 | v + 1 => by
  have := usedTo_len ts v; unfold usedTo; split
  · simp; omega
  · omega
theorem usedTo_mem (ts : List (List Int)) : ∀ v x, x ∈ usedTo ts v → 0 ≤ x ∧ x < v
 | 0, x, h => by cases h
 | v + 1, x, h => by
  unfold usedTo at h; split at h
  · rw [List.mem_append] at h; rcases h with h | h
    · have := usedTo_mem ts v x h; omega
    · simp at h; omega
  · have := usedTo_mem ts v x h; omega
theorem usedAt_len (ts : List (List Int)) (a f k : Nat) : (usedAt ts a f k).length ≤ a + 1 := by
 have := usedTo_len ts a; unfold usedAt; split
 · simp; omega
 · omega
theorem usedAt_zero (ts : List (List Int)) (a : Nat) : usedAt ts a 0 0 = usedTo ts a := by unfold usedAt; rw [if_neg (SeenT.zero ts a)]
theorem usedAt_end (ts : List (List Int)) (a : Nat) : usedAt ts a 8 0 = usedTo ts (a + 1) := rfl
theorem usedAt_row {ts : List (List Int)} {a f : Nat} (h : (ts.getD f []).length = 6) : usedAt ts a f 6 = usedAt ts a (f + 1) 0 := by
 unfold usedAt; have := SeenT.row (ts := ts) (f := f) a; rw [h] at this; by_cases hs : SeenT ts f 6 a
 · rw [if_pos hs, if_pos (this.1 hs)]
 · rw [if_neg hs, if_neg (fun h' => hs (this.2 h'))]
theorem usedAt_yes {ts : List (List Int)} {a f k : Nat} (hk : k < (ts.getD f []).length) (he : EntOk ts f k) (h : tE ts f k = (a : Int)) : usedAt ts a f (k + 1) = usedAt ts a f k ++ [(a : Int)] := by
 have hn : ¬ SeenT ts f k a := by
  have := entOk_seen he (by omega); rwa [h, Int.toNat_natCast] at this
 unfold usedAt; rw [if_pos ((SeenT.step hk a).2 (.inr h)), if_neg hn]
theorem usedAt_no {ts : List (List Int)} {a f k : Nat} (hk : k < (ts.getD f []).length) (h : tE ts f k ≠ (a : Int)) : usedAt ts a f (k + 1) = usedAt ts a f k := by
 unfold usedAt; have : SeenT ts f (k + 1) a ↔ SeenT ts f k a := by rw [SeenT.step hk a]; exact ⟨fun h' => h'.resolve_right h, .inl⟩
 by_cases hs : SeenT ts f k a
 · rw [if_pos hs, if_pos (this.2 hs)]
 · rw [if_neg hs, if_neg (fun h' => hs (this.1 h'))]
theorem ent_of {ts : List (List Int)} (hok : TableOk ts) {f k : Nat} (hf : f < 8) (hk : k < 6) : EntOk ts f k :=
 hok.2.2 f k (by rw [hok.2.1 f hf]; exact hk) (.inl hf)
def OwI (w0 : World) (xs : List Int) (e : Ending) (w' : World) : Prop := ∃ g c, e = .returned (.slice (some ⟨g, 0, none⟩) xs.length c) ∧ w'.ownsRow w0.heap.size 3 1 (.slice (some ⟨g, 0, none⟩) xs.length c) xs.length (xs.map (Value.int .i64)) ∧ Below w0.heap.size w0 w'
theorem owI_of {w0 w' : World} {xs : List Int} {g m c : Nat} (hm : xs.length = m) (h : w'.ownsRow w0.heap.size 3 1 (.slice (some ⟨g, 0, none⟩) m c) m (xs.map (Value.int .i64))) (hb : Below w0.heap.size w0 w') : OwI w0 xs (.returned (.slice (some ⟨g, 0, none⟩) m c)) w' := by
 subst hm; exact ⟨g, c, rfl, h, hb⟩
set_option maxRecDepth 8000 in
set_option maxHeartbeats 2000000 in
theorem usedPages_spec {A : Option Addr} {n c B : Nat} {ts : List (List Int)} {w : World} (hr : RdT w B A n ts) (hB : B ≤ w.heap.size) (hok : TableOk ts) :
 Calls Tryz.prog 152 #[.agg #[.slice A n c]] w (OwI w (usedL ts)) := by
 obtain rfl : n = 8 := by rw [← hr.len, hok.1]
 have HBT := hid (bof_t.2 hok); have HOK := hid hok; have HR := hid (hr.mono hB); have b1 : Below w.heap.size w ((w.alloc (.cells #[.slice A 8 c] 26)).alloc (.cells #[] 3)) := ((Below.refl _ _).alloc (Nat.le_refl _) _).alloc (by simp) _; have k1 := (Blk.new w 26 #[.slice A 8 c]).alloc (.cells #[] 3); have o1 := World.ownsRow_lit (base := w.heap.size) (e := 3) (size := 1) (w.alloc (.cells #[.slice A 8 c] 26)) #[] 0 (by simp) (by decide) rfl; rw [show (w.alloc (.cells #[.slice A 8 c] 26)).heap.size = w.heap.size + 1 by simp] at o1; have B1 := hid b1; have K1 := hid k1; have O1 := hid o1; clear hr hok b1 k1 o1; go_enter Tryz.func152, Tryz.ntmps152
 go_wp2_with fail; generalize (w.alloc (.cells #[.slice A 8 c] 26)).alloc (.cells #[] 3) = w1 at *
 go_loopw [3, 4] (fun v i wr => ∃ (a m gq co : Nat), a ≤ 48 ∧ i = .int .i64 a ∧ (usedTo ts a).length = m ∧ v = .slice (some ⟨gq, 0, none⟩) m co ∧ wr.ownsRow w.heap.size 3 1 (.slice (some ⟨gq, 0, none⟩) m co) m ((usedTo ts a).map (Value.int .i64)) ∧ Blk wr w.heap.size 26 #[.slice A 8 c] ∧ Below w.heap.size w wr) (fun _ i _ => 48 - (intOf i).toNat)
 case atStart => exact ⟨0, 0, _, _, Nat.zero_le _, rfl, rfl, rfl, O1.out, K1.out, B1.out⟩
 case round =>
  obtain ⟨a, m, Ao, co, ha, rfl, hml, rfl, O2, K2, hb2⟩ := hrel; have B2 := hid hb2; have HM := hid hml; have s2 := hb2.size; clear hb2 hml K1 O1 B1; by_cases hlt : a < 48
  · have aI : (a : Int) < 48 := by omega
    have t0 := K2.cell 0; simp at t0; have r2 := HR.out.below B2.out; go_wp2_with fail; refine (tableValid_spec r2 s2 (by omega)).mono ?_; rw [HBT.out]; rintro e w3 ⟨rfl, b3⟩; have O3 := hid (own_below O2 b3); have K3 := hid (K2.below b3 K2.lt); have B3 := hid (B2.out.trans (b3.mono s2)); clear O2 K2 b3 B2 r2 t0; go_wp2_with fail; go_loopw [3, 5] (fun v i wr => ∃ (f m gq co : Nat), f ≤ 8 ∧ i = .int .i64 f ∧ (usedAt ts a f 0).length = m ∧ v = .slice (some ⟨gq, 0, none⟩) m co ∧ wr.ownsRow w.heap.size 3 1 (.slice (some ⟨gq, 0, none⟩) m co) m ((usedAt ts a f 0).map (Value.int .i64)) ∧ Blk wr w.heap.size 26 #[.slice A 8 c] ∧ Below w.heap.size w wr) (fun _ i _ => 8 - (intOf i).toNat)
    case atStart => exact ⟨0, m, _, _, Nat.zero_le _, rfl, by rw [usedAt_zero]; exact HM.out, rfl, by rw [usedAt_zero]; exact O3.out, K3.out, B3.out⟩
    case round =>
     obtain ⟨f, m2, Ao2, co2, hf, rfl, hml2, rfl, O4, K4, hb4⟩ := hrel; have B4 := hid hb4; have HM2 := hid hml2; have O4 := hid O4; have K4 := hid K4; clear hb4 hml2 O3 K3 B3; by_cases hf8 : f < 8
     · have fI : (f : Int) < 8 := by omega
       go_wp2_with fail; go_loopw [3, 6] (fun v i wr => ∃ (k m gq co : Nat), k ≤ 6 ∧ i = .int .i64 k ∧ (usedAt ts a f k).length = m ∧ v = .slice (some ⟨gq, 0, none⟩) m co ∧ wr.ownsRow w.heap.size 3 1 (.slice (some ⟨gq, 0, none⟩) m co) m ((usedAt ts a f k).map (Value.int .i64)) ∧ Blk wr w.heap.size 26 #[.slice A 8 c] ∧ Below w.heap.size w wr) (fun _ i _ => 6 - (intOf i).toNat)
       case atStart => exact ⟨0, m2, _, _, Nat.zero_le _, rfl, HM2.out, rfl, O4.out, K4.out, B4.out⟩
       case round =>
        obtain ⟨k, m3, Ao3, co3, hk, rfl, hml3, rfl, O5, K5, hb5⟩ := hrel; have B5 := hid hb5; have HM3 := hid hml3; have hm49 : m3 ≤ 49 := by have := usedAt_len ts a f k; omega
        have s5 := hb5.size; clear hb5 hml3 O4 K4 B4; by_cases hk6 : k < 6
        · have kI : (k : Int) ≤ 5 := by omega
          have kI6 : (k : Int) < 6 := by omega
          have t0 := K5.cell 0; simp at t0; have r5 := HR.out.below B5.out; obtain ⟨b, off, rfl, hbB, hc⟩ := r5.at_ (by omega); obtain ⟨A', n', c', d0, hnc, hcm, hrg⟩ := hc f hf8; have h6 := HOK.out.2.1 f hf8; obtain rfl : n' = 6 := by rw [← hrg.len, h6]
          obtain ⟨rb, ro, rfl, hrb, hcr⟩ := hrg.at_ (by omega); have d1 := hcr k hk6; have HEN := hid (ent_of HOK.out hf8 hk6); have hkl : k < (ts.getD f []).length := by omega
          rw [show (ts.getD f []).getD k 0 = tE ts f k from rfl] at d1; have O5 := hid O5; have HY := hid (fun h => usedAt_yes (a := a) hkl HEN.out h); have HN := hid (fun h => usedAt_no (a := a) hkl h); generalize tE ts f k = E at *; clear hc hcr hrg r5 h6 hkl HEN; by_cases he : E = (a : Int)
          · subst he; have HY := hid (HY.out rfl); clear HN; go_wp2_with (at_builtin; refine wpList_appI rfl rfl rfl O5.out rfl (by omega) s5 ?_; rintro g3 c3 w6 o6 gr6 hg6)
            have HO6 := hid (show w6.ownsRow w.heap.size 3 1 (.slice (some ⟨g3, 0, none⟩) (m3 + 1) c3) (m3 + 1) ((usedAt ts a f (k + 1)).map (Value.int .i64)) from by rw [HY.out]; exact o6); have HB6 := hid (below_app B5.out O5.out s5 gr6); have K6 := hid (K5.typed (ChgT.grown O5.out (ts := [3]) (by simp) gr6) (by decide)); clear o6 gr6 K5 O5 d0 d1 t0; go_wp2; go_roundw
            case rel => exact ⟨k + 1, m3 + 1, _, _, by omega, by go_num, by rw [HY.out, List.length_append, HM3.out]; rfl, rfl, HO6.out, K6.out, HB6.out⟩
            case measure => simp [intOf]; omega
          · have HN := hid (HN.out he); have hne : (E == (a : Int)) = false := by simpa using he
            clear HY; go_wp2; go_roundw
            case rel => exact ⟨k + 1, m3, _, _, by omega, by go_num, by rw [HN.out]; exact HM3.out, rfl, by rw [HN.out]; exact O5.out, K5, B5.out⟩
            case measure => simp [intOf]; omega
        · obtain rfl : k = 6 := by omega
          have HRW := hid (usedAt_row (a := a) (HOK.out.2.1 f hf8)); have O5 := hid O5; go_wp2; go_roundw
          case rel => exact ⟨f + 1, m3, _, _, by omega, by go_num, by rw [← HRW.out]; exact HM3.out, rfl, by rw [← HRW.out]; exact O5.out, K5, B5.out⟩
          case measure => simp [intOf]; omega
     · obtain rfl : f = 8 := by omega
       go_wp2; go_roundw
       case rel => exact ⟨a + 1, m2, _, _, by omega, by go_num, by rw [← usedAt_end]; exact HM2.out, rfl, by rw [← usedAt_end]; exact O4.out, K4.out, B4.out⟩
       case measure => simp [intOf]; omega
  · obtain rfl : a = 48 := by omega
    have O2 := hid O2; go_wp2; go_ret; exact owI_of HM.out O2.out B2.out
theorem gb_setRow (w : World) (g : Nat) (cs : Array Value) : w.grownBy (w.setRow g cs) (some g) :=
 ⟨rfl, rfl, rfl, by simp [World.setRow], fun k hk hne => setRow_other w g k cs (fun e => hne (by rw [e]))⟩
theorem row_six {xs : List Int} (h : xs.length = 6) : (((cellsI [0, 0, 0, 0, 0, 0]).toList.take 0 ++ ((xs.map (Value.int .i64)) ++ (cellsI [0, 0, 0, 0, 0, 0]).toList.drop (0 + (xs.map (Value.int .i64)).length))).toArray) = cellsI xs := by
 have hd : (cellsI [0, 0, 0, 0, 0, 0]).toList.drop (0 + (xs.map (Value.int .i64)).length) = [] := List.drop_eq_nil_of_le (by simp [cellsI, h]); rw [hd, List.append_nil, List.take_zero, List.nil_append]; rfl
theorem RdI.addCells {k : IntKind} {w : World} {B n b off : Nat} {xs : List Int} (h : RdI k w B (some ⟨b, off, none⟩) n xs) : ∀ (j : Nat) (v : Value), (xs.map (Value.int k))[j]? = some v → w.cell? ((⟨b, off, none⟩ : Addr).add j) = some v := by
 intro j v hj
 rw [List.getElem?_map] at hj; have hl := h.len; rcases Nat.lt_or_ge j xs.length with hlt | hge
 · rw [List.getElem?_eq_getElem hlt] at hj; simp only [Option.map_some, Option.some.injEq] at hj; subst hj; obtain ⟨b', off', e, _, hc⟩ := h.at_ (by omega); injection e with e; injection e with e1 e2; subst e1; subst e2; rw [add_none, hc j (by omega), List.getD_eq_getElem?_getD, List.getElem?_eq_getElem hlt]; rfl
 · rw [List.getElem?_eq_none hge] at hj; cases hj
set_option maxRecDepth 8000 in
set_option maxHeartbeats 2000000 in
theorem cloneTable_c {A : Option Addr} {n c B : Nat} {ts : List (List Int)} {w : World} (hr : RdT w B A n ts) (hB : B ≤ w.heap.size) (hsh : ts.length = 8 ∧ ∀ i, i < 8 → (ts.getD i []).length = 6) :
 Calls Tryz.prog 88 #[.agg #[.slice A n c]] w (OwnT w ts) := by
 obtain rfl : n = 8 := by rw [← hr.len, hsh.1]
 have HR := hid (hr.mono hB); have HSH := hid hsh; have hmk := makeTab 8 (by omega); have b2 : Below w.heap.size w ((w.alloc (.cells #[.slice A 8 c] 26)).alloc (.cells #[.slice none 0 0] 26)) := ((Below.refl _ _).alloc (Nat.le_refl _) _).alloc (by simp) _; have K2 := (Blk.new w 26 #[.slice A 8 c]).alloc (.cells #[.slice none 0 0] 26); have R2 := Blk.new (w.alloc (.cells #[.slice A 8 c] 26)) 26 #[.slice none 0 0]; rw [show (w.alloc (.cells #[.slice A 8 c] 26)).heap.size = w.heap.size + 1 by simp] at R2; clear hr hsh; go_enter Tryz.func88, Tryz.ntmps88
 go_upto_region 1 with (fail)
 generalize (w.alloc (.cells #[.slice A 8 c] 26)).alloc (.cells #[.slice none 0 0] 26) = w2 at *; have t0 := K2.cell 0; simp at t0; have hmk8 := hmk w2; simp at hmk8; go_upto_region 2 with (fail)
 have s2 := b2.size; have hst := own_madeTab w2 w.heap.size 8 ts HSH.out.1 s2 (by omega); have bm : Below w2.heap.size w2 (w2.alloc (.cells (madeCells #[.slice none 0 0] 8) 57)) := (Below.refl _ _).alloc (Nat.le_refl _) _; have bo : Below (w2.alloc (.cells (madeCells #[.slice none 0 0] 8) 57)).heap.size (w2.alloc (.cells (madeCells #[.slice none 0 0] 8) 57)) ((w2.alloc (.cells (madeCells #[.slice none 0 0] 8) 57)).alloc (.cells #[.slice (some ⟨w2.heap.size, 0, none⟩) 8 8] 26)) := (Below.refl _ _).alloc (Nat.le_refl _) _; have O3 := Blk.new (w2.alloc (.cells (madeCells #[.slice none 0 0] 8) 57)) 26 #[.slice (some ⟨w2.heap.size, 0, none⟩) 8 8]; rw [show (w2.alloc (.cells (madeCells #[.slice none 0 0] 8) 57)).heap.size = w2.heap.size + 1 by simp] at O3 bo; have hst3 := hid (hst.below (bo.mono (by simp))); have K3 := (K2.below bm K2.lt).below bo (by have := K2.lt; omega); have R3 := (R2.below bm R2.lt).below bo (by have := R2.lt; omega); have B3 := hid (b2.trans ((bm.trans (bo.mono (by omega))).mono s2)); have lk := R2.lt; clear hst bm bo K2 R2 b2 t0 hmk8; generalize (w2.alloc (.cells (madeCells #[.slice none 0 0] 8) 57)).alloc (.cells #[.slice (some ⟨w2.heap.size, 0, none⟩) 8 8] 26) = w3 at *; generalize w2.heap.size = gt at *; have t0 := K3.cell 0; simp at t0; go_upto_region 3 with (fail)
 go_loopw [14] (fun i wr => ∃ k : Nat, k ≤ 8 ∧ i = .int .i64 k ∧ OwT wr w.heap.size (some ⟨gt, 0, none⟩) 8 8 (fillTo [] ts k) ∧ Blk wr (w.heap.size + 1) 26 #[.slice none 0 0] ∧ Blk wr (gt + 1) 26 #[.slice (some ⟨gt, 0, none⟩) 8 8] ∧ Below w.heap.size w wr) (fun i _ => 8 - (intOf i).toNat)
 case atStart => exact ⟨0, by omega, rfl, hst3.out, R3, O3, B3.out⟩
 case round =>
  obtain ⟨k, hk, rfl, hown, hR, hO, hbel⟩ := hrel; have HO := hid hown; have HRB := hid hR; have HOB := hid hO; have HB := hid hbel; have hsz := hbel.size; clear hown hR hO hbel t0 K3 R3 O3 hst3; by_cases hlt : k < 8
  · have kI : (k : Int) < 8 := by omega
    obtain ⟨b, off, e, hbB, hc⟩ := (HR.out.below HB.out).at_ (by omega); obtain ⟨A', n', c', c0, hnc, hcm, hrg⟩ := hc k hlt; subst e; have hn6 : n' = 6 := by rw [← hrg.len]; exact HSH.out.2 k hlt
    subst hn6; obtain ⟨b', off', e', hb', hcc⟩ := hrg.at_ (by omega); subst e'; clear hc; go_upto_region 5 with (fail)
    clear c0; have p0 := HOB.out.cell 0; simp at p0; obtain ⟨A3, n3, c3, f0, z0, _⟩ := HO.out.cells k hlt; refine wp_region_held_drew (S := fun w' => w'.cell? ⟨gt + 1, 0, none⟩ = some (.slice (some ⟨gt, 0, none⟩) 8 8)) (by kernel_rfl) ?_ (fun h_ => ?_)
    · exact p0
    have hd0 := HO.out.below ((Below.refl _ _).drew); have f0d : wr.drew.cell? ⟨gt, k, none⟩ = some (.slice A3 n3 c3) := f0; have z0d : wr.drew.frozen? ⟨gt, k, none⟩ = false := z0; have hrgd := (hrg.below ((Below.refl _ _).drew)); have HRd := hid (show Blk wr.drew _ _ _ from HRB.out); have HOd := hid (show Blk wr.drew _ _ _ from HOB.out); have HBd := hid HB.out.drew; have szd : w.heap.size ≤ wr.drew.heap.size := hsz; clear p0 f0 z0 hcc hrg; generalize wr.drew = w4 at *; refine tk 0 ?_; refine tk 1 ?_; refine tk 2 ?_; refine tk 3 ?_; refine tk 4 ?_; have hmr := makeRow6 w4; have bz : Below w4.heap.size w4 (w4.alloc (.cells (cellsI [0, 0, 0, 0, 0, 0]) 3)) := (Below.refl _ _).alloc (Nat.le_refl _) _; have orow := own_row6 w4 w4.heap.size (Nat.le_refl _); have rblk : RowI (w4.alloc (.cells (cellsI [0, 0, 0, 0, 0, 0]) 3)) w4.heap.size [0, 0, 0, 0, 0, 0] := Blk.new _ _ _; have hset := hd0.setList bz orow szd hlt; have O5 := HOd.out.below bz HOd.out.lt; have R5 := HRd.out.below bz HRd.out.lt; have B5 := hid (HBd.out.trans (bz.mono szd)); have G5 := hrgd.below (bz.mono szd); have lgt : gt < w4.heap.size := block_lt_of_cell f0d; have lgo : gt + 1 < w4.heap.size := HOd.out.lt; have lre : w.heap.size + 1 < w4.heap.size := HRd.out.lt; have p5 := O5.cell 0; simp at p5; obtain ⟨A5, n5, c5, f5, z5, _⟩ := (hd0.below bz).cells k hlt; refine rd1 5 (fun K hK => ?_); go_simp; refine hK.out _ _ (p5) fun h_ => ?_
    clear hK K; refine pt ?_; clear orow bz hd0 HOd HRd HBd hrgd f0d z0d hmr; generalize w4.alloc (.cells (cellsI [0, 0, 0, 0, 0, 0]) 3) = w5 at *; generalize w4.heap.size = gr at *; refine tk 6 ?_; have O6 := O5.far (p := ⟨gt, k, none⟩) (by show gt + 1 ≠ gt; omega) (.slice (some ⟨gr, 0, none⟩) 6 6); have R6 := R5.far (p := ⟨gt, k, none⟩) (by show w.heap.size + 1 ≠ gt; omega) (.slice (some ⟨gr, 0, none⟩) 6 6); have rb6 := Blk.far rblk (p := ⟨gt, k, none⟩) (by show gr ≠ gt; omega) (.slice (some ⟨gr, 0, none⟩) 6 6); have lg0 : w.heap.size ≤ gt := by omega
    have B6 := hid (B5.out.setCell (p := ⟨gt, k, none⟩) lg0 (.slice (some ⟨gr, 0, none⟩) 6 6)); have hs6 := hid hset; have cg : (w5.setCell ⟨gt, k, none⟩ (.slice (some ⟨gr, 0, none⟩) 6 6)).cell? ⟨gt, k, none⟩ = some (.slice (some ⟨gr, 0, none⟩) 6 6) := World.cell?_setCell_same _ _ _ f5; have G6 : RdI .i64 (w5.setCell ⟨gt, k, none⟩ (.slice (some ⟨gr, 0, none⟩) 6 6)) w.heap.size (some ⟨b', off', none⟩) 6 (ts.getD k []) := G5.below ((Below.refl _ _).setCell (p := ⟨gt, k, none⟩) lg0 _); have p6 := O6.cell 0; simp at p6; refine rd1 7 (fun K hK => ?_); go_simp; refine hK.out _ _ (p6) fun h_ => ?_
    clear hK K; refine pt ?_; refine dn ?_; clear h_ p5 f5 z5 hset O5 R5 B5 G5 rblk; generalize w5.setCell ⟨gt, k, none⟩ (.slice (some ⟨gr, 0, none⟩) 6 6) = w6 at *; have HL6 := HSH.out.2 k hlt; generalize hrow : ts.getD k [] = row at *; have HROW := hid hrow; clear hrow; have hsrc : ∀ (j : Nat) (v : Value), (row.map (Value.int .i64))[j]? = some v → w6.cell? ((⟨b', off', none⟩ : Addr).add j) = some v := G6.addCells; have hr6 : (row.map (Value.int .i64)).length = 6 := by simpa using HL6
    have o7 := RowI.own (base := w.heap.size) (w := w6.setRow gr (cellsI row)) (g := gr) (xs := row) (setRow_heap w6 gr _ _ _ _ rb6) (by omega) (by rw [HL6]; decide); rw [HL6] at o7; have h7 := hs6.out.turn (xs := row) hlt cg (gb_setRow w6 gr (cellsI row)) o7 (by rw [List.getD_eq_getElem?_getD, List.getElem?_set_self (by rw [fillTo_len _ _ (by rw [HSH.out.1]; omega), HSH.out.1]; exact hlt)]; rfl); rw [List.set_set, show (fillTo [] ts k).set k row = fillTo [] ts (k + 1) from by rw [← HROW.out]; exact fillTo_set _ _ (by rw [HSH.out.1]; exact hlt)] at h7; have HT7 := hid h7; have O7 := hid (Blk.grown O6 (gb_setRow w6 gr (cellsI row)) (by intro e; injection e with e; omega)); have R7 := hid (Blk.grown R6 (gb_setRow w6 gr (cellsI row)) (by intro e; injection e with e; omega)); have B7 := hid (below_setRow B6.out (show w.heap.size ≤ gr by omega) (cellsI row)); clear h7 o7 B6 hs6; have hsix := row_six HL6; clear HL6; have hrb : w6.heap[gr]? = some (.cells (cellsI [0, 0, 0, 0, 0, 0]) 3 (0, 0)) := rb6; go_wp2_with ((with_reducible show wpList _ _ _ (_ :: _) _ _); refine wpList_copy_own rfl (.tmp 30) (.tmp 31) 57 57 rfl 3 Tryz.underlying57 (by kernel_rfl) gr 0 6 6 ⟨b', off', none⟩ 6 c' rfl rfl _ 3 hrb (row.map (Value.int .i64)) (by rw [hr6]; rfl) hsrc (by rw [hr6]; decide) (by intro v hv; obtain ⟨x, _, rfl⟩ := List.mem_map.1 hv; rfl) ?_; rw [hsix, hr6])
    go_roundw
    case rel => exact ⟨k + 1, by omega, by go_num, HT7.out, R7.out, O7.out, B7.out⟩
    case measure => simp [intOf]; omega
  · obtain rfl : k = 8 := by omega
    have hall : fillTo [] ts 8 = ts := by have := fillTo_all [] ts; rw [HSH.out.1] at this; exact this
    have HO := hid (show OwT wr w.heap.size (some ⟨gt, 0, none⟩) 8 8 ts from by rw [← hall]; exact HO.out); clear hall; have p0 := HOB.out.cell 0; have y0 := HRB.out.cell 0; simp at p0 y0; have z0 := HRB.out.frozen 0; have lr := HRB.out.lt; have R8 := HRB.out.set_ 0 (.slice (some ⟨gt, 0, none⟩) 8 8); simp at R8; have T8 := HO.out.typed (ChgT.blk HRB.out 0 (.slice (some ⟨gt, 0, none⟩) 8 8)) (by decide) (by decide); have B8 := HB.out.setCell (p := ⟨w.heap.size + 1, 0, none⟩) (by show w.heap.size ≤ w.heap.size + 1; omega) (.slice (some ⟨gt, 0, none⟩) 8 8); have HR8 := hid R8; have HT8 := hid T8; have HB8 := hid B8; clear R8 T8 B8 HRB HOB HO HB; go_upto_region 8 with (fail)
    repeat (first | go_values | go_skip | go_guarded | go_step | go_upon)
    generalize wr.setCell ⟨w.heap.size + 1, 0, none⟩ (.slice (some ⟨gt, 0, none⟩) 8 8) = wz at *; have e0 := HR8.out.cell 0; simp at e0; refine bodyPost_ret (by simp [results, Tryz.results88, go_sem, e0]; try rfl) rfl ?_; exact ownT_of HSH.out.1 HT8.out HB8.out
end Go.Proofs.YtefdjahaimnndaaGreatDoor
