/- Parts of the proof, one after the other. -/
import Derived.Test.YtefdjahaimnndaaGreatDoorC5
namespace Go.Proofs.YtefdjahaimnndaaGreatDoor
open Go.ChangeShapes Go.WideShapes Go.ChangeAt Go.RowKit Go.Deep
open Go.Lib (hid)
set_option linter.unusedVariables false
set_option linter.unusedSimpArgs false
theorem RdT.entry {w : World} {B : Nat} {A : Option Addr} {n : Nat} {ts : List (List Int)} (hr : RdT w B A n ts) (hok : TableOk ts) {f : Nat} (hf : f < 8) : n = 8 ∧ ∃ b off b' off' c', A = some ⟨b, off, none⟩ ∧ b < B ∧ b' < B ∧ 6 ≤ c' ∧ c' ≤ 9223372036854775807 ∧
 w.cell? ⟨b, off + f, none⟩ = some (.slice (some ⟨b', off', none⟩) 6 c') ∧ ∀ k, k < 6 → w.cell? ⟨b', off' + k, none⟩ = some (.int .i64 (tE ts f k)) := by
 have hn : n = 8 := by rw [← hr.len, hok.1]
 subst hn; refine ⟨rfl, ?_⟩; obtain ⟨b, off, rfl, hb, hc⟩ := hr.at_ (by omega); obtain ⟨A', n', c', c1, hnc, hcm, hrg⟩ := hc f hf; have h6 : n' = 6 := by rw [← hrg.len]; exact hok.2.1 f hf
 subst h6; obtain ⟨b', off', rfl, hb', hc'⟩ := hrg.at_ (by omega); exact ⟨b, off, b', off', c', rfl, hb, hb', hnc, hcm, c1, hc'⟩
theorem tE_range {ts : List (List Int)} (hok : TableOk ts) {f k : Nat} (hf : f < 8) (hk : k < 6) : -1 ≤ tE ts f k ∧ tE ts f k ≤ 47 :=
 (hok.2.2 f k (by rw [hok.2.1 f hf]; exact hk) (.inl hf)).1
def fsTo (ts : List (List Int)) (f : Nat) : Nat → Nat
 | 0 => 0
 | k + 1 => if 0 ≤ tE ts f k then k + 1 else fsTo ts f k
def fsize (ts : List (List Int)) (f : Nat) : Nat := fsTo ts f 6
theorem fsTo_le (ts : List (List Int)) (f : Nat) : ∀ k, fsTo ts f k ≤ k
 | 0 => Nat.le_refl _
 | k + 1 => by have := fsTo_le ts f k; unfold fsTo; split <;> omega
theorem fsTo_above (ts : List (List Int)) (f : Nat) : ∀ {k j : Nat}, fsTo ts f k ≤ j → j < k → tE ts f j < 0
 | 0, j, _, h => absurd h (Nat.not_lt_zero _)
 | k + 1, j, h1, h2 => by
  unfold fsTo at h1; split at h1
  · omega
  · by_cases e : j = k
    · subst e; omega
    · exact fsTo_above ts f h1 (by omega)
theorem fileSize_impl {A : Option Addr} {n c B f : Nat} {ts : List (List Int)} {w : World} (hr : RdT w B A n ts) (hB : B ≤ w.heap.size) (hok : TableOk ts) (hf : f < 8) :
 Calls Tryz.prog 82 #[.agg #[.slice A n c], .int .i64 (f : Nat)] w fun e w' => e = .returned (.int .i64 (fsize ts f : Nat)) ∧ Below w.heap.size w w' := by
 obtain ⟨rfl, b, off, b', off', c', rfl, hb, hb', q1, q2, c1, hc⟩ := hr.entry hok hf; have hbt := bof_t.2 hok; have b1 : Below w.heap.size w (w.alloc (.cells #[.slice (some ⟨b, off, none⟩) 8 c] 26)) := (Below.refl _ _).alloc (Nat.le_refl _) _; have k1 := Blk.new w 26 #[.slice (some ⟨b, off, none⟩) 8 c]; have l1 := k1.lt; have hr1 := (hr.mono hB).below b1; clear hr; go_enter Tryz.func82, Tryz.ntmps82
 go_wp2_with fail; generalize w.alloc (.cells #[.slice (some ⟨b, off, none⟩) 8 c] 26) = w1 at *
 refine (tableValid_impl hr1 b1.size (by omega)).mono ?_; rw [hbt]; rintro e w2 ⟨rfl, b2⟩; have b3 := b1.trans (b2.mono b1.size); have k2 := k1.below b2 l1; have t0 : w2.cell? ⟨w.heap.size, 0, none⟩ = some (.slice (some ⟨b, off, none⟩) 8 c) := k2.cell 0; have d1 := (b3.cell (p := ⟨b, off + f, none⟩) (show b < w.heap.size by omega)).trans c1; have HC := hid (show ∀ k, k < 6 → w2.cell? ⟨b', off' + k, none⟩ = some (.int .i64 (tE ts f k)) from fun k hk => (b3.cell (p := ⟨b', off' + k, none⟩) (show b' < w.heap.size by omega)).trans (hc k hk)); have B3 := hid b3; have hf1 : (f : Int) < 8 := by omega
 clear b1 b2 b3 k1 k2 c1 hc hr1 hbt; go_wp2; clear t0 d1; go_loop [5, 25] (fun s i => ∃ k : Nat, k ≤ 6 ∧ i = .int .i64 k ∧ s = .int .i64 (fsTo ts f k : Nat)) (fun _ i => 6 - (intOf i).toNat)
 case atStart => exact ⟨0, Nat.zero_le _, rfl, rfl⟩
 case round =>
  obtain ⟨k, hk, rfl, rfl⟩ := hrel; by_cases hlt : k < 6
  · have ck := HC.out k hlt; have HF := hid (show fsTo ts f (k + 1) = if 0 ≤ tE ts f k then k + 1 else fsTo ts f k from rfl); have hfl := fsTo_le ts f k; generalize fsTo ts f k = q at *; generalize tE ts f k = v at *; by_cases hv : 0 ≤ v
    · go_wp2; go_round
      case rel => exact ⟨k + 1, by omega, by go_num, by rw [HF.out, if_pos hv]; go_num⟩
      case measure => simp [intOf]; omega
    · go_wp2; go_round
      case rel => exact ⟨k + 1, by omega, by go_num, by rw [HF.out, if_neg hv]⟩
      case measure => simp [intOf]; omega
  · obtain rfl : k = 6 := by omega
    go_wp2; go_ret
    exact ⟨rfl, B3.out⟩
theorem fileSize_spec {A : Option Addr} {n c B f : Nat} {ts : List (List Int)} {w : World} (hr : RdT w B A n ts) (hB : B ≤ w.heap.size) (hok : TableOk ts) (hf : f < 8) :
 Calls Tryz.prog 144 #[.agg #[.slice A n c], .int .i64 (f : Nat)] w fun e w' => e = .returned (.int .i64 (fsize ts f : Nat)) ∧ Below w.heap.size w w' := by
 obtain ⟨rfl, b, off, b', off', c', rfl, hb, hb', q1, q2, c1, hc⟩ := hr.entry hok hf; have hbt := bof_t.2 hok; have hin : inB (f : Int) 0 7 = true := by rw [inB_t]; omega
 have b1 : Below w.heap.size w (w.alloc (.cells #[.slice (some ⟨b, off, none⟩) 8 c] 26)) := (Below.refl _ _).alloc (Nat.le_refl _) _; have k1 := Blk.new w 26 #[.slice (some ⟨b, off, none⟩) 8 c]; have l1 := k1.lt; have hr1 := (hr.mono hB).below b1; clear hr; go_enter Tryz.func144, Tryz.ntmps144
 go_wp2_with fail; generalize w.alloc (.cells #[.slice (some ⟨b, off, none⟩) 8 c] 26) = w1 at *
 refine (tableValid_spec hr1 b1.size (by omega)).mono ?_; rw [hbt]; rintro e w2 ⟨rfl, b2⟩; have b3 := b1.trans (b2.mono b1.size); have k2 := k1.below b2 l1; have T0 := hid (show w2.cell? ⟨w.heap.size, 0, none⟩ = some (.slice (some ⟨b, off, none⟩) 8 c) from k2.cell 0); have D1 := hid ((b3.cell (p := ⟨b, off + f, none⟩) (show b < w.heap.size by omega)).trans c1); have HC := hid (show ∀ k, k < 6 → w2.cell? ⟨b', off' + k, none⟩ = some (.int .i64 (tE ts f k)) from fun k hk => (b3.cell (p := ⟨b', off' + k, none⟩) (show b' < w.heap.size by omega)).trans (hc k hk)); have B3 := hid b3; have hf1 : (f : Int) < 8 := by omega
 clear b1 b2 b3 k1 k2 c1 hc hr1 hbt; go_wp2_with (go_at_call 53; refine (l1In_c _ _ _ _).mono ?_; rw [hin]; rintro e w' ⟨rfl, rfl⟩)
 go_loop [5] (fun i => ∃ k : Nat, k ≤ 6 ∧ i = .int .i64 ((k : Int) - 1) ∧ fsTo ts f k = fsize ts f) (fun i => (intOf i + 1).toNat)
 case atStart => exact ⟨6, Nat.le_refl _, rfl, rfl⟩
 case round =>
  obtain ⟨k, hk, rfl, hfs⟩ := hrel; have HFS := hid hfs; clear hfs; rcases k with _ | k
  · have HZ := hid (show fsize ts f = 0 from by rw [← HFS.out]; rfl); go_wp2; go_ret; exact ⟨ret_int (by rw [HZ.out]; rfl), B3.out⟩
  · have ck := HC.out k (by omega); have HF := hid (show fsTo ts f (k + 1) = if 0 ≤ tE ts f k then k + 1 else fsTo ts f k from rfl); have t0 := T0.out; have d1 := D1.out; generalize hv' : tE ts f k = v at *; have e1 : ((k + 1 : Nat) : Int) - 1 = (k : Int) := by omega
    rw [e1]; clear hv'; by_cases hv : 0 ≤ v
    · have HZ := hid (show fsize ts f = k + 1 from by rw [← HFS.out, HF.out, if_pos hv]); go_wp2; go_ret; exact ⟨ret_int (by rw [HZ.out]; rfl), B3.out⟩
    · have HZ := hid (show fsTo ts f k = fsize ts f from by rw [← HFS.out, HF.out, if_neg hv]); go_wp2; go_round
      case rel => exact ⟨k, by omega, rfl, HZ.out⟩
      case measure => simp [intOf]
def FitE (bs : List BlockV) (ts : List (List Int)) (f k : Nat) : Prop := tE ts f k < 0 ∨ ((pgAt bs (tE ts f k)).full = true ∧ (pgAt bs (tE ts f k)).file = (f : Int) ∧ (pgAt bs (tE ts f k)).place = (k : Int))
def FitsF (bs : List BlockV) (ts : List (List Int)) (f : Nat) : Prop := ∀ k, k < 6 → FitE bs ts f k
noncomputable def valE (bs : List BlockV) (ts : List (List Int)) (f k : Nat) : Int := if tE ts f k < 0 then 0 else (pgAt bs (tE ts f k)).value
noncomputable def fvals (bs : List BlockV) (ts : List (List Int)) (f : Nat) : List Int := (List.range (fsize ts f)).map (valE bs ts f)
open Classical in
noncomputable def fres (bs : List BlockV) (ts : List (List Int)) (f : Nat) : List Int := if FitsF bs ts f then fvals bs ts f else []
theorem fvals_len (bs : List BlockV) (ts : List (List Int)) (f : Nat) : (fvals bs ts f).length = fsize ts f := by simp [fvals]
theorem fvals_get {bs : List BlockV} {ts : List (List Int)} {f k : Nat} (h : k < fsize ts f) : (fvals bs ts f).getD k 0 = valE bs ts f k := by
 unfold fvals; simp [List.getD_eq_getElem?_getD, h]
theorem fitsF_of {bs : List BlockV} {ts : List (List Int)} {f : Nat} (h : ∀ k, k < fsize ts f → FitE bs ts f k) : FitsF bs ts f := by
 intro k hk
 rcases Nat.lt_or_ge k (fsize ts f) with h1 | h1
 · exact h k h1
 · exact .inl (fsTo_above ts f h1 hk)
set_option maxRecDepth 8000 in
theorem fileValues_impl {A tA : Option Addr} {n c tn tc B B' f : Nat} {bs : List BlockV} {ts : List (List Int)} {w : World} (hd : RdB w B A n bs) (hB : B ≤ w.heap.size) (hn : n ≤ 1048576) (hok : DevOk bs) (hr : RdT w B' tA tn ts) (hB' : B' ≤ w.heap.size) (htk : TableOk ts) (hf : f < 8) :
 Calls Tryz.prog 26 #[.slice A n c, .agg #[.slice tA tn tc], .int .i64 (f : Nat)] w (OwnIx w (fres bs ts f) (.bool (bof (FitsF bs ts f)))) := by
 obtain ⟨rfl, b, off, b', off', c', rfl, hb, hb', q1, q2, c1, hc⟩ := hr.entry htk hf; have b1 : Below w.heap.size w (w.alloc (.cells #[.slice (some ⟨b, off, none⟩) 8 tc] 26)) := (Below.refl _ _).alloc (Nat.le_refl _) _; have k1 := Blk.new w 26 #[.slice (some ⟨b, off, none⟩) 8 tc]; have l1 := k1.lt; have hr1 := (hr.mono hB').below b1; have hd1 := (hd.mono hB).below b1; have hbt := bof_t.2 hok; have hfz : fsize ts f ≤ 6 := fsTo_le ts f 6; have HOK := hid hok; have HTK := hid htk; clear hr hd hok htk; go_enter Tryz.func26, Tryz.ntmps26
 go_wp2_with fail; generalize w.alloc (.cells #[.slice (some ⟨b, off, none⟩) 8 tc] 26) = w1 at *
 refine (fileSize_impl hr1 b1.size HTK.out hf).mono ?_; rintro e w2 ⟨rfl, b2⟩; have b2' := b1.trans (b2.mono b1.size); have hd2 := hd1.below (b2.mono b1.size); have k2 := k1.below b2 l1; have l2 := k2.lt; have hFS := hid (show fsize ts f = fsize ts f from rfl); obtain ⟨q, hq⟩ : ∃ q, fsize ts f = q := ⟨_, rfl⟩; rw [hq] at hfz ⊢; have HQ := hid hq; clear b1 b2 k1 hr1 hd1 hq; go_wp2_with fail; refine (deviceValid_impl hd2 b2'.size hn).mono ?_; rw [hbt]; rintro e w3 ⟨rfl, b3⟩; have b4 := b2'.trans (b3.mono b2'.size); have k3 := k2.below b3 l2; have hd3 := hd2.below (b3.mono b2'.size); have hmk := make_ints q (by omega) w3; have HR := hid (show RowI (w3.alloc (.cells (cellsI (List.replicate q 0)) 3)) w3.heap.size (List.replicate q 0) from Blk.new _ _ _); have K4 := hid (k3.alloc (.cells (cellsI (List.replicate q 0)) 3)); have B4 := hid (b4.alloc b4.size (.cells (cellsI (List.replicate q 0)) 3)); have BX := hid (show Below w.heap.size w3 (w3.alloc (.cells (cellsI (List.replicate q 0)) 3)) from (Below.refl _ _).alloc b4.size _); have lg : w.heap.size < w3.heap.size := k3.lt; clear k2 k3 b2' b3 hd2 b4 hbt; go_wp2; clear hmk; generalize w3.alloc (.cells (cellsI (List.replicate q 0)) 3) = w4 at *; have hd4 := hd3.below BX.out; clear hd3; have HCB := hid B4.out; have D1 := hid ((B4.out.cell (p := ⟨b, off + f, none⟩) (show b < w.heap.size by omega)).trans c1); have HC := hid (show ∀ k, k < 6 → w4.cell? ⟨b', off' + k, none⟩ = some (.int .i64 (tE ts f k)) from fun k hk => (B4.out.cell (p := ⟨b', off' + k, none⟩) (show b' < w.heap.size by omega)).trans (hc k hk))
 clear c1 hc BX; generalize hg3 : w3.heap.size = g3 at *; have HML := hid (show (fvals bs ts f).length = (List.replicate q (0 : Int)).length from by rw [fvals_len, HQ.out]; simp); clear hg3; go_loopw [27] (fun i wr => ∃ k : Nat, k ≤ q ∧ i = .int .i64 k ∧ (∀ j, j < k → FitE bs ts f j) ∧ RowI wr g3 (repTo (fvals bs ts f) (List.replicate q 0) k) ∧ Blk wr w.heap.size 26 #[.slice (some ⟨b, off, none⟩) 8 tc] ∧ Below w.heap.size w wr ∧ Below w.heap.size w4 wr) (fun i _ => q - (intOf i).toNat)
 case atStart => exact ⟨0, Nat.zero_le _, rfl, fun j h => absurd h (Nat.not_lt_zero _), by rw [repTo_zero]; exact HR.out, K4.out, B4.out, Below.refl _ _⟩
 case round =>
  obtain ⟨k, hk, rfl, hfit, hrow, hkt, hbel, hb4⟩ := hrel; have HF := hid hfit; have HRW := hid hrow; have HKT := hid hkt; have HB := hid hbel; have HB4 := hid hb4; clear hfit hrow hkt hbel hb4; by_cases hlt : k < q
  · have c2 := (HB4.out.cell (p := ⟨b', off' + k, none⟩) (show b' < w.heap.size by omega)).trans (HC.out k (by omega)); have d1 := (HB4.out.cell (p := ⟨b, off + f, none⟩) (show b < w.heap.size by omega)).trans D1.out; have t0 : wr.cell? ⟨w.heap.size, 0, none⟩ = some (.slice (some ⟨b, off, none⟩) 8 tc) := HKT.out.cell 0; have HV := hid (show valE bs ts f k = if tE ts f k < 0 then 0 else (pgAt bs (tE ts f k)).value from rfl); have HFI := hid (show FitE bs ts f k ↔ (tE ts f k < 0 ∨ ((pgAt bs (tE ts f k)).full = true ∧ (pgAt bs (tE ts f k)).file = (f : Int) ∧ (pgAt bs (tE ts f k)).place = (k : Int))) from Iff.rfl); have HNO := hid (show ¬ FitE bs ts f k → ¬ FitsF bs ts f from fun h hh => h (hh k (by omega))); have HGT := hid (show (fvals bs ts f).getD k 0 = valE bs ts f k from fvals_get (by rw [HQ.out]; exact hlt)); have hre := repTo_set 0 (m := fvals bs ts f) (xs := List.replicate q 0) (j := k) HML.out (by simp; exact hlt); rw [HGT.out] at hre; have HRE := hid hre; have HLN := hid (show (repTo (fvals bs ts f) (List.replicate q 0) k).length = q from by rw [repTo_len HML.out (by simp; omega)]; simp); have hvr := tE_range HTK.out hf (k := k) (by omega); clear hre; by_cases hneg : tE ts f k < 0
    · have HR2 := hid (show RowI wr g3 (repTo (fvals bs ts f) (List.replicate q 0) (k + 1)) from by
       rw [← HRE.out, HV.out, if_pos hneg]; have e0 : (repTo (fvals bs ts f) (List.replicate q 0) k).getD k 0 = 0 := by
        rw [repTo_get 0 HML.out (Nat.le_refl _) (by simp; omega), List.getD_eq_getElem?_getD, List.getElem?_replicate, if_pos hlt]; rfl
       have := set_getD_self 0 (repTo (fvals bs ts f) (List.replicate q 0) k) (k := k) (by rw [HLN.out]; exact hlt); rw [e0] at this; rw [this]; exact HRW.out)
      have HF2 := hid (show ∀ j, j < k + 1 → FitE bs ts f j from fun j hj => by
       by_cases e : j = k
       · subst e; exact .inl hneg
       · exact HF.out j (by omega))
      clear HV HFI; generalize tE ts f k = v at *; go_wp2; go_roundw
      case rel => exact ⟨k + 1, by omega, by go_num, HF2.out, HR2.out, HKT.out, HB.out, HB4.out⟩
      case measure => simp [intOf]; omega
    · obtain ⟨v, hv⟩ : ∃ v, tE ts f k = v := ⟨_, rfl⟩; rw [hv] at HV HFI hneg c2 hvr; have hdr := hd4.below HB4.out; have hsz := HB.out.size; clear hv hd4; go_wp2_with fail; refine (readPage_iX hdr hsz hn HOK.out).mono ?_; rintro e w5 ⟨rfl, b5⟩; have HB5 := hid (HB.out.trans (b5.mono hsz)); have HB54 := hid (HB4.out.trans (b5.mono hsz)); have HRW5 := hid (Blk.below HRW.out b5 (Blk.lt HRW.out)); have HKT5 := hid (HKT.out.below b5 HKT.out.lt); have hs5 := HB5.out.size; generalize pgAt bs v = P at *; obtain ⟨fu, x, y, z, s⟩ := P; unfold pgv; simp only at HV HFI; clear b5 hdr c2 d1 t0; have HRX := hid (Blk.alloc HRW5.out (.cells #[.bool fu, .int .i64 x, .int .i64 y, .int .i64 z, .int .i64 s] 88)); have HKX := hid (HKT5.out.alloc (.cells #[.bool fu, .int .i64 x, .int .i64 y, .int .i64 z, .int .i64 s] 88)); have HBX := hid (HB5.out.alloc hs5 (.cells #[.bool fu, .int .i64 x, .int .i64 y, .int .i64 z, .int .i64 s] 88)); have HBX4 := hid (HB54.out.alloc hs5 (.cells #[.bool fu, .int .i64 x, .int .i64 y, .int .i64 z, .int .i64 s] 88)); by_cases hfu : fu = true
      · subst hfu; by_cases hx : x = (f : Int)
        · by_cases hy : y = (k : Int)
          · have hF2 := hid (show ∀ j, j < k + 1 → FitE bs ts f j from fun j hj => by
             by_cases e : j = k
             · subst e; exact HFI.out.2 (.inr ⟨rfl, hx, hy⟩)
             · exact HF.out j (by omega))
            have hqx : (x != (f : Int)) = false := by simp [hx]
            have hqx' : (x == (f : Int)) = true := by simp [hx]
            have hqy : (y != (k : Int)) = false := by simp [hy]
            have hqy' : (y == (k : Int)) = true := by simp [hy]
            have hrw5 : w5.cell? ⟨g3, k, none⟩ = some (.int .i64 ((repTo (fvals bs ts f) (List.replicate q 0) k).getD k 0)) := (Blk.cell HRW5.out k).trans (cellsI_get _ k (by rw [HLN.out]; exact hlt)); have hz5 := Blk.frozen HRW5.out k; have hlg : g3 < w5.heap.size := Blk.lt HRW5.out; have HR2 := hid (show RowI ((w5.alloc (.cells #[.bool true, .int .i64 x, .int .i64 y, .int .i64 z, .int .i64 s] 88)).setCell ⟨g3, k, none⟩ (.int .i64 z)) g3 (repTo (fvals bs ts f) (List.replicate q 0) (k + 1)) from by
             rw [← HRE.out, HV.out, if_neg (by omega)]; unfold RowI; rw [← cellsI_set]; exact Blk.set_ HRX.out k _)
            have HK2 := hid (HKX.out.far (p := ⟨g3, k, none⟩) (by show w.heap.size ≠ g3; omega) (.int .i64 z)); have HB2 := hid (HBX.out.setCell (p := ⟨g3, k, none⟩) (by show w.heap.size ≤ g3; omega) (.int .i64 z)); have HB42 := hid (HBX4.out.setCell (p := ⟨g3, k, none⟩) (by show w.heap.size ≤ g3; omega) (.int .i64 z)); rw [World.setCell_alloc_past _ _ _ _ hlg] at HR2 HK2 HB2 HB42; generalize (repTo (fvals bs ts f) (List.replicate q 0) k).getD k 0 = old at *; clear hx hy HRX HKX HBX HBX4; go_wp2; go_roundw
            case rel => exact ⟨k + 1, by omega, by go_num, hF2.out, HR2.out, HK2.out, HB2.out, HB42.out⟩
            case measure => simp [intOf]; omega
          · have hno := hid (HNO.out (fun h => by
             rcases HFI.out.1 h with h | ⟨_, _, h⟩
             · exact absurd h (by omega)
             · exact hy h))
            have hfr := hid (show fres bs ts f = [] from by unfold fres; rw [if_neg hno.out]); have hqx : (x != (f : Int)) = false := by simp [hx]
            have hqx' : (x == (f : Int)) = true := by simp [hx]
            have hqy : (y != (k : Int)) = true := by simp [hy]
            have hqy' : (y == (k : Int)) = false := by simp [hy]
            clear hx hy; go_wp2; go_ret2
            rw [bof_f.2 hno.out, hfr.out]; exact ownIx_of rfl (World.ownsRow_nil _ _ _ _) HBX.out
        · have hno := hid (HNO.out (fun h => by
           rcases HFI.out.1 h with h | ⟨_, h, _⟩
           · exact absurd h (by omega)
           · exact hx h))
          have hfr := hid (show fres bs ts f = [] from by unfold fres; rw [if_neg hno.out]); have hqx : (x != (f : Int)) = true := by simp [hx]
          have hqx' : (x == (f : Int)) = false := by simp [hx]
          clear hx; go_wp2; go_ret2
          rw [bof_f.2 hno.out, hfr.out]; exact ownIx_of rfl (World.ownsRow_nil _ _ _ _) HBX.out
      · obtain rfl : fu = false := by simpa using hfu
        have hno := hid (HNO.out (fun h => by
         rcases HFI.out.1 h with h | ⟨h, _⟩
         · exact absurd h (by omega)
         · cases h))
        have hfr := hid (show fres bs ts f = [] from by unfold fres; rw [if_neg hno.out]); clear hfu; go_wp2; go_ret2
        rw [bof_f.2 hno.out, hfr.out]; exact ownIx_of rfl (World.ownsRow_nil _ _ _ _) HBX.out
  · obtain rfl : k = q := by omega
    have hyes := hid (fitsF_of (bs := bs) (ts := ts) (f := f) (by rw [HQ.out]; exact HF.out)); have hfr := hid (show fres bs ts f = fvals bs ts f from by unfold fres; rw [if_pos hyes.out]); have hrw := HRW.out; have hall := repTo_all HML.out; rw [List.length_replicate] at hall; rw [hall] at hrw; have hl : (fvals bs ts f).length = k := by rw [fvals_len, HQ.out]
    have how := hrw.own (base := w.heap.size) (by omega) (by unfold maxLen; omega); rw [hl] at how; have HOW := hid how; have HLE := hid hl; clear hrw hall how hl; go_wp2; go_ret2
    rw [bof_t.2 hyes.out, hfr.out]; exact ownIx_of HLE.out HOW.out HB.out
theorem fvals_take {bs : List BlockV} {ts : List (List Int)} {f k : Nat} (h : k < fsize ts f) : (fvals bs ts f).take (k + 1) = (fvals bs ts f).take k ++ [valE bs ts f k] := by
 have hl : k < (fvals bs ts f).length := by rw [fvals_len]; exact h
 rw [List.take_succ_eq_append_getElem hl]; have := fvals_get (bs := bs) h; rw [List.getD_eq_getElem?_getD, List.getElem?_eq_getElem hl] at this; rw [← this]; rfl
set_option maxRecDepth 8000 in
set_option maxHeartbeats 1000000 in
theorem fileValues_spec {A tA : Option Addr} {n c tn tc B B' f : Nat} {bs : List BlockV} {ts : List (List Int)} {w : World} (hd : RdB w B A n bs) (hB : B ≤ w.heap.size) (hn : n ≤ 1048576) (hok : DevOk bs) (hr : RdT w B' tA tn ts) (hB' : B' ≤ w.heap.size) (htk : TableOk ts) (hf : f < 8) :
 Calls Tryz.prog 94 #[.slice A n c, .agg #[.slice tA tn tc], .int .i64 (f : Nat)] w (OwnIx w (fres bs ts f) (.bool (bof (FitsF bs ts f)))) := by
 obtain ⟨rfl, b, off, b', off', c', rfl, hb, hb', q1, q2, c1, hc⟩ := hr.entry htk hf; have b1 : Below w.heap.size w ((w.alloc (.cells #[.slice (some ⟨b, off, none⟩) 8 tc] 26)).alloc (.cells #[] 3)) := ((Below.refl _ _).alloc (Nat.le_refl _) _).alloc (by simp) _; have e1 : (w.alloc (.cells #[.slice (some ⟨b, off, none⟩) 8 tc] 26)).heap.size = w.heap.size + 1 := by simp
 have k1 := (Blk.new w 26 #[.slice (some ⟨b, off, none⟩) 8 tc]).alloc (.cells #[] 3); have o1 : ((w.alloc (.cells #[.slice (some ⟨b, off, none⟩) 8 tc] 26)).alloc (.cells #[] 3)).ownsRow (w.heap.size + 1) 3 1 (.slice (some ⟨w.heap.size + 1, 0, none⟩) 0 0) 0 (([] : List Int).map (Value.int .i64)) := by
  have := World.ownsRow_lit (base := w.heap.size + 1) (e := 3) (size := 1) (w.alloc (.cells #[.slice (some ⟨b, off, none⟩) 8 tc] 26)) #[] 0 (by rw [e1]; exact Nat.le_refl _) (by decide) rfl; rw [e1] at this; exact this
 have hr1 := (hr.mono hB').below b1; have hd1 := (hd.mono hB).below b1; have l1 := k1.lt; have hbt := bof_t.2 hok; have hfz : fsize ts f ≤ 6 := fsTo_le ts f 6; have HOK := hid hok; have HTK := hid htk; obtain ⟨q, hq⟩ : ∃ q, fsize ts f = q := ⟨_, rfl⟩; rw [hq] at hfz; have HQ := hid hq; have O1 := hid o1; have lz : w.heap.size + 1 < ((w.alloc (.cells #[.slice (some ⟨b, off, none⟩) 8 tc] 26)).alloc (.cells #[] 3)).heap.size := by simp
 clear hr hd hok htk e1 hq o1; go_enter Tryz.func94, Tryz.ntmps94
 go_wp2_with fail; generalize (w.alloc (.cells #[.slice (some ⟨b, off, none⟩) 8 tc] 26)).alloc (.cells #[] 3) = w1 at *
 refine (deviceValid_spec hd1 b1.size hn).mono ?_; rw [hbt]; rintro e w2 ⟨rfl, b2⟩; have b2' := b1.trans (b2.mono b1.size); have k2 := k1.below b2 l1; have l2 := k2.lt; have hr2 := hr1.below (b2.mono b1.size); have O2 := hid (own_below O1.out b2); have t0 : w2.cell? ⟨w.heap.size, 0, none⟩ = some (.slice (some ⟨b, off, none⟩) 8 tc) := k2.cell 0; have hd2 := hd1.below (b2.mono b1.size); have lz2 : w.heap.size + 1 < w2.heap.size := by have := b2.size; omega
 clear b1 b2 k1 hr1 hd1 hbt O1; go_wp2_with fail; refine (fileSize_spec hr2 b2'.size HTK.out hf).mono ?_; rintro e w3 ⟨rfl, b3⟩; rw [HQ.out]; have b4 := b2'.trans (b3.mono b2'.size); have K3 := hid (k2.below b3 l2); have hd3 := hd2.below (b3.mono b2'.size); have hr3 := hr2.below (b3.mono b2'.size); have O3 := hid (own_below O2.out b3); have B4 := hid b4; have lz3 : w.heap.size + 1 < w3.heap.size := by have := b3.size; omega
 have hb4s := b4.size; clear k2 b2' b3 hd2 hr2 b4 t0 O2; go_wp2_with fail; have D1 := hid ((B4.out.cell (p := ⟨b, off + f, none⟩) (show b < w.heap.size by omega)).trans c1); have HC := hid (show ∀ k, k < 6 → w3.cell? ⟨b', off' + k, none⟩ = some (.int .i64 (tE ts f k)) from fun k hk => (B4.out.cell (p := ⟨b', off' + k, none⟩) (show b' < w.heap.size by omega)).trans (hc k hk)); clear c1 hc; have hf1 : (f : Int) < 8 := by omega
 go_loopw [8, 9] (fun v i wr => ∃ (k : Nat) (A : Option Addr) (c : Nat), k ≤ q ∧ i = .int .i64 k ∧ v = .slice A k c ∧ (∀ j, j < k → FitE bs ts f j) ∧ wr.ownsRow (w.heap.size + 1) 3 1 (.slice A k c) k (((fvals bs ts f).take k).map (Value.int .i64)) ∧ Blk wr w.heap.size 26 #[.slice (some ⟨b, off, none⟩) 8 tc] ∧ Below w.heap.size w wr ∧ Below w.heap.size w3 wr ∧ w.heap.size + 1 < wr.heap.size) (fun _ i _ => q - (intOf i).toNat)
 case atStart => exact ⟨0, _, _, Nat.zero_le _, rfl, rfl, fun j h => absurd h (Nat.not_lt_zero _), O3.out, K3.out, B4.out, Below.refl _ _, lz3⟩
 case round =>
  obtain ⟨k, A, c, hk, rfl, rfl, hfit, hown, hkt, hbel, hb4, hlz⟩ := hrel; have HF := hid hfit; have HO := hid hown; have HKT := hid hkt; have HB := hid hbel; have HB4 := hid hb4; have t0 : wr.cell? ⟨w.heap.size, 0, none⟩ = some (.slice (some ⟨b, off, none⟩) 8 tc) := hkt.cell 0; have hrr := hr3.below hb4; have hdr := hd3.below hb4; have hsz := hbel.size; have lg := hkt.lt; clear hfit hown hkt hbel hb4; go_wp2_with fail; refine (fileSize_spec hrr hsz HTK.out hf).mono ?_; rintro e w5 ⟨rfl, b5⟩; rw [HQ.out]; have HO5 := hid (own_below HO.out b5); have HKT5 := hid (HKT.out.below b5 lg); have HB5 := hid (HB.out.trans (b5.mono hsz)); have HB45 := hid (HB4.out.trans (b5.mono hsz)); have t5 : w5.cell? ⟨w.heap.size, 0, none⟩ = some (.slice (some ⟨b, off, none⟩) 8 tc) := HKT5.out.cell 0; have hdr5 := hdr.below (b5.mono hsz); have hs5 := HB5.out.size; have hlz5 : w.heap.size + 1 < w5.heap.size := by have := b5.size; omega
  clear b5 hrr hdr t0 HO HKT HB HB4 hlz lg; by_cases hlt : k < q
  · have c2 := (HB45.out.cell (p := ⟨b', off' + k, none⟩) (show b' < w.heap.size by omega)).trans (HC.out k (by omega)); have d1 := (HB45.out.cell (p := ⟨b, off + f, none⟩) (show b < w.heap.size by omega)).trans D1.out; have HV := hid (show valE bs ts f k = if tE ts f k < 0 then 0 else (pgAt bs (tE ts f k)).value from rfl); have HFI := hid (show FitE bs ts f k ↔ (tE ts f k < 0 ∨ ((pgAt bs (tE ts f k)).full = true ∧ (pgAt bs (tE ts f k)).file = (f : Int) ∧ (pgAt bs (tE ts f k)).place = (k : Int))) from Iff.rfl); have HNO := hid (show ¬ FitE bs ts f k → ¬ FitsF bs ts f from fun h hh => h (hh k (by omega))); have HTA := hid (fvals_take (bs := bs) (ts := ts) (f := f) (k := k) (by rw [HQ.out]; exact hlt)); have hvr := tE_range HTK.out hf (k := k) (by omega); obtain ⟨v, hv⟩ : ∃ v, tE ts f k = v := ⟨_, rfl⟩; rw [hv] at HV HFI c2 hvr; clear hv; go_wp2_with fail; refine (readPage_sX hdr5 hs5 hn HOK.out).mono ?_; rintro e w6 ⟨rfl, b6⟩; have HO6 := hid (own_below HO5.out b6); have HKT6 := hid (HKT5.out.below b6 HKT5.out.lt); have HB6 := hid (HB5.out.trans (b6.mono hs5)); have HB46 := hid (HB45.out.trans (b6.mono hs5)); have t6 : w6.cell? ⟨w.heap.size, 0, none⟩ = some (.slice (some ⟨b, off, none⟩) 8 tc) := HKT6.out.cell 0; have c6 := (b6.cell (p := ⟨b', off' + k, none⟩) (block_lt_of_cell c2)).trans c2; have d6 := (b6.cell (p := ⟨b, off + f, none⟩) (block_lt_of_cell d1)).trans d1; have hs6 := HB6.out.size; have hlz6 : w.heap.size + 1 < w6.heap.size := by have := b6.size; omega
    generalize pgAt bs v = P at *; obtain ⟨fu, x, y, z, s⟩ := P; unfold pgv; simp only at HV HFI; clear b6 hdr5 c2 d1 t5 HO5 HKT5 HB5 HB45 hs5 hlz5; have HOX := hid (HO6.out.alloc (.cells #[.bool fu, .int .i64 x, .int .i64 y, .int .i64 z, .int .i64 s] 88)); have HKX := hid (HKT6.out.alloc (.cells #[.bool fu, .int .i64 x, .int .i64 y, .int .i64 z, .int .i64 s] 88)); have HBX := hid (HB6.out.alloc hs6 (.cells #[.bool fu, .int .i64 x, .int .i64 y, .int .i64 z, .int .i64 s] 88)); have HBX4 := hid (HB46.out.alloc hs6 (.cells #[.bool fu, .int .i64 x, .int .i64 y, .int .i64 z, .int .i64 s] 88)); go_upto_region 9 with (fail)
    have bpx : Below w6.heap.size w6 (w6.alloc (.cells #[.bool fu, .int .i64 x, .int .i64 y, .int .i64 z, .int .i64 s] 88)) := (Below.refl _ _).alloc (Nat.le_refl _) _; have kpx := Blk.new w6 88 #[.bool fu, .int .i64 x, .int .i64 y, .int .i64 z, .int .i64 s]; have t7 := (bpx.cell (p := ⟨w.heap.size, 0, none⟩) (block_lt_of_cell t6)).trans t6; have c7 := (bpx.cell (p := ⟨b', off' + k, none⟩) (block_lt_of_cell c6)).trans c6; have d7 := (bpx.cell (p := ⟨b, off + f, none⟩) (block_lt_of_cell d6)).trans d6; have hbx := Nat.lt_of_lt_of_le hlz6 bpx.size; clear t6 c6 d6 bpx; generalize w6.alloc (.cells #[.bool fu, .int .i64 x, .int .i64 y, .int .i64 z, .int .i64 s] 88) = wx at *; generalize w6.heap.size = g6 at *; obtain ⟨p0, p1, p2, p3, p4⟩ : wx.cell? ⟨g6, 0, none⟩ = some (.bool fu) ∧ wx.cell? ⟨g6, 1, none⟩ = some (.int .i64 x) ∧ wx.cell? ⟨g6, 2, none⟩ = some (.int .i64 y) ∧ wx.cell? ⟨g6, 3, none⟩ = some (.int .i64 z) ∧ wx.cell? ⟨g6, 4, none⟩ = some (.int .i64 s) := ⟨kpx.cell 0, kpx.cell 1, kpx.cell 2, kpx.cell 3, kpx.cell 4⟩; clear kpx; by_cases hneg : v < 0
    · have hF2 := hid (show ∀ j, j < k + 1 → FitE bs ts f j from fun j hj => by
       by_cases e : j = k
       · subst e; exact HFI.out.2 (.inl hneg)
       · exact HF.out j (by omega))
      go_wp2_with (at_builtin; refine wpList_appI rfl rfl rfl HOX.out rfl (by omega) (by omega) ?_; rintro g7 c7 w7 o7 gr7 hg7)
      have HO7 := hid (show w7.ownsRow (w.heap.size + 1) 3 1 (.slice (some ⟨g7, 0, none⟩) (k + 1) c7) (k + 1) (((fvals bs ts f).take (k + 1)).map (Value.int .i64)) from by rw [HTA.out, HV.out, if_pos (by omega)]; exact o7); have HB7 := hid ((below_app (HBX.out.mono (Nat.le_refl _)) (own_lower HOX.out (Nat.le_succ _)) HBX.out.size gr7)); have HB47 := hid ((below_app (HBX4.out.mono (Nat.le_refl _)) (own_lower HOX.out (Nat.le_succ _)) HBX.out.size gr7)); have HKT7 := hid (HKX.out.grown gr7 (fun e => by have := own_lt HOX.out e.symm; omega)); have hlz7 : w.heap.size + 1 < w7.heap.size := by have := gr7.size; omega
      clear o7 gr7 HOX HBX HBX4 HKX; go_roundw
      case rel => exact ⟨k + 1, _, _, by omega, by go_num, rfl, hF2.out, HO7.out, HKT7.out, HB7.out, HB47.out, hlz7⟩
      case measure => simp [intOf]; omega
    · by_cases hfu : fu = true
      · subst hfu; by_cases hx : x = (f : Int)
        · by_cases hy : y = (k : Int)
          · have hF2 := hid (show ∀ j, j < k + 1 → FitE bs ts f j from fun j hj => by
             by_cases e : j = k
             · subst e; exact HFI.out.2 (.inr ⟨rfl, hx, hy⟩)
             · exact HF.out j (by omega))
            have hqx' : (x == (f : Int)) = true := by simp [hx]
            have hqy' : (y == (k : Int)) = true := by simp [hy]
            clear hx hy; go_wp2_with (at_builtin; refine wpList_appI rfl rfl rfl HOX.out rfl (by omega) (by omega) ?_; rintro g7 c7 w7 o7 gr7 hg7)
            have HO7 := hid (show w7.ownsRow (w.heap.size + 1) 3 1 (.slice (some ⟨g7, 0, none⟩) (k + 1) c7) (k + 1) (((fvals bs ts f).take (k + 1)).map (Value.int .i64)) from by rw [HTA.out, HV.out, if_neg (by omega)]; exact o7); have HB7 := hid ((below_app (HBX.out.mono (Nat.le_refl _)) (own_lower HOX.out (Nat.le_succ _)) HBX.out.size gr7)); have HB47 := hid ((below_app (HBX4.out.mono (Nat.le_refl _)) (own_lower HOX.out (Nat.le_succ _)) HBX.out.size gr7)); have HKT7 := hid (HKX.out.grown gr7 (fun e => by have := own_lt HOX.out e.symm; omega)); have hlz7 : w.heap.size + 1 < w7.heap.size := by have := gr7.size; omega
            clear o7 gr7 HOX HBX HBX4 HKX; go_roundw
            case rel => exact ⟨k + 1, _, _, by omega, by go_num, rfl, hF2.out, HO7.out, HKT7.out, HB7.out, HB47.out, hlz7⟩
            case measure => simp [intOf]; omega
          · have hno := hid (HNO.out (fun h => by
             rcases HFI.out.1 h with h | ⟨_, _, h⟩
             · exact absurd h (by omega)
             · exact hy h))
            have hqx' : (x == (f : Int)) = true := by simp [hx]
            have hqy' : (y == (k : Int)) = false := by simp [hy]
            clear hx hy; have HRE := hid (show fres bs ts f = [] from by unfold fres; rw [if_neg hno.out]); go_wp2; go_ret2
            rw [bof_f.2 hno.out, HRE.out]; exact ownIx_of (A := some ⟨_, 0, none⟩) rfl (World.ownsRow_lit _ #[] 0 HBX.out.size (by decide) rfl) (HBX.out.alloc HBX.out.size _)
        · have hno := hid (HNO.out (fun h => by
           rcases HFI.out.1 h with h | ⟨_, h, _⟩
           · exact absurd h (by omega)
           · exact hx h))
          have hqx' : (x == (f : Int)) = false := by simp [hx]
          clear hx; have HRE := hid (show fres bs ts f = [] from by unfold fres; rw [if_neg hno.out]); go_wp2; go_ret2
          rw [bof_f.2 hno.out, HRE.out]; exact ownIx_of (A := some ⟨_, 0, none⟩) rfl (World.ownsRow_lit _ #[] 0 HBX.out.size (by decide) rfl) (HBX.out.alloc HBX.out.size _)
      · obtain rfl : fu = false := by simpa using hfu
        have hno := hid (HNO.out (fun h => by
         rcases HFI.out.1 h with h | ⟨h, _⟩
         · exact absurd h (by omega)
         · cases h))
        clear hfu; have HRE := hid (show fres bs ts f = [] from by unfold fres; rw [if_neg hno.out]); go_wp2; go_ret2
        rw [bof_f.2 hno.out, HRE.out]; exact ownIx_of (A := some ⟨_, 0, none⟩) rfl (World.ownsRow_lit _ #[] 0 HBX.out.size (by decide) rfl) (HBX.out.alloc HBX.out.size _)
  · obtain rfl : k = q := by omega
    have hyes := hid (fitsF_of (bs := bs) (ts := ts) (f := f) (by rw [HQ.out]; exact HF.out)); have hfr := hid (show fres bs ts f = fvals bs ts f from by unfold fres; rw [if_pos hyes.out]); have hl : (fvals bs ts f).length = k := by rw [fvals_len, HQ.out]
    have how := own_lower (base' := w.heap.size) HO5.out (by omega); rw [show (fvals bs ts f).take k = fvals bs ts f from List.take_of_length_le (by omega)] at how; have HOW := hid how; have HLE := hid hl; clear how hl; go_wp2; go_ret2
    rw [bof_t.2 hyes.out, hfr.out]; exact ownIx_of HLE.out HOW.out HB5.out
abbrev nTxt (ns : List NameV) (i : Nat) : ByteArray := (ns.getD i noName).1
abbrev nFil (ns : List NameV) (i : Nat) : Int := (ns.getD i noName).2
def NamOk (ns : List NameV) (i : Nat) : Prop := TextOk (nTxt ns i) ∧ (0 ≤ nFil ns i ∧ nFil ns i ≤ 7) ∧ (0 < i → NBef (nTxt ns (i - 1)) (nTxt ns i)) ∧ (3 ≤ i → bucket (nTxt ns (i - 3)) ≠ bucket (nTxt ns i))
def PreN (ns : List NameV) (k : Nat) : Prop := ∀ i, i < k → NamOk ns i
def NamesOk (ns : List NameV) : Prop := PreN ns ns.length
theorem PreN.zero (ns : List NameV) : PreN ns 0 := fun i h => absurd h (Nat.not_lt_zero _)
theorem PreN.succ {ns : List NameV} {k : Nat} (h : PreN ns k) (h1 : NamOk ns k) : PreN ns (k + 1) := by
 intro i hi
 by_cases e : i = k
 · subst e; exact h1
 · exact h i (by omega)
theorem bef_bucket {a b : ByteArray} (h : NBef a b) : bucket a ≤ bucket b := by rcases h with h | ⟨h, _⟩ <;> omega
theorem PreN.mono {ns : List NameV} {k : Nat} (h : PreN ns k) : ∀ {i j : Nat}, i ≤ j → j < k → bucket (nTxt ns i) ≤ bucket (nTxt ns j)
 | i, 0, hij, hj => by
  obtain rfl : i = 0 := by omega
  exact Int.le_refl _
 | i, j + 1, hij, hj => by
  by_cases e : i = j + 1
  · subst e; exact Int.le_refl _
  · have h1 := h.mono (i := i) (j := j) (by omega) (by omega); have h2 := bef_bucket ((h (j + 1) hj).2.2.1 (by omega)); simp only [Nat.add_sub_cancel] at h2; exact Int.le_trans h1 h2
open Classical in
/-- how many of the first k names lie in bucket b -/
noncomputable def cntB (ns : List NameV) (b : Int) : Nat → Nat
 | 0 => 0
 | k + 1 => cntB ns b k + if bucket (nTxt ns k) = b then 1 else 0
theorem cntB_le (ns : List NameV) (b : Int) : ∀ k, cntB ns b k ≤ k
 | 0 => Nat.le_refl _
 | k + 1 => by have := cntB_le ns b k; unfold cntB; split <;> omega
theorem cntB_yes {ns : List NameV} {b : Int} {k : Nat} (h : bucket (nTxt ns k) = b) : cntB ns b (k + 1) = cntB ns b k + 1 := by
 show cntB ns b k + _ = _; rw [if_pos h]
theorem cntB_no {ns : List NameV} {b : Int} {k : Nat} (h : bucket (nTxt ns k) ≠ b) : cntB ns b (k + 1) = cntB ns b k := by
 show cntB ns b k + _ = _; rw [if_neg h]; rfl
theorem cntB_zero {ns : List NameV} {b : Int} : ∀ {k : Nat}, (∀ i, i < k → bucket (nTxt ns i) ≠ b) → cntB ns b k = 0
 | 0, _ => rfl
 | k + 1, h => by rw [cntB_no (h k (by omega))]; exact cntB_zero (fun i hi => h i (by omega))
theorem cntB_three {ns : List NameV} {k : Nat} (hp : PreN ns k) (hb : 0 < k → bucket (nTxt ns (k - 1)) ≤ bucket (nTxt ns k)) : 3 ≤ cntB ns (bucket (nTxt ns k)) k ↔ (3 ≤ k ∧ bucket (nTxt ns (k - 3)) = bucket (nTxt ns k)) := by
 constructor
 · intro h
   have hle := cntB_le ns (bucket (nTxt ns k)) k; refine ⟨by omega, ?_⟩; obtain ⟨q, rfl⟩ : ∃ q, k = q + 3 := ⟨k - 3, by omega⟩; have e0 : q + 3 - 3 = q := by omega
   have e1 : q + 3 - 1 = q + 2 := by omega
   rw [e0]; rw [e1] at hb; by_cases hne : bucket (nTxt ns q) = bucket (nTxt ns (q + 3))
   · exact hne
   · exfalso
     have hm := hp.mono (i := q) (j := q + 2) (by omega) (by omega); have hlt : bucket (nTxt ns q) < bucket (nTxt ns (q + 3)) := by have := hb (by omega); omega
     have hz : cntB ns (bucket (nTxt ns (q + 3))) (q + 1) = 0 := cntB_zero (fun i hi => by have := hp.mono (i := i) (j := q) (by omega) (by omega); omega); have a1 : cntB ns (bucket (nTxt ns (q + 3))) (q + 3) ≤ cntB ns (bucket (nTxt ns (q + 3))) (q + 1) + 2 := by
      have b1 : cntB ns (bucket (nTxt ns (q + 3))) (q + 2) ≤ cntB ns (bucket (nTxt ns (q + 3))) (q + 1) + 1 := by
       show cntB _ _ (q + 1) + _ ≤ _; split <;> omega
      have b2 : cntB ns (bucket (nTxt ns (q + 3))) (q + 3) ≤ cntB ns (bucket (nTxt ns (q + 3))) (q + 2) + 1 := by
       show cntB _ _ (q + 2) + _ ≤ _; split <;> omega
      omega
     omega
 · rintro ⟨h3, he⟩; obtain ⟨q, rfl⟩ : ∃ q, k = q + 3 := ⟨k - 3, by omega⟩; have e0 : q + 3 - 3 = q := by omega
   have e1 : q + 3 - 1 = q + 2 := by omega
   rw [e0] at he; rw [e1] at hb; have m1 := hp.mono (i := q) (j := q + 1) (by omega) (by omega); have m2 := hp.mono (i := q + 1) (j := q + 2) (by omega) (by omega); have m3 := hb (by omega); have c0 := cntB_yes (ns := ns) (b := bucket (nTxt ns (q + 3))) (k := q) he; have c1 := cntB_yes (ns := ns) (b := bucket (nTxt ns (q + 3))) (k := q + 1) (by omega); have c2 := cntB_yes (ns := ns) (b := bucket (nTxt ns (q + 3))) (k := q + 2) (by omega); have d1 : cntB ns (bucket (nTxt ns (q + 3))) (q + 1 + 1) = cntB ns (bucket (nTxt ns (q + 3))) (q + 2) := rfl; have d2 : cntB ns (bucket (nTxt ns (q + 3))) (q + 2 + 1) = cntB ns (bucket (nTxt ns (q + 3))) (q + 3) := rfl; omega
def Counts (cs : Array Value) (ns : List NameV) (k : Nat) : Prop := cs.size = 3 ∧ ∀ b : Nat, b < 3 → cs[b]? = some (.int .i64 (cntB ns b k : Nat))
theorem Counts.zero (ns : List NameV) : Counts #[.int .i64 0, .int .i64 0, .int .i64 0] ns 0 := by
 refine ⟨rfl, fun b hb => ?_⟩; match b, hb with
 | 0, _ => rfl
 | 1, _ => rfl
 | 2, _ => rfl
theorem Counts.step {cs : Array Value} {ns : List NameV} {k b : Nat} (h : Counts cs ns k) (hb : b < 3) (he : bucket (nTxt ns k) = (b : Int)) : Counts (cs.setIfInBounds b (.int .i64 ((cntB ns b k : Nat) + 1))) ns (k + 1) := by
 refine ⟨by simp [h.1], fun b' hb' => ?_⟩; by_cases e : b = b'
 · subst e; rw [Array.getElem?_setIfInBounds_self_of_lt (by rw [h.1]; exact hb), cntB_yes he]; simp
 · rw [Array.getElem?_setIfInBounds_ne e, h.2 b' hb', cntB_no (by omega)]
theorem namesValid_impl {A : Option Addr} {n c B : Nat} {ns : List NameV} {w : World} (hr : RdN w B A n ns) (hB : B ≤ w.heap.size) (hn : n ≤ 1048576) (hsm : ∀ i, i < n → (nTxt ns i).size ≤ 9223372036854775807) :
 Calls Tryz.prog 43 #[.slice A n c] w fun e w' => e = .returned (.bool (bof (NamesOk ns))) ∧ Below w.heap.size w w' := by
 have HL := hid hr.len; have HSM := hid hsm; have b1 : Below w.heap.size w (w.alloc (.cells #[.int .i64 0, .int .i64 0, .int .i64 0] 128)) := (Below.refl _ _).alloc (Nat.le_refl _) _; have k1 := Blk.new w 128 #[.int .i64 0, .int .i64 0, .int .i64 0]; have hr1 := (hr.mono hB).below b1; have B1 := hid b1; have K1 := hid k1; clear hsm b1 k1 hr; go_enter Tryz.func43, Tryz.ntmps43
 go_wp2; generalize w.alloc (.cells #[.int .i64 0, .int .i64 0, .int .i64 0] 128) = w1 at *
 go_loopw [9] (fun i wr => ∃ (k : Nat) (cs : Array Value), k ≤ n ∧ i = .int .i64 k ∧ PreN ns k ∧ Counts cs ns k ∧ Blk wr w.heap.size 128 cs ∧ Below w.heap.size w wr ∧ Below w.heap.size w1 wr) (fun i _ => n - (intOf i).toNat)
 case atStart => exact ⟨0, _, Nat.zero_le _, rfl, PreN.zero _, Counts.zero _, K1.out, B1.out, Below.refl _ _⟩
 case round =>
  obtain ⟨k, cs, hk, rfl, hpre, hcnt, hblk, hbel, hb1⟩ := hrel; have HP := hid hpre; have HC := hid hcnt; by_cases hlt : k < n
  · have hNO := hid (show ¬ NamOk ns k → ¬ NamesOk ns from fun h hh => h (hh k (by have := HL.out; omega))); obtain ⟨b, off, rfl, hbB, hc⟩ := hr1.at_ (by omega); obtain ⟨c0, c1⟩ := hc k hlt; have hbw : b < w.heap.size := by omega
    replace c0 := (hb1.cell (p := ⟨b, off + k * 2, none⟩) hbw).trans c0; replace c1 := (hb1.cell (p := ⟨b, off + k * 2 + 1, none⟩) hbw).trans c1; have hsk := HSM.out k hlt; have hbl := Blk.lt hblk; have hsz := hbel.size; have HK := hid hblk; have HB := hid hbel; have HB1 := hid hb1; have HCL := hid hc; have HPV := hid (show 0 < k → wr.cell? ⟨b, off + (k - 1) * 2, none⟩ = some (.string (nTxt ns (k - 1))) from fun h => (hb1.cell (p := ⟨b, off + (k - 1) * 2, none⟩) hbw).trans (hc (k - 1) (by omega)).1); have HPS := hid (show 0 < k → (nTxt ns (k - 1)).size ≤ 9223372036854775807 from fun h => HSM.out (k - 1) (by omega)); have HOKI := hid (show NamOk ns k ↔ TextOk (nTxt ns k) ∧ (0 ≤ nFil ns k ∧ nFil ns k ≤ 7) ∧ (0 < k → NBef (nTxt ns (k - 1)) (nTxt ns k)) ∧ (3 ≤ k → bucket (nTxt ns (k - 3)) ≠ bucket (nTxt ns k)) from Iff.rfl); have HBK := hid (show bucket (nTxt ns k) = bucket (nTxt ns k) from rfl); obtain ⟨p, hp⟩ : ∃ p, nTxt ns (k - 1) = p := ⟨_, rfl⟩; rw [hp] at HPV HPS HOKI; obtain ⟨P, hP⟩ : ∃ P, ns.getD k noName = P := ⟨_, rfl⟩; have hP1 : nTxt ns k = P.1 := by rw [← hP]
    have hP2 : nFil ns k = P.2 := by rw [← hP]
    rw [hP] at c0 c1; rw [hP1] at hsk HOKI; rw [hP2] at HOKI; have HP1 := hid hP1; have HPP := hid hp; obtain ⟨s, f⟩ := P; simp only at c0 c1 hsk HOKI HP1; clear hpre hcnt hc hr1 hblk hbel hb1 hP hP1 hP2 hp; go_wp2_with fail; have kx := Blk.new wr 78 #[.string s, .int .i64 f]; have HKX := hid (HK.out.alloc (.cells #[.string s, .int .i64 f] 78)); have HBX := hid (HB.out.alloc hsz (.cells #[.string s, .int .i64 f] 78)); have HBX1 := hid (HB1.out.alloc (by have := HB1.out.size; omega) (.cells #[.string s, .int .i64 f] 78)); have HPX := hid (show 0 < k → (wr.alloc (.cells #[.string s, .int .i64 f] 78)).cell? ⟨b, off + (k - 1) * 2, none⟩ = some (.string p) from fun h => (((Below.refl _ _).alloc (Nat.le_refl _) _).cell (p := ⟨b, off + (k - 1) * 2, none⟩) (by show b < wr.heap.size; omega)).trans (HPV.out h)); have x0 : (wr.alloc (.cells #[.string s, .int .i64 f] 78)).cell? ⟨wr.heap.size, 0, none⟩ = some (.string s) := kx.cell 0; have x1 : (wr.alloc (.cells #[.string s, .int .i64 f] 78)).cell? ⟨wr.heap.size, 1, none⟩ = some (.int .i64 f) := kx.cell 1; have hne : w.heap.size ≠ wr.heap.size := by omega
    clear HK HB HB1 HPV c0 c1 kx; generalize wr.alloc (.cells #[.string s, .int .i64 f] 78) = wx at *; generalize wr.heap.size = gx at *; refine (textValid_impl s _ hsk).mono ?_; rintro e w' ⟨rfl, rfl⟩; by_cases htx : TextOk s
    · rw [bof_t.2 htx]; by_cases hf : 0 ≤ f ∧ f ≤ 7
      · have hf1 : ¬ f < 0 := by omega
        have hf2 : ¬ 8 ≤ f := by omega
        have HTX := hid htx; have HF := hid hf; clear htx hf; go_upto_region 7 with (fail)
        obtain ⟨q, hq, hq3⟩ : ∃ q : Nat, bucket s = (q : Int) ∧ q < 3 := ⟨(bucket s).toNat, by have := bucket_ok.2 HTX.out; omega, by have := bucket_ok.2 HTX.out; have := (bucket_range s).2; omega⟩; by_cases hk0 : 0 < k
        · have hk1 : (1 : Int) ≤ (k : Int) := by omega
          have hk2 : 0 ≤ (k : Int) - 1 := by omega
          have hkd : decide (0 < k) = true := decide_eq_true hk0; have hki : decide ((k : Int) > 0) = true := decide_eq_true (by omega); have px := HPX.out hk0; have hps := HPS.out hk0; have HCT := hid (fun W => nameBefore_c p s W hps hsk); by_cases hnb : NBef p s
          · have HNB := hid hnb; have hbt := bof_t.2 hnb; clear hnb; go_quiet ((go_at_call 100; first | exact quiet_left (HCT.out _) | exact quiet_add_left (HCT.out _)))
            have HQ3 := hid (show 3 ≤ cntB ns (bucket (nTxt ns k)) k ↔ (3 ≤ k ∧ bucket (nTxt ns (k - 3)) = bucket (nTxt ns k)) from cntB_three HP.out (fun h => bef_bucket (by rw [HPP.out, HP1.out]; exact HNB.out))); rw [HP1.out, hq] at HQ3; have ck := HKX.out.cell q; rw [HC.out.2 q hq3] at ck; have zk := HKX.out.frozen q; have hcl := cntB_le ns q k; have HKY := hid ((HKX.out.drewN nq).set_ q (.int .i64 ((cntB ns q k : Nat) + 1))); have HCY := hid (HC.out.step hq3 (by rw [HP1.out]; exact hq)); have HBY := hid ((below_drewN HBX.out nq).setCell (p := ⟨w.heap.size, q, none⟩) (Nat.le_refl _) (.int .i64 ((cntB ns q k : Nat) + 1))); have HBY1 := hid ((below_drewN HBX1.out nq).setCell (p := ⟨w.heap.size, q, none⟩) (Nat.le_refl _) (.int .i64 ((cntB ns q k : Nat) + 1))); have HQE := hid hq; clear hq; generalize cntB ns q k = cc at *; by_cases h3 : 3 ≤ cc
            · have hno := hid (hNO.out (fun h => by
               obtain ⟨a1, a2⟩ := HQ3.out.1 h3; exact (HOKI.out.1 h).2.2.2 a1 (by rw [a2, HQE.out])))
              go_wp2_with (go_at_call 101; refine (nameBucket_impl _ _ hsk).mono ?_; rw [HQE.out]; rintro e w' ⟨rfl, rfl⟩)
              go_ret; exact ⟨ret_bof_f hno.out, HBY.out⟩
            · have HP3 := hid (HP.out.succ (HOKI.out.2 ⟨HTX.out, HF.out, fun h => HNB.out, fun h e => h3 (HQ3.out.2 ⟨h, by rw [e, HQE.out]⟩)⟩)); go_wp2_with (go_at_call 101; refine (nameBucket_impl _ _ hsk).mono ?_; rw [HQE.out]; rintro e w' ⟨rfl, rfl⟩)
              go_roundw
              case rel => exact ⟨k + 1, _, by omega, by go_num, HP3.out, HCY.out, HKY.out, HBY.out, HBY1.out⟩
              case measure => simp [intOf]; omega
          · have hbt := bof_f.2 hnb; have hno := hid (hNO.out (fun h => hnb ((HOKI.out.1 h).2.2.1 hk0))); clear hnb; go_quiet ((go_at_call 100; first | exact quiet_left (HCT.out _) | exact quiet_add_left (HCT.out _)))
            go_wp2; go_ret
            exact ⟨ret_bof_f hno.out, below_drewN HBX.out _⟩
        · have hkd : decide (0 < k) = false := decide_eq_false hk0; have hki : decide ((k : Int) > 0) = false := decide_eq_false (by omega); go_quiet (fail)
          have HQ3 := hid (show 3 ≤ cntB ns (bucket (nTxt ns k)) k ↔ (3 ≤ k ∧ bucket (nTxt ns (k - 3)) = bucket (nTxt ns k)) from cntB_three HP.out (fun h => bef_bucket (by rw [HPP.out, HP1.out]; exact absurd h hk0))); rw [HP1.out, hq] at HQ3; have ck := HKX.out.cell q; rw [HC.out.2 q hq3] at ck; have zk := HKX.out.frozen q; have hcl := cntB_le ns q k; have HKY := hid ((HKX.out.drewN nq).set_ q (.int .i64 ((cntB ns q k : Nat) + 1))); have HCY := hid (HC.out.step hq3 (by rw [HP1.out]; exact hq)); have HBY := hid ((below_drewN HBX.out nq).setCell (p := ⟨w.heap.size, q, none⟩) (Nat.le_refl _) (.int .i64 ((cntB ns q k : Nat) + 1))); have HBY1 := hid ((below_drewN HBX1.out nq).setCell (p := ⟨w.heap.size, q, none⟩) (Nat.le_refl _) (.int .i64 ((cntB ns q k : Nat) + 1))); have HQE := hid hq; clear hq; generalize cntB ns q k = cc at *; by_cases h3 : 3 ≤ cc
          · exact absurd h3 (by omega)
          · have HP3 := hid (HP.out.succ (HOKI.out.2 ⟨HTX.out, HF.out, fun h => absurd h hk0, fun h e => h3 (HQ3.out.2 ⟨h, by rw [e, HQE.out]⟩)⟩)); go_wp2_with (go_at_call 101; refine (nameBucket_impl _ _ hsk).mono ?_; rw [HQE.out]; rintro e w' ⟨rfl, rfl⟩)
            go_roundw
            case rel => exact ⟨k + 1, _, by omega, by go_num, HP3.out, HCY.out, HKY.out, HBY.out, HBY1.out⟩
            case measure => simp [intOf]; omega
      · have hno := hid (hNO.out (fun h => hf (HOKI.out.1 h).2.1)); clear htx; by_cases hf1 : f < 0
        · go_wp2; go_ret
          exact ⟨ret_bof_f hno.out, HBX.out⟩
        · have hf2 : 8 ≤ f := by omega
          go_wp2; go_ret
          exact ⟨ret_bof_f hno.out, HBX.out⟩
    · have hno := hid (hNO.out (fun h => htx (HOKI.out.1 h).1)); rw [bof_f.2 htx]; clear htx; go_wp2; go_ret; exact ⟨ret_bof_f hno.out, HBX.out⟩
  · obtain rfl : k = n := by omega
    have hyes := hid (show NamesOk ns from by unfold NamesOk; rw [HL.out]; exact HP.out); clear hpre hcnt hblk; go_wp2; go_ret; exact ⟨ret_bof_t hyes.out, hbel⟩
set_option maxHeartbeats 2000000 in
theorem namesValid_spec {A : Option Addr} {n c B : Nat} {ns : List NameV} {w : World} (hr : RdN w B A n ns) (hn : n ≤ 1048576) (hsm : ∀ i, i < n → (nTxt ns i).size ≤ 9223372036854775807) :
 Calls Tryz.prog 92 #[.slice A n c] w fun e w' => e = .returned (.bool (bof (NamesOk ns))) ∧ ∃ m, w' = w.drewN m := by
 have HL := hid hr.len; have HSM := hid hsm; clear hsm; go_enter Tryz.func92, Tryz.ntmps92
 go_wp2; go_loopw [3] (fun i wr => ∃ k : Nat, k ≤ n ∧ i = .int .i64 k ∧ PreN ns k ∧ ∃ m, wr = w.drewN m) (fun i _ => n - (intOf i).toNat)
 case atStart => exact ⟨0, Nat.zero_le _, rfl, PreN.zero _, 0, rfl⟩
 case round =>
  obtain ⟨k, hk, rfl, hpre, m, rfl⟩ := hrel; have HP := hid hpre; clear hpre; by_cases hlt : k < n
  · have hNO := hid (show ¬ NamOk ns k → ¬ NamesOk ns from fun h hh => h (hh k (by have := HL.out; omega))); obtain ⟨b, off, rfl, hbB, hc⟩ := hr.at_ (by omega); obtain ⟨c0, c1⟩ := hc k hlt; have hsk := HSM.out k hlt; have HPV := hid (show 0 < k → w.cell? ⟨b, off + (k - 1) * 2, none⟩ = some (.string (nTxt ns (k - 1))) from fun h => (hc (k - 1) (by omega)).1); have HPS := hid (show 0 < k → (nTxt ns (k - 1)).size ≤ 9223372036854775807 from fun h => HSM.out (k - 1) (by omega)); have HPV3 := hid (show 3 ≤ k → w.cell? ⟨b, off + (k - 3) * 2, none⟩ = some (.string (nTxt ns (k - 3))) from fun h => (hc (k - 3) (by omega)).1); have HPS3 := hid (show 3 ≤ k → (nTxt ns (k - 3)).size ≤ 9223372036854775807 from fun h => HSM.out (k - 3) (by omega)); have HOKI := hid (show NamOk ns k ↔ TextOk (nTxt ns k) ∧ (0 ≤ nFil ns k ∧ nFil ns k ≤ 7) ∧ (0 < k → NBef (nTxt ns (k - 1)) (nTxt ns k)) ∧ (3 ≤ k → bucket (nTxt ns (k - 3)) ≠ bucket (nTxt ns k)) from Iff.rfl); obtain ⟨p, hp⟩ : ∃ p, nTxt ns (k - 1) = p := ⟨_, rfl⟩; rw [hp] at HPV HPS HOKI; obtain ⟨r, hr3⟩ : ∃ r, nTxt ns (k - 3) = r := ⟨_, rfl⟩; rw [hr3] at HPV3 HPS3 HOKI; obtain ⟨P, hP⟩ : ∃ P, ns.getD k noName = P := ⟨_, rfl⟩; have hP1 : nTxt ns k = P.1 := by rw [← hP]
    have hP2 : nFil ns k = P.2 := by rw [← hP]
    rw [hP] at c0 c1; rw [hP1] at hsk HOKI; rw [hP2] at HOKI; obtain ⟨s, f⟩ := P; simp only at c0 c1 hsk HOKI; clear hc hr hP hP1 hP2 hp hr3; by_cases htx : TextOk s
    · have hb0 := bucket_ok.2 htx; have hb2 := bucket_range s; have HTX := hid htx; clear htx; by_cases hf : 0 ≤ f ∧ f ≤ 7
      · have hin : inB f 0 7 = true := by rw [inB_t]; exact hf
        have HF := hid hf; clear hf; have hq0 : ¬ bucket s < 0 := by omega
        by_cases hk0 : 0 < k
        · have hk1 : (1 : Int) ≤ (k : Int) := by omega
          have hk2 : 0 ≤ (k : Int) - 1 := by omega
          have hki : decide ((k : Int) > 0) = true := decide_eq_true (by omega); have px := HPV.out hk0; have hps := HPS.out hk0; by_cases hgt : bucket s < bucket p
          · have hno := hid (hNO.out (fun h => by have := bef_bucket ((HOKI.out.1 h).2.2.1 hk0); omega)); have hd1 : decide (bucket s < bucket p) = true := decide_eq_true hgt; go_upto_region 9 with (first | (go_at_call 53; refine (l1In_c _ _ _ _).mono ?_; rw [hin]; rintro e w' ⟨rfl, rfl⟩) | (go_at_call 105; refine (nameBucket_spec _ _ (by assumption)).mono ?_; rintro e w' ⟨rfl, rfl⟩))
            go_quiet (fail)
            go_wp2; go_ret
            exact ⟨ret_bof_f hno.out, _, by first | rfl | rw [World.drewN_drewN]⟩
          · have hd1 : decide (bucket s < bucket p) = false := decide_eq_false hgt; by_cases heq : bucket p = bucket s
            · have he1 : (bucket p == bucket s) = true := by simp [heq]
              have HEQ := hid heq; clear heq; by_cases hle : (Op.bytesLess s.toList p.toList || s.toList == p.toList) = true
              · have hno := hid (hNO.out (fun h => by
                 rcases (HOKI.out.1 h).2.2.1 hk0 with h1 | ⟨_, h1⟩
                 · have := HEQ.out; omega
                 · exact (sLe_iff s p).1 hle h1))
                have hlt' := hle; go_upto_region 9 with (first | (go_at_call 53; refine (l1In_c _ _ _ _).mono ?_; rw [hin]; rintro e w' ⟨rfl, rfl⟩) | (go_at_call 105; refine (nameBucket_spec _ _ (by assumption)).mono ?_; rintro e w' ⟨rfl, rfl⟩))
                go_quiet (fail)
                go_wp2; go_ret
                exact ⟨ret_bof_f hno.out, _, by first | rfl | rw [World.drewN_drewN]⟩
              · have HBF := hid (show NBef p s from .inr ⟨HEQ.out, by
                 rcases sLt_total p s with h1 | h1 | h1
                 · exact h1
                 · exact absurd ((sLe_iff s p).2 (by rw [h1]; exact sLt_irrefl _)) hle
                 · exact absurd ((sLe_iff s p).2 (fun h2 => sLt_irrefl _ (sLt_trans h1 h2))) hle⟩)
                have hlf : (Op.bytesLess s.toList p.toList || s.toList == p.toList) = false := by simpa using hle
                clear hle; go_upto_region 9 with (first | (go_at_call 53; refine (l1In_c _ _ _ _).mono ?_; rw [hin]; rintro e w' ⟨rfl, rfl⟩) | (go_at_call 105; refine (nameBucket_spec _ _ (by assumption)).mono ?_; rintro e w' ⟨rfl, rfl⟩))
                go_quiet (fail)
                by_cases h3 : 3 ≤ k
                · have h31 : (3 : Int) ≤ (k : Int) := by omega
                  have h32 : 0 ≤ (k : Int) - 3 := by omega
                  have px3 := HPV3.out h3; have hps3 := HPS3.out h3; by_cases hb3 : bucket r = bucket s
                  · have hq3 : (bucket r == bucket s) = true := by simp [hb3]
                    have hno := hid (hNO.out (fun h => (HOKI.out.1 h).2.2.2 h3 hb3)); clear hb3; go_wp2_with (first | (go_at_call 53; refine (l1In_c _ _ _ _).mono ?_; rw [hin]; rintro e w' ⟨rfl, rfl⟩) | (go_at_call 105; refine (nameBucket_spec _ _ (by assumption)).mono ?_; rintro e w' ⟨rfl, rfl⟩))
                    go_ret; exact ⟨ret_bof_f hno.out, _, by first | rfl | rw [World.drewN_drewN]⟩
                  · have hq3 : (bucket r == bucket s) = false := by simp [hb3]
                    have HP3 := hid (HP.out.succ (HOKI.out.2 ⟨HTX.out, HF.out, fun _ => HBF.out, fun _ => hb3⟩)); clear hb3; go_wp2_with (first | (go_at_call 53; refine (l1In_c _ _ _ _).mono ?_; rw [hin]; rintro e w' ⟨rfl, rfl⟩) | (go_at_call 105; refine (nameBucket_spec _ _ (by assumption)).mono ?_; rintro e w' ⟨rfl, rfl⟩))
                    go_roundw
                    case rel => exact ⟨k + 1, by omega, by go_num, HP3.out, _, by first | rfl | rw [World.drewN_drewN]⟩
                    case measure => simp [intOf]; omega
                · have HP3 := hid (HP.out.succ (HOKI.out.2 ⟨HTX.out, HF.out, fun _ => HBF.out, fun h => absurd h h3⟩)); go_wp2_with (first | (go_at_call 53; refine (l1In_c _ _ _ _).mono ?_; rw [hin]; rintro e w' ⟨rfl, rfl⟩) | (go_at_call 105; refine (nameBucket_spec _ _ (by assumption)).mono ?_; rintro e w' ⟨rfl, rfl⟩))
                  go_roundw
                  case rel => exact ⟨k + 1, by omega, by go_num, HP3.out, _, by first | rfl | rw [World.drewN_drewN]⟩
                  case measure => simp [intOf]; omega
            · have he1 : (bucket p == bucket s) = false := by simp [heq]
              have HBF := hid (show NBef p s from .inl (by omega)); clear heq; go_upto_region 9 with (first | (go_at_call 53; refine (l1In_c _ _ _ _).mono ?_; rw [hin]; rintro e w' ⟨rfl, rfl⟩) | (go_at_call 105; refine (nameBucket_spec _ _ (by assumption)).mono ?_; rintro e w' ⟨rfl, rfl⟩))
              go_quiet (fail)
              by_cases h3 : 3 ≤ k
              · have h31 : (3 : Int) ≤ (k : Int) := by omega
                have h32 : 0 ≤ (k : Int) - 3 := by omega
                have px3 := HPV3.out h3; have hps3 := HPS3.out h3; by_cases hb3 : bucket r = bucket s
                · have hq3 : (bucket r == bucket s) = true := by simp [hb3]
                  have hno := hid (hNO.out (fun h => (HOKI.out.1 h).2.2.2 h3 hb3)); clear hb3; go_wp2_with (first | (go_at_call 53; refine (l1In_c _ _ _ _).mono ?_; rw [hin]; rintro e w' ⟨rfl, rfl⟩) | (go_at_call 105; refine (nameBucket_spec _ _ (by assumption)).mono ?_; rintro e w' ⟨rfl, rfl⟩))
                  go_ret; exact ⟨ret_bof_f hno.out, _, by first | rfl | rw [World.drewN_drewN]⟩
                · have hq3 : (bucket r == bucket s) = false := by simp [hb3]
                  have HP3 := hid (HP.out.succ (HOKI.out.2 ⟨HTX.out, HF.out, fun _ => HBF.out, fun _ => hb3⟩)); clear hb3; go_wp2_with (first | (go_at_call 53; refine (l1In_c _ _ _ _).mono ?_; rw [hin]; rintro e w' ⟨rfl, rfl⟩) | (go_at_call 105; refine (nameBucket_spec _ _ (by assumption)).mono ?_; rintro e w' ⟨rfl, rfl⟩))
                  go_roundw
                  case rel => exact ⟨k + 1, by omega, by go_num, HP3.out, _, by first | rfl | rw [World.drewN_drewN]⟩
                  case measure => simp [intOf]; omega
              · have HP3 := hid (HP.out.succ (HOKI.out.2 ⟨HTX.out, HF.out, fun _ => HBF.out, fun h => absurd h h3⟩)); go_wp2_with (first | (go_at_call 53; refine (l1In_c _ _ _ _).mono ?_; rw [hin]; rintro e w' ⟨rfl, rfl⟩) | (go_at_call 105; refine (nameBucket_spec _ _ (by assumption)).mono ?_; rintro e w' ⟨rfl, rfl⟩))
                go_roundw
                case rel => exact ⟨k + 1, by omega, by go_num, HP3.out, _, by first | rfl | rw [World.drewN_drewN]⟩
                case measure => simp [intOf]; omega
        · have hki : decide ((k : Int) > 0) = false := decide_eq_false (by omega); have h3 : ¬ 3 ≤ k := by omega
          · have HP3 := hid (HP.out.succ (HOKI.out.2 ⟨HTX.out, HF.out, fun h => absurd h hk0, fun h => absurd h h3⟩)); go_wp2_with (first | (go_at_call 53; refine (l1In_c _ _ _ _).mono ?_; rw [hin]; rintro e w' ⟨rfl, rfl⟩) | (go_at_call 105; refine (nameBucket_spec _ _ (by assumption)).mono ?_; rintro e w' ⟨rfl, rfl⟩))
            go_roundw
            case rel => exact ⟨k + 1, by omega, by go_num, HP3.out, _, by first | rfl | rw [World.drewN_drewN]⟩
            case measure => simp [intOf]; omega
      · have hin : inB f 0 7 = false := by rw [inB_f]; omega
        have hno := hid (hNO.out (fun h => hf (HOKI.out.1 h).2.1)); have hq0 : ¬ bucket s < 0 := by omega
        go_wp2_with (first | (go_at_call 53; refine (l1In_c _ _ _ _).mono ?_; rw [hin]; rintro e w' ⟨rfl, rfl⟩) | (go_at_call 105; refine (nameBucket_spec _ _ (by assumption)).mono ?_; rintro e w' ⟨rfl, rfl⟩))
        go_ret; exact ⟨ret_bof_f hno.out, _, by first | rfl | rw [World.drewN_drewN]⟩
    · have hno := hid (hNO.out (fun h => htx (HOKI.out.1 h).1)); have hb0 : bucket s < 0 := by have := mt bucket_ok.1 htx; omega
      clear htx; go_wp2_with (go_at_call 105; refine (nameBucket_spec _ _ (by assumption)).mono ?_; rintro e w' ⟨rfl, rfl⟩)
      go_ret; exact ⟨ret_bof_f hno.out, _, by first | rfl | rw [World.drewN_drewN]⟩
  · obtain rfl : k = n := by omega
    have hyes := hid (show NamesOk ns from by unfold NamesOk; rw [HL.out]; exact HP.out); go_wp2; go_ret; exact ⟨ret_bof_t hyes.out, m, rfl⟩
end Go.Proofs.YtefdjahaimnndaaGreatDoor
