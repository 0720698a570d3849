/- Parts of the proof, one after the other. -/
import Derived.Test.YtefdjahaimnndaaGreatDoorC7
namespace Go.Proofs.YtefdjahaimnndaaGreatDoor
open Go.ChangeShapes Go.WideShapes Go.ChangeAt Go.RowKit
open Go.Lib (hid)
set_option linter.unusedVariables false
set_option linter.unusedSimpArgs false
def DiskFits (bs : List BlockV) (ts : List (List Int)) : Prop := ∀ f, f < 8 → FitsF bs ts f
def OneEach (ns : List NameV) (k : Nat) : Prop := ∀ i j, j < i → i < k → nFil ns j ≠ nFil ns i
def DiskOk (d : DiskV) : Prop := HeadsOk d.bs d.hot d.warm d.cold ∧ TableOk d.ts ∧ DiskFits d.bs d.ts ∧ (lastStamp d.bs ≤ d.stamp ∧ d.stamp ≤ 1000) ∧ NamesOk d.ns ∧ OneEach d.ns d.ns.length
theorem OneEach.zero (ns : List NameV) : OneEach ns 0 := fun i j _ h => absurd h (Nat.not_lt_zero _)
theorem OneEach.step {ns : List NameV} {k : Nat} (h : OneEach ns k) (hn : ∀ j, j < k → nFil ns j ≠ nFil ns k) : OneEach ns (k + 1) := by
 intro i j hj hi
 by_cases e : i = k
 · subst e; exact hn j hj
 · exact h i j hj (by omega)
def NamedIs (cs : Array Value) (ns : List NameV) (k : Nat) : Prop := cs.size = 8 ∧ ∀ v : Nat, v < 8 → cs[v]? = some (.bool (bof (∃ j, j < k ∧ nFil ns j = (v : Int))))
theorem NamedIs.zero (ns : List NameV) : NamedIs #[.bool false, .bool false, .bool false, .bool false, .bool false, .bool false, .bool false, .bool false] ns 0 := by
 refine ⟨rfl, fun v hv => ?_⟩; rw [bof_f.2 (by rintro ⟨j, hj, _⟩; exact absurd hj (Nat.not_lt_zero _))]; have : v = 0 ∨ v = 1 ∨ v = 2 ∨ v = 3 ∨ v = 4 ∨ v = 5 ∨ v = 6 ∨ v = 7 := by omega
 rcases this with rfl | rfl | rfl | rfl | rfl | rfl | rfl | rfl <;> rfl
theorem NamedIs.set {cs : Array Value} {ns : List NameV} {k u : Nat} (h : NamedIs cs ns k) (hu : u < 8) (he : nFil ns k = (u : Int)) : NamedIs (cs.setIfInBounds u (.bool true)) ns (k + 1) := by
 refine ⟨by simp [h.1], fun v hv => ?_⟩; by_cases e : u = v
 · subst e; rw [Array.getElem?_setIfInBounds_self_of_lt (by rw [h.1]; exact hu), bof_t.2 ⟨k, by omega, he⟩]
 · rw [Array.getElem?_setIfInBounds_ne e, h.2 v hv, show bof (∃ j, j < k ∧ nFil ns j = (v : Int)) = bof (∃ j, j < k + 1 ∧ nFil ns j = (v : Int)) by
    rw [Bool.eq_iff_iff, bof_t, bof_t]; constructor
    · rintro ⟨j, hj, hj2⟩; exact ⟨j, by omega, hj2⟩
    · rintro ⟨j, hj, hj2⟩; by_cases e2 : j = k
      · subst e2; omega
      · exact ⟨j, by omega, hj2⟩]
theorem tableFits_c {A tA : Option Addr} {n c tn tc B B' : Nat} {bs : List BlockV} {ts : List (List Int)} {w : World} (hd : RdB w B A n bs) (hB : B ≤ w.heap.size) (hn : n ≤ 1048576) (hok : DevOk bs) (hr : RdT w B' tA tn ts) (hB' : B' ≤ w.heap.size) (htk : TableOk ts) :
 Calls Tryz.prog 41 #[.slice A n c, .agg #[.slice tA tn tc]] w fun e w' => e = .returned (.bool (bof (DiskFits bs ts))) ∧ Below w.heap.size w w' := by
 have b1 : Below w.heap.size w (w.alloc (.cells #[.slice tA tn tc] 26)) := (Below.refl _ _).alloc (Nat.le_refl _) _; have k1 := Blk.new w 26 #[.slice tA tn tc]; have hr1 := (hr.mono hB').below b1; have hd1 := (hd.mono hB).below b1; have B1 := hid b1; have K1 := hid k1; clear b1 k1 hr hd; go_enter Tryz.func41, Tryz.ntmps41
 go_wp2; generalize w.alloc (.cells #[.slice tA tn tc] 26) = w1 at *
 go_loopw [8] (fun i wr => ∃ k : Nat, k ≤ 8 ∧ i = .int .i64 k ∧ (∀ f, f < k → FitsF bs ts f) ∧ Blk wr w.heap.size 26 #[.slice tA tn tc] ∧ Below w.heap.size w wr ∧ Below w.heap.size w1 wr) (fun i _ => 8 - (intOf i).toNat)
 case atStart => exact ⟨0, Nat.zero_le _, rfl, fun j h => absurd h (Nat.not_lt_zero _), K1.out, B1.out, Below.refl _ _⟩
 case round =>
  obtain ⟨k, hk, rfl, hfit, hkt, hbel, hb1⟩ := hrel; have HF := hid hfit; have HB := hid hbel; have HB1 := hid hb1; have HKT := hid hkt; have t0 : wr.cell? ⟨w.heap.size, 0, none⟩ = some (.slice tA tn tc) := hkt.cell 0; have hsz := hbel.size; have hrr := hr1.below hb1; have hdr := hd1.below hb1; clear hfit hkt hbel hb1; by_cases hlt : k < 8
  · go_wp2_with fail; refine (fileValues_impl hdr hsz hn hok hrr hsz htk hlt).mono ?_
    rintro e w5 ⟨A5, c5, rfl, o5, b5⟩; have HB5 := hid (HB.out.trans (b5.mono hsz)); have HB15 := hid (HB1.out.trans (b5.mono hsz)); have HKT5 := hid (HKT.out.below b5 HKT.out.lt); clear b5 hrr hdr t0 o5; by_cases hft : FitsF bs ts k
    · have HF2 := hid (show ∀ f, f < k + 1 → FitsF bs ts f from fun f hf => by
       by_cases e : f = k
       · subst e; exact hft
       · exact HF.out f (by omega))
      rw [bof_t.2 hft]; clear hft; go_wp2; go_roundw
      case rel => exact ⟨k + 1, by omega, by go_num, HF2.out, HKT5.out, HB5.out, HB15.out⟩
      case measure => simp [intOf]; omega
    · have hno := hid (show ¬ DiskFits bs ts from fun h => hft (h k hlt)); rw [bof_f.2 hft]; clear hft; go_wp2; go_ret; exact ⟨ret_bof_f hno.out, HB5.out⟩
  · obtain rfl : k = 8 := by omega
    have hyes := hid (show DiskFits bs ts from HF.out); go_wp2; go_ret; exact ⟨ret_bof_t hyes.out, HB.out⟩
set_option maxRecDepth 8000 in
set_option maxHeartbeats 2000000 in
theorem diskValid_impl {h : DH} {d : DiskV} {B : Nat} {w : World} (hr : RdD w B h d) (hB : B ≤ w.heap.size) (s1 : h.bn ≤ 1048576) (s2 : h.tn ≤ 1048576) (s3 : h.nn ≤ 1048576) (s4 : ∀ i, i < h.nn → (nTxt d.ns i).size ≤ 9223372036854775807) :
 Calls Tryz.prog 11 #[.agg (dc h.bA h.bn h.bc h.tA h.tn h.tc d.hot d.warm d.cold d.stamp h.nA h.nn h.nc)] w fun e w' => e = .returned (.bool (bof (DiskOk d))) ∧ Below w.heap.size w w' := by
 obtain ⟨bs, ts, x, y, z, st, ns⟩ := d; obtain ⟨bA, bn, bc, tA, tn, tc, nA, nn, nc⟩ := h; simp only at s1 s2 s3 s4; have S4 := hid s4; clear s4; have b1 : Below w.heap.size w (w.alloc (.cells (dc bA bn bc tA tn tc x y z st nA nn nc) 31)) := (Below.refl _ _).alloc (Nat.le_refl _) _; have k1 := Blk.new w 31 (dc bA bn bc tA tn tc x y z st nA nn nc); have l1 := k1.lt; have hr1 := (hr.mono hB).below b1; clear hr; simp only
 go_enter Tryz.func11, Tryz.ntmps11
 go_wp2_with fail; generalize w.alloc (.cells (dc bA bn bc tA tn tc x y z st nA nn nc) 31) = w1 at *
 refine (headsValid_impl hr1.b b1.size s1).mono ?_; rintro e w2 ⟨rfl, b2⟩; have B2 := hid (b1.trans (b2.mono b1.size)); have k2 := k1.below b2 l1; have hr2 := hr1.below (b2.mono b1.size); have l2 := k2.lt; clear b1 b2 k1 hr1; by_cases hH : HeadsOk bs x y z
 · rw [bof_t.2 hH]; have HH := hid hH; clear hH; obtain ⟨t0, t1, t2, t3, t4, t5, t6⟩ := k2.all7; go_wp2_with fail; refine (tableValid_impl hr2.t B2.out.size s2).mono ?_; rintro e w3 ⟨rfl, b3⟩; have B3 := hid (B2.out.trans (b3.mono B2.out.size)); have k3 := k2.below b3 l2; have hr3 := hr2.below (b3.mono B2.out.size); have l3 := k3.lt; clear b3 k2 hr2 t0 t1 t2 t3 t4 t5 t6 B2; by_cases hT : TableOk ts
   · rw [bof_t.2 hT]; have HT := hid hT; clear hT; obtain ⟨t0, t1, t2, t3, t4, t5, t6⟩ := k3.all7; go_wp2_with fail; refine (tableFits_c hr3.b B3.out.size s1 HH.out.1 hr3.t B3.out.size HT.out).mono ?_; rintro e w4 ⟨rfl, b4⟩; have B4 := hid (B3.out.trans (b4.mono B3.out.size)); have k4 := k3.below b4 l3; have hr4 := hr3.below (b4.mono B3.out.size); have l4 := k4.lt; clear b4 k3 hr3 t0 t1 t2 t3 t4 t5 t6 B3; by_cases hF : DiskFits bs ts
     · rw [bof_t.2 hF]; have HF := hid hF; clear hF; go_upto_region 3 with (fail)
       obtain ⟨t0, t1, t2, t3, t4, t5, t6⟩ := k4.all7; have hls := lastAt_range HH.out.1 (k := 4 * bs.length) (Nat.le_refl _); have HLS := hid (show lastAt bs (4 * bs.length) = lastStamp bs from rfl); rw [HLS.out] at hls; by_cases hs : st < lastStamp bs
       · have hno := hid (show ¬ DiskOk ⟨bs, ts, x, y, z, st, ns⟩ from fun h => by have := h.2.2.2.1.1; simp only at this; omega); have hd1 : decide (st < lastStamp bs) = true := decide_eq_true hs; refine wp_region_held_drew (S := fun w' => w'.cell? ⟨w.heap.size, 0, none⟩ = some (.slice bA bn bc) ∧ w'.cell? ⟨w.heap.size, 5, none⟩ = some (.int .i64 st) ∧ w'.cell? ⟨w.heap.size, 6, none⟩ = some (.slice nA nn nc)) (by kernel_rfl) ?_ (fun h_ => ?_)
         · exact ⟨t0, t5, t6⟩
         refine tk 0 ?_; refine tk 1 ?_; refine tk 2 ?_; refine tk 3 ?_; refine rd1 4 (fun K hK => ?_); go_simp; refine (lastStamp_impl hr4.b.drew B4.out.size s1 HH.out.1).mono ?_; rintro e w5 ⟨rfl, b5⟩; have u0 := (b5.cell (p := ⟨w.heap.size, 0, none⟩) l4).trans t0; have u5 := (b5.cell (p := ⟨w.heap.size, 5, none⟩) l4).trans t5; have u6 := (b5.cell (p := ⟨w.heap.size, 6, none⟩) l4).trans t6; go_wp2_with fail; refine hK.out _ _ (⟨u0, u5, u6⟩) fun h_ => ?_
         clear hK K; refine pt ?_; refine tk 5 ?_; refine tk 6 ?_; refine sk 7 ?_; refine sk 8 ?_; refine sk 9 ?_; refine tk 10 ?_; refine tk 11 ?_; refine sk 12 ?_; refine sk 13 ?_; refine sk 14 ?_; refine tk 15 ?_; refine tk 16 ?_; refine sk 17 ?_; refine sk 18 ?_; refine sk 19 ?_; refine sk 20 ?_; refine tk 21 ?_; refine dn ?_; go_wp2; go_ret; exact ⟨ret_bof_f hno.out, B4.out.drew.trans (b5.mono B4.out.size)⟩
       · have hd1 : decide (st < lastStamp bs) = false := decide_eq_false hs; have hd2 : decide (st < 0) = false := decide_eq_false (by omega); by_cases hs2 : 1000 < st
         · have hno := hid (show ¬ DiskOk ⟨bs, ts, x, y, z, st, ns⟩ from fun h => by have := h.2.2.2.1.2; simp only at this; omega); have hd3 : decide (1000 < st) = true := decide_eq_true hs2; refine wp_region_held_drew (S := fun w' => w'.cell? ⟨w.heap.size, 0, none⟩ = some (.slice bA bn bc) ∧ w'.cell? ⟨w.heap.size, 5, none⟩ = some (.int .i64 st) ∧ w'.cell? ⟨w.heap.size, 6, none⟩ = some (.slice nA nn nc)) (by kernel_rfl) ?_ (fun h_ => ?_)
           · exact ⟨t0, t5, t6⟩
           refine tk 0 ?_; refine tk 1 ?_; refine tk 2 ?_; refine tk 3 ?_; refine rd1 4 (fun K hK => ?_); go_simp; refine (lastStamp_impl hr4.b.drew B4.out.size s1 HH.out.1).mono ?_; rintro e w5 ⟨rfl, b5⟩; have u0 := (b5.cell (p := ⟨w.heap.size, 0, none⟩) l4).trans t0; have u5 := (b5.cell (p := ⟨w.heap.size, 5, none⟩) l4).trans t5; have u6 := (b5.cell (p := ⟨w.heap.size, 6, none⟩) l4).trans t6; go_wp2_with fail; refine hK.out _ _ (⟨u0, u5, u6⟩) fun h_ => ?_
           clear hK K; refine pt ?_; refine tk 5 ?_; refine tk 6 ?_; refine tk 7 ?_; refine tk 8 ?_; refine tk 9 ?_; refine tk 10 ?_; refine tk 11 ?_; refine tk 12 ?_; refine tk 13 ?_; refine tk 14 ?_; refine tk 15 ?_; refine tk 16 ?_; refine sk 17 ?_; refine sk 18 ?_; refine sk 19 ?_; refine sk 20 ?_; refine tk 21 ?_; refine dn ?_; go_wp2; go_ret; exact ⟨ret_bof_f hno.out, B4.out.drew.trans (b5.mono B4.out.size)⟩
         · have hd3 : decide (1000 < st) = false := decide_eq_false hs2; have hsok := hid (show lastStamp bs ≤ st ∧ st ≤ 1000 by omega); by_cases hN : NamesOk ns
           · have HN := hid hN; refine wp_region_held_drew (S := fun w' => w'.cell? ⟨w.heap.size, 0, none⟩ = some (.slice bA bn bc) ∧ w'.cell? ⟨w.heap.size, 5, none⟩ = some (.int .i64 st) ∧ w'.cell? ⟨w.heap.size, 6, none⟩ = some (.slice nA nn nc)) (by kernel_rfl) ?_ (fun h_ => ?_)
             · exact ⟨t0, t5, t6⟩
             refine tk 0 ?_; refine tk 1 ?_; refine tk 2 ?_; refine tk 3 ?_; refine rd1 4 (fun K hK => ?_); go_simp; refine (lastStamp_impl hr4.b.drew B4.out.size s1 HH.out.1).mono ?_; rintro e w5 ⟨rfl, b5⟩; have u0 := (b5.cell (p := ⟨w.heap.size, 0, none⟩) l4).trans t0; have u5 := (b5.cell (p := ⟨w.heap.size, 5, none⟩) l4).trans t5; have u6 := (b5.cell (p := ⟨w.heap.size, 6, none⟩) l4).trans t6; go_wp2_with fail; refine hK.out _ _ (⟨u0, u5, u6⟩) fun h_ => ?_
             clear hK K; refine pt ?_; refine tk 5 ?_; refine tk 6 ?_; refine tk 7 ?_; refine tk 8 ?_; refine tk 9 ?_; refine tk 10 ?_; refine tk 11 ?_; refine tk 12 ?_; refine tk 13 ?_; refine tk 14 ?_; refine tk 15 ?_; refine tk 16 ?_; refine tk 17 ?_; refine tk 18 ?_; refine rd1 19 (fun K hK => ?_); go_simp; refine (namesValid_impl (hr4.n.drew.below (b5.mono B4.out.size)) (Nat.le_trans B4.out.size b5.size) s3 S4.out).mono ?_; rintro e w6 ⟨rfl, b6⟩; rw [bof_t.2 hN]; have v0 := (b6.cell (p := ⟨w.heap.size, 0, none⟩) (block_lt_of_cell u0)).trans u0; have v5 := (b6.cell (p := ⟨w.heap.size, 5, none⟩) (block_lt_of_cell u5)).trans u5; have v6 := (b6.cell (p := ⟨w.heap.size, 6, none⟩) (block_lt_of_cell u6)).trans u6; go_wp2_with fail; refine hK.out _ _ (⟨v0, v5, v6⟩) fun h_ => ?_
             clear hK K; refine pt ?_; refine tk 20 ?_; refine tk 21 ?_; refine dn ?_; clear h_ hd1 hd2 hd3 hs hs2 hls HLS t0 t1 t2 t3 t4 t5 t6 u0 u5 u6; have sz6 := (B4.out.drew.trans (b5.mono B4.out.size)).trans (b6.mono (Nat.le_trans B4.out.size b5.size)); have rn6 := (hr4.n.drew.below (b5.mono B4.out.size)).below (b6.mono (Nat.le_trans B4.out.size b5.size)); have ga := block_lt_of_cell v6; simp only at ga; have ka := Blk.new w6 76 #[.bool false, .bool false, .bool false, .bool false, .bool false, .bool false, .bool false, .bool false]; have KA := hid ka; have BA := hid (sz6.alloc sz6.size (.cells #[.bool false, .bool false, .bool false, .bool false, .bool false, .bool false, .bool false, .bool false] 76)); have rn7 := rn6.below ((Below.refl w.heap.size w6).alloc sz6.size (.cells #[.bool false, .bool false, .bool false, .bool false, .bool false, .bool false, .bool false, .bool false] 76)); have y6 : (w6.alloc (.cells #[.bool false, .bool false, .bool false, .bool false, .bool false, .bool false, .bool false, .bool false] 76)).cell? ⟨w.heap.size, 6, none⟩ = some (.slice nA nn nc) := (((Below.refl _ _).alloc (Nat.le_refl _) _).cell (p := ⟨w.heap.size, 6, none⟩) ga).trans v6; have GS := hid sz6.size; clear ka rn6 hr4 sz6 v0 v5 v6 b5 b6 k4 l4; go_upto_region 6 with (fail)
             generalize w6.alloc (.cells #[.bool false, .bool false, .bool false, .bool false, .bool false, .bool false, .bool false, .bool false] 76) = w7 at *; generalize w6.heap.size = gs at *; go_wp2_with fail; go_loopw [51] (fun i wr => ∃ (k : Nat) (cs : Array Value), k ≤ nn ∧ i = .int .i64 k ∧ OneEach ns k ∧ NamedIs cs ns k ∧ Blk wr gs 76 cs ∧ Below w.heap.size w wr ∧ Below w.heap.size w7 wr) (fun i _ => nn - (intOf i).toNat)
             case atStart => exact ⟨0, _, Nat.zero_le _, rfl, OneEach.zero _, NamedIs.zero _, KA.out, BA.out, Below.refl _ _⟩
             case round =>
              obtain ⟨k, cs, hk, rfl, hone, hnam, hblk, hbel, hb1⟩ := hrel; have HO := hid hone; have HM := hid hnam; have HK := hid hblk; have HB := hid hbel; have HB1 := hid hb1; have hlk := hblk.lt; have hsz := hbel.size; have HRN := hid rn7; clear hone hnam hblk hbel y6; by_cases hlt : k < nn
              · obtain ⟨b, off, rfl, hbB, hc⟩ := rn7.at_ (by omega); obtain ⟨c0, c1⟩ := hc k hlt; replace c0 := (hb1.cell (p := ⟨b, off + k * 2, none⟩) hbB).trans c0; replace c1 := (hb1.cell (p := ⟨b, off + k * 2 + 1, none⟩) hbB).trans c1; have hok := HN.out k (by have := rn7.len; omega); have hf := hok.2.1; obtain ⟨P, hP⟩ : ∃ P, ns.getD k noName = P := ⟨_, rfl⟩; have hP2 : nFil ns k = P.2 := by rw [← hP]
                rw [hP] at c0 c1; rw [hP2] at hf; obtain ⟨s, f⟩ := P; simp only at c0 c1 hf hP2; obtain ⟨h0, h7⟩ := hf; obtain ⟨u, rfl⟩ := Int.eq_ofNat_of_zero_le h0; have hu : u < 8 := by omega
                have HP := hid hP2; have cu := ((HK.out.alloc (.cells #[.string s, .int .i64 u] 78)).cell u).trans (HM.out.2 u hu); have kx := Blk.new wr 78 #[.string s, .int .i64 u]; have HBX := hid (HB.out.alloc hsz (.cells #[.string s, .int .i64 u] 78)); have HBX1 := hid (HB1.out.alloc hsz (.cells #[.string s, .int .i64 u] 78)); have HKX := hid (HK.out.alloc (.cells #[.string s, .int .i64 u] 78)); have zu := HKX.out.frozen u; have x0 : (wr.alloc (.cells #[.string s, .int .i64 u] 78)).cell? ⟨wr.heap.size, 0, none⟩ = some (.string s) := kx.cell 0; have x1 : (wr.alloc (.cells #[.string s, .int .i64 u] 78)).cell? ⟨wr.heap.size, 1, none⟩ = some (.int .i64 u) := kx.cell 1; have GW := hid (show w.heap.size ≤ gs from GS.out); clear hc rn7 hb1 hok hP hP2 kx; go_upto_region 9 with (fail)
                generalize wr.alloc (.cells #[.string s, .int .i64 u] 78) = wx at *; generalize wr.heap.size = gx at *; by_cases hsn : ∃ j, j < k ∧ nFil ns j = (u : Int)
                · have hno := hid (show ¬ DiskOk ⟨bs, ts, x, y, z, st, ns⟩ from fun h => by
                   obtain ⟨j, hj, e⟩ := hsn; have e2 := HP.out; exact h.2.2.2.2.2 k j hj (by have := HRN.out.len; simp only; omega) (by simp only; omega))
                  rw [bof_t.2 hsn] at cu; clear hsn; go_wp2; go_ret; exact ⟨ret_bof_f hno.out, HBX.out⟩
                · have HO2 := hid (show OneEach ns (k + 1) from HO.out.step (fun j hj e => hsn ⟨j, hj, by rw [e]; exact HP.out⟩)); have HM2 := hid (HM.out.set hu (show nFil ns k = (u : Int) from HP.out)); have HK2 := hid (HKX.out.set_ u (.bool true)); have HB2 := hid (HBX.out.setCell (p := ⟨gs, u, none⟩) GW.out (.bool true)); have HB12 := hid (HBX1.out.setCell (p := ⟨gs, u, none⟩) GW.out (.bool true)); rw [bof_f.2 hsn] at cu; clear hsn; go_wp2; go_roundw
                  case rel => exact ⟨k + 1, _, by omega, by go_num, HO2.out, HM2.out, HK2.out, HB2.out, HB12.out⟩
                  case measure => simp [intOf]; omega
              · obtain rfl : k = nn := by omega
                have hyes := hid (show DiskOk ⟨bs, ts, x, y, z, st, ns⟩ from ⟨HH.out, HT.out, HF.out, hsok.out, HN.out, by have := HO.out; rw [← HRN.out.len] at this; exact this⟩); clear rn7 hb1; go_wp2; go_ret; exact ⟨ret_bof_t hyes.out, HB.out⟩
           · have hno := hid (show ¬ DiskOk ⟨bs, ts, x, y, z, st, ns⟩ from fun h => hN h.2.2.2.2.1); refine wp_region_held_drew (S := fun w' => w'.cell? ⟨w.heap.size, 0, none⟩ = some (.slice bA bn bc) ∧ w'.cell? ⟨w.heap.size, 5, none⟩ = some (.int .i64 st) ∧ w'.cell? ⟨w.heap.size, 6, none⟩ = some (.slice nA nn nc)) (by kernel_rfl) ?_ (fun h_ => ?_)
             · exact ⟨t0, t5, t6⟩
             refine tk 0 ?_; refine tk 1 ?_; refine tk 2 ?_; refine tk 3 ?_; refine rd1 4 (fun K hK => ?_); go_simp; refine (lastStamp_impl hr4.b.drew B4.out.size s1 HH.out.1).mono ?_; rintro e w5 ⟨rfl, b5⟩; have u0 := (b5.cell (p := ⟨w.heap.size, 0, none⟩) l4).trans t0; have u5 := (b5.cell (p := ⟨w.heap.size, 5, none⟩) l4).trans t5; have u6 := (b5.cell (p := ⟨w.heap.size, 6, none⟩) l4).trans t6; go_wp2_with fail; refine hK.out _ _ (⟨u0, u5, u6⟩) fun h_ => ?_
             clear hK K; refine pt ?_; refine tk 5 ?_; refine tk 6 ?_; refine tk 7 ?_; refine tk 8 ?_; refine tk 9 ?_; refine tk 10 ?_; refine tk 11 ?_; refine tk 12 ?_; refine tk 13 ?_; refine tk 14 ?_; refine tk 15 ?_; refine tk 16 ?_; refine tk 17 ?_; refine tk 18 ?_; refine rd1 19 (fun K hK => ?_); go_simp; refine (namesValid_impl (hr4.n.drew.below (b5.mono B4.out.size)) (Nat.le_trans B4.out.size b5.size) s3 S4.out).mono ?_; rintro e w6 ⟨rfl, b6⟩; rw [bof_f.2 hN]; have v0 := (b6.cell (p := ⟨w.heap.size, 0, none⟩) (block_lt_of_cell u0)).trans u0; have v5 := (b6.cell (p := ⟨w.heap.size, 5, none⟩) (block_lt_of_cell u5)).trans u5; have v6 := (b6.cell (p := ⟨w.heap.size, 6, none⟩) (block_lt_of_cell u6)).trans u6; go_wp2_with fail; refine hK.out _ _ (⟨v0, v5, v6⟩) fun h_ => ?_
             clear hK K; refine pt ?_; refine tk 20 ?_; refine tk 21 ?_; refine dn ?_; go_wp2; go_ret; exact ⟨ret_bof_f hno.out, (B4.out.drew.trans (b5.mono B4.out.size)).trans (b6.mono (Nat.le_trans B4.out.size b5.size))⟩
     · have hno := hid (show ¬ DiskOk ⟨bs, ts, x, y, z, st, ns⟩ from fun h => hF h.2.2.1); rw [bof_f.2 hF]; clear hF; go_wp2; go_ret; exact ⟨ret_bof_f hno.out, B4.out⟩
   · have hno := hid (show ¬ DiskOk ⟨bs, ts, x, y, z, st, ns⟩ from fun h => hT h.2.1); rw [bof_f.2 hT]; clear hT; go_wp2; go_ret; exact ⟨ret_bof_f hno.out, B3.out⟩
 · have hno := hid (show ¬ DiskOk ⟨bs, ts, x, y, z, st, ns⟩ from fun h => hH h.1); rw [bof_f.2 hH]; clear hH; go_wp2; go_ret; exact ⟨ret_bof_f hno.out, B2.out⟩
end Go.Proofs.YtefdjahaimnndaaGreatDoor
