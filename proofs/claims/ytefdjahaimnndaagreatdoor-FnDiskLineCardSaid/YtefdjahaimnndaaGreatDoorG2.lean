/- Parts of the proof, one after the other. -/
import Derived.Test.YtefdjahaimnndaaGreatDoorG1
namespace Go.Proofs.YtefdjahaimnndaaGreatDoor
open Go.ChangeShapes Go.WideShapes Go.ChangeAt Go.RowKit Go.Deep
open Go.Lib (hid)
set_option linter.unusedVariables false
set_option linter.unusedSimpArgs false
theorem SmallDV.at_ {w B h d} (s : SmallDV d) (r : RdD w B h d) : SmallD h d := by
 obtain ⟨s1, s2, s3, s4, s5, s6⟩ := s; have e1 := r.b.len; have e2 := r.t.len; have e3 := r.n.len; rw [e1] at s1 s4; rw [e2] at s2 s5; rw [e3] at s3 s6; exact ⟨s1, s2, s3, s4, s5, s6⟩
theorem samePages_same {A A' : Option Addr} {n c c' B B' : Nat} {ps : List PageV} {w : World} (hr : RdG w B A n ps) (hr' : RdG w B' A' n ps) (hn : n ≤ 9000000000000) :
 Calls Tryz.prog 146 #[.slice A n c, .slice A' n c'] w fun e w' => e = .returned (.bool true) ∧ Below w.heap.size w w' := by
 go_enter Tryz.func146, Tryz.ntmps146
 go_wp2; go_loopw [5] (fun i wr => ∃ k : Nat, k ≤ n ∧ i = .int .i64 k ∧ Below w.heap.size w wr) (fun i _ => n - (intOf i).toNat)
 case atStart => exact ⟨0, Nat.zero_le _, rfl, Below.refl _ _⟩
 case round =>
  obtain ⟨k, hk, rfl, hbel⟩ := hrel; by_cases hlt : k < n
  · obtain ⟨b, off, rfl, hbB, hc⟩ := hr.at_ (by omega); obtain ⟨b', off', rfl, hbB', hc'⟩ := hr'.at_ (by omega); obtain ⟨c0, c1, c2, c3, c4⟩ := hc k hlt; obtain ⟨d0, d1, d2, d3, d4⟩ := hc' k hlt; have l0 := block_lt_of_cell c0; have l1 := block_lt_of_cell d0; replace c0 := (hbel.cell (p := ⟨b, off + k * 5, none⟩) l0).trans c0; replace c1 := (hbel.cell (p := ⟨b, off + k * 5 + 1, none⟩) l0).trans c1; replace c2 := (hbel.cell (p := ⟨b, off + k * 5 + 2, none⟩) l0).trans c2; replace c3 := (hbel.cell (p := ⟨b, off + k * 5 + 3, none⟩) l0).trans c3; replace c4 := (hbel.cell (p := ⟨b, off + k * 5 + 4, none⟩) l0).trans c4; replace d0 := (hbel.cell (p := ⟨b', off' + k * 5, none⟩) l1).trans d0; replace d1 := (hbel.cell (p := ⟨b', off' + k * 5 + 1, none⟩) l1).trans d1; replace d2 := (hbel.cell (p := ⟨b', off' + k * 5 + 2, none⟩) l1).trans d2; replace d3 := (hbel.cell (p := ⟨b', off' + k * 5 + 3, none⟩) l1).trans d3; replace d4 := (hbel.cell (p := ⟨b', off' + k * 5 + 4, none⟩) l1).trans d4; generalize ps.getD k noPage = P at *; have HB := hid hbel; clear hc hr hc' hr' hbel; go_wp2_with fail; go_quiet (fail)
    go_wp2_with fail; go_roundw
    case rel => exact ⟨k + 1, by omega, by go_num, below_drewN HB.out _⟩
    case measure => simp [intOf]; omega
  · have hkn : k = n := by omega
    subst hkn; go_wp2; go_ret; exact ⟨rfl, hbel⟩
theorem sameBlock_same {A A' : Option Addr} {n c c' B B' : Nat} {we : Int} {ps : List PageV} {w : World} (hr : RdG w B A n ps) (hr' : RdG w B' A' n ps) (hB : B ≤ w.heap.size) (hB' : B' ≤ w.heap.size) (hn : n ≤ 9000000000000) :
 Calls Tryz.prog 97 #[.agg #[.int .i64 we, .slice A n c], .agg #[.int .i64 we, .slice A' n c']] w fun e w' => e = .returned (.bool true) ∧ Below w.heap.size w w' := by
 have hr0 := hr.mono hB; have hr0' := hr'.mono hB'; go_enter Tryz.func97, Tryz.ntmps97
 go_wp2_with fail; have b2 : Below w.heap.size w ((w.alloc (.cells #[.int .i64 we, .slice A n c] 127)).alloc (.cells #[.int .i64 we, .slice A' n c'] 127)) := ((Below.refl _ _).alloc (Nat.le_refl _) _).alloc (by simp) _
 refine (samePages_same (hr0.below b2) (hr0'.below b2) hn).mono ?_; rintro e w' ⟨rfl, hb⟩; go_wp2; go_ret; exact ⟨rfl, b2.trans (hb.mono b2.size)⟩
theorem sameDevice_same {A A' : Option Addr} {n c c' B B' : Nat} {bs : List BlockV} {w : World} (hr : RdB w B A n bs) (hr' : RdB w B' A' n bs) (hB : B ≤ w.heap.size) (hB' : B' ≤ w.heap.size) (hn : n ≤ 9000000000000) (hsm : SmallB bs n 1048576) :
 Calls Tryz.prog 36 #[.slice A n c, .slice A' n c'] w fun e w' => e = .returned (.bool true) ∧ Below w.heap.size w w' := by
 have HSM := hid hsm; clear hsm; go_enter Tryz.func36, Tryz.ntmps36
 go_wp2; go_loopw [5] (fun i wr => ∃ k : Nat, k ≤ n ∧ i = .int .i64 k ∧ Below w.heap.size w wr) (fun i _ => n - (intOf i).toNat)
 case atStart => exact ⟨0, Nat.zero_le _, rfl, Below.refl _ _⟩
 case round =>
  obtain ⟨k, hk, rfl, hbel⟩ := hrel; by_cases hlt : k < n
  · obtain ⟨b, off, rfl, hbB, hc⟩ := hr.at_ (by omega); obtain ⟨b', off', rfl, hbB', hc'⟩ := hr'.at_ (by omega); obtain ⟨P, np, cp, c0, c1, hp1, hp2, hp⟩ := hc k hlt; obtain ⟨Q, nq, cq, d0, d1, hq1, hq2, hq⟩ := hc' k hlt; have hnq : nq = np := by rw [← hp.len, ← hq.len]
    subst hnq; have hns : nq ≤ 1048576 := by have := HSM.out k hlt; rw [hp.len] at this; omega
    have l0 : b < w.heap.size := by omega
    have l1 : b' < w.heap.size := by omega
    replace c0 := (hbel.cell (p := ⟨b, off + k * 2, none⟩) l0).trans c0; replace c1 := (hbel.cell (p := ⟨b, off + k * 2 + 1, none⟩) l0).trans c1; replace d0 := (hbel.cell (p := ⟨b', off' + k * 2, none⟩) l1).trans d0; replace d1 := (hbel.cell (p := ⟨b', off' + k * 2 + 1, none⟩) l1).trans d1; have HP := hid ((hp.mono hB).below hbel); have HQ := hid ((hq.mono hB').below hbel); generalize bs.getD k noBlock = X at *; obtain ⟨we, ps⟩ := X; simp only at c0 d0 HP HQ; have HB := hid hbel; clear hc hr hc' hr' hbel hp hq; go_wp2_with fail; go_region_with (go_at_call 97; refine (sameBlock_same HP.out.drew HQ.out.drew HB.out.size HB.out.size (by omega)).mono ?_; rintro e w2 ⟨rfl, hb2⟩)
    all_goals
     go_wp2_with fail; go_roundw
     case rel => exact ⟨k + 1, by omega, by go_num, HB.out.drew.trans (hb2.mono HB.out.size)⟩
     case measure => simp [intOf]; omega
  · have hkn : k = n := by omega
    subst hkn; go_wp2; go_ret; exact ⟨rfl, hbel⟩
theorem sameNames_same {A A' : Option Addr} {n c c' B B' : Nat} {ns : List NameV} {w : World} (hr : RdN w B A n ns) (hr' : RdN w B' A' n ns) (hn : n ≤ 9000000000000) :
 Calls Tryz.prog 38 #[.slice A n c, .slice A' n c'] w fun e w' => e = .returned (.bool true) ∧ Below w.heap.size w w' := by
 go_enter Tryz.func38, Tryz.ntmps38
 go_wp2; go_loopw [5] (fun i wr => ∃ k : Nat, k ≤ n ∧ i = .int .i64 k ∧ Below w.heap.size w wr) (fun i _ => n - (intOf i).toNat)
 case atStart => exact ⟨0, Nat.zero_le _, rfl, Below.refl _ _⟩
 case round =>
  obtain ⟨k, hk, rfl, hbel⟩ := hrel; by_cases hlt : k < n
  · obtain ⟨b, off, rfl, hbB, hc⟩ := hr.at_ (by omega); obtain ⟨b', off', rfl, hbB', hc'⟩ := hr'.at_ (by omega); obtain ⟨c0, c1⟩ := hc k hlt; obtain ⟨d0, d1⟩ := hc' k hlt; have l0 := block_lt_of_cell c0; have l1 := block_lt_of_cell d0; replace c0 := (hbel.cell (p := ⟨b, off + k * 2, none⟩) l0).trans c0; replace c1 := (hbel.cell (p := ⟨b, off + k * 2 + 1, none⟩) l0).trans c1; replace d0 := (hbel.cell (p := ⟨b', off' + k * 2, none⟩) l1).trans d0; replace d1 := (hbel.cell (p := ⟨b', off' + k * 2 + 1, none⟩) l1).trans d1; generalize ns.getD k noName = P at *; obtain ⟨s, f⟩ := P; have HB := hid hbel; clear hc hr hc' hr' hbel; go_wp2_with fail; go_quiet (fail)
    go_wp2_with fail; go_roundw
    case rel => exact ⟨k + 1, by omega, by go_num, below_drewN HB.out _⟩
    case measure => simp [intOf]; omega
  · have hkn : k = n := by omega
    subst hkn; go_wp2; go_ret; exact ⟨rfl, hbel⟩
theorem sameTable_same {A A' : Option Addr} {n c c' B B' : Nat} {ts : List (List Int)} {w : World} (hr : RdT w B A n ts) (hr' : RdT w B' A' n ts) (hB : B ≤ w.heap.size) (hB' : B' ≤ w.heap.size) (hn : n ≤ 9000000000000) (hsm : SmallT ts n 1048576) :
 Calls Tryz.prog 37 #[.agg #[.slice A n c], .agg #[.slice A' n c']] w fun e w' => e = .returned (.bool true) ∧ Below w.heap.size w w' := by
 have HSM := hid hsm; have b2 : Below w.heap.size w ((w.alloc (.cells #[.slice A n c] 26)).alloc (.cells #[.slice A' n c'] 26)) := ((Below.refl _ _).alloc (Nat.le_refl _) _).alloc (by simp) _; have k1 := (Blk.new w 26 #[.slice A n c]).alloc (.cells #[.slice A' n c'] 26); have k2 := Blk.new (w.alloc (.cells #[.slice A n c] 26)) 26 #[.slice A' n c']; rw [show (w.alloc (.cells #[.slice A n c] 26)).heap.size = w.heap.size + 1 by simp] at k2; have hr1 := (hr.mono hB).below b2; have hr1' := (hr'.mono hB').below b2; have lw : w.heap.size + 1 < ((w.alloc (.cells #[.slice A n c] 26)).alloc (.cells #[.slice A' n c'] 26)).heap.size := by simp
 have B2 := hid b2; clear hsm hr hr' b2; go_enter Tryz.func37, Tryz.ntmps37
 go_upto_region 1 with (fail)
 generalize (w.alloc (.cells #[.slice A n c] 26)).alloc (.cells #[.slice A' n c'] 26) = w1 at *; have t1 := k1.cell 0; have t2 := k2.cell 0; simp at t1 t2; go_wp2_with fail; go_loopw [5] (fun i wr => ∃ k : Nat, k ≤ n ∧ i = .int .i64 k ∧ Below w1.heap.size w1 wr) (fun i _ => n - (intOf i).toNat)
 case atStart => exact ⟨0, Nat.zero_le _, rfl, Below.refl _ _⟩
 case round =>
  obtain ⟨k, hk, rfl, hbel⟩ := hrel; replace t1 := (hbel.cell (p := ⟨w.heap.size, 0, none⟩) (by show w.heap.size < w1.heap.size; omega)).trans t1; replace t2 := (hbel.cell (p := ⟨w.heap.size + 1, 0, none⟩) lw).trans t2; by_cases hlt : k < n
  · obtain ⟨b, off, rfl, hbB, hc⟩ := hr1.at_ (by omega); obtain ⟨b', off', rfl, hbB', hc'⟩ := hr1'.at_ (by omega); obtain ⟨P, np, cp, c1, hp1, hp2, hp⟩ := hc k hlt; obtain ⟨Q, nq, cq, d1, hq1, hq2, hq⟩ := hc' k hlt; have hnq : nq = np := by rw [← hp.len, ← hq.len]
    subst hnq; have hns : nq ≤ 1048576 := by have := HSM.out k hlt; rw [hp.len] at this; omega
    have l0 : b < w1.heap.size := by omega
    have l1 : b' < w1.heap.size := by omega
    replace c1 := (hbel.cell (p := ⟨b, off + k, none⟩) l0).trans c1; replace d1 := (hbel.cell (p := ⟨b', off' + k, none⟩) l1).trans d1; have HP := hid ((hp.mono (Nat.le_of_lt (Nat.lt_of_lt_of_le (Nat.lt_succ_self _) (Nat.le_of_lt lw)))).below hbel); have HQ := hid ((hq.mono (Nat.le_of_lt (Nat.lt_of_lt_of_le (Nat.lt_succ_self _) (Nat.le_of_lt lw)))).below hbel); generalize ts.getD k [] = xs at *; have HB := hid hbel; clear hc hr1 hc' hr1' hbel hp hq k1 k2; go_upto_region 6 with (fail)
    go_region_held3 (fun w' => w'.cell? ⟨w.heap.size, 0, none⟩ = some (.slice (some ⟨b, off, none⟩) n c) ∧ w'.cell? ⟨w.heap.size + 1, 0, none⟩ = some (.slice (some ⟨b', off', none⟩) n c') ∧ w'.cell? ⟨b, off + k, none⟩ = some (.slice P nq cp) ∧ w'.cell? ⟨b', off' + k, none⟩ = some (.slice Q nq cq)) (first | exact ⟨t1, t2, c1, d1⟩ | exact ⟨u1, u2, u3, u4⟩) (first | (go_at_call 27; refine (sameInts_o HP.out.drew HQ.out.drew (by omega)).mono ?_; rintro e w2 ⟨rfl, hb2⟩; have u1 := (hb2.cell (p := ⟨w.heap.size, 0, none⟩) (block_lt_of_cell t1)).trans t1; have u2 := (hb2.cell (p := ⟨w.heap.size + 1, 0, none⟩) (block_lt_of_cell t2)).trans t2; have u3 := (hb2.cell (p := ⟨b, off + k, none⟩) (block_lt_of_cell c1)).trans c1; have u4 := (hb2.cell (p := ⟨b', off' + k, none⟩) (block_lt_of_cell d1)).trans d1))
    all_goals
     go_wp2_with fail; go_roundw
     case rel => exact ⟨k + 1, by omega, by go_num, HB.out.drew.trans (hb2.mono HB.out.size)⟩
     case measure => simp [intOf]; omega
  · have hkn : k = n := by omega
    subst hkn; go_wp2; go_ret; exact ⟨rfl, B2.out.trans (hbel.mono B2.out.size)⟩
theorem sameDisk_same {h h' : DH} {d : DiskV} {B B' : Nat} {w : World} (hr : RdD w B h d) (hr' : RdD w B' h' d) (hB : B ≤ w.heap.size) (hB' : B' ≤ w.heap.size) (hs : SmallDV d) :
 Calls Tryz.prog 10 #[.agg (dc h.bA h.bn h.bc h.tA h.tn h.tc d.hot d.warm d.cold d.stamp h.nA h.nn h.nc), .agg (dc h'.bA h'.bn h'.bc h'.tA h'.tn h'.tc d.hot d.warm d.cold d.stamp h'.nA h'.nn h'.nc)] w fun e w' => e = .returned (.bool true) ∧ Below w.heap.size w w' := by
 obtain ⟨bs, ts, x, y, z, st, ns⟩ := d; obtain ⟨bA, bn, bc, tA, tn, tc, nA, nn, nc⟩ := h; obtain ⟨bA', bn', bc', tA', tn', tc', nA', nn', nc'⟩ := h'; obtain ⟨m1, m2, m3, m4, m5, m6⟩ := hs; simp only at m1 m2 m3 m4 m5 m6; simp only
 obtain rfl : bs.length = bn := hr.b.len; obtain rfl : ts.length = tn := hr.t.len; obtain rfl : ns.length = nn := hr.n.len; obtain rfl : bs.length = bn' := hr'.b.len; obtain rfl : ts.length = tn' := hr'.t.len; obtain rfl : ns.length = nn' := hr'.n.len; have M4 := hid m4; have M5 := hid m5; clear m4 m5 m6; have e1 : (w.alloc (.cells (dc bA bs.length bc tA ts.length tc x y z st nA ns.length nc) 31)).heap.size = w.heap.size + 1 := by simp
 have K1 := (Blk.new w 31 (dc bA bs.length bc tA ts.length tc x y z st nA ns.length nc)).alloc (.cells (dc bA' bs.length bc' tA' ts.length tc' x y z st nA' ns.length nc') 31); have K2 := Blk.new (w.alloc (.cells (dc bA bs.length bc tA ts.length tc x y z st nA ns.length nc) 31)) 31 (dc bA' bs.length bc' tA' ts.length tc' x y z st nA' ns.length nc'); rw [e1] at K2; have b1 : Below w.heap.size w ((w.alloc (.cells (dc bA bs.length bc tA ts.length tc x y z st nA ns.length nc) 31)).alloc (.cells (dc bA' bs.length bc' tA' ts.length tc' x y z st nA' ns.length nc') 31)) := ((Below.refl _ _).alloc (Nat.le_refl _) _).alloc (by simp) _; have s1 : w.heap.size + 1 < ((w.alloc (.cells (dc bA bs.length bc tA ts.length tc x y z st nA ns.length nc) 31)).alloc (.cells (dc bA' bs.length bc' tA' ts.length tc' x y z st nA' ns.length nc') 31)).heap.size := by simp
 go_enter Tryz.func10, Tryz.ntmps10
 go_upto_region 1 with (fail)
 clear e1; generalize (w.alloc (.cells (dc bA bs.length bc tA ts.length tc x y z st nA ns.length nc) 31)).alloc (.cells (dc bA' bs.length bc' tA' ts.length tc' x y z st nA' ns.length nc') 31) = w1 at *; have hr1 := (hr.mono hB).below b1; have hr1' := (hr'.mono hB').below b1; obtain ⟨f0, f1, f2, f3, f4, f5, f6⟩ := K1.all7; obtain ⟨g0, g1, g2, g3, g4, g5, g6⟩ := K2.all7; go_wp2_with fail; refine (sameDevice_same (n := bs.length) hr1.b hr1'.b b1.size b1.size (by omega) M4.out).mono ?_; rintro e w2 ⟨rfl, b2⟩; have K3 := K1.below b2 (by omega); have K4 := K2.below b2 (by omega); have B2 := hid (b1.trans (b2.mono b1.size)); have hr2 := hr1.below (b2.mono b1.size); have hr2' := hr1'.below (b2.mono b1.size); have hs2 := B2.out.size; have s2 : w.heap.size + 1 < w2.heap.size := by have := b2.size; omega
 clear K1 K2 hr1 hr1' b1 b2 hr hr' s1 f0 f1 f2 f3 f4 f5 f6 g0 g1 g2 g3 g4 g5 g6; obtain ⟨f0, f1, f2, f3, f4, f5, f6⟩ := K3.all7; obtain ⟨g0, g1, g2, g3, g4, g5, g6⟩ := K4.all7; go_wp2_with fail; refine (sameTable_same (n := ts.length) hr2.t hr2'.t hs2 hs2 (by omega) M5.out).mono ?_; rintro e w3 ⟨rfl, b3⟩; have K1 := K3.below b3 (by omega); have K2 := K4.below b3 (by omega); have B3 := hid (B2.out.trans (b3.mono hs2)); have hr3 := hr2.below (b3.mono hs2); have hr3' := hr2'.below (b3.mono hs2); have hs3 := B3.out.size; clear K3 K4 hr2 hr2' b3 s2 f0 f1 f2 f3 f4 f5 f6 g0 g1 g2 g3 g4 g5 g6; obtain ⟨f0, f1, f2, f3, f4, f5, f6⟩ := K1.all7; obtain ⟨g0, g1, g2, g3, g4, g5, g6⟩ := K2.all7; go_wp2_with fail; refine (sameNames_same (n := ns.length) hr3.n hr3'.n (by omega)).mono ?_; rintro e w5 ⟨rfl, b5⟩; have B5 := hid (B3.out.trans (b5.mono hs3)); clear b5 hr3 hr3'; go_wp2; go_ret; exact ⟨rfl, B5.out⟩
theorem bytes_ok {w : World} {a : Option Addr} {n c : Nat} {z : List Int} (h : IsRow .u8 w a n c z) :
 n ≤ c ∧ c ≤ 9223372036854775807 ∧ RdI .u8 w w.heap.size a n (z.take n) ∧ ∀ x ∈ z.take n, 0 ≤ x ∧ x ≤ 255 := by
 obtain ⟨h1, h2, h3, h4⟩ := isRow_rd h; refine ⟨h1, by unfold maxLen at h2; exact h2, h3, fun x hx => ?_⟩; have := bounds_u8 (h4 x hx); omega
theorem bitCount_10 (w : World) : Calls Tryz.prog 44 #[.int .i64 10] w fun e w' => e = .returned (.int .i64 2) ∧ w = w' := by
 go_enter Tryz.func44, Tryz.ntmps44
 go_wp2_with fail; refine wp_loop_rounds 5 ?_
 repeat any_goals (rw [rounds_succ]; go_wp2)
 go_ret; exact ⟨rfl, rfl⟩
theorem bitCount_m1 (w : World) : Calls Tryz.prog 44 #[.int .i64 (-1)] w fun e w' => e = .returned (.int .i64 (-1)) ∧ w = w' := by
 go_enter Tryz.func44, Tryz.ntmps44
 go_wp2; go_ret
 exact ⟨rfl, rfl⟩
theorem alive_c (w : World) : Calls Tryz.prog 12 #[] w fun e w' => e = .returned (.bool true) ∧ w = w' := by
 go_enter Tryz.func12, Tryz.ntmps12
 go_wp2_with fail; refine (bitCount_10 _).mono ?_; rintro e w' ⟨rfl, rfl⟩
 go_wp2_with fail; refine (bitCount_m1 _).mono ?_; rintro e w' ⟨rfl, rfl⟩
 go_wp2_with fail; go_ret
 exact ⟨rfl, rfl⟩
end Go.Proofs.YtefdjahaimnndaaGreatDoor
