/- Parts of the proof, one after the other. -/
import Derived.Test.YtefdjahaimnndaaGreatDoorC13
namespace Go.Proofs.YtefdjahaimnndaaGreatDoor
open Go.ChangeShapes Go.WideShapes Go.ChangeAt Go.RowKit Go.Deep
open Go.Lib (hid)
set_option linter.unusedVariables false
set_option linter.unusedSimpArgs false
noncomputable def cntTo (bs : List BlockV) (us : List Int) (n : Nat) : Nat → Nat
 | 0 => 0
 | k + 1 => cntTo bs us n k + if (pgAt bs (us.getD k 0)).full = true ∧ us.getD k 0 / 4 = (n : Int) then 1 else 0
theorem cntTo_le (bs : List BlockV) (us : List Int) (n : Nat) : ∀ k, cntTo bs us n k ≤ k
 | 0 => Nat.le_refl _
 | k + 1 => by
  have := cntTo_le bs us n k; unfold cntTo; split <;> omega
noncomputable def countsTo (bs : List BlockV) (us : List Int) : Nat → List Int
 | 0 => []
 | n + 1 => countsTo bs us n ++ [(cntTo bs us n us.length : Int)]
noncomputable def countsL (bs : List BlockV) (ts : List (List Int)) : List Int := countsTo bs (usedL ts) bs.length
theorem countsTo_len (bs : List BlockV) (us : List Int) : ∀ n, (countsTo bs us n).length = n
 | 0 => rfl
 | n + 1 => by unfold countsTo; simp [countsTo_len bs us n]
theorem countsL_len (bs : List BlockV) (ts : List (List Int)) : (countsL bs ts).length = bs.length := countsTo_len _ _ _
theorem wpList_appI4 {ops : Array Oper} {rest : List Oper} {o : Oper} {a : Act} {Q : Exit → Act → World → Prop} {w : World} {s x : Operand} {base : Nat} {g0 : Nat} {c0 n : Nat} {xs : List Int} {y : Int} (hgd : o.guard = none)
 (ho : o.op = .call { callee := .builtin .append, args := #[s, x], argTypes := #[57, 57] })
 (hs : a.eval s = .slice (some ⟨g0, 0, none⟩) n c0) (hown : w.ownsRow base 3 1 (.slice (some ⟨g0, 0, none⟩) n c0) n (xs.map (Value.int .i64)))
 (hx : a.eval x = .slice (some ⟨w.heap.size, 0, none⟩) 1 1) (hn : n ≤ 1000000000000) (hbase : base ≤ w.heap.size)
 (h : ∀ g c w', w'.ownsRow base 3 1 (.slice (some ⟨g, 0, none⟩) (n + 1) c) (n + 1) ((xs ++ [y]).map (Value.int .i64)) → w.grownBy w' (some g0) → (g = g0 ∨ w.heap.size ≤ g) → wpList Tryz.prog ops Q rest (a.put o.dst (.slice (some ⟨g, 0, none⟩) (n + 1) c)) w') :
 wpList Tryz.prog ops Q (o :: rest) a (w.alloc (.cells #[.int .i64 y] 3)) := by
 obtain ⟨i0, hi, hz0, hz1, hz2⟩ := info_parts infoInt; refine wpList_append_own_at _ hgd s x 57 ho base 3 i0 (.int .i64 0) 1 8 Tryz.underlying57 hi hz0 hz1 hz2 rfl (by decide) (.slice (some ⟨g0, 0, none⟩) n c0) n _ hs (hown.alloc _) ⟨w.heap.size, 0, none⟩ 1 1 [.int .i64 y] hx rfl ?_ (by simp [Value.oneCell']) (by unfold maxLen; omega) (by omega) (by simp; omega) ?_
 · intro j u hj
   rw [add_none, Nat.zero_add]; have := (Blk.new w 3 [Value.int .i64 y].toArray).cell j; rw [this, List.getElem?_toArray]; exact hj
 · intro v' w' hown' hg _ hat
   rcases hown'.2 with ⟨h1, h2⟩ | ⟨g, cap, cur, h1, hb, _⟩
   · omega
   · subst h1; refine h g cap w' (by rw [List.map_append]; exact hown') ⟨hg.os, hg.tape, hg.output, Nat.le_trans (by simp) hg.size, fun k hk hne => ?_⟩ ?_
     · rw [hg.block k (by simp; omega) hne]; exact Below.heap_alloc w _ k hk
     · rcases hat with h3 | h3
       · left; have h4 : some g = some g0 := h3; injection h4
       · right; have h4 : some g = some (w.alloc (.cells [Value.int .i64 y].toArray 3)).heap.size := h3
         injection h4 with h4; rw [h4]; simp
set_option maxRecDepth 8000 in
set_option maxHeartbeats 4000000 in
theorem blockCounts_spec {A At : Option Addr} {m c n ct B : Nat} {bs : List BlockV} {ts : List (List Int)} {w : World} (hr : RdB w B A m bs) (hB : B ≤ w.heap.size) (hok : DevOk bs) (ht : RdT w B At n ts) (hokt : TableOk ts) :
 Calls Tryz.prog 113 #[.slice A m c, .agg #[.slice At n ct]] w (OwI w (countsL bs ts)) := by
 obtain rfl : bs.length = m := hr.len; obtain rfl : n = 8 := by rw [← ht.len, hokt.1]
 have hm12 : bs.length ≤ 12 := hok.1.2; have HBD := hid (bof_t.2 hok); have HBT := hid (bof_t.2 hokt); have HOK := hid hok; have HR := hid (hr.mono hB); have HT := hid (ht.mono hB); have b1 : Below w.heap.size w ((w.alloc (.cells #[.slice At 8 ct] 26)).alloc (.cells #[] 3)) := ((Below.refl _ _).alloc (Nat.le_refl _) _).alloc (by simp) _; have k1 := (Blk.new w 26 #[.slice At 8 ct]).alloc (.cells #[] 3); have o1 := World.ownsRow_lit (base := w.heap.size) (e := 3) (size := 1) (w.alloc (.cells #[.slice At 8 ct] 26)) #[] 0 (by simp) (by decide) rfl; rw [show (w.alloc (.cells #[.slice At 8 ct] 26)).heap.size = w.heap.size + 1 by simp] at o1; have g1 : w.heap.size + 1 < ((w.alloc (.cells #[.slice At 8 ct] 26)).alloc (.cells #[] 3)).heap.size := by simp
 have B1 := hid b1; clear hr ht b1; go_enter Tryz.func113, Tryz.ntmps113
 go_upto_region 2 with (fail)
 generalize (w.alloc (.cells #[.slice At 8 ct] 26)).alloc (.cells #[] 3) = w1 at *; have t0 := k1.cell 0; simp at t0; go_wp2_with fail; refine (usedPages_spec (HT.out.below B1.out) B1.out.size hokt).mono ?_; rintro e w2 ⟨gu, cu, rfl, ou, b2⟩; have HCL := hid (show countsL bs ts = countsTo bs (usedL ts) bs.length from rfl); have hus := usedTo_mem ts 48; have hul := usedTo_len ts 48; rw [show usedTo ts 48 = usedL ts from rfl] at hus hul; generalize usedL ts = us at *; have HUS := hid hus; have ap : ∀ q, (Value.slice (some ⟨gu, 0, none⟩) us.length cu).ownBlock = some q → q ≠ w.heap.size + 1 := fun q hq => by have := (own_lt ou hq).1; omega
 have ou2 := own_lower ou (base' := w.heap.size) B1.out.size; have k2 := k1.below b2 k1.lt; have o2 := own_below o1 b2; have B2 := B1.out.trans (b2.mono B1.out.size); clear ou k1 o1 B1 b2 t0 hus hokt; go_wp2_with fail; go_loopw [5, 7] (fun v i wr => ∃ (k g0 co : Nat), k ≤ bs.length ∧ i = .int .i64 k ∧ v = .slice (some ⟨g0, 0, none⟩) k co ∧ wr.ownsRow w.heap.size 3 1 (.slice (some ⟨g0, 0, none⟩) k co) k ((countsTo bs us k).map (Value.int .i64)) ∧ wr.ownsRow w.heap.size 3 1 (.slice (some ⟨gu, 0, none⟩) us.length cu) us.length (us.map (Value.int .i64)) ∧ (∀ q, (Value.slice (some ⟨gu, 0, none⟩) us.length cu).ownBlock = some q → q ≠ g0) ∧ Blk wr w.heap.size 26 #[.slice At 8 ct] ∧ Below w.heap.size w wr) (fun _ i _ => bs.length - (intOf i).toNat)
 case atStart => exact ⟨0, _, _, Nat.zero_le _, rfl, rfl, o2, ou2, ap, k2, B2⟩
 case round =>
  obtain ⟨k, g0, co, hk, rfl, rfl, o3, ou3, ap3, k3, b3⟩ := hrel; have B3 := hid b3; have s3 := b3.size; clear b3 o2 ou2 ap k2 B2; by_cases hlt : k < bs.length
  · have kI : (k : Int) < bs.length := by omega
    go_wp2_with fail; refine (deviceValid_spec (HR.out.below B3.out) s3 (by omega)).mono ?_
    rw [HBD.out]; rintro e w4 ⟨rfl, b4⟩; have k4 := k3.below b4 k3.lt; have o4 := own_below o3 b4; have ou4 := own_below ou3 b4; have B4 := hid (B3.out.trans (b4.mono s3)); have s4 := B4.out.size; have t0 := k4.cell 0; simp at t0; clear k3 o3 ou3 B3 b4 s3; go_wp2_with fail; refine (tableValid_spec (HT.out.below B4.out) s4 (by omega)).mono ?_; rw [HBT.out]; rintro e w5 ⟨rfl, b5⟩; have k5 := k4.below b5 k4.lt; have O5 := hid (own_below o4 b5); have ou5 := own_below ou4 b5; have B5 := B4.out.trans (b5.mono s4); have AP := hid ap3; clear k4 o4 ou4 B4 b5 s4 t0 ap3; go_wp2_with fail; go_loopw [8, 9] (fun mm i wr => ∃ (j q : Nat), j ≤ us.length ∧ i = .int .i64 j ∧ cntTo bs us k j = q ∧ mm = .int .i64 q ∧ wr.ownsRow w.heap.size 3 1 (.slice (some ⟨g0, 0, none⟩) k co) k ((countsTo bs us k).map (Value.int .i64)) ∧ wr.ownsRow w.heap.size 3 1 (.slice (some ⟨gu, 0, none⟩) us.length cu) us.length (us.map (Value.int .i64)) ∧ Blk wr w.heap.size 26 #[.slice At 8 ct] ∧ Below w.heap.size w wr) (fun _ i _ => us.length - (intOf i).toNat)
    case atStart => exact ⟨0, 0, Nat.zero_le _, rfl, rfl, rfl, O5.out, ou5, k5, B5⟩
    case round =>
     obtain ⟨j, q, hj, rfl, hq, rfl, o6, ou6, k6, b6⟩ := hrel; clear ou5 k5 B5; have O6 := hid o6; have B6 := hid b6; have s6 := b6.size; have HQ := hid hq; have hq48 : q ≤ 48 := by have := cntTo_le bs us k j; omega
     clear o6 b6 hq O5; by_cases hjl : j < us.length
     · have jI : (j : Int) < us.length := by omega
       have hgu2 : gu < wr.heap.size := (own_lt ou6 rfl).2; have d0 := own_cellI ou6 j hjl; have hu := HUS.out (us.getD j 0) (by rw [List.getD_eq_getElem?_getD, List.getElem?_eq_getElem hjl]; exact List.getElem_mem hjl); have HS := hid (show cntTo bs us k (j + 1) = q + if (pgAt bs (us.getD j 0)).full = true ∧ us.getD j 0 / 4 = (k : Int) then 1 else 0 from by rw [← HQ.out]; rfl); have OU6 := hid ou6; generalize us.getD j 0 = u at *; clear ou6; go_wp2_with fail; refine (readPage_sX (at' := u) (HR.out.below B6.out) s6 (by omega) HOK.out).mono ?_; rintro e w7 ⟨rfl, b7⟩; have O7 := hid (own_below O6.out b7); have OU7 := hid (own_below OU6.out b7); have k7 := k6.below b7 k6.lt; have B7 := hid (B6.out.trans (b7.mono s6)); have d7 := (b7.cell (p := ⟨gu, j, none⟩) hgu2).trans d0; have s7 := B7.out.size; have gl7 : gu < w7.heap.size := block_lt_of_cell d7; clear O6 OU6 k6 b7 B6 d0; generalize pgAt bs u = pg at *; obtain ⟨pf, px, py, pz, pst⟩ := pg; unfold pgv; simp only at HS ⊢; go_upto_region 11 with (fail)
       have bA : Below w7.heap.size w7 (w7.alloc (.cells #[.bool pf, .int .i64 px, .int .i64 py, .int .i64 pz, .int .i64 pst] 88)) := (Below.refl _ _).alloc (Nat.le_refl _) _; have O8 := hid (own_below O7.out bA); have OU8 := hid (own_below OU7.out bA); have k8 := k7.below bA k7.lt; have B8 := hid (B7.out.trans (bA.mono s7)); have d8 := (bA.cell (p := ⟨gu, j, none⟩) gl7).trans d7; clear O7 OU7 k7 bA B7 d7; generalize w7.alloc (.cells #[.bool pf, .int .i64 px, .int .i64 py, .int .i64 pz, .int .i64 pst] 88) = w8 at *; have ht4 : u.tdiv 4 = u / 4 := Int.tdiv_eq_ediv_of_nonneg hu.1; have hu4 : 0 ≤ u / 4 ∧ u / 4 < 12 := by omega
       cases pf
       · have HS' := hid (show cntTo bs us k (j + 1) = q from by rw [HS.out, if_neg (fun h => by cases h.1)]; rfl); go_wp2; go_roundw
         case rel => exact ⟨j + 1, q, by omega, by go_num, HS'.out, rfl, O8.out, OU8.out, k8, B8.out⟩
         case measure => simp [intOf]; omega
       · by_cases hq4 : u / 4 = (k : Int)
         · have HS' := hid (show cntTo bs us k (j + 1) = q + 1 from by rw [HS.out, if_pos ⟨rfl, hq4⟩]); have wq : IntKind.i64.wrap ((q : Int) + 1) = ((q + 1 : Nat) : Int) := (IntWalk.i64_in _ (by omega)).trans (by omega); have hbq : (u / 4 == (k : Int)) = true := by simpa using hq4
           go_wp2; go_roundw
           case rel => exact ⟨j + 1, q + 1, by omega, by go_num, HS'.out, by first | rfl | (rw [wq]) | (simp), O8.out, OU8.out, k8, B8.out⟩
           case measure => simp [intOf]; omega
         · have HS' := hid (show cntTo bs us k (j + 1) = q from by rw [HS.out, if_neg (fun h => hq4 h.2)]; rfl); have hbq : (u / 4 == (k : Int)) = false := by simpa using hq4
           go_wp2; go_roundw
           case rel => exact ⟨j + 1, q, by omega, by go_num, HS'.out, rfl, O8.out, OU8.out, k8, B8.out⟩
           case measure => simp [intOf]; omega
     · obtain rfl : j = us.length := by omega
       have OU6 := hid ou6; clear ou6; go_wp2_with (at_builtin; refine wpList_appI4 rfl rfl rfl O6.out rfl (by omega) s6 ?_; rintro g3 c3 w7 o7 gr7 hg7)
       have HO7 := hid (show w7.ownsRow w.heap.size 3 1 (.slice (some ⟨g3, 0, none⟩) (k + 1) c3) (k + 1) ((countsTo bs us (k + 1)).map (Value.int .i64)) from by
        rw [show countsTo bs us (k + 1) = countsTo bs us k ++ [(q : Int)] from by rw [← HQ.out]; rfl]; exact o7)
       have HB7 := hid (below_app B6.out O6.out s6 gr7); have K7 := hid (k6.typed (ChgT.grown O6.out (ts := [3]) (by simp) gr7) (by decide)); have HU7 := hid (own_other OU6.out gr7 (fun q hq e => by injection e with e; exact AP.out q hq e.symm)); have HA7 := hid (show ∀ q, (Value.slice (some ⟨gu, 0, none⟩) us.length cu).ownBlock = some q → q ≠ g3 from fun q hq => by
        rcases hg7 with h | h
        · rw [h]; exact AP.out q hq
        · have := (own_lt OU6.out hq).2; omega)
       clear o7 gr7 k6 O6 OU6; go_wp2; go_roundw
       case rel => exact ⟨k + 1, _, _, by omega, by go_num, rfl, HO7.out, HU7.out, HA7.out, K7.out, HB7.out⟩
       case measure => simp [intOf]; omega
  · obtain rfl : k = bs.length := by omega
    have O3 := hid o3; go_wp2; go_ret; exact owI_of (by rw [HCL.out]; exact countsTo_len _ _ _) (by rw [HCL.out]; exact O3.out) B3.out
def mayB (bs : List BlockV) (cs : List Int) (h : HeadV) (k : Nat) : Bool := decide (nextP (bs.getD k noBlock).pages < 0) && (decide (cs.getD k 0 < 4) && !h.has k)
set_option maxHeartbeats 2000000 in
theorem l13May_spec {A C : Option Addr} {m c mc cc B k : Nat} {bs : List BlockV} {cs : List Int} (h : HeadV) {w : World} (hr : RdB w B A m bs) (hc : RdI .i64 w B C mc cs) (hB : B ≤ w.heap.size) (hok : DevOk bs) (hk : k < bs.length) (hkc : k < cs.length) :
 Calls Tryz.prog 114 #[.slice A m c, .slice C mc cc, hdv h, .int .i64 k] w fun e w' => e = .returned (.bool (mayB bs cs h k)) ∧ Below w.heap.size w w' := by
 obtain rfl : bs.length = m := hr.len; obtain rfl : cs.length = mc := hc.len; have hm12 : bs.length ≤ 12 := hok.1.2; obtain ⟨x, y, z⟩ := h; have HBK := hid (hok.2 k hk); have HMY := hid (show mayB bs cs ⟨x, y, z⟩ k = (decide (nextP (bs.getD k noBlock).pages < 0) && (decide (cs.getD k 0 < 4) && !((k : Int) == x || (k : Int) == y || (k : Int) == z))) from rfl); have b1 : Below w.heap.size w (w.alloc (.cells #[.int .i64 x, .int .i64 y, .int .i64 z] 28)) := (Below.refl _ _).alloc (Nat.le_refl _) _; have k1 := Blk.new w 28 #[.int .i64 x, .int .i64 y, .int .i64 z]; have l1 := k1.lt; have r1 := (hr.mono hB).below b1; have c1 := (hc.mono hB).below b1; have B1 := hid b1; clear hr hc b1 hok; go_enter Tryz.func114, Tryz.ntmps114
 go_upto_region 1 with (fail)
 generalize w.alloc (.cells #[.int .i64 x, .int .i64 y, .int .i64 z] 28) = w1 at *; obtain ⟨b, off, rfl, hbB, hcc⟩ := r1.at_ (by omega); obtain ⟨A', n', c', d0, d1, hnc, hcm, hrg⟩ := hcc k hk; obtain ⟨cb, co, rfl, hcb, hccs⟩ := c1.at_ (by omega); have e0 := hccs k hkc; generalize hPP : bs.getD k noBlock = PP at *; obtain ⟨we, pl⟩ := PP; simp only at d0 hrg HMY; generalize cs.getD k 0 = ck at *; have kI : (k : Int) < bs.length := by omega
 have kC : (k : Int) < cs.length := by omega
 clear hcc hccs r1 c1 hPP; go_wp2_with fail; refine (blockNext_spec hrg B1.out.size hnc hcm HBK.out).mono ?_; rintro e w2 ⟨rfl, b2⟩; have k2 := k1.below b2 l1; have e2 := (b2.cell (p := ⟨cb, co + k, none⟩) (by show cb < w1.heap.size; have := B1.out.size; omega)).trans e0; have B2 := hid (B1.out.trans (b2.mono B1.out.size)); have t0 := k2.cell 0; have t1 := k2.cell 1; have t2 := k2.cell 2; simp at t0 t1 t2; clear d0 d1 hrg e0 k1 B1 b2; generalize nextP pl = q at *; by_cases h1 : q < 0
 · have g1 : decide (q < 0) = true := decide_eq_true h1; by_cases h2 : ck < 4
   · have g2 : decide (ck < 4) = true := decide_eq_true h2; have HE := hid (show mayB bs cs ⟨x, y, z⟩ k = ((k : Int) != x && ((k : Int) != y && (k : Int) != z)) from by rw [HMY.out, g1, g2]; simp [bne, Bool.not_or, Bool.and_assoc]); cases g3 : ((k : Int) != x)
     · go_wp2; go_ret
       exact ⟨by rw [HE.out, g3]; rfl, B2.out⟩
     · cases g4 : ((k : Int) != y)
       · go_wp2; go_ret
         exact ⟨by rw [HE.out, g3, g4]; rfl, B2.out⟩
       · cases g5 : ((k : Int) != z)
         · go_wp2; go_ret
           exact ⟨by rw [HE.out, g3, g4, g5]; rfl, B2.out⟩
         · go_wp2; go_ret
           exact ⟨by rw [HE.out, g3, g4, g5]; rfl, B2.out⟩
   · have g2 : decide (ck < 4) = false := decide_eq_false h2; go_wp2; go_ret; exact ⟨by rw [HMY.out, g1, g2]; rfl, B2.out⟩
 · have g1 : decide (q < 0) = false := decide_eq_false h1; go_wp2; go_ret; exact ⟨by rw [HMY.out, g1]; rfl, B2.out⟩
def victTo (bs : List BlockV) (cs : List Int) (h : HeadV) : Nat → Int
 | 0 => -1
 | k + 1 => if mayB bs cs h k = true then (if victTo bs cs h k < 0 ∨ cs.getD k 0 < cs.getD (victTo bs cs h k).toNat 0 then (k : Int) else victTo bs cs h k) else victTo bs cs h k
noncomputable def greedyV (bs : List BlockV) (ts : List (List Int)) (h : HeadV) : Int := victTo bs (countsL bs ts) h bs.length
theorem victTo_range (bs : List BlockV) (cs : List Int) (h : HeadV) : ∀ k, -1 ≤ victTo bs cs h k ∧ victTo bs cs h k < k
 | 0 => ⟨Int.le_refl _, by unfold victTo; omega⟩
 | k + 1 => by
  have := victTo_range bs cs h k; unfold victTo; split
  · split <;> omega
  · omega
theorem RdI.drewR {k : IntKind} {w : World} {B n : Nat} {A : Option Addr} {xs : List Int} (h : RdI k w B A n xs) : RdI k w.drew B A n xs := h.below ((Below.refl _ _).drew)
set_option maxRecDepth 8000 in
set_option maxHeartbeats 4000000 in
theorem greedyVictim_spec {A At : Option Addr} {m c n ct B : Nat} {bs : List BlockV} {ts : List (List Int)} {h : HeadV} {w : World} (hr : RdB w B A m bs) (hB : B ≤ w.heap.size) (hok : HeadsOk bs h.x h.y h.z) (ht : RdT w B At n ts) (hokt : TableOk ts) :
 Calls Tryz.prog 59 #[.slice A m c, .agg #[.slice At n ct], hdv h] w fun e w' => e = .returned (.int .i64 (greedyV bs ts h)) ∧ Below w.heap.size w w' := by
 obtain rfl : bs.length = m := hr.len; obtain rfl : n = 8 := by rw [← ht.len, hokt.1]
 have hm12 : bs.length ≤ 12 := hok.1.1.2; obtain ⟨x, y, z⟩ := h; simp only at hok; have HBT := hid (bof_t.2 hok); have HDV := hid hok.1; have HOT := hid hokt; have HR := hid (hr.mono hB); have HT := hid (ht.mono hB); have b1 : Below w.heap.size w ((w.alloc (.cells #[.slice At 8 ct] 26)).alloc (.cells #[.int .i64 x, .int .i64 y, .int .i64 z] 28)) := ((Below.refl _ _).alloc (Nat.le_refl _) _).alloc (by simp) _; have k1 := (Blk.new w 26 #[.slice At 8 ct]).alloc (.cells #[.int .i64 x, .int .i64 y, .int .i64 z] 28); have h1 := Blk.new (w.alloc (.cells #[.slice At 8 ct] 26)) 28 #[.int .i64 x, .int .i64 y, .int .i64 z]; rw [show (w.alloc (.cells #[.slice At 8 ct] 26)).heap.size = w.heap.size + 1 by simp] at h1; have B1 := hid b1; clear hr ht b1 hok; go_enter Tryz.func59, Tryz.ntmps59
 go_upto_region 1 with (fail)
 generalize (w.alloc (.cells #[.slice At 8 ct] 26)).alloc (.cells #[.int .i64 x, .int .i64 y, .int .i64 z] 28) = w1 at *; have t0 := k1.cell 0; simp at t0; go_wp2_with fail; refine (blockCounts_spec (HR.out.below B1.out) B1.out.size HDV.out (HT.out.below B1.out) HOT.out).mono ?_; rintro e w2 ⟨gc, cc, rfl, oc, b2⟩; rw [countsL_len] at oc ⊢; have HLC := hid (countsL_len bs ts); have HGV := hid (show greedyV bs ts ⟨x, y, z⟩ = victTo bs (countsL bs ts) ⟨x, y, z⟩ bs.length from rfl); generalize countsL bs ts = cs at *; have O2 := own_lower oc (base' := w.heap.size) B1.out.size; have k2 := k1.below b2 k1.lt; have h2 := h1.below b2 h1.lt; have B2 := B1.out.trans (b2.mono B1.out.size); clear oc k1 h1 B1 b2 t0; go_wp2_with fail; go_loopw [7, 9] (fun v i wr => ∃ k : Nat, k ≤ bs.length ∧ i = .int .i64 k ∧ v = .int .i64 (victTo bs cs ⟨x, y, z⟩ k) ∧ wr.ownsRow w.heap.size 3 1 (.slice (some ⟨gc, 0, none⟩) bs.length cc) bs.length (cs.map (Value.int .i64)) ∧ Blk wr w.heap.size 26 #[.slice At 8 ct] ∧ Blk wr (w.heap.size + 1) 28 #[.int .i64 x, .int .i64 y, .int .i64 z] ∧ Below w.heap.size w wr) (fun _ i _ => bs.length - (intOf i).toNat)
 case atStart => exact ⟨0, Nat.zero_le _, rfl, rfl, O2, k2, h2, B2⟩
 case round =>
  obtain ⟨k, hk, rfl, rfl, o3, k3, h3, b3⟩ := hrel; clear O2 k2 h2 B2; have B3 := hid b3; have s3 := b3.size; clear b3; by_cases hlt : k < bs.length
  · have kI : (k : Int) < bs.length := by omega
    have t0 := h3.cell 0; have t1 := h3.cell 1; have t2 := h3.cell 2; simp at t0 t1 t2; go_wp2_with fail; refine (headsValid_spec (HR.out.below B3.out) s3 (by omega)).mono ?_; rw [HBT.out]; rintro e w4 ⟨rfl, b4⟩; have HB := hid (B3.out.trans (b4.mono s3)); have hs4 := HB.out.size; have k4 := k3.below b4 k3.lt; have h4 := h3.below b4 h3.lt; have o4 := own_below o3 b4; have r4 := (HR.out.below HB.out); have o4r := rdoI o4; clear k3 h3 o3 b4 t0 t1 t2; have t0 := h4.cell 0; have t1 := h4.cell 1; have t2 := h4.cell 2; simp at t0 t1 t2; have hcl : k < cs.length := by rw [HLC.out]; exact hlt
    have HV := hid (show victTo bs cs ⟨x, y, z⟩ (k + 1) = if mayB bs cs ⟨x, y, z⟩ k = true then (if victTo bs cs ⟨x, y, z⟩ k < 0 ∨ cs.getD k 0 < cs.getD (victTo bs cs ⟨x, y, z⟩ k).toNat 0 then (k : Int) else victTo bs cs ⟨x, y, z⟩ k) else victTo bs cs ⟨x, y, z⟩ k from rfl); have HRG := victTo_range bs cs ⟨x, y, z⟩ k; generalize victTo bs cs ⟨x, y, z⟩ k = V at *; go_upto_region 6 with (fail)
    cases hmy : mayB bs cs ⟨x, y, z⟩ k
    · have HMY := hid hmy; clear hmy; refine wp_region_held_drew (S := fun w' => w'.cell? ⟨w.heap.size + 1, 0, none⟩ = some (.int .i64 x) ∧ w'.cell? ⟨w.heap.size + 1, 1, none⟩ = some (.int .i64 y) ∧ w'.cell? ⟨w.heap.size + 1, 2, none⟩ = some (.int .i64 z)) (by kernel_rfl) ?_ (fun h_ => ?_)
      · exact ⟨h4.cell 0, h4.cell 1, h4.cell 2⟩
      refine tk 0 ?_; refine tk 1 ?_; refine tk 2 ?_; refine tk 3 ?_; refine rd1 4 (fun K hK => ?_); go_simp; refine (l13May_spec ⟨x, y, z⟩ (r4.drew.mono (show w.heap.size ≤ w4.drew.heap.size from hs4)) (show RdI .i64 w4.drew w4.drew.heap.size _ _ _ from o4r.drewR) (Nat.le_refl _) HDV.out hlt hcl).mono ?_; rw [HMY.out]; rintro e w5 ⟨rfl, b5⟩; have HB5 := hid (HB.out.drew.trans (b5.mono hs4)); have h5 := (show Blk w4.drew (w.heap.size + 1) 28 _ from h4).below b5 h4.lt; have o5 := own_below (own_below o4 ((Below.refl _ _).drew)) b5; have k5 := (show Blk w4.drew w.heap.size 26 _ from k4).below b5 k4.lt; have r5 := (r4.drew).below (b5.mono hs4); go_wp2_with fail; refine hK.out _ _ (⟨h5.cell 0, h5.cell 1, h5.cell 2⟩) fun h_ => ?_
      clear hK K; refine pt ?_; refine tk 5 ?_; refine sk 6 ?_; refine sk 7 ?_; refine sk 8 ?_; refine sk 9 ?_; refine sk 10 ?_; refine sk 11 ?_; refine sk 12 ?_; refine sk 13 ?_; refine sk 14 ?_; refine sk 15 ?_; refine sk 16 ?_; refine sk 17 ?_; refine sk 18 ?_; refine tk 19 ?_; refine dn ?_; clear h_; have HV' := hid (show victTo bs cs ⟨x, y, z⟩ (k + 1) = V from by rw [HV.out, if_neg (by rw [HMY.out]; simp)]); go_wp2; go_roundw
      case rel => exact ⟨k + 1, by omega, by go_num, by rw [HV'.out], o5, k5, h5, HB5.out⟩
      case measure => simp [intOf]; omega
    · have HMY := hid hmy; clear hmy; by_cases hv : V < 0
      · have hb0 : decide (V < 0) = true := decide_eq_true hv; refine wp_region_held_drew (S := fun w' => w'.cell? ⟨w.heap.size + 1, 0, none⟩ = some (.int .i64 x) ∧ w'.cell? ⟨w.heap.size + 1, 1, none⟩ = some (.int .i64 y) ∧ w'.cell? ⟨w.heap.size + 1, 2, none⟩ = some (.int .i64 z)) (by kernel_rfl) ?_ (fun h_ => ?_)
        · exact ⟨h4.cell 0, h4.cell 1, h4.cell 2⟩
        refine tk 0 ?_; refine tk 1 ?_; refine tk 2 ?_; refine tk 3 ?_; refine rd1 4 (fun K hK => ?_); go_simp; refine (l13May_spec ⟨x, y, z⟩ (r4.drew.mono (show w.heap.size ≤ w4.drew.heap.size from hs4)) (show RdI .i64 w4.drew w4.drew.heap.size _ _ _ from o4r.drewR) (Nat.le_refl _) HDV.out hlt hcl).mono ?_; rw [HMY.out]; rintro e w5 ⟨rfl, b5⟩; have HB5 := hid (HB.out.drew.trans (b5.mono hs4)); have h5 := (show Blk w4.drew (w.heap.size + 1) 28 _ from h4).below b5 h4.lt; have o5 := own_below (own_below o4 ((Below.refl _ _).drew)) b5; have k5 := (show Blk w4.drew w.heap.size 26 _ from k4).below b5 k4.lt; have r5 := (r4.drew).below (b5.mono hs4); go_wp2_with fail; refine hK.out _ _ (⟨h5.cell 0, h5.cell 1, h5.cell 2⟩) fun h_ => ?_
        clear hK K; refine pt ?_; refine tk 5 ?_; refine tk 6 ?_; refine tk 7 ?_; refine tk 8 ?_; refine sk 9 ?_; refine sk 10 ?_; refine sk 11 ?_; refine sk 12 ?_; refine sk 13 ?_; refine sk 14 ?_; refine sk 15 ?_; refine sk 16 ?_; refine sk 17 ?_; refine tk 18 ?_; refine tk 19 ?_; refine dn ?_; clear h_; have HV' := hid (show victTo bs cs ⟨x, y, z⟩ (k + 1) = k from by rw [HV.out, if_pos HMY.out, if_pos (.inl hv)]); go_wp2; go_roundw
        case rel => exact ⟨k + 1, by omega, by go_num, by rw [HV'.out], o5, k5, h5, HB5.out⟩
        case measure => simp [intOf]; omega
      · obtain ⟨u, rfl⟩ : ∃ u : Nat, V = u := ⟨V.toNat, by omega⟩; have hul : u < cs.length := by rw [HLC.out]; omega
        have uI : (u : Int) < bs.length := by rw [← HLC.out]; omega
        rw [Int.toNat_natCast] at HV; obtain ⟨ck, hck⟩ : ∃ ck, cs.getD k 0 = ck := ⟨_, rfl⟩; obtain ⟨cu, hcu⟩ : ∃ cu, cs.getD u 0 = cu := ⟨_, rfl⟩; have HC1 := hid hck; have HC2 := hid hcu; rw [hck, hcu] at HV; clear hck hcu; by_cases hlc : ck < cu
        · have hb1 : decide (ck < cu) = true := decide_eq_true hlc; refine wp_region_held_drew (S := fun w' => w'.cell? ⟨w.heap.size + 1, 0, none⟩ = some (.int .i64 x) ∧ w'.cell? ⟨w.heap.size + 1, 1, none⟩ = some (.int .i64 y) ∧ w'.cell? ⟨w.heap.size + 1, 2, none⟩ = some (.int .i64 z) ∧ w'.cell? ⟨gc, k, none⟩ = some (.int .i64 ck) ∧ w'.cell? ⟨gc, u, none⟩ = some (.int .i64 cu)) (by kernel_rfl) ?_ (fun h_ => ?_)
          · exact ⟨h4.cell 0, h4.cell 1, h4.cell 2, HC1.out ▸ own_cellI o4 k hcl, HC2.out ▸ own_cellI o4 u hul⟩
          refine tk 0 ?_; refine tk 1 ?_; refine tk 2 ?_; refine tk 3 ?_; refine rd1 4 (fun K hK => ?_); go_simp; refine (l13May_spec ⟨x, y, z⟩ (r4.drew.mono (show w.heap.size ≤ w4.drew.heap.size from hs4)) (show RdI .i64 w4.drew w4.drew.heap.size _ _ _ from o4r.drewR) (Nat.le_refl _) HDV.out hlt hcl).mono ?_; rw [HMY.out]; rintro e w5 ⟨rfl, b5⟩; have HB5 := hid (HB.out.drew.trans (b5.mono hs4)); have h5 := (show Blk w4.drew (w.heap.size + 1) 28 _ from h4).below b5 h4.lt; have o5 := own_below (own_below o4 ((Below.refl _ _).drew)) b5; have k5 := (show Blk w4.drew w.heap.size 26 _ from k4).below b5 k4.lt; have r5 := (r4.drew).below (b5.mono hs4); go_wp2_with fail; refine hK.out _ _ (⟨h5.cell 0, h5.cell 1, h5.cell 2, HC1.out ▸ own_cellI o5 k hcl, HC2.out ▸ own_cellI o5 u hul⟩) fun h_ => ?_
          clear hK K; refine pt ?_; refine tk 5 ?_; refine tk 6 ?_; refine tk 7 ?_; refine tk 8 ?_; refine tk 9 ?_; refine tk 10 ?_; refine tk 11 ?_; refine tk 12 ?_; refine tk 13 ?_; refine tk 14 ?_; refine tk 15 ?_; refine tk 16 ?_; refine tk 17 ?_; refine tk 18 ?_; refine tk 19 ?_; refine dn ?_; clear h_; have HV' := hid (show victTo bs cs ⟨x, y, z⟩ (k + 1) = k from by rw [HV.out, if_pos HMY.out, if_pos (.inr hlc)]); go_wp2; go_roundw
          case rel => exact ⟨k + 1, by omega, by go_num, by rw [HV'.out], o5, k5, h5, HB5.out⟩
          case measure => simp [intOf]; omega
        · have hb1 : decide (ck < cu) = false := decide_eq_false hlc; refine wp_region_held_drew (S := fun w' => w'.cell? ⟨w.heap.size + 1, 0, none⟩ = some (.int .i64 x) ∧ w'.cell? ⟨w.heap.size + 1, 1, none⟩ = some (.int .i64 y) ∧ w'.cell? ⟨w.heap.size + 1, 2, none⟩ = some (.int .i64 z) ∧ w'.cell? ⟨gc, k, none⟩ = some (.int .i64 ck) ∧ w'.cell? ⟨gc, u, none⟩ = some (.int .i64 cu)) (by kernel_rfl) ?_ (fun h_ => ?_)
          · exact ⟨h4.cell 0, h4.cell 1, h4.cell 2, HC1.out ▸ own_cellI o4 k hcl, HC2.out ▸ own_cellI o4 u hul⟩
          refine tk 0 ?_; refine tk 1 ?_; refine tk 2 ?_; refine tk 3 ?_; refine rd1 4 (fun K hK => ?_); go_simp; refine (l13May_spec ⟨x, y, z⟩ (r4.drew.mono (show w.heap.size ≤ w4.drew.heap.size from hs4)) (show RdI .i64 w4.drew w4.drew.heap.size _ _ _ from o4r.drewR) (Nat.le_refl _) HDV.out hlt hcl).mono ?_; rw [HMY.out]; rintro e w5 ⟨rfl, b5⟩; have HB5 := hid (HB.out.drew.trans (b5.mono hs4)); have h5 := (show Blk w4.drew (w.heap.size + 1) 28 _ from h4).below b5 h4.lt; have o5 := own_below (own_below o4 ((Below.refl _ _).drew)) b5; have k5 := (show Blk w4.drew w.heap.size 26 _ from k4).below b5 k4.lt; have r5 := (r4.drew).below (b5.mono hs4); go_wp2_with fail; refine hK.out _ _ (⟨h5.cell 0, h5.cell 1, h5.cell 2, HC1.out ▸ own_cellI o5 k hcl, HC2.out ▸ own_cellI o5 u hul⟩) fun h_ => ?_
          clear hK K; refine pt ?_; refine tk 5 ?_; refine tk 6 ?_; refine tk 7 ?_; refine tk 8 ?_; refine tk 9 ?_; refine tk 10 ?_; refine tk 11 ?_; refine tk 12 ?_; refine tk 13 ?_; refine tk 14 ?_; refine tk 15 ?_; refine tk 16 ?_; refine tk 17 ?_; refine tk 18 ?_; refine tk 19 ?_; refine dn ?_; clear h_; have HV' := hid (show victTo bs cs ⟨x, y, z⟩ (k + 1) = u from by rw [HV.out, if_pos HMY.out, if_neg (fun h => by rcases h with h | h <;> omega)]); go_wp2; go_roundw
          case rel => exact ⟨k + 1, by omega, by go_num, by rw [HV'.out], o5, k5, h5, HB5.out⟩
          case measure => simp [intOf]; omega
  · obtain rfl : k = bs.length := by omega
    go_wp2; go_ret
    exact ⟨by rw [HGV.out]; rfl, B3.out⟩
end Go.Proofs.YtefdjahaimnndaaGreatDoor
