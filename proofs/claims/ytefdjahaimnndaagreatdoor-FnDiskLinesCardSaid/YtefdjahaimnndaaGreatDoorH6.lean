/- Parts of the proof, one after the other. -/
import Derived.Test.YtefdjahaimnndaaGreatDoorH2
import Derived.Test.YtefdjahaimnndaaGreatDoorH4
import Derived.Test.YtefdjahaimnndaaGreatDoorH5
import Derived.Laws.AppendOwnNone
namespace Go.Proofs.YtefdjahaimnndaaGreatDoor
open Go.ChangeShapes Go.WideShapes Go.ChangeAt Go.RowKit Go.Deep
open Go.Lib (hid)
set_option linter.unusedVariables false
set_option linter.unusedSimpArgs false
abbrev zeroHs : DH := ⟨none, 0, 0, none, 0, 0, none, 0, 0⟩
theorem rd_zeros (w : World) (B : Nat) : RdD w B zeroHs zeroDisk := ⟨⟨rfl, fun h => absurd h (Nat.lt_irrefl _)⟩, ⟨rfl, fun h => absurd h (Nat.lt_irrefl _)⟩, ⟨rfl, fun h => absurd h (Nat.lt_irrefl _)⟩⟩
theorem RdS.take {w : World} {B n : Nat} {A : Option Addr} {ss : List ByteArray} (h : RdS w B A n ss) {i : Nat} (hi : i ≤ n) : RdS w B A i (ss.take i) :=
 ⟨by rw [List.length_take, h.len]; omega, fun hn => by
  obtain ⟨b, off, e, hb, hc⟩ := h.at_ (by omega); exact ⟨b, off, e, hb, fun j hj => by
   rw [hc j (by omega), List.getD_eq_getElem?_getD, List.getD_eq_getElem?_getD, List.getElem?_take_of_lt hj]⟩⟩
theorem RdS.drop {w : World} {B n g : Nat} {ss : List ByteArray} (h : RdS w B (some ⟨g, 0, none⟩) n ss) {i : Nat} (hi : i ≤ n) {A : Option Addr} (hA : A = some ⟨g, i, none⟩ ∨ i = n) : RdS w B A (n - i) (ss.drop i) :=
 ⟨by rw [List.length_drop, h.len], fun hn => by
  obtain ⟨b, off, e, hb, hc⟩ := h.at_ (by omega); injection e with e; injection e with e1 e2 _; subst e1 e2; refine ⟨g, i, by rcases hA with hA | hA; exact hA; omega, hb, fun j hj => ?_⟩; have := hc (i + j) (by omega); rw [Nat.zero_add] at this; rw [this, List.getD_eq_getElem?_getD, List.getD_eq_getElem?_getD, List.getElem?_drop]⟩
theorem wpList_appSs {ops : Array Oper} {rest : List Oper} {o : Oper} {a : Act} {Q : Exit → Act → World → Prop} {w : World} {s x : Operand} {base B m c q : Nat} {A : Option Addr} {A0 : Option Addr} {c0 n : Nat} {xs ys : List ByteArray} (hq : n + m = q) (hgd : o.guard = none)
 (ho : o.op = .call { callee := .builtin .append, args := #[s, x], argTypes := #[32, 32] })
 (hs : a.eval s = .slice A0 n c0) (hown : OwS w base A0 n c0 xs) (hx : a.eval x = .slice A m c) (hnil : A = none → c = 0)
 (hr : RdS w B A m ys) (hn : n + m ≤ 1000000000000) (hbase : base ≤ w.heap.size)
 (h : ∀ A' c' w', OwS w' base A' q c' (xs ++ ys) → w.grownBy w' (Value.slice A0 n c0).ownBlock → wpList Tryz.prog ops Q rest (a.put o.dst (.slice A' q c')) w') :
 wpList Tryz.prog ops Q (o :: rest) a w := by
 subst hq; obtain ⟨i0, hi, hz0, hz1, hz2⟩ := info_parts infoStr; rcases A with _ | ad
 · have hm : m = 0 := by
    rcases Nat.eq_zero_or_pos m with h0 | h0
    · exact h0
    · obtain ⟨b, off, e, _⟩ := hr.at_ h0; cases e
   subst hm; have hy : ys = [] := List.eq_nil_of_length_eq_zero hr.len; subst hy; rw [hnil rfl] at hx; refine wpList_append_own_none hgd s x 32 ho base 9 i0 1 Tryz.underlying32 hi (.slice A0 n c0) n _ hs hown hx ?_; exact h A0 c0 w (by rw [List.append_nil]; exact hown) (World.grownBy.refl _ _)
 · refine wpList_append_own _ hgd s x 32 ho base 9 i0 _ 1 16 Tryz.underlying32 hi hz0 hz1 hz2 rfl (by decide) (.slice A0 n c0) n _ hs hown ad m c (ys.map Value.string) hx (by rw [List.length_map, hr.len, Nat.mul_one]) ?_ (by intro u hu; obtain ⟨y, _, rfl⟩ := List.mem_map.1 hu; rfl) (by unfold maxLen; omega) (by omega) hbase ?_
   · intro j u hj
     have hjl : j < ys.length := by
      rcases Nat.lt_or_ge j ys.length with h0 | h0
      · exact h0
      · rw [List.getElem?_eq_none (by simpa using h0)] at hj; cases hj
     obtain ⟨b, off, e, _, hc⟩ := hr.at_ (by have := hr.len; omega); obtain rfl := Option.some.inj e; rw [add_none, hc j (by have := hr.len; omega), ← hj, List.getElem?_map, List.getElem?_eq_getElem hjl, List.getD_eq_getElem?_getD, List.getElem?_eq_getElem hjl]; rfl
   · intro v' w' hown' hg _
     have hform : ∃ A' c', v' = .slice A' (n + m) c' := by
      rcases hown'.2 with ⟨h1, h2⟩ | ⟨g, cap, cur, h1, _⟩
      · exact ⟨none, 0, by rw [h1, h2]⟩
      · exact ⟨_, _, h1⟩
     obtain ⟨A', c', rfl⟩ := hform; exact h A' c' w' (by unfold OwS; rw [List.map_append]; exact hown') hg
theorem OwS.capN {w : World} {base n c : Nat} {A : Option Addr} {ss : List ByteArray} (h : OwS w base A n c ss) : A = none → c = 0 := by
 intro e
 subst e; rcases h.2 with ⟨h1, h2⟩ | ⟨g, cap, cur, h1, h2, _⟩
 · injection h1
 · injection h1 with h1; exact absurd h1 (by simp)
theorem smallS_of {ss : List ByteArray} {n : Nat} (h : ∀ s ∈ ss, s.size ≤ 100) (hn : ss.length = n) : SmallS ss n 1048576 := fun i hi => by
 have hm : ss.getD i noTxt ∈ ss := by
  rw [List.getD_eq_getElem?_getD, List.getElem?_eq_getElem (by omega)]; exact List.getElem_mem _
 have := h _ hm; omega
set_option maxRecDepth 8000 in
set_option maxHeartbeats 8000000 in
theorem fnDiskLines_w (a0 : Option Addr) (len0 cap0 : Nat) (z0 : List Int) (w : World) (w0 : IsRow .u8 w a0 len0 cap0 z0) (hgl : Gl w) (hw4 : 4 ≤ w.heap.size) :
 Calls Tryz.prog 3 #[.slice a0 len0 cap0] w fun e w' => e = .returned (.bool true) ∧ Below w.heap.size w w' := by
 obtain ⟨q1, q2, q3, q4⟩ := bytes_ok w0; have GL := hid hgl; clear hgl; by_cases hl : 1048576 < len0
 · go_enter Tryz.func3, Tryz.ntmps3
   go_wp2; go_ret
   exact ⟨rfl, Below.refl _ _⟩
 go_enter Tryz.func3, Tryz.ntmps3
 go_wp2_with fail; refine (drawDiskLines_c q3 q4 q1 q2).mono ?_
 rintro e w1 ⟨h, d, gs, n, c, ss, rfl, hn21, hs100, o1, os1, SM, b1⟩; have B1 := hid b1; have HSM := hid SM; have HS := hid (smallS_of hs100 os1.len); have HLEN := hid os1.len; have HM := hid hs100; have hnc : n ≤ c := os1.cap.1; have hcm := os1.cap.2; obtain ⟨R, hR⟩ : ∃ R, linesF d ss = R := ⟨_, rfl⟩; have HRR := hid hR; have SMX := hid (show SmallDV R.d by rw [← hR]; exact linesF_small d ss); have HMANY := hid (show R.al.length ≤ 20 by rw [← hR]; exact linesF_many d ss); clear hR q3 q4 w0 b1 SM hs100; obtain ⟨X, al⟩ := R; simp only at SMX HMANY; obtain ⟨na, hna⟩ : ∃ na, al.length = na := ⟨_, rfl⟩; have HNA := hid hna; have hna20 : na ≤ 20 := by rw [← hna]; exact HMANY.out
 clear hna HMANY; go_upto_region 4 with (fail)
 have bx : Below w1.heap.size w1 (w1.alloc (.cells (dc h.bA h.bn h.bc h.tA h.tn h.tc d.hot d.warm d.cold d.stamp h.nA h.nn h.nc) 31)) := (Below.refl _ _).alloc (Nat.le_refl _) _; have KD2 : BoxD (w1.alloc (.cells (dc h.bA h.bn h.bc h.tA h.tn h.tc d.hot d.warm d.cold d.stamp h.nA h.nn h.nc) 31)) w1.heap.size h d := Blk.new _ _ _; have B2 := hid (B1.out.trans (bx.mono B1.out.size)); have s2 := bx.size; have hg2 : w.heap.size ≤ w1.heap.size := B1.out.size; have RD2 := hid (o1.rd.below bx); have RS2 := hid (os1.rd.below bx); have HCAP := hid o1.capN; clear bx o1 os1 B1; generalize w1.alloc (.cells (dc h.bA h.bn h.bc h.tA h.tn h.tc d.hot d.warm d.cold d.stamp h.nA h.nn h.nc) 31) = w2 at *; generalize hggd : w1.heap.size = gd at *; obtain ⟨t0, t1, t2, t3, t4, t5, t6⟩ := Blk.all7 KD2; go_wp2_with fail; refine (diskLines_impl RD2.out s2 HCAP.out HSM.out RS2.out s2 (by omega) HS.out (GL.out.below B2.out) (by omega)).mono ?_; rw [HRR.out]; unfold OwnLs; simp only
 rw [HNA.out]; rintro e w3 ⟨h3, A3, c3, rfl, o3, os3, b3⟩; have KD3 := Blk.below KD2 b3 (Blk.lt KD2); have RD3 := hid (RD2.out.below (b3.mono s2)); have RS3 := hid (RS2.out.below (b3.mono s2)); have B3 := hid (B2.out.trans (b3.mono B2.out.size)); have s3 := Nat.le_trans s2 b3.size; clear KD2 RD2 RS2 B2 b3 t0 t1 t2 t3 t4 t5 t6; go_upto_region 5 with (fail)
 have bx : Below w3.heap.size w3 (w3.alloc (.cells (dc h3.bA h3.bn h3.bc h3.tA h3.tn h3.tc X.hot X.warm X.cold X.stamp h3.nA h3.nn h3.nc) 31)) := (Below.refl _ _).alloc (Nat.le_refl _) _; have KX4 : BoxD (w3.alloc (.cells (dc h3.bA h3.bn h3.bc h3.tA h3.tn h3.tc X.hot X.warm X.cold X.stamp h3.nA h3.nn h3.nc) 31)) w3.heap.size h3 X := Blk.new _ _ _; have B4 := hid (B3.out.trans (bx.mono B3.out.size)); have s4 := bx.size; have RX4 := hid (o3.rd.below bx); have RA4 := hid (os3.rd.below bx); have KD4 := Blk.below KD3 bx (Blk.lt KD3); have RD4 := hid (RD3.out.below (bx.mono s3)); have RS4 := hid (RS3.out.below (bx.mono s3)); have l4 := Blk.lt KX4; clear bx o3 os3 KD3 RD3 RS3 B3; generalize w3.alloc (.cells (dc h3.bA h3.bn h3.bc h3.tA h3.tn h3.tc X.hot X.warm X.cold X.stamp h3.nA h3.nn h3.nc) 31) = w4 at *; generalize hggx : w3.heap.size = gx at *; obtain ⟨t0, t1, t2, t3, t4, t5, t6⟩ := Blk.all7 KD4; go_wp2_with fail; refine (diskLines_spec RD4.out (by omega) HCAP.out HSM.out RS4.out (by omega) (by omega) HS.out).mono ?_; rw [HRR.out]; unfold OwnLs; simp only
 rw [HNA.out]; rintro e w5 ⟨h5, A5, c5, rfl, o5, os5, b5⟩; have KD5 := Blk.below KD4 b5 (Blk.lt KD4); have KX5 := Blk.below KX4 b5 (Blk.lt KX4); have RD5 := hid (RD4.out.below (b5.mono (by omega))); have RS5 := hid (RS4.out.below (b5.mono (by omega))); have RX5 := hid (RX4.out.below (b5.mono (by omega))); have RA5 := hid (RA4.out.below (b5.mono (by omega))); have B5 := hid (B4.out.trans (b5.mono B4.out.size)); have s5 := b5.size; clear KD4 KX4 RD4 RX4 RA4 RS4 B4 b5 t0 t1 t2 t3 t4 t5 t6; go_upto_region 6 with (fail)
 have bx : Below w5.heap.size w5 (w5.alloc (.cells (dc h5.bA h5.bn h5.bc h5.tA h5.tn h5.tc X.hot X.warm X.cold X.stamp h5.nA h5.nn h5.nc) 31)) := (Below.refl _ _).alloc (Nat.le_refl _) _; have KY6 : BoxD (w5.alloc (.cells (dc h5.bA h5.bn h5.bc h5.tA h5.tn h5.tc X.hot X.warm X.cold X.stamp h5.nA h5.nn h5.nc) 31)) w5.heap.size h5 X := Blk.new _ _ _; have B6 := hid (B5.out.trans (bx.mono B5.out.size)); have s6 := bx.size; have RY6 := hid (o5.rd.below bx); have RC6 := hid (os5.rd.below bx); have KD6 := Blk.below KD5 bx (Blk.lt KD5); have KX6 := Blk.below KX5 bx (Blk.lt KX5); have RD6 := hid (RD5.out.below (bx.mono (by omega))); have RS6 := hid (RS5.out.below (bx.mono (by omega))); have RX6 := hid (RX5.out.below (bx.mono (by omega))); have RA6 := hid (RA5.out.below (bx.mono (by omega))); clear bx o5 os5 KD5 KX5 RD5 RS5 RX5 RA5 B5; generalize w5.alloc (.cells (dc h5.bA h5.bn h5.bc h5.tA h5.tn h5.tc X.hot X.warm X.cold X.stamp h5.nA h5.nn h5.nc) 31) = w6 at *; generalize hggy : w5.heap.size = gy at *; obtain ⟨t0, t1, t2, t3, t4, t5, t6⟩ := Blk.all7 KX6; obtain ⟨u0, u1, u2, u3, u4, u5, u6⟩ := Blk.all7 KY6; go_wp2_with fail; refine (sameDisk_same RX6.out RY6.out (by omega) (by omega) SMX.out).mono ?_; rintro e w7 ⟨rfl, b7⟩; have KD7 := Blk.below KD6 b7 (Blk.lt KD6); have KX7 := Blk.below KX6 b7 (Blk.lt KX6)
 have RD7 := hid (RD6.out.below (b7.mono (by omega))); have RS7 := hid (RS6.out.below (b7.mono (by omega))); have RX7 := hid (RX6.out.below (b7.mono (by omega))); have RA7 := hid (RA6.out.below (b7.mono (by omega))); have RC7 := hid (RC6.out.below (b7.mono (by omega))); have B7 := hid (B6.out.trans (b7.mono B6.out.size)); have s7 := b7.size; clear KD6 KX6 KY6 RD6 RX6 RY6 RS6 RA6 RC6 B6 b7 t0 t1 t2 t3 t4 t5 t6 u0 u1 u2 u3 u4 u5 u6; go_upto_region 9 with (fail)
 go_loopw [9] (fun i wr => ∃ k : Nat, k ≤ na ∧ i = .int .i64 k ∧ Below w7.heap.size w7 wr) (fun i _ => na - (intOf i).toNat)
 case atStart => exact ⟨0, Nat.zero_le _, rfl, Below.refl _ _⟩
 case round =>
  obtain ⟨k, hk, rfl, hb⟩ := hrel; have HB := hid hb; have hsz := hb.size; by_cases hlt : k < na
  · obtain ⟨b, off, rfl, hbB, hc⟩ := RA7.out.at_ (by omega); obtain ⟨b', off', rfl, hbB', hc'⟩ := RC7.out.at_ (by omega); have c0 := (hb.cell (p := ⟨b, off + k, none⟩) (show b < w7.heap.size by omega)).trans (hc k hlt); have d0 := (hb.cell (p := ⟨b', off' + k, none⟩) (show b' < w7.heap.size by omega)).trans (hc' k hlt); generalize al.getD k noTxt = s at *; clear hc hc' hb; go_wp2; go_quiet (fail)
    go_wp2; go_roundw
    case rel => exact ⟨k + 1, by omega, by go_num, by first | exact HB.out.trans ((below_drewN (Below.refl _ _) _).mono hsz) | exact below_drewN HB.out _⟩
    case measure => simp [intOf]; omega
  · obtain rfl : k = na := by omega
    have KD8 := Blk.below KD7 hb (Blk.lt KD7); have KX8 := Blk.below KX7 hb (Blk.lt KX7); have RD8 := hid (RD7.out.below (hb.mono (by omega))); have RS8 := hid (RS7.out.below (hb.mono (by omega))); have RX8 := hid (RX7.out.below (hb.mono (by omega))); have RA8 := hid (RA7.out.below (hb.mono (by omega))); have B8 := hid (B7.out.trans (hb.mono B7.out.size)); clear KD7 KX7 RD7 RX7 RS7 RA7 RC7 B7 hb HB; go_upto_region 13 with (fail)
    obtain ⟨t0, t1, t2, t3, t4, t5, t6⟩ := Blk.all7 KD8; have SH := HSM.out.at_ RD8.out; go_wp2_with fail; refine (diskValid_impl RD8.out (by omega) SH.b SH.t SH.n (fun i hi => by have := SH.ns i hi; simp only [nTxt]; omega)).mono ?_; rintro e w9 ⟨rfl, b9⟩; have KD9 := Blk.below KD8 b9 (Blk.lt KD8); have KX9 := Blk.below KX8 b9 (Blk.lt KX8); have RD9 := hid (RD8.out.below (b9.mono (by omega))); have RS9 := hid (RS8.out.below (b9.mono (by omega))); have RX9 := hid (RX8.out.below (b9.mono (by omega))); have RA9 := hid (RA8.out.below (b9.mono (by omega))); have B9 := hid (B8.out.trans (b9.mono B8.out.size)); have s9 := b9.size; clear KD8 KX8 RD8 RX8 RS8 RA8 B8 b9 SH t0 t1 t2 t3 t4 t5 t6; by_cases hg : GoodL d ss
    · rw [bof_t.2 hg.1]; have hn20 : n ≤ 20 := by have := hg.2; rw [HLEN.out] at this; exact this
      have HG := hid hg; have he := HRR.out; rw [linesF_yes hg, HLEN.out] at he; injection he with e1 e2; have HX := hid e1; have HAS := hid e2; have hsp := lines_split (n / 2) (by rw [HLEN.out]; omega) hg; rw [HLEN.out] at hsp; have HF1 := hid hsp.1; have HF2 := hid hsp.2.1; have HF3 := hid hsp.2.2; have HOKH := hid (lineD_ok ss hg.1 (n / 2)); clear hg e1 e2 hsp; generalize hhh : n / 2 = hh at *; have hhn : hh ≤ n := by omega
      have hhc : hh ≤ c := by omega
      have hdv : (n : Int) / 2 = (hh : Int) := by omega
      obtain ⟨P1, hP1⟩ : ∃ P1, lineD d ss hh = P1 := ⟨_, rfl⟩; obtain ⟨as1, has1⟩ : ∃ as1, lineA d ss hh = as1 := ⟨_, rfl⟩; have HL1 := hid (show as1.length = hh by rw [← has1]; exact lineA_len d ss hh); have HL2 := hid (show ((List.range (n - hh)).map fun k => ansAt d ss (hh + k)).length = n - hh by simp); rw [hP1] at HF1 HF2 HOKH; rw [has1] at HF1 HF3; rw [HX.out] at HF2; rw [HAS.out] at HF3; generalize ((List.range (n - hh)).map fun k => ansAt d ss (hh + k)) = as2 at *; clear hP1 has1 hhh HX HAS; go_upto_region 16 with (fail)
      go_cut [11, 12] from 85 to 92 (fun p v wx => ∃ (gp : Nat) (hp : DH) (Ap : Option Addr) (cp : Nat), p = .pointer (some ⟨gp, 0, none⟩) ∧ v = .slice Ap hh cp ∧ BoxD wx gp hp P1 ∧ RdD wx wx.heap.size hp P1 ∧ CapN hp ∧ RdS wx wx.heap.size Ap hh as1 ∧ (Ap = none → cp = 0) ∧ Below w9.heap.size w9 wx)
      case first =>
       obtain ⟨t0, t1, t2, t3, t4, t5, t6⟩ := Blk.all7 KD9; refine wp_region_held_drew (S := fun w' => w'.cell? ⟨gd, 0, none⟩ = some (.slice h.bA h.bn h.bc) ∧ w'.cell? ⟨gd, 1, none⟩ = some (.slice h.tA h.tn h.tc) ∧ w'.cell? ⟨gd, 2, none⟩ = some (.int .i64 d.hot) ∧ w'.cell? ⟨gd, 3, none⟩ = some (.int .i64 d.warm) ∧ w'.cell? ⟨gd, 4, none⟩ = some (.int .i64 d.cold) ∧ w'.cell? ⟨gd, 5, none⟩ = some (.int .i64 d.stamp) ∧ w'.cell? ⟨gd, 6, none⟩ = some (.slice h.nA h.nn h.nc)) (by kernel_rfl) ?_ (fun h_ => ?_)
       · exact ⟨t0, t1, t2, t3, t4, t5, t6⟩
       refine tk 0 ?_; refine tk 1 ?_; refine tk 2 ?_; refine tk 3 ?_; have K1 : BoxD w9.drew gd h d := KD9; have R1 := RD9.out.drew; have S1 := (RS9.out.take hhn).drew; have C1 : Below w9.heap.size w9 w9.drew := (Below.refl _ _).drew; have hq1 : w9.heap.size ≤ w9.drew.heap.size := C1.size; clear t0 t1 t2 t3 t4 t5 t6; generalize w9.drew = v1 at *; refine rd2 4 8 (fun K hK => ?_) (fun K hK => ?_)
       · go_simp; refine (diskLines_impl R1 (by omega) HCAP.out HSM.out S1 (by omega) (by omega) (smallS_of (fun s hs => HM.out s (List.mem_of_mem_take hs)) (by rw [List.length_take, HLEN.out]; omega)) (GL.out.below (B9.out.trans (C1.mono B9.out.size))) (by omega)).mono ?_
         rw [HF1.out]; unfold OwnLs; simp only
         rw [HL1.out]; rintro e v2 ⟨hp, Ap, cp, rfl, op, osp, bx⟩; go_wp2_with fail; have K2 := Blk.below K1 bx (Blk.lt K1); have C2 := C1.trans (bx.mono C1.size); refine hK.out _ _ (Blk.all7 K2) fun h_ => ?_
         clear hK K; refine pt ?_; refine tk 5 ?_; refine tk 6 ?_; refine tk 7 ?_; clear K1 R1 S1 C1 bx; have bz : Below v2.heap.size v2 (v2.alloc (.cells Zd 31)) := (Below.refl _ _).alloc (Nat.le_refl _) _; have bw : Below v2.heap.size v2 (v2.alloc (.cells (dc hp.bA hp.bn hp.bc hp.tA hp.tn hp.tc P1.hot P1.warm P1.cold P1.stamp hp.nA hp.nn hp.nc) 31)) := (Below.refl _ _).alloc (Nat.le_refl _) _; refine rd1 8 (fun K hK => ?_); go_simp; refine hK.out _ _ (Blk.all7 (Blk.below K2 bz (Blk.lt K2))) fun h_ => ?_
         clear hK K; refine pt ?_; refine rd1 9 (fun K hK => ?_); go_simp; refine hK.out _ _ (Blk.all7 (Blk.below K2 bw (Blk.lt K2))) fun h_ => ?_
         clear hK K; refine pt ?_; refine tk 10 ?_; refine dn ?_; have ke := Blk.new v2 31 (dc hp.bA hp.bn hp.bc hp.tA hp.tn hp.tc P1.hot P1.warm P1.cold P1.stamp hp.nA hp.nn hp.nc); clear h_; go_wp2_with fail; go_meet; exact ⟨_, hp, Ap, cp, rfl, rfl, ke, (op.below bw).rd, op.capN, (osp.below bw).rd, osp.capN, C2.trans (bw.mono C2.size)⟩
       · go_simp; have bx : Below v1.heap.size v1 (v1.alloc (.cells Zd 31)) := (Below.refl _ _).alloc (Nat.le_refl _) _
         have NB2 := Blk.new v1 31 Zd; have K2 := Blk.below K1 bx (Blk.lt K1); have R2 := R1.below (bx.mono (by omega)); have S2 := S1.below (bx.mono (by omega)); have C2 := C1.trans (bx.mono C1.size); have hgx : w9.heap.size ≤ v1.heap.size := C1.size; have hgn : gd ≠ v1.heap.size := Nat.ne_of_lt (Blk.lt K1); have hq2 := bx.size; refine hK.out _ _ (Blk.all7 K2) fun h_ => ?_
         clear hK K; refine pt ?_; clear K1 R1 S1 C1 bx; generalize v1.alloc (.cells Zd 31) = v2 at *; generalize v1.heap.size = gz at *; refine rd1 4 (fun K hK => ?_); go_simp; refine (diskLines_impl R2 (by omega) HCAP.out HSM.out S2 (by omega) (by omega) (smallS_of (fun s hs => HM.out s (List.mem_of_mem_take hs)) (by rw [List.length_take, HLEN.out]; omega)) (GL.out.below (B9.out.trans (C2.mono B9.out.size))) (by omega)).mono ?_; rw [HF1.out]; unfold OwnLs; simp only
         rw [HL1.out]; rintro e v3 ⟨hp, Ap, cp, rfl, op, osp, bx⟩; go_wp2_with fail; have K3 := Blk.below K2 bx (Blk.lt K2); have C3 := C2.trans (bx.mono C2.size); have NB3 := NB2.below bx NB2.lt; refine hK.out _ _ (Blk.all7 K3) fun h_ => ?_
         clear hK K; refine pt ?_; refine tk 5 ?_; refine tk 6 ?_; refine tk 7 ?_; clear K2 R2 S2 C2 bx NB2; obtain ⟨y0, y1, y2, y3, y4, y5, y6⟩ := NB3.all7; obtain ⟨z0, z1, z2, z3, z4, z5, z6⟩ := NB3.free7; have ke := hid (blk_putDisk NB3 hp P1).1; have kk := hid (putDisk_far (g := gz) K3 hgn hp P1); have ko := hid (op.put NB3 hp P1).rd; have ks := hid (osp.typed (blk_putDisk NB3 hp P1).2 (by decide)).rd; have kc := hid (below_putDisk C3 hgx hp P1); dsimp only [putDisk, BoxD] at ke kk ko ks kc; refine rd1 9 (fun K hK => ?_); go_simp; refine hK.out _ _ (kk.out.all7) fun h_ => ?_
         clear hK K; refine pt ?_; refine tk 10 ?_; refine dn ?_; clear h_ y0 y1 y2 y3 y4 y5 y6 z0 z1 z2 z3 z4 z5 z6; go_wp2_with fail; go_meet; exact ⟨_, hp, Ap, cp, rfl, rfl, ke.out, ko.out, op.capN, ks.out, osp.capN, kc.out⟩
      case rest =>
       obtain ⟨gp, hp, Ap, cp, rfl, rfl, KP, RP, CP, RT, NT, b10⟩ := hcut; have KX10 := Blk.below KX9 b10 (Blk.lt KX9); have RX10 := hid (RX9.out.below (b10.mono (by omega))); have RS10 := hid (RS9.out.below (b10.mono (by omega))); have RA10 := hid (RA9.out.below (b10.mono (by omega))); have HRP := hid RP; have HCP := hid CP; have HRT := hid RT; have HNT := hid NT; have B10 := hid (B9.out.trans (b10.mono B9.out.size)); have s10 := b10.size; have SMP := hid (small_ok HOKH.out); clear KD9 KX9 RD9 RS9 RX9 RA9 B9 b10 RP CP RT NT; obtain ⟨ad, had⟩ : ∃ ad : Option Addr, (if c = hh then some ⟨gs, 0, none⟩ else some ⟨gs, hh, none⟩) = ad := ⟨_, rfl⟩; have HAD := hid (show ad = some ⟨gs, hh, none⟩ ∨ hh = n by
        by_cases e : c = hh
        · exact .inr (by omega)
        · rw [if_neg e] at had; exact .inl had.symm)
       go_upto_region 17 with (fail)
       go_cut [13, 14] from 93 to 100 (fun p v wx => ∃ (gp : Nat) (hp : DH) (Ap : Option Addr) (cp : Nat), p = .pointer (some ⟨gp, 0, none⟩) ∧ v = .slice Ap (n - hh) cp ∧ BoxD wx gp hp X ∧ RdD wx wx.heap.size hp X ∧ CapN hp ∧ RdS wx wx.heap.size Ap (n - hh) as2 ∧ (Ap = none → cp = 0) ∧ Below wc.heap.size wc wx)
       case first =>
        obtain ⟨t0, t1, t2, t3, t4, t5, t6⟩ := Blk.all7 KP; refine wp_region_held_drew (S := fun w' => w'.cell? ⟨gp, 0, none⟩ = some (.slice hp.bA hp.bn hp.bc) ∧ w'.cell? ⟨gp, 1, none⟩ = some (.slice hp.tA hp.tn hp.tc) ∧ w'.cell? ⟨gp, 2, none⟩ = some (.int .i64 P1.hot) ∧ w'.cell? ⟨gp, 3, none⟩ = some (.int .i64 P1.warm) ∧ w'.cell? ⟨gp, 4, none⟩ = some (.int .i64 P1.cold) ∧ w'.cell? ⟨gp, 5, none⟩ = some (.int .i64 P1.stamp) ∧ w'.cell? ⟨gp, 6, none⟩ = some (.slice hp.nA hp.nn hp.nc)) (by kernel_rfl) ?_ (fun h_ => ?_)
        · exact ⟨t0, t1, t2, t3, t4, t5, t6⟩
        refine tk 0 ?_; refine tk 1 ?_; refine tk 2 ?_; refine tk 3 ?_; have K1 : BoxD wc.drew gp hp P1 := KP; have R1 := HRP.out.drew; have S1 := (RS10.out.drop hhn HAD.out).drew; have C1 : Below wc.heap.size wc wc.drew := (Below.refl _ _).drew; have hq1 : wc.heap.size ≤ wc.drew.heap.size := C1.size; clear t0 t1 t2 t3 t4 t5 t6; generalize wc.drew = v1 at *; refine rd2 4 8 (fun K hK => ?_) (fun K hK => ?_)
        · go_simp; refine (diskLines_impl R1 (by omega) HCP.out SMP.out S1 (by omega) (by omega) (smallS_of (fun s hs => HM.out s (List.mem_of_mem_drop hs)) (by rw [List.length_drop, HLEN.out])) (GL.out.below (B10.out.trans (C1.mono B10.out.size))) (by omega)).mono ?_
          rw [HF2.out]; unfold OwnLs; simp only
          rw [HL2.out]; rintro e v2 ⟨hp, Ap, cp, rfl, op, osp, bx⟩; go_wp2_with fail; have K2 := Blk.below K1 bx (Blk.lt K1); have C2 := C1.trans (bx.mono C1.size); refine hK.out _ _ (Blk.all7 K2) fun h_ => ?_
          clear hK K; refine pt ?_; refine tk 5 ?_; refine tk 6 ?_; refine tk 7 ?_; clear K1 R1 S1 C1 bx; have bz : Below v2.heap.size v2 (v2.alloc (.cells Zd 31)) := (Below.refl _ _).alloc (Nat.le_refl _) _; have bw : Below v2.heap.size v2 (v2.alloc (.cells (dc hp.bA hp.bn hp.bc hp.tA hp.tn hp.tc X.hot X.warm X.cold X.stamp hp.nA hp.nn hp.nc) 31)) := (Below.refl _ _).alloc (Nat.le_refl _) _; refine rd1 8 (fun K hK => ?_); go_simp; refine hK.out _ _ (Blk.all7 (Blk.below K2 bz (Blk.lt K2))) fun h_ => ?_
          clear hK K; refine pt ?_; refine rd1 9 (fun K hK => ?_); go_simp; refine hK.out _ _ (Blk.all7 (Blk.below K2 bw (Blk.lt K2))) fun h_ => ?_
          clear hK K; refine pt ?_; refine tk 10 ?_; refine dn ?_; have ke := Blk.new v2 31 (dc hp.bA hp.bn hp.bc hp.tA hp.tn hp.tc X.hot X.warm X.cold X.stamp hp.nA hp.nn hp.nc); clear h_; go_wp2_with fail; go_meet; exact ⟨_, hp, Ap, cp, rfl, rfl, ke, (op.below bw).rd, op.capN, (osp.below bw).rd, osp.capN, C2.trans (bw.mono C2.size)⟩
        · go_simp; have bx : Below v1.heap.size v1 (v1.alloc (.cells Zd 31)) := (Below.refl _ _).alloc (Nat.le_refl _) _
          have NB2 := Blk.new v1 31 Zd; have K2 := Blk.below K1 bx (Blk.lt K1); have R2 := R1.below (bx.mono (by omega)); have S2 := S1.below (bx.mono (by omega)); have C2 := C1.trans (bx.mono C1.size); have hgx : wc.heap.size ≤ v1.heap.size := C1.size; have hgn : gp ≠ v1.heap.size := Nat.ne_of_lt (Blk.lt K1); have hq2 := bx.size; refine hK.out _ _ (Blk.all7 K2) fun h_ => ?_
          clear hK K; refine pt ?_; clear K1 R1 S1 C1 bx; generalize v1.alloc (.cells Zd 31) = v2 at *; generalize v1.heap.size = gz at *; refine rd1 4 (fun K hK => ?_); go_simp; refine (diskLines_impl R2 (by omega) HCP.out SMP.out S2 (by omega) (by omega) (smallS_of (fun s hs => HM.out s (List.mem_of_mem_drop hs)) (by rw [List.length_drop, HLEN.out])) (GL.out.below (B10.out.trans (C2.mono B10.out.size))) (by omega)).mono ?_; rw [HF2.out]; unfold OwnLs; simp only
          rw [HL2.out]; rintro e v3 ⟨hp, Ap, cp, rfl, op, osp, bx⟩; go_wp2_with fail; have K3 := Blk.below K2 bx (Blk.lt K2); have C3 := C2.trans (bx.mono C2.size); have NB3 := NB2.below bx NB2.lt; refine hK.out _ _ (Blk.all7 K3) fun h_ => ?_
          clear hK K; refine pt ?_; refine tk 5 ?_; refine tk 6 ?_; refine tk 7 ?_; clear K2 R2 S2 C2 bx NB2; obtain ⟨y0, y1, y2, y3, y4, y5, y6⟩ := NB3.all7; obtain ⟨z0, z1, z2, z3, z4, z5, z6⟩ := NB3.free7; have ke := hid (blk_putDisk NB3 hp X).1; have kk := hid (putDisk_far (g := gz) K3 hgn hp X); have ko := hid (op.put NB3 hp X).rd; have ks := hid (osp.typed (blk_putDisk NB3 hp X).2 (by decide)).rd; have kc := hid (below_putDisk C3 hgx hp X); dsimp only [putDisk, BoxD] at ke kk ko ks kc; refine rd1 9 (fun K hK => ?_); go_simp; refine hK.out _ _ (kk.out.all7) fun h_ => ?_
          clear hK K; refine pt ?_; refine tk 10 ?_; refine dn ?_; clear h_ y0 y1 y2 y3 y4 y5 y6 z0 z1 z2 z3 z4 z5 z6; go_wp2_with fail; go_meet; exact ⟨_, hp, Ap, cp, rfl, rfl, ke.out, ko.out, op.capN, ks.out, osp.capN, kc.out⟩
       case rest =>
        obtain ⟨gq, hq, Aq, cq, rfl, rfl, KQ, RQ, CQ, RU, NU, b11⟩ := hcut; have KX11 := Blk.below KX10 b11 (Blk.lt KX10); have RX11 := hid (RX10.out.below (b11.mono (by omega))); have RA11 := hid (RA10.out.below (b11.mono (by omega))); have RT11 := hid (HRT.out.below b11); have HRQ := hid RQ; have HRU := hid RU; have HNU := hid NU; have B11 := hid (B10.out.trans (b11.mono B10.out.size)); have s11 := b11.size; clear KP KX10 RX10 RS10 RA10 HRT B10 b11 RQ CQ RU NU; have hal : [] ++ as1 ++ as2 = al := by rw [List.nil_append]; exact HF3.out
        have hkn : hh + (n - hh) = k := by
         have h1 := congrArg List.length HF3.out; rw [List.length_append, HL1.out, HL2.out, HNA.out] at h1; exact h1
        have HAL := hid hal; clear hal; go_upto_region 18 with (fail)
        have bz : Below wc.heap.size wc (wc.alloc (.cells #[] 9)) := (Below.refl _ _).alloc (Nat.le_refl _) _; have E18 : OwS (wc.alloc (.cells #[] 9)) wc.heap.size (some ⟨wc.heap.size, 0, none⟩) 0 0 [] := World.ownsRow_lit (base := wc.heap.size) (e := 9) (size := 1) wc #[] 0 (Nat.le_refl _) (by decide) rfl; have RT18 := RT11.out.below (bz.mono (by omega)); have RU18 := HRU.out.below bz; have z18 := bz.size; go_upto_region 20 with (first | (at_builtin; refine wpList_appSs (xs := []) (ys := as1) (q := hh) (by omega) rfl rfl rfl E18 rfl HNT.out RT18 (by omega) z18 ?_; rintro A19 c19 w19 e19 gr19) | (at_builtin; refine wpList_appSs (xs := [] ++ as1) (ys := as2) (q := k) hkn rfl rfl rfl e19 rfl HNU.out (RU18.below (below_app (Below.refl wc.heap.size _) E18 z18 gr19)) (by omega) (Nat.le_trans z18 gr19.size) ?_; rintro A20 c20 w20 e20 gr20))
        have b19 := below_app (Below.refl wc.heap.size _) E18 z18 gr19; have b20 := b19.trans (below_app (Below.refl _ _) e19 (Nat.le_trans z18 gr19.size) gr20); have b21 := bz.trans b20; rw [HAL.out] at e20; have KQ20 := Blk.below KQ b21 (Blk.lt KQ); have KX20 := Blk.below KX11 b21 (Blk.lt KX11); have RQ20 := hid (HRQ.out.below b21); have RX20 := hid (RX11.out.below (b21.mono (by omega))); have RA20 := hid (RA11.out.below (b21.mono (by omega))); have RE20 := hid e20.rd; have B20 := hid (B11.out.trans (b21.mono B11.out.size)); have s20 := b21.size; clear bz E18 RT18 RU18 z18 e19 gr19 e20 gr20 b19 b20 b21 KQ KX11 RX11 RA11 RT11 HRQ HRU HNU HNT B11 hkn; go_loopw [16] (fun i wr => ∃ j : Nat, j ≤ k ∧ i = .int .i64 j ∧ Below w20.heap.size w20 wr) (fun i _ => k - (intOf i).toNat)
        case atStart => exact ⟨0, Nat.zero_le _, rfl, Below.refl _ _⟩
        case round =>
         obtain ⟨j, hj, rfl, hb2⟩ := hrel; have HB2 := hid hb2; have hsz2 := hb2.size; by_cases hlt2 : j < k
         · obtain ⟨b, off, rfl, hbB, hc⟩ := RE20.out.at_ (by omega); obtain ⟨b', off', rfl, hbB', hc'⟩ := RA20.out.at_ (by omega); have c0 := (hb2.cell (p := ⟨b, off + j, none⟩) (show b < w20.heap.size by omega)).trans (hc j hlt2); have d0 := (hb2.cell (p := ⟨b', off' + j, none⟩) (show b' < w20.heap.size by omega)).trans (hc' j hlt2); generalize al.getD j noTxt = s at *; clear hc hc' hb2; go_wp2; go_quiet (fail)
           go_wp2; go_roundw
           case rel => exact ⟨j + 1, by omega, by go_num, by first | exact HB2.out.trans ((below_drewN (Below.refl _ _) _).mono hsz2) | exact below_drewN HB2.out _⟩
           case measure => simp [intOf]; omega
         · obtain rfl : j = k := by omega
           have KQr := Blk.below KQ20 hb2 (Blk.lt KQ20); have KXr := Blk.below KX20 hb2 (Blk.lt KX20); have RQr := hid (RQ20.out.below (hb2.mono (by omega))); have RXr := hid (RX20.out.below (hb2.mono (by omega))); have BR := hid (B20.out.trans (hb2.mono B20.out.size)); clear KQ20 KX20 RQ20 RX20 RA20 RE20 B20 hb2 HB2; obtain ⟨t0, t1, t2, t3, t4, t5, t6⟩ := Blk.all7 KQr; obtain ⟨u0, u1, u2, u3, u4, u5, u6⟩ := Blk.all7 KXr; go_upto_region 24 with (fail)
           go_wp2_with fail; refine (sameDisk_same RQr.out RXr.out (by omega) (by omega) SMX.out).mono ?_
           rintro e w30 ⟨rfl, b30⟩; go_wp2_with fail; go_ret; exact ⟨rfl, BR.out.trans (b30.mono BR.out.size)⟩
    · have hXz := HRR.out; rw [linesF_no hg] at hXz; injection hXz with e1 e2; subst e1 e2; obtain ⟨q, hq⟩ : ∃ q, bof (DiskOk d) = q := ⟨_, rfl⟩; rw [hq]; have hor : q = false ∨ (q = true ∧ 20 < n) := by
       cases q with
       | false => exact .inl rfl
       | true => exact .inr ⟨rfl, by have h1 := bof_t.1 hq; rcases Nat.lt_or_ge 20 n with h2 | h2; exact h2; exact absurd ⟨h1, by rw [HLEN.out]; omega⟩ hg⟩
      have hn0 : k = 0 := HNA.out.symm; subst hn0; obtain ⟨t0, t1, t2, t3, t4, t5, t6⟩ := Blk.all7 KX9; have RZ := hid (rd_zeros w9 w9.heap.size); have arm := sameDisk_same (h' := zeroHs) RX9.out RZ.out (by omega) (Nat.le_refl _) SMX.out; simp only [zeroDisk] at arm t2 t3 t4 t5; have ARM := hid arm; clear arm hq hg; rcases hor with rfl | ⟨rfl, hlt2⟩
      · go_wp2_with (first | (go_at_call 10; refine ARM.out.mono ?_; rintro e w10 ⟨rfl, b10⟩) | (go_at_call 12; refine (alive_c _).mono ?_; rintro e w' ⟨rfl, rfl⟩))
        go_ret; exact ⟨rfl, B9.out.trans (b10.mono B9.out.size)⟩
      · have hlt3 : (20 : Int) < n := by omega
        go_wp2_with (first | (go_at_call 10; refine ARM.out.mono ?_; rintro e w10 ⟨rfl, b10⟩) | (go_at_call 12; refine (alive_c _).mono ?_; rintro e w' ⟨rfl, rfl⟩))
        go_ret; exact ⟨rfl, B9.out.trans (b10.mono B9.out.size)⟩
end Go.Proofs.YtefdjahaimnndaaGreatDoor
