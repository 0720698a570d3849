/- The empty table, the program's and the reference's. No condition. -/
import Derived.Test.YtjnpgdhpneifjaaTabLaw
import Derived.Test.YtjnpgdhpneifjaaMarks
namespace Go.Proofs.Ytjnpgdhpneifjaa
open Go.ChangeShapes Go.WideShapes Go.ChangeAt Go.RowKit Go.Deep
set_option linter.unusedVariables false
set_option linter.unusedSimpArgs false

def emptyRow : List Int := List.replicate 6 (-1)
def emptyT : List (List Int) := List.replicate 8 emptyRow
/-- a table in new memory, returned -/
def OwnT (w0 : World) (ts : List (List Int)) (e : Ending) (w' : World) : Prop := ∃ A c, e = .returned (.agg #[.slice A ts.length c]) ∧ OwT w' w0.heap.size A ts.length c ts ∧ Below w0.heap.size w0 w'
theorem ownT_of {w0 w' : World} {ts : List (List Int)} {A : Option Addr} {m c : Nat} (hm : ts.length = m) (h : OwT w' w0.heap.size A m c ts) (hb : Below w0.heap.size w0 w') : OwnT w0 ts (.returned (.agg #[.slice A m c])) w' := by
  subst hm; exact ⟨A, c, rfl, h, hb⟩
theorem l7New_c (w : World) : Calls Try.prog 44 #[] w (OwnT w emptyT) := by
  have e1 : (w.alloc (.cells #[.slice none 0 0] 37)).heap.size = w.heap.size + 1 := by simp
  have K1 := (Blk.new w 37 #[.slice none 0 0]).alloc (.cells #[.slice none 0 0] 37)
  have K2 := Blk.new (w.alloc (.cells #[.slice none 0 0] 37)) 37 #[.slice none 0 0]
  rw [e1] at K2
  have b1 : Below w.heap.size w ((w.alloc (.cells #[.slice none 0 0] 37)).alloc (.cells #[.slice none 0 0] 37)) := ((Below.refl _ _).alloc (Nat.le_refl _) _).alloc (by simp) _
  have HK1 := Lib.hid K1
  have HK2 := Lib.hid K2
  have HB1 := Lib.hid b1
  clear e1 K1 K2 b1
  go_enter Try.func44, Try.ntmps44
  go_wp2
  generalize (w.alloc (.cells #[.slice none 0 0] 37)).alloc (.cells #[.slice none 0 0] 37) = w1 at *
  go_loopw [2] (fun i wr => ∃ (k : Nat) (A : Option Addr) (c : Nat), k ≤ 8 ∧ i = .int .i64 k ∧ OwT wr w.heap.size A k c (List.replicate k emptyRow) ∧ Blk wr w.heap.size 37 #[.slice none 0 0] ∧ Blk wr (w.heap.size + 1) 37 #[.slice A k c] ∧ Below w.heap.size w wr) (fun i _ => 8 - (intOf i).toNat)
  case atStart => exact ⟨0, none, 0, Nat.zero_le _, rfl, OwT.nil _ _, HK1.out, HK2.out, HB1.out⟩
  case round =>
    obtain ⟨k, A, c, hk, rfl, hown, k1, k2, hbel⟩ := hrel
    have HO := Lib.hid hown
    have HB := Lib.hid hbel
    have hsz := hbel.size
    have G1 := Lib.hid k1
    have G2 := Lib.hid k2
    by_cases hlt : k < 8
    · have hlit : (wr.alloc (.cells #[] 3)).ownsRow wr.heap.size 3 1 (.slice (some ⟨wr.heap.size, 0, none⟩) 0 0) 0 (([] : List Int).map (Value.int .i64)) := World.ownsRow_lit wr #[] 0 (Nat.le_refl _) (by decide) rfl
      have HL := Lib.hid hlit
      have hd : decide ((k : Int) < 8) = true := decide_eq_true (by omega)
      clear hlit hown hbel k1 k2
      obtain ⟨wo, rfl⟩ : ∃ wo : World, wo = wr := ⟨_, rfl⟩
      go_wp2
      go_loopw [3, 4] (fun v i ws => ∃ (j : Nat) (A : Option Addr) (c : Nat), j ≤ 6 ∧ i = .int .i64 j ∧ v = .slice A j c ∧ ws.ownsRow wo.heap.size 3 1 (.slice A j c) j ((List.replicate j (-1 : Int)).map (Value.int .i64)) ∧ Below wo.heap.size wo ws) (fun _ i _ => 6 - (intOf i).toNat)
      case atStart => exact ⟨0, _, _, Nat.zero_le _, rfl, rfl, HL.out, (Below.refl _ _).alloc (Nat.le_refl _) _⟩
      case round =>
        obtain ⟨j, A2, c2, hj, rfl, rfl, hrow, hb2⟩ := hrel
        have HR := Lib.hid hrow
        have HB2 := Lib.hid hb2
        have hs2 := hb2.size
        clear hrow hb2
        by_cases hl6 : j < 6
        · go_wp2_with (at_builtin; refine wpList_appI rfl rfl rfl HR.out rfl (by omega) hs2 ?_; rintro g3 c3 w3 o3 gr3 hg3)
          have HR3 := Lib.hid (show w3.ownsRow wo.heap.size 3 1 (.slice (some ⟨g3, 0, none⟩) (j + 1) c3) (j + 1) ((List.replicate (j + 1) (-1 : Int)).map (Value.int .i64)) from by rw [List.replicate_succ']; exact o3)
          have HB3 := Lib.hid (below_app HB2.out HR.out hs2 gr3)
          clear o3 gr3
          go_wp2
          go_roundw
          case rel => exact ⟨j + 1, _, _, by omega, by go_num, rfl, HR3.out, HB3.out⟩
          case measure => simp [intOf]; omega
        · obtain rfl : j = 6 := by omega
          have g2 := (G2.out.below HB2.out (G2.out.lt)).cell 0
          have z2 := (G2.out.below HB2.out (G2.out.lt)).frozen 0
          simp at g2
          have KA := G1.out.below HB2.out G1.out.lt
          have KB := G2.out.below HB2.out G2.out.lt
          have ka := Lib.hid KA
          have kb := Lib.hid KB
          clear KA KB
          go_wp2_with (at_builtin; refine wpList_appRow rfl rfl rfl HO.out HB2.out HR.out rfl (by omega) hsz ?_; rintro g3 c3 w3 o3 b3 t3 hg3; have k3 := Lib.hid (kb.out.typed t3 (by decide)); have h0 : w3.cell? ⟨w.heap.size + 1, 0, none⟩ = some (.slice A k c) := k3.out.cell 0; have y0 := k3.out.frozen 0)
          have k4 := ka.out.typed t3 (by decide)
          replace k3 := k3.out
          have HO3 := Lib.hid (show OwT (w3.setCell ⟨w.heap.size + 1, 0, none⟩ (.slice (some ⟨g3, 0, none⟩) (k + 1) c3)) w.heap.size (some ⟨g3, 0, none⟩) (k + 1) c3 (List.replicate (k + 1) emptyRow) from by
            rw [List.replicate_succ']
            exact o3.typed (ChgT.blk k3 0 _) (by decide) (by decide))
          have K3 := Lib.hid (k3.set_ 0 (.slice (some ⟨g3, 0, none⟩) (k + 1) c3))
          have K4 := Lib.hid (k4.far (p := ⟨w.heap.size + 1, 0, none⟩) (by show w.heap.size ≠ w.heap.size + 1; omega) (.slice (some ⟨g3, 0, none⟩) (k + 1) c3))
          have HB3 := Lib.hid ((HB.out.trans b3).setCell (p := ⟨w.heap.size + 1, 0, none⟩) (by show w.heap.size ≤ w.heap.size + 1; omega) (.slice (some ⟨g3, 0, none⟩) (k + 1) c3))
          clear k3 k4 o3 b3 t3 g2 z2
          go_roundw
          case rel => exact ⟨k + 1, _, _, by omega, by go_num, HO3.out, K4.out, K3.out, HB3.out⟩
          case measure => simp [intOf]; omega
    · obtain rfl : k = 8 := by omega
      have h0 := k2.cell 0
      have y0 := k2.frozen 0
      have q0 := k1.cell 0
      have r0 := k1.frozen 0
      simp at h0 q0
      have P := Lib.hid (k1.set_ 0 (.slice A 8 c))
      have HO3 := Lib.hid (hown.typed (ChgT.blk k1 0 (.slice A 8 c)) (by decide) (by decide))
      have HB3 := Lib.hid (hbel.setCell (p := ⟨w.heap.size, 0, none⟩) (Nat.le_refl _) (.slice A 8 c))
      clear k1 k2 hown hbel
      go_wp2
      generalize wr.setCell ⟨w.heap.size, 0, none⟩ (.slice A 8 c) = wz at *
      have p0 := P.out.cell 0
      simp at p0
      refine bodyPost_ret (by simp [results, Try.results44, go_sem, p0]; try rfl) rfl ?_
      exact ownT_of rfl HO3.out HB3.out
theorem makeTab8 : ∀ W : World, (Instr.makeSlice 35 (.int .i64 8) (.int .i64 8)).run Try.prog W = .ok (.slice (some ⟨W.heap.size, 0, none⟩) 8 8) (W.alloc (.cells (madeCells #[.slice none 0 0] 8) 76)) := fun W => makeTab 8 (by omega) W
theorem makeRow6 : ∀ W : World, (Instr.makeSlice 76 (.int .i64 6) (.int .i64 6)).run Try.prog W = .ok (.slice (some ⟨W.heap.size, 0, none⟩) 6 6) (W.alloc (.cells (cellsI [0, 0, 0, 0, 0, 0]) 3)) := fun W => make_ints 6 (by omega) W
theorem own_row6 (W : World) (base : Nat) (hb : base ≤ W.heap.size) : (W.alloc (.cells (cellsI [0, 0, 0, 0, 0, 0]) 3)).ownsRow base 3 1 (.slice (some ⟨W.heap.size, 0, none⟩) 6 6) 6 (([0, 0, 0, 0, 0, 0] : List Int).map (Value.int .i64)) := by
  have h : RowI (W.alloc (.cells (cellsI [0, 0, 0, 0, 0, 0]) 3)) W.heap.size [0, 0, 0, 0, 0, 0] := Blk.new _ _ _
  exact h.own hb (by unfold maxLen; simp)
set_option maxHeartbeats 1000000 in
theorem emptyTable_c (w : World) : Calls Try.prog 45 #[] w (OwnT w emptyT) := by
  have hmk8 := makeTab8
  have hmk6 := makeRow6
  have e1 : (w.alloc (.cells #[.slice none 0 0] 37)).heap.size = w.heap.size + 1 := by simp
  have hot := own_madeTab (w.alloc (.cells #[.slice none 0 0] 37)) w.heap.size 8 emptyT rfl (by simp) (by omega)
  rw [e1] at hot
  have e2 : ((w.alloc (.cells #[.slice none 0 0] 37)).alloc (.cells (madeCells #[.slice none 0 0] 8) 76)).heap.size = w.heap.size + 1 + 1 := by simp
  have K1 := ((Blk.new w 37 #[.slice none 0 0]).alloc (.cells (madeCells #[.slice none 0 0] 8) 76)).alloc (.cells #[.slice (some ⟨w.heap.size + 1, 0, none⟩) 8 8] 37)
  have K2 := Blk.new ((w.alloc (.cells #[.slice none 0 0] 37)).alloc (.cells (madeCells #[.slice none 0 0] 8) 76)) 37 #[.slice (some ⟨w.heap.size + 1, 0, none⟩) 8 8]
  rw [e2] at K2
  have hot2 := hot.below ((Below.refl _ _).alloc (Nat.le_refl _) (.cells #[.slice (some ⟨w.heap.size + 1, 0, none⟩) 8 8] 37))
  have b1 : Below w.heap.size w (((w.alloc (.cells #[.slice none 0 0] 37)).alloc (.cells (madeCells #[.slice none 0 0] 8) 76)).alloc (.cells #[.slice (some ⟨w.heap.size + 1, 0, none⟩) 8 8] 37)) := (((Below.refl _ _).alloc (Nat.le_refl _) _).alloc (by simp) _).alloc (by simp; omega) _
  have HK1 := Lib.hid K1
  have HK2 := Lib.hid K2
  have HB1 := Lib.hid b1
  have HOT := Lib.hid hot2
  have k2 := K2.cell 0
  simp at k2
  clear K1 K2 b1 hot hot2 e1 e2
  go_enter Try.func45, Try.ntmps45
  go_wp2
  generalize ((w.alloc (.cells #[.slice none 0 0] 37)).alloc (.cells (madeCells #[.slice none 0 0] 8) 76)).alloc (.cells #[.slice (some ⟨w.heap.size + 1, 0, none⟩) 8 8] 37) = w1 at *
  clear k2 hmk8
  go_loopw [9] (fun i wr => ∃ k : Nat, k ≤ 8 ∧ i = .int .i64 k ∧ OwT wr w.heap.size (some ⟨w.heap.size + 1, 0, none⟩) 8 8 (fillTo [] emptyT k) ∧ Blk wr w.heap.size 37 #[.slice none 0 0] ∧ Blk wr (w.heap.size + 1 + 1) 37 #[.slice (some ⟨w.heap.size + 1, 0, none⟩) 8 8] ∧ Below w.heap.size w wr) (fun i _ => 8 - (intOf i).toNat)
  case atStart => exact ⟨0, Nat.zero_le _, rfl, HOT.out, HK1.out, HK2.out, HB1.out⟩
  case round =>
    obtain ⟨k, hk, rfl, hown, k1, k2, hbel⟩ := hrel
    have HO := Lib.hid hown
    have HB := Lib.hid hbel
    have hsz := hbel.size
    have G1 := Lib.hid k1
    have G2 := Lib.hid k2
    by_cases hlt : k < 8
    · have hd : decide ((k : Int) < 8) = true := decide_eq_true (by omega)
      have hlt8 : (k : Int) < 8 := by omega
      obtain ⟨A3, n3, c3, f1, z1, q1, q2, q3, _⟩ := hown.cells k hlt
      have t0 := k2.cell 0
      simp at t0
      have l0 := k2.lt
      have l1 : w.heap.size + 1 < wr.heap.size := by omega
      clear hown hbel k1 k2 q3
      obtain ⟨wo, rfl⟩ : ∃ wo : World, wo = wr := ⟨_, rfl⟩
      have o5 := HO.out.setList ((Below.refl _ _).alloc (Nat.le_refl _) (.cells (cellsI [0, 0, 0, 0, 0, 0]) 3)) (own_row6 wo wo.heap.size (Nat.le_refl _)) hsz hlt
      rw [World.setCell_alloc_past _ _ _ _ l1] at o5
      have O5 := Lib.hid (o5.below ((Below.refl _ _).drew))
      have B5 := Lib.hid (((HB.out.setCell (p := ⟨w.heap.size + 1, k, none⟩) (by show w.heap.size ≤ w.heap.size + 1; omega) (.slice (some ⟨wo.heap.size, 0, none⟩) 6 6)).alloc (by simp; omega) (.cells (cellsI [0, 0, 0, 0, 0, 0]) 3)).drew)
      have k5 := Lib.hid (((G1.out.far (p := ⟨w.heap.size + 1, k, none⟩) (by show w.heap.size ≠ w.heap.size + 1; omega) (.slice (some ⟨wo.heap.size, 0, none⟩) 6 6)).alloc (.cells (cellsI [0, 0, 0, 0, 0, 0]) 3)).drew)
      have k6 := Lib.hid (((G2.out.far (p := ⟨w.heap.size + 1, k, none⟩) (by show w.heap.size + 1 + 1 ≠ w.heap.size + 1; omega) (.slice (some ⟨wo.heap.size, 0, none⟩) 6 6)).alloc (.cells (cellsI [0, 0, 0, 0, 0, 0]) 3)).drew)
      have h5 : (((wo.setCell ⟨w.heap.size + 1, k, none⟩ (.slice (some ⟨wo.heap.size, 0, none⟩) 6 6)).alloc (.cells (cellsI [0, 0, 0, 0, 0, 0]) 3)).drew).cell? ⟨w.heap.size + 1, k, none⟩ = some (.slice (some ⟨wo.heap.size, 0, none⟩) 6 6) := by
        show ((wo.setCell ⟨w.heap.size + 1, k, none⟩ (.slice (some ⟨wo.heap.size, 0, none⟩) 6 6)).alloc _).cell? _ = _
        rw [World.cell?_of_block (Below.heap_alloc _ _ _ (by simpa using l1))]
        exact World.cell?_setCell_same _ _ _ f1
      have H5 := Lib.hid h5
      clear o5 h5
      go_wp2
      go_region
      have h5 := H5.out
      clear H5
      generalize ((wo.setCell ⟨w.heap.size + 1, k, none⟩ (.slice (some ⟨wo.heap.size, 0, none⟩) 6 6)).alloc (.cells (cellsI [0, 0, 0, 0, 0, 0]) 3)).drew = w5 at *
      have H5 := Lib.hid h5
      have u0 := k6.out.cell 0
      simp at u0
      clear f1 z1 t0
      obtain ⟨gr, hgr⟩ : ∃ gr, gr = wo.heap.size := ⟨_, rfl⟩
      rw [← hgr] at h5 H5
      have hgr1 : w.heap.size + 1 + 1 < gr := by omega
      rw [← hgr]
      have HGR := Lib.hid hgr
      clear hgr
      go_wp2
      clear u0 h5
      go_loopw [23] (fun i ws => ∃ j : Nat, j ≤ 6 ∧ i = .int .i64 j ∧ OwT ws w.heap.size (some ⟨w.heap.size + 1, 0, none⟩) 8 8 ((fillTo [] emptyT k).set k (repTo emptyRow [0, 0, 0, 0, 0, 0] j)) ∧ ws.cell? ⟨w.heap.size + 1, k, none⟩ = some (.slice (some ⟨gr, 0, none⟩) 6 6) ∧ Blk ws w.heap.size 37 #[.slice none 0 0] ∧ Blk ws (w.heap.size + 1 + 1) 37 #[.slice (some ⟨w.heap.size + 1, 0, none⟩) 8 8] ∧ Below w.heap.size w ws) (fun i _ => 6 - (intOf i).toNat)
      case atStart => exact ⟨0, Nat.zero_le _, rfl, O5.out, H5.out, k5.out, k6.out, B5.out⟩
      case round =>
        obtain ⟨j, hj, rfl, ho, hh, m1, m2, hb⟩ := hrel
        by_cases hl6 : j < 6
        · obtain ⟨A4, n4, c4, f4, z4, _, _, q4, r4⟩ := ho.cells k hlt
          rw [hh] at f4
          injection f4 with f4
          injection f4 with f4 f5 f6
          subst f4
          subst f5
          subst f6
          have hlen : (fillTo [] emptyT k).length = 8 := by rw [fillTo_len _ _ (by show k ≤ 8; omega)]; rfl
          have hgs : ((fillTo [] emptyT k).set k (repTo emptyRow [0, 0, 0, 0, 0, 0] j)).getD k [] = repTo emptyRow [0, 0, 0, 0, 0, 0] j := getD_setG _ _ _ _ (by omega)
          rw [hgs] at r4 q4
          have cj := r4.cellAt (g := gr) (cap := 6) j (by omega)
          have zj := r4.frozenAt (g := gr) (cap := 6) j
          rw [map_getElem? _ _ (by rw [← q4]; exact hl6)] at cj
          have st := r4.stored (g := gr) (cap := 6) j (.int .i64 (-1))
          have hre : (repTo emptyRow [0, 0, 0, 0, 0, 0] j).set j (-1) = repTo emptyRow [0, 0, 0, 0, 0, 0] (j + 1) := by
            have := repTo_set 0 (m := emptyRow) (xs := [0, 0, 0, 0, 0, 0]) (j := j) rfl hl6
            rw [show emptyRow.getD j 0 = -1 from by unfold emptyRow; rw [List.getD_eq_getElem?_getD, List.getElem?_replicate, if_pos hl6]; rfl] at this
            exact this
          have hst := st.1
          rw [← List.map_set, hre] at hst
          have ot := ho.turn (xs := repTo emptyRow [0, 0, 0, 0, 0, 0] (j + 1)) hlt hh st.2 hst (by rw [hgs]; exact q4)
          rw [List.set_set] at ot
          have OT := Lib.hid ot
          have HH := Lib.hid (show (wr.setCell ⟨gr, j, none⟩ (.int .i64 (-1))).cell? ⟨w.heap.size + 1, k, none⟩ = some (.slice (some ⟨gr, 0, none⟩) 6 6) from (World.cell?_setCell_other _ _ _ _ (fun e => by injection e with e; omega)).trans hh)
          have N1 := Lib.hid (m1.far (p := ⟨gr, j, none⟩) (by show w.heap.size ≠ gr; omega) (.int .i64 (-1)))
          have N2 := Lib.hid (m2.far (p := ⟨gr, j, none⟩) (by show w.heap.size + 1 + 1 ≠ gr; omega) (.int .i64 (-1)))
          have NB := Lib.hid (hb.setCell (p := ⟨gr, j, none⟩) (by show w.heap.size ≤ gr; omega) (.int .i64 (-1)))
          have u2 := m2.cell 0
          simp at u2
          generalize (repTo emptyRow [0, 0, 0, 0, 0, 0] j).getD j 0 = q at *
          clear ho hb m1 m2 r4 st hst ot hre hgs q4 z4 hlen
          go_wp2
          go_roundw
          case rel => exact ⟨j + 1, by omega, by go_num, OT.out, HH.out, N1.out, N2.out, NB.out⟩
          case measure => simp [intOf]; omega
        · obtain rfl : j = 6 := by omega
          have e6 : repTo emptyRow [0, 0, 0, 0, 0, 0] 6 = emptyRow := rfl
          rw [e6] at ho
          have hfs := fillTo_set [] emptyT (k := k) (by show k < 8; exact hlt)
          rw [show emptyT.getD k [] = emptyRow from by unfold emptyT; rw [List.getD_eq_getElem?_getD, List.getElem?_replicate, if_pos hlt]; rfl] at hfs
          rw [hfs] at ho
          clear hh hfs e6
          go_wp2
          go_roundw
          case rel => exact ⟨k + 1, by omega, by go_num, ho, m1, m2, hb⟩
          case measure => simp [intOf]; omega
    · obtain rfl : k = 8 := by omega
      have how : OwT wr w.heap.size (some ⟨w.heap.size + 1, 0, none⟩) 8 8 emptyT := by have := fillTo_all [] emptyT; rw [show emptyT.length = 8 from rfl] at this; rw [this] at hown; exact hown
      have h0 := k2.cell 0
      have y0 := k2.frozen 0
      have q0 := k1.cell 0
      have r0 := k1.frozen 0
      simp at h0 q0
      have P := Lib.hid (k1.set_ 0 (.slice (some ⟨w.heap.size + 1, 0, none⟩) 8 8))
      have HO3 := Lib.hid (how.typed (ChgT.blk k1 0 (.slice (some ⟨w.heap.size + 1, 0, none⟩) 8 8)) (by decide) (by decide))
      have HB3 := Lib.hid (hbel.setCell (p := ⟨w.heap.size, 0, none⟩) (Nat.le_refl _) (.slice (some ⟨w.heap.size + 1, 0, none⟩) 8 8))
      clear k1 k2 hown hbel how
      go_wp2
      generalize wr.setCell ⟨w.heap.size, 0, none⟩ (.slice (some ⟨w.heap.size + 1, 0, none⟩) 8 8) = wz at *
      have p0 := P.out.cell 0
      simp at p0
      refine bodyPost_ret (by simp [results, Try.results45, go_sem, p0]; try rfl) rfl ?_
      exact ownT_of rfl HO3.out HB3.out
end Go.Proofs.Ytjnpgdhpneifjaa
