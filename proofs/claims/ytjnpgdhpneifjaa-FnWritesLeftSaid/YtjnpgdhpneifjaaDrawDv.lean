/- Drawn devices. No condition. -/
import Derived.Test.YtjnpgdhpneifjaaDrawDv0
namespace Go.Proofs.Ytjnpgdhpneifjaa
open Go.ChangeShapes Go.WideShapes Go.ChangeAt Go.RowKit
set_option linter.unusedVariables false
set_option linter.unusedSimpArgs false

theorem newDevOk {n : Nat} (h1 : 1 ≤ n) (h2 : n ≤ 12) : DevOk (newDev n) := by
  refine ⟨by rw [newDev_len]; omega, fun i hi => ?_⟩
  rw [newDev_len] at hi
  rw [newDev_get hi]
  exact newB_ok (by omega) (by omega)
theorem newHeads_ok {n : Nat} (h1 : 1 ≤ n) (h2 : n ≤ 12) : HeadsOk (newDev n) (-1) (-1) (-1) :=
  ⟨newDevOk h1 h2, by rw [preH_iff]; refine ⟨⟨⟨by omega, by omega⟩, ⟨by omega, by omega⟩, ⟨by omega, by omega⟩⟩, fun h => by omega, fun h => by omega, fun h => by omega⟩⟩
theorem owB_ne {w : World} {base g b t n c : Nat} {cs : Array Value} {bs : List BlockV} (h : OwB w base (some ⟨g, 0, none⟩) n c bs) (k : Blk w b t cs) (ht : 67 ≠ t) : b ≠ g := by
  intro e
  subst e
  obtain ⟨hs, h⟩ := h
  obtain ⟨cur, hc⟩ := own_kind h.main (g := b) rfl
  unfold Blk at k
  rw [hc] at k
  injection k with k
  injection k with k1 k2 k3
  exact ht k2
def lenD : Value → Nat | .slice _ n _ => n | _ => 0
theorem chgT_drewL {ts : List Nat} {w w' : World} (h : ChgT ts w.drew w') : ChgT ts w w' := ⟨h.os, h.tape, h.output, h.size, h.block⟩
theorem chgT_set3 {w : World} {g : Nat} {cs : Array Value} (k : Blk w g 39 cs) (u0 u1 u2 : Value) : ChgT [39, 108] w (((w.setCell ⟨g, 0, none⟩ u0).setCell ⟨g, 1, none⟩ u1).setCell ⟨g, 2, none⟩ u2) :=
  (((ChgT.blk k 0 u0).trans (ChgT.blk (k.set_ 0 u0) 1 u1)).trans (ChgT.blk ((k.set_ 0 u0).set_ 1 u1) 2 u2)).wide (by simp)
theorem rdr_below {w w' : World} {B g p base : Nat} (h : Rdr w B g p) (hb : Below base w w') (hg : g < base) : Rdr w' B g p := by
  obtain ⟨h0, A, n, c, q, xs, hq, hk, hr, hx⟩ := h
  exact ⟨h0, A, n, c, q, xs, hq, hk.below hb hg, hr.below (hb.mono (by omega)), hx⟩
theorem gb_typed {w0 b w' : World} {g : Nat} (h : w0.grownBy b (some g)) (hb : Below w0.heap.size b w') : w0.grownBy w' (some g) :=
  ⟨hb.os.trans h.os, hb.tape.trans h.tape, hb.output.trans h.output, Nat.le_trans h.size hb.size, fun i hi hne => (hb.block i hi).trans (h.block i hi hne)⟩
set_option maxRecDepth 8000 in
set_option maxHeartbeats 16000000 in
theorem l20Device_c {B g p : Nat} {n : Int} {w : World} (h : Rdr w B g p) (hp : p < 800000) (hn1 : 0 < n) (hn2 : n < 1000000) :
    Calls Try.prog 39 #[.pointer (some ⟨g, 0, none⟩), .int .i64 n] w (DevPost B g p w) := by
  have hlt := h.lt
  have h1 := h.alloc (.cells #[.int .i64 0, .int .i64 0, .int .i64 0] 39)
  have R1 := Blk.new w 39 #[.int .i64 0, .int .i64 0, .int .i64 0]
  have G1 : w.grownBy (w.alloc (.cells #[.int .i64 0, .int .i64 0, .int .i64 0] 39)) (some g) := gb_alloc (World.grownBy.refl _ _) _
  clear h
  go_enter Try.func39, Try.ntmps39
  go_wp2_with fail
  generalize w.alloc (.cells #[.int .i64 0, .int .i64 0, .int .i64 0] 39) = w1 at *
  refine (pick_c h1 (by omega)).mono ?_
  rintro e w2 ⟨v1, rfl, hv1, hv1', h2, q2⟩
  have R2 := R1.grown q2 (by intro e; injection e with e; omega)
  have G2 := gb_trans G1 q2
  have l2 := h2.lt
  have rl2 := R2.lt
  clear h1 R1 G1 q2
  obtain ⟨t, rfl⟩ := Int.eq_ofNat_of_zero_le hv1
  have ht : t < 4 := by omega
  clear hv1 hv1'
  have wt : IntKind.i64.wrap (2 + (t : Int)) = ((2 + t : Nat) : Int) := (IntWalk.i64_in _ (by omega)).trans (by omega)
  go_wp2_with fail
  refine (newDevice_spec (2 + t) _ (by omega) (by omega)).mono ?_
  rintro e w3 ⟨A0, c0, rfl, o3, b3⟩
  rw [newDev_len] at o3 ⊢
  have h3 := h2.grown (gb_of_below b3 none) (fun k e => by cases e)
  have G3 := gb_step (row := none) G2 (gb_of_below b3 none) (fun k e => by cases e)
  have R3 := R2.below b3 R2.lt
  have D3 := o3.lower (base' := w.heap.size) G2.size
  clear h2 G2 R2 o3 b3
  go_wp2_with fail
  have H4 := Blk.new w3 39 #[.int .i64 (-1), .int .i64 (-1), .int .i64 (-1)]
  have h4 := h3.alloc (.cells #[.int .i64 (-1), .int .i64 (-1), .int .i64 (-1)] 39)
  have G4 := gb_alloc G3 (.cells #[.int .i64 (-1), .int .i64 (-1), .int .i64 (-1)] 39)
  have R4 := R3.alloc (.cells #[.int .i64 (-1), .int .i64 (-1), .int .i64 (-1)] 39)
  have D4 := D3.below ((Below.refl w3.heap.size w3).alloc (Nat.le_refl _) (.cells #[.int .i64 (-1), .int .i64 (-1), .int .i64 (-1)] 39))
  have l3 := h3.lt
  have r3l := R3.lt
  clear h3 G3 R3 D3
  generalize w3.alloc (.cells #[.int .i64 (-1), .int .i64 (-1), .int .i64 (-1)] 39) = w4 at *
  generalize hhb : w3.heap.size = hb at *
  clear hhb
  refine (pick_c h4 (by omega)).mono ?_
  rintro e w5 ⟨v2, rfl, hv2, hv2', h5, q5⟩
  have G5 := gb_trans G4 q5
  have R5 := R4.grown q5 (by intro e; injection e with e; omega)
  have H5 := H4.grown q5 (by intro e; injection e with e; omega)
  have D5 := D4.pick q5 (by omega)
  clear G4 D4 q5 h4 R4 H4
  go_wp2_with fail
  go_loopw [6, 8, 9] (fun d st kk wr => ∃ (j m : Nat) (bs : List BlockV) (h : HeadV) (A : Option Addr) (c : Nat), kk = .int .i64 j ∧ st = .int .i64 (1 + (m : Int)) ∧ j + m ≤ 19 ∧ d = .slice A bs.length c ∧ OwB wr w.heap.size A bs.length c bs ∧ HeadsOk bs h.x h.y h.z ∧ Blk wr hb 39 #[.int .i64 h.x, .int .i64 h.y, .int .i64 h.z] ∧ Blk wr w.heap.size 39 #[.int .i64 0, .int .i64 0, .int .i64 0] ∧ Rdr wr B g (p + 2 + 4 * m) ∧ w.grownBy wr (some g)) (fun _ _ kk _ => (intOf kk).toNat)
  case atStart =>
    obtain ⟨j, rfl⟩ := Int.eq_ofNat_of_zero_le hv2
    exact ⟨j, 0, newDev (2 + t), ⟨-1, -1, -1⟩, A0, c0, rfl, rfl, by omega, by rw [newDev_len], by rw [newDev_len]; exact D5, newHeads_ok (by omega) (by omega), H5, R5, h5.mono (by omega), G5⟩
  case round =>
    obtain ⟨j, m, bs, h, A, c, rfl, rfl, hjm, rfl, D7, hok, H7, R7, h7, G7⟩ := hrel
    clear D5 H5 R5 h5 G5
    have HOK := Lib.hid hok
    have hl12 : bs.length ≤ 12 := hok.1.1.2
    have hl1 : 1 ≤ bs.length := hok.1.1.1
    clear hok
    obtain ⟨x, y, z⟩ := h
    simp only at H7
    have l7 := h7.lt
    have k7l := H7.lt
    have r7l := R7.lt
    have sw := G7.size
    by_cases hj : 0 < j
    · have t0 := H7.cell 0
      have t1 := H7.cell 1
      have t2 := H7.cell 2
      simp at t0 t1 t2
      go_upto_region 7 with (fail)
      refine wp_region_held_drew (S := fun w' => w'.cell? ⟨hb, 0, none⟩ = some (.int .i64 x) ∧ w'.cell? ⟨hb, 1, none⟩ = some (.int .i64 y) ∧ w'.cell? ⟨hb, 2, none⟩ = some (.int .i64 z)) (by kernel_rfl) ?_ (fun hHeld => ?_)
      · exact ⟨t0, t1, t2⟩
      refine wpAnyH_take (i := 0) (v := ?_) rfl (by kernel_rfl) (by kernel_rfl) (by kernel_rfl) (fun _ _ _ h => h) (Or.inl ⟨by rfl, ?_⟩) (by assumption) ?_
      rotate_left
      · (intro w hSw; (try dsimp only at hSw); go_simp; (try with_reducible rfl))
      try simp only [Act.put, List.setIfInBounds_toArray, List.set_cons_zero, List.set_cons_succ, List.getElem_toArray, List.getElem_cons_zero, List.getElem_cons_succ]
      refine wpAnyH_take (i := 1) (v := ?_) rfl (by kernel_rfl) (by kernel_rfl) (by kernel_rfl) (fun _ _ _ h => h) (Or.inl ⟨by rfl, ?_⟩) (by assumption) ?_
      rotate_left
      · (intro w hSw; (try dsimp only at hSw); go_simp; (try with_reducible rfl))
      try simp only [Act.put, List.setIfInBounds_toArray, List.set_cons_zero, List.set_cons_succ, List.getElem_toArray, List.getElem_cons_zero, List.getElem_cons_succ]
      refine wpAnyH_take (i := 2) (v := ?_) rfl (by kernel_rfl) (by kernel_rfl) (by kernel_rfl) (fun _ _ _ h => h) (Or.inl ⟨by rfl, ?_⟩) (by assumption) ?_
      rotate_left
      · (intro w hSw; (try dsimp only at hSw); go_simp; (try with_reducible rfl))
      try simp only [Act.put, List.setIfInBounds_toArray, List.set_cons_zero, List.set_cons_succ, List.getElem_toArray, List.getElem_cons_zero, List.getElem_cons_succ]
      refine wpAnyH_take (i := 4) (v := ?_) rfl (by kernel_rfl) (by kernel_rfl) (by kernel_rfl) (fun _ _ _ h => h) (Or.inl ⟨by rfl, ?_⟩) (by assumption) ?_
      rotate_left
      · (intro w hSw; (try dsimp only at hSw); go_simp; (try with_reducible rfl))
      try simp only [Act.put, List.setIfInBounds_toArray, List.set_cons_zero, List.set_cons_succ, List.getElem_toArray, List.getElem_cons_zero, List.getElem_cons_succ]
      refine wpAnyH_take (i := 5) (v := ?_) rfl (by kernel_rfl) (by kernel_rfl) (by kernel_rfl) (fun _ _ _ h => h) (Or.inl ⟨by rfl, ?_⟩) (by assumption) ?_
      rotate_left
      · (intro w hSw; (try dsimp only at hSw); go_simp; (try with_reducible rfl))
      try simp only [Act.put, List.setIfInBounds_toArray, List.set_cons_zero, List.set_cons_succ, List.getElem_toArray, List.getElem_cons_zero, List.getElem_cons_succ]
      have H8 : Blk wr.drew hb 39 #[.int .i64 x, .int .i64 y, .int .i64 z] := H7
      have D8 := D7.below ((Below.refl _ _).drew)
      have R8 : Blk wr.drew w.heap.size 39 _ := R7
      have h8 := h7.drew
      have G8 := gb_drew G7
      have l8 := h8.lt
      clear H7 D7 R7 h7 G7 t0 t1 t2
      refine wpAnyH_ready (rs := [3, 12]) (by kernel_rfl) (by simp) ?_
      refine AllReadyH.cons rfl (fun K hK => ?_) (AllReadyH.cons rfl (fun K hK => ?_) AllReadyH.nil)
      · go_simp
        refine (pick_c h8 (by omega)).mono ?_
        rintro e w10 ⟨u1, rfl, hu1, hu1', h10, q10⟩
        have G10 := gb_trans G8 q10
        have R10 := R8.grown q10 (by intro e; injection e with e; omega)
        have H10 := H8.grown q10 (by intro e; injection e with e; omega)
        have D10 := D8.pick q10 (by omega)
        clear G8 D8 q10 h8 R8 H8
        obtain ⟨u, rfl⟩ := Int.eq_ofNat_of_zero_le hu1
        have hu : u ≤ 2 := by omega
        clear hu1 hu1'
        go_wp2_with fail
        refine hK.out _ _ ?_ (fun hHeld => ?_)
        · exact ⟨H10.cell 0, H10.cell 1, H10.cell 2⟩
        clear hK K
        try simp only [Act.put, List.setIfInBounds_toArray, List.set_cons_zero, List.set_cons_succ, List.getElem_toArray, List.getElem_cons_zero, List.getElem_cons_succ]
        refine wpAnyH_ready (rs := [6, 12]) (by kernel_rfl) (by simp) ?_
        refine AllReadyH.cons rfl (fun K hK => ?_) (AllReadyH.cons rfl (fun K hK => ?_) AllReadyH.nil)
        · go_simp
          refine (l20Full_c h10 (by omega)).mono ?_
          rintro e w11 ⟨fx, fy, fz, rfl, hfx, hfy, hfz, h11, q11⟩
          have G11 := gb_trans G10 q11
          have R11 := R10.grown q11 (by intro e; injection e with e; omega)
          have H11 := H10.grown q11 (by intro e; injection e with e; omega)
          have D11 := D10.pick q11 (by omega)
          clear G10 D10 q11 h10 R10 H10
          go_wp2_with fail
          refine hK.out _ _ ?_ (fun hHeld => ?_)
          · exact ⟨H11.cell 0, H11.cell 1, H11.cell 2⟩
          clear hK K
          try simp only [Act.put, List.setIfInBounds_toArray, List.set_cons_zero, List.set_cons_succ, List.getElem_toArray, List.getElem_cons_zero, List.getElem_cons_succ]
          refine wpAnyH_ready (rs := [7, 12]) (by kernel_rfl) (by simp) ?_
          refine AllReadyH.cons rfl (fun K hK => ?_) (AllReadyH.cons rfl (fun K hK => ?_) AllReadyH.nil)
          · go_simp
            have hrd := D11.rd
            have HPK := Lib.hid (full_ok (s := 1 + (m : Int)) hfx hfy hfz (by omega))
            refine (appendPage_spec (h := ⟨x, y, z⟩) (p := ⟨true, fx, fy, fz, 1 + (m : Int)⟩) hrd (Nat.le_refl _) HOK.out hu).mono ?_
            rintro e w12 ⟨A9, c9, rfl, o9, b9⟩
            have HOK9 := Lib.hid (appendF_ok (h := ⟨x, y, z⟩) HOK.out hu HPK.out rfl)
            generalize appendF bs ⟨x, y, z⟩ u ⟨true, fx, fy, fz, 1 + (m : Int)⟩ = RR at *
            obtain ⟨bs9, ⟨x9, y9, z9⟩, at9⟩ := RR
            simp only at o9 HOK9 ⊢
            have s9 := b9.size
            have h12 := h11.grown (gb_of_below b9 none) (fun k e => by cases e)
            have G12 := gb_step (row := none) G11 (gb_of_below b9 none) (fun k e => by cases e)
            have R12 := R11.below b9 R11.lt
            have H12 := H11.below b9 H11.lt
            have D12 := o9.lower (base' := w.heap.size) G11.size
            clear h11 G11 R11 H11 D11 o9 b9 hrd
            go_wp2_with fail
            refine hK.out _ _ ?_ (fun hHeld => ?_)
            · exact ⟨H12.cell 0, H12.cell 1, H12.cell 2⟩
            clear hK K
            try simp only [Act.put, List.setIfInBounds_toArray, List.set_cons_zero, List.set_cons_succ, List.getElem_toArray, List.getElem_cons_zero, List.getElem_cons_succ]
            refine wpAnyH_take (i := 8) (v := ?_) rfl (by kernel_rfl) (by kernel_rfl) (by kernel_rfl) (fun _ _ _ h => h) (Or.inl ⟨by rfl, ?_⟩) (by assumption) ?_
            rotate_left
            · (intro w hSw; (try dsimp only at hSw); go_simp; (try with_reducible rfl))
            try simp only [Act.put, List.setIfInBounds_toArray, List.set_cons_zero, List.set_cons_succ, List.getElem_toArray, List.getElem_cons_zero, List.getElem_cons_succ]
            refine wpAnyH_take (i := 9) (v := ?_) rfl (by kernel_rfl) (by kernel_rfl) (by kernel_rfl) (fun _ _ _ h => h) (Or.inl ⟨by rfl, ?_⟩) (by assumption) ?_
            rotate_left
            · (intro w hSw; (try dsimp only at hSw); go_simp; (try with_reducible rfl))
            try simp only [Act.put, List.setIfInBounds_toArray, List.set_cons_zero, List.set_cons_succ, List.getElem_toArray, List.getElem_cons_zero, List.getElem_cons_succ]
            refine wpAnyH_take (i := 10) (v := ?_) rfl (by kernel_rfl) (by kernel_rfl) (by kernel_rfl) (fun _ _ _ h => h) (Or.inl ⟨by rfl, ?_⟩) (by assumption) ?_
            rotate_left
            · (intro w hSw; (try dsimp only at hSw); go_simp; (try with_reducible rfl))
            try simp only [Act.put, List.setIfInBounds_toArray, List.set_cons_zero, List.set_cons_succ, List.getElem_toArray, List.getElem_cons_zero, List.getElem_cons_succ]
            refine wpAnyH_take (i := 11) (v := ?_) rfl (by kernel_rfl) (by kernel_rfl) (by kernel_rfl) (fun _ _ _ h => h) (Or.inl ⟨by rfl, ?_⟩) (by assumption) ?_
            rotate_left
            · (intro w hSw; (try dsimp only at hSw); go_simp; (try with_reducible rfl))
            try simp only [Act.put, List.setIfInBounds_toArray, List.set_cons_zero, List.set_cons_succ, List.getElem_toArray, List.getElem_cons_zero, List.getElem_cons_succ]
            refine wpAnyH_ready (rs := [12]) (by kernel_rfl) (by simp) ?_
            refine AllReadyH.cons rfl (fun K hK => ?_) AllReadyH.nil
            go_simp
            have Z13 : Blk (w12.alloc (.cells #[.int .i64 0, .int .i64 0, .int .i64 0] 39)) (w12.heap.size) 39 #[.int .i64 0, .int .i64 0, .int .i64 0] := Blk.new (w12) 39 #[.int .i64 0, .int .i64 0, .int .i64 0]
            have h13 : Rdr (w12.alloc (.cells #[.int .i64 0, .int .i64 0, .int .i64 0] 39)) B g _ := h12.alloc (.cells #[.int .i64 0, .int .i64 0, .int .i64 0] 39)
            have G13 : w.grownBy (w12.alloc (.cells #[.int .i64 0, .int .i64 0, .int .i64 0] 39)) (some g) := gb_alloc G12 (.cells #[.int .i64 0, .int .i64 0, .int .i64 0] 39)
            have R13 : Blk (w12.alloc (.cells #[.int .i64 0, .int .i64 0, .int .i64 0] 39)) w.heap.size 39 _ := R12.alloc (.cells #[.int .i64 0, .int .i64 0, .int .i64 0] 39)
            have H13 : Blk (w12.alloc (.cells #[.int .i64 0, .int .i64 0, .int .i64 0] 39)) hb 39 _ := H12.alloc (.cells #[.int .i64 0, .int .i64 0, .int .i64 0] 39)
            have D13 : OwB (w12.alloc (.cells #[.int .i64 0, .int .i64 0, .int .i64 0] 39)) w.heap.size _ _ _ _ := D12.below ((Below.refl (w12).heap.size _).alloc (Nat.le_refl _) (.cells #[.int .i64 0, .int .i64 0, .int .i64 0] 39))
            have zl : w.heap.size ≤ w12.heap.size := G12.size
            have zg : B ≤ g ∧ g < w12.heap.size := h12.lt
            have zk : hb < w12.heap.size := H12.lt
            have zr : w.heap.size < w12.heap.size := R12.lt
            clear h12 G12 R12 H12 D12
            generalize w12.alloc (.cells #[.int .i64 0, .int .i64 0, .int .i64 0] 39) = w13 at *
            generalize hzb : w12.heap.size = zb at *
            refine hK.out _ _ ?_ (fun hHeld => ?_)
            · exact ⟨H13.cell 0, H13.cell 1, H13.cell 2⟩
            clear hK K hzb
            try simp only [Act.put, List.setIfInBounds_toArray, List.set_cons_zero, List.set_cons_succ, List.getElem_toArray, List.getElem_cons_zero, List.getElem_cons_succ]
            have zl2 := Z13.lt
            have zg2 := h13.lt
            have z0 := Z13.frozen 0
            have z1 := Z13.frozen 1
            have z2 := Z13.frozen 2
            have y0 := Z13.cell 0
            have y1 := Z13.cell 1
            have y2 := Z13.cell 2
            simp at y0 y1 y2
            refine wpAnyH_take (i := 13) (v := ?_) rfl (by kernel_rfl) (by kernel_rfl) (by kernel_rfl) (fun _ _ _ h => h) (Or.inl ⟨by rfl, ?_⟩) (by assumption) ?_
            rotate_left
            · (intro w hSw; (try dsimp only at hSw); go_simp; (try with_reducible rfl))
            try simp only [Act.put, List.setIfInBounds_toArray, List.set_cons_zero, List.set_cons_succ, List.getElem_toArray, List.getElem_cons_zero, List.getElem_cons_succ]
            refine wpAnyH_ready (rs := [14]) (by kernel_rfl) (by simp) ?_
            refine AllReadyH.cons rfl (fun K hK => ?_) AllReadyH.nil
            go_simp
            have ZE := ((Z13.set_ 0 (.int .i64 x9)).set_ 1 (.int .i64 y9)).set_ 2 (.int .i64 z9)
            have HE := ((H13.far (p := ⟨zb, 0, none⟩) (by show hb ≠ zb; omega) (.int .i64 x9)).far (p := ⟨zb, 1, none⟩) (by show hb ≠ zb; omega) (.int .i64 y9)).far (p := ⟨zb, 2, none⟩) (by show hb ≠ zb; omega) (.int .i64 z9)
            have RE := ((R13.far (p := ⟨zb, 0, none⟩) (by show w.heap.size ≠ zb; omega) (.int .i64 x9)).far (p := ⟨zb, 1, none⟩) (by show w.heap.size ≠ zb; omega) (.int .i64 y9)).far (p := ⟨zb, 2, none⟩) (by show w.heap.size ≠ zb; omega) (.int .i64 z9)
            have DE := owB_set3 D13 Z13 (.int .i64 x9) (.int .i64 y9) (.int .i64 z9)
            have hE := rdr_set (rdr_set (rdr_set (h13) (g' := zb) (i := 0) (by omega) (by omega) (.int .i64 x9)) (g' := zb) (i := 1) (by omega) (by omega) (.int .i64 y9)) (g' := zb) (i := 2) (by omega) (by omega) (.int .i64 z9)
            have GE := gb_set (gb_set (gb_set (G13) (g' := zb) (i := 0) (by omega) (.int .i64 x9)) (g' := zb) (i := 1) (by omega) (.int .i64 y9)) (g' := zb) (i := 2) (by omega) (.int .i64 z9)
            clear Z13 H13 R13 D13 h13 G13 z0 z1 z2 y0 y1 y2
            refine hK.out _ _ ?_ (fun hHeld => ?_)
            · exact ⟨HE.cell 0, HE.cell 1, HE.cell 2⟩
            clear hK K
            try simp only [Act.put, List.setIfInBounds_toArray, List.set_cons_zero, List.set_cons_succ, List.getElem_toArray, List.getElem_cons_zero, List.getElem_cons_succ]
            generalize ((w13.setCell ⟨zb, 0, none⟩ (.int .i64 x9)).setCell ⟨zb, 1, none⟩ (.int .i64 y9)).setCell ⟨zb, 2, none⟩ (.int .i64 z9) = wE at *
            refine wpAnyH_take (i := 15) (v := ?_) rfl (by kernel_rfl) (by kernel_rfl) (by kernel_rfl) (fun _ _ _ h => h) (Or.inl ⟨by rfl, ?_⟩) (by assumption) ?_
            rotate_left
            · (intro w hSw; (try dsimp only at hSw); go_simp; (try with_reducible rfl))
            try simp only [Act.put, List.setIfInBounds_toArray, List.set_cons_zero, List.set_cons_succ, List.getElem_toArray, List.getElem_cons_zero, List.getElem_cons_succ]
            refine wpAnyH_done (by kernel_rfl) ?_ _
            clear hHeld
            have e0 := ZE.cell 0
            have e1 := ZE.cell 1
            have e2 := ZE.cell 2
            have f0 := HE.frozen 0
            have f1 := HE.frozen 1
            have f2 := HE.frozen 2
            have d0 := HE.cell 0
            have d1 := HE.cell 1
            have d2 := HE.cell 2
            simp at e0 e1 e2 d0 d1 d2
            have HF := ((HE.set_ 0 (.int .i64 x9)).set_ 1 (.int .i64 y9)).set_ 2 (.int .i64 z9)
            simp at HF
            have RF := ((RE.far (p := ⟨hb, 0, none⟩) (by show w.heap.size ≠ hb; omega) (.int .i64 x9)).far (p := ⟨hb, 1, none⟩) (by show w.heap.size ≠ hb; omega) (.int .i64 y9)).far (p := ⟨hb, 2, none⟩) (by show w.heap.size ≠ hb; omega) (.int .i64 z9)
            have DF := owB_set3 DE HE (.int .i64 x9) (.int .i64 y9) (.int .i64 z9)
            have hF := rdr_set (rdr_set (rdr_set (hE) (g' := hb) (i := 0) (by omega) (by omega) (.int .i64 x9)) (g' := hb) (i := 1) (by omega) (by omega) (.int .i64 y9)) (g' := hb) (i := 2) (by omega) (by omega) (.int .i64 z9)
            have GF := gb_set (gb_set (gb_set (GE) (g' := hb) (i := 0) (by omega) (.int .i64 x9)) (g' := hb) (i := 1) (by omega) (.int .i64 y9)) (g' := hb) (i := 2) (by omega) (.int .i64 z9)
            have HFF := Lib.hid (show j - 1 + (m + 1) ≤ 19 from by omega)
            have wm : IntKind.i64.wrap (1 + (m : Int) + 1) = 1 + ((m + 1 : Nat) : Int) := (IntWalk.i64_in _ (by omega)).trans (by omega)
            clear ZE HE RE DE hE GE
            go_wp2
            go_roundw
            case rel => exact ⟨j - 1, m + 1, bs9, ⟨x9, y9, z9⟩, A9, c9, by go_num, by first | rfl | (rw [wm]) | (simp; omega), HFF.out, rfl, DF, HOK9.out, HF, RF, hF.mono (by omega), GF⟩
            case measure => simp [intOf]; omega
          · go_simp
            have Z14 : Blk (w11.alloc (.cells #[.int .i64 0, .int .i64 0, .int .i64 0] 39)) (w11.heap.size) 39 #[.int .i64 0, .int .i64 0, .int .i64 0] := Blk.new (w11) 39 #[.int .i64 0, .int .i64 0, .int .i64 0]
            have h14 : Rdr (w11.alloc (.cells #[.int .i64 0, .int .i64 0, .int .i64 0] 39)) B g _ := h11.alloc (.cells #[.int .i64 0, .int .i64 0, .int .i64 0] 39)
            have G14 : w.grownBy (w11.alloc (.cells #[.int .i64 0, .int .i64 0, .int .i64 0] 39)) (some g) := gb_alloc G11 (.cells #[.int .i64 0, .int .i64 0, .int .i64 0] 39)
            have R14 : Blk (w11.alloc (.cells #[.int .i64 0, .int .i64 0, .int .i64 0] 39)) w.heap.size 39 _ := R11.alloc (.cells #[.int .i64 0, .int .i64 0, .int .i64 0] 39)
            have H14 : Blk (w11.alloc (.cells #[.int .i64 0, .int .i64 0, .int .i64 0] 39)) hb 39 _ := H11.alloc (.cells #[.int .i64 0, .int .i64 0, .int .i64 0] 39)
            have D14 : OwB (w11.alloc (.cells #[.int .i64 0, .int .i64 0, .int .i64 0] 39)) w.heap.size _ _ _ _ := D11.below ((Below.refl (w11).heap.size _).alloc (Nat.le_refl _) (.cells #[.int .i64 0, .int .i64 0, .int .i64 0] 39))
            have zl : w.heap.size ≤ w11.heap.size := G11.size
            have zg : B ≤ g ∧ g < w11.heap.size := h11.lt
            have zk : hb < w11.heap.size := H11.lt
            have zr : w.heap.size < w11.heap.size := R11.lt
            clear h11 G11 R11 H11 D11
            generalize w11.alloc (.cells #[.int .i64 0, .int .i64 0, .int .i64 0] 39) = w14 at *
            generalize hzb : w11.heap.size = zb at *
            refine hK.out _ _ ?_ (fun hHeld => ?_)
            · exact ⟨H14.cell 0, H14.cell 1, H14.cell 2⟩
            clear hK K hzb
            try simp only [Act.put, List.setIfInBounds_toArray, List.set_cons_zero, List.set_cons_succ, List.getElem_toArray, List.getElem_cons_zero, List.getElem_cons_succ]
            refine wpAnyH_ready (rs := [7]) (by kernel_rfl) (by simp) ?_
            refine AllReadyH.cons rfl (fun K hK => ?_) AllReadyH.nil
            go_simp
            have hrd := D14.rd
            have HPK := Lib.hid (full_ok (s := 1 + (m : Int)) hfx hfy hfz (by omega))
            refine (appendPage_spec (h := ⟨x, y, z⟩) (p := ⟨true, fx, fy, fz, 1 + (m : Int)⟩) hrd (Nat.le_refl _) HOK.out hu).mono ?_
            rintro e w15 ⟨A9, c9, rfl, o9, b9⟩
            have HOK9 := Lib.hid (appendF_ok (h := ⟨x, y, z⟩) HOK.out hu HPK.out rfl)
            generalize appendF bs ⟨x, y, z⟩ u ⟨true, fx, fy, fz, 1 + (m : Int)⟩ = RR at *
            obtain ⟨bs9, ⟨x9, y9, z9⟩, at9⟩ := RR
            simp only at o9 HOK9 ⊢
            have s9 := b9.size
            have h15 := h14.grown (gb_of_below b9 none) (fun k e => by cases e)
            have G15 := gb_step (row := none) G14 (gb_of_below b9 none) (fun k e => by cases e)
            have R15 := R14.below b9 R14.lt
            have H15 := H14.below b9 H14.lt
            have Z15 := Z14.below b9 Z14.lt
            have D15 := o9.lower (base' := w.heap.size) G14.size
            clear h14 G14 R14 H14 D14 o9 b9 hrd Z14
            go_wp2_with fail
            refine hK.out _ _ ?_ (fun hHeld => ?_)
            · exact ⟨H15.cell 0, H15.cell 1, H15.cell 2⟩
            clear hK K
            try simp only [Act.put, List.setIfInBounds_toArray, List.set_cons_zero, List.set_cons_succ, List.getElem_toArray, List.getElem_cons_zero, List.getElem_cons_succ]
            refine wpAnyH_take (i := 8) (v := ?_) rfl (by kernel_rfl) (by kernel_rfl) (by kernel_rfl) (fun _ _ _ h => h) (Or.inl ⟨by rfl, ?_⟩) (by assumption) ?_
            rotate_left
            · (intro w hSw; (try dsimp only at hSw); go_simp; (try with_reducible rfl))
            try simp only [Act.put, List.setIfInBounds_toArray, List.set_cons_zero, List.set_cons_succ, List.getElem_toArray, List.getElem_cons_zero, List.getElem_cons_succ]
            refine wpAnyH_take (i := 9) (v := ?_) rfl (by kernel_rfl) (by kernel_rfl) (by kernel_rfl) (fun _ _ _ h => h) (Or.inl ⟨by rfl, ?_⟩) (by assumption) ?_
            rotate_left
            · (intro w hSw; (try dsimp only at hSw); go_simp; (try with_reducible rfl))
            try simp only [Act.put, List.setIfInBounds_toArray, List.set_cons_zero, List.set_cons_succ, List.getElem_toArray, List.getElem_cons_zero, List.getElem_cons_succ]
            refine wpAnyH_take (i := 10) (v := ?_) rfl (by kernel_rfl) (by kernel_rfl) (by kernel_rfl) (fun _ _ _ h => h) (Or.inl ⟨by rfl, ?_⟩) (by assumption) ?_
            rotate_left
            · (intro w hSw; (try dsimp only at hSw); go_simp; (try with_reducible rfl))
            try simp only [Act.put, List.setIfInBounds_toArray, List.set_cons_zero, List.set_cons_succ, List.getElem_toArray, List.getElem_cons_zero, List.getElem_cons_succ]
            refine wpAnyH_take (i := 11) (v := ?_) rfl (by kernel_rfl) (by kernel_rfl) (by kernel_rfl) (fun _ _ _ h => h) (Or.inl ⟨by rfl, ?_⟩) (by assumption) ?_
            rotate_left
            · (intro w hSw; (try dsimp only at hSw); go_simp; (try with_reducible rfl))
            try simp only [Act.put, List.setIfInBounds_toArray, List.set_cons_zero, List.set_cons_succ, List.getElem_toArray, List.getElem_cons_zero, List.getElem_cons_succ]
            have zl2 := Z15.lt
            have zg2 := h15.lt
            have z0 := Z15.frozen 0
            have z1 := Z15.frozen 1
            have z2 := Z15.frozen 2
            have y0 := Z15.cell 0
            have y1 := Z15.cell 1
            have y2 := Z15.cell 2
            simp at y0 y1 y2
            refine wpAnyH_take (i := 13) (v := ?_) rfl (by kernel_rfl) (by kernel_rfl) (by kernel_rfl) (fun _ _ _ h => h) (Or.inl ⟨by rfl, ?_⟩) (by assumption) ?_
            rotate_left
            · (intro w hSw; (try dsimp only at hSw); go_simp; (try with_reducible rfl))
            try simp only [Act.put, List.setIfInBounds_toArray, List.set_cons_zero, List.set_cons_succ, List.getElem_toArray, List.getElem_cons_zero, List.getElem_cons_succ]
            refine wpAnyH_ready (rs := [14]) (by kernel_rfl) (by simp) ?_
            refine AllReadyH.cons rfl (fun K hK => ?_) AllReadyH.nil
            go_simp
            have ZE := ((Z15.set_ 0 (.int .i64 x9)).set_ 1 (.int .i64 y9)).set_ 2 (.int .i64 z9)
            have HE := ((H15.far (p := ⟨zb, 0, none⟩) (by show hb ≠ zb; omega) (.int .i64 x9)).far (p := ⟨zb, 1, none⟩) (by show hb ≠ zb; omega) (.int .i64 y9)).far (p := ⟨zb, 2, none⟩) (by show hb ≠ zb; omega) (.int .i64 z9)
            have RE := ((R15.far (p := ⟨zb, 0, none⟩) (by show w.heap.size ≠ zb; omega) (.int .i64 x9)).far (p := ⟨zb, 1, none⟩) (by show w.heap.size ≠ zb; omega) (.int .i64 y9)).far (p := ⟨zb, 2, none⟩) (by show w.heap.size ≠ zb; omega) (.int .i64 z9)
            have DE := owB_set3 D15 Z15 (.int .i64 x9) (.int .i64 y9) (.int .i64 z9)
            have hE := rdr_set (rdr_set (rdr_set (h15) (g' := zb) (i := 0) (by omega) (by omega) (.int .i64 x9)) (g' := zb) (i := 1) (by omega) (by omega) (.int .i64 y9)) (g' := zb) (i := 2) (by omega) (by omega) (.int .i64 z9)
            have GE := gb_set (gb_set (gb_set (G15) (g' := zb) (i := 0) (by omega) (.int .i64 x9)) (g' := zb) (i := 1) (by omega) (.int .i64 y9)) (g' := zb) (i := 2) (by omega) (.int .i64 z9)
            clear Z15 H15 R15 D15 h15 G15 z0 z1 z2 y0 y1 y2
            refine hK.out _ _ ?_ (fun hHeld => ?_)
            · exact ⟨HE.cell 0, HE.cell 1, HE.cell 2⟩
            clear hK K
            try simp only [Act.put, List.setIfInBounds_toArray, List.set_cons_zero, List.set_cons_succ, List.getElem_toArray, List.getElem_cons_zero, List.getElem_cons_succ]
            generalize ((w15.setCell ⟨zb, 0, none⟩ (.int .i64 x9)).setCell ⟨zb, 1, none⟩ (.int .i64 y9)).setCell ⟨zb, 2, none⟩ (.int .i64 z9) = wE at *
            refine wpAnyH_take (i := 15) (v := ?_) rfl (by kernel_rfl) (by kernel_rfl) (by kernel_rfl) (fun _ _ _ h => h) (Or.inl ⟨by rfl, ?_⟩) (by assumption) ?_
            rotate_left
            · (intro w hSw; (try dsimp only at hSw); go_simp; (try with_reducible rfl))
            try simp only [Act.put, List.setIfInBounds_toArray, List.set_cons_zero, List.set_cons_succ, List.getElem_toArray, List.getElem_cons_zero, List.getElem_cons_succ]
            refine wpAnyH_done (by kernel_rfl) ?_ _
            clear hHeld
            have e0 := ZE.cell 0
            have e1 := ZE.cell 1
            have e2 := ZE.cell 2
            have f0 := HE.frozen 0
            have f1 := HE.frozen 1
            have f2 := HE.frozen 2
            have d0 := HE.cell 0
            have d1 := HE.cell 1
            have d2 := HE.cell 2
            simp at e0 e1 e2 d0 d1 d2
            have HF := ((HE.set_ 0 (.int .i64 x9)).set_ 1 (.int .i64 y9)).set_ 2 (.int .i64 z9)
            simp at HF
            have RF := ((RE.far (p := ⟨hb, 0, none⟩) (by show w.heap.size ≠ hb; omega) (.int .i64 x9)).far (p := ⟨hb, 1, none⟩) (by show w.heap.size ≠ hb; omega) (.int .i64 y9)).far (p := ⟨hb, 2, none⟩) (by show w.heap.size ≠ hb; omega) (.int .i64 z9)
            have DF := owB_set3 DE HE (.int .i64 x9) (.int .i64 y9) (.int .i64 z9)
            have hF := rdr_set (rdr_set (rdr_set (hE) (g' := hb) (i := 0) (by omega) (by omega) (.int .i64 x9)) (g' := hb) (i := 1) (by omega) (by omega) (.int .i64 y9)) (g' := hb) (i := 2) (by omega) (by omega) (.int .i64 z9)
            have GF := gb_set (gb_set (gb_set (GE) (g' := hb) (i := 0) (by omega) (.int .i64 x9)) (g' := hb) (i := 1) (by omega) (.int .i64 y9)) (g' := hb) (i := 2) (by omega) (.int .i64 z9)
            have HFF := Lib.hid (show j - 1 + (m + 1) ≤ 19 from by omega)
            have wm : IntKind.i64.wrap (1 + (m : Int) + 1) = 1 + ((m + 1 : Nat) : Int) := (IntWalk.i64_in _ (by omega)).trans (by omega)
            clear ZE HE RE DE hE GE
            go_wp2
            go_roundw
            case rel => exact ⟨j - 1, m + 1, bs9, ⟨x9, y9, z9⟩, A9, c9, by go_num, by first | rfl | (rw [wm]) | (simp; omega), HFF.out, rfl, DF, HOK9.out, HF, RF, hF.mono (by omega), GF⟩
            case measure => simp [intOf]; omega
        · go_simp
          have Z16 : Blk (w10.alloc (.cells #[.int .i64 0, .int .i64 0, .int .i64 0] 39)) (w10.heap.size) 39 #[.int .i64 0, .int .i64 0, .int .i64 0] := Blk.new (w10) 39 #[.int .i64 0, .int .i64 0, .int .i64 0]
          have h16 : Rdr (w10.alloc (.cells #[.int .i64 0, .int .i64 0, .int .i64 0] 39)) B g _ := h10.alloc (.cells #[.int .i64 0, .int .i64 0, .int .i64 0] 39)
          have G16 : w.grownBy (w10.alloc (.cells #[.int .i64 0, .int .i64 0, .int .i64 0] 39)) (some g) := gb_alloc G10 (.cells #[.int .i64 0, .int .i64 0, .int .i64 0] 39)
          have R16 : Blk (w10.alloc (.cells #[.int .i64 0, .int .i64 0, .int .i64 0] 39)) w.heap.size 39 _ := R10.alloc (.cells #[.int .i64 0, .int .i64 0, .int .i64 0] 39)
          have H16 : Blk (w10.alloc (.cells #[.int .i64 0, .int .i64 0, .int .i64 0] 39)) hb 39 _ := H10.alloc (.cells #[.int .i64 0, .int .i64 0, .int .i64 0] 39)
          have D16 : OwB (w10.alloc (.cells #[.int .i64 0, .int .i64 0, .int .i64 0] 39)) w.heap.size _ _ _ _ := D10.below ((Below.refl (w10).heap.size _).alloc (Nat.le_refl _) (.cells #[.int .i64 0, .int .i64 0, .int .i64 0] 39))
          have zl : w.heap.size ≤ w10.heap.size := G10.size
          have zg : B ≤ g ∧ g < w10.heap.size := h10.lt
          have zk : hb < w10.heap.size := H10.lt
          have zr : w.heap.size < w10.heap.size := R10.lt
          clear h10 G10 R10 H10 D10
          generalize w10.alloc (.cells #[.int .i64 0, .int .i64 0, .int .i64 0] 39) = w16 at *
          generalize hzb : w10.heap.size = zb at *
          refine hK.out _ _ ?_ (fun hHeld => ?_)
          · exact ⟨H16.cell 0, H16.cell 1, H16.cell 2⟩
          clear hK K hzb
          try simp only [Act.put, List.setIfInBounds_toArray, List.set_cons_zero, List.set_cons_succ, List.getElem_toArray, List.getElem_cons_zero, List.getElem_cons_succ]
          refine wpAnyH_ready (rs := [6]) (by kernel_rfl) (by simp) ?_
          refine AllReadyH.cons rfl (fun K hK => ?_) AllReadyH.nil
          go_simp
          refine (l20Full_c h16 (by omega)).mono ?_
          rintro e w17 ⟨fx, fy, fz, rfl, hfx, hfy, hfz, h17, q17⟩
          have G17 := gb_trans G16 q17
          have R17 := R16.grown q17 (by intro e; injection e with e; omega)
          have H17 := H16.grown q17 (by intro e; injection e with e; omega)
          have Z17 := Z16.grown q17 (by intro e; injection e with e; omega)
          have D17 := D16.pick q17 (by omega)
          clear G16 D16 q17 h16 R16 H16 Z16
          go_wp2_with fail
          refine hK.out _ _ ?_ (fun hHeld => ?_)
          · exact ⟨H17.cell 0, H17.cell 1, H17.cell 2⟩
          clear hK K
          try simp only [Act.put, List.setIfInBounds_toArray, List.set_cons_zero, List.set_cons_succ, List.getElem_toArray, List.getElem_cons_zero, List.getElem_cons_succ]
          refine wpAnyH_ready (rs := [7]) (by kernel_rfl) (by simp) ?_
          refine AllReadyH.cons rfl (fun K hK => ?_) AllReadyH.nil
          go_simp
          have hrd := D17.rd
          have HPK := Lib.hid (full_ok (s := 1 + (m : Int)) hfx hfy hfz (by omega))
          refine (appendPage_spec (h := ⟨x, y, z⟩) (p := ⟨true, fx, fy, fz, 1 + (m : Int)⟩) hrd (Nat.le_refl _) HOK.out hu).mono ?_
          rintro e w18 ⟨A9, c9, rfl, o9, b9⟩
          have HOK9 := Lib.hid (appendF_ok (h := ⟨x, y, z⟩) HOK.out hu HPK.out rfl)
          generalize appendF bs ⟨x, y, z⟩ u ⟨true, fx, fy, fz, 1 + (m : Int)⟩ = RR at *
          obtain ⟨bs9, ⟨x9, y9, z9⟩, at9⟩ := RR
          simp only at o9 HOK9 ⊢
          have s9 := b9.size
          have h18 := h17.grown (gb_of_below b9 none) (fun k e => by cases e)
          have G18 := gb_step (row := none) G17 (gb_of_below b9 none) (fun k e => by cases e)
          have R18 := R17.below b9 R17.lt
          have H18 := H17.below b9 H17.lt
          have Z18 := Z17.below b9 Z17.lt
          have D18 := o9.lower (base' := w.heap.size) G17.size
          clear h17 G17 R17 H17 D17 o9 b9 hrd Z17
          go_wp2_with fail
          refine hK.out _ _ ?_ (fun hHeld => ?_)
          · exact ⟨H18.cell 0, H18.cell 1, H18.cell 2⟩
          clear hK K
          try simp only [Act.put, List.setIfInBounds_toArray, List.set_cons_zero, List.set_cons_succ, List.getElem_toArray, List.getElem_cons_zero, List.getElem_cons_succ]
          refine wpAnyH_take (i := 8) (v := ?_) rfl (by kernel_rfl) (by kernel_rfl) (by kernel_rfl) (fun _ _ _ h => h) (Or.inl ⟨by rfl, ?_⟩) (by assumption) ?_
          rotate_left
          · (intro w hSw; (try dsimp only at hSw); go_simp; (try with_reducible rfl))
          try simp only [Act.put, List.setIfInBounds_toArray, List.set_cons_zero, List.set_cons_succ, List.getElem_toArray, List.getElem_cons_zero, List.getElem_cons_succ]
          refine wpAnyH_take (i := 9) (v := ?_) rfl (by kernel_rfl) (by kernel_rfl) (by kernel_rfl) (fun _ _ _ h => h) (Or.inl ⟨by rfl, ?_⟩) (by assumption) ?_
          rotate_left
          · (intro w hSw; (try dsimp only at hSw); go_simp; (try with_reducible rfl))
          try simp only [Act.put, List.setIfInBounds_toArray, List.set_cons_zero, List.set_cons_succ, List.getElem_toArray, List.getElem_cons_zero, List.getElem_cons_succ]
          refine wpAnyH_take (i := 10) (v := ?_) rfl (by kernel_rfl) (by kernel_rfl) (by kernel_rfl) (fun _ _ _ h => h) (Or.inl ⟨by rfl, ?_⟩) (by assumption) ?_
          rotate_left
          · (intro w hSw; (try dsimp only at hSw); go_simp; (try with_reducible rfl))
          try simp only [Act.put, List.setIfInBounds_toArray, List.set_cons_zero, List.set_cons_succ, List.getElem_toArray, List.getElem_cons_zero, List.getElem_cons_succ]
          refine wpAnyH_take (i := 11) (v := ?_) rfl (by kernel_rfl) (by kernel_rfl) (by kernel_rfl) (fun _ _ _ h => h) (Or.inl ⟨by rfl, ?_⟩) (by assumption) ?_
          rotate_left
          · (intro w hSw; (try dsimp only at hSw); go_simp; (try with_reducible rfl))
          try simp only [Act.put, List.setIfInBounds_toArray, List.set_cons_zero, List.set_cons_succ, List.getElem_toArray, List.getElem_cons_zero, List.getElem_cons_succ]
          have zl2 := Z18.lt
          have zg2 := h18.lt
          have z0 := Z18.frozen 0
          have z1 := Z18.frozen 1
          have z2 := Z18.frozen 2
          have y0 := Z18.cell 0
          have y1 := Z18.cell 1
          have y2 := Z18.cell 2
          simp at y0 y1 y2
          refine wpAnyH_take (i := 13) (v := ?_) rfl (by kernel_rfl) (by kernel_rfl) (by kernel_rfl) (fun _ _ _ h => h) (Or.inl ⟨by rfl, ?_⟩) (by assumption) ?_
          rotate_left
          · (intro w hSw; (try dsimp only at hSw); go_simp; (try with_reducible rfl))
          try simp only [Act.put, List.setIfInBounds_toArray, List.set_cons_zero, List.set_cons_succ, List.getElem_toArray, List.getElem_cons_zero, List.getElem_cons_succ]
          refine wpAnyH_ready (rs := [14]) (by kernel_rfl) (by simp) ?_
          refine AllReadyH.cons rfl (fun K hK => ?_) AllReadyH.nil
          go_simp
          have ZE := ((Z18.set_ 0 (.int .i64 x9)).set_ 1 (.int .i64 y9)).set_ 2 (.int .i64 z9)
          have HE := ((H18.far (p := ⟨zb, 0, none⟩) (by show hb ≠ zb; omega) (.int .i64 x9)).far (p := ⟨zb, 1, none⟩) (by show hb ≠ zb; omega) (.int .i64 y9)).far (p := ⟨zb, 2, none⟩) (by show hb ≠ zb; omega) (.int .i64 z9)
          have RE := ((R18.far (p := ⟨zb, 0, none⟩) (by show w.heap.size ≠ zb; omega) (.int .i64 x9)).far (p := ⟨zb, 1, none⟩) (by show w.heap.size ≠ zb; omega) (.int .i64 y9)).far (p := ⟨zb, 2, none⟩) (by show w.heap.size ≠ zb; omega) (.int .i64 z9)
          have DE := owB_set3 D18 Z18 (.int .i64 x9) (.int .i64 y9) (.int .i64 z9)
          have hE := rdr_set (rdr_set (rdr_set (h18) (g' := zb) (i := 0) (by omega) (by omega) (.int .i64 x9)) (g' := zb) (i := 1) (by omega) (by omega) (.int .i64 y9)) (g' := zb) (i := 2) (by omega) (by omega) (.int .i64 z9)
          have GE := gb_set (gb_set (gb_set (G18) (g' := zb) (i := 0) (by omega) (.int .i64 x9)) (g' := zb) (i := 1) (by omega) (.int .i64 y9)) (g' := zb) (i := 2) (by omega) (.int .i64 z9)
          clear Z18 H18 R18 D18 h18 G18 z0 z1 z2 y0 y1 y2
          refine hK.out _ _ ?_ (fun hHeld => ?_)
          · exact ⟨HE.cell 0, HE.cell 1, HE.cell 2⟩
          clear hK K
          try simp only [Act.put, List.setIfInBounds_toArray, List.set_cons_zero, List.set_cons_succ, List.getElem_toArray, List.getElem_cons_zero, List.getElem_cons_succ]
          generalize ((w18.setCell ⟨zb, 0, none⟩ (.int .i64 x9)).setCell ⟨zb, 1, none⟩ (.int .i64 y9)).setCell ⟨zb, 2, none⟩ (.int .i64 z9) = wE at *
          refine wpAnyH_take (i := 15) (v := ?_) rfl (by kernel_rfl) (by kernel_rfl) (by kernel_rfl) (fun _ _ _ h => h) (Or.inl ⟨by rfl, ?_⟩) (by assumption) ?_
          rotate_left
          · (intro w hSw; (try dsimp only at hSw); go_simp; (try with_reducible rfl))
          try simp only [Act.put, List.setIfInBounds_toArray, List.set_cons_zero, List.set_cons_succ, List.getElem_toArray, List.getElem_cons_zero, List.getElem_cons_succ]
          refine wpAnyH_done (by kernel_rfl) ?_ _
          clear hHeld
          have e0 := ZE.cell 0
          have e1 := ZE.cell 1
          have e2 := ZE.cell 2
          have f0 := HE.frozen 0
          have f1 := HE.frozen 1
          have f2 := HE.frozen 2
          have d0 := HE.cell 0
          have d1 := HE.cell 1
          have d2 := HE.cell 2
          simp at e0 e1 e2 d0 d1 d2
          have HF := ((HE.set_ 0 (.int .i64 x9)).set_ 1 (.int .i64 y9)).set_ 2 (.int .i64 z9)
          simp at HF
          have RF := ((RE.far (p := ⟨hb, 0, none⟩) (by show w.heap.size ≠ hb; omega) (.int .i64 x9)).far (p := ⟨hb, 1, none⟩) (by show w.heap.size ≠ hb; omega) (.int .i64 y9)).far (p := ⟨hb, 2, none⟩) (by show w.heap.size ≠ hb; omega) (.int .i64 z9)
          have DF := owB_set3 DE HE (.int .i64 x9) (.int .i64 y9) (.int .i64 z9)
          have hF := rdr_set (rdr_set (rdr_set (hE) (g' := hb) (i := 0) (by omega) (by omega) (.int .i64 x9)) (g' := hb) (i := 1) (by omega) (by omega) (.int .i64 y9)) (g' := hb) (i := 2) (by omega) (by omega) (.int .i64 z9)
          have GF := gb_set (gb_set (gb_set (GE) (g' := hb) (i := 0) (by omega) (.int .i64 x9)) (g' := hb) (i := 1) (by omega) (.int .i64 y9)) (g' := hb) (i := 2) (by omega) (.int .i64 z9)
          have HFF := Lib.hid (show j - 1 + (m + 1) ≤ 19 from by omega)
          have wm : IntKind.i64.wrap (1 + (m : Int) + 1) = 1 + ((m + 1 : Nat) : Int) := (IntWalk.i64_in _ (by omega)).trans (by omega)
          clear ZE HE RE DE hE GE
          go_wp2
          go_roundw
          case rel => exact ⟨j - 1, m + 1, bs9, ⟨x9, y9, z9⟩, A9, c9, by go_num, by first | rfl | (rw [wm]) | (simp; omega), HFF.out, rfl, DF, HOK9.out, HF, RF, hF.mono (by omega), GF⟩
          case measure => simp [intOf]; omega
      · go_simp
        have Z19 : Blk ((wr.alloc (.cells #[.int .i64 0, .int .i64 0, .int .i64 0] 39)).drew) (wr.heap.size) 39 #[.int .i64 0, .int .i64 0, .int .i64 0] := Blk.new (wr.drew) 39 #[.int .i64 0, .int .i64 0, .int .i64 0]
        have h19 : Rdr ((wr.alloc (.cells #[.int .i64 0, .int .i64 0, .int .i64 0] 39)).drew) B g _ := h8.alloc (.cells #[.int .i64 0, .int .i64 0, .int .i64 0] 39)
        have G19 : w.grownBy ((wr.alloc (.cells #[.int .i64 0, .int .i64 0, .int .i64 0] 39)).drew) (some g) := gb_alloc G8 (.cells #[.int .i64 0, .int .i64 0, .int .i64 0] 39)
        have R19 : Blk ((wr.alloc (.cells #[.int .i64 0, .int .i64 0, .int .i64 0] 39)).drew) w.heap.size 39 _ := R8.alloc (.cells #[.int .i64 0, .int .i64 0, .int .i64 0] 39)
        have H19 : Blk ((wr.alloc (.cells #[.int .i64 0, .int .i64 0, .int .i64 0] 39)).drew) hb 39 _ := H8.alloc (.cells #[.int .i64 0, .int .i64 0, .int .i64 0] 39)
        have D19 : OwB ((wr.alloc (.cells #[.int .i64 0, .int .i64 0, .int .i64 0] 39)).drew) w.heap.size _ _ _ _ := D8.below ((Below.refl (wr.drew).heap.size _).alloc (Nat.le_refl _) (.cells #[.int .i64 0, .int .i64 0, .int .i64 0] 39))
        have zl : w.heap.size ≤ wr.heap.size := G8.size
        have zg : B ≤ g ∧ g < wr.heap.size := h8.lt
        have zk : hb < wr.heap.size := H8.lt
        have zr : w.heap.size < wr.heap.size := R8.lt
        clear h8 G8 R8 H8 D8
        generalize (wr.alloc (.cells #[.int .i64 0, .int .i64 0, .int .i64 0] 39)).drew = w19 at *
        generalize hzb : wr.heap.size = zb at *
        refine hK.out _ _ ?_ (fun hHeld => ?_)
        · exact ⟨H19.cell 0, H19.cell 1, H19.cell 2⟩
        clear hK K hzb
        try simp only [Act.put, List.setIfInBounds_toArray, List.set_cons_zero, List.set_cons_succ, List.getElem_toArray, List.getElem_cons_zero, List.getElem_cons_succ]
        refine wpAnyH_ready (rs := [3]) (by kernel_rfl) (by simp) ?_
        refine AllReadyH.cons rfl (fun K hK => ?_) AllReadyH.nil
        go_simp
        refine (pick_c h19 (by omega)).mono ?_
        rintro e w20 ⟨u1, rfl, hu1, hu1', h20, q20⟩
        have G20 := gb_trans G19 q20
        have R20 := R19.grown q20 (by intro e; injection e with e; omega)
        have H20 := H19.grown q20 (by intro e; injection e with e; omega)
        have Z20 := Z19.grown q20 (by intro e; injection e with e; omega)
        have D20 := D19.pick q20 (by omega)
        clear G19 D19 q20 h19 R19 H19 Z19
        obtain ⟨u, rfl⟩ := Int.eq_ofNat_of_zero_le hu1
        have hu : u ≤ 2 := by omega
        clear hu1 hu1'
        go_wp2_with fail
        refine hK.out _ _ ?_ (fun hHeld => ?_)
        · exact ⟨H20.cell 0, H20.cell 1, H20.cell 2⟩
        clear hK K
        try simp only [Act.put, List.setIfInBounds_toArray, List.set_cons_zero, List.set_cons_succ, List.getElem_toArray, List.getElem_cons_zero, List.getElem_cons_succ]
        refine wpAnyH_ready (rs := [6]) (by kernel_rfl) (by simp) ?_
        refine AllReadyH.cons rfl (fun K hK => ?_) AllReadyH.nil
        go_simp
        refine (l20Full_c h20 (by omega)).mono ?_
        rintro e w21 ⟨fx, fy, fz, rfl, hfx, hfy, hfz, h21, q21⟩
        have G21 := gb_trans G20 q21
        have R21 := R20.grown q21 (by intro e; injection e with e; omega)
        have H21 := H20.grown q21 (by intro e; injection e with e; omega)
        have Z21 := Z20.grown q21 (by intro e; injection e with e; omega)
        have D21 := D20.pick q21 (by omega)
        clear G20 D20 q21 h20 R20 H20 Z20
        go_wp2_with fail
        refine hK.out _ _ ?_ (fun hHeld => ?_)
        · exact ⟨H21.cell 0, H21.cell 1, H21.cell 2⟩
        clear hK K
        try simp only [Act.put, List.setIfInBounds_toArray, List.set_cons_zero, List.set_cons_succ, List.getElem_toArray, List.getElem_cons_zero, List.getElem_cons_succ]
        refine wpAnyH_ready (rs := [7]) (by kernel_rfl) (by simp) ?_
        refine AllReadyH.cons rfl (fun K hK => ?_) AllReadyH.nil
        go_simp
        have hrd := D21.rd
        have HPK := Lib.hid (full_ok (s := 1 + (m : Int)) hfx hfy hfz (by omega))
        refine (appendPage_spec (h := ⟨x, y, z⟩) (p := ⟨true, fx, fy, fz, 1 + (m : Int)⟩) hrd (Nat.le_refl _) HOK.out hu).mono ?_
        rintro e w22 ⟨A9, c9, rfl, o9, b9⟩
        have HOK9 := Lib.hid (appendF_ok (h := ⟨x, y, z⟩) HOK.out hu HPK.out rfl)
        generalize appendF bs ⟨x, y, z⟩ u ⟨true, fx, fy, fz, 1 + (m : Int)⟩ = RR at *
        obtain ⟨bs9, ⟨x9, y9, z9⟩, at9⟩ := RR
        simp only at o9 HOK9 ⊢
        have s9 := b9.size
        have h22 := h21.grown (gb_of_below b9 none) (fun k e => by cases e)
        have G22 := gb_step (row := none) G21 (gb_of_below b9 none) (fun k e => by cases e)
        have R22 := R21.below b9 R21.lt
        have H22 := H21.below b9 H21.lt
        have Z22 := Z21.below b9 Z21.lt
        have D22 := o9.lower (base' := w.heap.size) G21.size
        clear h21 G21 R21 H21 D21 o9 b9 hrd Z21
        go_wp2_with fail
        refine hK.out _ _ ?_ (fun hHeld => ?_)
        · exact ⟨H22.cell 0, H22.cell 1, H22.cell 2⟩
        clear hK K
        try simp only [Act.put, List.setIfInBounds_toArray, List.set_cons_zero, List.set_cons_succ, List.getElem_toArray, List.getElem_cons_zero, List.getElem_cons_succ]
        refine wpAnyH_take (i := 8) (v := ?_) rfl (by kernel_rfl) (by kernel_rfl) (by kernel_rfl) (fun _ _ _ h => h) (Or.inl ⟨by rfl, ?_⟩) (by assumption) ?_
        rotate_left
        · (intro w hSw; (try dsimp only at hSw); go_simp; (try with_reducible rfl))
        try simp only [Act.put, List.setIfInBounds_toArray, List.set_cons_zero, List.set_cons_succ, List.getElem_toArray, List.getElem_cons_zero, List.getElem_cons_succ]
        refine wpAnyH_take (i := 9) (v := ?_) rfl (by kernel_rfl) (by kernel_rfl) (by kernel_rfl) (fun _ _ _ h => h) (Or.inl ⟨by rfl, ?_⟩) (by assumption) ?_
        rotate_left
        · (intro w hSw; (try dsimp only at hSw); go_simp; (try with_reducible rfl))
        try simp only [Act.put, List.setIfInBounds_toArray, List.set_cons_zero, List.set_cons_succ, List.getElem_toArray, List.getElem_cons_zero, List.getElem_cons_succ]
        refine wpAnyH_take (i := 10) (v := ?_) rfl (by kernel_rfl) (by kernel_rfl) (by kernel_rfl) (fun _ _ _ h => h) (Or.inl ⟨by rfl, ?_⟩) (by assumption) ?_
        rotate_left
        · (intro w hSw; (try dsimp only at hSw); go_simp; (try with_reducible rfl))
        try simp only [Act.put, List.setIfInBounds_toArray, List.set_cons_zero, List.set_cons_succ, List.getElem_toArray, List.getElem_cons_zero, List.getElem_cons_succ]
        refine wpAnyH_take (i := 11) (v := ?_) rfl (by kernel_rfl) (by kernel_rfl) (by kernel_rfl) (fun _ _ _ h => h) (Or.inl ⟨by rfl, ?_⟩) (by assumption) ?_
        rotate_left
        · (intro w hSw; (try dsimp only at hSw); go_simp; (try with_reducible rfl))
        try simp only [Act.put, List.setIfInBounds_toArray, List.set_cons_zero, List.set_cons_succ, List.getElem_toArray, List.getElem_cons_zero, List.getElem_cons_succ]
        have zl2 := Z22.lt
        have zg2 := h22.lt
        have z0 := Z22.frozen 0
        have z1 := Z22.frozen 1
        have z2 := Z22.frozen 2
        have y0 := Z22.cell 0
        have y1 := Z22.cell 1
        have y2 := Z22.cell 2
        simp at y0 y1 y2
        refine wpAnyH_take (i := 13) (v := ?_) rfl (by kernel_rfl) (by kernel_rfl) (by kernel_rfl) (fun _ _ _ h => h) (Or.inl ⟨by rfl, ?_⟩) (by assumption) ?_
        rotate_left
        · (intro w hSw; (try dsimp only at hSw); go_simp; (try with_reducible rfl))
        try simp only [Act.put, List.setIfInBounds_toArray, List.set_cons_zero, List.set_cons_succ, List.getElem_toArray, List.getElem_cons_zero, List.getElem_cons_succ]
        refine wpAnyH_ready (rs := [14]) (by kernel_rfl) (by simp) ?_
        refine AllReadyH.cons rfl (fun K hK => ?_) AllReadyH.nil
        go_simp
        have ZE := ((Z22.set_ 0 (.int .i64 x9)).set_ 1 (.int .i64 y9)).set_ 2 (.int .i64 z9)
        have HE := ((H22.far (p := ⟨zb, 0, none⟩) (by show hb ≠ zb; omega) (.int .i64 x9)).far (p := ⟨zb, 1, none⟩) (by show hb ≠ zb; omega) (.int .i64 y9)).far (p := ⟨zb, 2, none⟩) (by show hb ≠ zb; omega) (.int .i64 z9)
        have RE := ((R22.far (p := ⟨zb, 0, none⟩) (by show w.heap.size ≠ zb; omega) (.int .i64 x9)).far (p := ⟨zb, 1, none⟩) (by show w.heap.size ≠ zb; omega) (.int .i64 y9)).far (p := ⟨zb, 2, none⟩) (by show w.heap.size ≠ zb; omega) (.int .i64 z9)
        have DE := owB_set3 D22 Z22 (.int .i64 x9) (.int .i64 y9) (.int .i64 z9)
        have hE := rdr_set (rdr_set (rdr_set (h22) (g' := zb) (i := 0) (by omega) (by omega) (.int .i64 x9)) (g' := zb) (i := 1) (by omega) (by omega) (.int .i64 y9)) (g' := zb) (i := 2) (by omega) (by omega) (.int .i64 z9)
        have GE := gb_set (gb_set (gb_set (G22) (g' := zb) (i := 0) (by omega) (.int .i64 x9)) (g' := zb) (i := 1) (by omega) (.int .i64 y9)) (g' := zb) (i := 2) (by omega) (.int .i64 z9)
        clear Z22 H22 R22 D22 h22 G22 z0 z1 z2 y0 y1 y2
        refine hK.out _ _ ?_ (fun hHeld => ?_)
        · exact ⟨HE.cell 0, HE.cell 1, HE.cell 2⟩
        clear hK K
        try simp only [Act.put, List.setIfInBounds_toArray, List.set_cons_zero, List.set_cons_succ, List.getElem_toArray, List.getElem_cons_zero, List.getElem_cons_succ]
        generalize ((w22.setCell ⟨zb, 0, none⟩ (.int .i64 x9)).setCell ⟨zb, 1, none⟩ (.int .i64 y9)).setCell ⟨zb, 2, none⟩ (.int .i64 z9) = wE at *
        refine wpAnyH_take (i := 15) (v := ?_) rfl (by kernel_rfl) (by kernel_rfl) (by kernel_rfl) (fun _ _ _ h => h) (Or.inl ⟨by rfl, ?_⟩) (by assumption) ?_
        rotate_left
        · (intro w hSw; (try dsimp only at hSw); go_simp; (try with_reducible rfl))
        try simp only [Act.put, List.setIfInBounds_toArray, List.set_cons_zero, List.set_cons_succ, List.getElem_toArray, List.getElem_cons_zero, List.getElem_cons_succ]
        refine wpAnyH_done (by kernel_rfl) ?_ _
        clear hHeld
        have e0 := ZE.cell 0
        have e1 := ZE.cell 1
        have e2 := ZE.cell 2
        have f0 := HE.frozen 0
        have f1 := HE.frozen 1
        have f2 := HE.frozen 2
        have d0 := HE.cell 0
        have d1 := HE.cell 1
        have d2 := HE.cell 2
        simp at e0 e1 e2 d0 d1 d2
        have HF := ((HE.set_ 0 (.int .i64 x9)).set_ 1 (.int .i64 y9)).set_ 2 (.int .i64 z9)
        simp at HF
        have RF := ((RE.far (p := ⟨hb, 0, none⟩) (by show w.heap.size ≠ hb; omega) (.int .i64 x9)).far (p := ⟨hb, 1, none⟩) (by show w.heap.size ≠ hb; omega) (.int .i64 y9)).far (p := ⟨hb, 2, none⟩) (by show w.heap.size ≠ hb; omega) (.int .i64 z9)
        have DF := owB_set3 DE HE (.int .i64 x9) (.int .i64 y9) (.int .i64 z9)
        have hF := rdr_set (rdr_set (rdr_set (hE) (g' := hb) (i := 0) (by omega) (by omega) (.int .i64 x9)) (g' := hb) (i := 1) (by omega) (by omega) (.int .i64 y9)) (g' := hb) (i := 2) (by omega) (by omega) (.int .i64 z9)
        have GF := gb_set (gb_set (gb_set (GE) (g' := hb) (i := 0) (by omega) (.int .i64 x9)) (g' := hb) (i := 1) (by omega) (.int .i64 y9)) (g' := hb) (i := 2) (by omega) (.int .i64 z9)
        have HFF := Lib.hid (show j - 1 + (m + 1) ≤ 19 from by omega)
        have wm : IntKind.i64.wrap (1 + (m : Int) + 1) = 1 + ((m + 1 : Nat) : Int) := (IntWalk.i64_in _ (by omega)).trans (by omega)
        clear ZE HE RE DE hE GE
        go_wp2
        go_roundw
        case rel => exact ⟨j - 1, m + 1, bs9, ⟨x9, y9, z9⟩, A9, c9, by go_num, by first | rfl | (rw [wm]) | (simp; omega), HFF.out, rfl, DF, HOK9.out, HF, RF, hF.mono (by omega), GF⟩
        case measure => simp [intOf]; omega
    · obtain rfl : j = 0 := by omega
      obtain ⟨gd, rfl, hgd1, hgd2⟩ := D7.form (by omega)
      go_wp2_with fail
      refine (pick_c h7 (by omega)).mono ?_
      rintro e w8 ⟨s1, rfl, hs1, hs1', h8, q8⟩
      have G8 := gb_trans G7 q8
      have R8 := R7.grown q8 (by intro e; injection e with e; omega)
      have H8 := H7.grown q8 (by intro e; injection e with e; omega)
      have D8 := D7.pick q8 (by omega)
      clear G7 D7 q8 h7 R7 H7
      go_wp2_with fail
      go_loopw [13] (fun kk wr2 => ∃ (j : Nat) (q : Nat) (bs2 : List BlockV), kk = .int .i64 j ∧ j + q ≤ 2 ∧ bs2.length = bs.length ∧ OwB wr2 w.heap.size (some ⟨gd, 0, none⟩) bs.length c bs2 ∧ Blk wr2 hb 39 #[.int .i64 x, .int .i64 y, .int .i64 z] ∧ Blk wr2 w.heap.size 39 #[.int .i64 0, .int .i64 0, .int .i64 0] ∧ Rdr wr2 B g (p + 100 + 3 * q) ∧ w.grownBy wr2 (some g)) (fun kk _ => (intOf kk).toNat)
      case atStart =>
        obtain ⟨j, rfl⟩ := Int.eq_ofNat_of_zero_le hs1
        exact ⟨j, 0, bs, rfl, by omega, rfl, D8, H8, R8, h8.mono (by omega), G8⟩
      case round =>
        obtain ⟨j, q, bs2, rfl, hjq, hlen2, D9, H9, R9, h9, G9⟩ := hrel
        clear D8 H8 R8 h8 G8
        have HL2 := Lib.hid hlen2
        clear hlen2
        have l9 := h9.lt
        have k9l := H9.lt
        have r9l := R9.lt
        have sw9 := G9.size
        by_cases hj2 : 0 < j
        · go_wp2_with fail
          refine (pick_c h9 (by omega)).mono ?_
          rintro e w10 ⟨a1, rfl, ha1, ha1', h10, q10⟩
          have G10 := gb_trans G9 q10
          have R10 := R9.grown q10 (by intro e; injection e with e; omega)
          have H10 := H9.grown q10 (by intro e; injection e with e; omega)
          have D10 := D9.pick q10 (by omega)
          clear G9 D9 q10 h9 R9 H9
          obtain ⟨b1, rfl⟩ := Int.eq_ofNat_of_zero_le ha1
          have hb1 : b1 < bs.length := by omega
          clear ha1 ha1'
          go_wp2_with fail
          refine (pick_c h10 (by omega)).mono ?_
          rintro e w11 ⟨a2, rfl, ha2, ha2', h11, q11⟩
          have G11 := gb_trans G10 q11
          have R11 := R10.grown q11 (by intro e; injection e with e; omega)
          have H11 := H10.grown q11 (by intro e; injection e with e; omega)
          have D11 := D10.pick q11 (by omega)
          clear G10 D10 q11 h10 R10 H10
          go_wp2_with fail
          have h12 := h11.alloc (.cells #[.int .i64 a2, .int .i64 100] 3)
          have G12 := gb_alloc G11 (.cells #[.int .i64 a2, .int .i64 100] 3)
          have R12 := R11.alloc (.cells #[.int .i64 a2, .int .i64 100] 3)
          have H12 := H11.alloc (.cells #[.int .i64 a2, .int .i64 100] 3)
          have D12 := D11.below ((Below.refl w11.heap.size w11).alloc (Nat.le_refl _) (.cells #[.int .i64 a2, .int .i64 100] 3))
          have N12 := Blk.new w11 3 #[.int .i64 a2, .int .i64 100]
          have l11 := h11.lt
          have k11l := H11.lt
          have r11l := R11.lt
          clear h11 G11 R11 H11 D11
          generalize w11.alloc (.cells #[.int .i64 a2, .int .i64 100] 3) = w12 at *
          generalize hnb : w11.heap.size = nb at *
          refine (pick_c h12 (by omega)).mono ?_
          rintro e w13 ⟨a3, rfl, ha3, ha3', h13, q13⟩
          have G13 := gb_trans G12 q13
          have R13 := R12.grown q13 (by intro e; injection e with e; omega)
          have H13 := H12.grown q13 (by intro e; injection e with e; omega)
          have N13 := N12.grown q13 (by intro e; injection e with e; omega)
          have D13 := D12.pick q13 (by omega)
          clear G12 D12 q13 h12 R12 H12 N12
          obtain ⟨A3, n3, c3, y0, y1, z0, z1, _⟩ := D13.cells b1 hb1
          have ha3c : a3 / 8 = 0 ∨ a3 / 8 = 1 := by omega
          have n0 := N13.cell 0
          have n1 := N13.cell 1
          simp at n0 n1
          generalize (bs2.getD b1 noBlock).wear = we0 at *
          have ha3x := ha3
          clear ha3
          rcases ha3c with ha3c | ha3c
          · have ha3 : a3.tdiv 8 = 0 := by rw [Int.tdiv_eq_ediv_of_nonneg ha3x]; exact ha3c
            have DF := D13.setWear hb1 a2
            have HF := H13.far (p := ⟨gd, b1 * 2, none⟩) (fun e => (owB_ne D13 H13 (by decide)) e) (.int .i64 a2)
            have RF := R13.far (p := ⟨gd, b1 * 2, none⟩) (fun e => (owB_ne D13 R13 (by decide)) e) (.int .i64 a2)
            have hF := rdr_set h13 (g' := gd) (i := b1 * 2) (by omega) (by omega) (.int .i64 a2)
            have GF := gb_set G13 (g' := gd) (i := b1 * 2) (by omega) (.int .i64 a2)
            clear D13 H13 R13 h13 G13 N13
            go_wp2
            go_roundw
            case rel => exact ⟨j - 1, q + 1, _, by go_num, by omega, by simp [HL2.out], DF, HF, RF, hF.mono (by omega), GF⟩
            case measure => simp [intOf]; omega
          · have ha3 : a3.tdiv 8 = 1 := by rw [Int.tdiv_eq_ediv_of_nonneg ha3x]; exact ha3c
            have DF := D13.setWear hb1 100
            have HF := H13.far (p := ⟨gd, b1 * 2, none⟩) (fun e => (owB_ne D13 H13 (by decide)) e) (.int .i64 100)
            have RF := R13.far (p := ⟨gd, b1 * 2, none⟩) (fun e => (owB_ne D13 R13 (by decide)) e) (.int .i64 100)
            have hF := rdr_set h13 (g' := gd) (i := b1 * 2) (by omega) (by omega) (.int .i64 100)
            have GF := gb_set G13 (g' := gd) (i := b1 * 2) (by omega) (.int .i64 100)
            clear D13 H13 R13 h13 G13 N13
            go_wp2
            go_roundw
            case rel => exact ⟨j - 1, q + 1, _, by go_num, by omega, by simp [HL2.out], DF, HF, RF, hF.mono (by omega), GF⟩
            case measure => simp [intOf]; omega
        · obtain rfl : j = 0 := by omega
          go_wp2_with fail
          refine (odd_c h9 (by omega) hn1 hn2).mono ?_
          rintro e w10 ⟨b, rfl, h10, q10⟩
          have G10 := gb_trans G9 q10
          have R10 := R9.grown q10 (by intro e; injection e with e; omega)
          have H10 := H9.grown q10 (by intro e; injection e with e; omega)
          have D10 := D9.pick q10 (by omega)
          clear G9 D9 q10 h9 R9 H9
          cases b
          · have l10 := h10.lt
            have d0 := H10.cell 0
            have d1 := H10.cell 1
            have d2 := H10.cell 2
            have f0 := R10.cell 0
            have f1 := R10.cell 1
            have f2 := R10.cell 2
            have z0 := R10.frozen 0
            have z1 := R10.frozen 1
            have z2 := R10.frozen 2
            simp at d0 d1 d2 f0 f1 f2
            go_upto_region 23 with (fail)
            refine wp_region_held_drew (S := fun w' => w'.cell? ⟨hb, 0, none⟩ = some (.int .i64 x) ∧ w'.cell? ⟨hb, 1, none⟩ = some (.int .i64 y) ∧ w'.cell? ⟨hb, 2, none⟩ = some (.int .i64 z)) (by kernel_rfl) ?_ (fun hHeld => ?_)
            · exact ⟨d0, d1, d2⟩
            refine wpAnyH_take (i := 0) (v := ?_) rfl (by kernel_rfl) (by kernel_rfl) (by kernel_rfl) (fun _ _ _ h => h) (Or.inl ⟨by rfl, ?_⟩) (by assumption) ?_
            rotate_left
            · (intro w hSw; (try dsimp only at hSw); go_simp; (try with_reducible rfl))
            try simp only [Act.put, List.setIfInBounds_toArray, List.set_cons_zero, List.set_cons_succ, List.getElem_toArray, List.getElem_cons_zero, List.getElem_cons_succ]
            refine wpAnyH_take (i := 1) (v := ?_) rfl (by kernel_rfl) (by kernel_rfl) (by kernel_rfl) (fun _ _ _ h => h) (Or.inl ⟨by rfl, ?_⟩) (by assumption) ?_
            rotate_left
            · (intro w hSw; (try dsimp only at hSw); go_simp; (try with_reducible rfl))
            try simp only [Act.put, List.setIfInBounds_toArray, List.set_cons_zero, List.set_cons_succ, List.getElem_toArray, List.getElem_cons_zero, List.getElem_cons_succ]
            refine wpAnyH_take (i := 2) (v := ?_) rfl (by kernel_rfl) (by kernel_rfl) (by kernel_rfl) (fun _ _ _ h => h) (Or.inl ⟨by rfl, ?_⟩) (by assumption) ?_
            rotate_left
            · (intro w hSw; (try dsimp only at hSw); go_simp; (try with_reducible rfl))
            try simp only [Act.put, List.setIfInBounds_toArray, List.set_cons_zero, List.set_cons_succ, List.getElem_toArray, List.getElem_cons_zero, List.getElem_cons_succ]
            refine wpAnyH_ready (rs := [3]) (by kernel_rfl) (by simp) ?_
            refine AllReadyH.cons rfl (fun K hK => ?_) AllReadyH.nil
            go_simp
            have HE := ((H10.far (p := ⟨w.heap.size, 0, none⟩) (by show hb ≠ w.heap.size; omega) (.int .i64 x)).far (p := ⟨w.heap.size, 1, none⟩) (by show hb ≠ w.heap.size; omega) (.int .i64 y)).far (p := ⟨w.heap.size, 2, none⟩) (by show hb ≠ w.heap.size; omega) (.int .i64 z)
            have RE := ((R10.set_ 0 (.int .i64 x)).set_ 1 (.int .i64 y)).set_ 2 (.int .i64 z)
            have hE := rdr_set (rdr_set (rdr_set (h10) (g' := w.heap.size) (i := 0) (by omega) (by omega) (.int .i64 x)) (g' := w.heap.size) (i := 1) (by omega) (by omega) (.int .i64 y)) (g' := w.heap.size) (i := 2) (by omega) (by omega) (.int .i64 z)
            have GE := gb_set (gb_set (gb_set (G10) (g' := w.heap.size) (i := 0) (by omega) (.int .i64 x)) (g' := w.heap.size) (i := 1) (by omega) (.int .i64 y)) (g' := w.heap.size) (i := 2) (by omega) (.int .i64 z)
            have DE := owB_set3 D10 R10 (.int .i64 x) (.int .i64 y) (.int .i64 z)
            have HAF := Lib.hid DE.all
            have HCP := Lib.hid DE.cap
            have HLF := Lib.hid DE.len
            clear DE D10
            refine hK.out _ _ ?_ (fun hHeld => ?_)
            · exact ⟨HE.cell 0, HE.cell 1, HE.cell 2⟩
            clear hK K
            try simp only [Act.put, List.setIfInBounds_toArray, List.set_cons_zero, List.set_cons_succ, List.getElem_toArray, List.getElem_cons_zero, List.getElem_cons_succ]
            refine wpAnyH_done (by kernel_rfl) ?_ _
            clear hHeld
            have e0 := RE.cell 0
            have e1 := RE.cell 1
            have e2 := RE.cell 2
            simp at e0 e1 e2
            have hE' := hE.drew
            have GE' := gb_drew GE
            clear hE GE H10 R10 h10 G10 z0 z1 z2 d0 d1 d2 f0 f1 f2 HE
            generalize ((w10.setCell ⟨w.heap.size, 0, none⟩ (.int .i64 x)).setCell ⟨w.heap.size, 1, none⟩ (.int .i64 y)).setCell ⟨w.heap.size, 2, none⟩ (.int .i64 z) = wz at *
            go_wp2
            refine bodyPost_ret (by simp [results, Try.results39, go_sem, e0, e1, e2]; try rfl) rfl ?_
            exact devPost_of (h := ⟨x, y, z⟩) HLF.out (by omega) HCP.out.1 HCP.out.2 (fun w'' hc => HAF.out w'' (chgT_drewL hc)) (hE'.mono (by omega)) GE'
          · go_wp2_with fail
            refine (pick_c h10 (by omega)).mono ?_
            rintro e w11 ⟨s2, rfl, hs2, hs2', h11, q11⟩
            have G11 := gb_trans G10 q11
            have R11 := R10.grown q11 (by intro e; injection e with e; omega)
            have H11 := H10.grown q11 (by intro e; injection e with e; omega)
            have D11 := D10.pick q11 (by omega)
            clear G10 D10 q11 h10 R10 H10
            have hs2x : s2 = 0 ∨ s2 = 1 ∨ s2 = 2 := by omega
            rcases hs2x with rfl | rfl | rfl
            · go_wp2_with fail
              refine (l20Block_c h11 (by omega) (by omega) (by omega)).mono ?_
              rintro e w12 ⟨⟨we1, ps1⟩, A1, c1, rfl, hp1, hp2, hp3, h12, q12⟩
              simp only at hp1 hp3 ⊢
              have l11x := h11.lt
              have G12 := gb_trans G11 q12
              have R12 := R11.grown q12 (by intro e; injection e with e; omega)
              have H12 := H11.grown q12 (by intro e; injection e with e; omega)
              have D12 := D11.pick q12 (by omega)
              clear G11 D11 q12 h11 R11 H11
              go_wp2_with (at_builtin; refine wpList_appBlkR rfl rfl rfl D12 hp3 hp1 hp2 rfl (by omega) (by have := G12.size; omega) ?_; rintro g4 c4 w13 hall g13 t13 hg4 hc4 hc5)
              have gd13 : w12.grownBy w13 (some gd) := g13
              have H13 := H12.typed t13 (by decide)
              have R13 := R12.typed t13 (by decide)
              have h13 := h12.grown gd13 (fun k e => by injection e with e; subst e; omega)
              have G13 := gb_step G12 gd13 (fun k e => by injection e with e; omega)
              have HALL := Lib.hid hall
              have HBL := Lib.hid (show (bs2 ++ [(⟨we1, ps1⟩ : BlockV)]).length = bs.length + 1 from by simp [HL2.out])
              have l12x := h12.lt
              clear H12 R12 h12 G12 D12 gd13 g13 t13 hall hp3
              have l13 := h13.lt
              have d0 := H13.cell 0
              have d1 := H13.cell 1
              have d2 := H13.cell 2
              have f0 := R13.cell 0
              have f1 := R13.cell 1
              have f2 := R13.cell 2
              have z0 := R13.frozen 0
              have z1 := R13.frozen 1
              have z2 := R13.frozen 2
              simp at d0 d1 d2 f0 f1 f2
              go_upto_region 23 with (fail)
              refine wp_region_held_drew (S := fun w' => w'.cell? ⟨hb, 0, none⟩ = some (.int .i64 x) ∧ w'.cell? ⟨hb, 1, none⟩ = some (.int .i64 y) ∧ w'.cell? ⟨hb, 2, none⟩ = some (.int .i64 z)) (by kernel_rfl) ?_ (fun hHeld => ?_)
              · exact ⟨d0, d1, d2⟩
              refine wpAnyH_take (i := 0) (v := ?_) rfl (by kernel_rfl) (by kernel_rfl) (by kernel_rfl) (fun _ _ _ h => h) (Or.inl ⟨by rfl, ?_⟩) (by assumption) ?_
              rotate_left
              · (intro w hSw; (try dsimp only at hSw); go_simp; (try with_reducible rfl))
              try simp only [Act.put, List.setIfInBounds_toArray, List.set_cons_zero, List.set_cons_succ, List.getElem_toArray, List.getElem_cons_zero, List.getElem_cons_succ]
              refine wpAnyH_take (i := 1) (v := ?_) rfl (by kernel_rfl) (by kernel_rfl) (by kernel_rfl) (fun _ _ _ h => h) (Or.inl ⟨by rfl, ?_⟩) (by assumption) ?_
              rotate_left
              · (intro w hSw; (try dsimp only at hSw); go_simp; (try with_reducible rfl))
              try simp only [Act.put, List.setIfInBounds_toArray, List.set_cons_zero, List.set_cons_succ, List.getElem_toArray, List.getElem_cons_zero, List.getElem_cons_succ]
              refine wpAnyH_take (i := 2) (v := ?_) rfl (by kernel_rfl) (by kernel_rfl) (by kernel_rfl) (fun _ _ _ h => h) (Or.inl ⟨by rfl, ?_⟩) (by assumption) ?_
              rotate_left
              · (intro w hSw; (try dsimp only at hSw); go_simp; (try with_reducible rfl))
              try simp only [Act.put, List.setIfInBounds_toArray, List.set_cons_zero, List.set_cons_succ, List.getElem_toArray, List.getElem_cons_zero, List.getElem_cons_succ]
              refine wpAnyH_ready (rs := [3]) (by kernel_rfl) (by simp) ?_
              refine AllReadyH.cons rfl (fun K hK => ?_) AllReadyH.nil
              go_simp
              have HE := ((H13.far (p := ⟨w.heap.size, 0, none⟩) (by show hb ≠ w.heap.size; omega) (.int .i64 x)).far (p := ⟨w.heap.size, 1, none⟩) (by show hb ≠ w.heap.size; omega) (.int .i64 y)).far (p := ⟨w.heap.size, 2, none⟩) (by show hb ≠ w.heap.size; omega) (.int .i64 z)
              have RE := ((R13.set_ 0 (.int .i64 x)).set_ 1 (.int .i64 y)).set_ 2 (.int .i64 z)
              have hE := rdr_set (rdr_set (rdr_set (h13) (g' := w.heap.size) (i := 0) (by omega) (by omega) (.int .i64 x)) (g' := w.heap.size) (i := 1) (by omega) (by omega) (.int .i64 y)) (g' := w.heap.size) (i := 2) (by omega) (by omega) (.int .i64 z)
              have GE := gb_set (gb_set (gb_set (G13) (g' := w.heap.size) (i := 0) (by omega) (.int .i64 x)) (g' := w.heap.size) (i := 1) (by omega) (.int .i64 y)) (g' := w.heap.size) (i := 2) (by omega) (.int .i64 z)
              have HAF := Lib.hid (show ∀ w'', ChgT [39, 108] (((w13.setCell ⟨w.heap.size, 0, none⟩ (.int .i64 x)).setCell ⟨w.heap.size, 1, none⟩ (.int .i64 y)).setCell ⟨w.heap.size, 2, none⟩ (.int .i64 z)) w'' → RdB w'' w''.heap.size (some ⟨g4, 0, none⟩) (bs.length + 1) (bs2 ++ [⟨we1, ps1⟩]) from fun w'' hc => HALL.out w'' ((chgT_set3 R13 (.int .i64 x) (.int .i64 y) (.int .i64 z)).trans (hc.wide (by simp))))
              have HCP := Lib.hid (And.intro hc4 hc5)
              have HLF := Lib.hid HBL.out
              refine hK.out _ _ ?_ (fun hHeld => ?_)
              · exact ⟨HE.cell 0, HE.cell 1, HE.cell 2⟩
              clear hK K
              try simp only [Act.put, List.setIfInBounds_toArray, List.set_cons_zero, List.set_cons_succ, List.getElem_toArray, List.getElem_cons_zero, List.getElem_cons_succ]
              refine wpAnyH_done (by kernel_rfl) ?_ _
              clear hHeld
              have e0 := RE.cell 0
              have e1 := RE.cell 1
              have e2 := RE.cell 2
              simp at e0 e1 e2
              have hE' := hE.drew
              have GE' := gb_drew GE
              clear hE GE H13 R13 h13 G13 z0 z1 z2 d0 d1 d2 f0 f1 f2 HE
              generalize ((w13.setCell ⟨w.heap.size, 0, none⟩ (.int .i64 x)).setCell ⟨w.heap.size, 1, none⟩ (.int .i64 y)).setCell ⟨w.heap.size, 2, none⟩ (.int .i64 z) = wz at *
              go_wp2
              refine bodyPost_ret (by simp [results, Try.results39, go_sem, e0, e1, e2]; try rfl) rfl ?_
              exact devPost_of (h := ⟨x, y, z⟩) HLF.out (by omega) HCP.out.1 HCP.out.2 (fun w'' hc => HAF.out w'' (chgT_drewL hc)) (hE'.mono (by omega)) GE'
            · go_upto_region 23 with (fail)
              have h12 := h11.alloc (.cells #[] 67)
              have G12 := gb_alloc G11 (.cells #[] 67)
              have R12 := R11.alloc (.cells #[] 67)
              have H12 := H11.alloc (.cells #[] 67)
              have D12 : OwB (w11.alloc (.cells #[] 67)) w.heap.size (some ⟨w11.heap.size, 0, none⟩) 0 0 [] := ⟨[], rfl, rfl, fun _ h => absurd h (Nat.not_lt_zero _), World.ownsRow_lit w11 #[] 0 G11.size (by decide) rfl, fun _ h => absurd h (Nat.not_lt_zero _), fun _ _ h => absurd h (Nat.not_lt_zero _)⟩
              have l11 := h11.lt
              have k11l := H11.lt
              have r11l := R11.lt
              clear h11 G11 R11 H11 D11
              generalize w11.alloc (.cells #[] 67) = w12 at *
              have l12 := h12.lt
              have d0 := H12.cell 0
              have d1 := H12.cell 1
              have d2 := H12.cell 2
              have f0 := R12.cell 0
              have f1 := R12.cell 1
              have f2 := R12.cell 2
              have z0 := R12.frozen 0
              have z1 := R12.frozen 1
              have z2 := R12.frozen 2
              simp at d0 d1 d2 f0 f1 f2
              refine wp_region_held_drew (S := fun w' => w'.cell? ⟨hb, 0, none⟩ = some (.int .i64 x) ∧ w'.cell? ⟨hb, 1, none⟩ = some (.int .i64 y) ∧ w'.cell? ⟨hb, 2, none⟩ = some (.int .i64 z)) (by kernel_rfl) ?_ (fun hHeld => ?_)
              · exact ⟨d0, d1, d2⟩
              refine wpAnyH_take (i := 0) (v := ?_) rfl (by kernel_rfl) (by kernel_rfl) (by kernel_rfl) (fun _ _ _ h => h) (Or.inl ⟨by rfl, ?_⟩) (by assumption) ?_
              rotate_left
              · (intro w hSw; (try dsimp only at hSw); go_simp; (try with_reducible rfl))
              try simp only [Act.put, List.setIfInBounds_toArray, List.set_cons_zero, List.set_cons_succ, List.getElem_toArray, List.getElem_cons_zero, List.getElem_cons_succ]
              refine wpAnyH_take (i := 1) (v := ?_) rfl (by kernel_rfl) (by kernel_rfl) (by kernel_rfl) (fun _ _ _ h => h) (Or.inl ⟨by rfl, ?_⟩) (by assumption) ?_
              rotate_left
              · (intro w hSw; (try dsimp only at hSw); go_simp; (try with_reducible rfl))
              try simp only [Act.put, List.setIfInBounds_toArray, List.set_cons_zero, List.set_cons_succ, List.getElem_toArray, List.getElem_cons_zero, List.getElem_cons_succ]
              refine wpAnyH_take (i := 2) (v := ?_) rfl (by kernel_rfl) (by kernel_rfl) (by kernel_rfl) (fun _ _ _ h => h) (Or.inl ⟨by rfl, ?_⟩) (by assumption) ?_
              rotate_left
              · (intro w hSw; (try dsimp only at hSw); go_simp; (try with_reducible rfl))
              try simp only [Act.put, List.setIfInBounds_toArray, List.set_cons_zero, List.set_cons_succ, List.getElem_toArray, List.getElem_cons_zero, List.getElem_cons_succ]
              refine wpAnyH_ready (rs := [3]) (by kernel_rfl) (by simp) ?_
              refine AllReadyH.cons rfl (fun K hK => ?_) AllReadyH.nil
              go_simp
              have HE := ((H12.far (p := ⟨w.heap.size, 0, none⟩) (by show hb ≠ w.heap.size; omega) (.int .i64 x)).far (p := ⟨w.heap.size, 1, none⟩) (by show hb ≠ w.heap.size; omega) (.int .i64 y)).far (p := ⟨w.heap.size, 2, none⟩) (by show hb ≠ w.heap.size; omega) (.int .i64 z)
              have RE := ((R12.set_ 0 (.int .i64 x)).set_ 1 (.int .i64 y)).set_ 2 (.int .i64 z)
              have hE := rdr_set (rdr_set (rdr_set (h12) (g' := w.heap.size) (i := 0) (by omega) (by omega) (.int .i64 x)) (g' := w.heap.size) (i := 1) (by omega) (by omega) (.int .i64 y)) (g' := w.heap.size) (i := 2) (by omega) (by omega) (.int .i64 z)
              have GE := gb_set (gb_set (gb_set (G12) (g' := w.heap.size) (i := 0) (by omega) (.int .i64 x)) (g' := w.heap.size) (i := 1) (by omega) (.int .i64 y)) (g' := w.heap.size) (i := 2) (by omega) (.int .i64 z)
              have DE := owB_set3 D12 R12 (.int .i64 x) (.int .i64 y) (.int .i64 z)
              have HAF := Lib.hid DE.all
              have HCP := Lib.hid DE.cap
              have HLF := Lib.hid DE.len
              clear DE D12
              refine hK.out _ _ ?_ (fun hHeld => ?_)
              · exact ⟨HE.cell 0, HE.cell 1, HE.cell 2⟩
              clear hK K
              try simp only [Act.put, List.setIfInBounds_toArray, List.set_cons_zero, List.set_cons_succ, List.getElem_toArray, List.getElem_cons_zero, List.getElem_cons_succ]
              refine wpAnyH_done (by kernel_rfl) ?_ _
              clear hHeld
              have e0 := RE.cell 0
              have e1 := RE.cell 1
              have e2 := RE.cell 2
              simp at e0 e1 e2
              have hE' := hE.drew
              have GE' := gb_drew GE
              clear hE GE H12 R12 h12 G12 z0 z1 z2 d0 d1 d2 f0 f1 f2 HE
              generalize ((w12.setCell ⟨w.heap.size, 0, none⟩ (.int .i64 x)).setCell ⟨w.heap.size, 1, none⟩ (.int .i64 y)).setCell ⟨w.heap.size, 2, none⟩ (.int .i64 z) = wz at *
              go_wp2
              refine bodyPost_ret (by simp [results, Try.results39, go_sem, e0, e1, e2]; try rfl) rfl ?_
              exact devPost_of (h := ⟨x, y, z⟩) HLF.out (by omega) HCP.out.1 HCP.out.2 (fun w'' hc => HAF.out w'' (chgT_drewL hc)) (hE'.mono (by omega)) GE'
            · have HL11 := Lib.hid HL2.out
              go_wp2_with fail
              go_loopw [6] (fun d wr3 => ∃ (A3 : Option Addr) (c3 : Nat) (bs3 : List BlockV) (n3 : Nat), d = .slice A3 n3 c3 ∧ bs3.length = n3 ∧ n3 ≤ 13 ∧ OwB wr3 w.heap.size A3 n3 c3 bs3 ∧ Blk wr3 hb 39 #[.int .i64 x, .int .i64 y, .int .i64 z] ∧ Blk wr3 w.heap.size 39 #[.int .i64 0, .int .i64 0, .int .i64 0] ∧ Rdr wr3 B g (p + 150) ∧ w.grownBy wr3 (some g)) (fun d _ => 13 - lenD d)
              case atStart => exact ⟨_, _, bs2, bs.length, rfl, HL11.out, by omega, D11, H11, R11, h11.mono (by omega), G11⟩
              case round =>
                obtain ⟨A3, c3, bs3, n3, rfl, hln, h13, D12, H12, R12, h12, G12⟩ := hrel
                clear D11 H11 R11 h11 G11
                have l12 := h12.lt
                have k12l := H12.lt
                have r12l := R12.lt
                have sw12 := G12.size
                have HLN := Lib.hid hln
                clear hln
                by_cases hle : n3 ≤ 12
                · go_wp2_with fail
                  refine (newBlock_spec 0 _ (by omega) (by omega)).mono ?_
                  rintro e w13 ⟨Ap, cp, rfl, o13, b13⟩
                  have h13 := h12.grown (gb_of_below b13 none) (fun k e => by cases e)
                  have G13 := gb_step (row := none) G12 (gb_of_below b13 none) (fun k e => by cases e)
                  have R13 := R12.below b13 R12.lt
                  have H13 := H12.below b13 H12.lt
                  have s13 := b13.size
                  go_wp2_with (at_builtin; refine wpList_appBlock rfl rfl rfl D12 b13 o13 rfl (by omega) (by omega) ?_; rintro g4 c4 w14 o14 b14 t14 hg4)
                  have H14 := H13.typed t14 (by decide)
                  have R14 := R13.typed t14 (by decide)
                  have hbg := h13.lt
                  have G14x2 := b14
                  have h14 := rdr_below h12 b14 (by omega)
                  have G14 := gb_typed G12 G14x2
                  clear H12 R12 h12 G12 D12 H13 R13 h13 G13 o13 b13 t14 b14
                  go_wp2
                  go_roundw
                  case rel => exact ⟨_, c4, bs3 ++ [⟨0, newPages⟩], n3 + 1, rfl, by simp [HLN.out], by omega, o14, H14, R14, h14, G14⟩
                  case measure => simp only [lenD]; omega
                · have hnle : ¬ ((n3 : Int) ≤ 12) := by omega
                  obtain rfl : n3 = 13 := by omega
                  have l12 := h12.lt
                  have d0 := H12.cell 0
                  have d1 := H12.cell 1
                  have d2 := H12.cell 2
                  have f0 := R12.cell 0
                  have f1 := R12.cell 1
                  have f2 := R12.cell 2
                  have z0 := R12.frozen 0
                  have z1 := R12.frozen 1
                  have z2 := R12.frozen 2
                  simp at d0 d1 d2 f0 f1 f2
                  go_upto_region 23 with (fail)
                  refine wp_region_held_drew (S := fun w' => w'.cell? ⟨hb, 0, none⟩ = some (.int .i64 x) ∧ w'.cell? ⟨hb, 1, none⟩ = some (.int .i64 y) ∧ w'.cell? ⟨hb, 2, none⟩ = some (.int .i64 z)) (by kernel_rfl) ?_ (fun hHeld => ?_)
                  · exact ⟨d0, d1, d2⟩
                  refine wpAnyH_take (i := 0) (v := ?_) rfl (by kernel_rfl) (by kernel_rfl) (by kernel_rfl) (fun _ _ _ h => h) (Or.inl ⟨by rfl, ?_⟩) (by assumption) ?_
                  rotate_left
                  · (intro w hSw; (try dsimp only at hSw); go_simp; (try with_reducible rfl))
                  try simp only [Act.put, List.setIfInBounds_toArray, List.set_cons_zero, List.set_cons_succ, List.getElem_toArray, List.getElem_cons_zero, List.getElem_cons_succ]
                  refine wpAnyH_take (i := 1) (v := ?_) rfl (by kernel_rfl) (by kernel_rfl) (by kernel_rfl) (fun _ _ _ h => h) (Or.inl ⟨by rfl, ?_⟩) (by assumption) ?_
                  rotate_left
                  · (intro w hSw; (try dsimp only at hSw); go_simp; (try with_reducible rfl))
                  try simp only [Act.put, List.setIfInBounds_toArray, List.set_cons_zero, List.set_cons_succ, List.getElem_toArray, List.getElem_cons_zero, List.getElem_cons_succ]
                  refine wpAnyH_take (i := 2) (v := ?_) rfl (by kernel_rfl) (by kernel_rfl) (by kernel_rfl) (fun _ _ _ h => h) (Or.inl ⟨by rfl, ?_⟩) (by assumption) ?_
                  rotate_left
                  · (intro w hSw; (try dsimp only at hSw); go_simp; (try with_reducible rfl))
                  try simp only [Act.put, List.setIfInBounds_toArray, List.set_cons_zero, List.set_cons_succ, List.getElem_toArray, List.getElem_cons_zero, List.getElem_cons_succ]
                  refine wpAnyH_ready (rs := [3]) (by kernel_rfl) (by simp) ?_
                  refine AllReadyH.cons rfl (fun K hK => ?_) AllReadyH.nil
                  go_simp
                  have HE := ((H12.far (p := ⟨w.heap.size, 0, none⟩) (by show hb ≠ w.heap.size; omega) (.int .i64 x)).far (p := ⟨w.heap.size, 1, none⟩) (by show hb ≠ w.heap.size; omega) (.int .i64 y)).far (p := ⟨w.heap.size, 2, none⟩) (by show hb ≠ w.heap.size; omega) (.int .i64 z)
                  have RE := ((R12.set_ 0 (.int .i64 x)).set_ 1 (.int .i64 y)).set_ 2 (.int .i64 z)
                  have hE := rdr_set (rdr_set (rdr_set (h12) (g' := w.heap.size) (i := 0) (by omega) (by omega) (.int .i64 x)) (g' := w.heap.size) (i := 1) (by omega) (by omega) (.int .i64 y)) (g' := w.heap.size) (i := 2) (by omega) (by omega) (.int .i64 z)
                  have GE := gb_set (gb_set (gb_set (G12) (g' := w.heap.size) (i := 0) (by omega) (.int .i64 x)) (g' := w.heap.size) (i := 1) (by omega) (.int .i64 y)) (g' := w.heap.size) (i := 2) (by omega) (.int .i64 z)
                  have DE := owB_set3 D12 R12 (.int .i64 x) (.int .i64 y) (.int .i64 z)
                  have HAF := Lib.hid DE.all
                  have HCP := Lib.hid DE.cap
                  have HLF := Lib.hid DE.len
                  clear DE D12
                  refine hK.out _ _ ?_ (fun hHeld => ?_)
                  · exact ⟨HE.cell 0, HE.cell 1, HE.cell 2⟩
                  clear hK K
                  try simp only [Act.put, List.setIfInBounds_toArray, List.set_cons_zero, List.set_cons_succ, List.getElem_toArray, List.getElem_cons_zero, List.getElem_cons_succ]
                  refine wpAnyH_done (by kernel_rfl) ?_ _
                  clear hHeld
                  have e0 := RE.cell 0
                  have e1 := RE.cell 1
                  have e2 := RE.cell 2
                  simp at e0 e1 e2
                  have hE' := hE.drew
                  have GE' := gb_drew GE
                  clear hE GE H12 R12 h12 G12 z0 z1 z2 d0 d1 d2 f0 f1 f2 HE
                  generalize ((wr.setCell ⟨w.heap.size, 0, none⟩ (.int .i64 x)).setCell ⟨w.heap.size, 1, none⟩ (.int .i64 y)).setCell ⟨w.heap.size, 2, none⟩ (.int .i64 z) = wz at *
                  go_wp2
                  refine bodyPost_ret (by simp [results, Try.results39, go_sem, e0, e1, e2]; try rfl) rfl ?_
                  exact devPost_of (h := ⟨x, y, z⟩) HLF.out (by omega) HCP.out.1 HCP.out.2 (fun w'' hc => HAF.out w'' (chgT_drewL hc)) (hE'.mono (by omega)) GE'
end Go.Proofs.Ytjnpgdhpneifjaa
