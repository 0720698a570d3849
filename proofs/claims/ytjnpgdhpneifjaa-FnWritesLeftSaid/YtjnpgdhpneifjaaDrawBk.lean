/- Drawn blocks. No condition. -/
import Derived.Test.YtjnpgdhpneifjaaDrawPg
import Derived.Test.YtjnpgdhpneifjaaWriteBS
namespace Go.Proofs.Ytjnpgdhpneifjaa
open Go.ChangeShapes Go.WideShapes Go.ChangeAt Go.RowKit
set_option linter.unusedVariables false
set_option linter.unusedSimpArgs false

theorem rdG_all {w' : World} {base n c : Nat} {A : Option Addr} {ps : List PageV} (h : w'.ownsRow base 102 5 (.slice A n c) n (flatG ps)) : ∀ w'', ChgT [67, 39, 108] w' w'' → RdG w'' w''.heap.size A n ps :=
  fun _ h' => rdoG (own_typed h h' (by decide))
theorem rdG_tail {w' : World} {base gp c : Nat} {ps : List PageV} (h : w'.ownsRow base 102 5 (.slice (some ⟨gp, 0, none⟩) 4 c) 4 (flatG ps)) : ∀ w'', ChgT [67, 39, 108] w' w'' → RdG w'' w''.heap.size (some ⟨gp, 5, none⟩) 3 (ps.drop 1) := by
  intro w'' h'
  have h2 := own_typed h h' (by decide)
  have hl := own_pagesLen h2
  obtain ⟨g2, cap, e, hg1, hg2⟩ := h2.form (by omega)
  injection e with e1 e2 e3
  injection e1 with e1
  injection e1 with e1
  subst e1
  refine ⟨by simp; omega, fun _ => ⟨gp, 5, rfl, hg2, fun i hi => ?_⟩⟩
  have := own_pageCells h2 (i + 1) (by omega)
  have ed : (ps.drop 1).getD i noPage = ps.getD (i + 1) noPage := by rw [List.getD_eq_getElem?_getD, List.getD_eq_getElem?_getD, List.getElem?_drop, Nat.add_comm]
  rw [ed, show 5 + i * 5 = (i + 1) * 5 by omega]
  exact this
theorem own_form4 {w : World} {base c : Nat} {A : Option Addr} {ps : List PageV} (h : w.ownsRow base 102 5 (.slice A 4 c) 4 (flatG ps)) : ∃ g, A = some ⟨g, 0, none⟩ ∧ base ≤ g ∧ g < w.heap.size := by
  obtain ⟨g2, cap, e, hg1, hg2⟩ := h.form (by omega)
  injection e with e1 e2 e3
  exact ⟨g2, e1, hg1, hg2⟩
theorem own_ne_blk {w : World} {base g b t n c : Nat} {cs : Array Value} {xs : List Value} (h : w.ownsRow base 102 5 (.slice (some ⟨g, 0, none⟩) n c) n xs) (k : Blk w b t cs) (ht : 102 ≠ t) : b ≠ g := by
  intro e
  subst e
  obtain ⟨cur, hc⟩ := own_kind h (g := b) rfl
  unfold Blk at k
  rw [hc] at k
  injection k with k
  injection k with k1 k2 k3
  exact ht k2
theorem newB_ok {we : Int} (h0 : 0 ≤ we) (h1 : we ≤ 100) : BlockOk ⟨we, newPages⟩ := by
  refine ⟨⟨h0, h1⟩, rfl, fun i hi => ?_⟩
  have hg : ∀ j, j < 4 → newPages.getD j noPage = noPage := by
    intro j hj
    have : j = 0 ∨ j = 1 ∨ j = 2 ∨ j = 3 := by omega
    rcases this with rfl | rfl | rfl | rfl <;> rfl
  simp only
  rw [hg i hi]
  exact ⟨by decide, fun _ h => by cases h⟩
theorem blockV_eta {b : BlockV} {we : Int} (h : b.wear = we) : (⟨we, b.pages⟩ : BlockV) = b := by subst h; rfl
def BkPost (B g p : Nat) (w : World) (e : Ending) (w' : World) : Prop :=
  ∃ (b : BlockV) (A : Option Addr) (c : Nat), e = .returned (.agg #[.int .i64 b.wear, .slice A b.pages.length c]) ∧ b.pages.length ≤ c ∧ c ≤ 9223372036854775807 ∧ (∀ w'', ChgT [67, 39, 108] w' w'' → RdG w'' w''.heap.size A b.pages.length b.pages) ∧ Rdr w' B g (p + 60) ∧ w.grownBy w' (some g)
theorem bkPost_of {B g p n c : Nat} {w w' : World} {A : Option Addr} {b : BlockV} (hl : b.pages.length = n) (h1 : n ≤ c) (h2 : c ≤ 9223372036854775807) (h3 : ∀ w'', ChgT [67, 39, 108] w' w'' → RdG w'' w''.heap.size A n b.pages) (h4 : Rdr w' B g (p + 60)) (h5 : w.grownBy w' (some g)) : BkPost B g p w (.returned (.agg #[.int .i64 b.wear, .slice A n c])) w' := by
  subst hl; exact ⟨b, A, c, rfl, h1, h2, h3, h4, h5⟩
set_option maxRecDepth 8000 in
set_option maxHeartbeats 8000000 in
theorem l20Block_c {B g p : Nat} {n : Int} {w : World} (h : Rdr w B g p) (hp : p < 900000) (hn1 : 0 < n) (hn2 : n < 1000000) :
    Calls Try.prog 83 #[.pointer (some ⟨g, 0, none⟩), .int .i64 n] w (BkPost B g p w) := by
  have hlt := h.lt
  have h1 := h.alloc (.cells #[.int .i64 0, .slice none 0 0] 67)
  have R1 := Blk.new w 67 #[.int .i64 0, .slice none 0 0]
  have G1 : w.grownBy (w.alloc (.cells #[.int .i64 0, .slice none 0 0] 67)) (some g) := gb_alloc (World.grownBy.refl _ _) _
  clear h
  go_enter Try.func83, Try.ntmps83
  go_wp2_with fail
  generalize w.alloc (.cells #[.int .i64 0, .slice none 0 0] 67) = w1 at *
  refine (pick_c h1 (by omega)).mono ?_
  rintro e w2 ⟨v1, rfl, hv1, hv1', h2, q2⟩
  have R2 := R1.grown q2 (by intro e; injection e with e; omega)
  have G2 := gb_trans G1 q2
  have l2 := h2.lt
  have rl2 := R2.lt
  clear h1 R1 G1 q2
  go_wp2_with fail
  refine (pick_c ((h2.alloc (.cells #[.int .i64 v1, .int .i64 100, .int .i64 99] 3)).alloc (.cells #[.int .i64 0, .int .i64 0, .int .i64 0, .int .i64 0, .int .i64 0, .int .i64 1, .int .i64 2] 3)) (by omega)).mono ?_
  rintro e w3 ⟨v2, rfl, hv2, hv2', h3, q3⟩
  have G3 := gb_trans (gb_alloc (gb_alloc G2 (.cells #[.int .i64 v1, .int .i64 100, .int .i64 99] 3)) (.cells #[.int .i64 0, .int .i64 0, .int .i64 0, .int .i64 0, .int .i64 0, .int .i64 1, .int .i64 2] 3)) q3
  have R3 := ((R2.alloc (.cells #[.int .i64 v1, .int .i64 100, .int .i64 99] 3)).alloc (.cells #[.int .i64 0, .int .i64 0, .int .i64 0, .int .i64 0, .int .i64 0, .int .i64 1, .int .i64 2] 3)).grown q3 (by intro e; injection e with e; omega)
  have A3 : Blk w3 w2.heap.size 3 #[.int .i64 v1, .int .i64 100, .int .i64 99] := ((Blk.new w2 3 _).alloc _).grown q3 (by intro e; injection e with e; omega)
  have B3 : Blk w3 (w2.heap.size + 1) 3 #[.int .i64 0, .int .i64 0, .int .i64 0, .int .i64 0, .int .i64 0, .int .i64 1, .int .i64 2] := (Blk.new1 w2 _ 3 _).grown q3 (by intro e; injection e with e; omega)
  obtain ⟨x1, hx1, hx1', hc1⟩ := tab_at [0, 0, 0, 0, 0, 1, 2] B3 0 2 (by decide) hv2 (by simp; omega)
  obtain ⟨y1, hy1, hy1', hc2⟩ := tab_at [v1, 100, 99] A3 0 100 (by simp; omega) hx1 (by simp; omega)
  have hv2n : v2 < 7 := by omega
  have hx1n : x1 < 3 := by omega
  have l3 := h3.lt
  clear A3 B3 q3 h2 R2 G2
  go_wp2_with fail
  clear hc1 hc2
  refine (newBlock_spec y1 _ hy1 hy1').mono ?_
  rintro e w4 ⟨Ap, cp, rfl, o4, b4⟩
  have h4 := h3.grown (gb_of_below b4 none) (fun k e => by cases e)
  have G4 := gb_step (row := none) G3 (gb_of_below b4 none) (fun k e => by cases e)
  have R4 := R3.below b4 R3.lt
  have s4 := b4.size
  have s3 := G3.size
  have O4 := own_lower o4 (base' := w.heap.size) s3
  clear h3 G3 R3 o4 b4
  go_wp2_with fail
  have K5 := Blk.new w4 67 #[.int .i64 y1, .slice Ap 4 cp]
  have h5 := h4.alloc (.cells #[.int .i64 y1, .slice Ap 4 cp] 67)
  have G5 := gb_alloc G4 (.cells #[.int .i64 y1, .slice Ap 4 cp] 67)
  have R5 := R4.alloc (.cells #[.int .i64 y1, .slice Ap 4 cp] 67)
  have O5 := own_below O4 ((Below.refl w4.heap.size w4).alloc (Nat.le_refl _) (.cells #[.int .i64 y1, .slice Ap 4 cp] 67))
  have l4 := h4.lt
  have r4l := R4.lt
  clear h4 G4 R4 O4
  generalize w4.alloc (.cells #[.int .i64 y1, .slice Ap 4 cp] 67) = w5 at *
  generalize hbk : w4.heap.size = bk at *
  clear hbk
  refine (pick_c h5 (by omega)).mono ?_
  rintro e w6 ⟨v3, rfl, hv3, hv3', h6, q6⟩
  have G6 := gb_trans G5 q6
  have R6 := R5.grown q6 (by intro e; injection e with e; omega)
  have K6 := K5.grown q6 (by intro e; injection e with e; omega)
  have O6 := own_pick O5 q6 (by omega)
  clear G5 R5 K5 O5 q6 h5 
  have HOK0 := Lib.hid (newB_ok hy1 hy1')
  go_wp2_with fail
  go_loopw [6] (fun kk wr => ∃ (j m : Nat) (we : Int) (ps : List PageV) (A : Option Addr) (c : Nat), kk = .int .i64 j ∧ j + m ≤ 5 ∧ Blk wr bk 67 #[.int .i64 we, .slice A 4 c] ∧ wr.ownsRow w.heap.size 102 5 (.slice A 4 c) 4 (flatG ps) ∧ BlockOk ⟨we, ps⟩ ∧ Blk wr w.heap.size 67 #[.int .i64 0, .slice none 0 0] ∧ Rdr wr B g (p + 3 + 5 * m) ∧ w.grownBy wr (some g)) (fun kk _ => (intOf kk).toNat)
  case atStart =>
    obtain ⟨j, rfl⟩ := Int.eq_ofNat_of_zero_le hv3
    exact ⟨j, 0, y1, newPages, Ap, cp, rfl, by omega, K6, O6, HOK0.out, R6, h6.mono (by omega), G6⟩
  case round =>
    obtain ⟨j, m, we, ps, A, c, rfl, hjm, K7, O7, hok, R7, h7, G7⟩ := hrel
    clear K6 O6 R6 h6 G6 HOK0
    have HOK := Lib.hid hok
    clear hok
    have l7 := h7.lt
    have k7l := K7.lt
    have sw := G7.size
    by_cases hj : 0 < j
    · have t0 := K7.cell 0
      have t1 := K7.cell 1
      simp at t0 t1
      go_upto_region 5 with (fail)
      refine wp_region_held_drew (S := fun w' => w'.cell? ⟨bk, 0, none⟩ = some (.int .i64 we) ∧ w'.cell? ⟨bk, 1, none⟩ = some (.slice A 4 c)) (by kernel_rfl) ?_ (fun hHeld => ?_)
      · exact ⟨t0, t1⟩
      refine wpAnyH_take (i := 0) (v := ?_) rfl (by kernel_rfl) (by kernel_rfl) (by kernel_rfl) (fun _ _ _ h => h) (Or.inl ⟨by rfl, ?_⟩) (by assumption) ?_
      rotate_left
      · (intro w hSw; (try dsimp only at hSw); go_simp; (try with_reducible rfl))
      try simp only [Act.put, List.setIfInBounds_toArray, List.set_cons_zero, List.set_cons_succ, List.getElem_toArray, List.getElem_cons_zero, List.getElem_cons_succ]
      refine wpAnyH_take (i := 1) (v := ?_) rfl (by kernel_rfl) (by kernel_rfl) (by kernel_rfl) (fun _ _ _ h => h) (Or.inl ⟨by rfl, ?_⟩) (by assumption) ?_
      rotate_left
      · (intro w hSw; (try dsimp only at hSw); go_simp; (try with_reducible rfl))
      try simp only [Act.put, List.setIfInBounds_toArray, List.set_cons_zero, List.set_cons_succ, List.getElem_toArray, List.getElem_cons_zero, List.getElem_cons_succ]
      refine wpAnyH_take (i := 2) (v := ?_) rfl (by kernel_rfl) (by kernel_rfl) (by kernel_rfl) (fun _ _ _ h => h) (Or.inl ⟨by rfl, ?_⟩) (by assumption) ?_
      rotate_left
      · (intro w hSw; (try dsimp only at hSw); go_simp; (try with_reducible rfl))
      try simp only [Act.put, List.setIfInBounds_toArray, List.set_cons_zero, List.set_cons_succ, List.getElem_toArray, List.getElem_cons_zero, List.getElem_cons_succ]
      have K8 : Blk wr.drew bk 67 #[.int .i64 we, .slice A 4 c] := K7
      have O8 := own_below O7 ((Below.refl _ _).drew)
      have R8 : Blk wr.drew w.heap.size 67 _ := R7
      have h8 := h7.drew
      have G8 := gb_drew G7
      have l8 := h8.lt
      clear K7 O7 R7 h7 G7 t0 t1
      refine wpAnyH_ready (rs := [3, 10]) (by kernel_rfl) (by simp) ?_
      refine AllReadyH.cons rfl (fun K hK => ?_) (AllReadyH.cons rfl (fun K hK => ?_) AllReadyH.nil)
      · go_simp
        refine (pick_c h8 (by omega)).mono ?_
        rintro e w9 ⟨u1, rfl, hu1, hu1', h9, q9⟩
        have G9 := gb_trans G8 q9
        have R9 := R8.grown q9 (by intro e; injection e with e; omega)
        have K9 := K8.grown q9 (by intro e; injection e with e; omega)
        have O9 := own_pick O8 q9 (by omega)
        clear G8 R8 K8 O8 q9 h8 
        go_wp2_with fail
        refine hK.out _ _ ?_ (fun hHeld => ?_)
        · exact ⟨K9.cell 0, K9.cell 1⟩
        clear hK K
        try simp only [Act.put, List.setIfInBounds_toArray, List.set_cons_zero, List.set_cons_succ, List.getElem_toArray, List.getElem_cons_zero, List.getElem_cons_succ]
        have w1a : IntKind.i64.wrap (1 + u1) = 1 + u1 := IntWalk.i64_in _ (by omega)
        refine wpAnyH_take (i := 4) (v := ?_) rfl (by kernel_rfl) (by kernel_rfl) (by kernel_rfl) (fun _ _ _ h => h) (Or.inl ⟨by rfl, ?_⟩) (by assumption) ?_
        rotate_left
        · (intro w hSw; (try dsimp only at hSw); go_simp; (try with_reducible rfl))
        try simp only [Act.put, List.setIfInBounds_toArray, List.set_cons_zero, List.set_cons_succ, List.getElem_toArray, List.getElem_cons_zero, List.getElem_cons_succ]
        refine wpAnyH_ready (rs := [5, 10]) (by kernel_rfl) (by simp) ?_
        refine AllReadyH.cons rfl (fun K hK => ?_) (AllReadyH.cons rfl (fun K hK => ?_) AllReadyH.nil)
        · go_simp
          refine (l20Full_c h9 (by omega)).mono ?_
          rintro e w10 ⟨fx, fy, fz, rfl, hfx, hfy, hfz, h10, q10⟩
          have G10 := gb_trans G9 q10
          have R10 := R9.grown q10 (by intro e; injection e with e; omega)
          have K10 := K9.grown q10 (by intro e; injection e with e; omega)
          have O10 := own_pick O9 q10 (by omega)
          clear G9 R9 K9 O9 q10 h9 
          go_wp2_with fail
          refine hK.out _ _ ?_ (fun hHeld => ?_)
          · exact ⟨K10.cell 0, K10.cell 1⟩
          clear hK K
          try simp only [Act.put, List.setIfInBounds_toArray, List.set_cons_zero, List.set_cons_succ, List.getElem_toArray, List.getElem_cons_zero, List.getElem_cons_succ]
          refine wpAnyH_ready (rs := [6, 10]) (by kernel_rfl) (by simp) ?_
          refine AllReadyH.cons rfl (fun K hK => ?_) (AllReadyH.cons rfl (fun K hK => ?_) AllReadyH.nil)
          · go_simp
            have cap := own_cap O10
            have hrg := rdoG O10
            have HPK := Lib.hid (full_ok (s := 1 + u1) hfx hfy hfz (by omega))
            refine (writeBlock_spec hrg (Nat.le_refl _) cap.1 cap.2 HOK.out HPK.out).mono ?_
            rintro e w11 ⟨A9, c9, rfl, o9, b9⟩
            simp only at o9 ⊢
            have HL4 := HOK.out.2.1
            simp only at HL4
            rw [HL4] at o9 ⊢
            have s9 := b9.size
            have h11 := h10.grown (gb_of_below b9 none) (fun k e => by cases e)
            have G11 := gb_step (row := none) G10 (gb_of_below b9 none) (fun k e => by cases e)
            have R11 := R10.below b9 R10.lt
            have K11 := K10.below b9 K10.lt
            have O11 := own_lower o9 (base' := w.heap.size) G10.size
            have HOK9 := Lib.hid (writeF_ok HOK.out HPK.out rfl)
            clear h10 G10 R10 K10 O10 o9 b9 hrg HL4
            go_wp2_with fail
            refine hK.out _ _ ?_ (fun hHeld => ?_)
            · exact ⟨K11.cell 0, K11.cell 1⟩
            clear hK K
            try simp only [Act.put, List.setIfInBounds_toArray, List.set_cons_zero, List.set_cons_succ, List.getElem_toArray, List.getElem_cons_zero, List.getElem_cons_succ]
            refine wpAnyH_take (i := 7) (v := ?_) rfl (by kernel_rfl) (by kernel_rfl) (by kernel_rfl) (fun _ _ _ h => h) (Or.inl ⟨by rfl, ?_⟩) (by assumption) ?_
            rotate_left
            · (intro w hSw; (try dsimp only at hSw); go_simp; (try with_reducible rfl))
            try simp only [Act.put, List.setIfInBounds_toArray, List.set_cons_zero, List.set_cons_succ, List.getElem_toArray, List.getElem_cons_zero, List.getElem_cons_succ]
            refine wpAnyH_take (i := 8) (v := ?_) rfl (by kernel_rfl) (by kernel_rfl) (by kernel_rfl) (fun _ _ _ h => h) (Or.inl ⟨by rfl, ?_⟩) (by assumption) ?_
            rotate_left
            · (intro w hSw; (try dsimp only at hSw); go_simp; (try with_reducible rfl))
            try simp only [Act.put, List.setIfInBounds_toArray, List.set_cons_zero, List.set_cons_succ, List.getElem_toArray, List.getElem_cons_zero, List.getElem_cons_succ]
            refine wpAnyH_take (i := 9) (v := ?_) rfl (by kernel_rfl) (by kernel_rfl) (by kernel_rfl) (fun _ _ _ h => h) (Or.inl ⟨by rfl, ?_⟩) (by assumption) ?_
            rotate_left
            · (intro w hSw; (try dsimp only at hSw); go_simp; (try with_reducible rfl))
            try simp only [Act.put, List.setIfInBounds_toArray, List.set_cons_zero, List.set_cons_succ, List.getElem_toArray, List.getElem_cons_zero, List.getElem_cons_succ]
            refine wpAnyH_ready (rs := [10]) (by kernel_rfl) (by simp) ?_
            refine AllReadyH.cons rfl (fun K hK => ?_) AllReadyH.nil
            go_simp
            have Z12 : Blk (w11.alloc (.cells #[.int .i64 0, .slice none 0 0] 67)) (w11.heap.size) 67 #[.int .i64 0, .slice none 0 0] := Blk.new (w11) 67 #[.int .i64 0, .slice none 0 0]
            have h12 : Rdr (w11.alloc (.cells #[.int .i64 0, .slice none 0 0] 67)) B g _ := h11.alloc (.cells #[.int .i64 0, .slice none 0 0] 67)
            have G12 : w.grownBy (w11.alloc (.cells #[.int .i64 0, .slice none 0 0] 67)) (some g) := gb_alloc G11 (.cells #[.int .i64 0, .slice none 0 0] 67)
            have R12 : Blk (w11.alloc (.cells #[.int .i64 0, .slice none 0 0] 67)) w.heap.size 67 _ := R11.alloc (.cells #[.int .i64 0, .slice none 0 0] 67)
            have K12 : Blk (w11.alloc (.cells #[.int .i64 0, .slice none 0 0] 67)) bk 67 _ := K11.alloc (.cells #[.int .i64 0, .slice none 0 0] 67)
            have O12 : (w11.alloc (.cells #[.int .i64 0, .slice none 0 0] 67)).ownsRow w.heap.size 102 5 _ 4 _ := own_below O11 ((Below.refl (w11).heap.size _).alloc (Nat.le_refl _) (.cells #[.int .i64 0, .slice none 0 0] 67))
            have zl : w.heap.size ≤ w11.heap.size := G11.size
            have zg : B ≤ g ∧ g < w11.heap.size := h11.lt
            have zk : bk < w11.heap.size := K11.lt
            have zr : w.heap.size < w11.heap.size := R11.lt
            clear h11 G11 R11 K11 O11
            generalize w11.alloc (.cells #[.int .i64 0, .slice none 0 0] 67) = w12 at *
            generalize hzb : w11.heap.size = zb at *
            refine hK.out _ _ ?_ (fun hHeld => ?_)
            · exact ⟨K12.cell 0, K12.cell 1⟩
            clear hK K hzb
            try simp only [Act.put, List.setIfInBounds_toArray, List.set_cons_zero, List.set_cons_succ, List.getElem_toArray, List.getElem_cons_zero, List.getElem_cons_succ]
            have zl2 := Z12.lt
            have zg2 := h12.lt
            have z0 := Z12.frozen 0
            have z1 := Z12.frozen 1
            have y0 := Z12.cell 0
            have y1' := Z12.cell 1
            simp at y0 y1'
            refine wpAnyH_ready (rs := [11]) (by kernel_rfl) (by simp) ?_
            refine AllReadyH.cons rfl (fun K hK => ?_) AllReadyH.nil
            go_simp
            have ZE := (Z12.set_ 0 (.int .i64 we)).set_ 1 (.slice A9 4 c9)
            have KE := (K12.far (p := ⟨zb, 0, none⟩) (by show bk ≠ zb; omega) (.int .i64 we)).far (p := ⟨zb, 1, none⟩) (by show bk ≠ zb; omega) (.slice A9 4 c9)
            have RE := (R12.far (p := ⟨zb, 0, none⟩) (by show w.heap.size ≠ zb; omega) (.int .i64 we)).far (p := ⟨zb, 1, none⟩) (by show w.heap.size ≠ zb; omega) (.slice A9 4 c9)
            have OE := own_typed (own_typed O12 (ChgT.blk Z12 0 (.int .i64 we)) (by decide)) (ChgT.blk (Z12.set_ 0 (.int .i64 we)) 1 (.slice A9 4 c9)) (by decide)
            have hE := rdr_set (rdr_set h12 (g' := zb) (i := 0) (by omega) (by omega) (.int .i64 we)) (g' := zb) (i := 1) (by omega) (by omega) (.slice A9 4 c9)
            have GE := gb_set (gb_set G12 (g' := zb) (i := 0) (by omega) (.int .i64 we)) (g' := zb) (i := 1) (by omega) (.slice A9 4 c9)
            clear Z12 K12 R12 O12 h12 G12 z0 z1 y0 y1'
            refine hK.out _ _ ?_ (fun hHeld => ?_)
            · exact ⟨KE.cell 0, KE.cell 1⟩
            clear hK K
            try simp only [Act.put, List.setIfInBounds_toArray, List.set_cons_zero, List.set_cons_succ, List.getElem_toArray, List.getElem_cons_zero, List.getElem_cons_succ]
            generalize (w12.setCell ⟨zb, 0, none⟩ (.int .i64 we)).setCell ⟨zb, 1, none⟩ (.slice A9 4 c9) = wE at *
            refine wpAnyH_take (i := 12) (v := ?_) rfl (by kernel_rfl) (by kernel_rfl) (by kernel_rfl) (fun _ _ _ h => h) (Or.inl ⟨by rfl, ?_⟩) (by assumption) ?_
            rotate_left
            · (intro w hSw; (try dsimp only at hSw); go_simp; (try with_reducible rfl))
            try simp only [Act.put, List.setIfInBounds_toArray, List.set_cons_zero, List.set_cons_succ, List.getElem_toArray, List.getElem_cons_zero, List.getElem_cons_succ]
            refine wpAnyH_done (by kernel_rfl) ?_ _
            clear hHeld
            have e0 := ZE.cell 0
            have e1 := ZE.cell 1
            have f0 := KE.frozen 0
            have f1 := KE.frozen 1
            have d0 := KE.cell 0
            have d1 := KE.cell 1
            simp at e0 e1 d0 d1
            have KF := (KE.set_ 0 (.int .i64 we)).set_ 1 (.slice A9 4 c9)
            simp at KF
            have RF := (RE.far (p := ⟨bk, 0, none⟩) (by show w.heap.size ≠ bk; omega) (.int .i64 we)).far (p := ⟨bk, 1, none⟩) (by show w.heap.size ≠ bk; omega) (.slice A9 4 c9)
            have OF := own_typed (own_typed OE (ChgT.blk KE 0 (.int .i64 we)) (by decide)) (ChgT.blk (KE.set_ 0 (.int .i64 we)) 1 (.slice A9 4 c9)) (by decide)
            have hF := rdr_set (rdr_set hE (g' := bk) (i := 0) (by omega) (by omega) (.int .i64 we)) (g' := bk) (i := 1) (by omega) (by omega) (.slice A9 4 c9)
            have GF := gb_set (gb_set GE (g' := bk) (i := 0) (by omega) (.int .i64 we)) (g' := bk) (i := 1) (by omega) (.slice A9 4 c9)
            have HOKF := Lib.hid (show BlockOk ⟨we, (writeF ⟨we, ps⟩ ⟨true, fx, fy, fz, 1 + u1⟩).pages⟩ from by have := HOK9.out; rwa [← blockV_eta (writeF_wear ⟨we, ps⟩ _)] at this)
            have HFF := Lib.hid (show j - 1 + (m + 1) ≤ 5 from by omega)
            clear KE RE OE hE GE ZE HOK9
            go_wp2
            go_roundw
            case rel => exact ⟨j - 1, m + 1, we, _, A9, c9, by go_num, HFF.out, KF, OF, HOKF.out, RF, hF.mono (by omega), GF⟩
            case measure => simp [intOf]; omega
          · go_simp
            have Z13 : Blk (w10.alloc (.cells #[.int .i64 0, .slice none 0 0] 67)) (w10.heap.size) 67 #[.int .i64 0, .slice none 0 0] := Blk.new (w10) 67 #[.int .i64 0, .slice none 0 0]
            have h13 : Rdr (w10.alloc (.cells #[.int .i64 0, .slice none 0 0] 67)) B g _ := h10.alloc (.cells #[.int .i64 0, .slice none 0 0] 67)
            have G13 : w.grownBy (w10.alloc (.cells #[.int .i64 0, .slice none 0 0] 67)) (some g) := gb_alloc G10 (.cells #[.int .i64 0, .slice none 0 0] 67)
            have R13 : Blk (w10.alloc (.cells #[.int .i64 0, .slice none 0 0] 67)) w.heap.size 67 _ := R10.alloc (.cells #[.int .i64 0, .slice none 0 0] 67)
            have K13 : Blk (w10.alloc (.cells #[.int .i64 0, .slice none 0 0] 67)) bk 67 _ := K10.alloc (.cells #[.int .i64 0, .slice none 0 0] 67)
            have O13 : (w10.alloc (.cells #[.int .i64 0, .slice none 0 0] 67)).ownsRow w.heap.size 102 5 _ 4 _ := own_below O10 ((Below.refl (w10).heap.size _).alloc (Nat.le_refl _) (.cells #[.int .i64 0, .slice none 0 0] 67))
            have zl : w.heap.size ≤ w10.heap.size := G10.size
            have zg : B ≤ g ∧ g < w10.heap.size := h10.lt
            have zk : bk < w10.heap.size := K10.lt
            have zr : w.heap.size < w10.heap.size := R10.lt
            clear h10 G10 R10 K10 O10
            generalize w10.alloc (.cells #[.int .i64 0, .slice none 0 0] 67) = w13 at *
            generalize hzb : w10.heap.size = zb at *
            refine hK.out _ _ ?_ (fun hHeld => ?_)
            · exact ⟨K13.cell 0, K13.cell 1⟩
            clear hK K hzb
            try simp only [Act.put, List.setIfInBounds_toArray, List.set_cons_zero, List.set_cons_succ, List.getElem_toArray, List.getElem_cons_zero, List.getElem_cons_succ]
            refine wpAnyH_ready (rs := [6]) (by kernel_rfl) (by simp) ?_
            refine AllReadyH.cons rfl (fun K hK => ?_) AllReadyH.nil
            go_simp
            have cap := own_cap O13
            have hrg := rdoG O13
            have HPK := Lib.hid (full_ok (s := 1 + u1) hfx hfy hfz (by omega))
            refine (writeBlock_spec hrg (Nat.le_refl _) cap.1 cap.2 HOK.out HPK.out).mono ?_
            rintro e w14 ⟨A9, c9, rfl, o9, b9⟩
            simp only at o9 ⊢
            have HL4 := HOK.out.2.1
            simp only at HL4
            rw [HL4] at o9 ⊢
            have s9 := b9.size
            have h14 := h13.grown (gb_of_below b9 none) (fun k e => by cases e)
            have G14 := gb_step (row := none) G13 (gb_of_below b9 none) (fun k e => by cases e)
            have R14 := R13.below b9 R13.lt
            have K14 := K13.below b9 K13.lt
            have O14 := own_lower o9 (base' := w.heap.size) G13.size
            have Z14 := Z13.below b9 Z13.lt
            have HOK9 := Lib.hid (writeF_ok HOK.out HPK.out rfl)
            clear h13 G13 R13 K13 O13 o9 b9 hrg HL4 Z13
            go_wp2_with fail
            refine hK.out _ _ ?_ (fun hHeld => ?_)
            · exact ⟨K14.cell 0, K14.cell 1⟩
            clear hK K
            try simp only [Act.put, List.setIfInBounds_toArray, List.set_cons_zero, List.set_cons_succ, List.getElem_toArray, List.getElem_cons_zero, List.getElem_cons_succ]
            refine wpAnyH_take (i := 7) (v := ?_) rfl (by kernel_rfl) (by kernel_rfl) (by kernel_rfl) (fun _ _ _ h => h) (Or.inl ⟨by rfl, ?_⟩) (by assumption) ?_
            rotate_left
            · (intro w hSw; (try dsimp only at hSw); go_simp; (try with_reducible rfl))
            try simp only [Act.put, List.setIfInBounds_toArray, List.set_cons_zero, List.set_cons_succ, List.getElem_toArray, List.getElem_cons_zero, List.getElem_cons_succ]
            refine wpAnyH_take (i := 8) (v := ?_) rfl (by kernel_rfl) (by kernel_rfl) (by kernel_rfl) (fun _ _ _ h => h) (Or.inl ⟨by rfl, ?_⟩) (by assumption) ?_
            rotate_left
            · (intro w hSw; (try dsimp only at hSw); go_simp; (try with_reducible rfl))
            try simp only [Act.put, List.setIfInBounds_toArray, List.set_cons_zero, List.set_cons_succ, List.getElem_toArray, List.getElem_cons_zero, List.getElem_cons_succ]
            refine wpAnyH_take (i := 9) (v := ?_) rfl (by kernel_rfl) (by kernel_rfl) (by kernel_rfl) (fun _ _ _ h => h) (Or.inl ⟨by rfl, ?_⟩) (by assumption) ?_
            rotate_left
            · (intro w hSw; (try dsimp only at hSw); go_simp; (try with_reducible rfl))
            try simp only [Act.put, List.setIfInBounds_toArray, List.set_cons_zero, List.set_cons_succ, List.getElem_toArray, List.getElem_cons_zero, List.getElem_cons_succ]
            have zl2 := Z14.lt
            have zg2 := h14.lt
            have z0 := Z14.frozen 0
            have z1 := Z14.frozen 1
            have y0 := Z14.cell 0
            have y1' := Z14.cell 1
            simp at y0 y1'
            refine wpAnyH_ready (rs := [11]) (by kernel_rfl) (by simp) ?_
            refine AllReadyH.cons rfl (fun K hK => ?_) AllReadyH.nil
            go_simp
            have ZE := (Z14.set_ 0 (.int .i64 we)).set_ 1 (.slice A9 4 c9)
            have KE := (K14.far (p := ⟨zb, 0, none⟩) (by show bk ≠ zb; omega) (.int .i64 we)).far (p := ⟨zb, 1, none⟩) (by show bk ≠ zb; omega) (.slice A9 4 c9)
            have RE := (R14.far (p := ⟨zb, 0, none⟩) (by show w.heap.size ≠ zb; omega) (.int .i64 we)).far (p := ⟨zb, 1, none⟩) (by show w.heap.size ≠ zb; omega) (.slice A9 4 c9)
            have OE := own_typed (own_typed O14 (ChgT.blk Z14 0 (.int .i64 we)) (by decide)) (ChgT.blk (Z14.set_ 0 (.int .i64 we)) 1 (.slice A9 4 c9)) (by decide)
            have hE := rdr_set (rdr_set h14 (g' := zb) (i := 0) (by omega) (by omega) (.int .i64 we)) (g' := zb) (i := 1) (by omega) (by omega) (.slice A9 4 c9)
            have GE := gb_set (gb_set G14 (g' := zb) (i := 0) (by omega) (.int .i64 we)) (g' := zb) (i := 1) (by omega) (.slice A9 4 c9)
            clear Z14 K14 R14 O14 h14 G14 z0 z1 y0 y1'
            refine hK.out _ _ ?_ (fun hHeld => ?_)
            · exact ⟨KE.cell 0, KE.cell 1⟩
            clear hK K
            try simp only [Act.put, List.setIfInBounds_toArray, List.set_cons_zero, List.set_cons_succ, List.getElem_toArray, List.getElem_cons_zero, List.getElem_cons_succ]
            generalize (w14.setCell ⟨zb, 0, none⟩ (.int .i64 we)).setCell ⟨zb, 1, none⟩ (.slice A9 4 c9) = wE at *
            refine wpAnyH_take (i := 12) (v := ?_) rfl (by kernel_rfl) (by kernel_rfl) (by kernel_rfl) (fun _ _ _ h => h) (Or.inl ⟨by rfl, ?_⟩) (by assumption) ?_
            rotate_left
            · (intro w hSw; (try dsimp only at hSw); go_simp; (try with_reducible rfl))
            try simp only [Act.put, List.setIfInBounds_toArray, List.set_cons_zero, List.set_cons_succ, List.getElem_toArray, List.getElem_cons_zero, List.getElem_cons_succ]
            refine wpAnyH_done (by kernel_rfl) ?_ _
            clear hHeld
            have e0 := ZE.cell 0
            have e1 := ZE.cell 1
            have f0 := KE.frozen 0
            have f1 := KE.frozen 1
            have d0 := KE.cell 0
            have d1 := KE.cell 1
            simp at e0 e1 d0 d1
            have KF := (KE.set_ 0 (.int .i64 we)).set_ 1 (.slice A9 4 c9)
            simp at KF
            have RF := (RE.far (p := ⟨bk, 0, none⟩) (by show w.heap.size ≠ bk; omega) (.int .i64 we)).far (p := ⟨bk, 1, none⟩) (by show w.heap.size ≠ bk; omega) (.slice A9 4 c9)
            have OF := own_typed (own_typed OE (ChgT.blk KE 0 (.int .i64 we)) (by decide)) (ChgT.blk (KE.set_ 0 (.int .i64 we)) 1 (.slice A9 4 c9)) (by decide)
            have hF := rdr_set (rdr_set hE (g' := bk) (i := 0) (by omega) (by omega) (.int .i64 we)) (g' := bk) (i := 1) (by omega) (by omega) (.slice A9 4 c9)
            have GF := gb_set (gb_set GE (g' := bk) (i := 0) (by omega) (.int .i64 we)) (g' := bk) (i := 1) (by omega) (.slice A9 4 c9)
            have HOKF := Lib.hid (show BlockOk ⟨we, (writeF ⟨we, ps⟩ ⟨true, fx, fy, fz, 1 + u1⟩).pages⟩ from by have := HOK9.out; rwa [← blockV_eta (writeF_wear ⟨we, ps⟩ _)] at this)
            have HFF := Lib.hid (show j - 1 + (m + 1) ≤ 5 from by omega)
            clear KE RE OE hE GE ZE HOK9
            go_wp2
            go_roundw
            case rel => exact ⟨j - 1, m + 1, we, _, A9, c9, by go_num, HFF.out, KF, OF, HOKF.out, RF, hF.mono (by omega), GF⟩
            case measure => simp [intOf]; omega
        · go_simp
          have Z15 : Blk (w9.alloc (.cells #[.int .i64 0, .slice none 0 0] 67)) (w9.heap.size) 67 #[.int .i64 0, .slice none 0 0] := Blk.new (w9) 67 #[.int .i64 0, .slice none 0 0]
          have h15 : Rdr (w9.alloc (.cells #[.int .i64 0, .slice none 0 0] 67)) B g _ := h9.alloc (.cells #[.int .i64 0, .slice none 0 0] 67)
          have G15 : w.grownBy (w9.alloc (.cells #[.int .i64 0, .slice none 0 0] 67)) (some g) := gb_alloc G9 (.cells #[.int .i64 0, .slice none 0 0] 67)
          have R15 : Blk (w9.alloc (.cells #[.int .i64 0, .slice none 0 0] 67)) w.heap.size 67 _ := R9.alloc (.cells #[.int .i64 0, .slice none 0 0] 67)
          have K15 : Blk (w9.alloc (.cells #[.int .i64 0, .slice none 0 0] 67)) bk 67 _ := K9.alloc (.cells #[.int .i64 0, .slice none 0 0] 67)
          have O15 : (w9.alloc (.cells #[.int .i64 0, .slice none 0 0] 67)).ownsRow w.heap.size 102 5 _ 4 _ := own_below O9 ((Below.refl (w9).heap.size _).alloc (Nat.le_refl _) (.cells #[.int .i64 0, .slice none 0 0] 67))
          have zl : w.heap.size ≤ w9.heap.size := G9.size
          have zg : B ≤ g ∧ g < w9.heap.size := h9.lt
          have zk : bk < w9.heap.size := K9.lt
          have zr : w.heap.size < w9.heap.size := R9.lt
          clear h9 G9 R9 K9 O9
          generalize w9.alloc (.cells #[.int .i64 0, .slice none 0 0] 67) = w15 at *
          generalize hzb : w9.heap.size = zb at *
          refine hK.out _ _ ?_ (fun hHeld => ?_)
          · exact ⟨K15.cell 0, K15.cell 1⟩
          clear hK K hzb
          try simp only [Act.put, List.setIfInBounds_toArray, List.set_cons_zero, List.set_cons_succ, List.getElem_toArray, List.getElem_cons_zero, List.getElem_cons_succ]
          refine wpAnyH_ready (rs := [5]) (by kernel_rfl) (by simp) ?_
          refine AllReadyH.cons rfl (fun K hK => ?_) AllReadyH.nil
          go_simp
          refine (l20Full_c h15 (by omega)).mono ?_
          rintro e w16 ⟨fx, fy, fz, rfl, hfx, hfy, hfz, h16, q16⟩
          have G16 := gb_trans G15 q16
          have R16 := R15.grown q16 (by intro e; injection e with e; omega)
          have K16 := K15.grown q16 (by intro e; injection e with e; omega)
          have Z16 := Z15.grown q16 (by intro e; injection e with e; omega)
          have O16 := own_pick O15 q16 (by omega)
          clear G15 R15 K15 O15 q16 h15 Z15
          go_wp2_with fail
          refine hK.out _ _ ?_ (fun hHeld => ?_)
          · exact ⟨K16.cell 0, K16.cell 1⟩
          clear hK K
          try simp only [Act.put, List.setIfInBounds_toArray, List.set_cons_zero, List.set_cons_succ, List.getElem_toArray, List.getElem_cons_zero, List.getElem_cons_succ]
          refine wpAnyH_ready (rs := [6]) (by kernel_rfl) (by simp) ?_
          refine AllReadyH.cons rfl (fun K hK => ?_) AllReadyH.nil
          go_simp
          have cap := own_cap O16
          have hrg := rdoG O16
          have HPK := Lib.hid (full_ok (s := 1 + u1) hfx hfy hfz (by omega))
          refine (writeBlock_spec hrg (Nat.le_refl _) cap.1 cap.2 HOK.out HPK.out).mono ?_
          rintro e w17 ⟨A9, c9, rfl, o9, b9⟩
          simp only at o9 ⊢
          have HL4 := HOK.out.2.1
          simp only at HL4
          rw [HL4] at o9 ⊢
          have s9 := b9.size
          have h17 := h16.grown (gb_of_below b9 none) (fun k e => by cases e)
          have G17 := gb_step (row := none) G16 (gb_of_below b9 none) (fun k e => by cases e)
          have R17 := R16.below b9 R16.lt
          have K17 := K16.below b9 K16.lt
          have O17 := own_lower o9 (base' := w.heap.size) G16.size
          have Z17 := Z16.below b9 Z16.lt
          have HOK9 := Lib.hid (writeF_ok HOK.out HPK.out rfl)
          clear h16 G16 R16 K16 O16 o9 b9 hrg HL4 Z16
          go_wp2_with fail
          refine hK.out _ _ ?_ (fun hHeld => ?_)
          · exact ⟨K17.cell 0, K17.cell 1⟩
          clear hK K
          try simp only [Act.put, List.setIfInBounds_toArray, List.set_cons_zero, List.set_cons_succ, List.getElem_toArray, List.getElem_cons_zero, List.getElem_cons_succ]
          refine wpAnyH_take (i := 7) (v := ?_) rfl (by kernel_rfl) (by kernel_rfl) (by kernel_rfl) (fun _ _ _ h => h) (Or.inl ⟨by rfl, ?_⟩) (by assumption) ?_
          rotate_left
          · (intro w hSw; (try dsimp only at hSw); go_simp; (try with_reducible rfl))
          try simp only [Act.put, List.setIfInBounds_toArray, List.set_cons_zero, List.set_cons_succ, List.getElem_toArray, List.getElem_cons_zero, List.getElem_cons_succ]
          refine wpAnyH_take (i := 8) (v := ?_) rfl (by kernel_rfl) (by kernel_rfl) (by kernel_rfl) (fun _ _ _ h => h) (Or.inl ⟨by rfl, ?_⟩) (by assumption) ?_
          rotate_left
          · (intro w hSw; (try dsimp only at hSw); go_simp; (try with_reducible rfl))
          try simp only [Act.put, List.setIfInBounds_toArray, List.set_cons_zero, List.set_cons_succ, List.getElem_toArray, List.getElem_cons_zero, List.getElem_cons_succ]
          refine wpAnyH_take (i := 9) (v := ?_) rfl (by kernel_rfl) (by kernel_rfl) (by kernel_rfl) (fun _ _ _ h => h) (Or.inl ⟨by rfl, ?_⟩) (by assumption) ?_
          rotate_left
          · (intro w hSw; (try dsimp only at hSw); go_simp; (try with_reducible rfl))
          try simp only [Act.put, List.setIfInBounds_toArray, List.set_cons_zero, List.set_cons_succ, List.getElem_toArray, List.getElem_cons_zero, List.getElem_cons_succ]
          have zl2 := Z17.lt
          have zg2 := h17.lt
          have z0 := Z17.frozen 0
          have z1 := Z17.frozen 1
          have y0 := Z17.cell 0
          have y1' := Z17.cell 1
          simp at y0 y1'
          refine wpAnyH_ready (rs := [11]) (by kernel_rfl) (by simp) ?_
          refine AllReadyH.cons rfl (fun K hK => ?_) AllReadyH.nil
          go_simp
          have ZE := (Z17.set_ 0 (.int .i64 we)).set_ 1 (.slice A9 4 c9)
          have KE := (K17.far (p := ⟨zb, 0, none⟩) (by show bk ≠ zb; omega) (.int .i64 we)).far (p := ⟨zb, 1, none⟩) (by show bk ≠ zb; omega) (.slice A9 4 c9)
          have RE := (R17.far (p := ⟨zb, 0, none⟩) (by show w.heap.size ≠ zb; omega) (.int .i64 we)).far (p := ⟨zb, 1, none⟩) (by show w.heap.size ≠ zb; omega) (.slice A9 4 c9)
          have OE := own_typed (own_typed O17 (ChgT.blk Z17 0 (.int .i64 we)) (by decide)) (ChgT.blk (Z17.set_ 0 (.int .i64 we)) 1 (.slice A9 4 c9)) (by decide)
          have hE := rdr_set (rdr_set h17 (g' := zb) (i := 0) (by omega) (by omega) (.int .i64 we)) (g' := zb) (i := 1) (by omega) (by omega) (.slice A9 4 c9)
          have GE := gb_set (gb_set G17 (g' := zb) (i := 0) (by omega) (.int .i64 we)) (g' := zb) (i := 1) (by omega) (.slice A9 4 c9)
          clear Z17 K17 R17 O17 h17 G17 z0 z1 y0 y1'
          refine hK.out _ _ ?_ (fun hHeld => ?_)
          · exact ⟨KE.cell 0, KE.cell 1⟩
          clear hK K
          try simp only [Act.put, List.setIfInBounds_toArray, List.set_cons_zero, List.set_cons_succ, List.getElem_toArray, List.getElem_cons_zero, List.getElem_cons_succ]
          generalize (w17.setCell ⟨zb, 0, none⟩ (.int .i64 we)).setCell ⟨zb, 1, none⟩ (.slice A9 4 c9) = wE at *
          refine wpAnyH_take (i := 12) (v := ?_) rfl (by kernel_rfl) (by kernel_rfl) (by kernel_rfl) (fun _ _ _ h => h) (Or.inl ⟨by rfl, ?_⟩) (by assumption) ?_
          rotate_left
          · (intro w hSw; (try dsimp only at hSw); go_simp; (try with_reducible rfl))
          try simp only [Act.put, List.setIfInBounds_toArray, List.set_cons_zero, List.set_cons_succ, List.getElem_toArray, List.getElem_cons_zero, List.getElem_cons_succ]
          refine wpAnyH_done (by kernel_rfl) ?_ _
          clear hHeld
          have e0 := ZE.cell 0
          have e1 := ZE.cell 1
          have f0 := KE.frozen 0
          have f1 := KE.frozen 1
          have d0 := KE.cell 0
          have d1 := KE.cell 1
          simp at e0 e1 d0 d1
          have KF := (KE.set_ 0 (.int .i64 we)).set_ 1 (.slice A9 4 c9)
          simp at KF
          have RF := (RE.far (p := ⟨bk, 0, none⟩) (by show w.heap.size ≠ bk; omega) (.int .i64 we)).far (p := ⟨bk, 1, none⟩) (by show w.heap.size ≠ bk; omega) (.slice A9 4 c9)
          have OF := own_typed (own_typed OE (ChgT.blk KE 0 (.int .i64 we)) (by decide)) (ChgT.blk (KE.set_ 0 (.int .i64 we)) 1 (.slice A9 4 c9)) (by decide)
          have hF := rdr_set (rdr_set hE (g' := bk) (i := 0) (by omega) (by omega) (.int .i64 we)) (g' := bk) (i := 1) (by omega) (by omega) (.slice A9 4 c9)
          have GF := gb_set (gb_set GE (g' := bk) (i := 0) (by omega) (.int .i64 we)) (g' := bk) (i := 1) (by omega) (.slice A9 4 c9)
          have HOKF := Lib.hid (show BlockOk ⟨we, (writeF ⟨we, ps⟩ ⟨true, fx, fy, fz, 1 + u1⟩).pages⟩ from by have := HOK9.out; rwa [← blockV_eta (writeF_wear ⟨we, ps⟩ _)] at this)
          have HFF := Lib.hid (show j - 1 + (m + 1) ≤ 5 from by omega)
          clear KE RE OE hE GE ZE HOK9
          go_wp2
          go_roundw
          case rel => exact ⟨j - 1, m + 1, we, _, A9, c9, by go_num, HFF.out, KF, OF, HOKF.out, RF, hF.mono (by omega), GF⟩
          case measure => simp [intOf]; omega
      · go_simp
        have Z18 : Blk ((wr.alloc (.cells #[.int .i64 0, .slice none 0 0] 67)).drew) (wr.heap.size) 67 #[.int .i64 0, .slice none 0 0] := Blk.new (wr.drew) 67 #[.int .i64 0, .slice none 0 0]
        have h18 : Rdr ((wr.alloc (.cells #[.int .i64 0, .slice none 0 0] 67)).drew) B g _ := h8.alloc (.cells #[.int .i64 0, .slice none 0 0] 67)
        have G18 : w.grownBy ((wr.alloc (.cells #[.int .i64 0, .slice none 0 0] 67)).drew) (some g) := gb_alloc G8 (.cells #[.int .i64 0, .slice none 0 0] 67)
        have R18 : Blk ((wr.alloc (.cells #[.int .i64 0, .slice none 0 0] 67)).drew) w.heap.size 67 _ := R8.alloc (.cells #[.int .i64 0, .slice none 0 0] 67)
        have K18 : Blk ((wr.alloc (.cells #[.int .i64 0, .slice none 0 0] 67)).drew) bk 67 _ := K8.alloc (.cells #[.int .i64 0, .slice none 0 0] 67)
        have O18 : ((wr.alloc (.cells #[.int .i64 0, .slice none 0 0] 67)).drew).ownsRow w.heap.size 102 5 _ 4 _ := own_below O8 ((Below.refl (wr.drew).heap.size _).alloc (Nat.le_refl _) (.cells #[.int .i64 0, .slice none 0 0] 67))
        have zl : w.heap.size ≤ wr.heap.size := G8.size
        have zg : B ≤ g ∧ g < wr.heap.size := h8.lt
        have zk : bk < wr.heap.size := K8.lt
        have zr : w.heap.size < wr.heap.size := R8.lt
        clear h8 G8 R8 K8 O8
        generalize (wr.alloc (.cells #[.int .i64 0, .slice none 0 0] 67)).drew = w18 at *
        generalize hzb : wr.heap.size = zb at *
        refine hK.out _ _ ?_ (fun hHeld => ?_)
        · exact ⟨K18.cell 0, K18.cell 1⟩
        clear hK K hzb
        try simp only [Act.put, List.setIfInBounds_toArray, List.set_cons_zero, List.set_cons_succ, List.getElem_toArray, List.getElem_cons_zero, List.getElem_cons_succ]
        refine wpAnyH_ready (rs := [3]) (by kernel_rfl) (by simp) ?_
        refine AllReadyH.cons rfl (fun K hK => ?_) AllReadyH.nil
        go_simp
        refine (pick_c h18 (by omega)).mono ?_
        rintro e w19 ⟨u1, rfl, hu1, hu1', h19, q19⟩
        have G19 := gb_trans G18 q19
        have R19 := R18.grown q19 (by intro e; injection e with e; omega)
        have K19 := K18.grown q19 (by intro e; injection e with e; omega)
        have Z19 := Z18.grown q19 (by intro e; injection e with e; omega)
        have O19 := own_pick O18 q19 (by omega)
        clear G18 R18 K18 O18 q19 h18 Z18
        go_wp2_with fail
        refine hK.out _ _ ?_ (fun hHeld => ?_)
        · exact ⟨K19.cell 0, K19.cell 1⟩
        clear hK K
        try simp only [Act.put, List.setIfInBounds_toArray, List.set_cons_zero, List.set_cons_succ, List.getElem_toArray, List.getElem_cons_zero, List.getElem_cons_succ]
        have w1a : IntKind.i64.wrap (1 + u1) = 1 + u1 := IntWalk.i64_in _ (by omega)
        refine wpAnyH_take (i := 4) (v := ?_) rfl (by kernel_rfl) (by kernel_rfl) (by kernel_rfl) (fun _ _ _ h => h) (Or.inl ⟨by rfl, ?_⟩) (by assumption) ?_
        rotate_left
        · (intro w hSw; (try dsimp only at hSw); go_simp; (try with_reducible rfl))
        try simp only [Act.put, List.setIfInBounds_toArray, List.set_cons_zero, List.set_cons_succ, List.getElem_toArray, List.getElem_cons_zero, List.getElem_cons_succ]
        refine wpAnyH_ready (rs := [5]) (by kernel_rfl) (by simp) ?_
        refine AllReadyH.cons rfl (fun K hK => ?_) AllReadyH.nil
        go_simp
        refine (l20Full_c h19 (by omega)).mono ?_
        rintro e w20 ⟨fx, fy, fz, rfl, hfx, hfy, hfz, h20, q20⟩
        have G20 := gb_trans G19 q20
        have R20 := R19.grown q20 (by intro e; injection e with e; omega)
        have K20 := K19.grown q20 (by intro e; injection e with e; omega)
        have Z20 := Z19.grown q20 (by intro e; injection e with e; omega)
        have O20 := own_pick O19 q20 (by omega)
        clear G19 R19 K19 O19 q20 h19 Z19
        go_wp2_with fail
        refine hK.out _ _ ?_ (fun hHeld => ?_)
        · exact ⟨K20.cell 0, K20.cell 1⟩
        clear hK K
        try simp only [Act.put, List.setIfInBounds_toArray, List.set_cons_zero, List.set_cons_succ, List.getElem_toArray, List.getElem_cons_zero, List.getElem_cons_succ]
        refine wpAnyH_ready (rs := [6]) (by kernel_rfl) (by simp) ?_
        refine AllReadyH.cons rfl (fun K hK => ?_) AllReadyH.nil
        go_simp
        have cap := own_cap O20
        have hrg := rdoG O20
        have HPK := Lib.hid (full_ok (s := 1 + u1) hfx hfy hfz (by omega))
        refine (writeBlock_spec hrg (Nat.le_refl _) cap.1 cap.2 HOK.out HPK.out).mono ?_
        rintro e w21 ⟨A9, c9, rfl, o9, b9⟩
        simp only at o9 ⊢
        have HL4 := HOK.out.2.1
        simp only at HL4
        rw [HL4] at o9 ⊢
        have s9 := b9.size
        have h21 := h20.grown (gb_of_below b9 none) (fun k e => by cases e)
        have G21 := gb_step (row := none) G20 (gb_of_below b9 none) (fun k e => by cases e)
        have R21 := R20.below b9 R20.lt
        have K21 := K20.below b9 K20.lt
        have O21 := own_lower o9 (base' := w.heap.size) G20.size
        have Z21 := Z20.below b9 Z20.lt
        have HOK9 := Lib.hid (writeF_ok HOK.out HPK.out rfl)
        clear h20 G20 R20 K20 O20 o9 b9 hrg HL4 Z20
        go_wp2_with fail
        refine hK.out _ _ ?_ (fun hHeld => ?_)
        · exact ⟨K21.cell 0, K21.cell 1⟩
        clear hK K
        try simp only [Act.put, List.setIfInBounds_toArray, List.set_cons_zero, List.set_cons_succ, List.getElem_toArray, List.getElem_cons_zero, List.getElem_cons_succ]
        refine wpAnyH_take (i := 7) (v := ?_) rfl (by kernel_rfl) (by kernel_rfl) (by kernel_rfl) (fun _ _ _ h => h) (Or.inl ⟨by rfl, ?_⟩) (by assumption) ?_
        rotate_left
        · (intro w hSw; (try dsimp only at hSw); go_simp; (try with_reducible rfl))
        try simp only [Act.put, List.setIfInBounds_toArray, List.set_cons_zero, List.set_cons_succ, List.getElem_toArray, List.getElem_cons_zero, List.getElem_cons_succ]
        refine wpAnyH_take (i := 8) (v := ?_) rfl (by kernel_rfl) (by kernel_rfl) (by kernel_rfl) (fun _ _ _ h => h) (Or.inl ⟨by rfl, ?_⟩) (by assumption) ?_
        rotate_left
        · (intro w hSw; (try dsimp only at hSw); go_simp; (try with_reducible rfl))
        try simp only [Act.put, List.setIfInBounds_toArray, List.set_cons_zero, List.set_cons_succ, List.getElem_toArray, List.getElem_cons_zero, List.getElem_cons_succ]
        refine wpAnyH_take (i := 9) (v := ?_) rfl (by kernel_rfl) (by kernel_rfl) (by kernel_rfl) (fun _ _ _ h => h) (Or.inl ⟨by rfl, ?_⟩) (by assumption) ?_
        rotate_left
        · (intro w hSw; (try dsimp only at hSw); go_simp; (try with_reducible rfl))
        try simp only [Act.put, List.setIfInBounds_toArray, List.set_cons_zero, List.set_cons_succ, List.getElem_toArray, List.getElem_cons_zero, List.getElem_cons_succ]
        have zl2 := Z21.lt
        have zg2 := h21.lt
        have z0 := Z21.frozen 0
        have z1 := Z21.frozen 1
        have y0 := Z21.cell 0
        have y1' := Z21.cell 1
        simp at y0 y1'
        refine wpAnyH_ready (rs := [11]) (by kernel_rfl) (by simp) ?_
        refine AllReadyH.cons rfl (fun K hK => ?_) AllReadyH.nil
        go_simp
        have ZE := (Z21.set_ 0 (.int .i64 we)).set_ 1 (.slice A9 4 c9)
        have KE := (K21.far (p := ⟨zb, 0, none⟩) (by show bk ≠ zb; omega) (.int .i64 we)).far (p := ⟨zb, 1, none⟩) (by show bk ≠ zb; omega) (.slice A9 4 c9)
        have RE := (R21.far (p := ⟨zb, 0, none⟩) (by show w.heap.size ≠ zb; omega) (.int .i64 we)).far (p := ⟨zb, 1, none⟩) (by show w.heap.size ≠ zb; omega) (.slice A9 4 c9)
        have OE := own_typed (own_typed O21 (ChgT.blk Z21 0 (.int .i64 we)) (by decide)) (ChgT.blk (Z21.set_ 0 (.int .i64 we)) 1 (.slice A9 4 c9)) (by decide)
        have hE := rdr_set (rdr_set h21 (g' := zb) (i := 0) (by omega) (by omega) (.int .i64 we)) (g' := zb) (i := 1) (by omega) (by omega) (.slice A9 4 c9)
        have GE := gb_set (gb_set G21 (g' := zb) (i := 0) (by omega) (.int .i64 we)) (g' := zb) (i := 1) (by omega) (.slice A9 4 c9)
        clear Z21 K21 R21 O21 h21 G21 z0 z1 y0 y1'
        refine hK.out _ _ ?_ (fun hHeld => ?_)
        · exact ⟨KE.cell 0, KE.cell 1⟩
        clear hK K
        try simp only [Act.put, List.setIfInBounds_toArray, List.set_cons_zero, List.set_cons_succ, List.getElem_toArray, List.getElem_cons_zero, List.getElem_cons_succ]
        generalize (w21.setCell ⟨zb, 0, none⟩ (.int .i64 we)).setCell ⟨zb, 1, none⟩ (.slice A9 4 c9) = wE at *
        refine wpAnyH_take (i := 12) (v := ?_) rfl (by kernel_rfl) (by kernel_rfl) (by kernel_rfl) (fun _ _ _ h => h) (Or.inl ⟨by rfl, ?_⟩) (by assumption) ?_
        rotate_left
        · (intro w hSw; (try dsimp only at hSw); go_simp; (try with_reducible rfl))
        try simp only [Act.put, List.setIfInBounds_toArray, List.set_cons_zero, List.set_cons_succ, List.getElem_toArray, List.getElem_cons_zero, List.getElem_cons_succ]
        refine wpAnyH_done (by kernel_rfl) ?_ _
        clear hHeld
        have e0 := ZE.cell 0
        have e1 := ZE.cell 1
        have f0 := KE.frozen 0
        have f1 := KE.frozen 1
        have d0 := KE.cell 0
        have d1 := KE.cell 1
        simp at e0 e1 d0 d1
        have KF := (KE.set_ 0 (.int .i64 we)).set_ 1 (.slice A9 4 c9)
        simp at KF
        have RF := (RE.far (p := ⟨bk, 0, none⟩) (by show w.heap.size ≠ bk; omega) (.int .i64 we)).far (p := ⟨bk, 1, none⟩) (by show w.heap.size ≠ bk; omega) (.slice A9 4 c9)
        have OF := own_typed (own_typed OE (ChgT.blk KE 0 (.int .i64 we)) (by decide)) (ChgT.blk (KE.set_ 0 (.int .i64 we)) 1 (.slice A9 4 c9)) (by decide)
        have hF := rdr_set (rdr_set hE (g' := bk) (i := 0) (by omega) (by omega) (.int .i64 we)) (g' := bk) (i := 1) (by omega) (by omega) (.slice A9 4 c9)
        have GF := gb_set (gb_set GE (g' := bk) (i := 0) (by omega) (.int .i64 we)) (g' := bk) (i := 1) (by omega) (.slice A9 4 c9)
        have HOKF := Lib.hid (show BlockOk ⟨we, (writeF ⟨we, ps⟩ ⟨true, fx, fy, fz, 1 + u1⟩).pages⟩ from by have := HOK9.out; rwa [← blockV_eta (writeF_wear ⟨we, ps⟩ _)] at this)
        have HFF := Lib.hid (show j - 1 + (m + 1) ≤ 5 from by omega)
        clear KE RE OE hE GE ZE HOK9
        go_wp2
        go_roundw
        case rel => exact ⟨j - 1, m + 1, we, _, A9, c9, by go_num, HFF.out, KF, OF, HOKF.out, RF, hF.mono (by omega), GF⟩
        case measure => simp [intOf]; omega
    · obtain rfl : j = 0 := by omega
      go_wp2_with fail
      refine (odd_c h7 (by omega) hn1 hn2).mono ?_
      rintro e w8 ⟨b, rfl, h8, q8⟩
      have G8 := gb_trans G7 q8
      have R8 := R7.grown q8 (by intro e; injection e with e; omega)
      have K8 := K7.grown q8 (by intro e; injection e with e; omega)
      have O8 := own_pick O7 q8 (by omega)
      clear G7 R7 K7 O7 q8 h7 
      have cap := own_cap O8
      cases b
      · have d0 := K8.cell 0
        have d1 := K8.cell 1
        have f0 := R8.cell 0
        have f1 := R8.cell 1
        have z0 := R8.frozen 0
        have z1 := R8.frozen 1
        simp at d0 d1 f0 f1
        have RE := (R8.set_ 0 (.int .i64 we)).set_ 1 (.slice A 4 c)
        have e0 := RE.cell 0
        have e1 := RE.cell 1
        simp at e0 e1
        have OE := own_typed (own_typed O8 (ChgT.blk R8 0 (.int .i64 we)) (by decide)) (ChgT.blk (R8.set_ 0 (.int .i64 we)) 1 (.slice A 4 c)) (by decide)
        have HE := Lib.hid (rdr_set (rdr_set h8 (g' := w.heap.size) (i := 0) (by omega) (by omega) (.int .i64 we)) (g' := w.heap.size) (i := 1) (by omega) (by omega) (.slice A 4 c))
        have GE := Lib.hid (gb_set (gb_set G8 (g' := w.heap.size) (i := 0) (by omega) (.int .i64 we)) (g' := w.heap.size) (i := 1) (by omega) (.slice A 4 c))
        have OZ := Lib.hid OE
        clear OE
        go_wp2
        generalize (w8.setCell ⟨w.heap.size, 0, none⟩ (.int .i64 we)).setCell ⟨w.heap.size, 1, none⟩ (.slice A 4 c) = wz at *
        refine bodyPost_ret (by simp [results, Try.results83, go_sem, e0, e1]; try rfl) rfl ?_
        exact bkPost_of (b := ⟨we, ps⟩) (OZ.out.1 |> fun _ => own_pagesLen OZ.out) cap.1 cap.2 (rdG_all OZ.out) (HE.out.mono (by omega)) GE.out
      · go_wp2_with fail
        refine (pick_c h8 (by omega)).mono ?_
        rintro e w9 ⟨s1, rfl, hs1, hs1', h9, q9⟩
        have G9 := gb_trans G8 q9
        have R9 := R8.grown q9 (by intro e; injection e with e; omega)
        have K9 := K8.grown q9 (by intro e; injection e with e; omega)
        have O9 := own_pick O8 q9 (by omega)
        clear G8 R8 K8 O8 q9 h8 
        have hs : s1 = 0 ∨ s1 = 1 ∨ s1 = 2 ∨ s1 = 3 := by omega
        rcases hs with rfl | rfl | rfl | rfl
        · go_wp2_with fail
          have h10 := h9.alloc (.cells #[.int .i64 (-1), .int .i64 101] 3)
          have G10 := gb_alloc G9 (.cells #[.int .i64 (-1), .int .i64 101] 3)
          have R10 := R9.alloc (.cells #[.int .i64 (-1), .int .i64 101] 3)
          have K10 := K9.alloc (.cells #[.int .i64 (-1), .int .i64 101] 3)
          have O10 := own_below O9 ((Below.refl w9.heap.size w9).alloc (Nat.le_refl _) (.cells #[.int .i64 (-1), .int .i64 101] 3))
          have N10 := Blk.new w9 3 #[.int .i64 (-1), .int .i64 101]
          have l9 := h9.lt
          have k9l := K9.lt
          have r9l := R9.lt
          clear h9 G9 R9 K9 O9
          generalize w9.alloc (.cells #[.int .i64 (-1), .int .i64 101] 3) = w10 at *
          generalize hnb : w9.heap.size = nb at *
          refine (pick_c h10 (by omega)).mono ?_
          rintro e w11 ⟨s2, rfl, hs2, hs2', h11, q11⟩
          have G11 := gb_trans G10 q11
          have R11 := R10.grown q11 (by intro e; injection e with e; omega)
          have K11 := K10.grown q11 (by intro e; injection e with e; omega)
          have N11 := N10.grown q11 (by intro e; injection e with e; omega)
          have O11 := own_pick O10 q11 (by omega)
          clear G10 R10 K10 O10 q11 h10 N10
          have hs2x : s2 = 0 ∨ s2 = 1 := by omega
          rcases hs2x with rfl | rfl
          · have a0 := N11.cell 0
            have d0 := K11.cell 0
            have d1 := K11.cell 1
            have z0 := K11.frozen 0
            simp at a0 d0 d1
            go_upto_region 17 with (fail)
            have K12 := K11.set_ 0 (.int .i64 (-1))
            have R12 := R11.far (p := ⟨bk, 0, none⟩) (by show w.heap.size ≠ bk; omega) (.int .i64 (-1))
            have O12 := own_typed O11 (ChgT.blk K11 0 (.int .i64 (-1))) (by decide)
            have h12 := rdr_set h11 (g' := bk) (i := 0) (by omega) (by omega) (.int .i64 (-1))
            have G12 := gb_set G11 (g' := bk) (i := 0) (by omega) (.int .i64 (-1))
            simp at K12
            clear K11 R11 O11 h11 G11 N11 a0 d0 d1 z0
            generalize w11.setCell ⟨bk, 0, none⟩ (.int .i64 (-1)) = w12 at *
            have d0 := K12.cell 0
            have d1 := K12.cell 1
            have f0 := R12.cell 0
            have f1 := R12.cell 1
            have z0 := R12.frozen 0
            have z1 := R12.frozen 1
            simp at d0 d1 f0 f1
            have RE := (R12.set_ 0 (.int .i64 (-1))).set_ 1 (.slice A 4 c)
            have e0 := RE.cell 0
            have e1 := RE.cell 1
            simp at e0 e1
            have OE := own_typed (own_typed O12 (ChgT.blk R12 0 (.int .i64 (-1))) (by decide)) (ChgT.blk (R12.set_ 0 (.int .i64 (-1))) 1 (.slice A 4 c)) (by decide)
            have HE := Lib.hid (rdr_set (rdr_set h12 (g' := w.heap.size) (i := 0) (by omega) (by omega) (.int .i64 (-1))) (g' := w.heap.size) (i := 1) (by omega) (by omega) (.slice A 4 c))
            have GE := Lib.hid (gb_set (gb_set G12 (g' := w.heap.size) (i := 0) (by omega) (.int .i64 (-1))) (g' := w.heap.size) (i := 1) (by omega) (.slice A 4 c))
            have OZ := Lib.hid OE
            clear OE
            go_wp2
            generalize (w12.setCell ⟨w.heap.size, 0, none⟩ (.int .i64 (-1))).setCell ⟨w.heap.size, 1, none⟩ (.slice A 4 c) = wz at *
            refine bodyPost_ret (by simp [results, Try.results83, go_sem, e0, e1]; try rfl) rfl ?_
            exact bkPost_of (b := ⟨(-1), ps⟩) (OZ.out.1 |> fun _ => own_pagesLen OZ.out) cap.1 cap.2 (rdG_all OZ.out) (HE.out.mono (by omega)) GE.out
          · have a0 := N11.cell 1
            have d0 := K11.cell 0
            have d1 := K11.cell 1
            have z0 := K11.frozen 0
            simp at a0 d0 d1
            go_upto_region 17 with (fail)
            have K12 := K11.set_ 0 (.int .i64 101)
            have R12 := R11.far (p := ⟨bk, 0, none⟩) (by show w.heap.size ≠ bk; omega) (.int .i64 101)
            have O12 := own_typed O11 (ChgT.blk K11 0 (.int .i64 101)) (by decide)
            have h12 := rdr_set h11 (g' := bk) (i := 0) (by omega) (by omega) (.int .i64 101)
            have G12 := gb_set G11 (g' := bk) (i := 0) (by omega) (.int .i64 101)
            simp at K12
            clear K11 R11 O11 h11 G11 N11 a0 d0 d1 z0
            generalize w11.setCell ⟨bk, 0, none⟩ (.int .i64 101) = w12 at *
            have d0 := K12.cell 0
            have d1 := K12.cell 1
            have f0 := R12.cell 0
            have f1 := R12.cell 1
            have z0 := R12.frozen 0
            have z1 := R12.frozen 1
            simp at d0 d1 f0 f1
            have RE := (R12.set_ 0 (.int .i64 101)).set_ 1 (.slice A 4 c)
            have e0 := RE.cell 0
            have e1 := RE.cell 1
            simp at e0 e1
            have OE := own_typed (own_typed O12 (ChgT.blk R12 0 (.int .i64 101)) (by decide)) (ChgT.blk (R12.set_ 0 (.int .i64 101)) 1 (.slice A 4 c)) (by decide)
            have HE := Lib.hid (rdr_set (rdr_set h12 (g' := w.heap.size) (i := 0) (by omega) (by omega) (.int .i64 101)) (g' := w.heap.size) (i := 1) (by omega) (by omega) (.slice A 4 c))
            have GE := Lib.hid (gb_set (gb_set G12 (g' := w.heap.size) (i := 0) (by omega) (.int .i64 101)) (g' := w.heap.size) (i := 1) (by omega) (.slice A 4 c))
            have OZ := Lib.hid OE
            clear OE
            go_wp2
            generalize (w12.setCell ⟨w.heap.size, 0, none⟩ (.int .i64 101)).setCell ⟨w.heap.size, 1, none⟩ (.slice A 4 c) = wz at *
            refine bodyPost_ret (by simp [results, Try.results83, go_sem, e0, e1]; try rfl) rfl ?_
            exact bkPost_of (b := ⟨101, ps⟩) (OZ.out.1 |> fun _ => own_pagesLen OZ.out) cap.1 cap.2 (rdG_all OZ.out) (HE.out.mono (by omega)) GE.out
        · obtain ⟨gp, rfl, hg1, hg2⟩ := own_form4 O9
          have d0 := K9.cell 0
          have d1 := K9.cell 1
          have z1 := K9.frozen 1
          simp at d0 d1
          go_upto_region 17 with (fail)
          have K12 := K9.set_ 1 (.slice (some ⟨gp, 5, none⟩) 3 (c - 1))
          have R12 := R9.far (p := ⟨bk, 1, none⟩) (by show w.heap.size ≠ bk; omega) (.slice (some ⟨gp, 5, none⟩) 3 (c - 1))
          have O12 := own_typed O9 (ChgT.blk K9 1 (.slice (some ⟨gp, 5, none⟩) 3 (c - 1))) (by decide)
          have h12 := rdr_set h9 (g' := bk) (i := 1) (by omega) (by omega) (.slice (some ⟨gp, 5, none⟩) 3 (c - 1))
          have G12 := gb_set G9 (g' := bk) (i := 1) (by omega) (.slice (some ⟨gp, 5, none⟩) 3 (c - 1))
          simp at K12
          clear K9 R9 O9 h9 G9 d0 d1 z1
          generalize w9.setCell ⟨bk, 1, none⟩ (.slice (some ⟨gp, 5, none⟩) 3 (c - 1)) = w12 at *
          have d0 := K12.cell 0
          have d1 := K12.cell 1
          have f0 := R12.cell 0
          have f1 := R12.cell 1
          have z0 := R12.frozen 0
          have z1 := R12.frozen 1
          simp at d0 d1 f0 f1
          have RE := (R12.set_ 0 (.int .i64 we)).set_ 1 (.slice (some ⟨gp, 5, none⟩) 3 (c - 1))
          have e0 := RE.cell 0
          have e1 := RE.cell 1
          simp at e0 e1
          have OE := own_typed (own_typed O12 (ChgT.blk R12 0 (.int .i64 we)) (by decide)) (ChgT.blk (R12.set_ 0 (.int .i64 we)) 1 (.slice (some ⟨gp, 5, none⟩) 3 (c - 1))) (by decide)
          have HE := Lib.hid (rdr_set (rdr_set h12 (g' := w.heap.size) (i := 0) (by omega) (by omega) (.int .i64 we)) (g' := w.heap.size) (i := 1) (by omega) (by omega) (.slice (some ⟨gp, 5, none⟩) 3 (c - 1)))
          have GE := Lib.hid (gb_set (gb_set G12 (g' := w.heap.size) (i := 0) (by omega) (.int .i64 we)) (g' := w.heap.size) (i := 1) (by omega) (.slice (some ⟨gp, 5, none⟩) 3 (c - 1)))
          have OZ := Lib.hid OE
          clear OE
          go_wp2
          generalize (w12.setCell ⟨w.heap.size, 0, none⟩ (.int .i64 we)).setCell ⟨w.heap.size, 1, none⟩ (.slice (some ⟨gp, 5, none⟩) 3 (c - 1)) = wz at *
          refine bodyPost_ret (by simp [results, Try.results83, go_sem, e0, e1]; try rfl) rfl ?_
          exact bkPost_of (b := ⟨we, ps.drop 1⟩) (by have := own_pagesLen OZ.out; simp; omega) (by have := cap.1; omega) (by have := cap.2; omega) (rdG_tail OZ.out) (HE.out.mono (by omega)) GE.out
        · obtain ⟨gp, rfl, hg1, hg2⟩ := own_form4 O9
          have d0 := K9.cell 0
          have d1 := K9.cell 1
          simp at d0 d1
          obtain ⟨c0, c1, c2, c3, c4⟩ := own_pageCells O9 0 (by omega)
          have z0 := O9.frozenAt (g := gp) (cap := c) 0
          have z1 := O9.frozenAt (g := gp) (cap := c) 1
          have z2 := O9.frozenAt (g := gp) (cap := c) 2
          have z3 := O9.frozenAt (g := gp) (cap := c) 3
          have z4 := O9.frozenAt (g := gp) (cap := c) 4
          simp only [Nat.zero_mul, Nat.zero_add] at c0 c1 c2 c3 c4
          obtain ⟨O10, q10⟩ := own_putPage O9 0 (by omega) ⟨false, 0, 0, 0, 0⟩
          have nbk := own_ne_blk O9 K9 (by decide)
          have nrk := own_ne_blk O9 R9 (by decide)
          have K10 := K9.grown q10 (by intro e; injection e with e; exact nbk e)
          have R10 := R9.grown q10 (by intro e; injection e with e; exact nrk e)
          have h10 := h9.grown q10 (fun k e => by injection e with e; omega)
          have G10 := gb_step G9 q10 (fun k e => by injection e with e; omega)
          unfold putPage at O10 K10 R10 h10 G10 q10
          simp only [Nat.zero_mul, Nat.zero_add] at O10 K10 R10 h10 G10 q10
          go_upto_region 16 with (fail)
          clear K9 R9 h9 G9 O9 c0 c1 c2 c3 c4 z0 z1 z2 z3 z4 d0 d1 q10
          generalize ((((w9.setCell ⟨gp, 0, none⟩ (.bool false)).setCell ⟨gp, 1, none⟩ (.int .i64 0)).setCell ⟨gp, 2, none⟩ (.int .i64 0)).setCell ⟨gp, 3, none⟩ (.int .i64 0)).setCell ⟨gp, 4, none⟩ (.int .i64 0) = w10 at *
          have d0 := K10.cell 0
          have d1 := K10.cell 1
          simp at d0 d1
          obtain ⟨c0, c1, c2, c3, c4⟩ := own_pageCells O10 1 (by omega)
          have z0 := O10.frozenAt (g := gp) (cap := c) 5
          have z1 := O10.frozenAt (g := gp) (cap := c) 6
          have z2 := O10.frozenAt (g := gp) (cap := c) 7
          have z3 := O10.frozenAt (g := gp) (cap := c) 8
          have z4 := O10.frozenAt (g := gp) (cap := c) 9
          simp only [Nat.one_mul, Nat.reduceAdd] at c0 c1 c2 c3 c4
          obtain ⟨O12, q12⟩ := own_putPage O10 1 (by omega) ⟨true, 0, 0, 0, 1⟩
          have K12 := K10.grown q12 (by intro e; injection e with e; exact nbk e)
          have R12 := R10.grown q12 (by intro e; injection e with e; exact nrk e)
          have h12 := h10.grown q12 (fun k e => by injection e with e; omega)
          have G12 := gb_step G10 q12 (fun k e => by injection e with e; omega)
          unfold putPage at O12 K12 R12 h12 G12 q12
          simp only [Nat.one_mul, Nat.reduceAdd] at O12 K12 R12 h12 G12 q12
          go_upto_region 17 with (fail)
          clear K10 R10 h10 G10 O10 c0 c1 c2 c3 c4 z0 z1 z2 z3 z4 d0 d1 q12
          generalize ((((w10.setCell ⟨gp, 5, none⟩ (.bool true)).setCell ⟨gp, 6, none⟩ (.int .i64 0)).setCell ⟨gp, 7, none⟩ (.int .i64 0)).setCell ⟨gp, 8, none⟩ (.int .i64 0)).setCell ⟨gp, 9, none⟩ (.int .i64 1) = w12 at *
          have d0 := K12.cell 0
          have d1 := K12.cell 1
          have f0 := R12.cell 0
          have f1 := R12.cell 1
          have z0 := R12.frozen 0
          have z1 := R12.frozen 1
          simp at d0 d1 f0 f1
          have RE := (R12.set_ 0 (.int .i64 we)).set_ 1 (.slice (some ⟨gp, 0, none⟩) 4 c)
          have e0 := RE.cell 0
          have e1 := RE.cell 1
          simp at e0 e1
          have OE := own_typed (own_typed O12 (ChgT.blk R12 0 (.int .i64 we)) (by decide)) (ChgT.blk (R12.set_ 0 (.int .i64 we)) 1 (.slice (some ⟨gp, 0, none⟩) 4 c)) (by decide)
          have HE := Lib.hid (rdr_set (rdr_set h12 (g' := w.heap.size) (i := 0) (by omega) (by omega) (.int .i64 we)) (g' := w.heap.size) (i := 1) (by omega) (by omega) (.slice (some ⟨gp, 0, none⟩) 4 c))
          have GE := Lib.hid (gb_set (gb_set G12 (g' := w.heap.size) (i := 0) (by omega) (.int .i64 we)) (g' := w.heap.size) (i := 1) (by omega) (.slice (some ⟨gp, 0, none⟩) 4 c))
          have OZ := Lib.hid OE
          clear OE
          go_wp2
          generalize (w12.setCell ⟨w.heap.size, 0, none⟩ (.int .i64 we)).setCell ⟨w.heap.size, 1, none⟩ (.slice (some ⟨gp, 0, none⟩) 4 c) = wz at *
          refine bodyPost_ret (by simp [results, Try.results83, go_sem, e0, e1]; try rfl) rfl ?_
          exact bkPost_of (b := ⟨we, _⟩) (OZ.out.1 |> fun _ => own_pagesLen OZ.out) cap.1 cap.2 (rdG_all OZ.out) (HE.out.mono (by omega)) GE.out
        · obtain ⟨gp, rfl, hg1, hg2⟩ := own_form4 O9
          have d0 := K9.cell 0
          have d1 := K9.cell 1
          simp at d0 d1
          go_upto_region 9 with (fail)
          refine wp_region_held_drew (S := fun w' => w'.cell? ⟨bk, 0, none⟩ = some (.int .i64 we) ∧ w'.cell? ⟨bk, 1, none⟩ = some (.slice (some ⟨gp, 0, none⟩) 4 c)) (by kernel_rfl) ?_ (fun hHeld => ?_)
          · exact ⟨d0, d1⟩
          refine wpAnyH_take (i := 0) (v := ?_) rfl (by kernel_rfl) (by kernel_rfl) (by kernel_rfl) (fun _ _ _ h => h) (Or.inl ⟨by rfl, ?_⟩) (by assumption) ?_
          rotate_left
          · (intro w hSw; (try dsimp only at hSw); go_simp; (try with_reducible rfl))
          try simp only [Act.put, List.setIfInBounds_toArray, List.set_cons_zero, List.set_cons_succ, List.getElem_toArray, List.getElem_cons_zero, List.getElem_cons_succ]
          refine wpAnyH_take (i := 1) (v := ?_) rfl (by kernel_rfl) (by kernel_rfl) (by kernel_rfl) (fun _ _ _ h => h) (Or.inl ⟨by rfl, ?_⟩) (by assumption) ?_
          rotate_left
          · (intro w hSw; (try dsimp only at hSw); go_simp; (try with_reducible rfl))
          try simp only [Act.put, List.setIfInBounds_toArray, List.set_cons_zero, List.set_cons_succ, List.getElem_toArray, List.getElem_cons_zero, List.getElem_cons_succ]
          refine wpAnyH_take (i := 2) (v := ?_) rfl (by kernel_rfl) (by kernel_rfl) (by kernel_rfl) (fun _ _ _ h => h) (Or.inl ⟨by rfl, ?_⟩) (by assumption) ?_
          rotate_left
          · (intro w hSw; (try dsimp only at hSw); go_simp; (try with_reducible rfl))
          try simp only [Act.put, List.setIfInBounds_toArray, List.set_cons_zero, List.set_cons_succ, List.getElem_toArray, List.getElem_cons_zero, List.getElem_cons_succ]
          refine wpAnyH_take (i := 4) (v := ?_) rfl (by kernel_rfl) (by kernel_rfl) (by kernel_rfl) (fun _ _ _ h => h) (Or.inl ⟨by rfl, ?_⟩) (by assumption) ?_
          rotate_left
          · (intro w hSw; (try dsimp only at hSw); go_simp; (try with_reducible rfl))
          try simp only [Act.put, List.setIfInBounds_toArray, List.set_cons_zero, List.set_cons_succ, List.getElem_toArray, List.getElem_cons_zero, List.getElem_cons_succ]
          have K10 : Blk w9.drew bk 67 _ := K9
          have O10 := own_below O9 ((Below.refl _ _).drew)
          have R10 : Blk w9.drew w.heap.size 67 _ := R9
          have h10 := h9.drew
          have G10 := gb_drew G9
          clear K9 O9 R9 h9 G9 d0 d1
          refine wpAnyH_ready (rs := [3]) (by kernel_rfl) (by simp) ?_
          refine AllReadyH.cons rfl (fun K hK => ?_) AllReadyH.nil
          go_simp
          refine (pick_c h10 (by omega)).mono ?_
          rintro e w11 ⟨s2, rfl, hs2, hs2', h11, q11⟩
          have G11 := gb_trans G10 q11
          have R11 := R10.grown q11 (by intro e; injection e with e; omega)
          have K11 := K10.grown q11 (by intro e; injection e with e; omega)
          have O11 := own_pick O10 q11 (by omega)
          clear G10 R10 K10 O10 q11 h10 
          go_wp2_with fail
          refine hK.out _ _ ?_ (fun hHeld => ?_)
          · exact ⟨K11.cell 0, K11.cell 1⟩
          clear hK K
          try simp only [Act.put, List.setIfInBounds_toArray, List.set_cons_zero, List.set_cons_succ, List.getElem_toArray, List.getElem_cons_zero, List.getElem_cons_succ]
          refine wpAnyH_ready (rs := [5]) (by kernel_rfl) (by simp) ?_
          refine AllReadyH.cons rfl (fun K hK => ?_) AllReadyH.nil
          go_simp
          refine (l20Page_c h11 (by omega) (by omega) (by omega)).mono ?_
          rintro e w12 ⟨⟨pf, px, py, pz, pst⟩, rfl, h12, q12⟩
          have G12 := gb_trans G11 q12
          have R12 := R11.grown q12 (by intro e; injection e with e; omega)
          have K12 := K11.grown q12 (by intro e; injection e with e; omega)
          have O12 := own_pick O11 q12 (by omega)
          clear G11 R11 K11 O11 q12 h11 
          go_wp2_with fail
          refine hK.out _ _ ?_ (fun hHeld => ?_)
          · exact ⟨K12.cell 0, K12.cell 1⟩
          clear hK K
          try simp only [Act.put, List.setIfInBounds_toArray, List.set_cons_zero, List.set_cons_succ, List.getElem_toArray, List.getElem_cons_zero, List.getElem_cons_succ]
          obtain ⟨t, rfl⟩ := Int.eq_ofNat_of_zero_le hs2
          have ht : t < 4 := by omega
          have hti : (t : Int) < 4 := by omega
          clear hs2 hs2'
          refine wpAnyH_take (i := 6) (v := ?_) rfl (by kernel_rfl) (by kernel_rfl) (by kernel_rfl) (fun _ _ _ h => h) (Or.inl ⟨by rfl, ?_⟩) (by assumption) ?_
          rotate_left
          · (intro w hSw; (try dsimp only at hSw); go_simp; (try with_reducible rfl))
          try simp only [Act.put, List.setIfInBounds_toArray, List.set_cons_zero, List.set_cons_succ, List.getElem_toArray, List.getElem_cons_zero, List.getElem_cons_succ]
          obtain ⟨c0, c1, c2, c3, c4⟩ := own_pageCells O12 t ht
          have z0 := O12.frozenAt (g := gp) (cap := c) (t * 5)
          have z1 := O12.frozenAt (g := gp) (cap := c) (t * 5 + 1)
          have z2 := O12.frozenAt (g := gp) (cap := c) (t * 5 + 2)
          have z3 := O12.frozenAt (g := gp) (cap := c) (t * 5 + 3)
          have z4 := O12.frozenAt (g := gp) (cap := c) (t * 5 + 4)
          obtain ⟨O13, q13⟩ := own_putPage O12 t ht ⟨pf, px, py, pz, pst⟩
          have nbk := own_ne_blk O12 K12 (by decide)
          have nrk := own_ne_blk O12 R12 (by decide)
          have K13 := K12.grown q13 (by intro e; injection e with e; exact nbk e)
          have R13 := R12.grown q13 (by intro e; injection e with e; exact nrk e)
          have h13 := h12.grown q13 (fun k e => by injection e with e; omega)
          have G13 := gb_step G12 q13 (fun k e => by injection e with e; omega)
          unfold putPage at O13 K13 R13 h13 G13 q13
          simp only at O13 K13 R13 h13 G13 q13
          refine wpAnyH_ready (rs := [7]) (by kernel_rfl) (by simp) ?_
          refine AllReadyH.cons rfl (fun K hK => ?_) AllReadyH.nil
          go_simp
          refine hK.out _ _ ?_ (fun hHeld => ?_)
          · exact ⟨K13.cell 0, K13.cell 1⟩
          clear hK K
          try simp only [Act.put, List.setIfInBounds_toArray, List.set_cons_zero, List.set_cons_succ, List.getElem_toArray, List.getElem_cons_zero, List.getElem_cons_succ]
          refine wpAnyH_done (by kernel_rfl) ?_ _
          clear hHeld c0 c1 c2 c3 c4 z0 z1 z2 z3 z4 K12 R12 h12 G12 O12 q13
          generalize ((((w12.setCell ⟨gp, t * 5, none⟩ (.bool pf)).setCell ⟨gp, t * 5 + 1, none⟩ (.int .i64 px)).setCell ⟨gp, t * 5 + 2, none⟩ (.int .i64 py)).setCell ⟨gp, t * 5 + 3, none⟩ (.int .i64 pz)).setCell ⟨gp, t * 5 + 4, none⟩ (.int .i64 pst) = w13 at *
          have d0 := K13.cell 0
          have d1 := K13.cell 1
          have f0 := R13.cell 0
          have f1 := R13.cell 1
          have z0 := R13.frozen 0
          have z1 := R13.frozen 1
          simp at d0 d1 f0 f1
          have RE := (R13.set_ 0 (.int .i64 we)).set_ 1 (.slice (some ⟨gp, 0, none⟩) 4 c)
          have e0 := RE.cell 0
          have e1 := RE.cell 1
          simp at e0 e1
          have OE := own_typed (own_typed O13 (ChgT.blk R13 0 (.int .i64 we)) (by decide)) (ChgT.blk (R13.set_ 0 (.int .i64 we)) 1 (.slice (some ⟨gp, 0, none⟩) 4 c)) (by decide)
          have HE := Lib.hid (rdr_set (rdr_set h13 (g' := w.heap.size) (i := 0) (by omega) (by omega) (.int .i64 we)) (g' := w.heap.size) (i := 1) (by omega) (by omega) (.slice (some ⟨gp, 0, none⟩) 4 c))
          have GE := Lib.hid (gb_set (gb_set G13 (g' := w.heap.size) (i := 0) (by omega) (.int .i64 we)) (g' := w.heap.size) (i := 1) (by omega) (.slice (some ⟨gp, 0, none⟩) 4 c))
          have OZ := Lib.hid OE
          clear OE
          go_wp2
          generalize (w13.setCell ⟨w.heap.size, 0, none⟩ (.int .i64 we)).setCell ⟨w.heap.size, 1, none⟩ (.slice (some ⟨gp, 0, none⟩) 4 c) = wz at *
          refine bodyPost_ret (by simp [results, Try.results83, go_sem, e0, e1]; try rfl) rfl ?_
          exact bkPost_of (b := ⟨we, _⟩) (OZ.out.1 |> fun _ => own_pagesLen OZ.out) cap.1 cap.2 (rdG_all OZ.out) (HE.out.mono (by omega)) GE.out
end Go.Proofs.Ytjnpgdhpneifjaa
