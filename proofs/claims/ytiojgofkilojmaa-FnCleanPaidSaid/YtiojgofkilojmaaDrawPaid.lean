/- DrawCleanPaid: a list of at most 13 integers in new memory, and an integer. Printed by a program of mine (gendrawpaid.py). No condition. -/
import Derived.Test.YtiojgofkilojmaaPaidS
import Derived.Test.YtiojgofkilojmaaDrawList
import Derived.Test.YtiojgofkilojmaaPhase
namespace Go.Proofs.Ytiojgofkilojmaa
open Go.ChangeShapes Go.WideShapes Go.ChangeAt Go.RowKit
set_option linter.unusedVariables false
set_option linter.unusedSimpArgs false

def DrawnPaid (w : World) (e : Ending) (w' : World) : Prop :=
  ∃ (ys : List Int) (A : Option Addr) (c : Nat) (v : Int), e = .returned (.tuple #[.slice A ys.length c, .int .i64 v]) ∧ ys.length ≤ 100 ∧ w'.ownsRow w.heap.size 3 1 (.slice A ys.length c) ys.length (ys.map (Value.int .i64)) ∧ Below w.heap.size w w'
theorem drawnPaid_of {w w' : World} {ys : List Int} {A : Option Addr} {m c B : Nat} {v : Int} (hm : ys.length = m) (h100 : m ≤ 100) (h : w'.ownsRow B 3 1 (.slice A m c) m (ys.map (Value.int .i64)) ∧ w.heap.size ≤ B) (hb : Below w.heap.size w w') : DrawnPaid w (.returned (.tuple #[.slice A m c, .int .i64 v])) w' := by
  subst hm; exact ⟨ys, A, c, v, rfl, h100, ownsRow_base1 h.1 h.2, hb⟩
set_option maxHeartbeats 8000000 in
theorem drawCleanPaid_c {A : Option Addr} {n c : Nat} {xs : List Int} {w : World} (hr : RdI .u8 w w.heap.size A n xs) (hx : ∀ x ∈ xs, 0 ≤ x ∧ x ≤ 255) (hnc : n ≤ c) (hcm : c ≤ 9223372036854775807) :
    Calls Try.prog 18 #[.slice A n c] w (DrawnPaid w) := by
  go_enter Try.func18, Try.ntmps18
  go_wp2_with fail
  refine (open_c hr hx hnc hcm).mono ?_
  rintro e w1 ⟨rfl, h1, b1⟩
  clear hr hx hnc hcm
  have hg := h1.lt.2
  have o1 : (w1.alloc (.cells #[] 3)).ownsRow w1.heap.size 3 1 (.slice (some ⟨w1.heap.size, 0, none⟩) 0 0) 0 (([] : List Int).map (Value.int .i64)) := World.ownsRow_lit w1 #[] 0 (Nat.le_refl _) (by decide) rfl
  have h1' := h1.alloc (.cells #[] 3)
  have b1' := b1.alloc b1.size (.cells #[] 3)
  clear h1 b1
  go_wp2_with fail
  refine (pick_c h1' (by omega)).mono ?_
  rintro e w2 ⟨v1, rfl, hv1, hv1', h2, g2⟩
  have p1 := own_pick o1 g2 hg
  have b2 : Below w.heap.size w w2 := b1'.grown g2 b1'.size (fun k hk => by injection hk with hk; omega)
  have s2 : w1.heap.size ≤ w2.heap.size := by have := g2.size; simp at this; omega
  clear o1 h1' b1' g2
  generalize w1.heap.size = S at *
  go_wp2_with fail
  go_loopw [5, 6] (fun v kk wr => ∃ (j : Nat) (xs : List Int) (A : Option Addr) (c m : Nat), kk = .int .i64 j ∧ j + m ≤ 7 ∧ xs.length = m ∧ v = .slice A m c ∧ wr.ownsRow S 3 1 (.slice A m c) m (xs.map (Value.int .i64)) ∧ Rdr wr w.heap.size w.heap.size (2 + 4 * m) ∧ Below w.heap.size w wr ∧ S ≤ wr.heap.size) (fun _ kk _ => (intOf kk).toNat)
  case atStart =>
    obtain ⟨j, rfl⟩ := Int.eq_ofNat_of_zero_le hv1
    exact ⟨j, [], _, _, 0, rfl, by omega, rfl, rfl, p1, h2.mono (by omega), b2, s2⟩
  case round =>
    clear p1 h2 b2 s2
    obtain ⟨j, xs, A, c, m, rfl, hjm, hxl, rfl, own2, h2, bel2, hsz2⟩ := hrel
    have HX := Lib.hid hxl
    clear hxl
    by_cases hj : 0 < j
    · go_wp2_with fail
      refine (pick_c h2 (by omega)).mono ?_; rintro e w2a ⟨v2, rfl, hv21, hv22, h2a, g2a⟩
      go_wp2_with fail
      refine (pick_c ((h2a.alloc _).alloc _) (by omega)).mono ?_; rintro e w3 ⟨u2, rfl, hu21, hu22, h3, g3⟩
      have hlt2a := h2a.lt
      have hlt3 := h3.lt
      have kk1 : Blk w3 w2a.heap.size 3 #[.int .i64 v2, .int .i64 5, .int .i64 (-1)] := ((Blk.new w2a 3 _).alloc _).grown g3 (by intro e; injection e with e; omega)
      have kk2 : Blk w3 (w2a.heap.size + 1) 3 #[.int .i64 0, .int .i64 0, .int .i64 0, .int .i64 0, .int .i64 0, .int .i64 0, .int .i64 0, .int .i64 0, .int .i64 0, .int .i64 0, .int .i64 0, .int .i64 0, .int .i64 0, .int .i64 0, .int .i64 0, .int .i64 0, .int .i64 0, .int .i64 0, .int .i64 1, .int .i64 2] := (Blk.new1 w2a _ 3 _).grown g3 (by intro e; injection e with e; omega)
      obtain ⟨x2, hx21, hx22, hc21⟩ := tab_at [0, 0, 0, 0, 0, 0, 0, 0, 0, 0, 0, 0, 0, 0, 0, 0, 0, 0, 1, 2] kk2 0 2 (by decide) hu21 (by simp; omega)
      obtain ⟨y2, hy21, hy22, hc22⟩ := tab_at [v2, 5, (-1)] kk1 (-1) 5 (by simp; omega) hx21 (by simp; omega)
      have hu23 : u2 < 20 := by omega
      have hx23 : x2 < 3 := by omega
      clear kk1 kk2
      have bel3 : Below w.heap.size w w3 := below_of_gb (((below_of_gb bel2 g2a (by have := bel2.size; omega) (by omega)).alloc (by omega) _).alloc (by simp; omega) _) g3 (by simp; omega) (by omega)
      have own3 := own_pick (((own_pick own2 g2a hg).alloc _).alloc _) g3 hg
      have hsz3 : S ≤ w3.heap.size := by have e1 := g2a.size; have e2 := g3.size; simp at e2; omega
      clear g2a g3 h2 h2a own2 hsz2 bel2
      go_wp2_with (at_builtin; refine wpList_appI rfl rfl rfl own3 rfl (by omega) hsz3 ?_; rintro q4 c4 w4 own4 g4 hq4; clear hq4; have bel4 := bel3.grown g4 bel3.size (fun k hk => by have := own3.lt k hk; omega); have h4 := Rdr.grown h3 g4 (fun k hk => by have := own3.lt k hk; omega); have hsz4 : S ≤ w4.heap.size := Nat.le_trans hsz3 g4.size; clear own3 bel3 h3 hsz3 g4)
      go_roundw
      case rel => exact ⟨j - 1, xs ++ [y2], _, _, m + 1, by go_num, by omega, by rw [List.length_append, HX.out]; rfl, rfl, own4, h4.mono (by omega), bel4, hsz4⟩
      case measure => simp [intOf]; omega
    · go_wp2_with fail
      refine (odd_c h2 (by omega) (by omega) (by omega)).mono ?_
      rintro e w5 ⟨b, rfl, h5, g5⟩
      have own5 := own_pick own2 g5 hg
      have bel5 := bel2.grown g5 bel2.size (fun k hk => by injection hk with hk; omega)
      have hlg : w.heap.size < S := hg
      have h100 : m ≤ 100 := by omega
      have HY := HX
      have hS5 : S ≤ w5.heap.size := Nat.le_trans hsz2 g5.size
      have HS := Lib.hid hS5
      clear own2 h2 bel2 hsz2 g5 hS5
      cases b
      · go_wp2_with fail
        have HB := Lib.hid (show w.heap.size ≤ S by omega)
        have hlt5 := h5.lt
        obtain ⟨g0, A', n', c', q, zs, hq, hb, hr', hxs, hn'⟩ := h5
        have hu1 := pv_range zs q 20 (by omega) hxs
        have hu2 := pv_range zs (q + 1) 8 (by omega) hxs
        obtain ⟨u1, hu⟩ : ∃ u1, pv zs q 20 = u1 := ⟨_, rfl⟩
        have HU1 := Lib.hid hu
        rw [hu] at hu1; clear hu
        obtain ⟨u2, hu⟩ : ∃ u2, pv zs (q + 1) 8 = u2 := ⟨_, rfl⟩
        have HU2 := Lib.hid hu
        rw [hu] at hu2; clear hu
        obtain ⟨x', hx1', hx2', A1, A1'⟩ := tab_in [.int .i64 0, .int .i64 0, .int .i64 0, .int .i64 0, .int .i64 0, .int .i64 0, .int .i64 1, .int .i64 2] [0, 0, 0, 0, 0, 0, 1, 2] rfl 0 2 (by decide) hu2.1 (by simp; omega)
        obtain ⟨y', hy1', hy2', A2, A2'⟩ := tab_in [.int .i64 u1, .int .i64 101, .int .i64 (-1)] [u1, 101, (-1)] rfl (-1) 101 (by simp; omega) hx1' (by simp; omega)
        have hu3 : u2 < 8 := by omega
        have hu4 : 0 ≤ u2 := by omega
        have hu5 : 0 ≤ u1 := by omega
        have hu6 : u1 < 20 := by omega
        have hx3 : x' < 3 := by omega
        go_region_with (first
          | (go_at_call_of 24 (Value.int IntKind.i64 20)
             refine (pick_x (q := q) (xs := zs) g0 (by repeat' (first | with_reducible exact hb | with_reducible apply Blk.drew | with_reducible apply Blk.alloc | with_reducible apply Blk.picked | with_reducible apply Blk.drewN)) (hr'.below (by repeat' first | with_reducible exact Below.refl _ _ | with_reducible apply below_drewN | with_reducible apply Below.drew | with_reducible refine Below.alloc ?_ (by first | omega | (simp; omega)) _ | with_reducible refine Below.setCell ?_ (by simp) _)) hxs hn' (by omega)).mono ?_
             rw [HU1.out]
             rintro e w4 ⟨rfl, nq1, rfl⟩)
          | (go_at_call_of 24 (Value.int IntKind.i64 8)
             refine (pick_x (q := q + 1) (xs := zs) g0 (by repeat' (first | with_reducible exact hb | with_reducible apply Blk.drew | with_reducible apply Blk.alloc | with_reducible apply Blk.picked | with_reducible apply Blk.drewN)) (hr'.below (by repeat' first | with_reducible exact Below.refl _ _ | with_reducible apply below_drewN | with_reducible apply Below.drew | with_reducible refine Below.alloc ?_ (by first | omega | (simp; omega)) _ | with_reducible refine Below.setCell ?_ (by simp) _)) hxs hn' (by omega)).mono ?_
             rw [HU2.out]
             rintro e w5 ⟨rfl, nq2, rfl⟩))
        all_goals
          go_wp2
          go_ret2
          exact drawnPaid_of HY.out h100 ⟨own_pick own5 (by repeat' first | with_reducible exact World.grownBy.refl _ _ | with_reducible apply gb_drewN | with_reducible apply gb_drew | with_reducible apply gb_alloc | with_reducible refine gb_setCell ?_ (.inl rfl) _) hlg, HB.out⟩ (bel5.trans (by repeat' first | with_reducible exact Below.refl _ _ | with_reducible apply below_drewN | with_reducible apply Below.drew | with_reducible refine Below.alloc ?_ (by first | omega | (simp; omega)) _ | with_reducible refine Below.setCell ?_ (by simp) _))
      · have hmk : (Instr.makeSlice 22 (.int .i64 13) (.int .i64 13)).run Try.prog w5 = .ok (.slice (some ⟨w5.heap.size, 0, none⟩) 13 13) (w5.alloc (.cells (cellsI (List.replicate 13 0)) 3)) := make_ints 13 (by omega) w5
        have own5' := RowI.own (base := S) (Blk.new w5 3 (cellsI (List.replicate 13 0))) HS.out (by simp; unfold maxLen; omega)
        have h5' := h5.alloc (.cells (cellsI (List.replicate 13 0)) 3)
        have bel5' := bel5.alloc bel5.size (.cells (cellsI (List.replicate 13 0)) 3)
        have HY' : Hid ((List.replicate 13 (0 : Int)).length = 13) := Lib.hid List.length_replicate
        rw [List.length_replicate] at own5'
        obtain ⟨zz, hzz⟩ : ∃ zz, List.replicate 13 (0 : Int) = zz := ⟨_, rfl⟩
        rw [hzz] at hmk own5' h5' bel5' HY'
        clear hzz
        go_wp2_with fail
        clear hmk own5 h5 bel5 HY h100
        generalize w5.alloc (.cells (cellsI zz) 3) = w6 at *
        have own5 := own5'
        have h5 := h5'
        have bel5 := bel5'
        have HY := HY'
        clear own5' h5' bel5' HY'
        have h100 : 13 ≤ 100 := by omega
        have HB := Lib.hid (show w.heap.size ≤ S by omega)
        have hlt5 := h5.lt
        obtain ⟨g0, A', n', c', q, zs, hq, hb, hr', hxs, hn'⟩ := h5
        have hu1 := pv_range zs q 20 (by omega) hxs
        have hu2 := pv_range zs (q + 1) 8 (by omega) hxs
        obtain ⟨u1, hu⟩ : ∃ u1, pv zs q 20 = u1 := ⟨_, rfl⟩
        have HU1 := Lib.hid hu
        rw [hu] at hu1; clear hu
        obtain ⟨u2, hu⟩ : ∃ u2, pv zs (q + 1) 8 = u2 := ⟨_, rfl⟩
        have HU2 := Lib.hid hu
        rw [hu] at hu2; clear hu
        obtain ⟨x', hx1', hx2', A1, A1'⟩ := tab_in [.int .i64 0, .int .i64 0, .int .i64 0, .int .i64 0, .int .i64 0, .int .i64 0, .int .i64 1, .int .i64 2] [0, 0, 0, 0, 0, 0, 1, 2] rfl 0 2 (by decide) hu2.1 (by simp; omega)
        obtain ⟨y', hy1', hy2', A2, A2'⟩ := tab_in [.int .i64 u1, .int .i64 101, .int .i64 (-1)] [u1, 101, (-1)] rfl (-1) 101 (by simp; omega) hx1' (by simp; omega)
        have hu3 : u2 < 8 := by omega
        have hu4 : 0 ≤ u2 := by omega
        have hu5 : 0 ≤ u1 := by omega
        have hu6 : u1 < 20 := by omega
        have hx3 : x' < 3 := by omega
        go_region_with (first
          | (go_at_call_of 24 (Value.int IntKind.i64 20)
             refine (pick_x (q := q) (xs := zs) g0 (by repeat' (first | with_reducible exact hb | with_reducible apply Blk.drew | with_reducible apply Blk.alloc | with_reducible apply Blk.picked | with_reducible apply Blk.drewN)) (hr'.below (by repeat' first | with_reducible exact Below.refl _ _ | with_reducible apply below_drewN | with_reducible apply Below.drew | with_reducible refine Below.alloc ?_ (by first | omega | (simp; omega)) _ | with_reducible refine Below.setCell ?_ (by simp) _)) hxs hn' (by omega)).mono ?_
             rw [HU1.out]
             rintro e w4 ⟨rfl, nq1, rfl⟩)
          | (go_at_call_of 24 (Value.int IntKind.i64 8)
             refine (pick_x (q := q + 1) (xs := zs) g0 (by repeat' (first | with_reducible exact hb | with_reducible apply Blk.drew | with_reducible apply Blk.alloc | with_reducible apply Blk.picked | with_reducible apply Blk.drewN)) (hr'.below (by repeat' first | with_reducible exact Below.refl _ _ | with_reducible apply below_drewN | with_reducible apply Below.drew | with_reducible refine Below.alloc ?_ (by first | omega | (simp; omega)) _ | with_reducible refine Below.setCell ?_ (by simp) _)) hxs hn' (by omega)).mono ?_
             rw [HU2.out]
             rintro e w5 ⟨rfl, nq2, rfl⟩))
        all_goals
          go_wp2
          go_ret2
          exact drawnPaid_of HY.out h100 ⟨own_pick own5 (by repeat' first | with_reducible exact World.grownBy.refl _ _ | with_reducible apply gb_drewN | with_reducible apply gb_drew | with_reducible apply gb_alloc | with_reducible refine gb_setCell ?_ (.inl rfl) _) hlg, HB.out⟩ (bel5.trans (by repeat' first | with_reducible exact Below.refl _ _ | with_reducible apply below_drewN | with_reducible apply Below.drew | with_reducible refine Below.alloc ?_ (by first | omega | (simp; omega)) _ | with_reducible refine Below.setCell ?_ (by simp) _))
end Go.Proofs.Ytiojgofkilojmaa
