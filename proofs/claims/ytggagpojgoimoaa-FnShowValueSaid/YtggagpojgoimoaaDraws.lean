/- Contracts of the Draw functions that return plain integers: they return some integers, and what was there stays. Printed by a program of mine (gendraw.py). No condition. -/
import Derived.Test.YtggagpojgoimoaaDraw
namespace Go.Proofs.Ytggagpojgoimoaa
open Go.ChangeShapes Go.WideShapes Go.ChangeAt Go.RowKit
set_option linter.unusedVariables false
set_option linter.unusedSimpArgs false

set_option maxHeartbeats 8000000 in
theorem drawCleanPrice_c {A : Option Addr} {n c : Nat} {xs : List Int} {w : World} (hr : RdI .u8 w w.heap.size A n xs) (hx : ∀ x ∈ xs, 0 ≤ x ∧ x ≤ 255) (hnc : n ≤ c) (hcm : c ≤ 9223372036854775807) :
    Calls Try.prog 27 #[.slice A n c] w (Int1 w) := by
  go_enter Try.func27, Try.ntmps27
  go_wp2_with (first
    | (go_at_call 36; refine (open_c hr hx hnc hcm).mono ?_; rintro e w1 ⟨rfl, h1, b1⟩)
    | (go_at_call 37; refine (pick_c h1 (by omega)).mono ?_; rintro e w2 ⟨v, rfl, hv1, hv2, h2, g2⟩))
  go_ret
  exact ⟨_, rfl, below_of_gb b1 g2 b1.size h1.1⟩
set_option maxHeartbeats 8000000 in
theorem drawHideStream_c {A : Option Addr} {n c : Nat} {xs : List Int} {w : World} (hr : RdI .u8 w w.heap.size A n xs) (hx : ∀ x ∈ xs, 0 ≤ x ∧ x ≤ 255) (hnc : n ≤ c) (hcm : c ≤ 9223372036854775807) :
    Calls Try.prog 29 #[.slice A n c] w (Int2 w) := by
  go_enter Try.func29, Try.ntmps29
  go_wp2_with (first
    | (go_at_call 36; refine (open_c hr hx hnc hcm).mono ?_; rintro e w1 ⟨rfl, h1, bel1⟩))
  refine (pick_c h1 (by omega)).mono ?_; rintro e w1a ⟨v1, rfl, hv11, hv12, h1a, g1a⟩
  go_wp2_with fail
  refine (pick_c ((h1a.alloc _).alloc _) (by omega)).mono ?_; rintro e w2 ⟨u1, rfl, hu11, hu12, h2, g2⟩
  have hlt1a := h1a.lt
  have hlt2 := h2.lt
  have kk1 : Blk w2 w1a.heap.size 3 #[.int .i64 (v1 * 39), .int .i64 10000, .int .i64 (-1)] := ((Blk.new w1a 3 _).alloc _).grown g2 (by intro e; injection e with e; omega)
  have kk2 : Blk w2 (w1a.heap.size + 1) 3 #[.int .i64 0, .int .i64 0, .int .i64 0, .int .i64 0, .int .i64 0, .int .i64 0, .int .i64 1, .int .i64 2] := (Blk.new1 w1a _ 3 _).grown g2 (by intro e; injection e with e; omega)
  obtain ⟨x1, hx11, hx12, hc11⟩ := tab_at [0, 0, 0, 0, 0, 0, 1, 2] kk2 0 2 (by decide) hu11 (by simp; omega)
  obtain ⟨y1, hy11, hy12, hc12⟩ := tab_at [(v1 * 39), 10000, (-1)] kk1 (-1) 1000001 (by simp; omega) hx11 (by simp; omega)
  have hu13 : u1 < 8 := by omega
  have hx13 : x1 < 3 := by omega
  clear kk1 kk2
  go_wp2_with fail
  clear hc11 hc12
  have bel2 : Below w.heap.size w w2 := below_of_gb (((below_of_gb bel1 g1a (by have := bel1.size; omega) (by omega)).alloc (by omega) _).alloc (by simp; omega) _) g2 (by simp; omega) (by omega)
  clear g1a g2 h1 h1a
  have hlt2 := h2.lt
  obtain ⟨g0, A', n', c', q, zs, hq, hb, hr', hxs, hn'⟩ := h2
  have hu1 := pv_range zs q 256 (by omega) hxs
  have hu2 := pv_range zs (q + 1) 7 (by omega) hxs
  obtain ⟨u1, hu⟩ : ∃ u1, pv zs q 256 = u1 := ⟨_, rfl⟩
  have HU1 := Lib.hid hu
  rw [hu] at hu1; clear hu
  obtain ⟨u2, hu⟩ : ∃ u2, pv zs (q + 1) 7 = u2 := ⟨_, rfl⟩
  have HU2 := Lib.hid hu
  rw [hu] at hu2; clear hu
  obtain ⟨x', hx1', hx2', A1, A1'⟩ := tab_in [.int .i64 0, .int .i64 0, .int .i64 0, .int .i64 0, .int .i64 1, .int .i64 2, .int .i64 3] [0, 0, 0, 0, 1, 2, 3] rfl 0 3 (by decide) hu2.1 (by simp; omega)
  obtain ⟨y', hy1', hy2', A2, A2'⟩ := tab_in [.int .i64 u1, .int .i64 1000000, .int .i64 1000001, .int .i64 (-1)] [u1, 1000000, 1000001, (-1)] rfl (-1) 1000001 (by simp; omega) hx1' (by simp; omega)
  have hu3 : u2 < 7 := by omega
  have hu4 : 0 ≤ u2 := by omega
  have hu5 : 0 ≤ u1 := by omega
  have hu6 : u1 < 256 := by omega
  have hx3 : x' < 4 := by omega
  go_region_with (first
    | (go_at_call_of 37 (Value.int IntKind.i64 256)
       refine (pick_x (q := q) (xs := zs) g0 (by repeat' (first | with_reducible exact hb | with_reducible apply Blk.drew | with_reducible apply Blk.alloc | with_reducible apply Blk.picked | with_reducible apply Blk.drewN)) (hr'.below (by repeat' first | with_reducible exact Below.refl _ _ | with_reducible apply below_drewN | with_reducible apply Below.drew | with_reducible refine Below.alloc ?_ (by first | omega | (simp; omega)) _ | with_reducible refine Below.setCell ?_ (by simp) _)) hxs hn' (by omega)).mono ?_
       rw [HU1.out]
       rintro e w4 ⟨rfl, nq1, rfl⟩)
    | (go_at_call_of 37 (Value.int IntKind.i64 7)
       refine (pick_x (q := q + 1) (xs := zs) g0 (by repeat' (first | with_reducible exact hb | with_reducible apply Blk.drew | with_reducible apply Blk.alloc | with_reducible apply Blk.picked | with_reducible apply Blk.drewN)) (hr'.below (by repeat' first | with_reducible exact Below.refl _ _ | with_reducible apply below_drewN | with_reducible apply Below.drew | with_reducible refine Below.alloc ?_ (by first | omega | (simp; omega)) _ | with_reducible refine Below.setCell ?_ (by simp) _)) hxs hn' (by omega)).mono ?_
       rw [HU2.out]
       rintro e w5 ⟨rfl, nq2, rfl⟩))
  all_goals
    go_wp2
    go_ret2
    exact ⟨_, _, rfl, bel2.trans (by repeat' first | with_reducible exact Below.refl _ _ | with_reducible apply below_drewN | with_reducible apply Below.drew | with_reducible refine Below.alloc ?_ (by first | omega | (simp; omega)) _ | with_reducible refine Below.setCell ?_ (by simp) _)⟩
set_option maxHeartbeats 8000000 in
theorem drawWriteShare_c {A : Option Addr} {n c : Nat} {xs : List Int} {w : World} (hr : RdI .u8 w w.heap.size A n xs) (hx : ∀ x ∈ xs, 0 ≤ x ∧ x ≤ 255) (hnc : n ≤ c) (hcm : c ≤ 9223372036854775807) :
    Calls Try.prog 30 #[.slice A n c] w (Int2 w) := by
  go_enter Try.func30, Try.ntmps30
  go_wp2_with (first
    | (go_at_call 36; refine (open_c hr hx hnc hcm).mono ?_; rintro e w1 ⟨rfl, h1, bel1⟩))
  refine (pick_c h1 (by omega)).mono ?_; rintro e w1a ⟨v1, rfl, hv11, hv12, h1a, g1a⟩
  go_wp2_with fail
  refine (pick_c ((h1a.alloc _).alloc _) (by omega)).mono ?_; rintro e w2 ⟨u1, rfl, hu11, hu12, h2, g2⟩
  have hlt1a := h1a.lt
  have hlt2 := h2.lt
  have kk1 : Blk w2 w1a.heap.size 3 #[.int .i64 (1 + v1), .int .i64 1000, .int .i64 1001, .int .i64 0] := ((Blk.new w1a 3 _).alloc _).grown g2 (by intro e; injection e with e; omega)
  have kk2 : Blk w2 (w1a.heap.size + 1) 3 #[.int .i64 0, .int .i64 0, .int .i64 0, .int .i64 0, .int .i64 0, .int .i64 1, .int .i64 2, .int .i64 3] := (Blk.new1 w1a _ 3 _).grown g2 (by intro e; injection e with e; omega)
  obtain ⟨x1, hx11, hx12, hc11⟩ := tab_at [0, 0, 0, 0, 0, 1, 2, 3] kk2 0 3 (by decide) hu11 (by simp; omega)
  obtain ⟨y1, hy11, hy12, hc12⟩ := tab_at [(1 + v1), 1000, 1001, 0] kk1 (-1) 1000001 (by simp; omega) hx11 (by simp; omega)
  have hu13 : u1 < 8 := by omega
  have hx13 : x1 < 4 := by omega
  clear kk1 kk2
  go_wp2_with fail
  clear hc11 hc12
  have bel2 : Below w.heap.size w w2 := below_of_gb (((below_of_gb bel1 g1a (by have := bel1.size; omega) (by omega)).alloc (by omega) _).alloc (by simp; omega) _) g2 (by simp; omega) (by omega)
  clear g1a g2 h1 h1a
  have hlt2 := h2.lt
  obtain ⟨g0, A', n', c', q, zs, hq, hb, hr', hxs, hn'⟩ := h2
  have hu1 := pv_range zs q 256 (by omega) hxs
  have hu2 := pv_range zs (q + 1) 8 (by omega) hxs
  obtain ⟨u1, hu⟩ : ∃ u1, pv zs q 256 = u1 := ⟨_, rfl⟩
  have HU1 := Lib.hid hu
  rw [hu] at hu1; clear hu
  obtain ⟨u2, hu⟩ : ∃ u2, pv zs (q + 1) 8 = u2 := ⟨_, rfl⟩
  have HU2 := Lib.hid hu
  rw [hu] at hu2; clear hu
  obtain ⟨x', hx1', hx2', A1, A1'⟩ := tab_in [.int .i64 0, .int .i64 0, .int .i64 0, .int .i64 0, .int .i64 0, .int .i64 1, .int .i64 2, .int .i64 3] [0, 0, 0, 0, 0, 1, 2, 3] rfl 0 3 (by decide) hu2.1 (by simp; omega)
  obtain ⟨y', hy1', hy2', A2, A2'⟩ := tab_in [.int .i64 u1, .int .i64 1000, .int .i64 1001, .int .i64 (-1)] [u1, 1000, 1001, (-1)] rfl (-1) 1000001 (by simp; omega) hx1' (by simp; omega)
  have hu3 : u2 < 8 := by omega
  have hu4 : 0 ≤ u2 := by omega
  have hu5 : 0 ≤ u1 := by omega
  have hu6 : u1 < 256 := by omega
  have hx3 : x' < 4 := by omega
  go_region_with (first
    | (go_at_call_of 37 (Value.int IntKind.i64 256)
       refine (pick_x (q := q) (xs := zs) g0 (by repeat' (first | with_reducible exact hb | with_reducible apply Blk.drew | with_reducible apply Blk.alloc | with_reducible apply Blk.picked | with_reducible apply Blk.drewN)) (hr'.below (by repeat' first | with_reducible exact Below.refl _ _ | with_reducible apply below_drewN | with_reducible apply Below.drew | with_reducible refine Below.alloc ?_ (by first | omega | (simp; omega)) _ | with_reducible refine Below.setCell ?_ (by simp) _)) hxs hn' (by omega)).mono ?_
       rw [HU1.out]
       rintro e w4 ⟨rfl, nq1, rfl⟩)
    | (go_at_call_of 37 (Value.int IntKind.i64 8)
       refine (pick_x (q := q + 1) (xs := zs) g0 (by repeat' (first | with_reducible exact hb | with_reducible apply Blk.drew | with_reducible apply Blk.alloc | with_reducible apply Blk.picked | with_reducible apply Blk.drewN)) (hr'.below (by repeat' first | with_reducible exact Below.refl _ _ | with_reducible apply below_drewN | with_reducible apply Below.drew | with_reducible refine Below.alloc ?_ (by first | omega | (simp; omega)) _ | with_reducible refine Below.setCell ?_ (by simp) _)) hxs hn' (by omega)).mono ?_
       rw [HU2.out]
       rintro e w5 ⟨rfl, nq2, rfl⟩))
  all_goals
    go_wp2
    go_ret2
    exact ⟨_, _, rfl, bel2.trans (by repeat' first | with_reducible exact Below.refl _ _ | with_reducible apply below_drewN | with_reducible apply Below.drew | with_reducible refine Below.alloc ?_ (by first | omega | (simp; omega)) _ | with_reducible refine Below.setCell ?_ (by simp) _)⟩
set_option maxHeartbeats 8000000 in
theorem drawHideValue_c {A : Option Addr} {n c : Nat} {xs : List Int} {w : World} (hr : RdI .u8 w w.heap.size A n xs) (hx : ∀ x ∈ xs, 0 ≤ x ∧ x ≤ 255) (hnc : n ≤ c) (hcm : c ≤ 9223372036854775807) :
    Calls Try.prog 32 #[.slice A n c] w (Int3 w) := by
  go_enter Try.func32, Try.ntmps32
  go_wp2_with (first
    | (go_at_call 29; refine (drawHideStream_c hr hx hnc hcm).mono ?_; rintro e w0 ⟨k0, p0, rfl, bel0⟩)
    | (go_at_call 36; refine (open_c ((hr.below bel0).mono bel0.size) hx hnc hcm).mono ?_; rintro e w1 ⟨rfl, h1, bel01⟩))
  have bel1 : Below w.heap.size w w1 := bel0.trans (bel01.mono bel0.size)
  have hs0 := bel0.size
  go_wp2_with fail
  have hlt1 := h1.lt
  obtain ⟨g0, A', n', c', q, zs, hq, hb, hr', hxs, hn'⟩ := h1
  have hu1 := pv_range zs q 256 (by omega) hxs
  have hu2 := pv_range zs (q + 1) 7 (by omega) hxs
  obtain ⟨u1, hu⟩ : ∃ u1, pv zs q 256 = u1 := ⟨_, rfl⟩
  have HU1 := Lib.hid hu
  rw [hu] at hu1; clear hu
  obtain ⟨u2, hu⟩ : ∃ u2, pv zs (q + 1) 7 = u2 := ⟨_, rfl⟩
  have HU2 := Lib.hid hu
  rw [hu] at hu2; clear hu
  obtain ⟨x', hx1', hx2', A1, A1'⟩ := tab_in [.int .i64 0, .int .i64 0, .int .i64 0, .int .i64 0, .int .i64 1, .int .i64 2, .int .i64 3] [0, 0, 0, 0, 1, 2, 3] rfl 0 3 (by decide) hu2.1 (by simp; omega)
  obtain ⟨y', hy1', hy2', A2, A2'⟩ := tab_in [.int .i64 (u1 * 39), .int .i64 9999, .int .i64 10000, .int .i64 (-1)] [(u1 * 39), 9999, 10000, (-1)] rfl (-1) 1000001 (by simp; omega) hx1' (by simp; omega)
  have hu3 : u2 < 7 := by omega
  have hu4 : 0 ≤ u2 := by omega
  have hu5 : 0 ≤ u1 := by omega
  have hu6 : u1 < 256 := by omega
  have hx3 : x' < 4 := by omega
  have hwr : IntKind.i64.wrap (u1 * 39) = u1 * 39 := IntWalk.i64_in _ (by omega)
  go_region_with (first
    | (go_at_call_of 37 (Value.int IntKind.i64 256)
       refine (pick_x (q := q) (xs := zs) g0 (by repeat' (first | with_reducible exact hb | with_reducible apply Blk.drew | with_reducible apply Blk.alloc | with_reducible apply Blk.picked | with_reducible apply Blk.drewN)) (hr'.below (by repeat' first | with_reducible exact Below.refl _ _ | with_reducible apply below_drewN | with_reducible apply Below.drew | with_reducible refine Below.alloc ?_ (by first | omega | (simp; omega)) _ | with_reducible refine Below.setCell ?_ (by first | omega | (simp; omega) | simp) _)) hxs hn' (by omega)).mono ?_
       rw [HU1.out]
       rintro e w4 ⟨rfl, nq1, rfl⟩)
    | (go_at_call_of 37 (Value.int IntKind.i64 7)
       refine (pick_x (q := q + 1) (xs := zs) g0 (by repeat' (first | with_reducible exact hb | with_reducible apply Blk.drew | with_reducible apply Blk.alloc | with_reducible apply Blk.picked | with_reducible apply Blk.drewN)) (hr'.below (by repeat' first | with_reducible exact Below.refl _ _ | with_reducible apply below_drewN | with_reducible apply Below.drew | with_reducible refine Below.alloc ?_ (by first | omega | (simp; omega)) _ | with_reducible refine Below.setCell ?_ (by first | omega | (simp; omega) | simp) _)) hxs hn' (by omega)).mono ?_
       rw [HU2.out]
       rintro e w5 ⟨rfl, nq2, rfl⟩))
  all_goals
    go_wp2
    go_ret3
    exact ⟨_, _, _, rfl, bel1.trans (by repeat' first | with_reducible exact Below.refl _ _ | with_reducible apply below_drewN | with_reducible apply Below.drew | with_reducible refine Below.alloc ?_ (by first | omega | (simp; omega)) _ | with_reducible refine Below.setCell ?_ (by first | omega | (simp; omega) | simp) _)⟩
set_option maxHeartbeats 8000000 in
theorem drawShowValue_c {A : Option Addr} {n c : Nat} {xs : List Int} {w : World} (hr : RdI .u8 w w.heap.size A n xs) (hx : ∀ x ∈ xs, 0 ≤ x ∧ x ≤ 255) (hnc : n ≤ c) (hcm : c ≤ 9223372036854775807) :
    Calls Try.prog 33 #[.slice A n c] w (Int3 w) := by
  go_enter Try.func33, Try.ntmps33
  go_wp2_with (go_at_call 32; refine (drawHideValue_c hr hx hnc hcm).mono ?_; rintro e w0 ⟨k0, p0, v0, rfl, bel0⟩)
  go_ret3
  exact ⟨_, _, _, rfl, bel0⟩
set_option maxHeartbeats 8000000 in
theorem drawCreditStep_c {A : Option Addr} {n c : Nat} {xs : List Int} {w : World} (hr : RdI .u8 w w.heap.size A n xs) (hx : ∀ x ∈ xs, 0 ≤ x ∧ x ≤ 255) (hnc : n ≤ c) (hcm : c ≤ 9223372036854775807) :
    Calls Try.prog 31 #[.slice A n c] w (Int3 w) := by
  go_enter Try.func31, Try.ntmps31
  go_wp2_with (first
    | (go_at_call 36; refine (open_c hr hx hnc hcm).mono ?_; rintro e w1 ⟨rfl, h1, bel1⟩))
  refine (pick_b h1 bel1 (by omega)).mono ?_; rintro e w2 ⟨v1, rfl, hv11, hv12, h2, bel2, g2⟩
  go_wp2_with fail
  refine (pick_b h2 bel2 (by omega)).mono ?_; rintro e w3 ⟨v2, rfl, hv21, hv22, h3, bel3, g3⟩
  go_wp2_with fail
  refine (pick_b h3 bel3 (by omega)).mono ?_; rintro e w4 ⟨v3, rfl, hv31, hv32, h4, bel4, g4⟩
  go_wp2_with fail
  refine (pick_b h4 bel4 (by omega)).mono ?_; rintro e w5 ⟨v4, rfl, hv41, hv42, h5, bel5, g5⟩
  go_wp2_with fail
  refine (pick_b h5 bel5 (by omega)).mono ?_; rintro e w6 ⟨v5, rfl, hv51, hv52, h6, bel6, g6⟩
  go_wp2_with fail
  go_ret3
  exact ⟨_, _, _, rfl, bel6⟩
end Go.Proofs.Ytggagpojgoimoaa
