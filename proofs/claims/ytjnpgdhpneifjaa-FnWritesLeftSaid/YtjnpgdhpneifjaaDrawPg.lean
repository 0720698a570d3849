/- Drawn pages. Condition: a stamp in 1..1000000 for a full one. -/
import Derived.Test.YtjnpgdhpneifjaaDrawList
import Derived.Test.YtjnpgdhpneifjaaPages
namespace Go.Proofs.Ytjnpgdhpneifjaa
open Go.ChangeShapes Go.WideShapes Go.ChangeAt Go.RowKit
set_option linter.unusedVariables false
set_option linter.unusedSimpArgs false

theorem rdr_set {w : World} {B g p g' i : Nat} (h : Rdr w B g p) (h1 : B ≤ g') (h2 : g' ≠ g) (u : Value) : Rdr (w.setCell ⟨g', i, none⟩ u) B g p :=
  h.grown (row := some g') (gb_setCell (World.grownBy.refl _ _) (.inl rfl) _) (fun k e => by injection e with e; subst e; exact ⟨h1, h2⟩)
theorem gb_set {w0 w : World} {g g' i : Nat} (h : w0.grownBy w (some g)) (h1 : w0.heap.size ≤ g') (u : Value) : w0.grownBy (w.setCell ⟨g', i, none⟩ u) (some g) :=
  gb_setCell h (.inr h1) u
theorem rdr_set5 {w : World} {B g p g' : Nat} (h : Rdr w B g p) (h1 : B ≤ g') (h2 : g' ≠ g) (u0 u1 u2 u3 u4 : Value) : Rdr (((((w.setCell ⟨g', 0, none⟩ u0).setCell ⟨g', 1, none⟩ u1).setCell ⟨g', 2, none⟩ u2).setCell ⟨g', 3, none⟩ u3).setCell ⟨g', 4, none⟩ u4) B g p :=
  rdr_set (rdr_set (rdr_set (rdr_set (rdr_set h h1 h2 _) h1 h2 _) h1 h2 _) h1 h2 _) h1 h2 _
theorem gb_set5 {w0 w : World} {g g' : Nat} (h : w0.grownBy w (some g)) (h1 : w0.heap.size ≤ g') (u0 u1 u2 u3 u4 : Value) : w0.grownBy (((((w.setCell ⟨g', 0, none⟩ u0).setCell ⟨g', 1, none⟩ u1).setCell ⟨g', 2, none⟩ u2).setCell ⟨g', 3, none⟩ u3).setCell ⟨g', 4, none⟩ u4) (some g) :=
  gb_set (gb_set (gb_set (gb_set (gb_set h h1 _) h1 _) h1 _) h1 _) h1 _
def FullPost (B g p : Nat) (s : Int) (w : World) (e : Ending) (w' : World) : Prop :=
  ∃ x y z : Int, e = .returned (.agg #[.bool true, .int .i64 x, .int .i64 y, .int .i64 z, .int .i64 s]) ∧ (0 ≤ x ∧ x ≤ 3) ∧ (0 ≤ y ∧ y ≤ 3) ∧ (0 ≤ z ∧ z ≤ 99) ∧ Rdr w' B g (p + 3) ∧ w.grownBy w' (some g)
theorem full_ok {x y z s : Int} (hx : 0 ≤ x ∧ x ≤ 3) (hy : 0 ≤ y ∧ y ≤ 3) (hz : 0 ≤ z ∧ z ≤ 99) (hs : 1 ≤ s ∧ s ≤ 1000000) : PageOk ⟨true, x, y, z, s⟩ := by rw [pageOk_yes]; omega
set_option maxHeartbeats 2000000 in
theorem l20Full_c {B g p : Nat} {s : Int} {w : World} (h : Rdr w B g p) (hp : p < 990000) :
    Calls Try.prog 81 #[.pointer (some ⟨g, 0, none⟩), .int .i64 s] w (FullPost B g p s w) := by
  have hlt := h.lt
  have h1 := h.alloc (.cells #[.bool false, .int .i64 0, .int .i64 0, .int .i64 0, .int .i64 0] 102)
  have k1 := Blk.new w 102 #[.bool false, .int .i64 0, .int .i64 0, .int .i64 0, .int .i64 0]
  have G1 : w.grownBy (w.alloc (.cells #[.bool false, .int .i64 0, .int .i64 0, .int .i64 0, .int .i64 0] 102)) (some g) := gb_alloc (World.grownBy.refl _ _) _
  clear h
  go_enter Try.func81, Try.ntmps81
  go_wp2_with fail
  generalize w.alloc (.cells #[.bool false, .int .i64 0, .int .i64 0, .int .i64 0, .int .i64 0] 102) = w1 at *
  refine (pick_c h1 (by omega)).mono ?_
  rintro e w2 ⟨v2, rfl, hv2, hv2', h2, q2⟩
  have k2 := k1.grown q2 (by intro e; injection e with e; omega)
  have G2 := gb_trans G1 q2
  clear k1 G1 q2 h1
  go_wp2_with fail
  refine (pick_c h2 (by omega)).mono ?_
  rintro e w3 ⟨v3, rfl, hv3, hv3', h3, q3⟩
  have k3 := k2.grown q3 (by intro e; injection e with e; omega)
  have G3 := gb_trans G2 q3
  clear k2 G2 q3 h2
  go_wp2_with fail
  refine (pick_c h3 (by omega)).mono ?_
  rintro e w4 ⟨v4, rfl, hv4, hv4', h4, q4⟩
  have k4 := k3.grown q4 (by intro e; injection e with e; omega)
  have G4 := gb_trans G3 q4
  clear k3 G3 q4 h3
  have c0 := k4.cell 0
  have c1 := k4.cell 1
  have c2 := k4.cell 2
  have c3 := k4.cell 3
  have c4 := k4.cell 4
  have z0 := k4.frozen 0
  have z1 := k4.frozen 1
  have z2 := k4.frozen 2
  have z3 := k4.frozen 3
  have z4 := k4.frozen 4
  simp at c0 c1 c2 c3 c4
  have ke := (((((k4.set_ 0 (.bool true)).set_ 1 (.int .i64 v2)).set_ 2 (.int .i64 v3)).set_ 3 (.int .i64 v4)).set_ 4 (.int .i64 s))
  have e0 := ke.cell 0
  have e1 := ke.cell 1
  have e2 := ke.cell 2
  have e3 := ke.cell 3
  have e4 := ke.cell 4
  simp at e0 e1 e2 e3 e4
  have HE := Lib.hid (rdr_set5 h4 (g' := w.heap.size) (by omega) (by omega) (.bool true) (.int .i64 v2) (.int .i64 v3) (.int .i64 v4) (.int .i64 s))
  have GE := Lib.hid (gb_set5 G4 (g' := w.heap.size) (Nat.le_refl _) (.bool true) (.int .i64 v2) (.int .i64 v3) (.int .i64 v4) (.int .i64 s))
  clear ke
  go_wp2
  generalize ((((w4.setCell ⟨w.heap.size, 0, none⟩ (.bool true)).setCell ⟨w.heap.size, 1, none⟩ (.int .i64 v2)).setCell ⟨w.heap.size, 2, none⟩ (.int .i64 v3)).setCell ⟨w.heap.size, 3, none⟩ (.int .i64 v4)).setCell ⟨w.heap.size, 4, none⟩ (.int .i64 s) = wz at *
  refine bodyPost_ret (by simp [results, Try.results81, go_sem, e0, e1, e2, e3, e4]; try rfl) rfl ?_
  exact ⟨_, _, _, rfl, ⟨by omega, by omega⟩, ⟨by omega, by omega⟩, ⟨by omega, by omega⟩, HE.out.mono (by omega), GE.out⟩
def PagePost (B g p : Nat) (w : World) (e : Ending) (w' : World) : Prop :=
  ∃ P : PageV, e = .returned (.agg #[.bool P.full, .int .i64 P.file, .int .i64 P.place, .int .i64 P.value, .int .i64 P.stamp]) ∧ Rdr w' B g (p + 10) ∧ w.grownBy w' (some g)
set_option maxHeartbeats 4000000 in
theorem l20Page_c {B g p : Nat} {n : Int} {w : World} (h : Rdr w B g p) (hp : p < 990000) (hn1 : 0 < n) (hn2 : n < 1000000) :
    Calls Try.prog 119 #[.pointer (some ⟨g, 0, none⟩), .int .i64 n] w (PagePost B g p w) := by
  have hlt := h.lt
  have h1 := h.alloc (.cells #[.bool false, .int .i64 0, .int .i64 0, .int .i64 0, .int .i64 0] 102)
  have k1 := Blk.new w 102 #[.bool false, .int .i64 0, .int .i64 0, .int .i64 0, .int .i64 0]
  have G1 : w.grownBy (w.alloc (.cells #[.bool false, .int .i64 0, .int .i64 0, .int .i64 0, .int .i64 0] 102)) (some g) := gb_alloc (World.grownBy.refl _ _) _
  clear h
  have hB := h1.lt
  go_enter Try.func119, Try.ntmps119
  go_wp2_with fail
  generalize w.alloc (.cells #[.bool false, .int .i64 0, .int .i64 0, .int .i64 0, .int .i64 0] 102) = w1 at *
  refine (odd_c h1 (by omega) hn1 hn2).mono ?_
  rintro e w2 ⟨b, rfl, h2, q2⟩
  have k2 := k1.grown q2 (by intro e; injection e with e; omega)
  have G2 := gb_trans G1 q2
  clear k1 G1 q2 h1 hB
  cases b
  · go_wp2_with fail
    refine (pick_c h2 (by omega)).mono ?_
    rintro e w3 ⟨v3, rfl, hv3, hv3', h3, q3⟩
    have k3 := k2.grown q3 (by intro e; injection e with e; omega)
    have G3 := gb_trans G2 q3
    clear k2 G2 q3 h2
    by_cases hz : v3 = 0
    · subst hz
      have c0 := k3.cell 0
      have c1 := k3.cell 1
      have c2 := k3.cell 2
      have c3 := k3.cell 3
      have c4 := k3.cell 4
      have z0 := k3.frozen 0
      have z1 := k3.frozen 1
      have z2 := k3.frozen 2
      have z3 := k3.frozen 3
      have z4 := k3.frozen 4
      simp at c0 c1 c2 c3 c4
      have ke := (((((k3.set_ 0 (.bool false)).set_ 1 (.int .i64 0)).set_ 2 (.int .i64 0)).set_ 3 (.int .i64 0)).set_ 4 (.int .i64 0))
      have e0 := ke.cell 0
      have e1 := ke.cell 1
      have e2 := ke.cell 2
      have e3 := ke.cell 3
      have e4 := ke.cell 4
      simp at e0 e1 e2 e3 e4
      have HE := Lib.hid (rdr_set5 h3 (g' := w.heap.size) (by omega) (by omega) (.bool false) (.int .i64 0) (.int .i64 0) (.int .i64 0) (.int .i64 0))
      have GE := Lib.hid (gb_set5 G3 (g' := w.heap.size) (Nat.le_refl _) (.bool false) (.int .i64 0) (.int .i64 0) (.int .i64 0) (.int .i64 0))
      clear ke
      go_wp2
      generalize ((((w3.setCell ⟨w.heap.size, 0, none⟩ (.bool false)).setCell ⟨w.heap.size, 1, none⟩ (.int .i64 0)).setCell ⟨w.heap.size, 2, none⟩ (.int .i64 0)).setCell ⟨w.heap.size, 3, none⟩ (.int .i64 0)).setCell ⟨w.heap.size, 4, none⟩ (.int .i64 0) = wz at *
      refine bodyPost_ret (by simp [results, Try.results119, go_sem, e0, e1, e2, e3, e4]; try rfl) rfl ?_
      exact ⟨⟨false, 0, 0, 0, 0⟩, rfl, HE.out.mono (by omega), GE.out⟩
    · have hd : (v3 == 0) = false := by simpa using hz
      go_wp2_with fail
      refine (pick_c h3 (by omega)).mono ?_
      rintro e w4 ⟨v4, rfl, hv4, hv4', h4, q4⟩
      have k4 := k3.grown q4 (by intro e; injection e with e; omega)
      have G4 := gb_trans G3 q4
      clear k3 G3 q4 h3
      go_wp2_with fail
      refine (pick_c h4 (by omega)).mono ?_
      rintro e w5 ⟨v5, rfl, hv5, hv5', h5, q5⟩
      have k5 := k4.grown q5 (by intro e; injection e with e; omega)
      have G5 := gb_trans G4 q5
      clear k4 G4 q5 h4
      go_wp2_with fail
      refine (pick_c h5 (by omega)).mono ?_
      rintro e w6 ⟨v6, rfl, hv6, hv6', h6, q6⟩
      have k6 := k5.grown q6 (by intro e; injection e with e; omega)
      have G6 := gb_trans G5 q6
      clear k5 G5 q6 h5
      go_wp2_with fail
      refine (pick_c h6 (by omega)).mono ?_
      rintro e w7 ⟨v7, rfl, hv7, hv7', h7, q7⟩
      have k7 := k6.grown q7 (by intro e; injection e with e; omega)
      have G7 := gb_trans G6 q7
      clear k6 G6 q7 h6
      have w1' : IntKind.i64.wrap (1 + v7) = 1 + v7 := IntWalk.i64_in _ (by omega)
      have c0 := k7.cell 0
      have c1 := k7.cell 1
      have c2 := k7.cell 2
      have c3 := k7.cell 3
      have c4 := k7.cell 4
      have z0 := k7.frozen 0
      have z1 := k7.frozen 1
      have z2 := k7.frozen 2
      have z3 := k7.frozen 3
      have z4 := k7.frozen 4
      simp at c0 c1 c2 c3 c4
      have ke := (((((k7.set_ 0 (.bool true)).set_ 1 (.int .i64 v4)).set_ 2 (.int .i64 v5)).set_ 3 (.int .i64 v6)).set_ 4 (.int .i64 (1 + v7)))
      have e0 := ke.cell 0
      have e1 := ke.cell 1
      have e2 := ke.cell 2
      have e3 := ke.cell 3
      have e4 := ke.cell 4
      simp at e0 e1 e2 e3 e4
      have HE := Lib.hid (rdr_set5 h7 (g' := w.heap.size) (by omega) (by omega) (.bool true) (.int .i64 v4) (.int .i64 v5) (.int .i64 v6) (.int .i64 (1 + v7)))
      have GE := Lib.hid (gb_set5 G7 (g' := w.heap.size) (Nat.le_refl _) (.bool true) (.int .i64 v4) (.int .i64 v5) (.int .i64 v6) (.int .i64 (1 + v7)))
      clear ke
      go_wp2
      generalize ((((w7.setCell ⟨w.heap.size, 0, none⟩ (.bool true)).setCell ⟨w.heap.size, 1, none⟩ (.int .i64 v4)).setCell ⟨w.heap.size, 2, none⟩ (.int .i64 v5)).setCell ⟨w.heap.size, 3, none⟩ (.int .i64 v6)).setCell ⟨w.heap.size, 4, none⟩ (.int .i64 (1 + v7)) = wz at *
      refine bodyPost_ret (by simp [results, Try.results119, go_sem, e0, e1, e2, e3, e4]; try rfl) rfl ?_
      exact ⟨⟨true, v4, v5, v6, 1 + v7⟩, rfl, HE.out.mono (by omega), GE.out⟩
  · go_wp2_with fail
    have KT := Blk.new w2 102 #[.bool false, .int .i64 0, .int .i64 0, .int .i64 1, .int .i64 0, .bool true, .int .i64 0, .int .i64 0, .int .i64 0, .int .i64 0, .bool true, .int .i64 8, .int .i64 0, .int .i64 0, .int .i64 1, .bool true, .int .i64 0, .int .i64 (-1), .int .i64 0, .int .i64 1, .bool true, .int .i64 0, .int .i64 0, .int .i64 10000, .int .i64 1, .bool true, .int .i64 0, .int .i64 0, .int .i64 0, .int .i64 1000001]
    have h2a := h2.alloc (.cells #[.bool false, .int .i64 0, .int .i64 0, .int .i64 1, .int .i64 0, .bool true, .int .i64 0, .int .i64 0, .int .i64 0, .int .i64 0, .bool true, .int .i64 8, .int .i64 0, .int .i64 0, .int .i64 1, .bool true, .int .i64 0, .int .i64 (-1), .int .i64 0, .int .i64 1, .bool true, .int .i64 0, .int .i64 0, .int .i64 10000, .int .i64 1, .bool true, .int .i64 0, .int .i64 0, .int .i64 0, .int .i64 1000001] 102)
    have G2a := gb_alloc G2 (.cells #[.bool false, .int .i64 0, .int .i64 0, .int .i64 1, .int .i64 0, .bool true, .int .i64 0, .int .i64 0, .int .i64 0, .int .i64 0, .bool true, .int .i64 8, .int .i64 0, .int .i64 0, .int .i64 1, .bool true, .int .i64 0, .int .i64 (-1), .int .i64 0, .int .i64 1, .bool true, .int .i64 0, .int .i64 0, .int .i64 10000, .int .i64 1, .bool true, .int .i64 0, .int .i64 0, .int .i64 0, .int .i64 1000001] 102)
    have k2a := k2.alloc (.cells #[.bool false, .int .i64 0, .int .i64 0, .int .i64 1, .int .i64 0, .bool true, .int .i64 0, .int .i64 0, .int .i64 0, .int .i64 0, .bool true, .int .i64 8, .int .i64 0, .int .i64 0, .int .i64 1, .bool true, .int .i64 0, .int .i64 (-1), .int .i64 0, .int .i64 1, .bool true, .int .i64 0, .int .i64 0, .int .i64 10000, .int .i64 1, .bool true, .int .i64 0, .int .i64 0, .int .i64 0, .int .i64 1000001] 102)
    have hlt2 := h2.lt
    have klt := k2.lt
    clear h2 G2 k2
    refine (pick_c h2a (by omega)).mono ?_
    rintro e w3 ⟨v3, rfl, hv3, hv3', h3, q3⟩
    have k3 := k2a.grown q3 (by intro e; injection e with e; omega)
    have KT3 := KT.grown q3 (by intro e; injection e with e; omega)
    have G3 := gb_trans G2a q3
    clear h2a k2a KT G2a q3
    have hc : v3 = 0 ∨ v3 = 1 ∨ v3 = 2 ∨ v3 = 3 ∨ v3 = 4 ∨ v3 = 5 := by omega
    clear hv3 hv3'
    rcases hc with rfl | rfl | rfl | rfl | rfl | rfl
    · have t0 := KT3.cell 0
      have t1 := KT3.cell 1
      have t2 := KT3.cell 2
      have t3 := KT3.cell 3
      have t4 := KT3.cell 4
      simp at t0 t1 t2 t3 t4
      have c0 := k3.cell 0
      have c1 := k3.cell 1
      have c2 := k3.cell 2
      have c3 := k3.cell 3
      have c4 := k3.cell 4
      have z0 := k3.frozen 0
      have z1 := k3.frozen 1
      have z2 := k3.frozen 2
      have z3 := k3.frozen 3
      have z4 := k3.frozen 4
      simp at c0 c1 c2 c3 c4
      have ke := (((((k3.set_ 0 (.bool false)).set_ 1 (.int .i64 0)).set_ 2 (.int .i64 0)).set_ 3 (.int .i64 1)).set_ 4 (.int .i64 0))
      have e0 := ke.cell 0
      have e1 := ke.cell 1
      have e2 := ke.cell 2
      have e3 := ke.cell 3
      have e4 := ke.cell 4
      simp at e0 e1 e2 e3 e4
      have HE := Lib.hid (rdr_set5 h3 (g' := w.heap.size) (by omega) (by omega) (.bool false) (.int .i64 0) (.int .i64 0) (.int .i64 1) (.int .i64 0))
      have GE := Lib.hid (gb_set5 G3 (g' := w.heap.size) (Nat.le_refl _) (.bool false) (.int .i64 0) (.int .i64 0) (.int .i64 1) (.int .i64 0))
      clear ke
      go_wp2
      generalize ((((w3.setCell ⟨w.heap.size, 0, none⟩ (.bool false)).setCell ⟨w.heap.size, 1, none⟩ (.int .i64 0)).setCell ⟨w.heap.size, 2, none⟩ (.int .i64 0)).setCell ⟨w.heap.size, 3, none⟩ (.int .i64 1)).setCell ⟨w.heap.size, 4, none⟩ (.int .i64 0) = wz at *
      refine bodyPost_ret (by simp [results, Try.results119, go_sem, e0, e1, e2, e3, e4]; try rfl) rfl ?_
      exact ⟨⟨false, 0, 0, 1, 0⟩, rfl, HE.out.mono (by omega), GE.out⟩
    · have t0 := KT3.cell 5
      have t1 := KT3.cell 6
      have t2 := KT3.cell 7
      have t3 := KT3.cell 8
      have t4 := KT3.cell 9
      simp at t0 t1 t2 t3 t4
      have c0 := k3.cell 0
      have c1 := k3.cell 1
      have c2 := k3.cell 2
      have c3 := k3.cell 3
      have c4 := k3.cell 4
      have z0 := k3.frozen 0
      have z1 := k3.frozen 1
      have z2 := k3.frozen 2
      have z3 := k3.frozen 3
      have z4 := k3.frozen 4
      simp at c0 c1 c2 c3 c4
      have ke := (((((k3.set_ 0 (.bool true)).set_ 1 (.int .i64 0)).set_ 2 (.int .i64 0)).set_ 3 (.int .i64 0)).set_ 4 (.int .i64 0))
      have e0 := ke.cell 0
      have e1 := ke.cell 1
      have e2 := ke.cell 2
      have e3 := ke.cell 3
      have e4 := ke.cell 4
      simp at e0 e1 e2 e3 e4
      have HE := Lib.hid (rdr_set5 h3 (g' := w.heap.size) (by omega) (by omega) (.bool true) (.int .i64 0) (.int .i64 0) (.int .i64 0) (.int .i64 0))
      have GE := Lib.hid (gb_set5 G3 (g' := w.heap.size) (Nat.le_refl _) (.bool true) (.int .i64 0) (.int .i64 0) (.int .i64 0) (.int .i64 0))
      clear ke
      go_wp2
      generalize ((((w3.setCell ⟨w.heap.size, 0, none⟩ (.bool true)).setCell ⟨w.heap.size, 1, none⟩ (.int .i64 0)).setCell ⟨w.heap.size, 2, none⟩ (.int .i64 0)).setCell ⟨w.heap.size, 3, none⟩ (.int .i64 0)).setCell ⟨w.heap.size, 4, none⟩ (.int .i64 0) = wz at *
      refine bodyPost_ret (by simp [results, Try.results119, go_sem, e0, e1, e2, e3, e4]; try rfl) rfl ?_
      exact ⟨⟨true, 0, 0, 0, 0⟩, rfl, HE.out.mono (by omega), GE.out⟩
    · have t0 := KT3.cell 10
      have t1 := KT3.cell 11
      have t2 := KT3.cell 12
      have t3 := KT3.cell 13
      have t4 := KT3.cell 14
      simp at t0 t1 t2 t3 t4
      have c0 := k3.cell 0
      have c1 := k3.cell 1
      have c2 := k3.cell 2
      have c3 := k3.cell 3
      have c4 := k3.cell 4
      have z0 := k3.frozen 0
      have z1 := k3.frozen 1
      have z2 := k3.frozen 2
      have z3 := k3.frozen 3
      have z4 := k3.frozen 4
      simp at c0 c1 c2 c3 c4
      have ke := (((((k3.set_ 0 (.bool true)).set_ 1 (.int .i64 8)).set_ 2 (.int .i64 0)).set_ 3 (.int .i64 0)).set_ 4 (.int .i64 1))
      have e0 := ke.cell 0
      have e1 := ke.cell 1
      have e2 := ke.cell 2
      have e3 := ke.cell 3
      have e4 := ke.cell 4
      simp at e0 e1 e2 e3 e4
      have HE := Lib.hid (rdr_set5 h3 (g' := w.heap.size) (by omega) (by omega) (.bool true) (.int .i64 8) (.int .i64 0) (.int .i64 0) (.int .i64 1))
      have GE := Lib.hid (gb_set5 G3 (g' := w.heap.size) (Nat.le_refl _) (.bool true) (.int .i64 8) (.int .i64 0) (.int .i64 0) (.int .i64 1))
      clear ke
      go_wp2
      generalize ((((w3.setCell ⟨w.heap.size, 0, none⟩ (.bool true)).setCell ⟨w.heap.size, 1, none⟩ (.int .i64 8)).setCell ⟨w.heap.size, 2, none⟩ (.int .i64 0)).setCell ⟨w.heap.size, 3, none⟩ (.int .i64 0)).setCell ⟨w.heap.size, 4, none⟩ (.int .i64 1) = wz at *
      refine bodyPost_ret (by simp [results, Try.results119, go_sem, e0, e1, e2, e3, e4]; try rfl) rfl ?_
      exact ⟨⟨true, 8, 0, 0, 1⟩, rfl, HE.out.mono (by omega), GE.out⟩
    · have t0 := KT3.cell 15
      have t1 := KT3.cell 16
      have t2 := KT3.cell 17
      have t3 := KT3.cell 18
      have t4 := KT3.cell 19
      simp at t0 t1 t2 t3 t4
      have c0 := k3.cell 0
      have c1 := k3.cell 1
      have c2 := k3.cell 2
      have c3 := k3.cell 3
      have c4 := k3.cell 4
      have z0 := k3.frozen 0
      have z1 := k3.frozen 1
      have z2 := k3.frozen 2
      have z3 := k3.frozen 3
      have z4 := k3.frozen 4
      simp at c0 c1 c2 c3 c4
      have ke := (((((k3.set_ 0 (.bool true)).set_ 1 (.int .i64 0)).set_ 2 (.int .i64 (-1))).set_ 3 (.int .i64 0)).set_ 4 (.int .i64 1))
      have e0 := ke.cell 0
      have e1 := ke.cell 1
      have e2 := ke.cell 2
      have e3 := ke.cell 3
      have e4 := ke.cell 4
      simp at e0 e1 e2 e3 e4
      have HE := Lib.hid (rdr_set5 h3 (g' := w.heap.size) (by omega) (by omega) (.bool true) (.int .i64 0) (.int .i64 (-1)) (.int .i64 0) (.int .i64 1))
      have GE := Lib.hid (gb_set5 G3 (g' := w.heap.size) (Nat.le_refl _) (.bool true) (.int .i64 0) (.int .i64 (-1)) (.int .i64 0) (.int .i64 1))
      clear ke
      go_wp2
      generalize ((((w3.setCell ⟨w.heap.size, 0, none⟩ (.bool true)).setCell ⟨w.heap.size, 1, none⟩ (.int .i64 0)).setCell ⟨w.heap.size, 2, none⟩ (.int .i64 (-1))).setCell ⟨w.heap.size, 3, none⟩ (.int .i64 0)).setCell ⟨w.heap.size, 4, none⟩ (.int .i64 1) = wz at *
      refine bodyPost_ret (by simp [results, Try.results119, go_sem, e0, e1, e2, e3, e4]; try rfl) rfl ?_
      exact ⟨⟨true, 0, -1, 0, 1⟩, rfl, HE.out.mono (by omega), GE.out⟩
    · have t0 := KT3.cell 20
      have t1 := KT3.cell 21
      have t2 := KT3.cell 22
      have t3 := KT3.cell 23
      have t4 := KT3.cell 24
      simp at t0 t1 t2 t3 t4
      have c0 := k3.cell 0
      have c1 := k3.cell 1
      have c2 := k3.cell 2
      have c3 := k3.cell 3
      have c4 := k3.cell 4
      have z0 := k3.frozen 0
      have z1 := k3.frozen 1
      have z2 := k3.frozen 2
      have z3 := k3.frozen 3
      have z4 := k3.frozen 4
      simp at c0 c1 c2 c3 c4
      have ke := (((((k3.set_ 0 (.bool true)).set_ 1 (.int .i64 0)).set_ 2 (.int .i64 0)).set_ 3 (.int .i64 10000)).set_ 4 (.int .i64 1))
      have e0 := ke.cell 0
      have e1 := ke.cell 1
      have e2 := ke.cell 2
      have e3 := ke.cell 3
      have e4 := ke.cell 4
      simp at e0 e1 e2 e3 e4
      have HE := Lib.hid (rdr_set5 h3 (g' := w.heap.size) (by omega) (by omega) (.bool true) (.int .i64 0) (.int .i64 0) (.int .i64 10000) (.int .i64 1))
      have GE := Lib.hid (gb_set5 G3 (g' := w.heap.size) (Nat.le_refl _) (.bool true) (.int .i64 0) (.int .i64 0) (.int .i64 10000) (.int .i64 1))
      clear ke
      go_wp2
      generalize ((((w3.setCell ⟨w.heap.size, 0, none⟩ (.bool true)).setCell ⟨w.heap.size, 1, none⟩ (.int .i64 0)).setCell ⟨w.heap.size, 2, none⟩ (.int .i64 0)).setCell ⟨w.heap.size, 3, none⟩ (.int .i64 10000)).setCell ⟨w.heap.size, 4, none⟩ (.int .i64 1) = wz at *
      refine bodyPost_ret (by simp [results, Try.results119, go_sem, e0, e1, e2, e3, e4]; try rfl) rfl ?_
      exact ⟨⟨true, 0, 0, 10000, 1⟩, rfl, HE.out.mono (by omega), GE.out⟩
    · have t0 := KT3.cell 25
      have t1 := KT3.cell 26
      have t2 := KT3.cell 27
      have t3 := KT3.cell 28
      have t4 := KT3.cell 29
      simp at t0 t1 t2 t3 t4
      have c0 := k3.cell 0
      have c1 := k3.cell 1
      have c2 := k3.cell 2
      have c3 := k3.cell 3
      have c4 := k3.cell 4
      have z0 := k3.frozen 0
      have z1 := k3.frozen 1
      have z2 := k3.frozen 2
      have z3 := k3.frozen 3
      have z4 := k3.frozen 4
      simp at c0 c1 c2 c3 c4
      have ke := (((((k3.set_ 0 (.bool true)).set_ 1 (.int .i64 0)).set_ 2 (.int .i64 0)).set_ 3 (.int .i64 0)).set_ 4 (.int .i64 1000001))
      have e0 := ke.cell 0
      have e1 := ke.cell 1
      have e2 := ke.cell 2
      have e3 := ke.cell 3
      have e4 := ke.cell 4
      simp at e0 e1 e2 e3 e4
      have HE := Lib.hid (rdr_set5 h3 (g' := w.heap.size) (by omega) (by omega) (.bool true) (.int .i64 0) (.int .i64 0) (.int .i64 0) (.int .i64 1000001))
      have GE := Lib.hid (gb_set5 G3 (g' := w.heap.size) (Nat.le_refl _) (.bool true) (.int .i64 0) (.int .i64 0) (.int .i64 0) (.int .i64 1000001))
      clear ke
      go_wp2
      generalize ((((w3.setCell ⟨w.heap.size, 0, none⟩ (.bool true)).setCell ⟨w.heap.size, 1, none⟩ (.int .i64 0)).setCell ⟨w.heap.size, 2, none⟩ (.int .i64 0)).setCell ⟨w.heap.size, 3, none⟩ (.int .i64 0)).setCell ⟨w.heap.size, 4, none⟩ (.int .i64 1000001) = wz at *
      refine bodyPost_ret (by simp [results, Try.results119, go_sem, e0, e1, e2, e3, e4]; try rfl) rfl ?_
      exact ⟨⟨true, 0, 0, 0, 1000001⟩, rfl, HE.out.mono (by omega), GE.out⟩
end Go.Proofs.Ytjnpgdhpneifjaa
