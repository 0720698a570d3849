/- WriteBlock by the reference, at a valid block and a valid full page. -/
import Derived.Test.YtjnpgdhpneifjaaNextS
import Derived.Test.YtjnpgdhpneifjaaCopyB
namespace Go.Proofs.Ytjnpgdhpneifjaa
open Go.ChangeShapes Go.WideShapes Go.ChangeAt Go.RowKit
set_option linter.unusedVariables false
set_option linter.unusedSimpArgs false

/-- a block written, in new memory, returned with the page's number -/
def OwnW (w0 : World) (b : BlockV) (p : PageV) (e : Ending) (w' : World) : Prop := ∃ A c, e = .returned (.tuple #[.agg #[.int .i64 b.wear, .slice A b.pages.length c], .int .i64 (nextP b.pages)]) ∧ w'.ownsRow w0.heap.size 102 5 (.slice A b.pages.length c) b.pages.length (flatG (writeF b p).pages) ∧ Below w0.heap.size w0 w'
set_option maxHeartbeats 2000000 in
theorem writeBlock_spec {we : Int} {A : Option Addr} {n c B : Nat} {ps : List PageV} {x y z s : Int} {w : World} (hr : RdG w B A n ps) (hB : B ≤ w.heap.size) (hnc : n ≤ c) (hcm : c ≤ 9223372036854775807) (hok : BlockOk ⟨we, ps⟩) (hp : PageOk ⟨true, x, y, z, s⟩) :
    Calls Try.prog 118 #[.agg #[.int .i64 we, .slice A n c], .agg #[.bool true, .int .i64 x, .int .i64 y, .int .i64 z, .int .i64 s]] w (OwnW w ⟨we, ps⟩ ⟨true, x, y, z, s⟩) := by
  obtain rfl : ps.length = n := hr.len
  have hn4 : ps.length = 4 := hok.2.1
  have hbt := Lib.hid (bof_t.2 hok)
  have hpt := Lib.hid (show decide (PageOk ⟨true, x, y, z, s⟩) = true from decide_eq_true hp)
  have HOK := Lib.hid hok
  have HN4 := Lib.hid hn4
  have b3 : Below w.heap.size w (((w.alloc (.cells #[.int .i64 we, .slice A ps.length c] 67)).alloc (.cells #[.bool true, .int .i64 x, .int .i64 y, .int .i64 z, .int .i64 s] 102)).alloc (.cells #[.int .i64 0, .slice none 0 0] 67)) := (((Below.refl _ _).alloc (Nat.le_refl _) _).alloc (by simp) _).alloc (by simp; omega) _
  have e1 : (w.alloc (.cells #[.int .i64 we, .slice A ps.length c] 67)).heap.size = w.heap.size + 1 := by simp
  have e2 : ((w.alloc (.cells #[.int .i64 we, .slice A ps.length c] 67)).alloc (.cells #[.bool true, .int .i64 x, .int .i64 y, .int .i64 z, .int .i64 s] 102)).heap.size = w.heap.size + 1 + 1 := by simp
  have k1 := ((Blk.new w 67 #[.int .i64 we, .slice A ps.length c]).alloc (.cells #[.bool true, .int .i64 x, .int .i64 y, .int .i64 z, .int .i64 s] 102)).alloc (.cells #[.int .i64 0, .slice none 0 0] 67)
  have k2 := (Blk.new (w.alloc (.cells #[.int .i64 we, .slice A ps.length c] 67)) 102 #[.bool true, .int .i64 x, .int .i64 y, .int .i64 z, .int .i64 s]).alloc (.cells #[.int .i64 0, .slice none 0 0] 67)
  have k3 := Blk.new ((w.alloc (.cells #[.int .i64 we, .slice A ps.length c] 67)).alloc (.cells #[.bool true, .int .i64 x, .int .i64 y, .int .i64 z, .int .i64 s] 102)) 67 #[.int .i64 0, .slice none 0 0]
  rw [e1] at k2
  rw [e2] at k3
  have hr3 := (hr.mono hB).below b3
  have B3 := Lib.hid b3
  have g3 : w.heap.size + 2 < (((w.alloc (.cells #[.int .i64 we, .slice A ps.length c] 67)).alloc (.cells #[.bool true, .int .i64 x, .int .i64 y, .int .i64 z, .int .i64 s] 102)).alloc (.cells #[.int .i64 0, .slice none 0 0] 67)).heap.size := by simp
  clear hr hok hp b3 e1 e2 hn4
  go_enter Try.func118, Try.ntmps118
  go_upto_region 1 with (fail)
  generalize ((w.alloc (.cells #[.int .i64 we, .slice A ps.length c] 67)).alloc (.cells #[.bool true, .int .i64 x, .int .i64 y, .int .i64 z, .int .i64 s] 102)).alloc (.cells #[.int .i64 0, .slice none 0 0] 67) = w3 at *
  have t0 := k1.cell 0
  have t1 := k1.cell 1
  simp at t0 t1
  go_wp2_with fail
  refine (blockValid_spec hr3 B3.out.size hnc hcm).mono ?_
  rw [hbt.out]
  rintro e w4 ⟨rfl, b4⟩
  have k4 := k1.below b4 (by omega)
  have q4 := k2.below b4 (by omega)
  have r4 := k3.below b4 (by omega)
  have hr4 := hr3.below (b4.mono B3.out.size)
  have B4 := Lib.hid (B3.out.trans (b4.mono B3.out.size))
  have g4 : w.heap.size + 2 < w4.heap.size := by have := b4.size; omega
  clear k1 k2 k3 b4 hr3 B3 t0 t1 g3
  have u0 := q4.cell 0
  have u1 := q4.cell 1
  have u2 := q4.cell 2
  have u3 := q4.cell 3
  have u4 := q4.cell 4
  simp at u0 u1 u2 u3 u4
  go_wp2_with fail
  refine (pageValid_spec true x y z s _).mono ?_
  rw [hpt.out]
  rintro e w5 ⟨rfl, b5⟩
  have k5 := k4.below b5 (by omega)
  have q5 := q4.below b5 (by omega)
  have r5 := r4.below b5 (by omega)
  have hr5 := hr4.below (b5.mono B4.out.size)
  have B5 := Lib.hid (B4.out.trans (b5.mono B4.out.size))
  have g5 : w.heap.size + 2 < w5.heap.size := by have := b5.size; omega
  clear k4 q4 r4 b5 hr4 B4 u0 u1 u2 u3 u4 g4
  have u0 := q5.cell 0
  have t0 := k5.cell 0
  have t1 := k5.cell 1
  simp at u0 t0 t1
  go_wp2_with fail
  refine (l4Copy_c hr5 B5.out.size (by have := HN4.out; omega) (by have := HN4.out; omega)).mono ?_
  rintro e w6 ⟨A6, c6, rfl, o6, b6⟩
  simp only at o6 ⊢
  obtain ⟨g, rfl, hg2, hg3⟩ : ∃ g, A6 = some ⟨g, 0, none⟩ ∧ w5.heap.size ≤ g ∧ g < w6.heap.size := by
    obtain ⟨g, cap, e, hg1, hg2⟩ := o6.form (by have := HN4.out; omega)
    injection e with e
    exact ⟨g, e, hg1, hg2⟩
  go_upto_region 4 with (fail)
  have b6x : Below w5.heap.size w5 (w6.alloc (.cells #[.int .i64 we, .slice (some ⟨g, 0, none⟩) ps.length c6] 67)) := b6.alloc b6.size _
  have k6 := k5.below b6x (by omega)
  have q6 := q5.below b6x (by omega)
  have r6 := r5.below b6x (by omega)
  have s6 := Blk.new w6 67 #[.int .i64 we, .slice (some ⟨g, 0, none⟩) ps.length c6]
  have o6x := own_below o6 ((Below.refl w6.heap.size w6).alloc (Nat.le_refl _) (.cells #[.int .i64 we, .slice (some ⟨g, 0, none⟩) ps.length c6] 67))
  have hr6 := hr5.below (b6x.mono B5.out.size)
  have B6 := Lib.hid (B5.out.trans (b6x.mono B5.out.size))
  have g6 : w.heap.size + 2 < w6.heap.size := by have := b6.size; omega
  have g6x : w6.heap.size < (w6.alloc (.cells #[.int .i64 we, .slice (some ⟨g, 0, none⟩) ps.length c6] 67)).heap.size := by simp
  clear k5 q5 r5 b6 b6x hr5 B5 u0 t0 t1 o6
  generalize w6.alloc (.cells #[.int .i64 we, .slice (some ⟨g, 0, none⟩) ps.length c6] 67) = w7 at *
  generalize w6.heap.size = h6 at *
  have t0 := k6.cell 0
  have t1 := k6.cell 1
  simp at t0 t1
  go_wp2_with fail
  refine (blockNext_spec hr6 B6.out.size hnc hcm HOK.out).mono ?_
  rintro e w8 ⟨rfl, b8⟩
  have q8 := q6.below b8 (by omega)
  have r8 := r6.below b8 (by omega)
  have s8 := s6.below b8 (by omega)
  have o8 := own_below o6x b8
  have B8 := Lib.hid (B6.out.trans (b8.mono B6.out.size))
  clear k6 q6 r6 s6 o6x b8 hr6 B6 t0 t1
  have o8' := own_lower o8 (base' := w.heap.size) (by omega)
  have hgw : w.heap.size + 2 < g := by omega
  rcases nextP_or ps with ⟨hx, _⟩ | ⟨j, hx, hj, _, _⟩
  · have HW := Lib.hid (show (writeF ⟨we, ps⟩ ⟨true, x, y, z, s⟩).pages = ps from by unfold writeF; rw [if_pos (by simp only; omega)])
    have hX := Lib.hid hx
    have t0 := s8.cell 0
    have t1 := s8.cell 1
    have y0 := r8.cell 0
    have y1 := r8.cell 1
    have v0 := r8.frozen 0
    have v1 := r8.frozen 1
    simp at t0 t1 y0 y1
    have ke := (r8.set_ 0 (.int .i64 we)).set_ 1 (.slice (some ⟨g, 0, none⟩) ps.length c6)
    have e0 := ke.cell 0
    have e1 := ke.cell 1
    simp at e0 e1
    have OE := Lib.hid (ownsRow_setCell_other (ownsRow_setCell_other o8' (a := ⟨w.heap.size + 1 + 1, 0, none⟩) (by simp [Value.ownBlock]; omega) (.int .i64 we)) (a := ⟨w.heap.size + 1 + 1, 1, none⟩) (by simp [Value.ownBlock]; omega) (.slice (some ⟨g, 0, none⟩) ps.length c6))
    have BE := Lib.hid ((B8.out.setCell (p := ⟨w.heap.size + 1 + 1, 0, none⟩) (by show w.heap.size ≤ _ + 1 + 1; omega) (.int .i64 we)).setCell (p := ⟨w.heap.size + 1 + 1, 1, none⟩) (by show w.heap.size ≤ _ + 1 + 1; omega) (.slice (some ⟨g, 0, none⟩) ps.length c6))
    have E0 := Lib.hid e0
    have E1 := Lib.hid e1
    clear e0 e1 ke q8 r8 s8 o8'
    rw [hx]
    clear hx
    go_wp2
    generalize (w8.setCell ⟨w.heap.size + 1 + 1, 0, none⟩ (.int .i64 we)).setCell ⟨w.heap.size + 1 + 1, 1, none⟩ (.slice (some ⟨g, 0, none⟩) ps.length c6) = w9 at *
    have e0 := E0.out
    have e1 := E1.out
    refine bodyPost_ret (by simp [results, Try.results118, go_sem, e0, e1]; try rfl) rfl ?_
    refine ⟨_, _, by simp only; rw [hX.out], ?_, BE.out⟩
    rw [HW.out]; exact OE.out
  · have HW := Lib.hid (show (writeF ⟨we, ps⟩ ⟨true, x, y, z, s⟩).pages = ps.set j ⟨true, x, y, z, s⟩ from by unfold writeF; rw [if_neg (by simp only; omega)]; simp only; rw [hx, Int.toNat_natCast])
    have hX := Lib.hid hx
    have hq := own_putPage o8' j hj ⟨true, x, y, z, s⟩
    have HQ := Lib.hid hq
    obtain ⟨f0, f1, f2, f3, f4⟩ := own_pageCells o8' j hj
    have z0 := o8'.frozenAt (g := g) (cap := c6) (j * 5)
    have z1 := o8'.frozenAt (g := g) (cap := c6) (j * 5 + 1)
    have z2 := o8'.frozenAt (g := g) (cap := c6) (j * 5 + 2)
    have z3 := o8'.frozenAt (g := g) (cap := c6) (j * 5 + 3)
    have z4 := o8'.frozenAt (g := g) (cap := c6) (j * 5 + 4)
    have BP := Lib.hid (below_app B8.out o8' B8.out.size hq.2)
    have r9 := r8.grown hq.2 (by intro e; injection e with e; omega)
    have s9 := s8.grown hq.2 (by intro e; injection e with e; omega)
    clear hq
    unfold putPage at HQ BP r9 s9
    simp only at HQ BP r9 s9
    have u0 := q8.cell 0
    have u1 := q8.cell 1
    have u2 := q8.cell 2
    have u3 := q8.cell 3
    have u4 := q8.cell 4
    have t0 := s8.cell 0
    have t1 := s8.cell 1
    simp at t0 t1 u0 u1 u2 u3 u4
    generalize ps.getD j noPage = Q at *
    rw [hx]
    clear hx q8 r8 s8 o8'
    go_upto_region 7 with (fail)
    generalize ((((w8.setCell ⟨g, j * 5, none⟩ (.bool true)).setCell ⟨g, j * 5 + 1, none⟩ (.int .i64 x)).setCell ⟨g, j * 5 + 2, none⟩ (.int .i64 y)).setCell ⟨g, j * 5 + 3, none⟩ (.int .i64 z)).setCell ⟨g, j * 5 + 4, none⟩ (.int .i64 s) = wp at *
    clear t0 t1 u0 u1 u2 u3 u4 f0 f1 f2 f3 f4 z0 z1 z2 z3 z4
    have t0 := s9.cell 0
    have t1 := s9.cell 1
    have y0 := r9.cell 0
    have y1 := r9.cell 1
    have v0 := r9.frozen 0
    have v1 := r9.frozen 1
    simp at t0 t1 y0 y1
    have ke := (r9.set_ 0 (.int .i64 we)).set_ 1 (.slice (some ⟨g, 0, none⟩) ps.length c6)
    have e0 := ke.cell 0
    have e1 := ke.cell 1
    simp at e0 e1
    have OE := Lib.hid (ownsRow_setCell_other (ownsRow_setCell_other HQ.out.1 (a := ⟨w.heap.size + 1 + 1, 0, none⟩) (by simp [Value.ownBlock]; omega) (.int .i64 we)) (a := ⟨w.heap.size + 1 + 1, 1, none⟩) (by simp [Value.ownBlock]; omega) (.slice (some ⟨g, 0, none⟩) ps.length c6))
    have BE := Lib.hid ((BP.out.setCell (p := ⟨w.heap.size + 1 + 1, 0, none⟩) (by show w.heap.size ≤ _ + 1 + 1; omega) (.int .i64 we)).setCell (p := ⟨w.heap.size + 1 + 1, 1, none⟩) (by show w.heap.size ≤ _ + 1 + 1; omega) (.slice (some ⟨g, 0, none⟩) ps.length c6))
    have E0 := Lib.hid e0
    have E1 := Lib.hid e1
    clear e0 e1 ke r9 s9
    go_wp2
    generalize (wp.setCell ⟨w.heap.size + 1 + 1, 0, none⟩ (.int .i64 we)).setCell ⟨w.heap.size + 1 + 1, 1, none⟩ (.slice (some ⟨g, 0, none⟩) ps.length c6) = w9 at *
    have e0 := E0.out
    have e1 := E1.out
    refine bodyPost_ret (by simp [results, Try.results118, go_sem, e0, e1]; try rfl) rfl ?_
    refine ⟨_, _, by simp only; rw [hX.out], ?_, BE.out⟩
    rw [HW.out]; exact OE.out
end Go.Proofs.Ytjnpgdhpneifjaa
