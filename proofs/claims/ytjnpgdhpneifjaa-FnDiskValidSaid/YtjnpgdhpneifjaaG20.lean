/- Parts of the proof, one after the other; each says what it proves. -/
import Derived.Test.YtjnpgdhpneifjaaG1
import Derived.Test.YtjnpgdhpneifjaaG12
import Derived.Test.YtjnpgdhpneifjaaG9
/- AppendPage by the reference, at a valid device with valid heads. -/
namespace Go.Proofs.Ytjnpgdhpneifjaa
open Go.ChangeShapes Go.WideShapes Go.ChangeAt Go.RowKit
set_option linter.unusedVariables false
set_option linter.unusedSimpArgs false

theorem heads_range {bs : List BlockV} {h : HeadV} {heat : Nat} (hok : HeadsOk bs h.x h.y h.z) (hh : heat ≤ 2) : -1 ≤ h.get heat ∧ h.get heat ≤ (bs.length : Int) - 1 := by
  have hc : heat = 0 ∨ heat = 1 ∨ heat = 2 := by omega
  rcases hc with rfl | rfl | rfl
  · exact (hok.2 0 (by omega)).1
  · exact (hok.2 1 (by omega)).1
  · exact (hok.2 2 (by omega)).1
theorem head_set_get (h : HeadV) (heat : Nat) : h.set heat (h.get heat) = h := by
  unfold HeadV.set HeadV.get
  by_cases h0 : heat = 0
  · simp [h0]
  · by_cases h1 : heat = 1
    · simp [h1]
    · simp [h0, h1]
theorem appendF_none {bs : List BlockV} {h : HeadV} {heat : Nat} {p : PageV} (hp : PageOk p ∧ p.full = true) (hn : appendN bs h heat < 0) : appendF bs h heat p = ⟨bs, h, -1⟩ := by
  unfold appendF; rw [if_pos hp, if_pos hn]
theorem appendF_at {bs : List BlockV} {h : HeadV} {heat n : Nat} {p : PageV} (hp : PageOk p ∧ p.full = true) (hn : appendN bs h heat = n) : appendF bs h heat p = ⟨progB bs n p, h.set heat n, progAt bs n⟩ := by
  unfold appendF; rw [if_pos hp, if_neg (by omega), hn, Int.toNat_natCast]
theorem owB_set3 {w : World} {base n c g : Nat} {A : Option Addr} {bs : List BlockV} {cs : Array Value} (h : OwB w base A n c bs) (k : Blk w g 39 cs) (u0 u1 u2 : Value) : OwB (((w.setCell ⟨g, 0, none⟩ u0).setCell ⟨g, 1, none⟩ u1).setCell ⟨g, 2, none⟩ u2) base A n c bs :=
  ((h.typed (ChgT.blk k 0 u0) (by decide) (by decide)).typed (ChgT.blk (k.set_ 0 u0) 1 u1) (by decide) (by decide)).typed (ChgT.blk ((k.set_ 0 u0).set_ 1 u1) 2 u2) (by decide) (by decide)
/-- a device in new memory, heads and a number -/
def OwnA (w0 : World) (R : AppV) (e : Ending) (w' : World) : Prop := ∃ A c, e = .returned (.tuple #[.slice A R.bs.length c, hdv R.h, .int .i64 R.at_]) ∧ OwB w' w0.heap.size A R.bs.length c R.bs ∧ Below w0.heap.size w0 w'
theorem ownA_of {w0 w' : World} {R : AppV} {n c : Nat} {A : Option Addr} (hl : R.bs.length = n) (ho : OwB w' w0.heap.size A n c R.bs) (hb : Below w0.heap.size w0 w') : OwnA w0 R (.returned (.tuple #[.slice A n c, hdv R.h, .int .i64 R.at_])) w' := by
  subst hl; exact ⟨_, _, rfl, ho, hb⟩
set_option maxRecDepth 8000 in
set_option maxHeartbeats 4000000 in
theorem appendPage_spec {A : Option Addr} {m c B heat : Nat} {bs : List BlockV} {h : HeadV} {p : PageV} {w : World} (hr : RdB w B A m bs) (hB : B ≤ w.heap.size) (hok : HeadsOk bs h.x h.y h.z) (hh : heat ≤ 2) :
    Calls Try.prog 80 #[.slice A m c, hdv h, .int .i64 heat, .agg #[.bool p.full, .int .i64 p.file, .int .i64 p.place, .int .i64 p.value, .int .i64 p.stamp]] w (OwnA w (appendF bs h heat p)) := by
  obtain rfl : bs.length = m := hr.len
  have hm12 : bs.length ≤ 12 := hok.1.1.2
  obtain ⟨x, y, z⟩ := h
  obtain ⟨f, px, py, pz, ps⟩ := p
  have HRG := Lib.hid (heads_range hok hh)
  simp only at hok
  have HBT := Lib.hid (bof_t.2 hok)
  have HOK := Lib.hid hok
  have HDV := Lib.hid hok.1
  have HIN := Lib.hid (show inB (heat : Int) 0 2 = true from by rw [inB_t]; omega)
  have HP4 := Lib.hid (show ∀ i, i < bs.length → 0 < (bs.getD i noBlock).pages.length ∧ (bs.getD i noBlock).pages.length ≤ 1048576 from fun i hi => by have := (hok.1.2 i hi).2.1; omega)
  have b3 : Below w.heap.size w (((w.alloc (.cells #[.int .i64 x, .int .i64 y, .int .i64 z] 39)).alloc (.cells #[.bool f, .int .i64 px, .int .i64 py, .int .i64 pz, .int .i64 ps] 102)).alloc (.cells #[.int .i64 0, .int .i64 0, .int .i64 0] 39)) := (((Below.refl _ _).alloc (Nat.le_refl _) _).alloc (by simp) _).alloc (by simp; omega) _
  have e1 : (w.alloc (.cells #[.int .i64 x, .int .i64 y, .int .i64 z] 39)).heap.size = w.heap.size + 1 := by simp
  have e2 : ((w.alloc (.cells #[.int .i64 x, .int .i64 y, .int .i64 z] 39)).alloc (.cells #[.bool f, .int .i64 px, .int .i64 py, .int .i64 pz, .int .i64 ps] 102)).heap.size = w.heap.size + 1 + 1 := by simp
  have h3 := ((Blk.new w 39 #[.int .i64 x, .int .i64 y, .int .i64 z]).alloc (.cells #[.bool f, .int .i64 px, .int .i64 py, .int .i64 pz, .int .i64 ps] 102)).alloc (.cells #[.int .i64 0, .int .i64 0, .int .i64 0] 39)
  have p3 := (Blk.new (w.alloc (.cells #[.int .i64 x, .int .i64 y, .int .i64 z] 39)) 102 #[.bool f, .int .i64 px, .int .i64 py, .int .i64 pz, .int .i64 ps]).alloc (.cells #[.int .i64 0, .int .i64 0, .int .i64 0] 39)
  have q3 := Blk.new ((w.alloc (.cells #[.int .i64 x, .int .i64 y, .int .i64 z] 39)).alloc (.cells #[.bool f, .int .i64 px, .int .i64 py, .int .i64 pz, .int .i64 ps] 102)) 39 #[.int .i64 0, .int .i64 0, .int .i64 0]
  rw [e1] at p3
  rw [e2] at q3
  have r3 := (hr.mono hB).below b3
  have B3 := Lib.hid b3
  have g3 : w.heap.size + 2 < (((w.alloc (.cells #[.int .i64 x, .int .i64 y, .int .i64 z] 39)).alloc (.cells #[.bool f, .int .i64 px, .int .i64 py, .int .i64 pz, .int .i64 ps] 102)).alloc (.cells #[.int .i64 0, .int .i64 0, .int .i64 0] 39)).heap.size := by simp
  clear hr hok b3 e1 e2
  go_enter Try.func80, Try.ntmps80
  go_upto_region 1 with (fail)
  generalize ((w.alloc (.cells #[.int .i64 x, .int .i64 y, .int .i64 z] 39)).alloc (.cells #[.bool f, .int .i64 px, .int .i64 py, .int .i64 pz, .int .i64 ps] 102)).alloc (.cells #[.int .i64 0, .int .i64 0, .int .i64 0] 39) = w3 at *
  have t0 := h3.cell 0
  have t1 := h3.cell 1
  have t2 := h3.cell 2
  simp at t0 t1 t2
  go_wp2_with fail
  refine (headsValid_spec r3 B3.out.size (by omega)).mono ?_
  rw [HBT.out]
  rintro e w4 ⟨rfl, b4⟩
  have h4 := h3.below b4 (by omega)
  have p4 := p3.below b4 (by omega)
  have q4 := q3.below b4 (by omega)
  have r4 := r3.below (b4.mono B3.out.size)
  have B4 := Lib.hid (B3.out.trans (b4.mono B3.out.size))
  have g4 : w.heap.size + 2 < w4.heap.size := by have := b4.size; omega
  clear h3 p3 q3 r3 B3 g3 b4
  clear t0 t1 t2
  have u0 := p4.cell 0
  have u1 := p4.cell 1
  have u2 := p4.cell 2
  have u3 := p4.cell 3
  have u4 := p4.cell 4
  simp at u0 u1 u2 u3 u4
  go_wp2_with (go_at_call 32; refine (l1In_c _ _ _ _).mono ?_; rw [HIN.out]; rintro e w' ⟨rfl, rfl⟩)
  refine (pageValid_spec f px py pz ps _).mono ?_
  rintro e w5 ⟨rfl, b5⟩
  have h5 := h4.below b5 (by omega)
  have p5 := p4.below b5 (by omega)
  have q5 := q4.below b5 (by omega)
  have r5 := r4.below (b5.mono B4.out.size)
  have B5 := Lib.hid (B4.out.trans (b5.mono B4.out.size))
  have g5 : w.heap.size + 2 < w5.heap.size := by have := b5.size; omega
  clear h4 p4 q4 r4 B4 g4 b5
  clear u0 u1 u2 u3 u4
  by_cases hp : PageOk ⟨f, px, py, pz, ps⟩
  rotate_left
  · have HNO := Lib.hid (show ¬ (PageOk ⟨f, px, py, pz, ps⟩ ∧ (⟨f, px, py, pz, ps⟩ : PageV).full = true) from fun hx => hp hx.1)
    have HX := Lib.hid (show appendF bs ⟨x, y, z⟩ heat ⟨f, px, py, pz, ps⟩ = ⟨[], ⟨0, 0, 0⟩, -1⟩ from if_neg HNO.out)
    have y0 := q5.cell 0
    have y1 := q5.cell 1
    have y2 := q5.cell 2
    have z0 := q5.frozen 0
    have z1 := q5.frozen 1
    have z2 := q5.frozen 2
    simp at y0 y1 y2
    have u0 := p5.cell 0
    simp at u0
    have sz : ((((w5).setCell ⟨w.heap.size + 1 + 1, 0, none⟩ (.int .i64 0)).setCell ⟨w.heap.size + 1 + 1, 1, none⟩ (.int .i64 0)).setCell ⟨w.heap.size + 1 + 1, 2, none⟩ (.int .i64 0)).heap.size = w5.heap.size := by simp [World.setCell]
    have ke := ((q5.set_ 0 (.int .i64 0)).set_ 1 (.int .i64 0)).set_ 2 (.int .i64 0)
    have BZ := (((B5.out.setCell (p := ⟨w.heap.size + 1 + 1, 0, none⟩) (by show w.heap.size ≤ _ + 1 + 1; omega) (.int .i64 0)).setCell (p := ⟨w.heap.size + 1 + 1, 1, none⟩) (by show w.heap.size ≤ _ + 1 + 1; omega) (.int .i64 0)).setCell (p := ⟨w.heap.size + 1 + 1, 2, none⟩) (by show w.heap.size ≤ _ + 1 + 1; omega) (.int .i64 0))
    clear h5 p5 q5 r5
    have hd : decide (PageOk ⟨f, px, py, pz, ps⟩) = false := decide_eq_false hp
    rw [hd]
    clear hp hd
    go_wp2
    generalize (((w5).setCell ⟨w.heap.size + 1 + 1, 0, none⟩ (.int .i64 0)).setCell ⟨w.heap.size + 1 + 1, 1, none⟩ (.int .i64 0)).setCell ⟨w.heap.size + 1 + 1, 2, none⟩ (.int .i64 0) = wz at *
    have hwz : w.heap.size ≤ wz.heap.size := BZ.size
    have OZ := Lib.hid (show OwB (wz.alloc (.cells #[] 67)) w.heap.size (some ⟨wz.heap.size, 0, none⟩) 0 0 [] from ⟨[], rfl, rfl, fun _ h => absurd h (Nat.not_lt_zero _), World.ownsRow_lit wz #[] 0 hwz (by decide) rfl, fun _ h => absurd h (Nat.not_lt_zero _), fun _ _ h => absurd h (Nat.not_lt_zero _)⟩)
    have BE := Lib.hid (BZ.alloc hwz (.cells #[] 67))
    have kf := ke.alloc (.cells #[] 67)
    have e0 := kf.cell 0
    have e1 := kf.cell 1
    have e2 := kf.cell 2
    simp at e0 e1 e2
    try rw [sz]
    skip
    refine bodyPost_ret (by simp [results, Try.results80, go_sem, e0, e1, e2]; try rfl) rfl ?_
    rw [HX.out]
    skip
    exact ⟨_, _, rfl, by first | exact OZ.out | (rw [← sz]; exact OZ.out), BE.out⟩
  cases f
  · have HNO := Lib.hid (show ¬ (PageOk ⟨false, px, py, pz, ps⟩ ∧ (⟨false, px, py, pz, ps⟩ : PageV).full = true) from fun hx => by cases hx.2)
    have HX := Lib.hid (show appendF bs ⟨x, y, z⟩ heat ⟨false, px, py, pz, ps⟩ = ⟨[], ⟨0, 0, 0⟩, -1⟩ from if_neg HNO.out)
    have y0 := q5.cell 0
    have y1 := q5.cell 1
    have y2 := q5.cell 2
    have z0 := q5.frozen 0
    have z1 := q5.frozen 1
    have z2 := q5.frozen 2
    simp at y0 y1 y2
    have u0 := p5.cell 0
    simp at u0
    have sz : ((((w5).setCell ⟨w.heap.size + 1 + 1, 0, none⟩ (.int .i64 0)).setCell ⟨w.heap.size + 1 + 1, 1, none⟩ (.int .i64 0)).setCell ⟨w.heap.size + 1 + 1, 2, none⟩ (.int .i64 0)).heap.size = w5.heap.size := by simp [World.setCell]
    have ke := ((q5.set_ 0 (.int .i64 0)).set_ 1 (.int .i64 0)).set_ 2 (.int .i64 0)
    have BZ := (((B5.out.setCell (p := ⟨w.heap.size + 1 + 1, 0, none⟩) (by show w.heap.size ≤ _ + 1 + 1; omega) (.int .i64 0)).setCell (p := ⟨w.heap.size + 1 + 1, 1, none⟩) (by show w.heap.size ≤ _ + 1 + 1; omega) (.int .i64 0)).setCell (p := ⟨w.heap.size + 1 + 1, 2, none⟩) (by show w.heap.size ≤ _ + 1 + 1; omega) (.int .i64 0))
    clear h5 p5 q5 r5
    have hd : decide (PageOk ⟨false, px, py, pz, ps⟩) = true := decide_eq_true hp
    rw [hd]
    clear hp hd
    go_wp2
    generalize (((w5).setCell ⟨w.heap.size + 1 + 1, 0, none⟩ (.int .i64 0)).setCell ⟨w.heap.size + 1 + 1, 1, none⟩ (.int .i64 0)).setCell ⟨w.heap.size + 1 + 1, 2, none⟩ (.int .i64 0) = wz at *
    have hwz : w.heap.size ≤ wz.heap.size := BZ.size
    have OZ := Lib.hid (show OwB (wz.alloc (.cells #[] 67)) w.heap.size (some ⟨wz.heap.size, 0, none⟩) 0 0 [] from ⟨[], rfl, rfl, fun _ h => absurd h (Nat.not_lt_zero _), World.ownsRow_lit wz #[] 0 hwz (by decide) rfl, fun _ h => absurd h (Nat.not_lt_zero _), fun _ _ h => absurd h (Nat.not_lt_zero _)⟩)
    have BE := Lib.hid (BZ.alloc hwz (.cells #[] 67))
    have kf := ke.alloc (.cells #[] 67)
    have e0 := kf.cell 0
    have e1 := kf.cell 1
    have e2 := kf.cell 2
    simp at e0 e1 e2
    try rw [sz]
    skip
    refine bodyPost_ret (by simp [results, Try.results80, go_sem, e0, e1, e2]; try rfl) rfl ?_
    rw [HX.out]
    skip
    exact ⟨_, _, rfl, by first | exact OZ.out | (rw [← sz]; exact OZ.out), BE.out⟩
  have HP := Lib.hid hp
  have hd : decide (PageOk ⟨true, px, py, pz, ps⟩) = true := decide_eq_true hp
  rw [hd]
  clear hp hd
  have u0 := p5.cell 0
  simp at u0
  have t0 := h5.cell 0
  have t1 := h5.cell 1
  have t2 := h5.cell 2
  simp at t0 t1 t2
  go_wp2_with fail
  refine (headOf_spec ⟨x, y, z⟩ heat r5 B5.out.size (by omega) HOK.out hh).mono ?_
  rintro e w6 ⟨rfl, b6⟩
  have h6 := h5.below b6 (by omega)
  have p6 := p5.below b6 (by omega)
  have q6 := q5.below b6 (by omega)
  have r6 := r5.below (b6.mono B5.out.size)
  have B6 := Lib.hid (B5.out.trans (b6.mono B5.out.size))
  have g6 : w.heap.size + 2 < w6.heap.size := by have := b6.size; omega
  clear h5 p5 q5 r5 B5 g5 b6
  clear t0 t1 t2
  clear u0
  have HG := HRG.out
  have HAN := Lib.hid (show appendN bs ⟨x, y, z⟩ heat = if HeadV.get ⟨x, y, z⟩ heat < 0 ∨ nextP (bs.getD (HeadV.get ⟨x, y, z⟩ heat).toNat noBlock).pages < 0 then freshF bs ⟨x, y, z⟩ else HeadV.get ⟨x, y, z⟩ heat from rfl)
  have HSG := Lib.hid (show HeadV.set ⟨x, y, z⟩ heat (HeadV.get ⟨x, y, z⟩ heat) = ⟨x, y, z⟩ from head_set_get _ _)
  generalize HeadV.get ⟨x, y, z⟩ heat = G at *
  by_cases hG0 : G < 0
  · have HN := Lib.hid (show appendN bs ⟨x, y, z⟩ heat = freshF bs ⟨x, y, z⟩ from by rw [HAN.out, if_pos (.inl hG0)])
    have hdG : decide (G < 0) = true := decide_eq_true hG0
    clear HG
    have t0 := h6.cell 0
    have t1 := h6.cell 1
    have t2 := h6.cell 2
    simp at t0 t1 t2
    go_wp2_with fail
    refine (freshBlock_spec ⟨x, y, z⟩ r6 B6.out.size HOK.out).mono ?_
    rintro e w8 ⟨rfl, b8⟩
    have h8 := h6.below b8 (by omega)
    have p8 := p6.below b8 (by omega)
    have q8 := q6.below b8 (by omega)
    have r8 := r6.below (b8.mono B6.out.size)
    have B8 := Lib.hid (B6.out.trans (b8.mono B6.out.size))
    have g8 : w.heap.size + 2 < w8.heap.size := by have := b8.size; omega
    clear h6 p6 q6 r6 B6 g6 b8
    clear t0 t1 t2
    have HFR := freshTo_range bs ⟨x, y, z⟩ bs.length
    have HFF := Lib.hid (show freshF bs ⟨x, y, z⟩ = freshF bs ⟨x, y, z⟩ from rfl)
    rw [show freshTo bs ⟨x, y, z⟩ bs.length = freshF bs ⟨x, y, z⟩ from rfl] at HFR
    generalize freshF bs ⟨x, y, z⟩ = F at *
    clear HFF
    by_cases hF0 : F < 0
    · have HX := Lib.hid (show appendF bs ⟨x, y, z⟩ heat ⟨true, px, py, pz, ps⟩ = ⟨bs, ⟨x, y, z⟩, -1⟩ from appendF_none ⟨HP.out, rfl⟩ (by rw [HN.out]; exact hF0))
      have hd0 : decide (F < 0) = true := decide_eq_true hF0
      go_upto_region 7 with (fail)
      have t0 := h8.cell 0
      have t1 := h8.cell 1
      have t2 := h8.cell 2
      simp at t0 t1 t2
      have y0 := q8.cell 0
      have y1 := q8.cell 1
      have y2 := q8.cell 2
      have z0 := q8.frozen 0
      have z1 := q8.frozen 1
      have z2 := q8.frozen 2
      simp at y0 y1 y2
      refine wp_region_held_drew (S := fun w' => w'.cell? ⟨w.heap.size, 0, none⟩ = some (.int .i64 x) ∧ w'.cell? ⟨w.heap.size, 1, none⟩ = some (.int .i64 y) ∧ w'.cell? ⟨w.heap.size, 2, none⟩ = some (.int .i64 z)) (by kernel_rfl) ?_ (fun hHeld => ?_)
      · exact ⟨t0, t1, t2⟩
      refine tk 0 ?_
      refine tk 2 ?_
      have q21 : Blk w8.drew (w.heap.size + 1 + 1) 39 #[.int .i64 0, .int .i64 0, .int .i64 0] := q8
      have h21 : Blk w8.drew w.heap.size 39 #[.int .i64 x, .int .i64 y, .int .i64 z] := h8
      have r21 := r8.drew
      have B21 := Lib.hid (B8.out.drew)
      have g21 : w.heap.size + 2 < w8.drew.heap.size := g8
      clear h8 q8 r8 B8 g8
      refine rd1 1 (fun K hK => ?_)
      go_simp
      refine (l5Copy_c r21 B21.out.size (by omega) HP4.out).mono ?_
      rintro e w22 ⟨A22, c22, rfl, o22, b22⟩
      have O22 := Lib.hid (o22.lower (base' := w.heap.size) B21.out.size)
      have h22 := h21.below b22 (by omega)
      have q22 := q21.below b22 (by omega)
      have B22 := Lib.hid (B21.out.trans (b22.mono B21.out.size))
      have g22 : w.heap.size + 2 < w22.heap.size := by have := b22.size; omega
      clear o22 b22 h21 q21 r21 B21 g21 t0 t1 t2 y0 y1 y2 z0 z1 z2
      have y0 := q22.cell 0
      have y1 := q22.cell 1
      have y2 := q22.cell 2
      have z0 := q22.frozen 0
      have z1 := q22.frozen 1
      have z2 := q22.frozen 2
      simp at y0 y1 y2
      go_wp2_with fail
      refine hK.out _ _ ?_ (fun hHeld => ?_)
      · exact ⟨h22.cell 0, h22.cell 1, h22.cell 2⟩
      clear hK K
      refine pt ?_
      refine tk 3 ?_
      have hF := ((h22.far (p := ⟨w.heap.size + 1 + 1, 0, none⟩) (by simp; omega) (.int .i64 x)).far (p := ⟨w.heap.size + 1 + 1, 1, none⟩) (by simp; omega) (.int .i64 y)).far (p := ⟨w.heap.size + 1 + 1, 2, none⟩) (by simp; omega) (.int .i64 z)
      refine rd1 4 (fun K hK => ?_)
      go_simp
      refine hK.out _ _ ?_ (fun hHeld => ?_)
      · exact ⟨hF.cell 0, hF.cell 1, hF.cell 2⟩
      clear hK K
      refine pt ?_
      refine tk 5 ?_
      refine wpAnyH_done (by kernel_rfl) ?_ _
      clear hHeld
      clear y0 y1 y2 z0 z1 z2
      have ke := ((q22.set_ 0 (.int .i64 x)).set_ 1 (.int .i64 y)).set_ 2 (.int .i64 z)
      have e0 := ke.cell 0
      have e1 := ke.cell 1
      have e2 := ke.cell 2
      simp at e0 e1 e2
      have OZ := Lib.hid (owB_set3 O22.out q22 (.int .i64 x) (.int .i64 y) (.int .i64 z))
      have BZ := Lib.hid (((B22.out.setCell (p := ⟨w.heap.size + 1 + 1, 0, none⟩) (by show w.heap.size ≤ _ + 1 + 1; omega) (.int .i64 x)).setCell (p := ⟨w.heap.size + 1 + 1, 1, none⟩) (by show w.heap.size ≤ _ + 1 + 1; omega) (.int .i64 y)).setCell (p := ⟨w.heap.size + 1 + 1, 2, none⟩) (by show w.heap.size ≤ _ + 1 + 1; omega) (.int .i64 z))
      generalize (((w22).setCell ⟨w.heap.size + 1 + 1, 0, none⟩ (.int .i64 x)).setCell ⟨w.heap.size + 1 + 1, 1, none⟩ (.int .i64 y)).setCell ⟨w.heap.size + 1 + 1, 2, none⟩ (.int .i64 z) = wz at *
      go_wp2
      refine bodyPost_ret (by simp [results, Try.results80, go_sem, e0, e1, e2]; try rfl) rfl ?_
      rw [HX.out]
      exact ⟨_, _, rfl, OZ.out, BZ.out⟩
    · obtain ⟨n, rfl⟩ : ∃ n : Nat, F = n := ⟨F.toNat, by omega⟩
      have hn : n < bs.length := by omega
      clear hF0 HFR
      have HX := Lib.hid (show appendF bs ⟨x, y, z⟩ heat ⟨true, px, py, pz, ps⟩ = ⟨progB bs n ⟨true, px, py, pz, ps⟩, HeadV.set ⟨x, y, z⟩ heat n, progAt bs n⟩ from appendF_at ⟨HP.out, rfl⟩ HN.out)
      have t0 := h8.cell 0
      have t1 := h8.cell 1
      have t2 := h8.cell 2
      simp at t0 t1 t2
      go_wp2_with fail
      refine (l6Set_c ⟨x, y, z⟩ heat n _ hh).mono ?_
      rintro e w9 ⟨rfl, b9⟩
      have h9 := h8.below b9 (by omega)
      have p9 := p8.below b9 (by omega)
      have q9 := q8.below b9 (by omega)
      have r9 := r8.below (b9.mono B8.out.size)
      have B9 := Lib.hid (B8.out.trans (b9.mono B8.out.size))
      have g9 : w.heap.size + 2 < w9.heap.size := by have := b9.size; omega
      clear h8 p8 q8 r8 B8 g8 b9
      clear t0 t1 t2
      have t0 := h9.cell 0
      have t1 := h9.cell 1
      have t2 := h9.cell 2
      simp at t0 t1 t2
      have z0 := h9.frozen 0
      have z1 := h9.frozen 1
      have z2 := h9.frozen 2
      generalize hS : HeadV.set ⟨x, y, z⟩ heat n = S0 at *
      clear hS
      obtain ⟨hx, hy, hz⟩ := S0
      simp only
      go_upto_region 9 with (fail)
      have h10 := ((h9.set_ 0 (.int .i64 hx)).set_ 1 (.int .i64 hy)).set_ 2 (.int .i64 hz)
      have p10 := ((p9.far (p := ⟨w.heap.size, 0, none⟩) (by simp) (.int .i64 hx)).far (p := ⟨w.heap.size, 1, none⟩) (by simp) (.int .i64 hy)).far (p := ⟨w.heap.size, 2, none⟩) (by simp) (.int .i64 hz)
      have q10 := ((q9.far (p := ⟨w.heap.size, 0, none⟩) (by simp; omega) (.int .i64 hx)).far (p := ⟨w.heap.size, 1, none⟩) (by simp; omega) (.int .i64 hy)).far (p := ⟨w.heap.size, 2, none⟩) (by simp; omega) (.int .i64 hz)
      have r10 := r9.below (((Below.refl w.heap.size _).setCell (p := ⟨w.heap.size, 0, none⟩) (Nat.le_refl _) (.int .i64 hx)).setCell (p := ⟨w.heap.size, 1, none⟩) (Nat.le_refl _) (.int .i64 hy) |>.setCell (p := ⟨w.heap.size, 2, none⟩) (Nat.le_refl _) (.int .i64 hz))
      have B10 := Lib.hid (((B9.out.setCell (p := ⟨w.heap.size, 0, none⟩) (Nat.le_refl _) (.int .i64 hx)).setCell (p := ⟨w.heap.size, 1, none⟩) (Nat.le_refl _) (.int .i64 hy)).setCell (p := ⟨w.heap.size, 2, none⟩) (Nat.le_refl _) (.int .i64 hz))
      have g10 : w.heap.size + 2 < (((w9.setCell ⟨w.heap.size, 0, none⟩ (.int .i64 hx)).setCell ⟨w.heap.size, 1, none⟩ (.int .i64 hy)).setCell ⟨w.heap.size, 2, none⟩ (.int .i64 hz)).heap.size := by simpa [World.setCell] using g9
      simp at h10
      clear h9 p9 q9 r9 B9 g9 t0 t1 t2 z0 z1 z2
      generalize ((w9.setCell ⟨w.heap.size, 0, none⟩ (.int .i64 hx)).setCell ⟨w.heap.size, 1, none⟩ (.int .i64 hy)).setCell ⟨w.heap.size, 2, none⟩ (.int .i64 hz) = w10 at *
      have u0 := p10.cell 0
      have u1 := p10.cell 1
      have u2 := p10.cell 2
      have u3 := p10.cell 3
      have u4 := p10.cell 4
      simp at u0 u1 u2 u3 u4
      go_wp2_with fail
      refine (program_spec r10 B10.out.size HDV.out hn HP.out).mono ?_
      rintro e w20 ⟨A20, c20, rfl, o20, b20⟩
      have O20 := Lib.hid (o20.lower (base' := w.heap.size) B10.out.size)
      have h20 := h10.below b20 (by omega)
      have p20 := p10.below b20 (by omega)
      have q20 := q10.below b20 (by omega)
      have r20 := r10.below (b20.mono B10.out.size)
      have B20 := Lib.hid (B10.out.trans (b20.mono B10.out.size))
      have g20 : w.heap.size + 2 < w20.heap.size := by have := b20.size; omega
      clear h10 p10 q10 r10 B10 g10 b20
      clear u0 u1 u2 u3 u4
      clear o20
      go_upto_region 10 with (fail)
      have t0 := h20.cell 0
      have t1 := h20.cell 1
      have t2 := h20.cell 2
      simp at t0 t1 t2
      have y0 := q20.cell 0
      have y1 := q20.cell 1
      have y2 := q20.cell 2
      have z0 := q20.frozen 0
      have z1 := q20.frozen 1
      have z2 := q20.frozen 2
      simp at y0 y1 y2
      refine wp_region_held_drew (S := fun w' => w'.cell? ⟨w.heap.size, 0, none⟩ = some (.int .i64 hx) ∧ w'.cell? ⟨w.heap.size, 1, none⟩ = some (.int .i64 hy) ∧ w'.cell? ⟨w.heap.size, 2, none⟩ = some (.int .i64 hz)) (by kernel_rfl) ?_ (fun hHeld => ?_)
      · exact ⟨t0, t1, t2⟩
      refine tk 0 ?_
      refine tk 1 ?_
      refine tk 2 ?_
      refine tk 3 ?_
      have hF := ((h20.far (p := ⟨w.heap.size + 1 + 1, 0, none⟩) (by simp; omega) (.int .i64 hx)).far (p := ⟨w.heap.size + 1 + 1, 1, none⟩) (by simp; omega) (.int .i64 hy)).far (p := ⟨w.heap.size + 1 + 1, 2, none⟩) (by simp; omega) (.int .i64 hz)
      refine rd1 4 (fun K hK => ?_)
      go_simp
      refine hK.out _ _ ?_ (fun hHeld => ?_)
      · exact ⟨hF.cell 0, hF.cell 1, hF.cell 2⟩
      clear hK K
      refine pt ?_
      refine tk 5 ?_
      refine wpAnyH_done (by kernel_rfl) ?_ _
      clear hHeld
      clear t0 t1 t2
      clear y0 y1 y2 z0 z1 z2
      have ke := ((q20.set_ 0 (.int .i64 hx)).set_ 1 (.int .i64 hy)).set_ 2 (.int .i64 hz)
      have e0 := ke.cell 0
      have e1 := ke.cell 1
      have e2 := ke.cell 2
      simp at e0 e1 e2
      have OZ := Lib.hid (owB_set3 O20.out q20 (.int .i64 hx) (.int .i64 hy) (.int .i64 hz))
      have BZ := Lib.hid (((B20.out.setCell (p := ⟨w.heap.size + 1 + 1, 0, none⟩) (by show w.heap.size ≤ _ + 1 + 1; omega) (.int .i64 hx)).setCell (p := ⟨w.heap.size + 1 + 1, 1, none⟩) (by show w.heap.size ≤ _ + 1 + 1; omega) (.int .i64 hy)).setCell (p := ⟨w.heap.size + 1 + 1, 2, none⟩) (by show w.heap.size ≤ _ + 1 + 1; omega) (.int .i64 hz))
      generalize (((w20).setCell ⟨w.heap.size + 1 + 1, 0, none⟩ (.int .i64 hx)).setCell ⟨w.heap.size + 1 + 1, 1, none⟩ (.int .i64 hy)).setCell ⟨w.heap.size + 1 + 1, 2, none⟩ (.int .i64 hz) = wz at *
      have HPL := progB_len bs n ⟨true, px, py, pz, ps⟩
      go_wp2
      refine bodyPost_ret (by simp [results, Try.results80, go_sem, e0, e1, e2]; try rfl) rfl ?_
      rw [HX.out]
      exact ownA_of HPL (OZ.out.below (Below.refl _ _).drew) BZ.out.drew
  · obtain ⟨n0, rfl⟩ : ∃ n : Nat, G = n := ⟨G.toNat, by omega⟩
    have hn : n0 < bs.length := by omega
    clear hG0 HG
    obtain ⟨b0, off, rfl, hb0, hc⟩ := r6.at_ (by omega)
    obtain ⟨A', n', c', d0, d1, hnc, hcm, hrg⟩ := hc n0 hn
    have HBK := Lib.hid (HDV.out.2 n0 hn)
    rw [Int.toNat_natCast] at HAN
    generalize hPP : bs.getD n0 noBlock = PP at *
    obtain ⟨we, pl⟩ := PP
    simp only at d0 hrg
    have HAN' := Lib.hid HAN.out
    clear hc
    go_wp2_with fail
    refine (blockNext_spec hrg B6.out.size hnc hcm HBK.out).mono ?_
    rintro e w7 ⟨rfl, b7⟩
    clear d0 d1 hrg
    have h7 := h6.below b7 (by omega)
    have p7 := p6.below b7 (by omega)
    have q7 := q6.below b7 (by omega)
    have r7 := r6.below (b7.mono B6.out.size)
    have B7 := Lib.hid (B6.out.trans (b7.mono B6.out.size))
    have g7 : w.heap.size + 2 < w7.heap.size := by have := b7.size; omega
    clear h6 p6 q6 r6 B6 g6 b7
    try simp only at HAN
    have hNR : nextP pl < 0 ∨ 0 ≤ nextP pl := by omega
    clear HAN'
    generalize nextP pl = NX at *
    rcases hNR with hNX | hNX
    · have HN := Lib.hid (show appendN bs ⟨x, y, z⟩ heat = freshF bs ⟨x, y, z⟩ from by rw [HAN.out, if_pos (.inr hNX)])
      have hdN : decide (NX < 0) = true := decide_eq_true hNX
      have t0 := h7.cell 0
      have t1 := h7.cell 1
      have t2 := h7.cell 2
      simp at t0 t1 t2
      go_wp2_with fail
      refine (freshBlock_spec ⟨x, y, z⟩ r7 B7.out.size HOK.out).mono ?_
      rintro e w8 ⟨rfl, b8⟩
      have h8 := h7.below b8 (by omega)
      have p8 := p7.below b8 (by omega)
      have q8 := q7.below b8 (by omega)
      have r8 := r7.below (b8.mono B7.out.size)
      have B8 := Lib.hid (B7.out.trans (b8.mono B7.out.size))
      have g8 : w.heap.size + 2 < w8.heap.size := by have := b8.size; omega
      clear h7 p7 q7 r7 B7 g7 b8
      clear t0 t1 t2
      have HFR := freshTo_range bs ⟨x, y, z⟩ bs.length
      have HFF := Lib.hid (show freshF bs ⟨x, y, z⟩ = freshF bs ⟨x, y, z⟩ from rfl)
      rw [show freshTo bs ⟨x, y, z⟩ bs.length = freshF bs ⟨x, y, z⟩ from rfl] at HFR
      generalize freshF bs ⟨x, y, z⟩ = F at *
      clear HFF
      by_cases hF0 : F < 0
      · have HX := Lib.hid (show appendF bs ⟨x, y, z⟩ heat ⟨true, px, py, pz, ps⟩ = ⟨bs, ⟨x, y, z⟩, -1⟩ from appendF_none ⟨HP.out, rfl⟩ (by rw [HN.out]; exact hF0))
        have hd0 : decide (F < 0) = true := decide_eq_true hF0
        go_upto_region 7 with (fail)
        have t0 := h8.cell 0
        have t1 := h8.cell 1
        have t2 := h8.cell 2
        simp at t0 t1 t2
        have y0 := q8.cell 0
        have y1 := q8.cell 1
        have y2 := q8.cell 2
        have z0 := q8.frozen 0
        have z1 := q8.frozen 1
        have z2 := q8.frozen 2
        simp at y0 y1 y2
        refine wp_region_held_drew (S := fun w' => w'.cell? ⟨w.heap.size, 0, none⟩ = some (.int .i64 x) ∧ w'.cell? ⟨w.heap.size, 1, none⟩ = some (.int .i64 y) ∧ w'.cell? ⟨w.heap.size, 2, none⟩ = some (.int .i64 z)) (by kernel_rfl) ?_ (fun hHeld => ?_)
        · exact ⟨t0, t1, t2⟩
        refine tk 0 ?_
        refine tk 2 ?_
        have q21 : Blk w8.drew (w.heap.size + 1 + 1) 39 #[.int .i64 0, .int .i64 0, .int .i64 0] := q8
        have h21 : Blk w8.drew w.heap.size 39 #[.int .i64 x, .int .i64 y, .int .i64 z] := h8
        have r21 := r8.drew
        have B21 := Lib.hid (B8.out.drew)
        have g21 : w.heap.size + 2 < w8.drew.heap.size := g8
        clear h8 q8 r8 B8 g8
        refine rd1 1 (fun K hK => ?_)
        go_simp
        refine (l5Copy_c r21 B21.out.size (by omega) HP4.out).mono ?_
        rintro e w22 ⟨A22, c22, rfl, o22, b22⟩
        have O22 := Lib.hid (o22.lower (base' := w.heap.size) B21.out.size)
        have h22 := h21.below b22 (by omega)
        have q22 := q21.below b22 (by omega)
        have B22 := Lib.hid (B21.out.trans (b22.mono B21.out.size))
        have g22 : w.heap.size + 2 < w22.heap.size := by have := b22.size; omega
        clear o22 b22 h21 q21 r21 B21 g21 t0 t1 t2 y0 y1 y2 z0 z1 z2
        have y0 := q22.cell 0
        have y1 := q22.cell 1
        have y2 := q22.cell 2
        have z0 := q22.frozen 0
        have z1 := q22.frozen 1
        have z2 := q22.frozen 2
        simp at y0 y1 y2
        go_wp2_with fail
        refine hK.out _ _ ?_ (fun hHeld => ?_)
        · exact ⟨h22.cell 0, h22.cell 1, h22.cell 2⟩
        clear hK K
        refine pt ?_
        refine tk 3 ?_
        have hF := ((h22.far (p := ⟨w.heap.size + 1 + 1, 0, none⟩) (by simp; omega) (.int .i64 x)).far (p := ⟨w.heap.size + 1 + 1, 1, none⟩) (by simp; omega) (.int .i64 y)).far (p := ⟨w.heap.size + 1 + 1, 2, none⟩) (by simp; omega) (.int .i64 z)
        refine rd1 4 (fun K hK => ?_)
        go_simp
        refine hK.out _ _ ?_ (fun hHeld => ?_)
        · exact ⟨hF.cell 0, hF.cell 1, hF.cell 2⟩
        clear hK K
        refine pt ?_
        refine tk 5 ?_
        refine wpAnyH_done (by kernel_rfl) ?_ _
        clear hHeld
        clear y0 y1 y2 z0 z1 z2
        have ke := ((q22.set_ 0 (.int .i64 x)).set_ 1 (.int .i64 y)).set_ 2 (.int .i64 z)
        have e0 := ke.cell 0
        have e1 := ke.cell 1
        have e2 := ke.cell 2
        simp at e0 e1 e2
        have OZ := Lib.hid (owB_set3 O22.out q22 (.int .i64 x) (.int .i64 y) (.int .i64 z))
        have BZ := Lib.hid (((B22.out.setCell (p := ⟨w.heap.size + 1 + 1, 0, none⟩) (by show w.heap.size ≤ _ + 1 + 1; omega) (.int .i64 x)).setCell (p := ⟨w.heap.size + 1 + 1, 1, none⟩) (by show w.heap.size ≤ _ + 1 + 1; omega) (.int .i64 y)).setCell (p := ⟨w.heap.size + 1 + 1, 2, none⟩) (by show w.heap.size ≤ _ + 1 + 1; omega) (.int .i64 z))
        generalize (((w22).setCell ⟨w.heap.size + 1 + 1, 0, none⟩ (.int .i64 x)).setCell ⟨w.heap.size + 1 + 1, 1, none⟩ (.int .i64 y)).setCell ⟨w.heap.size + 1 + 1, 2, none⟩ (.int .i64 z) = wz at *
        go_wp2
        refine bodyPost_ret (by simp [results, Try.results80, go_sem, e0, e1, e2]; try rfl) rfl ?_
        rw [HX.out]
        exact ⟨_, _, rfl, OZ.out, BZ.out⟩
      · obtain ⟨n, rfl⟩ : ∃ n : Nat, F = n := ⟨F.toNat, by omega⟩
        have hn : n < bs.length := by omega
        clear hF0 HFR
        have HX := Lib.hid (show appendF bs ⟨x, y, z⟩ heat ⟨true, px, py, pz, ps⟩ = ⟨progB bs n ⟨true, px, py, pz, ps⟩, HeadV.set ⟨x, y, z⟩ heat n, progAt bs n⟩ from appendF_at ⟨HP.out, rfl⟩ HN.out)
        have t0 := h8.cell 0
        have t1 := h8.cell 1
        have t2 := h8.cell 2
        simp at t0 t1 t2
        go_wp2_with fail
        refine (l6Set_c ⟨x, y, z⟩ heat n _ hh).mono ?_
        rintro e w9 ⟨rfl, b9⟩
        have h9 := h8.below b9 (by omega)
        have p9 := p8.below b9 (by omega)
        have q9 := q8.below b9 (by omega)
        have r9 := r8.below (b9.mono B8.out.size)
        have B9 := Lib.hid (B8.out.trans (b9.mono B8.out.size))
        have g9 : w.heap.size + 2 < w9.heap.size := by have := b9.size; omega
        clear h8 p8 q8 r8 B8 g8 b9
        clear t0 t1 t2
        have t0 := h9.cell 0
        have t1 := h9.cell 1
        have t2 := h9.cell 2
        simp at t0 t1 t2
        have z0 := h9.frozen 0
        have z1 := h9.frozen 1
        have z2 := h9.frozen 2
        generalize hS : HeadV.set ⟨x, y, z⟩ heat n = S0 at *
        clear hS
        obtain ⟨hx, hy, hz⟩ := S0
        simp only
        go_upto_region 9 with (fail)
        have h10 := ((h9.set_ 0 (.int .i64 hx)).set_ 1 (.int .i64 hy)).set_ 2 (.int .i64 hz)
        have p10 := ((p9.far (p := ⟨w.heap.size, 0, none⟩) (by simp) (.int .i64 hx)).far (p := ⟨w.heap.size, 1, none⟩) (by simp) (.int .i64 hy)).far (p := ⟨w.heap.size, 2, none⟩) (by simp) (.int .i64 hz)
        have q10 := ((q9.far (p := ⟨w.heap.size, 0, none⟩) (by simp; omega) (.int .i64 hx)).far (p := ⟨w.heap.size, 1, none⟩) (by simp; omega) (.int .i64 hy)).far (p := ⟨w.heap.size, 2, none⟩) (by simp; omega) (.int .i64 hz)
        have r10 := r9.below (((Below.refl w.heap.size _).setCell (p := ⟨w.heap.size, 0, none⟩) (Nat.le_refl _) (.int .i64 hx)).setCell (p := ⟨w.heap.size, 1, none⟩) (Nat.le_refl _) (.int .i64 hy) |>.setCell (p := ⟨w.heap.size, 2, none⟩) (Nat.le_refl _) (.int .i64 hz))
        have B10 := Lib.hid (((B9.out.setCell (p := ⟨w.heap.size, 0, none⟩) (Nat.le_refl _) (.int .i64 hx)).setCell (p := ⟨w.heap.size, 1, none⟩) (Nat.le_refl _) (.int .i64 hy)).setCell (p := ⟨w.heap.size, 2, none⟩) (Nat.le_refl _) (.int .i64 hz))
        have g10 : w.heap.size + 2 < (((w9.setCell ⟨w.heap.size, 0, none⟩ (.int .i64 hx)).setCell ⟨w.heap.size, 1, none⟩ (.int .i64 hy)).setCell ⟨w.heap.size, 2, none⟩ (.int .i64 hz)).heap.size := by simpa [World.setCell] using g9
        simp at h10
        clear h9 p9 q9 r9 B9 g9 t0 t1 t2 z0 z1 z2
        generalize ((w9.setCell ⟨w.heap.size, 0, none⟩ (.int .i64 hx)).setCell ⟨w.heap.size, 1, none⟩ (.int .i64 hy)).setCell ⟨w.heap.size, 2, none⟩ (.int .i64 hz) = w10 at *
        have u0 := p10.cell 0
        have u1 := p10.cell 1
        have u2 := p10.cell 2
        have u3 := p10.cell 3
        have u4 := p10.cell 4
        simp at u0 u1 u2 u3 u4
        go_wp2_with fail
        refine (program_spec r10 B10.out.size HDV.out hn HP.out).mono ?_
        rintro e w20 ⟨A20, c20, rfl, o20, b20⟩
        have O20 := Lib.hid (o20.lower (base' := w.heap.size) B10.out.size)
        have h20 := h10.below b20 (by omega)
        have p20 := p10.below b20 (by omega)
        have q20 := q10.below b20 (by omega)
        have r20 := r10.below (b20.mono B10.out.size)
        have B20 := Lib.hid (B10.out.trans (b20.mono B10.out.size))
        have g20 : w.heap.size + 2 < w20.heap.size := by have := b20.size; omega
        clear h10 p10 q10 r10 B10 g10 b20
        clear u0 u1 u2 u3 u4
        clear o20
        go_upto_region 10 with (fail)
        have t0 := h20.cell 0
        have t1 := h20.cell 1
        have t2 := h20.cell 2
        simp at t0 t1 t2
        have y0 := q20.cell 0
        have y1 := q20.cell 1
        have y2 := q20.cell 2
        have z0 := q20.frozen 0
        have z1 := q20.frozen 1
        have z2 := q20.frozen 2
        simp at y0 y1 y2
        refine wp_region_held_drew (S := fun w' => w'.cell? ⟨w.heap.size, 0, none⟩ = some (.int .i64 hx) ∧ w'.cell? ⟨w.heap.size, 1, none⟩ = some (.int .i64 hy) ∧ w'.cell? ⟨w.heap.size, 2, none⟩ = some (.int .i64 hz)) (by kernel_rfl) ?_ (fun hHeld => ?_)
        · exact ⟨t0, t1, t2⟩
        refine tk 0 ?_
        refine tk 1 ?_
        refine tk 2 ?_
        refine tk 3 ?_
        have hF := ((h20.far (p := ⟨w.heap.size + 1 + 1, 0, none⟩) (by simp; omega) (.int .i64 hx)).far (p := ⟨w.heap.size + 1 + 1, 1, none⟩) (by simp; omega) (.int .i64 hy)).far (p := ⟨w.heap.size + 1 + 1, 2, none⟩) (by simp; omega) (.int .i64 hz)
        refine rd1 4 (fun K hK => ?_)
        go_simp
        refine hK.out _ _ ?_ (fun hHeld => ?_)
        · exact ⟨hF.cell 0, hF.cell 1, hF.cell 2⟩
        clear hK K
        refine pt ?_
        refine tk 5 ?_
        refine wpAnyH_done (by kernel_rfl) ?_ _
        clear hHeld
        clear t0 t1 t2
        clear y0 y1 y2 z0 z1 z2
        have ke := ((q20.set_ 0 (.int .i64 hx)).set_ 1 (.int .i64 hy)).set_ 2 (.int .i64 hz)
        have e0 := ke.cell 0
        have e1 := ke.cell 1
        have e2 := ke.cell 2
        simp at e0 e1 e2
        have OZ := Lib.hid (owB_set3 O20.out q20 (.int .i64 hx) (.int .i64 hy) (.int .i64 hz))
        have BZ := Lib.hid (((B20.out.setCell (p := ⟨w.heap.size + 1 + 1, 0, none⟩) (by show w.heap.size ≤ _ + 1 + 1; omega) (.int .i64 hx)).setCell (p := ⟨w.heap.size + 1 + 1, 1, none⟩) (by show w.heap.size ≤ _ + 1 + 1; omega) (.int .i64 hy)).setCell (p := ⟨w.heap.size + 1 + 1, 2, none⟩) (by show w.heap.size ≤ _ + 1 + 1; omega) (.int .i64 hz))
        generalize (((w20).setCell ⟨w.heap.size + 1 + 1, 0, none⟩ (.int .i64 hx)).setCell ⟨w.heap.size + 1 + 1, 1, none⟩ (.int .i64 hy)).setCell ⟨w.heap.size + 1 + 1, 2, none⟩ (.int .i64 hz) = wz at *
        have HPL := progB_len bs n ⟨true, px, py, pz, ps⟩
        go_wp2
        refine bodyPost_ret (by simp [results, Try.results80, go_sem, e0, e1, e2]; try rfl) rfl ?_
        rw [HX.out]
        exact ownA_of HPL (OZ.out.below (Below.refl _ _).drew) BZ.out.drew
    · have HN := Lib.hid (show appendN bs ⟨x, y, z⟩ heat = n0 from by rw [HAN.out, if_neg (by intro h; rcases h with h | h <;> omega)])
      have hdN : decide (NX < 0) = false := decide_eq_false (by omega)
      have HX := Lib.hid (show appendF bs ⟨x, y, z⟩ heat ⟨true, px, py, pz, ps⟩ = ⟨progB bs n0 ⟨true, px, py, pz, ps⟩, ⟨x, y, z⟩, progAt bs n0⟩ from by rw [appendF_at ⟨HP.out, rfl⟩ HN.out, HSG.out])
      have u0 := p7.cell 0
      have u1 := p7.cell 1
      have u2 := p7.cell 2
      have u3 := p7.cell 3
      have u4 := p7.cell 4
      simp at u0 u1 u2 u3 u4
      go_wp2_with fail
      refine (program_spec r7 B7.out.size HDV.out hn HP.out).mono ?_
      rintro e w20 ⟨A20, c20, rfl, o20, b20⟩
      have O20 := Lib.hid (o20.lower (base' := w.heap.size) B7.out.size)
      have h20 := h7.below b20 (by omega)
      have p20 := p7.below b20 (by omega)
      have q20 := q7.below b20 (by omega)
      have r20 := r7.below (b20.mono B7.out.size)
      have B20 := Lib.hid (B7.out.trans (b20.mono B7.out.size))
      have g20 : w.heap.size + 2 < w20.heap.size := by have := b20.size; omega
      clear h7 p7 q7 r7 B7 g7 b20
      clear u0 u1 u2 u3 u4
      clear o20
      go_upto_region 10 with (fail)
      have t0 := h20.cell 0
      have t1 := h20.cell 1
      have t2 := h20.cell 2
      simp at t0 t1 t2
      have y0 := q20.cell 0
      have y1 := q20.cell 1
      have y2 := q20.cell 2
      have z0 := q20.frozen 0
      have z1 := q20.frozen 1
      have z2 := q20.frozen 2
      simp at y0 y1 y2
      refine wp_region_held_drew (S := fun w' => w'.cell? ⟨w.heap.size, 0, none⟩ = some (.int .i64 x) ∧ w'.cell? ⟨w.heap.size, 1, none⟩ = some (.int .i64 y) ∧ w'.cell? ⟨w.heap.size, 2, none⟩ = some (.int .i64 z)) (by kernel_rfl) ?_ (fun hHeld => ?_)
      · exact ⟨t0, t1, t2⟩
      refine tk 0 ?_
      refine tk 1 ?_
      refine tk 2 ?_
      refine tk 3 ?_
      have hF := ((h20.far (p := ⟨w.heap.size + 1 + 1, 0, none⟩) (by simp; omega) (.int .i64 x)).far (p := ⟨w.heap.size + 1 + 1, 1, none⟩) (by simp; omega) (.int .i64 y)).far (p := ⟨w.heap.size + 1 + 1, 2, none⟩) (by simp; omega) (.int .i64 z)
      refine rd1 4 (fun K hK => ?_)
      go_simp
      refine hK.out _ _ ?_ (fun hHeld => ?_)
      · exact ⟨hF.cell 0, hF.cell 1, hF.cell 2⟩
      clear hK K
      refine pt ?_
      refine tk 5 ?_
      refine wpAnyH_done (by kernel_rfl) ?_ _
      clear hHeld
      clear t0 t1 t2
      clear y0 y1 y2 z0 z1 z2
      have ke := ((q20.set_ 0 (.int .i64 x)).set_ 1 (.int .i64 y)).set_ 2 (.int .i64 z)
      have e0 := ke.cell 0
      have e1 := ke.cell 1
      have e2 := ke.cell 2
      simp at e0 e1 e2
      have OZ := Lib.hid (owB_set3 O20.out q20 (.int .i64 x) (.int .i64 y) (.int .i64 z))
      have BZ := Lib.hid (((B20.out.setCell (p := ⟨w.heap.size + 1 + 1, 0, none⟩) (by show w.heap.size ≤ _ + 1 + 1; omega) (.int .i64 x)).setCell (p := ⟨w.heap.size + 1 + 1, 1, none⟩) (by show w.heap.size ≤ _ + 1 + 1; omega) (.int .i64 y)).setCell (p := ⟨w.heap.size + 1 + 1, 2, none⟩) (by show w.heap.size ≤ _ + 1 + 1; omega) (.int .i64 z))
      generalize (((w20).setCell ⟨w.heap.size + 1 + 1, 0, none⟩ (.int .i64 x)).setCell ⟨w.heap.size + 1 + 1, 1, none⟩ (.int .i64 y)).setCell ⟨w.heap.size + 1 + 1, 2, none⟩ (.int .i64 z) = wz at *
      have HPL := progB_len bs n0 ⟨true, px, py, pz, ps⟩
      go_wp2
      refine bodyPost_ret (by simp [results, Try.results80, go_sem, e0, e1, e2]; try rfl) rfl ?_
      rw [HX.out]
      exact ownA_of HPL (OZ.out.below (Below.refl _ _).drew) BZ.out.drew
end Go.Proofs.Ytjnpgdhpneifjaa

/- Valid heads behind AppendPage, in plain Lean. -/
namespace Go.Proofs.Ytjnpgdhpneifjaa
open Go.ChangeShapes Go.WideShapes Go.ChangeAt Go.RowKit
set_option linter.unusedVariables false
set_option linter.unusedSimpArgs false

/-! ### heads -/
theorem preH_iff {n : Nat} {x y z : Int} : PreH n [x, y, z] 3 ↔ ((-1 ≤ x ∧ x ≤ (n : Int) - 1) ∧ (-1 ≤ y ∧ y ≤ (n : Int) - 1) ∧ (-1 ≤ z ∧ z ≤ (n : Int) - 1)) ∧ (0 ≤ y → x ≠ y) ∧ (0 ≤ z → x ≠ z) ∧ (0 ≤ z → y ≠ z) := by
  constructor
  · intro h
    refine ⟨⟨(h 0 (by omega)).1, (h 1 (by omega)).1, (h 2 (by omega)).1⟩, (h 1 (by omega)).2 0 (by omega), (h 2 (by omega)).2 0 (by omega), (h 2 (by omega)).2 1 (by omega)⟩
  · rintro ⟨⟨hx, hy, hz⟩, h1, h2, h3⟩ i hi
    have : i = 0 ∨ i = 1 ∨ i = 2 := by omega
    rcases this with rfl | rfl | rfl
    · exact ⟨hx, fun j hj => by omega⟩
    · refine ⟨hy, fun j hj => ?_⟩
      obtain rfl : j = 0 := by omega
      exact h1
    · refine ⟨hz, fun j hj => ?_⟩
      have : j = 0 ∨ j = 1 := by omega
      rcases this with rfl | rfl
      · exact h2
      · exact h3
theorem freshTo_not (bs : List BlockV) (h : HeadV) : ∀ k, 0 ≤ freshTo bs h k → h.has (freshTo bs h k) = false
  | 0, h0 => by unfold freshTo at h0; omega
  | k + 1, h0 => by
    unfold freshTo at h0 ⊢
    split at h0
    · next hc => rw [if_pos hc]; exact freshTo_not bs h k h0
    · next hc =>
      rw [if_neg hc]
      have hk : h.has (k : Int) = false := by
        cases e : h.has (k : Int) with
        | false => rfl
        | true => exact absurd (by rw [e]; rfl) hc
      split at h0
      · next hd => rw [if_pos hd]; exact hk
      · next hd => rw [if_neg hd]; exact freshTo_not bs h k h0
theorem has_not {h : HeadV} {k : Int} (e : h.has k = false) : k ≠ h.x ∧ k ≠ h.y ∧ k ≠ h.z := by
  unfold HeadV.has at e
  simp only [Bool.or_eq_false_iff, beq_eq_false_iff_ne] at e
  exact ⟨e.1.1, e.1.2, e.2⟩
theorem set_ok {n : Nat} {h : HeadV} {k : Int} {heat : Nat} (hp : PreH n [h.x, h.y, h.z] 3) (h0 : 0 ≤ k) (h1 : k < n) (hn : h.has k = false) : PreH n [(h.set heat k).x, (h.set heat k).y, (h.set heat k).z] 3 := by
  have hh := has_not hn
  rw [preH_iff] at hp ⊢
  unfold HeadV.set
  split
  · simp only; omega
  · split
    · simp only; omega
    · simp only; omega
theorem appendN_range {bs : List BlockV} {h : HeadV} {heat : Nat} (hok : HeadsOk bs h.x h.y h.z) (hh : heat ≤ 2) : -1 ≤ appendN bs h heat ∧ appendN bs h heat < bs.length := by
  unfold appendN
  have h1 := freshTo_range bs h bs.length
  have h2 := heads_range hok hh
  split
  · unfold freshF; omega
  · omega
theorem appendF_ok {bs : List BlockV} {h : HeadV} {heat : Nat} {p : PageV} (hok : HeadsOk bs h.x h.y h.z) (hh : heat ≤ 2) (hp : PageOk p) (hf : p.full = true) :
    HeadsOk (appendF bs h heat p).bs (appendF bs h heat p).h.x (appendF bs h heat p).h.y (appendF bs h heat p).h.z := by
  have hr := appendN_range hok hh
  by_cases hn : appendN bs h heat < 0
  · rw [appendF_none ⟨hp, hf⟩ hn]; exact hok
  · obtain ⟨n, e⟩ : ∃ n : Nat, appendN bs h heat = n := ⟨(appendN bs h heat).toNat, by omega⟩
    rw [appendF_at ⟨hp, hf⟩ e]
    refine ⟨progB_ok hok.1 (by omega) hp hf, ?_⟩
    simp only
    rw [progB_len]
    have key : (n : Int) = h.get heat ∨ ((n : Int) = freshF bs h) := by
      rw [← e]
      unfold appendN
      split
      · exact .inr rfl
      · exact .inl rfl
    rcases key with k | k
    · rw [k, head_set_get]; exact hok.2
    · have hnot := freshTo_not bs h bs.length (by unfold freshF at k; omega)
      rw [show freshTo bs h bs.length = (n : Int) from k.symm] at hnot
      exact set_ok hok.2 (by omega) (by omega) hnot
theorem appendF_len {bs : List BlockV} {h : HeadV} {heat : Nat} {p : PageV} (hp : PageOk p ∧ p.full = true) : (appendF bs h heat p).bs.length = bs.length := by
  unfold appendF
  rw [if_pos hp]
  split
  · rfl
  · exact progB_len _ _ _
end Go.Proofs.Ytjnpgdhpneifjaa
