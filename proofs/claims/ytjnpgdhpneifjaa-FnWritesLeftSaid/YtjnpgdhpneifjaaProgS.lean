/- Program by the reference, at a valid device, block and full page. -/
import Derived.Test.YtjnpgdhpneifjaaWriteBS
namespace Go.Proofs.Ytjnpgdhpneifjaa
open Go.ChangeShapes Go.WideShapes Go.ChangeAt Go.RowKit
set_option linter.unusedVariables false
set_option linter.unusedSimpArgs false

def OwnP (w0 : World) (bs : List BlockV) (n : Nat) (p : PageV) (e : Ending) (w' : World) : Prop := ∃ A c, e = .returned (.tuple #[.slice A bs.length c, .int .i64 (progAt bs n)]) ∧ OwB w' w0.heap.size A bs.length c (progB bs n p) ∧ Below w0.heap.size w0 w'
set_option maxRecDepth 8000 in
set_option maxHeartbeats 2000000 in
theorem program_spec {A : Option Addr} {m c B n : Nat} {bs : List BlockV} {x y z s : Int} {w : World} (hr : RdB w B A m bs) (hB : B ≤ w.heap.size) (hok : DevOk bs) (hnl : n < bs.length) (hp : PageOk ⟨true, x, y, z, s⟩) :
    Calls Try.prog 117 #[.slice A m c, .int .i64 n, .agg #[.bool true, .int .i64 x, .int .i64 y, .int .i64 z, .int .i64 s]] w (OwnP w bs n ⟨true, x, y, z, s⟩) := by
  obtain rfl : bs.length = m := hr.len
  have hm12 : bs.length ≤ 12 := hok.1.2
  have hdt := Lib.hid (bof_t.2 hok)
  have hpt := Lib.hid (show decide (PageOk ⟨true, x, y, z, s⟩) = true from decide_eq_true hp)
  have HIN := Lib.hid (show inB (n : Int) 0 ((bs.length : Int) - 1) = true from by rw [inB_t]; omega)
  have v1 : IntKind.i64.wrap ((bs.length : Int) - 1) = (bs.length : Int) - 1 := IntWalk.i64_in _ (by omega)
  have HOK := Lib.hid hok
  have HP := Lib.hid hp
  have HBK := Lib.hid (hok.2 n hnl)
  have hp4 := Lib.hid (show ∀ i, i < bs.length → 0 < (bs.getD i noBlock).pages.length ∧ (bs.getD i noBlock).pages.length ≤ 1048576 from fun i hi => by have := (hok.2 i hi).2.1; omega)
  have b1 : Below w.heap.size w (w.alloc (.cells #[.bool true, .int .i64 x, .int .i64 y, .int .i64 z, .int .i64 s] 102)) := (Below.refl _ _).alloc (Nat.le_refl _) _
  have k1 := Blk.new w 102 #[.bool true, .int .i64 x, .int .i64 y, .int .i64 z, .int .i64 s]
  have l1 := k1.lt
  have r1 := (hr.mono hB).below b1
  have B1 := Lib.hid b1
  clear hr hok hp b1
  go_enter Try.func117, Try.ntmps117
  go_upto_region 1 with (fail)
  generalize w.alloc (.cells #[.bool true, .int .i64 x, .int .i64 y, .int .i64 z, .int .i64 s] 102) = w1 at *
  go_wp2_with fail
  refine (deviceValid_spec r1 B1.out.size (by omega)).mono ?_
  rw [hdt.out]
  rintro e w2 ⟨rfl, b2⟩
  have k2 := k1.below b2 l1
  have l2 := k2.lt
  have r2 := r1.below (b2.mono B1.out.size)
  have B2 := Lib.hid (B1.out.trans (b2.mono B1.out.size))
  clear k1 l1 r1 b2 B1
  have u0 := k2.cell 0
  have u1 := k2.cell 1
  have u2 := k2.cell 2
  have u3 := k2.cell 3
  have u4 := k2.cell 4
  simp at u0 u1 u2 u3 u4
  go_wp2_with (go_at_call 32; refine (l1In_c _ _ _ _).mono ?_; rw [HIN.out]; rintro e w' ⟨rfl, rfl⟩)
  refine (pageValid_spec true x y z s _).mono ?_
  rw [hpt.out]
  rintro e w3 ⟨rfl, b3⟩
  have k3 := k2.below b3 l2
  have l3 := k3.lt
  have r3 := r2.below (b3.mono B2.out.size)
  have B3 := Lib.hid (B2.out.trans (b3.mono B2.out.size))
  clear k2 l2 r2 b3 B2 u0 u1 u2 u3 u4
  have u0 := k3.cell 0
  simp at u0
  go_wp2_with fail
  refine (l5Copy_c r3 B3.out.size (by omega) hp4.out).mono ?_
  rintro e w4 ⟨A4, c4, rfl, o4, b4⟩
  have k4 := k3.below b4 l3
  have l4 := k4.lt
  have r4 := r3.below (b4.mono B3.out.size)
  have B4 := Lib.hid (B3.out.trans (b4.mono B3.out.size))
  have O4 := Lib.hid (o4.lower (base' := w.heap.size) B3.out.size)
  have hg4 := Lib.hid (o4.form (by omega))
  clear k3 l3 r3 b4 B3 u0 o4
  obtain ⟨b, off, rfl, hbB, hc⟩ := r4.at_ (by omega)
  obtain ⟨A', n', c', d0, d1, hnc, hcm, hrg⟩ := hc n hnl
  have lb : b < w4.heap.size := by have := B4.out.size; omega
  have hrp := hrg.drew
  have HWE := Lib.hid (show progAt bs n = if nextP (bs.getD n noBlock).pages < 0 then -1 else n * 4 + nextP (bs.getD n noBlock).pages from rfl)
  have HPB := Lib.hid (show progB bs n ⟨true, x, y, z, s⟩ = bs.set n (writeF (bs.getD n noBlock) ⟨true, x, y, z, s⟩) from rfl)
  have hn4 := HBK.out.2.1
  generalize hP : bs.getD n noBlock = P at *
  obtain ⟨we, ps⟩ := P
  simp only at d0 hrp hn4
  have hnn : n' = 4 := by rw [← hrp.len, hn4]
  subst hnn
  clear hc hrg hP r4
  go_upto_region 4 with (fail)
  refine wp_region_held_drew (S := fun w' => (w'.cell? ⟨b, off + n * 2, none⟩ = some (.int .i64 we) ∧ w'.cell? ⟨b, off + n * 2 + 1, none⟩ = some (.slice A' 4 c')) ∧ w'.cell? ⟨w.heap.size, 0, none⟩ = some (.bool true) ∧ w'.cell? ⟨w.heap.size, 1, none⟩ = some (.int .i64 x) ∧ w'.cell? ⟨w.heap.size, 2, none⟩ = some (.int .i64 y) ∧ w'.cell? ⟨w.heap.size, 3, none⟩ = some (.int .i64 z) ∧ w'.cell? ⟨w.heap.size, 4, none⟩ = some (.int .i64 s)) (by kernel_rfl) ?_ (fun hHeld => ?_)
  · exact ⟨⟨d0, d1⟩, k4.cell 0, k4.cell 1, k4.cell 2, k4.cell 3, k4.cell 4⟩
  refine wpAnyH_take (i := 0) (v := ?_) rfl (by kernel_rfl) (by kernel_rfl) (by kernel_rfl) (fun _ _ _ h => h) (Or.inl ⟨by rfl, ?_⟩) (by assumption) ?_
  rotate_left
  · (intro w hSw; (try dsimp only at hSw); go_simp; (try with_reducible rfl))
  try simp only [Act.put, List.setIfInBounds_toArray, List.set_cons_zero, List.set_cons_succ, List.getElem_toArray, List.getElem_cons_zero, List.getElem_cons_succ]
  refine wpAnyH_take (i := 1) (v := ?_) rfl (by kernel_rfl) (by kernel_rfl) (by kernel_rfl) (fun _ _ _ h => h) (Or.inl ⟨by rfl, ?_⟩) (by assumption) ?_
  rotate_left
  · (intro w hSw; (try dsimp only at hSw); go_simp; (try with_reducible rfl))
  try simp only [Act.put, List.setIfInBounds_toArray, List.set_cons_zero, List.set_cons_succ, List.getElem_toArray, List.getElem_cons_zero, List.getElem_cons_succ]
  refine wpAnyH_take (i := 2) (v := ?_) rfl (by kernel_rfl) (by kernel_rfl) (by kernel_rfl) (fun _ _ _ h => h) (Or.inl ⟨by rfl, ?_⟩) (by assumption) ?_
  rotate_left
  · (intro w hSw; (try dsimp only at hSw); go_simp; (try with_reducible rfl))
  try simp only [Act.put, List.setIfInBounds_toArray, List.set_cons_zero, List.set_cons_succ, List.getElem_toArray, List.getElem_cons_zero, List.getElem_cons_succ]
  refine wpAnyH_take (i := 3) (v := ?_) rfl (by kernel_rfl) (by kernel_rfl) (by kernel_rfl) (fun _ _ _ h => h) (Or.inl ⟨by rfl, ?_⟩) (by assumption) ?_
  rotate_left
  · (intro w hSw; (try dsimp only at hSw); go_simp; (try with_reducible rfl))
  try simp only [Act.put, List.setIfInBounds_toArray, List.set_cons_zero, List.set_cons_succ, List.getElem_toArray, List.getElem_cons_zero, List.getElem_cons_succ]
  refine wpAnyH_take (i := 4) (v := ?_) rfl (by kernel_rfl) (by kernel_rfl) (by kernel_rfl) (fun _ _ _ h => h) (Or.inl ⟨by rfl, ?_⟩) (by assumption) ?_
  rotate_left
  · (intro w hSw; (try dsimp only at hSw); go_simp; (try with_reducible rfl))
  try simp only [Act.put, List.setIfInBounds_toArray, List.set_cons_zero, List.set_cons_succ, List.getElem_toArray, List.getElem_cons_zero, List.getElem_cons_succ]
  have ka : Blk w4.drew w.heap.size 102 #[.bool true, .int .i64 x, .int .i64 y, .int .i64 z, .int .i64 s] := k4
  have d0a : w4.drew.cell? ⟨b, off + n * 2, none⟩ = some (.int .i64 we) := d0
  have d1a : w4.drew.cell? ⟨b, off + n * 2 + 1, none⟩ = some (.slice A' 4 c') := d1
  have Za : w.heap.size ≤ w4.drew.heap.size := B4.out.size
  have Ya : w.heap.size < w4.drew.heap.size ∧ b < w4.drew.heap.size := ⟨l4, lb⟩
  have hrpa := hrp
  have ba : Below w4.heap.size w4 w4.drew := (Below.refl _ _).drew
  have bb : Below w4.heap.size w4 (w4.drew.alloc (.cells #[.int .i64 0, .slice none 0 0] 67)) := ba.alloc (Nat.le_refl _) _
  have bb1 : Below w4.drew.heap.size w4.drew (w4.drew.alloc (.cells #[.int .i64 0, .slice none 0 0] 67)) := (Below.refl _ _).alloc (Nat.le_refl _) _
  have kb : Blk (w4.drew.alloc (.cells #[.int .i64 0, .slice none 0 0] 67)) w.heap.size 102 _ := ka.below bb1 l4
  have nb : Blk (w4.drew.alloc (.cells #[.int .i64 0, .slice none 0 0] 67)) w4.heap.size 67 #[.int .i64 0, .slice none 0 0] := Blk.new w4.drew _ _
  have d0b := (bb1.cell (p := ⟨b, off + n * 2, none⟩) lb).trans d0a
  have d1b := (bb1.cell (p := ⟨b, off + n * 2 + 1, none⟩) lb).trans d1a
  have hrpb := hrpa.below (bb1.mono Za)
  have Zb : w.heap.size ≤ (w4.drew.alloc (.cells #[.int .i64 0, .slice none 0 0] 67)).heap.size := Nat.le_trans Za bb1.size
  have Yb : (w.heap.size < (w4.drew.alloc (.cells #[.int .i64 0, .slice none 0 0] 67)).heap.size ∧ b < (w4.drew.alloc (.cells #[.int .i64 0, .slice none 0 0] 67)).heap.size) ∧ w4.heap.size < (w4.drew.alloc (.cells #[.int .i64 0, .slice none 0 0] 67)).heap.size := ⟨⟨Nat.lt_of_lt_of_le l4 bb1.size, Nat.lt_of_lt_of_le lb bb1.size⟩, by simp⟩
  clear hrp k4
  refine wpAnyH_ready (rs := [5, 9]) (by kernel_rfl) (by simp) ?_
  refine AllReadyH.cons rfl (fun K hK => ?_) (AllReadyH.cons rfl (fun K hK => ?_) AllReadyH.nil)
  · go_simp
    refine (writeBlock_spec hrpa Za hnc hcm HBK.out HP.out).mono ?_; rintro e w5 ⟨A5, c5, rfl, o5, b5⟩; simp only at o5 ⊢; rw [hn4] at o5; have k5 := ka.below b5 Ya.1; have d0' := (b5.cell (p := ⟨b, off + n * 2, none⟩) Ya.2).trans d0a; have d1' := (b5.cell (p := ⟨b, off + n * 2 + 1, none⟩) Ya.2).trans d1a
    go_wp2_with fail
    refine hK.out _ _ ?_ (fun hHeld => ?_)
    · exact ⟨⟨d0', d1'⟩, k5.cell 0, k5.cell 1, k5.cell 2, k5.cell 3, k5.cell 4⟩
    clear hK K
    try simp only [Act.put, List.setIfInBounds_toArray, List.set_cons_zero, List.set_cons_succ, List.getElem_toArray, List.getElem_cons_zero, List.getElem_cons_succ]
    refine wpAnyH_take (i := 6) (v := ?_) rfl (by kernel_rfl) (by kernel_rfl) (by kernel_rfl) (fun _ _ _ h => h) (Or.inl ⟨by rfl, ?_⟩) (by assumption) ?_
    rotate_left
    · (intro w hSw; (try dsimp only at hSw); go_simp; (try with_reducible rfl))
    try simp only [Act.put, List.setIfInBounds_toArray, List.set_cons_zero, List.set_cons_succ, List.getElem_toArray, List.getElem_cons_zero, List.getElem_cons_succ]
    refine wpAnyH_take (i := 7) (v := ?_) rfl (by kernel_rfl) (by kernel_rfl) (by kernel_rfl) (fun _ _ _ h => h) (Or.inl ⟨by rfl, ?_⟩) (by assumption) ?_
    rotate_left
    · (intro w hSw; (try dsimp only at hSw); go_simp; (try with_reducible rfl))
    try simp only [Act.put, List.setIfInBounds_toArray, List.set_cons_zero, List.set_cons_succ, List.getElem_toArray, List.getElem_cons_zero, List.getElem_cons_succ]
    refine wpAnyH_take (i := 8) (v := ?_) rfl (by kernel_rfl) (by kernel_rfl) (by kernel_rfl) (fun _ _ _ h => h) (Or.inl ⟨by rfl, ?_⟩) (by assumption) ?_
    rotate_left
    · (intro w hSw; (try dsimp only at hSw); go_simp; (try with_reducible rfl))
    try simp only [Act.put, List.setIfInBounds_toArray, List.set_cons_zero, List.set_cons_succ, List.getElem_toArray, List.getElem_cons_zero, List.getElem_cons_succ]
    have bz : Below w5.heap.size w5 (w5.alloc (.cells #[.int .i64 0, .slice none 0 0] 67)) := (Below.refl _ _).alloc (Nat.le_refl _) _
    have bw : Below w5.heap.size w5 (w5.alloc (.cells #[.int .i64 we, .slice A5 4 c5] 67)) := (Below.refl _ _).alloc (Nat.le_refl _) _
    refine wpAnyH_ready (rs := [9]) (by kernel_rfl) (by simp) ?_
    refine AllReadyH.cons rfl (fun K hK => ?_) AllReadyH.nil
    go_simp
    refine hK.out _ _ ?_ (fun hHeld => ?_)
    · exact ⟨⟨(bz.cell (p := ⟨b, off + n * 2, none⟩) (block_lt_of_cell d0')).trans d0', (bz.cell (p := ⟨b, off + n * 2 + 1, none⟩) (block_lt_of_cell d1')).trans d1'⟩, (k5.below bz k5.lt).cell 0, (k5.below bz k5.lt).cell 1, (k5.below bz k5.lt).cell 2, (k5.below bz k5.lt).cell 3, (k5.below bz k5.lt).cell 4⟩
    clear hK K
    try simp only [Act.put, List.setIfInBounds_toArray, List.set_cons_zero, List.set_cons_succ, List.getElem_toArray, List.getElem_cons_zero, List.getElem_cons_succ]
    refine wpAnyH_ready (rs := [10]) (by kernel_rfl) (by simp) ?_
    refine AllReadyH.cons rfl (fun K hK => ?_) AllReadyH.nil
    go_simp
    refine hK.out _ _ ?_ (fun hHeld => ?_)
    · exact ⟨⟨(bw.cell (p := ⟨b, off + n * 2, none⟩) (block_lt_of_cell d0')).trans d0', (bw.cell (p := ⟨b, off + n * 2 + 1, none⟩) (block_lt_of_cell d1')).trans d1'⟩, (k5.below bw k5.lt).cell 0, (k5.below bw k5.lt).cell 1, (k5.below bw k5.lt).cell 2, (k5.below bw k5.lt).cell 3, (k5.below bw k5.lt).cell 4⟩
    clear hK K
    try simp only [Act.put, List.setIfInBounds_toArray, List.set_cons_zero, List.set_cons_succ, List.getElem_toArray, List.getElem_cons_zero, List.getElem_cons_succ]
    have ke := Blk.new w5 67 #[.int .i64 we, .slice A5 4 c5]
    have be := (ba.trans (show Below w4.heap.size w4.drew w5 from b5)).alloc (show w4.heap.size ≤ w5.heap.size from b5.size) (.cells #[.int .i64 we, .slice A5 4 c5] 67)
    have oe := own_below o5 bw
    refine wpAnyH_take (i := 11) (v := ?_) rfl (by kernel_rfl) (by kernel_rfl) (by kernel_rfl) (fun _ _ _ h => h) (Or.inl ⟨by rfl, ?_⟩) (by assumption) ?_
    rotate_left
    · (intro w hSw; (try dsimp only at hSw); go_simp; (try with_reducible rfl))
    try simp only [Act.put, List.setIfInBounds_toArray, List.set_cons_zero, List.set_cons_succ, List.getElem_toArray, List.getElem_cons_zero, List.getElem_cons_succ]
    refine wpAnyH_done (by kernel_rfl) ?_ _
    go_upto_region 5 with (fail)
    obtain ⟨g, rfl, hg1, hg2⟩ := O4.out.form (by omega)
    have e0 : (w5.alloc (.cells #[.int .i64 we, .slice A5 4 c5] 67)).cell? ⟨w5.heap.size, 0, none⟩ = some (.int .i64 we) := ke.cell 0
    have e1 : (w5.alloc (.cells #[.int .i64 we, .slice A5 4 c5] 67)).cell? ⟨w5.heap.size, 1, none⟩ = some (.slice A5 4 c5) := ke.cell 1
    have oF := O4.out.setBlock (we := we) be oe B4.out.size (i := n) hnl
    obtain ⟨A3, n3, c3, f0, f1, z0, z1, _⟩ := (O4.out.below be).cells n hnl
    have OF := Lib.hid oF
    have BE := Lib.hid (((B4.out.trans (be.mono B4.out.size)).setCell (p := ⟨g, n * 2, none⟩) hg1 (.int .i64 we)).setCell (p := ⟨g, n * 2 + 1, none⟩) hg1 (.slice A5 4 c5))
    have HPB2 := Lib.hid (show progB bs n ⟨true, x, y, z, s⟩ = bs.set n ⟨we, (writeF ⟨we, ps⟩ ⟨true, x, y, z, s⟩).pages⟩ from by
      rw [HPB.out]
      congr 1
      have := writeF_wear ⟨we, ps⟩ ⟨true, x, y, z, s⟩
      generalize writeF ⟨we, ps⟩ ⟨true, x, y, z, s⟩ = X at *
      obtain ⟨a1, a2⟩ := X
      simp only at this
      rw [this])
    have hqr : -1 ≤ nextP ps ∧ nextP ps ≤ 3 := by
      rcases nextP_or ps with ⟨h1, _⟩ | ⟨j, h1, h2, _⟩ <;> omega
    generalize (bs.getD n noBlock).wear = q0 at *
    generalize w5.alloc (.cells #[.int .i64 we, .slice A5 4 c5] 67) = wE at *
    generalize nextP ps = q at *
    have v2 : IntKind.i64.wrap ((n : Int) * 4) = (n : Int) * 4 := IntWalk.i64_in _ (by omega)
    have v3 : IntKind.i64.wrap ((n : Int) * 4 + q) = (n : Int) * 4 + q := IntWalk.i64_in _ (by omega)
    clear oF be oe ke hHeld
    by_cases hq : q < 0
    · have HQ := Lib.hid (show progAt bs n = -1 from by rw [HWE.out, if_pos hq])
      go_wp2
      go_returns
      exact ⟨_, _, by first | (rw [HQ.out]; done) | (rw [HQ.out]; rfl), by rw [HPB2.out]; exact OF.out, BE.out⟩
    · have HQ := Lib.hid (show progAt bs n = (n : Int) * 4 + q from by rw [HWE.out, if_neg hq])
      go_wp2
      go_returns
      exact ⟨_, _, by first | (rw [HQ.out]; done) | (rw [HQ.out]; rfl), by rw [HPB2.out]; exact OF.out, BE.out⟩
  · go_simp
    refine hK.out _ _ ?_ (fun hHeld => ?_)
    · exact ⟨⟨d0b, d1b⟩, kb.cell 0, kb.cell 1, kb.cell 2, kb.cell 3, kb.cell 4⟩
    clear hK K
    try simp only [Act.put, List.setIfInBounds_toArray, List.set_cons_zero, List.set_cons_succ, List.getElem_toArray, List.getElem_cons_zero, List.getElem_cons_succ]
    refine wpAnyH_ready (rs := [5]) (by kernel_rfl) (by simp) ?_
    refine AllReadyH.cons rfl (fun K hK => ?_) AllReadyH.nil
    go_simp
    refine (writeBlock_spec hrpb Zb hnc hcm HBK.out HP.out).mono ?_; rintro e w5 ⟨A5, c5, rfl, o5, b5⟩; simp only at o5 ⊢; rw [hn4] at o5; have k5 := kb.below b5 Yb.1.1; have d0' := (b5.cell (p := ⟨b, off + n * 2, none⟩) Yb.1.2).trans d0b; have d1' := (b5.cell (p := ⟨b, off + n * 2 + 1, none⟩) Yb.1.2).trans d1b
    go_wp2_with fail
    refine hK.out _ _ ?_ (fun hHeld => ?_)
    · exact ⟨⟨d0', d1'⟩, k5.cell 0, k5.cell 1, k5.cell 2, k5.cell 3, k5.cell 4⟩
    clear hK K
    try simp only [Act.put, List.setIfInBounds_toArray, List.set_cons_zero, List.set_cons_succ, List.getElem_toArray, List.getElem_cons_zero, List.getElem_cons_succ]
    refine wpAnyH_take (i := 6) (v := ?_) rfl (by kernel_rfl) (by kernel_rfl) (by kernel_rfl) (fun _ _ _ h => h) (Or.inl ⟨by rfl, ?_⟩) (by assumption) ?_
    rotate_left
    · (intro w hSw; (try dsimp only at hSw); go_simp; (try with_reducible rfl))
    try simp only [Act.put, List.setIfInBounds_toArray, List.set_cons_zero, List.set_cons_succ, List.getElem_toArray, List.getElem_cons_zero, List.getElem_cons_succ]
    refine wpAnyH_take (i := 7) (v := ?_) rfl (by kernel_rfl) (by kernel_rfl) (by kernel_rfl) (fun _ _ _ h => h) (Or.inl ⟨by rfl, ?_⟩) (by assumption) ?_
    rotate_left
    · (intro w hSw; (try dsimp only at hSw); go_simp; (try with_reducible rfl))
    try simp only [Act.put, List.setIfInBounds_toArray, List.set_cons_zero, List.set_cons_succ, List.getElem_toArray, List.getElem_cons_zero, List.getElem_cons_succ]
    refine wpAnyH_take (i := 8) (v := ?_) rfl (by kernel_rfl) (by kernel_rfl) (by kernel_rfl) (fun _ _ _ h => h) (Or.inl ⟨by rfl, ?_⟩) (by assumption) ?_
    rotate_left
    · (intro w hSw; (try dsimp only at hSw); go_simp; (try with_reducible rfl))
    try simp only [Act.put, List.setIfInBounds_toArray, List.set_cons_zero, List.set_cons_succ, List.getElem_toArray, List.getElem_cons_zero, List.getElem_cons_succ]
    have nb5 := nb.below b5 Yb.2
    have hbw : b < w4.heap.size := lb
    have hww : w.heap.size < w4.heap.size := l4
    have hge : w4.heap.size ≤ w4.heap.size := Nat.le_refl _
    have be5 := bb.trans (b5.mono (Nat.le_of_lt Yb.2))
    have hne : (Value.slice A5 4 c5).ownBlock ≠ some w4.heap.size := fun e => by have := (own_lt o5 e).1; have := Yb.2; omega
    have o5e := own_lower o5 (base' := w4.heap.size) (Nat.le_of_lt Yb.2)
    have n6 := nb5.frozen 0
    have n7 := nb5.frozen 1
    have n8 := nb5.cell 0
    have n9 := nb5.cell 1
    simp at n8 n9
    refine wpAnyH_ready (rs := [10]) (by kernel_rfl) (by simp) ?_
    refine AllReadyH.cons rfl (fun K hK => ?_) AllReadyH.nil
    go_simp
    have ke := (nb5.set_ 0 (.int .i64 we)).set_ 1 (.slice A5 4 c5)
    have kp := (k5.far (p := ⟨w4.heap.size, 0, none⟩) (by first | omega | (simp; omega)) (.int .i64 we)).far (p := ⟨w4.heap.size, 1, none⟩) (by first | omega | (simp; omega)) (.slice A5 4 c5)
    have be := (be5.setCell (p := ⟨w4.heap.size, 0, none⟩) (by first | exact Nat.le_refl _ | exact hge) (.int .i64 we)).setCell (p := ⟨w4.heap.size, 1, none⟩) (by first | exact Nat.le_refl _ | exact hge) (.slice A5 4 c5)
    have d0e := (World.cell?_setCell_far _ ⟨w4.heap.size, 1, none⟩ ⟨b, off + n * 2, none⟩ (.slice A5 4 c5) (by show w4.heap.size ≠ b; omega)).trans ((World.cell?_setCell_far _ ⟨w4.heap.size, 0, none⟩ ⟨b, off + n * 2, none⟩ (.int .i64 we) (by show w4.heap.size ≠ b; omega)).trans d0')
    have d1e := (World.cell?_setCell_far _ ⟨w4.heap.size, 1, none⟩ ⟨b, off + n * 2 + 1, none⟩ (.slice A5 4 c5) (by show w4.heap.size ≠ b; omega)).trans ((World.cell?_setCell_far _ ⟨w4.heap.size, 0, none⟩ ⟨b, off + n * 2 + 1, none⟩ (.int .i64 we) (by show w4.heap.size ≠ b; omega)).trans d1')
    have oe := ownsRow_setCell_other (ownsRow_setCell_other o5e (a := ⟨w4.heap.size, 0, none⟩) hne (.int .i64 we)) (a := ⟨w4.heap.size, 1, none⟩) hne (.slice A5 4 c5)
    refine hK.out _ _ ?_ (fun hHeld => ?_)
    · exact ⟨⟨d0e, d1e⟩, kp.cell 0, kp.cell 1, kp.cell 2, kp.cell 3, kp.cell 4⟩
    clear hK K
    try simp only [Act.put, List.setIfInBounds_toArray, List.set_cons_zero, List.set_cons_succ, List.getElem_toArray, List.getElem_cons_zero, List.getElem_cons_succ]
    refine wpAnyH_take (i := 11) (v := ?_) rfl (by kernel_rfl) (by kernel_rfl) (by kernel_rfl) (fun _ _ _ h => h) (Or.inl ⟨by rfl, ?_⟩) (by assumption) ?_
    rotate_left
    · (intro w hSw; (try dsimp only at hSw); go_simp; (try with_reducible rfl))
    try simp only [Act.put, List.setIfInBounds_toArray, List.set_cons_zero, List.set_cons_succ, List.getElem_toArray, List.getElem_cons_zero, List.getElem_cons_succ]
    refine wpAnyH_done (by kernel_rfl) ?_ _
    go_upto_region 5 with (fail)
    obtain ⟨g, rfl, hg1, hg2⟩ := O4.out.form (by omega)
    have e0 : ((w5.setCell ⟨w4.heap.size, 0, none⟩ (.int .i64 we)).setCell ⟨w4.heap.size, 1, none⟩ (.slice A5 4 c5)).cell? ⟨w4.heap.size, 0, none⟩ = some (.int .i64 we) := ke.cell 0
    have e1 : ((w5.setCell ⟨w4.heap.size, 0, none⟩ (.int .i64 we)).setCell ⟨w4.heap.size, 1, none⟩ (.slice A5 4 c5)).cell? ⟨w4.heap.size, 1, none⟩ = some (.slice A5 4 c5) := ke.cell 1
    have oF := O4.out.setBlock (we := we) be oe B4.out.size (i := n) hnl
    obtain ⟨A3, n3, c3, f0, f1, z0, z1, _⟩ := (O4.out.below be).cells n hnl
    have OF := Lib.hid oF
    have BE := Lib.hid (((B4.out.trans (be.mono B4.out.size)).setCell (p := ⟨g, n * 2, none⟩) hg1 (.int .i64 we)).setCell (p := ⟨g, n * 2 + 1, none⟩) hg1 (.slice A5 4 c5))
    have HPB2 := Lib.hid (show progB bs n ⟨true, x, y, z, s⟩ = bs.set n ⟨we, (writeF ⟨we, ps⟩ ⟨true, x, y, z, s⟩).pages⟩ from by
      rw [HPB.out]
      congr 1
      have := writeF_wear ⟨we, ps⟩ ⟨true, x, y, z, s⟩
      generalize writeF ⟨we, ps⟩ ⟨true, x, y, z, s⟩ = X at *
      obtain ⟨a1, a2⟩ := X
      simp only at this
      rw [this])
    have hqr : -1 ≤ nextP ps ∧ nextP ps ≤ 3 := by
      rcases nextP_or ps with ⟨h1, _⟩ | ⟨j, h1, h2, _⟩ <;> omega
    generalize (bs.getD n noBlock).wear = q0 at *
    generalize (w5.setCell ⟨w4.heap.size, 0, none⟩ (.int .i64 we)).setCell ⟨w4.heap.size, 1, none⟩ (.slice A5 4 c5) = wE at *
    generalize nextP ps = q at *
    have v2 : IntKind.i64.wrap ((n : Int) * 4) = (n : Int) * 4 := IntWalk.i64_in _ (by omega)
    have v3 : IntKind.i64.wrap ((n : Int) * 4 + q) = (n : Int) * 4 + q := IntWalk.i64_in _ (by omega)
    clear oF be oe ke hHeld
    by_cases hq : q < 0
    · have HQ := Lib.hid (show progAt bs n = -1 from by rw [HWE.out, if_pos hq])
      go_wp2
      go_returns
      exact ⟨_, _, by first | (rw [HQ.out]; done) | (rw [HQ.out]; rfl), by rw [HPB2.out]; exact OF.out, BE.out⟩
    · have HQ := Lib.hid (show progAt bs n = (n : Int) * 4 + q from by rw [HWE.out, if_neg hq])
      go_wp2
      go_returns
      exact ⟨_, _, by first | (rw [HQ.out]; done) | (rw [HQ.out]; rfl), by rw [HPB2.out]; exact OF.out, BE.out⟩
end Go.Proofs.Ytjnpgdhpneifjaa
