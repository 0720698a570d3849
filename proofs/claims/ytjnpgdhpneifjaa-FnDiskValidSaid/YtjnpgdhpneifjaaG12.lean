/- FreshBlock by the reference, at a valid device with valid heads. -/
import Derived.Test.YtjnpgdhpneifjaaG1
import Derived.Test.YtjnpgdhpneifjaaG7
import Derived.Test.YtjnpgdhpneifjaaG3
import Derived.Deep.RegionHeld3
namespace Go.Proofs.Ytjnpgdhpneifjaa
open Go.ChangeShapes Go.WideShapes Go.ChangeAt Go.RowKit
set_option linter.unusedVariables false
set_option linter.unusedSimpArgs false

set_option maxRecDepth 8000 in
set_option maxHeartbeats 4000000 in
theorem freshBlock_spec {A : Option Addr} {m c B : Nat} {bs : List BlockV} (h : HeadV) {w : World} (hr : RdB w B A m bs) (hB : B ≤ w.heap.size) (hok : HeadsOk bs h.x h.y h.z) :
    Calls Try.prog 114 #[.slice A m c, hdv h] w fun e w' => e = .returned (.int .i64 (freshF bs h)) ∧ Below w.heap.size w w' := by
  obtain rfl : bs.length = m := hr.len
  have hm12 : bs.length ≤ 12 := hok.1.1.2
  have HDV := Lib.hid hok.1
  have HBT := Lib.hid (bof_t.2 hok)
  obtain ⟨x, y, z⟩ := h
  simp only at HBT
  have b1 : Below w.heap.size w (w.alloc (.cells #[.int .i64 x, .int .i64 y, .int .i64 z] 39)) := (Below.refl _ _).alloc (Nat.le_refl _) _
  have k1 := Blk.new w 39 #[.int .i64 x, .int .i64 y, .int .i64 z]
  have l1 := k1.lt
  have r1 := (hr.mono hB).below b1
  have B1 := Lib.hid b1
  clear hr b1 hok
  go_enter Try.func114, Try.ntmps114
  go_wp2_with fail
  generalize w.alloc (.cells #[.int .i64 x, .int .i64 y, .int .i64 z] 39) = w1 at *
  go_loopw [5, 6] (fun v i wr => ∃ k : Nat, k ≤ bs.length ∧ i = .int .i64 k ∧ v = .int .i64 (freshTo bs ⟨x, y, z⟩ k) ∧ Below w1.heap.size w1 wr) (fun _ i _ => bs.length - (intOf i).toNat)
  case atStart => exact ⟨0, Nat.zero_le _, rfl, rfl, Below.refl _ _⟩
  case round =>
    obtain ⟨k, hk, rfl, rfl, hbl⟩ := hrel
    have HBL := Lib.hid hbl
    have k2 := k1.below hbl l1
    have l2 := k2.lt
    have r2 := r1.below (hbl.mono B1.out.size)
    have hs2 := hbl.size
    have hs0 := B1.out.size
    clear hbl
    by_cases hlt : k < bs.length
    · have hd : decide (k < bs.length) = true := decide_eq_true hlt
      have t0 := k2.cell 0
      have t1 := k2.cell 1
      have t2 := k2.cell 2
      simp at t0 t1 t2
      go_wp2_with fail
      refine (headsValid_spec r2 (by omega) (by omega)).mono ?_
      rw [HBT.out]
      rintro e w4 ⟨rfl, b4⟩
      have HB := Lib.hid (HBL.out.trans (b4.mono hs2))
      have k4 := k2.below b4 l2
      have r4 := r2.below (b4.mono (by omega))
      have lw := k4.lt
      have HG := Lib.hid HB.out.size
      have G2 := Lib.hid (show w.heap.size ≤ w4.heap.size by have := HB.out.size; omega)
      clear k2 r2 t0 t1 t2 b4
      have t0 := k4.cell 0
      have t1 := k4.cell 1
      have t2 := k4.cell 2
      simp at t0 t1 t2
      obtain ⟨b, off, rfl, hbB, hc⟩ := r4.at_ (by omega)
      obtain ⟨A', n', c', d0, d1, hnc, hcm, hrp⟩ := hc k hlt
      have lb : b < w4.heap.size := by have := G2.out; omega
      have HBK := Lib.hid (HDV.out.2 k hlt)
      have HF := Lib.hid (show freshTo bs ⟨x, y, z⟩ (k + 1) = if (⟨x, y, z⟩ : HeadV).has k || !(nextP (bs.getD k noBlock).pages == 0) then freshTo bs ⟨x, y, z⟩ k else if freshTo bs ⟨x, y, z⟩ k < 0 ∨ (bs.getD k noBlock).wear < (bs.getD (freshTo bs ⟨x, y, z⟩ k).toNat noBlock).wear then k else freshTo bs ⟨x, y, z⟩ k from rfl)
      have hrg := freshTo_range bs ⟨x, y, z⟩ k
      have HU := Lib.hid (show ∀ u : Nat, u < bs.length → w4.cell? ⟨b, off + u * 2, none⟩ = some (.int .i64 (bs.getD u noBlock).wear) from fun u hu => by obtain ⟨_, _, _, h0, _⟩ := hc u hu; exact h0)
      generalize freshTo bs ⟨x, y, z⟩ k = q at *
      generalize hP : bs.getD k noBlock = P at *
      have hn4 := HBK.out.2.1
      obtain ⟨we, ps⟩ := P
      simp only at d0 hrp hn4
      have hnn : n' = 4 := by rw [← hrp.len, hn4]
      subst hnn
      have HH := Lib.hid (show (⟨x, y, z⟩ : HeadV).has k = ((k : Int) == x || (k : Int) == y || (k : Int) == z) from rfl)
      clear hc hP r4 k4 hn4
      obtain ⟨nx, hnx⟩ : ∃ nx, nextP ps = nx := ⟨_, rfl⟩
      simp only [hnx] at HF
      by_cases h0 : nx = 0
      · subst h0
        by_cases hx : (k : Int) = x
        · have hq : ((k : Int) != x) = false := by simp [hx]
          have HF := Lib.hid (show freshTo bs ⟨x, y, z⟩ (k + 1) = q from by rw [HF.out, HH.out]; simp [hx])
          clear hx
          go_upto_region 5 with (fail)
          refine wp_region_held_drew (S := fun w' => (w'.cell? ⟨b, off + k * 2, none⟩ = some (.int .i64 we) ∧ w'.cell? ⟨b, off + k * 2 + 1, none⟩ = some (.slice A' 4 c')) ∧ w'.cell? ⟨w.heap.size, 0, none⟩ = some (.int .i64 x) ∧ w'.cell? ⟨w.heap.size, 1, none⟩ = some (.int .i64 y) ∧ w'.cell? ⟨w.heap.size, 2, none⟩ = some (.int .i64 z)) (by kernel_rfl) ?_ (fun hHeld => ?_)
          · exact ⟨⟨d0, d1⟩, t0, t1, t2⟩
          refine tk 0 ?_
          refine tk 1 ?_
          refine tk 2 ?_
          refine tk 3 ?_
          refine rd1 4 (fun K hK => ?_)
          go_simp
          refine (blockNext_spec hrp.drew G2.out hnc hcm HBK.out).mono ?_; rw [hnx]; rintro e w5 ⟨rfl, b5⟩; have HB5 := Lib.hid (HB.out.drew.trans (b5.mono HG.out)); have d0' := (b5.cell (p := ⟨b, off + k * 2, none⟩) lb).trans d0; have d1' := (b5.cell (p := ⟨b, off + k * 2 + 1, none⟩) lb).trans d1; have t0' := (b5.cell (p := ⟨w.heap.size, 0, none⟩) lw).trans t0; have t1' := (b5.cell (p := ⟨w.heap.size, 1, none⟩) lw).trans t1; have t2' := (b5.cell (p := ⟨w.heap.size, 2, none⟩) lw).trans t2
          go_wp2_with fail
          refine hK.out _ _ ?_ (fun hHeld => ?_)
          · exact ⟨⟨d0', d1'⟩, t0', t1', t2'⟩
          clear hK K
          refine pt ?_
          refine tk 5 ?_
          refine tk 6 ?_
          refine tk 7 ?_
          refine tk 8 ?_
          refine tk 9 ?_
          refine tk 10 ?_
          refine tk 11 ?_
          refine tk 12 ?_
          refine sk 13 ?_
          refine sk 14 ?_
          refine sk 15 ?_
          refine sk 16 ?_
          refine tk 17 ?_
          refine tk 18 ?_
          refine sk 19 ?_
          refine sk 20 ?_
          refine sk 21 ?_
          refine sk 22 ?_
          refine tk 23 ?_
          refine tk 24 ?_
          refine sk 25 ?_
          refine sk 26 ?_
          refine sk 27 ?_
          refine sk 28 ?_
          refine sk 29 ?_
          refine sk 30 ?_
          refine sk 31 ?_
          refine sk 32 ?_
          refine sk 33 ?_
          refine sk 34 ?_
          refine sk 35 ?_
          refine sk 36 ?_
          refine sk 37 ?_
          refine sk 38 ?_
          refine sk 39 ?_
          refine tk 40 ?_
          refine wpAnyH_done (by kernel_rfl) ?_ _
          go_wp2
          go_roundw
          case rel => exact ⟨k + 1, by omega, by go_num, by rw [HF.out], HB5.out⟩
          case measure => simp [intOf]; omega
        · have hq : ((k : Int) != x) = true := by simp [hx]
          by_cases hy : (k : Int) = y
          · have hq2 : ((k : Int) != y) = false := by simp [hy]
            have HF := Lib.hid (show freshTo bs ⟨x, y, z⟩ (k + 1) = q from by rw [HF.out, HH.out]; simp [hy])
            clear hx hy
            go_upto_region 5 with (fail)
            refine wp_region_held_drew (S := fun w' => (w'.cell? ⟨b, off + k * 2, none⟩ = some (.int .i64 we) ∧ w'.cell? ⟨b, off + k * 2 + 1, none⟩ = some (.slice A' 4 c')) ∧ w'.cell? ⟨w.heap.size, 0, none⟩ = some (.int .i64 x) ∧ w'.cell? ⟨w.heap.size, 1, none⟩ = some (.int .i64 y) ∧ w'.cell? ⟨w.heap.size, 2, none⟩ = some (.int .i64 z)) (by kernel_rfl) ?_ (fun hHeld => ?_)
            · exact ⟨⟨d0, d1⟩, t0, t1, t2⟩
            refine tk 0 ?_
            refine tk 1 ?_
            refine tk 2 ?_
            refine tk 3 ?_
            refine rd1 4 (fun K hK => ?_)
            go_simp
            refine (blockNext_spec hrp.drew G2.out hnc hcm HBK.out).mono ?_; rw [hnx]; rintro e w5 ⟨rfl, b5⟩; have HB5 := Lib.hid (HB.out.drew.trans (b5.mono HG.out)); have d0' := (b5.cell (p := ⟨b, off + k * 2, none⟩) lb).trans d0; have d1' := (b5.cell (p := ⟨b, off + k * 2 + 1, none⟩) lb).trans d1; have t0' := (b5.cell (p := ⟨w.heap.size, 0, none⟩) lw).trans t0; have t1' := (b5.cell (p := ⟨w.heap.size, 1, none⟩) lw).trans t1; have t2' := (b5.cell (p := ⟨w.heap.size, 2, none⟩) lw).trans t2
            go_wp2_with fail
            refine hK.out _ _ ?_ (fun hHeld => ?_)
            · exact ⟨⟨d0', d1'⟩, t0', t1', t2'⟩
            clear hK K
            refine pt ?_
            refine tk 5 ?_
            refine tk 6 ?_
            refine tk 7 ?_
            refine tk 8 ?_
            refine tk 9 ?_
            refine tk 10 ?_
            refine tk 11 ?_
            refine tk 12 ?_
            refine tk 13 ?_
            refine tk 14 ?_
            refine tk 15 ?_
            refine tk 16 ?_
            refine tk 17 ?_
            refine tk 18 ?_
            refine sk 19 ?_
            refine sk 20 ?_
            refine sk 21 ?_
            refine sk 22 ?_
            refine tk 23 ?_
            refine tk 24 ?_
            refine sk 25 ?_
            refine sk 26 ?_
            refine sk 27 ?_
            refine sk 28 ?_
            refine sk 29 ?_
            refine sk 30 ?_
            refine sk 31 ?_
            refine sk 32 ?_
            refine sk 33 ?_
            refine sk 34 ?_
            refine sk 35 ?_
            refine sk 36 ?_
            refine sk 37 ?_
            refine sk 38 ?_
            refine sk 39 ?_
            refine tk 40 ?_
            refine wpAnyH_done (by kernel_rfl) ?_ _
            go_wp2
            go_roundw
            case rel => exact ⟨k + 1, by omega, by go_num, by rw [HF.out], HB5.out⟩
            case measure => simp [intOf]; omega
          · have hq2 : ((k : Int) != y) = true := by simp [hy]
            by_cases hz : (k : Int) = z
            · have hq3 : ((k : Int) != z) = false := by simp [hz]
              have HF := Lib.hid (show freshTo bs ⟨x, y, z⟩ (k + 1) = q from by rw [HF.out, HH.out]; simp [hz])
              clear hx hy hz
              go_upto_region 5 with (fail)
              refine wp_region_held_drew (S := fun w' => (w'.cell? ⟨b, off + k * 2, none⟩ = some (.int .i64 we) ∧ w'.cell? ⟨b, off + k * 2 + 1, none⟩ = some (.slice A' 4 c')) ∧ w'.cell? ⟨w.heap.size, 0, none⟩ = some (.int .i64 x) ∧ w'.cell? ⟨w.heap.size, 1, none⟩ = some (.int .i64 y) ∧ w'.cell? ⟨w.heap.size, 2, none⟩ = some (.int .i64 z)) (by kernel_rfl) ?_ (fun hHeld => ?_)
              · exact ⟨⟨d0, d1⟩, t0, t1, t2⟩
              refine tk 0 ?_
              refine tk 1 ?_
              refine tk 2 ?_
              refine tk 3 ?_
              refine rd1 4 (fun K hK => ?_)
              go_simp
              refine (blockNext_spec hrp.drew G2.out hnc hcm HBK.out).mono ?_; rw [hnx]; rintro e w5 ⟨rfl, b5⟩; have HB5 := Lib.hid (HB.out.drew.trans (b5.mono HG.out)); have d0' := (b5.cell (p := ⟨b, off + k * 2, none⟩) lb).trans d0; have d1' := (b5.cell (p := ⟨b, off + k * 2 + 1, none⟩) lb).trans d1; have t0' := (b5.cell (p := ⟨w.heap.size, 0, none⟩) lw).trans t0; have t1' := (b5.cell (p := ⟨w.heap.size, 1, none⟩) lw).trans t1; have t2' := (b5.cell (p := ⟨w.heap.size, 2, none⟩) lw).trans t2
              go_wp2_with fail
              refine hK.out _ _ ?_ (fun hHeld => ?_)
              · exact ⟨⟨d0', d1'⟩, t0', t1', t2'⟩
              clear hK K
              refine pt ?_
              refine tk 5 ?_
              refine tk 6 ?_
              refine tk 7 ?_
              refine tk 8 ?_
              refine tk 9 ?_
              refine tk 10 ?_
              refine tk 11 ?_
              refine tk 12 ?_
              refine tk 13 ?_
              refine tk 14 ?_
              refine tk 15 ?_
              refine tk 16 ?_
              refine tk 17 ?_
              refine tk 18 ?_
              refine tk 19 ?_
              refine tk 20 ?_
              refine tk 21 ?_
              refine tk 22 ?_
              refine tk 23 ?_
              refine tk 24 ?_
              refine sk 25 ?_
              refine sk 26 ?_
              refine sk 27 ?_
              refine sk 28 ?_
              refine sk 29 ?_
              refine sk 30 ?_
              refine sk 31 ?_
              refine sk 32 ?_
              refine sk 33 ?_
              refine sk 34 ?_
              refine sk 35 ?_
              refine sk 36 ?_
              refine sk 37 ?_
              refine sk 38 ?_
              refine sk 39 ?_
              refine tk 40 ?_
              refine wpAnyH_done (by kernel_rfl) ?_ _
              go_wp2
              go_roundw
              case rel => exact ⟨k + 1, by omega, by go_num, by rw [HF.out], HB5.out⟩
              case measure => simp [intOf]; omega
            · have hq3 : ((k : Int) != z) = true := by simp [hz]
              have HF1 := Lib.hid (show freshTo bs ⟨x, y, z⟩ (k + 1) = if q < 0 ∨ we < (bs.getD q.toNat noBlock).wear then (k : Int) else q from by rw [HF.out, HH.out]; simp [hx, hy, hz])
              clear hx hy hz
              by_cases hqn : q < 0
              · have HF := Lib.hid (show freshTo bs ⟨x, y, z⟩ (k + 1) = (k : Int) from by rw [HF1.out, if_pos (.inl hqn)])
                have hd9 : decide (q < 0) = true := decide_eq_true hqn
                go_upto_region 5 with (fail)
                refine wp_region_held_drew (S := fun w' => (w'.cell? ⟨b, off + k * 2, none⟩ = some (.int .i64 we) ∧ w'.cell? ⟨b, off + k * 2 + 1, none⟩ = some (.slice A' 4 c')) ∧ w'.cell? ⟨w.heap.size, 0, none⟩ = some (.int .i64 x) ∧ w'.cell? ⟨w.heap.size, 1, none⟩ = some (.int .i64 y) ∧ w'.cell? ⟨w.heap.size, 2, none⟩ = some (.int .i64 z)) (by kernel_rfl) ?_ (fun hHeld => ?_)
                · exact ⟨⟨d0, d1⟩, t0, t1, t2⟩
                refine tk 0 ?_
                refine tk 1 ?_
                refine tk 2 ?_
                refine tk 3 ?_
                refine rd1 4 (fun K hK => ?_)
                go_simp
                refine (blockNext_spec hrp.drew G2.out hnc hcm HBK.out).mono ?_; rw [hnx]; rintro e w5 ⟨rfl, b5⟩; have HB5 := Lib.hid (HB.out.drew.trans (b5.mono HG.out)); have d0' := (b5.cell (p := ⟨b, off + k * 2, none⟩) lb).trans d0; have d1' := (b5.cell (p := ⟨b, off + k * 2 + 1, none⟩) lb).trans d1; have t0' := (b5.cell (p := ⟨w.heap.size, 0, none⟩) lw).trans t0; have t1' := (b5.cell (p := ⟨w.heap.size, 1, none⟩) lw).trans t1; have t2' := (b5.cell (p := ⟨w.heap.size, 2, none⟩) lw).trans t2
                go_wp2_with fail
                refine hK.out _ _ ?_ (fun hHeld => ?_)
                · exact ⟨⟨d0', d1'⟩, t0', t1', t2'⟩
                clear hK K
                refine pt ?_
                refine tk 5 ?_
                refine tk 6 ?_
                refine tk 7 ?_
                refine tk 8 ?_
                refine tk 9 ?_
                refine tk 10 ?_
                refine tk 11 ?_
                refine tk 12 ?_
                refine tk 13 ?_
                refine tk 14 ?_
                refine tk 15 ?_
                refine tk 16 ?_
                refine tk 17 ?_
                refine tk 18 ?_
                refine tk 19 ?_
                refine tk 20 ?_
                refine tk 21 ?_
                refine tk 22 ?_
                refine tk 23 ?_
                refine tk 24 ?_
                refine tk 25 ?_
                refine tk 26 ?_
                refine tk 27 ?_
                refine sk 28 ?_
                refine sk 29 ?_
                refine sk 30 ?_
                refine sk 31 ?_
                refine sk 32 ?_
                refine sk 33 ?_
                refine sk 34 ?_
                refine sk 35 ?_
                refine sk 36 ?_
                refine sk 37 ?_
                refine sk 38 ?_
                refine tk 39 ?_
                refine tk 40 ?_
                refine wpAnyH_done (by kernel_rfl) ?_ _
                go_wp2
                go_roundw
                case rel => exact ⟨k + 1, by omega, by go_num, by rw [HF.out], HB5.out⟩
                case measure => simp [intOf]; omega
              · obtain ⟨u, rfl⟩ := Int.eq_ofNat_of_zero_le (show 0 ≤ q by omega)
                have hun : u < bs.length := by omega
                have hd9 : decide ((u : Int) < 0) = false := decide_eq_false (by omega)
                have e0 := HU.out u hun
                generalize hwu : (bs.getD u noBlock).wear = wu at *
                by_cases hls : we < wu
                · have HF := Lib.hid (show freshTo bs ⟨x, y, z⟩ (k + 1) = (k : Int) from by rw [HF1.out, if_pos (.inr (by rw [Int.toNat_natCast, hwu]; exact hls))])
                  have hd8 : decide (we < wu) = true := decide_eq_true hls
                  clear hwu
                  go_upto_region 5 with (fail)
                  refine wp_region_held_drew (S := fun w' => (w'.cell? ⟨b, off + k * 2, none⟩ = some (.int .i64 we) ∧ w'.cell? ⟨b, off + k * 2 + 1, none⟩ = some (.slice A' 4 c')) ∧ w'.cell? ⟨w.heap.size, 0, none⟩ = some (.int .i64 x) ∧ w'.cell? ⟨w.heap.size, 1, none⟩ = some (.int .i64 y) ∧ w'.cell? ⟨w.heap.size, 2, none⟩ = some (.int .i64 z) ∧ w'.cell? ⟨b, off + u * 2, none⟩ = some (.int .i64 wu)) (by kernel_rfl) ?_ (fun hHeld => ?_)
                  · exact ⟨⟨d0, d1⟩, t0, t1, t2, e0⟩
                  refine tk 0 ?_
                  refine tk 1 ?_
                  refine tk 2 ?_
                  refine tk 3 ?_
                  refine rd1 4 (fun K hK => ?_)
                  go_simp
                  refine (blockNext_spec hrp.drew G2.out hnc hcm HBK.out).mono ?_; rw [hnx]; rintro e w5 ⟨rfl, b5⟩; have HB5 := Lib.hid (HB.out.drew.trans (b5.mono HG.out)); have d0' := (b5.cell (p := ⟨b, off + k * 2, none⟩) lb).trans d0; have d1' := (b5.cell (p := ⟨b, off + k * 2 + 1, none⟩) lb).trans d1; have t0' := (b5.cell (p := ⟨w.heap.size, 0, none⟩) lw).trans t0; have t1' := (b5.cell (p := ⟨w.heap.size, 1, none⟩) lw).trans t1; have t2' := (b5.cell (p := ⟨w.heap.size, 2, none⟩) lw).trans t2; have e0' := (b5.cell (p := ⟨b, off + u * 2, none⟩) lb).trans e0
                  go_wp2_with fail
                  refine hK.out _ _ ?_ (fun hHeld => ?_)
                  · exact ⟨⟨d0', d1'⟩, t0', t1', t2', e0'⟩
                  clear hK K
                  refine pt ?_
                  refine tk 5 ?_
                  refine tk 6 ?_
                  refine tk 7 ?_
                  refine tk 8 ?_
                  refine tk 9 ?_
                  refine tk 10 ?_
                  refine tk 11 ?_
                  refine tk 12 ?_
                  refine tk 13 ?_
                  refine tk 14 ?_
                  refine tk 15 ?_
                  refine tk 16 ?_
                  refine tk 17 ?_
                  refine tk 18 ?_
                  refine tk 19 ?_
                  refine tk 20 ?_
                  refine tk 21 ?_
                  refine tk 22 ?_
                  refine tk 23 ?_
                  refine tk 24 ?_
                  refine tk 25 ?_
                  refine tk 26 ?_
                  refine tk 27 ?_
                  refine tk 28 ?_
                  refine tk 29 ?_
                  refine tk 30 ?_
                  refine tk 31 ?_
                  refine tk 32 ?_
                  refine tk 33 ?_
                  refine tk 34 ?_
                  refine tk 35 ?_
                  refine tk 36 ?_
                  refine tk 37 ?_
                  refine tk 38 ?_
                  refine tk 39 ?_
                  refine tk 40 ?_
                  refine wpAnyH_done (by kernel_rfl) ?_ _
                  go_wp2
                  go_roundw
                  case rel => exact ⟨k + 1, by omega, by go_num, by rw [HF.out], HB5.out⟩
                  case measure => simp [intOf]; omega
                · have HF := Lib.hid (show freshTo bs ⟨x, y, z⟩ (k + 1) = (u : Int) from by rw [HF1.out, if_neg (by rintro (h | h); exact hqn h; rw [Int.toNat_natCast, hwu] at h; exact hls h)])
                  have hd8 : decide (we < wu) = false := decide_eq_false hls
                  clear hwu
                  go_upto_region 5 with (fail)
                  refine wp_region_held_drew (S := fun w' => (w'.cell? ⟨b, off + k * 2, none⟩ = some (.int .i64 we) ∧ w'.cell? ⟨b, off + k * 2 + 1, none⟩ = some (.slice A' 4 c')) ∧ w'.cell? ⟨w.heap.size, 0, none⟩ = some (.int .i64 x) ∧ w'.cell? ⟨w.heap.size, 1, none⟩ = some (.int .i64 y) ∧ w'.cell? ⟨w.heap.size, 2, none⟩ = some (.int .i64 z) ∧ w'.cell? ⟨b, off + u * 2, none⟩ = some (.int .i64 wu)) (by kernel_rfl) ?_ (fun hHeld => ?_)
                  · exact ⟨⟨d0, d1⟩, t0, t1, t2, e0⟩
                  refine tk 0 ?_
                  refine tk 1 ?_
                  refine tk 2 ?_
                  refine tk 3 ?_
                  refine rd1 4 (fun K hK => ?_)
                  go_simp
                  refine (blockNext_spec hrp.drew G2.out hnc hcm HBK.out).mono ?_; rw [hnx]; rintro e w5 ⟨rfl, b5⟩; have HB5 := Lib.hid (HB.out.drew.trans (b5.mono HG.out)); have d0' := (b5.cell (p := ⟨b, off + k * 2, none⟩) lb).trans d0; have d1' := (b5.cell (p := ⟨b, off + k * 2 + 1, none⟩) lb).trans d1; have t0' := (b5.cell (p := ⟨w.heap.size, 0, none⟩) lw).trans t0; have t1' := (b5.cell (p := ⟨w.heap.size, 1, none⟩) lw).trans t1; have t2' := (b5.cell (p := ⟨w.heap.size, 2, none⟩) lw).trans t2; have e0' := (b5.cell (p := ⟨b, off + u * 2, none⟩) lb).trans e0
                  go_wp2_with fail
                  refine hK.out _ _ ?_ (fun hHeld => ?_)
                  · exact ⟨⟨d0', d1'⟩, t0', t1', t2', e0'⟩
                  clear hK K
                  refine pt ?_
                  refine tk 5 ?_
                  refine tk 6 ?_
                  refine tk 7 ?_
                  refine tk 8 ?_
                  refine tk 9 ?_
                  refine tk 10 ?_
                  refine tk 11 ?_
                  refine tk 12 ?_
                  refine tk 13 ?_
                  refine tk 14 ?_
                  refine tk 15 ?_
                  refine tk 16 ?_
                  refine tk 17 ?_
                  refine tk 18 ?_
                  refine tk 19 ?_
                  refine tk 20 ?_
                  refine tk 21 ?_
                  refine tk 22 ?_
                  refine tk 23 ?_
                  refine tk 24 ?_
                  refine tk 25 ?_
                  refine tk 26 ?_
                  refine tk 27 ?_
                  refine tk 28 ?_
                  refine tk 29 ?_
                  refine tk 30 ?_
                  refine tk 31 ?_
                  refine tk 32 ?_
                  refine tk 33 ?_
                  refine tk 34 ?_
                  refine tk 35 ?_
                  refine tk 36 ?_
                  refine tk 37 ?_
                  refine tk 38 ?_
                  refine tk 39 ?_
                  refine tk 40 ?_
                  refine wpAnyH_done (by kernel_rfl) ?_ _
                  go_wp2
                  go_roundw
                  case rel => exact ⟨k + 1, by omega, by go_num, by rw [HF.out], HB5.out⟩
                  case measure => simp [intOf]; omega
      · have hq : (nx == 0) = false := by simp [h0]
        have HF := Lib.hid (show freshTo bs ⟨x, y, z⟩ (k + 1) = q from by rw [HF.out, hq]; simp)
        clear h0
        go_upto_region 5 with (fail)
        refine wp_region_held_drew (S := fun w' => (w'.cell? ⟨b, off + k * 2, none⟩ = some (.int .i64 we) ∧ w'.cell? ⟨b, off + k * 2 + 1, none⟩ = some (.slice A' 4 c')) ∧ w'.cell? ⟨w.heap.size, 0, none⟩ = some (.int .i64 x) ∧ w'.cell? ⟨w.heap.size, 1, none⟩ = some (.int .i64 y) ∧ w'.cell? ⟨w.heap.size, 2, none⟩ = some (.int .i64 z)) (by kernel_rfl) ?_ (fun hHeld => ?_)
        · exact ⟨⟨d0, d1⟩, t0, t1, t2⟩
        refine tk 0 ?_
        refine tk 1 ?_
        refine tk 2 ?_
        refine tk 3 ?_
        refine rd1 4 (fun K hK => ?_)
        go_simp
        refine (blockNext_spec hrp.drew G2.out hnc hcm HBK.out).mono ?_; rw [hnx]; rintro e w5 ⟨rfl, b5⟩; have HB5 := Lib.hid (HB.out.drew.trans (b5.mono HG.out)); have d0' := (b5.cell (p := ⟨b, off + k * 2, none⟩) lb).trans d0; have d1' := (b5.cell (p := ⟨b, off + k * 2 + 1, none⟩) lb).trans d1; have t0' := (b5.cell (p := ⟨w.heap.size, 0, none⟩) lw).trans t0; have t1' := (b5.cell (p := ⟨w.heap.size, 1, none⟩) lw).trans t1; have t2' := (b5.cell (p := ⟨w.heap.size, 2, none⟩) lw).trans t2
        go_wp2_with fail
        refine hK.out _ _ ?_ (fun hHeld => ?_)
        · exact ⟨⟨d0', d1'⟩, t0', t1', t2'⟩
        clear hK K
        refine pt ?_
        refine tk 5 ?_
        refine tk 6 ?_
        refine sk 7 ?_
        refine sk 8 ?_
        refine sk 9 ?_
        refine sk 10 ?_
        refine tk 11 ?_
        refine tk 12 ?_
        refine sk 13 ?_
        refine sk 14 ?_
        refine sk 15 ?_
        refine sk 16 ?_
        refine tk 17 ?_
        refine tk 18 ?_
        refine sk 19 ?_
        refine sk 20 ?_
        refine sk 21 ?_
        refine sk 22 ?_
        refine tk 23 ?_
        refine tk 24 ?_
        refine sk 25 ?_
        refine sk 26 ?_
        refine sk 27 ?_
        refine sk 28 ?_
        refine sk 29 ?_
        refine sk 30 ?_
        refine sk 31 ?_
        refine sk 32 ?_
        refine sk 33 ?_
        refine sk 34 ?_
        refine sk 35 ?_
        refine sk 36 ?_
        refine sk 37 ?_
        refine sk 38 ?_
        refine sk 39 ?_
        refine tk 40 ?_
        refine wpAnyH_done (by kernel_rfl) ?_ _
        go_wp2
        go_roundw
        case rel => exact ⟨k + 1, by omega, by go_num, by rw [HF.out], HB5.out⟩
        case measure => simp [intOf]; omega
    · obtain rfl : k = bs.length := by omega
      go_wp2
      go_ret
      exact ⟨rfl, B1.out.trans (HBL.out.mono hs0)⟩
end Go.Proofs.Ytjnpgdhpneifjaa
