/- The drawn disk. -/
import Derived.Test.YtjnpgdhpneifjaaG1
import Derived.Test.YtjnpgdhpneifjaaG5
import Derived.Test.YtjnpgdhpneifjaaG29
import Derived.Test.YtjnpgdhpneifjaaG16
namespace Go.Proofs.Ytjnpgdhpneifjaa
open Go.ChangeShapes Go.WideShapes Go.ChangeAt Go.RowKit Go.Deep
set_option linter.unusedVariables false
set_option linter.unusedSimpArgs false

theorem gb_typR {w w' : World} {B g p : Nat} (h : Rdr w B g p) (hg : w.grownBy w' (some g)) : ChgT [108] w w' := by
  obtain ⟨_, A, n, c, q, xs, _, hb, _⟩ := h
  refine ⟨hg.os, hg.tape, hg.output, hg.size, fun i hi hne => hg.block i hi (fun e => ?_)⟩
  injection e with e
  subst e
  exact hne _ _ _ hb (by simp)
theorem capN_of {w base A n c ns} (h : OwN w base A n c ns) {bA bn bc tA tn tc} : CapN ⟨bA, bn, bc, tA, tn, tc, A, n, c⟩ := ⟨h.cap.1, h.cap.2, h.capN⟩
theorem rdr_set1 {w : World} {B g g' p i : Nat} (h : Rdr w B g p) (h0 : g' ≠ g) (hB : B ≤ g') (u : Value) : Rdr (w.setCell ⟨g', i, none⟩ u) B g p :=
  Rdr.grown h (gb_setCell (World.grownBy.refl w (some g')) (.inl rfl) u) (fun k hk => by injection hk with hk; subst hk; exact ⟨hB, h0⟩)
theorem rdr_putDisk {w : World} {B g g' p : Nat} (h : Rdr w B g p) (h0 : g' ≠ g) (hB : B ≤ g') (hx : DH) (X : DiskV) : Rdr (putDisk w g' hx X) B g p :=
  rdr_set1 (rdr_set1 (rdr_set1 (rdr_set1 (rdr_set1 (rdr_set1 (rdr_set1 h h0 hB _) h0 hB _) h0 hB _) h0 hB _) h0 hB _) h0 hB _) h0 hB _
theorem gb_put1 {w0 w : World} {g g' i : Nat} (h : w0.grownBy w (some g)) (h1 : w0.heap.size ≤ g') (u : Value) : w0.grownBy (w.setCell ⟨g', i, none⟩ u) (some g) := gb_setCell h (.inr h1) u
theorem gb_putDisk {w0 w : World} {g g' : Nat} (h : w0.grownBy w (some g)) (h1 : w0.heap.size ≤ g') (hx : DH) (X : DiskV) : w0.grownBy (putDisk w g' hx X) (some g) :=
  gb_put1 (gb_put1 (gb_put1 (gb_put1 (gb_put1 (gb_put1 (gb_put1 h h1 _) h1 _) h1 _) h1 _) h1 _) h1 _) h1 _
/-- a drawn disk -/
def DrawDk (B g p : Nat) (w : World) (e : Ending) (w' : World) : Prop := ∃ (h : DH) (d : DiskV), e = .returned (dkv h d) ∧ OwD w' w.heap.size h d ∧ SmallDV d ∧ Rdr w' B g (p + 600) ∧ w.grownBy w' (some g)
set_option maxRecDepth 8000 in
set_option maxHeartbeats 8000000 in
theorem l20Disk_c {B g p : Nat} {n : Int} {w : World} (h : Rdr w B g p) (hp : p < 900000) (hn1 : 0 < n) (hn2 : n < 1000000) :
    Calls Try.prog 73 #[.pointer (some ⟨g, 0, none⟩), .int .i64 n] w (DrawDk B g p w) := by
  have hlt := h.lt
  have h1 := h.alloc (.cells #[.slice none 0 0, .slice none 0 0, .int .i64 0, .int .i64 0, .int .i64 0, .int .i64 0, .slice none 0 0] 42)
  have RZ1 := Blk.new w 42 #[.slice none 0 0, .slice none 0 0, .int .i64 0, .int .i64 0, .int .i64 0, .int .i64 0, .slice none 0 0]
  have G1 : w.grownBy (w.alloc (.cells #[.slice none 0 0, .slice none 0 0, .int .i64 0, .int .i64 0, .int .i64 0, .int .i64 0, .slice none 0 0] 42)) (some g) := gb_alloc (World.grownBy.refl _ _) _
  clear h
  go_enter Try.func73, Try.ntmps73
  go_wp2_with fail
  generalize w.alloc (.cells #[.slice none 0 0, .slice none 0 0, .int .i64 0, .int .i64 0, .int .i64 0, .int .i64 0, .slice none 0 0] 42) = w1 at *
  refine (pick_c h1 (by omega)).mono ?_
  rintro e w2 ⟨v2, rfl, hv2, hv2', h2, q2⟩
  have RZ2 := RZ1.grown q2 (by intro e; injection e with e; omega)
  have G2 := gb_trans G1 q2
  clear RZ1 G1 q2 h1
  obtain ⟨n2, rfl⟩ := Int.eq_ofNat_of_zero_le hv2
  have hw2 : IntKind.i64.wrap (2 + (n2 : Int)) = 2 + (n2 : Int) := IntWalk.i64_in _ (by omega)
  go_wp2_with fail
  refine (newDisk_spec _ _).mono ?_
  rintro e w3 ⟨h3, rfl, o3, b3⟩
  have hnd : newDiskF (2 + (n2 : Int)) = newDiskV (2 + n2) := by unfold newDiskF; rw [if_pos (by omega)]; congr 1
  rw [hnd] at o3 ⊢
  have HOK3 := Lib.hid (newDiskV_ok (n := 2 + n2) (by omega) (by omega))
  obtain ⟨d3, hd3⟩ : ∃ d, newDiskV (2 + n2) = d := ⟨_, rfl⟩
  rw [hd3] at o3 HOK3 ⊢
  clear hd3 hnd
  have RZ3 := RZ2.below b3 RZ2.lt
  have R3 := Rdr.grown h2 (gb_of_below b3 none) (fun _ h => by cases h)
  have O3 := o3.lower G2.size
  have G3 := gb_trans G2 (gb_of_below b3 (some g))
  clear RZ2 b3 h2 o3 G2
  go_upto_region 2 with (fail)
  have b4 : Below w3.heap.size w3 (w3.alloc (.cells #[.slice h3.bA h3.bn h3.bc, .slice h3.tA h3.tn h3.tc, .int .i64 d3.hot, .int .i64 d3.warm, .int .i64 d3.cold, .int .i64 d3.stamp, .slice h3.nA h3.nn h3.nc] 42)) := (Below.refl _ _).alloc (Nat.le_refl _) _
  have K4 := Blk.new w3 42 #[.slice h3.bA h3.bn h3.bc, .slice h3.tA h3.tn h3.tc, .int .i64 d3.hot, .int .i64 d3.warm, .int .i64 d3.cold, .int .i64 d3.stamp, .slice h3.nA h3.nn h3.nc]
  have RZ4 := RZ3.below b4 RZ3.lt
  have R4 := Rdr.grown R3 (gb_of_below b4 none) (fun _ h => by cases h)
  have O4 := O3.below b4
  have G4 := gb_trans G3 (gb_of_below b4 (some g))
  have hgd : w.heap.size ≤ w3.heap.size := G3.size
  have hgd2 : w.heap.size ≠ w3.heap.size := Nat.ne_of_lt RZ3.lt
  have hgd3 : w3.heap.size ≠ g := Nat.ne_of_gt R3.lt.2
  clear RZ3 b4 R3 O3 G3
  generalize w3.alloc (.cells #[.slice h3.bA h3.bn h3.bc, .slice h3.tA h3.tn h3.tc, .int .i64 d3.hot, .int .i64 d3.warm, .int .i64 d3.cold, .int .i64 d3.stamp, .slice h3.nA h3.nn h3.nc] 42) = w4 at *
  generalize w3.heap.size = gd at *
  go_wp2_with fail
  refine (pick_c R4 (by omega)).mono ?_
  rintro e w5 ⟨v5, rfl, hv5, hv5', R5, q5⟩
  have c5 := gb_typR R4 q5
  have K5 := Blk.typed K4 c5 (by decide)
  have O5 := O4.typed c5 (by decide) (by decide) (by decide) (by decide) (by decide)
  have RZ5 := Blk.typed RZ4 c5 (by decide)
  have G5 := gb_trans G4 q5
  clear c5 K4 O4 RZ4 G4 q5 R4
  obtain ⟨n5, rfl⟩ := Int.eq_ofNat_of_zero_le hv5
  go_upto_region 3 with (fail)
  go_loopw [6] (fun kk wr => ∃ (j q : Nat) (h : DH) (d : DiskV), kk = .int .i64 ((j : Int) - 1) ∧ j ≤ 3 ∧ q + 20 * j ≤ p + 100 ∧ Blk wr gd 42 #[.slice h.bA h.bn h.bc, .slice h.tA h.tn h.tc, .int .i64 d.hot, .int .i64 d.warm, .int .i64 d.cold, .int .i64 d.stamp, .slice h.nA h.nn h.nc] ∧ OwD wr w.heap.size h d ∧ DiskOk d ∧ Rdr wr B g q ∧ w.grownBy wr (some g) ∧ Blk wr w.heap.size 42 #[.slice none 0 0, .slice none 0 0, .int .i64 0, .int .i64 0, .int .i64 0, .int .i64 0, .slice none 0 0]) (fun kk _ => (intOf kk + 1).toNat)
  case atStart => exact ⟨n5 + 1, _, h3, d3, by congr 1; omega, by omega, by omega, K5, O5, HOK3.out, R5, G5, RZ5⟩
  case round =>
    obtain ⟨j, q, h, d, rfl, hj, hq, hK, hO, hOK, hR, hG, hZ⟩ := hrel
    have HK := Lib.hid hK
    have HO := Lib.hid hO
    have HOK := Lib.hid hOK
    have HR := Lib.hid hR
    have HG := Lib.hid hG
    have HZ := Lib.hid hZ
    clear hK hO hOK hR hG hZ
    by_cases hjz : 0 < j
    · have hj0 : (0 : Int) ≤ (j : Int) - 1 := by omega
      go_upto_region 5 with (fail)
      go_cut [7, 8] from 18 to 30 (fun v s wx => ∃ (gx : Nat) (hx : DH) (X : DiskV) (t : ByteArray), v = .pointer (some ⟨gx, 0, none⟩) ∧ s = .string t ∧ Blk wx gx 42 #[.slice hx.bA hx.bn hx.bc, .slice hx.tA hx.tn hx.tc, .int .i64 X.hot, .int .i64 X.warm, .int .i64 X.cold, .int .i64 X.stamp, .slice hx.nA hx.nn hx.nc] ∧ OwD wx w.heap.size hx X ∧ DiskOk X ∧ Blk wx gd 42 #[.slice h.bA h.bn h.bc, .slice h.tA h.tn h.tc, .int .i64 d.hot, .int .i64 d.warm, .int .i64 d.cold, .int .i64 d.stamp, .slice h.nA h.nn h.nc] ∧ Rdr wx B g (q + 20) ∧ wr.grownBy wx (some g))
      case first =>
        obtain ⟨s0, s1, s2, s3, s4, s5, s6⟩ := HK.out.all7
        refine wp_region_held_drew (S := fun w' => w'.cell? ⟨gd, 0, none⟩ = some (.slice h.bA h.bn h.bc) ∧ w'.cell? ⟨gd, 1, none⟩ = some (.slice h.tA h.tn h.tc) ∧ w'.cell? ⟨gd, 2, none⟩ = some (.int .i64 d.hot) ∧ w'.cell? ⟨gd, 3, none⟩ = some (.int .i64 d.warm) ∧ w'.cell? ⟨gd, 4, none⟩ = some (.int .i64 d.cold) ∧ w'.cell? ⟨gd, 5, none⟩ = some (.int .i64 d.stamp) ∧ w'.cell? ⟨gd, 6, none⟩ = some (.slice h.nA h.nn h.nc)) (by kernel_rfl) ?_ (fun hHeld => ?_)
        · exact ⟨s0, s1, s2, s3, s4, s5, s6⟩
        refine tk 0 ?_
        refine tk 1 ?_
        clear s0 s1 s2 s3 s4 s5 s6
        have K1 : Blk wr.drew gd 42 #[.slice h.bA h.bn h.bc, .slice h.tA h.tn h.tc, .int .i64 d.hot, .int .i64 d.warm, .int .i64 d.cold, .int .i64 d.stamp, .slice h.nA h.nn h.nc] := HK.out
        have O1 := HO.out.below ((Below.refl _ _).drew)
        have R1 := HR.out.drew
        have C1 : wr.grownBy wr.drew (some g) := gb_drew (World.grownBy.refl _ _)
        have hrs : w.heap.size ≤ wr.heap.size := HG.out.size
        generalize wr.drew = w1 at *
        refine rd2 2 8 (fun K hK => ?_) (fun K hK => ?_)
        · go_simp
          refine (l20Text_c R1 (by omega) (by omega) (by omega)).mono ?_
          rintro e w2 ⟨t, rfl, ht, R2, bx⟩
          have hcc : ¬ (9223372036854775807 < 5 + t.size) := by omega
          go_wp2_with fail
          have cx := gb_typR R1 bx
          have K2 := Blk.typed K1 cx (by decide)
          have O2 := O1.typed cx (by decide) (by decide) (by decide) (by decide) (by decide)
          have C2 := gb_trans C1 bx
          refine hK.out _ _ ?_ (fun hHeld => ?_)
          · exact K2.all7
          clear hK K
          refine pt ?_
          clear K1 O1 C1 R1 cx bx
          refine tk 3 ?_
          refine rd2 4 8 (fun K hK => ?_) (fun K hK => ?_)
          · go_simp
            refine (diskLine_spec (h := h) (d := d) O2.rd (Nat.le_refl _) (capN_of O2.n) (small_ok HOK.out) (Nat.le_trans (cat_le (m := 5) (n := 9) (by decide) ht) (by omega))).mono ?_
            rintro e w3 ⟨hx, rfl, OX, bx⟩
            go_wp2_with fail
            have K3 := K2.below bx K2.lt
            have O3 := O2.below bx
            have R3 := Rdr.grown R2 (gb_of_below bx none) (fun _ h => by cases h)
            have szx : w.heap.size ≤ w2.heap.size := Nat.le_trans HG.out.size C2.size
            have C3 := gb_trans C2 (gb_of_below bx (some g))
            have OX3 := OX.lower szx
            refine hK.out _ _ ?_ (fun hHeld => ?_)
            · exact K3.all7
            clear hK K
            refine pt ?_
            clear K2 O2 C2 R2 bx OX szx
            refine tk 5 ?_
            refine tk 6 ?_
            refine tk 7 ?_
            obtain ⟨X, hX⟩ : ∃ X, (lineF d (⟨#[109, 97, 107, 101, 32]⟩ ++ t)).d = X := ⟨_, rfl⟩
            have HX := Lib.hid hX
            rw [hX] at OX3 ⊢
            clear hX
            have bz : Below w3.heap.size w3 (w3.alloc (.cells #[.slice none 0 0, .slice none 0 0, .int .i64 0, .int .i64 0, .int .i64 0, .int .i64 0, .slice none 0 0] 42)) := (Below.refl _ _).alloc (Nat.le_refl _) _
            have bw : Below w3.heap.size w3 (w3.alloc (.cells #[.slice hx.bA hx.bn hx.bc, .slice hx.tA hx.tn hx.tc, .int .i64 X.hot, .int .i64 X.warm, .int .i64 X.cold, .int .i64 X.stamp, .slice hx.nA hx.nn hx.nc] 42)) := (Below.refl _ _).alloc (Nat.le_refl _) _
            have szx : w.heap.size ≤ w3.heap.size := Nat.le_trans HG.out.size C3.size
            refine rd1 8 (fun K hK => ?_)
            go_simp
            refine hK.out _ _ ?_ (fun hHeld => ?_)
            · exact (K3.below bz K3.lt).all7
            clear hK K
            refine pt ?_
            refine rd1 9 (fun K hK => ?_)
            go_simp
            refine hK.out _ _ ?_ (fun hHeld => ?_)
            · exact (K3.below bw K3.lt).all7
            clear hK K
            refine pt ?_
            refine tk 10 ?_
            refine wpAnyH_done (by kernel_rfl) ?_ _
            have ke := Blk.new w3 42 #[.slice hx.bA hx.bn hx.bc, .slice hx.tA hx.tn hx.tc, .int .i64 X.hot, .int .i64 X.warm, .int .i64 X.cold, .int .i64 X.stamp, .slice hx.nA hx.nn hx.nc]
            clear hHeld
            go_wp2_with fail
            go_meet
            exact ⟨_, hx, X, _, rfl, rfl, ke, OX3.below bw, by rw [← HX.out]; exact lineF_ok _ HOK.out, K3.below bw K3.lt, (Rdr.grown R3 (gb_of_below bw none) (fun _ h => by cases h)).mono (by omega), gb_trans C3 (gb_of_below bw (some g))⟩
          · go_simp
            have bx : Below w2.heap.size w2 (w2.alloc (.cells #[.slice none 0 0, .slice none 0 0, .int .i64 0, .int .i64 0, .int .i64 0, .int .i64 0, .slice none 0 0] 42)) := (Below.refl _ _).alloc (Nat.le_refl _) _
            have NB3 := Blk.new w2 42 #[.slice none 0 0, .slice none 0 0, .int .i64 0, .int .i64 0, .int .i64 0, .int .i64 0, .slice none 0 0]
            have K3 := K2.below bx K2.lt
            have O3 := O2.below bx
            have R3 := Rdr.grown R2 (gb_of_below bx none) (fun _ h => by cases h)
            have C3 := gb_trans C2 (gb_of_below bx (some g))
            have hgx : wr.heap.size ≤ w2.heap.size := C2.size
            have hgn : gd ≠ w2.heap.size := Nat.ne_of_lt K2.lt
            refine hK.out _ _ ?_ (fun hHeld => ?_)
            · exact K3.all7
            clear hK K
            refine pt ?_
            clear K2 O2 C2 R2 bx
            generalize w2.alloc (.cells #[.slice none 0 0, .slice none 0 0, .int .i64 0, .int .i64 0, .int .i64 0, .int .i64 0, .slice none 0 0] 42) = w3 at *
            generalize w2.heap.size = gx at *
            refine rd1 4 (fun K hK => ?_)
            go_simp
            refine (diskLine_spec (h := h) (d := d) O3.rd (Nat.le_refl _) (capN_of O3.n) (small_ok HOK.out) (Nat.le_trans (cat_le (m := 5) (n := 9) (by decide) ht) (by omega))).mono ?_
            rintro e w4 ⟨hx, rfl, OX, bx⟩
            go_wp2_with fail
            have K4 := K3.below bx K3.lt
            have O4 := O3.below bx
            have R4 := Rdr.grown R3 (gb_of_below bx none) (fun _ h => by cases h)
            have szx : w.heap.size ≤ w3.heap.size := Nat.le_trans HG.out.size C3.size
            have C4 := gb_trans C3 (gb_of_below bx (some g))
            have OX4 := OX.lower szx
            have NB4 := NB3.below bx NB3.lt
            refine hK.out _ _ ?_ (fun hHeld => ?_)
            · exact K4.all7
            clear hK K
            refine pt ?_
            clear K3 O3 C3 R3 bx OX szx NB3
            refine tk 5 ?_
            refine tk 6 ?_
            refine tk 7 ?_
            obtain ⟨X, hX⟩ : ∃ X, (lineF d (⟨#[109, 97, 107, 101, 32]⟩ ++ t)).d = X := ⟨_, rfl⟩
            have HX := Lib.hid hX
            rw [hX] at OX4 ⊢
            clear hX
            obtain ⟨y0, y1, y2, y3, y4, y5, y6⟩ := NB4.all7
            obtain ⟨z0, z1, z2, z3, z4, z5, z6⟩ := NB4.free7
            have ke := Lib.hid (blk_putDisk NB4 hx X).1
            have kk := Lib.hid (putDisk_far (g := gx) K4 hgn hx X)
            have ko := Lib.hid (OX4.put NB4 hx X)
            have kr := Lib.hid (rdr_putDisk R4 (g' := gx) (by have := R4.lt; omega) (by omega) hx X)
            have kc := Lib.hid (gb_putDisk C4 (g' := gx) hgx hx X)
            dsimp only [putDisk, BoxD] at ke kk ko kr kc
            refine rd1 9 (fun K hK => ?_)
            go_simp
            refine hK.out _ _ ?_ (fun hHeld => ?_)
            · exact kk.out.all7
            clear hK K
            refine pt ?_
            refine tk 10 ?_
            refine wpAnyH_done (by kernel_rfl) ?_ _
            clear hHeld y0 y1 y2 y3 y4 y5 y6 z0 z1 z2 z3 z4 z5 z6
            go_wp2_with fail
            go_meet
            exact ⟨_, hx, X, _, rfl, rfl, ke.out, ko.out, by rw [← HX.out]; exact lineF_ok _ HOK.out, kk.out, kr.out.mono (by omega), kc.out⟩
        · go_simp
          have bx : Below w1.heap.size w1 (w1.alloc (.cells #[.slice none 0 0, .slice none 0 0, .int .i64 0, .int .i64 0, .int .i64 0, .int .i64 0, .slice none 0 0] 42)) := (Below.refl _ _).alloc (Nat.le_refl _) _
          have NB2 := Blk.new w1 42 #[.slice none 0 0, .slice none 0 0, .int .i64 0, .int .i64 0, .int .i64 0, .int .i64 0, .slice none 0 0]
          have K2 := K1.below bx K1.lt
          have O2 := O1.below bx
          have R2 := Rdr.grown R1 (gb_of_below bx none) (fun _ h => by cases h)
          have C2 := gb_trans C1 (gb_of_below bx (some g))
          have hgx : wr.heap.size ≤ w1.heap.size := C1.size
          have hgn : gd ≠ w1.heap.size := Nat.ne_of_lt K1.lt
          refine hK.out _ _ ?_ (fun hHeld => ?_)
          · exact K2.all7
          clear hK K
          refine pt ?_
          clear K1 O1 C1 R1 bx
          generalize w1.alloc (.cells #[.slice none 0 0, .slice none 0 0, .int .i64 0, .int .i64 0, .int .i64 0, .int .i64 0, .slice none 0 0] 42) = w2 at *
          generalize w1.heap.size = gx at *
          refine rd1 2 (fun K hK => ?_)
          go_simp
          refine (l20Text_c R2 (by omega) (by omega) (by omega)).mono ?_
          rintro e w3 ⟨t, rfl, ht, R3, bx⟩
          have hcc : ¬ (9223372036854775807 < 5 + t.size) := by omega
          go_wp2_with fail
          have cx := gb_typR R2 bx
          have K3 := Blk.typed K2 cx (by decide)
          have O3 := O2.typed cx (by decide) (by decide) (by decide) (by decide) (by decide)
          have C3 := gb_trans C2 bx
          have NB3 := Blk.typed NB2 cx (by decide)
          refine hK.out _ _ ?_ (fun hHeld => ?_)
          · exact K3.all7
          clear hK K
          refine pt ?_
          clear K2 O2 C2 R2 cx bx NB2
          refine tk 3 ?_
          refine rd1 4 (fun K hK => ?_)
          go_simp
          refine (diskLine_spec (h := h) (d := d) O3.rd (Nat.le_refl _) (capN_of O3.n) (small_ok HOK.out) (Nat.le_trans (cat_le (m := 5) (n := 9) (by decide) ht) (by omega))).mono ?_
          rintro e w4 ⟨hx, rfl, OX, bx⟩
          go_wp2_with fail
          have K4 := K3.below bx K3.lt
          have O4 := O3.below bx
          have R4 := Rdr.grown R3 (gb_of_below bx none) (fun _ h => by cases h)
          have szx : w.heap.size ≤ w3.heap.size := Nat.le_trans HG.out.size C3.size
          have C4 := gb_trans C3 (gb_of_below bx (some g))
          have OX4 := OX.lower szx
          have NB4 := NB3.below bx NB3.lt
          refine hK.out _ _ ?_ (fun hHeld => ?_)
          · exact K4.all7
          clear hK K
          refine pt ?_
          clear K3 O3 C3 R3 bx OX szx NB3
          refine tk 5 ?_
          refine tk 6 ?_
          refine tk 7 ?_
          obtain ⟨X, hX⟩ : ∃ X, (lineF d (⟨#[109, 97, 107, 101, 32]⟩ ++ t)).d = X := ⟨_, rfl⟩
          have HX := Lib.hid hX
          rw [hX] at OX4 ⊢
          clear hX
          obtain ⟨y0, y1, y2, y3, y4, y5, y6⟩ := NB4.all7
          obtain ⟨z0, z1, z2, z3, z4, z5, z6⟩ := NB4.free7
          have ke := Lib.hid (blk_putDisk NB4 hx X).1
          have kk := Lib.hid (putDisk_far (g := gx) K4 hgn hx X)
          have ko := Lib.hid (OX4.put NB4 hx X)
          have kr := Lib.hid (rdr_putDisk R4 (g' := gx) (by have := R4.lt; omega) (by omega) hx X)
          have kc := Lib.hid (gb_putDisk C4 (g' := gx) hgx hx X)
          dsimp only [putDisk, BoxD] at ke kk ko kr kc
          refine rd1 9 (fun K hK => ?_)
          go_simp
          refine hK.out _ _ ?_ (fun hHeld => ?_)
          · exact kk.out.all7
          clear hK K
          refine pt ?_
          refine tk 10 ?_
          refine wpAnyH_done (by kernel_rfl) ?_ _
          clear hHeld y0 y1 y2 y3 y4 y5 y6 z0 z1 z2 z3 z4 z5 z6
          go_wp2_with fail
          go_meet
          exact ⟨_, hx, X, _, rfl, rfl, ke.out, ko.out, by rw [← HX.out]; exact lineF_ok _ HOK.out, kk.out, kr.out.mono (by omega), kc.out⟩
      case rest =>
        obtain ⟨gx, hx, X, t, rfl, rfl, KX, OX, hok, KD, RX, GX⟩ := hcut
        have hrs : w.heap.size ≤ wr.heap.size := HG.out.size
        have ZX := HZ.out.grown GX (by intro e; injection e with e; omega)
        obtain ⟨s0, s1, s2, s3, s4, s5, s6⟩ := KX.all7
        obtain ⟨y0, y1, y2, y3, y4, y5, y6⟩ := KD.all7
        obtain ⟨z0, z1, z2, z3, z4, z5, z6⟩ := KD.free7
        have ke := Lib.hid (blk_putDisk KD hx X).1
        have ko := Lib.hid (OX.put KD hx X)
        have kr := Lib.hid (rdr_putDisk RX (g' := gd) hgd3 (by omega) hx X)
        have kg := Lib.hid (gb_putDisk (gb_trans HG.out GX) (g' := gd) hgd hx X)
        have kz := Lib.hid (putDisk_far (g := gd) ZX hgd2 hx X)
        have HKX := Lib.hid hok
        clear KX OX KD RX GX hok ZX
        dsimp only [putDisk, BoxD] at ke ko kr kg kz
        go_upto_region 4 with (fail)
        generalize ((((((wc.setCell ⟨gd, 0, none⟩ (.slice hx.bA hx.bn hx.bc)).setCell ⟨gd, 1, none⟩ (.slice hx.tA hx.tn hx.tc)).setCell ⟨gd, 2, none⟩ (.int .i64 X.hot)).setCell ⟨gd, 3, none⟩ (.int .i64 X.warm)).setCell ⟨gd, 4, none⟩ (.int .i64 X.cold)).setCell ⟨gd, 5, none⟩ (.int .i64 X.stamp)).setCell ⟨gd, 6, none⟩ (.slice hx.nA hx.nn hx.nc) = wz at *
        clear s0 s1 s2 s3 s4 s5 s6 y0 y1 y2 y3 y4 y5 y6 z0 z1 z2 z3 z4 z5 z6
        go_wp2_with fail
        go_roundw
        case rel => exact ⟨j - 1, q + 20, hx, X, by congr 1; omega, by omega, by omega, ke.out, ko.out, HKX.out, kr.out, kg.out, kz.out⟩
        case measure => simp [intOf]; omega
    · obtain rfl : j = 0 := by omega
      go_upto_region 7 with (fail)
      go_wp2_with fail
      refine (pick_c HR.out (by omega)).mono ?_
      rintro e w6 ⟨v6, rfl, hv6, hv6', R6, q6⟩
      have c6 := gb_typR HR.out q6
      have K6 := Blk.typed HK.out c6 (by decide)
      have O6 := HO.out.typed c6 (by decide) (by decide) (by decide) (by decide) (by decide)
      have RZ6 := Blk.typed HZ.out c6 (by decide)
      have G6 := gb_trans HG.out q6
      clear c6 HK HO HZ HG HR q6
      obtain ⟨n6, rfl⟩ := Int.eq_ofNat_of_zero_le hv6
      go_upto_region 8 with (fail)
      have HOK6 := HOK
      go_loopw [9] (fun kk wr => ∃ (j q : Nat) (h : DH) (d : DiskV), kk = .int .i64 (j : Int) ∧ j ≤ 14 ∧ q + 20 * j ≤ p + 500 ∧ Blk wr gd 42 #[.slice h.bA h.bn h.bc, .slice h.tA h.tn h.tc, .int .i64 d.hot, .int .i64 d.warm, .int .i64 d.cold, .int .i64 d.stamp, .slice h.nA h.nn h.nc] ∧ OwD wr w.heap.size h d ∧ DiskOk d ∧ Rdr wr B g q ∧ w.grownBy wr (some g) ∧ Blk wr w.heap.size 42 #[.slice none 0 0, .slice none 0 0, .int .i64 0, .int .i64 0, .int .i64 0, .int .i64 0, .slice none 0 0]) (fun kk _ => (intOf kk).toNat)
      case atStart => exact ⟨n6, _, h, d, rfl, by omega, by omega, K6, O6, HOK.out, R6, G6, RZ6⟩
      case round =>
        clear K6 O6 R6 G6 RZ6 HOK6 HOK hj hq
        obtain ⟨j, q, h, d, rfl, hj, hq, hK, hO, hOK, hR, hG, hZ⟩ := hrel
        have HK := Lib.hid hK
        have HO := Lib.hid hO
        have HOK := Lib.hid hOK
        have HR := Lib.hid hR
        have HG := Lib.hid hG
        have HZ := Lib.hid hZ
        clear hK hO hOK hR hG hZ
        by_cases hjz : 0 < j
        · have hj0 : (0 : Int) < (j : Int) := by omega
          go_upto_region 10 with (fail)
          go_cut [10, 11] from 33 to 44 (fun v s wx => ∃ (gx : Nat) (hx : DH) (X : DiskV) (t : ByteArray), v = .pointer (some ⟨gx, 0, none⟩) ∧ s = .string t ∧ Blk wx gx 42 #[.slice hx.bA hx.bn hx.bc, .slice hx.tA hx.tn hx.tc, .int .i64 X.hot, .int .i64 X.warm, .int .i64 X.cold, .int .i64 X.stamp, .slice hx.nA hx.nn hx.nc] ∧ OwD wx w.heap.size hx X ∧ DiskOk X ∧ Blk wx gd 42 #[.slice h.bA h.bn h.bc, .slice h.tA h.tn h.tc, .int .i64 d.hot, .int .i64 d.warm, .int .i64 d.cold, .int .i64 d.stamp, .slice h.nA h.nn h.nc] ∧ Rdr wx B g (q + 20) ∧ wr.grownBy wx (some g))
          case first =>
            obtain ⟨s0, s1, s2, s3, s4, s5, s6⟩ := HK.out.all7
            refine wp_region_held_drew (S := fun w' => w'.cell? ⟨gd, 0, none⟩ = some (.slice h.bA h.bn h.bc) ∧ w'.cell? ⟨gd, 1, none⟩ = some (.slice h.tA h.tn h.tc) ∧ w'.cell? ⟨gd, 2, none⟩ = some (.int .i64 d.hot) ∧ w'.cell? ⟨gd, 3, none⟩ = some (.int .i64 d.warm) ∧ w'.cell? ⟨gd, 4, none⟩ = some (.int .i64 d.cold) ∧ w'.cell? ⟨gd, 5, none⟩ = some (.int .i64 d.stamp) ∧ w'.cell? ⟨gd, 6, none⟩ = some (.slice h.nA h.nn h.nc)) (by kernel_rfl) ?_ (fun hHeld => ?_)
            · exact ⟨s0, s1, s2, s3, s4, s5, s6⟩
            refine tk 0 ?_
            refine tk 1 ?_
            clear s0 s1 s2 s3 s4 s5 s6
            have K1 : Blk wr.drew gd 42 #[.slice h.bA h.bn h.bc, .slice h.tA h.tn h.tc, .int .i64 d.hot, .int .i64 d.warm, .int .i64 d.cold, .int .i64 d.stamp, .slice h.nA h.nn h.nc] := HK.out
            have O1 := HO.out.below ((Below.refl _ _).drew)
            have R1 := HR.out.drew
            have C1 : wr.grownBy wr.drew (some g) := gb_drew (World.grownBy.refl _ _)
            have hrs : w.heap.size ≤ wr.heap.size := HG.out.size
            generalize wr.drew = w1 at *
            refine rd2 2 7 (fun K hK => ?_) (fun K hK => ?_)
            · go_simp
              refine (l20Line_c R1 (by omega)).mono ?_
              rintro e w2 ⟨t, rfl, ht, R2, bx⟩
              have hcc : ¬ (9223372036854775807 < 5 + t.size) := by omega
              go_wp2_with fail
              have cx := gb_typR R1 bx
              have K2 := Blk.typed K1 cx (by decide)
              have O2 := O1.typed cx (by decide) (by decide) (by decide) (by decide) (by decide)
              have C2 := gb_trans C1 bx
              refine hK.out _ _ ?_ (fun hHeld => ?_)
              · exact K2.all7
              clear hK K
              refine pt ?_
              clear K1 O1 C1 R1 cx bx
              refine rd2 3 7 (fun K hK => ?_) (fun K hK => ?_)
              · go_simp
                refine (diskLine_spec (h := h) (d := d) O2.rd (Nat.le_refl _) (capN_of O2.n) (small_ok HOK.out) (by omega)).mono ?_
                rintro e w3 ⟨hx, rfl, OX, bx⟩
                go_wp2_with fail
                have K3 := K2.below bx K2.lt
                have O3 := O2.below bx
                have R3 := Rdr.grown R2 (gb_of_below bx none) (fun _ h => by cases h)
                have szx : w.heap.size ≤ w2.heap.size := Nat.le_trans HG.out.size C2.size
                have C3 := gb_trans C2 (gb_of_below bx (some g))
                have OX3 := OX.lower szx
                refine hK.out _ _ ?_ (fun hHeld => ?_)
                · exact K3.all7
                clear hK K
                refine pt ?_
                clear K2 O2 C2 R2 bx OX szx
                refine tk 4 ?_
                refine tk 5 ?_
                refine tk 6 ?_
                obtain ⟨X, hX⟩ : ∃ X, (lineF d t).d = X := ⟨_, rfl⟩
                have HX := Lib.hid hX
                rw [hX] at OX3 ⊢
                clear hX
                have bz : Below w3.heap.size w3 (w3.alloc (.cells #[.slice none 0 0, .slice none 0 0, .int .i64 0, .int .i64 0, .int .i64 0, .int .i64 0, .slice none 0 0] 42)) := (Below.refl _ _).alloc (Nat.le_refl _) _
                have bw : Below w3.heap.size w3 (w3.alloc (.cells #[.slice hx.bA hx.bn hx.bc, .slice hx.tA hx.tn hx.tc, .int .i64 X.hot, .int .i64 X.warm, .int .i64 X.cold, .int .i64 X.stamp, .slice hx.nA hx.nn hx.nc] 42)) := (Below.refl _ _).alloc (Nat.le_refl _) _
                have szx : w.heap.size ≤ w3.heap.size := Nat.le_trans HG.out.size C3.size
                refine rd1 7 (fun K hK => ?_)
                go_simp
                refine hK.out _ _ ?_ (fun hHeld => ?_)
                · exact (K3.below bz K3.lt).all7
                clear hK K
                refine pt ?_
                refine rd1 8 (fun K hK => ?_)
                go_simp
                refine hK.out _ _ ?_ (fun hHeld => ?_)
                · exact (K3.below bw K3.lt).all7
                clear hK K
                refine pt ?_
                refine tk 9 ?_
                refine wpAnyH_done (by kernel_rfl) ?_ _
                have ke := Blk.new w3 42 #[.slice hx.bA hx.bn hx.bc, .slice hx.tA hx.tn hx.tc, .int .i64 X.hot, .int .i64 X.warm, .int .i64 X.cold, .int .i64 X.stamp, .slice hx.nA hx.nn hx.nc]
                clear hHeld
                go_wp2_with fail
                go_meet
                exact ⟨_, hx, X, _, rfl, rfl, ke, OX3.below bw, by rw [← HX.out]; exact lineF_ok _ HOK.out, K3.below bw K3.lt, (Rdr.grown R3 (gb_of_below bw none) (fun _ h => by cases h)).mono (by omega), gb_trans C3 (gb_of_below bw (some g))⟩
              · go_simp
                have bx : Below w2.heap.size w2 (w2.alloc (.cells #[.slice none 0 0, .slice none 0 0, .int .i64 0, .int .i64 0, .int .i64 0, .int .i64 0, .slice none 0 0] 42)) := (Below.refl _ _).alloc (Nat.le_refl _) _
                have NB3 := Blk.new w2 42 #[.slice none 0 0, .slice none 0 0, .int .i64 0, .int .i64 0, .int .i64 0, .int .i64 0, .slice none 0 0]
                have K3 := K2.below bx K2.lt
                have O3 := O2.below bx
                have R3 := Rdr.grown R2 (gb_of_below bx none) (fun _ h => by cases h)
                have C3 := gb_trans C2 (gb_of_below bx (some g))
                have hgx : wr.heap.size ≤ w2.heap.size := C2.size
                have hgn : gd ≠ w2.heap.size := Nat.ne_of_lt K2.lt
                refine hK.out _ _ ?_ (fun hHeld => ?_)
                · exact K3.all7
                clear hK K
                refine pt ?_
                clear K2 O2 C2 R2 bx
                generalize w2.alloc (.cells #[.slice none 0 0, .slice none 0 0, .int .i64 0, .int .i64 0, .int .i64 0, .int .i64 0, .slice none 0 0] 42) = w3 at *
                generalize w2.heap.size = gx at *
                refine rd1 3 (fun K hK => ?_)
                go_simp
                refine (diskLine_spec (h := h) (d := d) O3.rd (Nat.le_refl _) (capN_of O3.n) (small_ok HOK.out) (by omega)).mono ?_
                rintro e w4 ⟨hx, rfl, OX, bx⟩
                go_wp2_with fail
                have K4 := K3.below bx K3.lt
                have O4 := O3.below bx
                have R4 := Rdr.grown R3 (gb_of_below bx none) (fun _ h => by cases h)
                have szx : w.heap.size ≤ w3.heap.size := Nat.le_trans HG.out.size C3.size
                have C4 := gb_trans C3 (gb_of_below bx (some g))
                have OX4 := OX.lower szx
                have NB4 := NB3.below bx NB3.lt
                refine hK.out _ _ ?_ (fun hHeld => ?_)
                · exact K4.all7
                clear hK K
                refine pt ?_
                clear K3 O3 C3 R3 bx OX szx NB3
                refine tk 4 ?_
                refine tk 5 ?_
                refine tk 6 ?_
                obtain ⟨X, hX⟩ : ∃ X, (lineF d t).d = X := ⟨_, rfl⟩
                have HX := Lib.hid hX
                rw [hX] at OX4 ⊢
                clear hX
                obtain ⟨y0, y1, y2, y3, y4, y5, y6⟩ := NB4.all7
                obtain ⟨z0, z1, z2, z3, z4, z5, z6⟩ := NB4.free7
                have ke := Lib.hid (blk_putDisk NB4 hx X).1
                have kk := Lib.hid (putDisk_far (g := gx) K4 hgn hx X)
                have ko := Lib.hid (OX4.put NB4 hx X)
                have kr := Lib.hid (rdr_putDisk R4 (g' := gx) (by have := R4.lt; omega) (by omega) hx X)
                have kc := Lib.hid (gb_putDisk C4 (g' := gx) hgx hx X)
                dsimp only [putDisk, BoxD] at ke kk ko kr kc
                refine rd1 8 (fun K hK => ?_)
                go_simp
                refine hK.out _ _ ?_ (fun hHeld => ?_)
                · exact kk.out.all7
                clear hK K
                refine pt ?_
                refine tk 9 ?_
                refine wpAnyH_done (by kernel_rfl) ?_ _
                clear hHeld y0 y1 y2 y3 y4 y5 y6 z0 z1 z2 z3 z4 z5 z6
                go_wp2_with fail
                go_meet
                exact ⟨_, hx, X, _, rfl, rfl, ke.out, ko.out, by rw [← HX.out]; exact lineF_ok _ HOK.out, kk.out, kr.out.mono (by omega), kc.out⟩
            · go_simp
              have bx : Below w1.heap.size w1 (w1.alloc (.cells #[.slice none 0 0, .slice none 0 0, .int .i64 0, .int .i64 0, .int .i64 0, .int .i64 0, .slice none 0 0] 42)) := (Below.refl _ _).alloc (Nat.le_refl _) _
              have NB2 := Blk.new w1 42 #[.slice none 0 0, .slice none 0 0, .int .i64 0, .int .i64 0, .int .i64 0, .int .i64 0, .slice none 0 0]
              have K2 := K1.below bx K1.lt
              have O2 := O1.below bx
              have R2 := Rdr.grown R1 (gb_of_below bx none) (fun _ h => by cases h)
              have C2 := gb_trans C1 (gb_of_below bx (some g))
              have hgx : wr.heap.size ≤ w1.heap.size := C1.size
              have hgn : gd ≠ w1.heap.size := Nat.ne_of_lt K1.lt
              refine hK.out _ _ ?_ (fun hHeld => ?_)
              · exact K2.all7
              clear hK K
              refine pt ?_
              clear K1 O1 C1 R1 bx
              generalize w1.alloc (.cells #[.slice none 0 0, .slice none 0 0, .int .i64 0, .int .i64 0, .int .i64 0, .int .i64 0, .slice none 0 0] 42) = w2 at *
              generalize w1.heap.size = gx at *
              refine rd1 2 (fun K hK => ?_)
              go_simp
              refine (l20Line_c R2 (by omega)).mono ?_
              rintro e w3 ⟨t, rfl, ht, R3, bx⟩
              have hcc : ¬ (9223372036854775807 < 5 + t.size) := by omega
              go_wp2_with fail
              have cx := gb_typR R2 bx
              have K3 := Blk.typed K2 cx (by decide)
              have O3 := O2.typed cx (by decide) (by decide) (by decide) (by decide) (by decide)
              have C3 := gb_trans C2 bx
              have NB3 := Blk.typed NB2 cx (by decide)
              refine hK.out _ _ ?_ (fun hHeld => ?_)
              · exact K3.all7
              clear hK K
              refine pt ?_
              clear K2 O2 C2 R2 cx bx NB2
              refine rd1 3 (fun K hK => ?_)
              go_simp
              refine (diskLine_spec (h := h) (d := d) O3.rd (Nat.le_refl _) (capN_of O3.n) (small_ok HOK.out) (by omega)).mono ?_
              rintro e w4 ⟨hx, rfl, OX, bx⟩
              go_wp2_with fail
              have K4 := K3.below bx K3.lt
              have O4 := O3.below bx
              have R4 := Rdr.grown R3 (gb_of_below bx none) (fun _ h => by cases h)
              have szx : w.heap.size ≤ w3.heap.size := Nat.le_trans HG.out.size C3.size
              have C4 := gb_trans C3 (gb_of_below bx (some g))
              have OX4 := OX.lower szx
              have NB4 := NB3.below bx NB3.lt
              refine hK.out _ _ ?_ (fun hHeld => ?_)
              · exact K4.all7
              clear hK K
              refine pt ?_
              clear K3 O3 C3 R3 bx OX szx NB3
              refine tk 4 ?_
              refine tk 5 ?_
              refine tk 6 ?_
              obtain ⟨X, hX⟩ : ∃ X, (lineF d t).d = X := ⟨_, rfl⟩
              have HX := Lib.hid hX
              rw [hX] at OX4 ⊢
              clear hX
              obtain ⟨y0, y1, y2, y3, y4, y5, y6⟩ := NB4.all7
              obtain ⟨z0, z1, z2, z3, z4, z5, z6⟩ := NB4.free7
              have ke := Lib.hid (blk_putDisk NB4 hx X).1
              have kk := Lib.hid (putDisk_far (g := gx) K4 hgn hx X)
              have ko := Lib.hid (OX4.put NB4 hx X)
              have kr := Lib.hid (rdr_putDisk R4 (g' := gx) (by have := R4.lt; omega) (by omega) hx X)
              have kc := Lib.hid (gb_putDisk C4 (g' := gx) hgx hx X)
              dsimp only [putDisk, BoxD] at ke kk ko kr kc
              refine rd1 8 (fun K hK => ?_)
              go_simp
              refine hK.out _ _ ?_ (fun hHeld => ?_)
              · exact kk.out.all7
              clear hK K
              refine pt ?_
              refine tk 9 ?_
              refine wpAnyH_done (by kernel_rfl) ?_ _
              clear hHeld y0 y1 y2 y3 y4 y5 y6 z0 z1 z2 z3 z4 z5 z6
              go_wp2_with fail
              go_meet
              exact ⟨_, hx, X, _, rfl, rfl, ke.out, ko.out, by rw [← HX.out]; exact lineF_ok _ HOK.out, kk.out, kr.out.mono (by omega), kc.out⟩
          case rest =>
            obtain ⟨gx, hx, X, t, rfl, rfl, KX, OX, hok, KD, RX, GX⟩ := hcut
            have hrs : w.heap.size ≤ wr.heap.size := HG.out.size
            have ZX := HZ.out.grown GX (by intro e; injection e with e; omega)
            obtain ⟨s0, s1, s2, s3, s4, s5, s6⟩ := KX.all7
            obtain ⟨y0, y1, y2, y3, y4, y5, y6⟩ := KD.all7
            obtain ⟨z0, z1, z2, z3, z4, z5, z6⟩ := KD.free7
            have ke := Lib.hid (blk_putDisk KD hx X).1
            have ko := Lib.hid (OX.put KD hx X)
            have kr := Lib.hid (rdr_putDisk RX (g' := gd) hgd3 (by omega) hx X)
            have kg := Lib.hid (gb_putDisk (gb_trans HG.out GX) (g' := gd) hgd hx X)
            have kz := Lib.hid (putDisk_far (g := gd) ZX hgd2 hx X)
            have HKX := Lib.hid hok
            clear KX OX KD RX GX hok ZX
            dsimp only [putDisk, BoxD] at ke ko kr kg kz
            go_upto_region 9 with (fail)
            generalize ((((((wc.setCell ⟨gd, 0, none⟩ (.slice hx.bA hx.bn hx.bc)).setCell ⟨gd, 1, none⟩ (.slice hx.tA hx.tn hx.tc)).setCell ⟨gd, 2, none⟩ (.int .i64 X.hot)).setCell ⟨gd, 3, none⟩ (.int .i64 X.warm)).setCell ⟨gd, 4, none⟩ (.int .i64 X.cold)).setCell ⟨gd, 5, none⟩ (.int .i64 X.stamp)).setCell ⟨gd, 6, none⟩ (.slice hx.nA hx.nn hx.nc) = wz at *
            clear s0 s1 s2 s3 s4 s5 s6 y0 y1 y2 y3 y4 y5 y6 z0 z1 z2 z3 z4 z5 z6
            go_wp2_with fail
            go_roundw
            case rel => exact ⟨j - 1, q + 20, hx, X, by go_num, by omega, by omega, ke.out, ko.out, HKX.out, kr.out, kg.out, kz.out⟩
            case measure => simp [intOf]; omega
        · obtain rfl : j = 0 := by omega
          obtain ⟨bA, bn, bc, tA, tn, tc, nA, nn, nc⟩ := h
          obtain ⟨bs, ts, hot, warm, cold, stamp, ns⟩ := d
          go_upto_region 12 with (fail)
          go_wp2_with fail
          refine (odd_c HR.out (by omega) hn1 hn2).mono ?_
          rintro e w8 ⟨b, rfl, R8, q8⟩
          have c8 := gb_typR HR.out q8
          have K8 := Blk.typed (show Blk wr gd 42 #[.slice bA bn bc, .slice tA tn tc, .int .i64 hot, .int .i64 warm, .int .i64 cold, .int .i64 stamp, .slice nA nn nc] from HK.out) c8 (by decide)
          have O8 := HO.out.typed c8 (by decide) (by decide) (by decide) (by decide) (by decide)
          have Z8 := Blk.typed HZ.out c8 (by decide)
          have G8 := gb_trans HG.out q8
          have SM := small_ok HOK.out
          clear c8 HK HO HZ HG HR q8
          cases b
          · obtain ⟨s0, s1, s2, s3, s4, s5, s6⟩ := K8.all7
            obtain ⟨y0, y1, y2, y3, y4, y5, y6⟩ := Z8.all7
            obtain ⟨z0, z1, z2, z3, z4, z5, z6⟩ := Z8.free7
            have KP := Lib.hid (blk_putDisk Z8 ⟨bA, bn, bc, tA, tn, tc, nA, nn, nc⟩ ⟨bs, ts, hot, warm, cold, stamp, ns⟩).1
            have HO := Lib.hid (show DrawDk B g p w (.returned (dkv ⟨bA, bn, bc, tA, tn, tc, nA, nn, nc⟩ ⟨bs, ts, hot, warm, cold, stamp, ns⟩)) (putDisk w8 w.heap.size ⟨bA, bn, bc, tA, tn, tc, nA, nn, nc⟩ ⟨bs, ts, hot, warm, cold, stamp, ns⟩) from ⟨_, _, rfl, (O8).put Z8 _ _, SM, (rdr_putDisk R8 (by omega) (by omega) _ _).mono (by omega), gb_putDisk G8 (Nat.le_refl _) _ _⟩)
            dsimp only [putDisk, BoxD] at KP HO
            go_upto_region 21 with (fail)
            repeat (first | go_values | go_skip | go_guarded | go_step | go_upon)
            generalize ((((((w8.setCell ⟨w.heap.size, 0, none⟩ (.slice bA bn bc)).setCell ⟨w.heap.size, 1, none⟩ (.slice tA tn tc)).setCell ⟨w.heap.size, 2, none⟩ (.int .i64 hot)).setCell ⟨w.heap.size, 3, none⟩ (.int .i64 warm)).setCell ⟨w.heap.size, 4, none⟩ (.int .i64 cold)).setCell ⟨w.heap.size, 5, none⟩ (.int .i64 stamp)).setCell ⟨w.heap.size, 6, none⟩ (.slice nA nn nc) = wz at *
            obtain ⟨e0, e1, e2, e3, e4, e5, e6⟩ := KP.out.all7
            refine bodyPost_ret (by simp [results, Try.results73, go_sem, e0, e1, e2, e3, e4, e5, e6]; try rfl) rfl ?_
            exact HO.out
          · go_wp2_with fail
            refine (pick_c R8 (by omega)).mono ?_
            rintro e w9 ⟨v9, rfl, hv9, hv9', R9, q9⟩
            have c9 := gb_typR R8 q9
            have K9 := Blk.typed K8 c9 (by decide)
            have O9 := O8.typed c9 (by decide) (by decide) (by decide) (by decide) (by decide)
            have Z9 := Blk.typed Z8 c9 (by decide)
            have G9 := gb_trans G8 q9
            clear c9 K8 O8 Z8 G8 q9 R8
            have hk : v9 = 0 ∨ v9 = 1 ∨ v9 = 2 ∨ v9 = 3 := by omega
            clear hv9 hv9'
            rcases hk with rfl | rfl | rfl | rfl
            · have bx : Below w9.heap.size w9 (w9.alloc (.cells #[] 67)) := (Below.refl _ _).alloc (Nat.le_refl _) _
              have szx := G9.size
              have OB : OwB (w9.alloc (.cells #[] 67)) w.heap.size (some ⟨w9.heap.size, 0, none⟩) 0 0 [] := ⟨[], rfl, rfl, fun _ h => absurd h (Nat.not_lt_zero _), World.ownsRow_lit w9 #[] 0 szx (by decide) rfl, fun _ h => absurd h (Nat.not_lt_zero _), fun _ _ h => absurd h (Nat.not_lt_zero _)⟩
              have Ka := K9.below bx K9.lt
              have Oa := O9.below bx
              have Za := Z9.below bx Z9.lt
              have Ra := Rdr.grown R9 (gb_of_below bx none) (fun _ h => by cases h)
              have Ga := gb_trans G9 (gb_of_below bx (some g))
              have i0 := Ka.cell 0
              simp at i0
              have f0 := Ka.frozen 0
              clear K9 O9 Z9 R9 G9
              go_upto_region 21 with (fail)
              generalize w9.alloc (.cells #[] 67) = wa at *
              generalize w9.heap.size = ga at *
              have Kn := Ka.set_ 0 (.slice (some ⟨ga, 0, none⟩) 0 0)
              simp at Kn
              have Zn := Za.far (p := ⟨gd, 0, none⟩) hgd2 (.slice (some ⟨ga, 0, none⟩) 0 0)
              have Rn := rdr_set1 Ra (g' := gd) (i := 0) hgd3 (by omega) (.slice (some ⟨ga, 0, none⟩) 0 0)
              have Gn := gb_put1 Ga (g' := gd) (i := 0) hgd (.slice (some ⟨ga, 0, none⟩) 0 0)
              have cn := ChgT.blk Ka 0 (.slice (some ⟨ga, 0, none⟩) 0 0)
              have On := Oa.typed cn (by decide) (by decide) (by decide) (by decide) (by decide)
              have OBn := OB.typed cn (by decide) (by decide)
              generalize wa.setCell ⟨gd, 0, none⟩ (.slice (some ⟨ga, 0, none⟩) 0 0) = wn at *
              clear i0 f0 Ka Oa Za Ra Ga OB cn
              obtain ⟨s0, s1, s2, s3, s4, s5, s6⟩ := Kn.all7
              obtain ⟨y0, y1, y2, y3, y4, y5, y6⟩ := Zn.all7
              obtain ⟨z0, z1, z2, z3, z4, z5, z6⟩ := Zn.free7
              have KP := Lib.hid (blk_putDisk Zn ⟨(some ⟨ga, 0, none⟩), 0, 0, tA, tn, tc, nA, nn, nc⟩ ⟨[], ts, hot, warm, cold, stamp, ns⟩).1
              have HO := Lib.hid (show DrawDk B g p w (.returned (dkv ⟨(some ⟨ga, 0, none⟩), 0, 0, tA, tn, tc, nA, nn, nc⟩ ⟨[], ts, hot, warm, cold, stamp, ns⟩)) (putDisk wn w.heap.size ⟨(some ⟨ga, 0, none⟩), 0, 0, tA, tn, tc, nA, nn, nc⟩ ⟨[], ts, hot, warm, cold, stamp, ns⟩) from ⟨_, _, rfl, ((show OwD wn w.heap.size ⟨(some ⟨ga, 0, none⟩), 0, 0, tA, tn, tc, nA, nn, nc⟩ ⟨[], ts, hot, warm, cold, stamp, ns⟩ from ⟨OBn, On.t, On.n⟩)).put Zn _ _, ⟨by simp, SM.t, SM.n, fun i hi => by simp at hi, SM.ts, SM.ns⟩, (rdr_putDisk Rn (by omega) (by omega) _ _).mono (by omega), gb_putDisk Gn (Nat.le_refl _) _ _⟩)
              dsimp only [putDisk, BoxD] at KP HO
              go_upto_region 21 with (fail)
              repeat (first | go_values | go_skip | go_guarded | go_step | go_upon)
              generalize ((((((wn.setCell ⟨w.heap.size, 0, none⟩ (.slice (some ⟨ga, 0, none⟩) 0 0)).setCell ⟨w.heap.size, 1, none⟩ (.slice tA tn tc)).setCell ⟨w.heap.size, 2, none⟩ (.int .i64 hot)).setCell ⟨w.heap.size, 3, none⟩ (.int .i64 warm)).setCell ⟨w.heap.size, 4, none⟩ (.int .i64 cold)).setCell ⟨w.heap.size, 5, none⟩ (.int .i64 stamp)).setCell ⟨w.heap.size, 6, none⟩ (.slice nA nn nc) = wz at *
              obtain ⟨e0, e1, e2, e3, e4, e5, e6⟩ := KP.out.all7
              refine bodyPost_ret (by simp [results, Try.results73, go_sem, e0, e1, e2, e3, e4, e5, e6]; try rfl) rfl ?_
              exact HO.out
            · go_wp2_with fail
              refine (pick_c (R9.alloc _) (by omega)).mono ?_
              rintro e w10 ⟨v10, rfl, hv10, hv10', R10, q10⟩
              have bx : Below w9.heap.size w9 (w9.alloc (.cells #[.int .i64 (-1), .int .i64 1001] 3)) := (Below.refl _ _).alloc (Nat.le_refl _) _
              have k10 : Blk w10 w9.heap.size 3 _ := (Blk.new w9 3 #[.int .i64 (-1), .int .i64 1001]).grown q10 (by intro e; injection e with e; have := R9.lt; omega)
              have c10 := gb_typR (R9.alloc _) q10
              have Ka := Blk.typed (K9.below bx K9.lt) c10 (by decide)
              have Oa := (O9.below bx).typed c10 (by decide) (by decide) (by decide) (by decide) (by decide)
              have Za := Blk.typed (Z9.below bx Z9.lt) c10 (by decide)
              have Ga := gb_trans (gb_trans G9 (gb_of_below bx (some g))) q10
              obtain ⟨x, hx1, hx2, hcx⟩ := tab_at [-1, 1001] k10 (-1) 1001 (by decide) hv10 (by simp; omega)
              have hv11 : v10 < 2 := by omega
              have i5 := Ka.cell 5
              simp at i5
              have f5 := Ka.frozen 5
              clear K9 O9 Z9 R9 G9 q10 c10 k10 bx
              go_upto_region 21 with (fail)
              have Kn := Ka.set_ 5 (.int .i64 x)
              simp at Kn
              have Zn := Za.far (p := ⟨gd, 5, none⟩) hgd2 (.int .i64 x)
              have Rn := rdr_set1 R10 (g' := gd) (i := 5) hgd3 (by omega) (.int .i64 x)
              have Gn := gb_put1 Ga (g' := gd) (i := 5) hgd (.int .i64 x)
              have cn := ChgT.blk Ka 5 (.int .i64 x)
              have On := Oa.typed cn (by decide) (by decide) (by decide) (by decide) (by decide)
              generalize w10.setCell ⟨gd, 5, none⟩ (.int .i64 x) = wn at *
              clear i5 f5 hcx Ka Oa Za R10 Ga cn
              obtain ⟨s0, s1, s2, s3, s4, s5, s6⟩ := Kn.all7
              obtain ⟨y0, y1, y2, y3, y4, y5, y6⟩ := Zn.all7
              obtain ⟨z0, z1, z2, z3, z4, z5, z6⟩ := Zn.free7
              have KP := Lib.hid (blk_putDisk Zn ⟨bA, bn, bc, tA, tn, tc, nA, nn, nc⟩ ⟨bs, ts, hot, warm, cold, x, ns⟩).1
              have HO := Lib.hid (show DrawDk B g p w (.returned (dkv ⟨bA, bn, bc, tA, tn, tc, nA, nn, nc⟩ ⟨bs, ts, hot, warm, cold, x, ns⟩)) (putDisk wn w.heap.size ⟨bA, bn, bc, tA, tn, tc, nA, nn, nc⟩ ⟨bs, ts, hot, warm, cold, x, ns⟩) from ⟨_, _, rfl, ((show OwD wn w.heap.size ⟨bA, bn, bc, tA, tn, tc, nA, nn, nc⟩ ⟨bs, ts, hot, warm, cold, x, ns⟩ from ⟨On.b, On.t, On.n⟩)).put Zn _ _, ⟨SM.b, SM.t, SM.n, SM.bs, SM.ts, SM.ns⟩, (rdr_putDisk Rn (by omega) (by omega) _ _).mono (by omega), gb_putDisk Gn (Nat.le_refl _) _ _⟩)
              dsimp only [putDisk, BoxD] at KP HO
              go_upto_region 21 with (fail)
              repeat (first | go_values | go_skip | go_guarded | go_step | go_upon)
              generalize ((((((wn.setCell ⟨w.heap.size, 0, none⟩ (.slice bA bn bc)).setCell ⟨w.heap.size, 1, none⟩ (.slice tA tn tc)).setCell ⟨w.heap.size, 2, none⟩ (.int .i64 hot)).setCell ⟨w.heap.size, 3, none⟩ (.int .i64 warm)).setCell ⟨w.heap.size, 4, none⟩ (.int .i64 cold)).setCell ⟨w.heap.size, 5, none⟩ (.int .i64 x)).setCell ⟨w.heap.size, 6, none⟩ (.slice nA nn nc) = wz at *
              obtain ⟨e0, e1, e2, e3, e4, e5, e6⟩ := KP.out.all7
              refine bodyPost_ret (by simp [results, Try.results73, go_sem, e0, e1, e2, e3, e4, e5, e6]; try rfl) rfl ?_
              exact HO.out
            · have HT8 := HOK.out.2.1
              obtain rfl : tn = 8 := by have e1 : ts.length = tn := O9.t.len; have e2 : ts.length = 8 := HT8.1; omega
              obtain ⟨gt, e, hgt1, hgt2⟩ := O9.t.form (by show 0 < 8; omega)
              change tA = _ at e
              subst e
              have i1 := K9.cell 1
              simp at i1
              have OT := O9.t
              obtain ⟨A', n', c', d0, z0, hnc, hcm, hnl, hrow⟩ := OwT.cells OT 7 (show (7 : Nat) < 8 by omega)
              have hn6 : n' = 6 := by rw [hnl]; exact HT8.2.1 7 (by omega)
              obtain ⟨gr, cap, e, hg1, hg2⟩ := hrow.form (by omega)
              injection e with e _ _
              subst e
              subst hn6
              have d1 := own_cellI hrow 5 (by rw [← hnl]; omega)
              have z1 := hrow.frozenAt (g := gr) (cap := c') 5
              have hstd := hrow.stored (g := gr) (cap := c') 5 (.int .i64 0)
              rw [← List.map_set] at hstd
              have E9 := OwT.turn OT (show (7 : Nat) < 8 by omega) d0 hstd.2 hstd.1 hnl
              have hch := OwT.chg OT (show (7 : Nat) < 8 by omega) d0 hstd.2 G9.size
              have Kn := Blk.typed K9 hch.1 (by decide)
              have Zn := Blk.typed Z9 hch.1 (by decide)
              have Bn := O9.b.typed hch.1 (by decide) (by decide)
              have Nn := O9.n.typed hch.1 (by decide)
              have hne : gr ≠ g := by have := hlt.2; have : w.heap.size ≤ gr := hg1; omega
              have Rn := rdr_set1 R9 (g' := gr) (i := 5) hne (by have : w.heap.size ≤ gr := hg1; omega) (.int .i64 0)
              have Gn := gb_put1 G9 (g' := gr) (i := 5) hg1 (.int .i64 0)
              have hsh := shapeT_set (shapeT_of HT8) (f := 7) (k := 5) (v := 0) (by omega)
              have HE := Lib.hid (show OwT (w9.setCell ⟨gr, 5, none⟩ (.int .i64 0)) w.heap.size (some ⟨gt, 0, none⟩) 8 tc (setE ts 7 5 0) from E9)
              clear hstd hrow hnl hch E9 OT hnc hcm O9 K9 Z9 R9 G9 HT8
              go_upto_region 21 with (fail)
              generalize w9.setCell ⟨gr, 5, none⟩ (.int .i64 0) = wn at *
              clear i1 d0 d1 z0 z1
              obtain ⟨s0, s1, s2, s3, s4, s5, s6⟩ := Kn.all7
              obtain ⟨y0, y1, y2, y3, y4, y5, y6⟩ := Zn.all7
              obtain ⟨z0, z1, z2, z3, z4, z5, z6⟩ := Zn.free7
              have KP := Lib.hid (blk_putDisk Zn ⟨bA, bn, bc, (some ⟨gt, 0, none⟩), 8, tc, nA, nn, nc⟩ ⟨bs, setE ts 7 5 0, hot, warm, cold, stamp, ns⟩).1
              have HO := Lib.hid (show DrawDk B g p w (.returned (dkv ⟨bA, bn, bc, (some ⟨gt, 0, none⟩), 8, tc, nA, nn, nc⟩ ⟨bs, setE ts 7 5 0, hot, warm, cold, stamp, ns⟩)) (putDisk wn w.heap.size ⟨bA, bn, bc, (some ⟨gt, 0, none⟩), 8, tc, nA, nn, nc⟩ ⟨bs, setE ts 7 5 0, hot, warm, cold, stamp, ns⟩) from ⟨_, _, rfl, ((show OwD wn w.heap.size ⟨bA, bn, bc, (some ⟨gt, 0, none⟩), 8, tc, nA, nn, nc⟩ ⟨bs, setE ts 7 5 0, hot, warm, cold, stamp, ns⟩ from ⟨Bn, HE.out, Nn⟩)).put Zn _ _, small_shape HOK.out.1.1 hsh SM.n (fun i hi => Int.ofNat_le.1 (SM.ns i hi)), (rdr_putDisk Rn (by omega) (by omega) _ _).mono (by omega), gb_putDisk Gn (Nat.le_refl _) _ _⟩)
              dsimp only [putDisk, BoxD] at KP HO
              go_upto_region 21 with (fail)
              repeat (first | go_values | go_skip | go_guarded | go_step | go_upon)
              generalize ((((((wn.setCell ⟨w.heap.size, 0, none⟩ (.slice bA bn bc)).setCell ⟨w.heap.size, 1, none⟩ (.slice (some ⟨gt, 0, none⟩) 8 tc)).setCell ⟨w.heap.size, 2, none⟩ (.int .i64 hot)).setCell ⟨w.heap.size, 3, none⟩ (.int .i64 warm)).setCell ⟨w.heap.size, 4, none⟩ (.int .i64 cold)).setCell ⟨w.heap.size, 5, none⟩ (.int .i64 stamp)).setCell ⟨w.heap.size, 6, none⟩ (.slice nA nn nc) = wz at *
              obtain ⟨e0, e1, e2, e3, e4, e5, e6⟩ := KP.out.all7
              refine bodyPost_ret (by simp [results, Try.results73, go_sem, e0, e1, e2, e3, e4, e5, e6]; try rfl) rfl ?_
              exact HO.out
            · have bx : Below w9.heap.size w9 (w9.alloc (.cells #[.string ByteArray.empty, .int .i64 0] 90)) := (Below.refl _ _).alloc (Nat.le_refl _) _
              have hn9 : ns.length ≤ 9 := names_nine HOK.out.2.2.2.2.1
              have hnl : ns.length = nn := O9.n.len
              have hno := O9.n
              simp only at hno
              have Ka := K9.below bx K9.lt
              have Oa := O9.below bx
              have Za := Z9.below bx Z9.lt
              have Ra := Rdr.grown R9 (gb_of_below bx none) (fun _ h => by cases h)
              have Ga := gb_trans G9 (gb_of_below bx (some g))
              have hrn := rdN_one (Blk.new w9 90 #[.string ByteArray.empty, .int .i64 0])
              have szw := Ga.size
              have hon : OwN (w9.alloc (.cells #[.string ByteArray.empty, .int .i64 0] 90)) w.heap.size nA nn nc ns := Oa.n
              have i6 := K9.cell 6
              simp at i6
              go_upto_region 21 with (at_builtin; refine wpList_appNs (ns := ns) (qs := [(ByteArray.empty, 0)]) (A := some ⟨w9.heap.size, 0, none⟩) (m := 1) (c := 1) rfl rfl rfl hon rfl (fun h => by cases h) hrn (by omega) szw ?_; rintro A' c' wf onf grf; have cf : ChgT [90] _ wf := ChgT.grown hon (by simp) grf; have Kf := Blk.typed Ka cf (by decide); have Zf := Blk.typed Za cf (by decide); have Bf := Oa.b.typed cf (by decide) (by decide); have Tf := Oa.t.typed cf (by decide) (by decide); have Rf := Rdr.grown Ra grf (fun k hk => by have := (own_lt hon hk).1; omega); have Gf := gb_step Ga grf (fun k hk => (own_lt hon hk).1); have j6 := Kf.cell 6; have f6 := Kf.frozen 6; clear i6 Ka Oa Za Ra Ga hrn hon grf cf bx hno K9 O9 Z9 R9 G9; simp at j6)
              have Kn := Kf.set_ 6 (.slice A' (nn + 1) c')
              simp at Kn
              have Zn := Zf.far (p := ⟨gd, 6, none⟩) hgd2 (.slice A' (nn + 1) c')
              have Rn := rdr_set1 Rf (g' := gd) (i := 6) hgd3 (by omega) (.slice A' (nn + 1) c')
              have Gn := gb_put1 Gf (g' := gd) (i := 6) hgd (.slice A' (nn + 1) c')
              have cn := ChgT.blk Kf 6 (.slice A' (nn + 1) c')
              have Bn := Bf.typed cn (by decide) (by decide)
              have Tn := Tf.typed cn (by decide) (by decide)
              have Nn := onf.typed cn (by decide)
              generalize wf.setCell ⟨gd, 6, none⟩ (.slice A' (nn + 1) c') = wn at *
              clear j6 f6 Kf Zf Bf Tf Rf Gf onf cn
              have hsz : ∀ i, i < (ns ++ [(ByteArray.empty, (0 : Int))]).length → (nTxt (ns ++ [(ByteArray.empty, 0)]) i).size ≤ 1048576 := fun i hi => by
                have h8 : ∀ i, i < ns.length → (nTxt ns i).size ≤ 8 := names_txt HOK.out.2.2.2.2.1
                simp only [List.length_append, List.length_singleton] at hi
                unfold nTxt at h8 ⊢
                rw [List.getD_eq_getElem?_getD, List.getElem?_append]
                by_cases e : i < ns.length
                · rw [if_pos e, ← List.getD_eq_getElem?_getD]; have := h8 i e; omega
                · rw [if_neg e, show i - ns.length = 0 by omega]; exact Nat.zero_le _
              obtain ⟨s0, s1, s2, s3, s4, s5, s6⟩ := Kn.all7
              obtain ⟨y0, y1, y2, y3, y4, y5, y6⟩ := Zn.all7
              obtain ⟨z0, z1, z2, z3, z4, z5, z6⟩ := Zn.free7
              have KP := Lib.hid (blk_putDisk Zn ⟨bA, bn, bc, tA, tn, tc, A', (nn + 1), c'⟩ ⟨bs, ts, hot, warm, cold, stamp, ns ++ [(ByteArray.empty, 0)]⟩).1
              have HO := Lib.hid (show DrawDk B g p w (.returned (dkv ⟨bA, bn, bc, tA, tn, tc, A', (nn + 1), c'⟩ ⟨bs, ts, hot, warm, cold, stamp, ns ++ [(ByteArray.empty, 0)]⟩)) (putDisk wn w.heap.size ⟨bA, bn, bc, tA, tn, tc, A', (nn + 1), c'⟩ ⟨bs, ts, hot, warm, cold, stamp, ns ++ [(ByteArray.empty, 0)]⟩) from ⟨_, _, rfl, ((show OwD wn w.heap.size ⟨bA, bn, bc, tA, tn, tc, A', (nn + 1), c'⟩ ⟨bs, ts, hot, warm, cold, stamp, ns ++ [(ByteArray.empty, 0)]⟩ from ⟨Bn, Tn, Nn⟩)).put Zn _ _, small_shape HOK.out.1.1 (shapeT_of HOK.out.2.1) (by simp; omega) hsz, (rdr_putDisk Rn (by omega) (by omega) _ _).mono (by omega), gb_putDisk Gn (Nat.le_refl _) _ _⟩)
              dsimp only [putDisk, BoxD] at KP HO
              go_upto_region 21 with (fail)
              repeat (first | go_values | go_skip | go_guarded | go_step | go_upon)
              generalize ((((((wn.setCell ⟨w.heap.size, 0, none⟩ (.slice bA bn bc)).setCell ⟨w.heap.size, 1, none⟩ (.slice tA tn tc)).setCell ⟨w.heap.size, 2, none⟩ (.int .i64 hot)).setCell ⟨w.heap.size, 3, none⟩ (.int .i64 warm)).setCell ⟨w.heap.size, 4, none⟩ (.int .i64 cold)).setCell ⟨w.heap.size, 5, none⟩ (.int .i64 stamp)).setCell ⟨w.heap.size, 6, none⟩ (.slice A' (nn + 1) c') = wz at *
              obtain ⟨e0, e1, e2, e3, e4, e5, e6⟩ := KP.out.all7
              refine bodyPost_ret (by simp [results, Try.results73, go_sem, e0, e1, e2, e3, e4, e5, e6]; try rfl) rfl ?_
              exact HO.out
end Go.Proofs.Ytjnpgdhpneifjaa
