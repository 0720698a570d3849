/- Parts of the proof, one after the other; each says what it proves. -/
import Derived.Test.YtjnpgdhpneifjaaG23
import Derived.Test.YtjnpgdhpneifjaaG3
import Derived.Test.YtjnpgdhpneifjaaG18
import Derived.Test.YtjnpgdhpneifjaaG8
import Derived.Test.YtjnpgdhpneifjaaG11
import Derived.Test.YtjnpgdhpneifjaaG1
import Derived.Test.YtjnpgdhpneifjaaG21
import Derived.Test.YtjnpgdhpneifjaaG5
import Derived.Test.YtjnpgdhpneifjaaG19
/- Copies of disks by the reference, at a valid disk. -/
namespace Go.Proofs.Ytjnpgdhpneifjaa
open Go.ChangeShapes Go.WideShapes Go.ChangeAt Go.RowKit Go.Deep
set_option linter.unusedVariables false
set_option linter.unusedSimpArgs false

theorem putDisk_far {w : World} {g g' t : Nat} {cs : Array Value} (k : Blk w g' t cs) (hne : g' ≠ g) (h : DH) (d : DiskV) : Blk (putDisk w g h d) g' t cs :=
  ((((((k.far (p := ⟨g, 0, none⟩) hne _).far (p := ⟨g, 1, none⟩) hne _).far (p := ⟨g, 2, none⟩) hne _).far (p := ⟨g, 3, none⟩) hne _).far (p := ⟨g, 4, none⟩) hne _).far (p := ⟨g, 5, none⟩) hne _).far (p := ⟨g, 6, none⟩) hne _
set_option maxRecDepth 8000 in
set_option maxHeartbeats 8000000 in
theorem l34Copy_c {h : DH} {d : DiskV} {B : Nat} {w : World} (hr : RdD w B h d) (hB : B ≤ w.heap.size) (hdv : DevOk d.bs) (htk : TableOk d.ts) (hnn : h.nn ≤ 1048576) (hnil : h.nA = none → h.nc = 0) :
    Calls Try.prog 129 #[dkv h d] w (OwnD w d) := by
  obtain ⟨bA, bn, bc, tA, tn, tc, nA, nn, nc⟩ := h
  obtain ⟨bs, ts, hot, warm, cold, stamp, ns⟩ := d
  obtain ⟨rb, rt, rn⟩ := hr
  simp only at rb rt rn hnil hnn hdv htk
  have hbl := rb.len
  have hm12 : bn ≤ 12 := by rw [← hbl]; exact hdv.1.2
  obtain rfl : tn = 8 := by rw [← rt.len, htk.1]
  have HP4 := Lib.hid (show ∀ i, i < bn → 0 < (bs.getD i noBlock).pages.length ∧ (bs.getD i noBlock).pages.length ≤ 1048576 from fun i hi => by have := (hdv.2 i (by omega)).2.1; omega)
  have HRW := Lib.hid (show ∀ i, i < 8 → 0 < (ts.getD i []).length ∧ (ts.getD i []).length ≤ 1048576 from fun i hi => by rw [htk.2.1 i (by omega)]; omega)
  have HRB := Lib.hid (rb.mono hB)
  have HRT := Lib.hid (rt.mono hB)
  have HRN := Lib.hid (rn.mono hB)
  have HNIL := Lib.hid hnil
  clear rb rt rn hnil hdv htk hbl
  have b2 : Below w.heap.size w ((w.alloc (.cells #[.slice bA bn bc, .slice tA 8 tc, .int .i64 hot, .int .i64 warm, .int .i64 cold, .int .i64 stamp, .slice nA nn nc] 42)).alloc (.cells #[.slice none 0 0, .slice none 0 0, .int .i64 0, .int .i64 0, .int .i64 0, .int .i64 0, .slice none 0 0] 42)) := ((Below.refl _ _).alloc (Nat.le_refl _) _).alloc (by simp) _
  have K2 := (Blk.new w 42 #[.slice bA bn bc, .slice tA 8 tc, .int .i64 hot, .int .i64 warm, .int .i64 cold, .int .i64 stamp, .slice nA nn nc]).alloc (.cells #[.slice none 0 0, .slice none 0 0, .int .i64 0, .int .i64 0, .int .i64 0, .int .i64 0, .slice none 0 0] 42)
  have R2 := Blk.new (w.alloc (.cells #[.slice bA bn bc, .slice tA 8 tc, .int .i64 hot, .int .i64 warm, .int .i64 cold, .int .i64 stamp, .slice nA nn nc] 42)) 42 #[.slice none 0 0, .slice none 0 0, .int .i64 0, .int .i64 0, .int .i64 0, .int .i64 0, .slice none 0 0]
  rw [show (w.alloc (.cells #[.slice bA bn bc, .slice tA 8 tc, .int .i64 hot, .int .i64 warm, .int .i64 cold, .int .i64 stamp, .slice nA nn nc] 42)).heap.size = w.heap.size + 1 by simp] at R2
  go_enter Try.func129, Try.ntmps129
  go_upto_region 1 with (fail)
  generalize (w.alloc (.cells #[.slice bA bn bc, .slice tA 8 tc, .int .i64 hot, .int .i64 warm, .int .i64 cold, .int .i64 stamp, .slice nA nn nc] 42)).alloc (.cells #[.slice none 0 0, .slice none 0 0, .int .i64 0, .int .i64 0, .int .i64 0, .int .i64 0, .slice none 0 0] 42) = w2 at *
  obtain ⟨t0, t1, t2, t3, t4, t5, t6⟩ := K2.all7
  refine wp_region_held_drew (S := fun w' => w'.cell? ⟨w.heap.size, 0, none⟩ = some (.slice bA bn bc) ∧ w'.cell? ⟨w.heap.size, 1, none⟩ = some (.slice tA 8 tc) ∧ w'.cell? ⟨w.heap.size, 2, none⟩ = some (.int .i64 hot) ∧ w'.cell? ⟨w.heap.size, 3, none⟩ = some (.int .i64 warm) ∧ w'.cell? ⟨w.heap.size, 4, none⟩ = some (.int .i64 cold) ∧ w'.cell? ⟨w.heap.size, 5, none⟩ = some (.int .i64 stamp) ∧ w'.cell? ⟨w.heap.size, 6, none⟩ = some (.slice nA nn nc)) (by kernel_rfl) ?_ (fun hHeld => ?_)
  · exact ⟨t0, t1, t2, t3, t4, t5, t6⟩
  refine tk 0 ?_
  refine tk 1 ?_
  refine tk 3 ?_
  refine tk 4 ?_
  refine tk 6 ?_
  refine tk 7 ?_
  refine tk 8 ?_
  refine tk 9 ?_
  refine tk 11 ?_
  refine tk 12 ?_
  have K3 : Blk w2.drew w.heap.size 42 _ := K2
  have R3 : Blk w2.drew (w.heap.size + 1) 42 _ := R2
  have B3 := b2.drew
  clear K2 R2 b2 t0 t1 t2 t3 t4 t5 t6
  generalize w2.drew = w3 at *
  refine rd2 2 10 (fun K hK => ?_) (fun K hK => ?_)
  · go_simp
    refine (l5Copy_c (HRB.out.below B3) B3.size (by omega) HP4.out).mono ?_
    rintro e w11 ⟨A5, c5, rfl, o5, b5⟩
    have sz := B3.size
    have K11 := K3.below b5 K3.lt
    have R11 := R3.below b5 R3.lt
    have B11 := B3.trans (b5.mono sz)
    have D11 := o5.lower (base' := w.heap.size) B3.size
    clear o5 b5 B3 K3 R3
    go_wp2_with fail
    refine hK.out _ _ ?_ (fun hHeld => ?_)
    · exact K11.all7
    clear hK K
    refine pt ?_
    refine rd2 5 10 (fun K hK => ?_) (fun K hK => ?_)
    · go_simp
      refine (l7Copy_c (HRT.out.below B11) B11.size (by omega) HRW.out).mono ?_
      rintro e w12 ⟨A7, c7, rfl, o7, b7⟩
      have sz := B11.size
      have K12 := K11.below b7 K11.lt
      have R12 := R11.below b7 R11.lt
      have D12 := D11.below b7
      have B12 := B11.trans (b7.mono sz)
      have E12 := o7.lower (base' := w.heap.size) B11.size
      clear o7 b7 B11 K11 R11 D11
      go_wp2_with fail
      refine hK.out _ _ ?_ (fun hHeld => ?_)
      · exact K12.all7
      clear hK K
      refine pt ?_
      refine rd1 10 (fun K hK => ?_)
      go_simp
      have bb : Below w12.heap.size w12 (w12.alloc (.cells #[] 90)) := (Below.refl _ _).alloc (Nat.le_refl _) _
      have sz := B12.size
      have K13 := K12.below bb K12.lt
      have R13 := R12.below bb R12.lt
      have D13 := D12.below bb
      have E13 := E12.below bb
      have B13 := B12.trans (bb.mono sz)
      have N13 : OwN (w12.alloc (.cells #[] 90)) w.heap.size (some ⟨w12.heap.size, 0, none⟩) 0 0 [] := World.ownsRow_lit w12 #[] 0 sz (by decide) rfl
      have rl := R12.lt
      clear bb B12 K12 R12 D12 E12
      generalize w12.alloc (.cells #[] 90) = w13 at *
      generalize hg0 : w12.heap.size = g0 at *
      clear hg0
      refine hK.out _ _ ?_ (fun hHeld => ?_)
      · exact K13.all7
      clear hK K
      refine pt ?_
      refine rd1 13 (fun K hK => ?_)
      refine step_appNs (ns := []) (qs := ns) (by rfl) (.tmp 13) (.tmp 15) (by rfl) (by rfl) N13 (by rfl) HNIL.out (HRN.out.below B13) (by omega) B13.size ?_
      intro A8 c8 w60 O60 gr
      simp only [Nat.zero_add, List.nil_append] at O60 ⊢
      have tc := ChgT.grown N13 (ts := [90]) (by simp) gr
      have K60 := K13.typed tc (by decide)
      have R60 := R13.typed tc (by decide)
      have D60 := D13.typed tc (by decide) (by decide)
      have E60 := E13.typed tc (by decide) (by decide)
      have B60 := below_app B13 N13 B13.size gr
      clear K13 R13 D13 E13 B13 N13 gr tc
      refine hK.out _ _ ?_ (fun hHeld => ?_)
      · exact K60.all7
      clear hK K
      refine pt ?_
      refine tk 14 ?_
      have OD : OwD w60 w.heap.size ⟨A5, bs.length, c5, A7, ts.length, c7, A8, nn, c8⟩ ⟨bs, ts, hot, warm, cold, stamp, ns⟩ := ⟨D60, E60, O60⟩
      have OP := Lib.hid (OD.put R60 ⟨A5, bs.length, c5, A7, ts.length, c7, A8, nn, c8⟩ ⟨bs, ts, hot, warm, cold, stamp, ns⟩)
      have KP := (blk_putDisk R60 ⟨A5, bs.length, c5, A7, ts.length, c7, A8, nn, c8⟩ ⟨bs, ts, hot, warm, cold, stamp, ns⟩)
      have BP := Lib.hid (below_putDisk B60 (show w.heap.size ≤ w.heap.size + 1 by omega) ⟨A5, bs.length, c5, A7, ts.length, c7, A8, nn, c8⟩ ⟨bs, ts, hot, warm, cold, stamp, ns⟩)
      have K61 := putDisk_far (g := w.heap.size + 1) K60 (by omega) (⟨A5, bs.length, c5, A7, ts.length, c7, A8, nn, c8⟩ : DH) ⟨bs, ts, hot, warm, cold, stamp, ns⟩
      obtain ⟨y0, y1, y2, y3, y4, y5, y6⟩ := R60.all7
      obtain ⟨z0, z1, z2, z3, z4, z5, z6⟩ := R60.free7
      have K1 := KP.1
      clear OD KP D60 E60 O60 B60 K60
      dsimp only [putDisk, BoxD] at OP K1 BP K61
      have HK1 := Lib.hid K1
      have HK61 := Lib.hid K61
      clear K1 K61
      clear R60
      refine rd1 15 (fun K hK => ?_)
      go_simp
      refine hK.out _ _ ?_ (fun hHeld => ?_)
      · exact HK61.out.all7
      clear hK K
      refine pt ?_
      refine wpAnyH_done (by kernel_rfl) ?_ _
      clear hHeld y0 y1 y2 y3 y4 y5 y6 z0 z1 z2 z3 z4 z5 z6 HK61
      generalize ((((((w60.setCell ⟨w.heap.size + 1, 0, none⟩ (.slice A5 bs.length c5)).setCell ⟨w.heap.size + 1, 1, none⟩ (.slice A7 ts.length c7)).setCell ⟨w.heap.size + 1, 2, none⟩ (.int .i64 hot)).setCell ⟨w.heap.size + 1, 3, none⟩ (.int .i64 warm)).setCell ⟨w.heap.size + 1, 4, none⟩ (.int .i64 cold)).setCell ⟨w.heap.size + 1, 5, none⟩ (.int .i64 stamp)).setCell ⟨w.heap.size + 1, 6, none⟩ (.slice A8 nn c8) = wz at *
      obtain ⟨e0, e1, e2, e3, e4, e5, e6⟩ := HK1.out.all7
      go_wp2
      refine bodyPost_ret (by simp [results, Try.results129, go_sem, e0, e1, e2, e3, e4, e5, e6]; try rfl) rfl ?_
      exact ⟨⟨A5, bs.length, c5, A7, ts.length, c7, A8, nn, c8⟩, rfl, OP.out, BP.out⟩
    · go_simp
      have bb : Below w11.heap.size w11 (w11.alloc (.cells #[] 90)) := (Below.refl _ _).alloc (Nat.le_refl _) _
      have sz := B11.size
      have K14 := K11.below bb K11.lt
      have R14 := R11.below bb R11.lt
      have D14 := D11.below bb
      have B14 := B11.trans (bb.mono sz)
      have N14 : OwN (w11.alloc (.cells #[] 90)) w.heap.size (some ⟨w11.heap.size, 0, none⟩) 0 0 [] := World.ownsRow_lit w11 #[] 0 sz (by decide) rfl
      have rl := R11.lt
      clear bb B11 K11 R11 D11
      generalize w11.alloc (.cells #[] 90) = w14 at *
      generalize hg0 : w11.heap.size = g0 at *
      clear hg0
      refine hK.out _ _ ?_ (fun hHeld => ?_)
      · exact K14.all7
      clear hK K
      refine pt ?_
      refine rd1 5 (fun K hK => ?_)
      go_simp
      refine (l7Copy_c (HRT.out.below B14) B14.size (by omega) HRW.out).mono ?_
      rintro e w15 ⟨A7, c7, rfl, o7, b7⟩
      have sz := B14.size
      have K15 := K14.below b7 K14.lt
      have R15 := R14.below b7 R14.lt
      have D15 := D14.below b7
      have N15 := N14.below b7
      have B15 := B14.trans (b7.mono sz)
      have E15 := o7.lower (base' := w.heap.size) B14.size
      clear o7 b7 B14 K14 R14 D14 N14
      go_wp2_with fail
      refine hK.out _ _ ?_ (fun hHeld => ?_)
      · exact K15.all7
      clear hK K
      refine pt ?_
      refine rd1 13 (fun K hK => ?_)
      refine step_appNs (ns := []) (qs := ns) (by rfl) (.tmp 13) (.tmp 15) (by rfl) (by rfl) N15 (by rfl) HNIL.out (HRN.out.below B15) (by omega) B15.size ?_
      intro A8 c8 w60 O60 gr
      simp only [Nat.zero_add, List.nil_append] at O60 ⊢
      have tc := ChgT.grown N15 (ts := [90]) (by simp) gr
      have K60 := K15.typed tc (by decide)
      have R60 := R15.typed tc (by decide)
      have D60 := D15.typed tc (by decide) (by decide)
      have E60 := E15.typed tc (by decide) (by decide)
      have B60 := below_app B15 N15 B15.size gr
      clear K15 R15 D15 E15 B15 N15 gr tc
      refine hK.out _ _ ?_ (fun hHeld => ?_)
      · exact K60.all7
      clear hK K
      refine pt ?_
      refine tk 14 ?_
      have OD : OwD w60 w.heap.size ⟨A5, bs.length, c5, A7, ts.length, c7, A8, nn, c8⟩ ⟨bs, ts, hot, warm, cold, stamp, ns⟩ := ⟨D60, E60, O60⟩
      have OP := Lib.hid (OD.put R60 ⟨A5, bs.length, c5, A7, ts.length, c7, A8, nn, c8⟩ ⟨bs, ts, hot, warm, cold, stamp, ns⟩)
      have KP := (blk_putDisk R60 ⟨A5, bs.length, c5, A7, ts.length, c7, A8, nn, c8⟩ ⟨bs, ts, hot, warm, cold, stamp, ns⟩)
      have BP := Lib.hid (below_putDisk B60 (show w.heap.size ≤ w.heap.size + 1 by omega) ⟨A5, bs.length, c5, A7, ts.length, c7, A8, nn, c8⟩ ⟨bs, ts, hot, warm, cold, stamp, ns⟩)
      have K61 := putDisk_far (g := w.heap.size + 1) K60 (by omega) (⟨A5, bs.length, c5, A7, ts.length, c7, A8, nn, c8⟩ : DH) ⟨bs, ts, hot, warm, cold, stamp, ns⟩
      obtain ⟨y0, y1, y2, y3, y4, y5, y6⟩ := R60.all7
      obtain ⟨z0, z1, z2, z3, z4, z5, z6⟩ := R60.free7
      have K1 := KP.1
      clear OD KP D60 E60 O60 B60 K60
      dsimp only [putDisk, BoxD] at OP K1 BP K61
      have HK1 := Lib.hid K1
      have HK61 := Lib.hid K61
      clear K1 K61
      clear R60
      refine rd1 15 (fun K hK => ?_)
      go_simp
      refine hK.out _ _ ?_ (fun hHeld => ?_)
      · exact HK61.out.all7
      clear hK K
      refine pt ?_
      refine wpAnyH_done (by kernel_rfl) ?_ _
      clear hHeld y0 y1 y2 y3 y4 y5 y6 z0 z1 z2 z3 z4 z5 z6 HK61
      generalize ((((((w60.setCell ⟨w.heap.size + 1, 0, none⟩ (.slice A5 bs.length c5)).setCell ⟨w.heap.size + 1, 1, none⟩ (.slice A7 ts.length c7)).setCell ⟨w.heap.size + 1, 2, none⟩ (.int .i64 hot)).setCell ⟨w.heap.size + 1, 3, none⟩ (.int .i64 warm)).setCell ⟨w.heap.size + 1, 4, none⟩ (.int .i64 cold)).setCell ⟨w.heap.size + 1, 5, none⟩ (.int .i64 stamp)).setCell ⟨w.heap.size + 1, 6, none⟩ (.slice A8 nn c8) = wz at *
      obtain ⟨e0, e1, e2, e3, e4, e5, e6⟩ := HK1.out.all7
      go_wp2
      refine bodyPost_ret (by simp [results, Try.results129, go_sem, e0, e1, e2, e3, e4, e5, e6]; try rfl) rfl ?_
      exact ⟨⟨A5, bs.length, c5, A7, ts.length, c7, A8, nn, c8⟩, rfl, OP.out, BP.out⟩
  · go_simp
    have bb : Below w3.heap.size w3 (w3.alloc (.cells #[] 90)) := (Below.refl _ _).alloc (Nat.le_refl _) _
    have sz := B3.size
    have K16 := K3.below bb K3.lt
    have R16 := R3.below bb R3.lt
    have B16 := B3.trans (bb.mono sz)
    have N16 : OwN (w3.alloc (.cells #[] 90)) w.heap.size (some ⟨w3.heap.size, 0, none⟩) 0 0 [] := World.ownsRow_lit w3 #[] 0 sz (by decide) rfl
    have rl := R3.lt
    clear bb B3 K3 R3
    generalize w3.alloc (.cells #[] 90) = w16 at *
    generalize hg0 : w3.heap.size = g0 at *
    clear hg0
    refine hK.out _ _ ?_ (fun hHeld => ?_)
    · exact K16.all7
    clear hK K
    refine pt ?_
    refine rd1 2 (fun K hK => ?_)
    go_simp
    refine (l5Copy_c (HRB.out.below B16) B16.size (by omega) HP4.out).mono ?_
    rintro e w17 ⟨A5, c5, rfl, o5, b5⟩
    have sz := B16.size
    have K17 := K16.below b5 K16.lt
    have R17 := R16.below b5 R16.lt
    have N17 := N16.below b5
    have B17 := B16.trans (b5.mono sz)
    have D17 := o5.lower (base' := w.heap.size) B16.size
    clear o5 b5 B16 K16 R16 N16
    go_wp2_with fail
    refine hK.out _ _ ?_ (fun hHeld => ?_)
    · exact K17.all7
    clear hK K
    refine pt ?_
    refine rd1 5 (fun K hK => ?_)
    go_simp
    refine (l7Copy_c (HRT.out.below B17) B17.size (by omega) HRW.out).mono ?_
    rintro e w18 ⟨A7, c7, rfl, o7, b7⟩
    have sz := B17.size
    have K18 := K17.below b7 K17.lt
    have R18 := R17.below b7 R17.lt
    have D18 := D17.below b7
    have N18 := N17.below b7
    have B18 := B17.trans (b7.mono sz)
    have E18 := o7.lower (base' := w.heap.size) B17.size
    clear o7 b7 B17 K17 R17 D17 N17
    go_wp2_with fail
    refine hK.out _ _ ?_ (fun hHeld => ?_)
    · exact K18.all7
    clear hK K
    refine pt ?_
    refine rd1 13 (fun K hK => ?_)
    refine step_appNs (ns := []) (qs := ns) (by rfl) (.tmp 13) (.tmp 15) (by rfl) (by rfl) N18 (by rfl) HNIL.out (HRN.out.below B18) (by omega) B18.size ?_
    intro A8 c8 w60 O60 gr
    simp only [Nat.zero_add, List.nil_append] at O60 ⊢
    have tc := ChgT.grown N18 (ts := [90]) (by simp) gr
    have K60 := K18.typed tc (by decide)
    have R60 := R18.typed tc (by decide)
    have D60 := D18.typed tc (by decide) (by decide)
    have E60 := E18.typed tc (by decide) (by decide)
    have B60 := below_app B18 N18 B18.size gr
    clear K18 R18 D18 E18 B18 N18 gr tc
    refine hK.out _ _ ?_ (fun hHeld => ?_)
    · exact K60.all7
    clear hK K
    refine pt ?_
    refine tk 14 ?_
    have OD : OwD w60 w.heap.size ⟨A5, bs.length, c5, A7, ts.length, c7, A8, nn, c8⟩ ⟨bs, ts, hot, warm, cold, stamp, ns⟩ := ⟨D60, E60, O60⟩
    have OP := Lib.hid (OD.put R60 ⟨A5, bs.length, c5, A7, ts.length, c7, A8, nn, c8⟩ ⟨bs, ts, hot, warm, cold, stamp, ns⟩)
    have KP := (blk_putDisk R60 ⟨A5, bs.length, c5, A7, ts.length, c7, A8, nn, c8⟩ ⟨bs, ts, hot, warm, cold, stamp, ns⟩)
    have BP := Lib.hid (below_putDisk B60 (show w.heap.size ≤ w.heap.size + 1 by omega) ⟨A5, bs.length, c5, A7, ts.length, c7, A8, nn, c8⟩ ⟨bs, ts, hot, warm, cold, stamp, ns⟩)
    have K61 := putDisk_far (g := w.heap.size + 1) K60 (by omega) (⟨A5, bs.length, c5, A7, ts.length, c7, A8, nn, c8⟩ : DH) ⟨bs, ts, hot, warm, cold, stamp, ns⟩
    obtain ⟨y0, y1, y2, y3, y4, y5, y6⟩ := R60.all7
    obtain ⟨z0, z1, z2, z3, z4, z5, z6⟩ := R60.free7
    have K1 := KP.1
    clear OD KP D60 E60 O60 B60 K60
    dsimp only [putDisk, BoxD] at OP K1 BP K61
    have HK1 := Lib.hid K1
    have HK61 := Lib.hid K61
    clear K1 K61
    clear R60
    refine rd1 15 (fun K hK => ?_)
    go_simp
    refine hK.out _ _ ?_ (fun hHeld => ?_)
    · exact HK61.out.all7
    clear hK K
    refine pt ?_
    refine wpAnyH_done (by kernel_rfl) ?_ _
    clear hHeld y0 y1 y2 y3 y4 y5 y6 z0 z1 z2 z3 z4 z5 z6 HK61
    generalize ((((((w60.setCell ⟨w.heap.size + 1, 0, none⟩ (.slice A5 bs.length c5)).setCell ⟨w.heap.size + 1, 1, none⟩ (.slice A7 ts.length c7)).setCell ⟨w.heap.size + 1, 2, none⟩ (.int .i64 hot)).setCell ⟨w.heap.size + 1, 3, none⟩ (.int .i64 warm)).setCell ⟨w.heap.size + 1, 4, none⟩ (.int .i64 cold)).setCell ⟨w.heap.size + 1, 5, none⟩ (.int .i64 stamp)).setCell ⟨w.heap.size + 1, 6, none⟩ (.slice A8 nn c8) = wz at *
    obtain ⟨e0, e1, e2, e3, e4, e5, e6⟩ := HK1.out.all7
    go_wp2
    refine bodyPost_ret (by simp [results, Try.results129, go_sem, e0, e1, e2, e3, e4, e5, e6]; try rfl) rfl ?_
    exact ⟨⟨A5, bs.length, c5, A7, ts.length, c7, A8, nn, c8⟩, rfl, OP.out, BP.out⟩
end Go.Proofs.Ytjnpgdhpneifjaa

/- What DiskLine computes, in plain Lean. -/
namespace Go.Proofs.Ytjnpgdhpneifjaa
open Go.ChangeShapes Go.WideShapes Go.ChangeAt Go.RowKit Go.Deep
set_option linter.unusedVariables false
set_option linter.unusedSimpArgs false

/-! ### the least file without a name -/
theorem pigeon : ∀ (n : Nat) (g : Nat → Int), (∀ i, i ≤ n → ∃ j, j < n ∧ g j = (i : Int)) → False
  | 0, g, h => by obtain ⟨j, hj, _⟩ := h 0 (Nat.le_refl _); omega
  | n + 1, g, h => by
    obtain ⟨j0, hj0, e0⟩ := h (n + 1) (Nat.le_refl _)
    refine pigeon n (fun j => if j < j0 then g j else g (j + 1)) (fun i hi => ?_)
    obtain ⟨j, hj, e⟩ := h i (by omega)
    have hne : j ≠ j0 := fun h => by subst h; omega
    by_cases hlt : j < j0
    · exact ⟨j, by omega, by simp only [hlt, if_true]; exact e⟩
    · exact ⟨j - 1, by omega, by simp only [show ¬ (j - 1 < j0) by omega, if_false, show j - 1 + 1 = j by omega]; exact e⟩
def Named (ns : List NameV) (f : Int) : Prop := ∃ j, j < ns.length ∧ nFil ns j = f
def Least (ns : List NameV) (f : Nat) : Prop := (∀ i : Nat, i < f → Named ns i) ∧ ¬ Named ns f
theorem least_one {ns : List NameV} {f g : Nat} (h : Least ns f) (h' : Least ns g) : f = g := by
  rcases Nat.lt_trichotomy f g with h1 | h1 | h1
  · exact absurd (h'.1 f h1) h.2
  · exact h1
  · exact absurd (h.1 g h1) h'.2
open Classical in
noncomputable def leastN (ns : List NameV) : Nat := if h : ∃ f, Least ns f then h.choose else 0
theorem leastN_eq {ns : List NameV} {f : Nat} (h : Least ns f) : leastN ns = f := by
  unfold leastN
  rw [dif_pos ⟨f, h⟩]
  exact least_one (⟨f, h⟩ : ∃ f, Least ns f).choose_spec h
/-- the reference's two loops: behind k rounds and j names of the next one -/
def FrInv (ns : List NameV) (k j f : Nat) : Prop := (∀ i : Nat, i < f → Named ns i) ∧ (¬ Named ns f ∨ k < f ∨ (k ≤ f ∧ ∀ m, m < j → nFil ns m ≠ (f : Int)))
theorem FrInv.zero (ns : List NameV) : FrInv ns 0 0 0 := ⟨fun i h => absurd h (Nat.not_lt_zero _), .inr (.inr ⟨Nat.le_refl _, fun m h => absurd h (Nat.not_lt_zero _)⟩)⟩
theorem FrInv.hit {ns : List NameV} {k j f : Nat} (h : FrInv ns k j f) (hj : j < ns.length) (e : nFil ns j = (f : Int)) : FrInv ns k (j + 1) (f + 1) := by
  refine ⟨fun i hi => ?_, .inr (.inl ?_)⟩
  · by_cases h1 : i = f
    · subst h1; exact ⟨j, hj, e⟩
    · exact h.1 i (by omega)
  · rcases h.2 with h1 | h1 | h1
    · exact absurd ⟨j, hj, e⟩ h1
    · omega
    · omega
theorem FrInv.miss {ns : List NameV} {k j f : Nat} (h : FrInv ns k j f) (e : nFil ns j ≠ (f : Int)) : FrInv ns k (j + 1) f := by
  refine ⟨h.1, ?_⟩
  rcases h.2 with h1 | h1 | ⟨h1, h2⟩
  · exact .inl h1
  · exact .inr (.inl h1)
  · refine .inr (.inr ⟨h1, fun m hm => ?_⟩)
    by_cases h3 : m = j
    · subst h3; exact e
    · exact h2 m (by omega)
theorem FrInv.pass {ns : List NameV} {k f : Nat} (h : FrInv ns k ns.length f) : FrInv ns (k + 1) 0 f := by
  refine ⟨h.1, ?_⟩
  rcases h.2 with h1 | h1 | ⟨h1, h2⟩
  · exact .inl h1
  · exact .inr (.inr ⟨by omega, fun m hm => absurd hm (Nat.not_lt_zero _)⟩)
  · exact .inl (fun ⟨j, hj, e⟩ => h2 j hj e)
theorem FrInv.done {ns : List NameV} {f : Nat} (h : FrInv ns ns.length 0 f) : leastN ns = f := by
  refine leastN_eq ⟨h.1, fun hn => ?_⟩
  have hge : ns.length ≤ f := by
    rcases h.2 with h1 | h1 | h1
    · exact absurd hn h1
    · omega
    · exact h1.1
  refine pigeon ns.length (nFil ns) (fun i hi => ?_)
  by_cases h1 : i = f
  · subst h1; exact hn
  · exact h.1 i (by omega)
theorem FrInv.le {ns : List NameV} {k j f : Nat} (hok : NamesOk ns) (h : FrInv ns k j f) : f ≤ 8 := by
  rcases Nat.lt_or_ge 8 f with h1 | h1
  · obtain ⟨m, hm, e⟩ := h.1 8 h1
    have := (hok m hm).2.1
    omega
  · exact h1
/-! ### how large a valid disk is -/
theorem bucket_in {s : ByteArray} (h : TextOk s) : 0 ≤ bucket s ∧ bucket s ≤ 2 := by
  rw [bucket_yes h]
  omega
theorem names_nine {ns : List NameV} (h : NamesOk ns) : ns.length ≤ 9 := by
  rcases Nat.lt_or_ge 9 ns.length with h9 | h9
  · exfalso
    have b0 := bucket_in (h 0 (by omega)).1
    have b9 := bucket_in (h 9 (by omega)).1
    have s3 := (h 3 (by omega)).2.2.2 (by omega)
    have s6 := (h 6 (by omega)).2.2.2 (by omega)
    have s9 := (h 9 (by omega)).2.2.2 (by omega)
    have m3 := h.mono (i := 0) (j := 3) (by omega) (by omega)
    have m6 := h.mono (i := 3) (j := 6) (by omega) (by omega)
    have m9 := h.mono (i := 6) (j := 9) (by omega) (by omega)
    simp only [Nat.sub_self, Nat.reduceSub] at s3 s6 s9
    omega
  · exact h9
theorem names_txt {ns : List NameV} (h : NamesOk ns) : ∀ i, i < ns.length → (nTxt ns i).size ≤ 8 := fun i hi => (h i hi).1.1.2
theorem small_parts {bs : List BlockV} {ts : List (List Int)} {a b c st : Int} {ns : List NameV} (h1 : DevOk bs) (h2 : TableOk ts) (h3 : NamesOk ns) : SmallDV ⟨bs, ts, a, b, c, st, ns⟩ := by
  obtain ⟨⟨g1, g2⟩, g3⟩ := h1
  obtain ⟨h4, h5, _⟩ := h2
  have h9 := names_nine h3
  refine ⟨by simp only; omega, by simp only; omega, by simp only; omega, fun i hi => ?_, fun i hi => ?_, fun i hi => ?_⟩
  · have := (g3 i hi).2.1; simp only; omega
  · have := h5 i (by simp only at hi; omega); simp only; omega
  · have := names_txt h3 i hi; simp only [nTxt] at this ⊢; omega
theorem small_shape {bs : List BlockV} {ts : List (List Int)} {a b c st : Int} {ns : List NameV} (h1 : DevOk bs) (h2 : ShapeT ts) (h3 : ns.length ≤ 1048576) (h4 : ∀ i, i < ns.length → (nTxt ns i).size ≤ 1048576) : SmallDV ⟨bs, ts, a, b, c, st, ns⟩ := by
  obtain ⟨⟨g1, g2⟩, g3⟩ := h1
  obtain ⟨h5, h6⟩ := h2
  refine ⟨by simp only; omega, by simp only; omega, h3, fun i hi => ?_, fun i hi => ?_, fun i hi => ?_⟩
  · have := (g3 i hi).2.1; simp only; omega
  · have := h6 i (by simp only at hi; omega); simp only; omega
  · have := h4 i hi; simp only [nTxt] at this ⊢; omega
theorem small_ok {d : DiskV} (h : DiskOk d) : SmallDV d := by
  obtain ⟨⟨⟨⟨h1, h2⟩, h3⟩, _⟩, ⟨h4, h5, _⟩, _, _, h6, _⟩ := h
  have h9 := names_nine h6
  refine ⟨by omega, by omega, by omega, fun i hi => ?_, fun i hi => ?_, fun i hi => ?_⟩
  · have := (h3 i hi).2.1; omega
  · have := h5 i (by omega); omega
  · have := names_txt h6 i hi; simp only [nTxt] at this; omega
/-! ### a line -/
def sMake : ByteArray := ⟨#[109, 97, 107, 101]⟩
def sWrite : ByteArray := ⟨#[119, 114, 105, 116, 101]⟩
def sRead : ByteArray := ⟨#[114, 101, 97, 100]⟩
def sDrop : ByteArray := ⟨#[100, 114, 111, 112]⟩
def sClean : ByteArray := ⟨#[99, 108, 101, 97, 110]⟩
def sOk : ByteArray := ⟨#[111, 107]⟩
def sNo : ByteArray := ⟨#[110, 111]⟩
def sNone : ByteArray := ⟨#[110, 111, 110, 101]⟩
def wd (s : ByteArray) (i : Nat) : ByteArray := (wordsL s).getD i ByteArray.empty
abbrev hdD (d : DiskV) : HeadV := ⟨d.hot, d.warm, d.cold⟩
structure LineR where
  d : DiskV
  a : ByteArray
open Classical in
noncomputable def makeC (d : DiskV) (t : ByteArray) : Option LineR :=
  if NamesOk (putL d.ns t (leastN d.ns)) then some ⟨{ d with ns := putL d.ns t (leastN d.ns) }, sOk⟩ else none
noncomputable def pageW (d : DiskV) (t pl va : ByteArray) : PageV := ⟨true, findN d.ns t, numT pl, numT va, d.stamp + 1⟩
noncomputable def appW (d : DiskV) (t pl va : ByteArray) : AppV := appendF d.bs (hdD d) 1 (pageW d t pl va)
noncomputable def writeC (d : DiskV) (t pl va : ByteArray) : Option LineR :=
  if findN d.ns t < 0 then none
  else if (appW d t pl va).at_ < 0 then none
  else some ⟨⟨(appW d t pl va).bs, setE d.ts (findN d.ns t).toNat (numT pl).toNat (appW d t pl va).at_, (appW d t pl va).h.x, (appW d t pl va).h.y, (appW d t pl va).h.z, d.stamp + 1, d.ns⟩, sOk⟩
noncomputable def pageR (d : DiskV) (t pl : ByteArray) : PageV := pgAt d.bs (tE d.ts (findN d.ns t).toNat (numT pl).toNat)
noncomputable def readC (d : DiskV) (t pl : ByteArray) : Option LineR :=
  if findN d.ns t < 0 ∨ numT pl < 0 ∨ 5 < numT pl then none
  else some ⟨d, if (pageR d t pl).full = true then decT (pageR d t pl).value.toNat else sNone⟩
noncomputable def dropC (d : DiskV) (t : ByteArray) : Option LineR :=
  if findN d.ns t < 0 then none else some ⟨{ d with ns := dropN d.ns t, ts := cutT d.ts (findN d.ns t).toNat }, sOk⟩
noncomputable def victD (d : DiskV) : Int := greedyV d.bs d.ts (hdD d)
noncomputable def cleanD (d : DiskV) : CleanR := cleanF d.bs d.ts (hdD d) (victD d).toNat (d.stamp + 1)
noncomputable def cleanC (d : DiskV) : Option LineR :=
  if victD d < 0 then none
  else if (cleanD d).ok = true then some ⟨⟨(cleanD d).bs, (cleanD d).ts, (cleanD d).h.x, (cleanD d).h.y, (cleanD d).h.z, d.stamp + ((cleanD d).many : Int), d.ns⟩, decT (cleanD d).many⟩
  else none
noncomputable def cmdC (d : DiskV) (s : ByteArray) : Option LineR :=
  if wd s 0 = sMake ∧ (wordsL s).length = 2 then makeC d (wd s 1)
  else if wd s 0 = sWrite ∧ (wordsL s).length = 4 then writeC d (wd s 1) (wd s 2) (wd s 3)
  else if wd s 0 = sRead ∧ (wordsL s).length = 3 then readC d (wd s 1) (wd s 2)
  else if wd s 0 = sDrop ∧ (wordsL s).length = 2 then dropC d (wd s 1)
  else if s = sClean then cleanC d
  else none
open Classical in
noncomputable def lineO (d : DiskV) : Option LineR → LineR
  | none => ⟨d, sNo⟩
  | some x => if DiskOk x.d then x else ⟨d, sNo⟩
open Classical in
noncomputable def lineF (d : DiskV) (s : ByteArray) : LineR := if DiskOk d then lineO d (cmdC d s) else ⟨zeroDisk, ByteArray.empty⟩
theorem lineF_yes {d : DiskV} {s : ByteArray} (h : DiskOk d) : lineF d s = lineO d (cmdC d s) := by unfold lineF; rw [if_pos h]
theorem lineF_no {d : DiskV} {s : ByteArray} (h : ¬ DiskOk d) : lineF d s = ⟨zeroDisk, ByteArray.empty⟩ := by unfold lineF; rw [if_neg h]
theorem lineO_none (d : DiskV) : lineO d none = ⟨d, sNo⟩ := rfl
theorem lineO_yes {d : DiskV} {x : LineR} (h : DiskOk x.d) : lineO d (some x) = x := by simp only [lineO]; rw [if_pos h]
theorem lineO_no {d : DiskV} {x : LineR} (h : ¬ DiskOk x.d) : lineO d (some x) = ⟨d, sNo⟩ := by simp only [lineO]; rw [if_neg h]
theorem lineO_ok {d : DiskV} (h : DiskOk d) (o : Option LineR) : DiskOk (lineO d o).d := by
  cases o with
  | none => exact h
  | some x =>
    by_cases hx : DiskOk x.d
    · rw [lineO_yes hx]; exact hx
    · rw [lineO_no hx]; exact h
theorem lineF_ok {d : DiskV} (s : ByteArray) (h : DiskOk d) : DiskOk (lineF d s).d := by rw [lineF_yes h]; exact lineO_ok h _
theorem zeroDisk_not : ¬ DiskOk zeroDisk := fun h => by have := h.1.1.1.1; simp [zeroDisk] at this
theorem lineF_small (d : DiskV) (s : ByteArray) : SmallDV (lineF d s).d := by
  by_cases h : DiskOk d
  · exact small_ok (lineF_ok s h)
  · rw [lineF_no h]
    exact ⟨by simp [zeroDisk], by simp [zeroDisk], by simp [zeroDisk], fun i hi => by simp [zeroDisk] at hi, fun i hi => by simp [zeroDisk] at hi, fun i hi => by simp [zeroDisk] at hi⟩
theorem cmdC_make {d : DiskV} {s : ByteArray} (h1 : wd s 0 = sMake) (h2 : (wordsL s).length = 2) : cmdC d s = makeC d (wd s 1) := by unfold cmdC; rw [if_pos ⟨h1, h2⟩]
theorem makeC_yes {bs : List BlockV} {ts : List (List Int)} {a b c st : Int} {ns : List NameV} {t : ByteArray} {f : Nat} (hf : leastN ns = f) (h : NamesOk (putL ns t f)) : makeC ⟨bs, ts, a, b, c, st, ns⟩ t = some ⟨⟨bs, ts, a, b, c, st, putL ns t f⟩, sOk⟩ := by
  unfold makeC; simp only; rw [hf, if_pos h]
theorem makeC_no {bs : List BlockV} {ts : List (List Int)} {a b c st : Int} {ns : List NameV} {t : ByteArray} {f : Nat} (hf : leastN ns = f) (h : ¬ NamesOk (putL ns t f)) : makeC ⟨bs, ts, a, b, c, st, ns⟩ t = none := by
  unfold makeC; simp only; rw [hf, if_neg h]
theorem sMake_l : sMake.toList = [109, 97, 107, 101] := ByteArray.toList_eq _
theorem sWrite_l : sWrite.toList = [119, 114, 105, 116, 101] := ByteArray.toList_eq _
theorem sRead_l : sRead.toList = [114, 101, 97, 100] := ByteArray.toList_eq _
theorem sDrop_l : sDrop.toList = [100, 114, 111, 112] := ByteArray.toList_eq _
theorem sClean_l : sClean.toList = [99, 108, 101, 97, 110] := ByteArray.toList_eq _
theorem wd_clean : wd sClean 0 = sClean := by rfl
theorem words_clean : (wordsL sClean).length = 1 := by rfl
theorem toList_ne {a : ByteArray} {l : List UInt8} {b : ByteArray} (hb : b.toList = l) (h : a ≠ b) : (a.toList == l) = false := beq_eq_false_iff_ne.2 (fun e => h (toList_inj' (e.trans hb.symm)))
theorem cmdC_write {d : DiskV} {s : ByteArray} (h1 : wd s 0 = sWrite) (h2 : (wordsL s).length = 4) : cmdC d s = writeC d (wd s 1) (wd s 2) (wd s 3) := by
  unfold cmdC; rw [h1, h2, if_neg (fun h => absurd h.2 (by decide)), if_pos ⟨rfl, rfl⟩]
theorem cmdC_read {d : DiskV} {s : ByteArray} (h1 : wd s 0 = sRead) (h2 : (wordsL s).length = 3) : cmdC d s = readC d (wd s 1) (wd s 2) := by
  unfold cmdC; rw [h1, h2, if_neg (fun h => absurd h.2 (by decide)), if_neg (fun h => absurd h.2 (by decide)), if_pos ⟨rfl, rfl⟩]
theorem cmdC_drop {d : DiskV} {s : ByteArray} (h1 : wd s 0 = sDrop) (h2 : (wordsL s).length = 2) : cmdC d s = dropC d (wd s 1) := by
  unfold cmdC; rw [h1, h2, if_neg (fun h => absurd h.1 (by decide)), if_neg (fun h => absurd h.2 (by decide)), if_neg (fun h => absurd h.2 (by decide)), if_pos ⟨rfl, rfl⟩]
theorem cmdC_clean {d : DiskV} : cmdC d sClean = cleanC d := by
  unfold cmdC; rw [words_clean, if_neg (fun h => absurd h.2 (by decide)), if_neg (fun h => absurd h.2 (by decide)), if_neg (fun h => absurd h.2 (by decide)), if_neg (fun h => absurd h.2 (by decide)), if_pos rfl]
theorem cmdC_other {d : DiskV} {s : ByteArray} (h1 : ¬ (wd s 0 = sMake ∧ (wordsL s).length = 2)) (h2 : ¬ (wd s 0 = sWrite ∧ (wordsL s).length = 4)) (h3 : ¬ (wd s 0 = sRead ∧ (wordsL s).length = 3)) (h4 : ¬ (wd s 0 = sDrop ∧ (wordsL s).length = 2)) (h5 : s ≠ sClean) : cmdC d s = none := by
  unfold cmdC; rw [if_neg h1, if_neg h2, if_neg h3, if_neg h4, if_neg h5]
theorem writeC_no {bs : List BlockV} {ts : List (List Int)} {a b c st : Int} {ns : List NameV} {t pl va : ByteArray} {R : AppV} (hR : appendF bs ⟨a, b, c⟩ 1 ⟨true, findN ns t, numT pl, numT va, st + 1⟩ = R) (h : R.at_ < 0) : writeC ⟨bs, ts, a, b, c, st, ns⟩ t pl va = none := by
  unfold writeC appW pageW
  simp only
  rw [hR, if_pos h]
  split <;> rfl
theorem writeC_yes {bs : List BlockV} {ts : List (List Int)} {a b c st : Int} {ns : List NameV} {t pl va : ByteArray} {R : AppV} (hf : ¬ findN ns t < 0) (hR : appendF bs ⟨a, b, c⟩ 1 ⟨true, findN ns t, numT pl, numT va, st + 1⟩ = R) (h : ¬ R.at_ < 0) :
    writeC ⟨bs, ts, a, b, c, st, ns⟩ t pl va = some ⟨⟨R.bs, setE ts (findN ns t).toNat (numT pl).toNat R.at_, R.h.x, R.h.y, R.h.z, st + 1, ns⟩, sOk⟩ := by
  unfold writeC appW pageW
  simp only
  rw [hR, if_neg hf, if_neg h]
/-- what a write that goes through says -/
theorem appendF_in {bs : List BlockV} {h : HeadV} {heat : Nat} {p : PageV} (h0 : 0 ≤ (appendF bs h heat p).at_) : PageOk p ∧ p.full = true := by
  unfold appendF at h0
  split at h0
  · assumption
  · simp only at h0; omega
theorem findN_range {ns : List NameV} (hok : NamesOk ns) (t : ByteArray) : -1 ≤ findN ns t ∧ findN ns t ≤ 7 := by
  by_cases h : ∃ j, j < ns.length ∧ nTxt ns j = t ∧ ∀ i, i < j → nTxt ns i ≠ t
  · obtain ⟨j, hj, e, hn⟩ := h
    rw [findN_at hj hn e]
    have := (hok j hj).2.1
    omega
  · rw [findN_none]
    · omega
    · intro i
      induction i using Nat.strongRecOn with
      | _ i ih => exact fun hi e => h ⟨i, hi, e, fun k hk => ih k hk (by omega)⟩
theorem dropTo_mem {ns : List NameV} {t : ByteArray} : ∀ k, ∀ x ∈ dropTo ns t k, ∃ i, i < k ∧ x = ns.getD i noName
  | 0, x, hx => by simp [dropTo] at hx
  | k + 1, x, hx => by
    unfold dropTo at hx
    split at hx
    · obtain ⟨i, hi, e⟩ := dropTo_mem k x hx
      exact ⟨i, by omega, e⟩
    · rcases List.mem_append.1 hx with h | h
      · obtain ⟨i, hi, e⟩ := dropTo_mem k x h
        exact ⟨i, by omega, e⟩
      · exact ⟨k, by omega, List.mem_singleton.1 h⟩
theorem dropN_txt {ns : List NameV} {t : ByteArray} (hok : NamesOk ns) : (dropN ns t).length ≤ 9 ∧ ∀ i, i < (dropN ns t).length → (nTxt (dropN ns t) i).size ≤ 8 := by
  have h9 := names_nine hok
  have hl := dropTo_len ns t ns.length
  refine ⟨by unfold dropN; omega, fun i hi => ?_⟩
  have hm : (dropN ns t).getD i noName ∈ dropTo ns t ns.length := by
    rw [List.getD_eq_getElem?_getD, List.getElem?_eq_getElem hi]
    exact List.getElem_mem _
  obtain ⟨j, hj, e⟩ := dropTo_mem _ _ hm
  unfold nTxt
  rw [e]
  exact names_txt hok j hj
theorem cutT_shape {ts : List (List Int)} {f : Nat} (h : TableOk ts) : ShapeT (cutT ts f) := by
  unfold cutT
  refine ⟨by simpa using h.1, fun i hi => ?_⟩
  rw [List.getD_eq_getElem?_getD, List.getElem?_set]
  have := h.2.1 i hi
  split
  · split
    · rfl
    · have := h.1; omega
  · rw [← List.getD_eq_getElem?_getD]; exact this
theorem pgAt_ok {bs : List BlockV} (h : DevOk bs) (v : Int) : PageOk (pgAt bs v) := by
  unfold pgAt
  split
  · next hv => exact pageN_ok h (by omega)
  · decide
theorem readC_yes {bs : List BlockV} {ts : List (List Int)} {a b c st : Int} {ns : List NameV} {t pl : ByteArray} {f k : Nat} (hf : findN ns t = f) (hk : numT pl = k) (h5 : k ≤ 5) :
    readC ⟨bs, ts, a, b, c, st, ns⟩ t pl = some ⟨⟨bs, ts, a, b, c, st, ns⟩, if (pgAt bs (tE ts f k)).full = true then decT (pgAt bs (tE ts f k)).value.toNat else sNone⟩ := by
  unfold readC pageR
  simp only
  rw [hf, hk, if_neg (by omega), Int.toNat_natCast, Int.toNat_natCast]
theorem dropC_yes {bs : List BlockV} {ts : List (List Int)} {a b c st : Int} {ns : List NameV} {t : ByteArray} {f : Nat} (hf : findN ns t = f) :
    dropC ⟨bs, ts, a, b, c, st, ns⟩ t = some ⟨⟨bs, cutT ts f, a, b, c, st, dropN ns t⟩, sOk⟩ := by
  unfold dropC
  simp only
  rw [hf, if_neg (by omega), Int.toNat_natCast]
theorem writeC_neg {d : DiskV} {t pl va : ByteArray} (hf : findN d.ns t < 0) : writeC d t pl va = none := by unfold writeC; rw [if_pos hf]
theorem readC_neg {d : DiskV} {t pl : ByteArray} (h : findN d.ns t < 0 ∨ numT pl < 0 ∨ 5 < numT pl) : readC d t pl = none := by unfold readC; rw [if_pos h]
theorem dropC_neg {d : DiskV} {t : ByteArray} (hf : findN d.ns t < 0) : dropC d t = none := by unfold dropC; rw [if_pos hf]
theorem cleanC_neg {d : DiskV} (h : victD d < 0) : cleanC d = none := by unfold cleanC; rw [if_pos h]
theorem cleanC_no {d : DiskV} {R : CleanR} (hR : cleanD d = R) (h : R.ok = false) : cleanC d = none := by
  unfold cleanC
  rw [hR, h]
  split
  · rfl
  · rfl
theorem cleanC_yes {bs : List BlockV} {ts : List (List Int)} {a b c st : Int} {ns : List NameV} {R : CleanR} (hv : ¬ victD ⟨bs, ts, a, b, c, st, ns⟩ < 0) (hR : cleanD ⟨bs, ts, a, b, c, st, ns⟩ = R) (h : R.ok = true) :
    cleanC ⟨bs, ts, a, b, c, st, ns⟩ = some ⟨⟨R.bs, R.ts, R.h.x, R.h.y, R.h.z, st + (R.many : Int), ns⟩, decT R.many⟩ := by
  unfold cleanC
  rw [if_neg hv, hR, if_pos h]
/-- lines that do nothing -/
def OtherL (d : DiskV) (s : ByteArray) : Prop :=
  (wd s 0 = sMake ∧ (wordsL s).length ≠ 2) ∨ (wd s 0 = sWrite ∧ (wordsL s).length ≠ 4) ∨ (wd s 0 = sWrite ∧ (wordsL s).length = 4 ∧ findN d.ns (wd s 1) < 0) ∨
  (wd s 0 = sRead ∧ (wordsL s).length ≠ 3) ∨ (wd s 0 = sRead ∧ (wordsL s).length = 3 ∧ findN d.ns (wd s 1) < 0) ∨ (wd s 0 = sRead ∧ (wordsL s).length = 3 ∧ 0 ≤ findN d.ns (wd s 1) ∧ (numT (wd s 2) < 0 ∨ 5 < numT (wd s 2))) ∨
  (wd s 0 = sDrop ∧ (wordsL s).length ≠ 2) ∨ (wd s 0 = sDrop ∧ (wordsL s).length = 2 ∧ findN d.ns (wd s 1) < 0) ∨
  (wd s 0 ≠ sMake ∧ wd s 0 ≠ sWrite ∧ wd s 0 ≠ sRead ∧ wd s 0 ≠ sDrop ∧ s ≠ sClean)
theorem not_clean {s x : ByteArray} (h : wd s 0 = x) (hx : sClean ≠ x) : s ≠ sClean := fun e => hx (by rw [← h, e, wd_clean])
theorem other_none {d : DiskV} {s : ByteArray} (h : OtherL d s) : cmdC d s = none := by
  rcases h with ⟨h1, h2⟩ | ⟨h1, h2⟩ | ⟨h1, h2, h3⟩ | ⟨h1, h2⟩ | ⟨h1, h2, h3⟩ | ⟨h1, h2, _, h3⟩ | ⟨h1, h2⟩ | ⟨h1, h2, h3⟩ | ⟨h1, h2, h3, h4, h5⟩
  · exact cmdC_other (fun h => h2 h.2) (fun h => absurd (h1.symm.trans h.1) (by decide)) (fun h => absurd (h1.symm.trans h.1) (by decide)) (fun h => absurd (h1.symm.trans h.1) (by decide)) (not_clean h1 (by decide))
  · exact cmdC_other (fun h => absurd (h1.symm.trans h.1) (by decide)) (fun h => h2 h.2) (fun h => absurd (h1.symm.trans h.1) (by decide)) (fun h => absurd (h1.symm.trans h.1) (by decide)) (not_clean h1 (by decide))
  · rw [cmdC_write h1 h2, writeC_neg h3]
  · exact cmdC_other (fun h => absurd (h1.symm.trans h.1) (by decide)) (fun h => absurd (h1.symm.trans h.1) (by decide)) (fun h => h2 h.2) (fun h => absurd (h1.symm.trans h.1) (by decide)) (not_clean h1 (by decide))
  · rw [cmdC_read h1 h2, readC_neg (.inl h3)]
  · rw [cmdC_read h1 h2, readC_neg (.inr h3)]
  · exact cmdC_other (fun h => absurd (h1.symm.trans h.1) (by decide)) (fun h => absurd (h1.symm.trans h.1) (by decide)) (fun h => absurd (h1.symm.trans h.1) (by decide)) (fun h => h2 h.2) (not_clean h1 (by decide))
  · rw [cmdC_drop h1 h2, dropC_neg h3]
  · exact cmdC_other (fun h => h1 h.1) (fun h => h2 h.1) (fun h => h3 h.1) (fun h => h4 h.1) h5
theorem line_cases (d : DiskV) (s : ByteArray) : (wd s 0 = sMake ∧ (wordsL s).length = 2) ∨ (wd s 0 = sWrite ∧ (wordsL s).length = 4 ∧ 0 ≤ findN d.ns (wd s 1)) ∨ (wd s 0 = sRead ∧ (wordsL s).length = 3 ∧ 0 ≤ findN d.ns (wd s 1) ∧ (0 ≤ numT (wd s 2) ∧ numT (wd s 2) ≤ 5)) ∨ (wd s 0 = sDrop ∧ (wordsL s).length = 2 ∧ 0 ≤ findN d.ns (wd s 1)) ∨ s = sClean ∨ OtherL d s := by
  unfold OtherL
  by_cases a1 : wd s 0 = sMake
  · by_cases b1 : (wordsL s).length = 2
    · exact .inl ⟨a1, b1⟩
    · exact .inr (.inr (.inr (.inr (.inr (.inl ⟨a1, b1⟩)))))
  by_cases a2 : wd s 0 = sWrite
  · by_cases b1 : (wordsL s).length = 4
    · by_cases b2 : 0 ≤ findN d.ns (wd s 1)
      · exact .inr (.inl ⟨a2, b1, b2⟩)
      · exact .inr (.inr (.inr (.inr (.inr (.inr (.inr (.inl ⟨a2, b1, by omega⟩)))))))
    · exact .inr (.inr (.inr (.inr (.inr (.inr (.inl ⟨a2, b1⟩))))))
  by_cases a3 : wd s 0 = sRead
  · by_cases b1 : (wordsL s).length = 3
    · by_cases b2 : 0 ≤ findN d.ns (wd s 1)
      · by_cases b3 : 0 ≤ numT (wd s 2) ∧ numT (wd s 2) ≤ 5
        · exact .inr (.inr (.inl ⟨a3, b1, b2, b3⟩))
        · exact .inr (.inr (.inr (.inr (.inr (.inr (.inr (.inr (.inr (.inr (.inl ⟨a3, b1, b2, by omega⟩))))))))))
      · exact .inr (.inr (.inr (.inr (.inr (.inr (.inr (.inr (.inr (.inl ⟨a3, b1, by omega⟩)))))))))
    · exact .inr (.inr (.inr (.inr (.inr (.inr (.inr (.inr (.inl ⟨a3, b1⟩))))))))
  by_cases a4 : wd s 0 = sDrop
  · by_cases b1 : (wordsL s).length = 2
    · by_cases b2 : 0 ≤ findN d.ns (wd s 1)
      · exact .inr (.inr (.inr (.inl ⟨a4, b1, b2⟩)))
      · exact .inr (.inr (.inr (.inr (.inr (.inr (.inr (.inr (.inr (.inr (.inr (.inr (.inl ⟨a4, b1, by omega⟩))))))))))))
    · exact .inr (.inr (.inr (.inr (.inr (.inr (.inr (.inr (.inr (.inr (.inr (.inl ⟨a4, b1⟩)))))))))))
  by_cases a5 : s = sClean
  · exact .inr (.inr (.inr (.inr (.inl a5))))
  · exact .inr (.inr (.inr (.inr (.inr (.inr (.inr (.inr (.inr (.inr (.inr (.inr (.inr ⟨a1, a2, a3, a4, a5⟩))))))))))))
/-! ### the victim -/
theorem victTo_may (bs : List BlockV) (cs : List Int) (h : HeadV) : ∀ k, 0 ≤ victTo bs cs h k → mayB bs cs h (victTo bs cs h k).toNat = true
  | 0, h0 => by unfold victTo at h0; omega
  | k + 1, h0 => by
    unfold victTo at h0 ⊢
    split at h0
    · next hc =>
      rw [if_pos hc]
      split at h0
      · next hd => rw [if_pos hd, Int.toNat_natCast]; exact hc
      · next hd => rw [if_neg hd]; exact victTo_may bs cs h k h0
    · next hc => rw [if_neg hc]; exact victTo_may bs cs h k h0
structure VictOk (d : DiskV) (n : Nat) : Prop where
  lt : n < d.bs.length
  full : ∀ k, k < 4 → ((d.bs.getD n noBlock).pages.getD k noPage).full = true
  head : (hdD d).has n = false
theorem vict_ok {d : DiskV} (hok : DiskOk d) (h : 0 ≤ victD d) : VictOk d (victD d).toNat := by
  have hm := victTo_may d.bs (countsL d.bs d.ts) (hdD d) d.bs.length h
  have hr := victTo_range d.bs (countsL d.bs d.ts) (hdD d) d.bs.length
  change mayB d.bs (countsL d.bs d.ts) (hdD d) (victD d).toNat = true at hm
  change -1 ≤ victD d ∧ victD d < _ at hr
  unfold mayB at hm
  simp only [Bool.and_eq_true, decide_eq_true_eq, Bool.not_eq_true'] at hm
  have hl : (victD d).toNat < d.bs.length := by omega
  refine ⟨hl, fun k hk => ?_, hm.2.2⟩
  have h4 := (hok.1.1.2 _ hl).2.1
  rcases nextP_or (d.bs.getD (victD d).toNat noBlock).pages with ⟨_, h2⟩ | ⟨j, h1, _⟩
  · exact h2 k (by omega)
  · omega
theorem cleanD_ok {d : DiskV} (hok : DiskOk d) (h : 0 ≤ victD d) : CleanedOk d.bs d.ts (cleanD d) := by
  have v := vict_ok hok h
  have hs : 0 ≤ d.stamp := by
    have h1 := hok.2.2.2.1.1
    have h2 : 0 ≤ lastStamp d.bs := (lastAt_range hok.1.1 (Nat.le_refl _)).1
    omega
  exact cleanF_kept hok.1 hok.2.1 hok.2.2.1 v.lt v.full ⟨by omega, by have := hok.2.2.2.1.2; omega⟩
/-- cleaning changes no value of a file -/
theorem clean_vals {d : DiskV} (hok : DiskOk d) : SameVals d.bs d.ts (lineO d (cleanC d)).d.bs (lineO d (cleanC d)).d.ts := by
  have same : SameVals d.bs d.ts d.bs d.ts := fun f _ => ⟨rfl, Iff.rfl⟩
  unfold cleanC
  by_cases h : victD d < 0
  · rw [if_pos h]; exact same
  · rw [if_neg h]
    by_cases h2 : (cleanD d).ok = true
    · rw [if_pos h2]
      generalize hx : (⟨⟨(cleanD d).bs, (cleanD d).ts, (cleanD d).h.x, (cleanD d).h.y, (cleanD d).h.z, d.stamp + ((cleanD d).many : Int), d.ns⟩, decT (cleanD d).many⟩ : LineR) = x
      by_cases h3 : DiskOk x.d
      · rw [lineO_yes h3, ← hx]; exact (cleanD_ok hok (by omega)).vals
      · rw [lineO_no h3]; exact same
    · rw [if_neg h2]; exact same
end Go.Proofs.Ytjnpgdhpneifjaa

/- The memory that a line of a disk leaves: a disk in new memory and an answer. No condition. -/
namespace Go.Proofs.Ytjnpgdhpneifjaa
open Go.ChangeShapes Go.WideShapes Go.ChangeAt Go.RowKit Go.Deep
set_option linter.unusedVariables false
set_option linter.unusedSimpArgs false

/-- a disk in new memory and an answer -/
def OwnL (w0 : World) (R : LineR) (e : Ending) (w' : World) : Prop := ∃ h, e = .returned (.tuple #[dkv h R.d, .string R.a]) ∧ OwD w' w0.heap.size h R.d ∧ Below w0.heap.size w0 w'
theorem ownL_of {w0 w ws : World} {R : LineR} {h : DH} {d : DiskV} {a : ByteArray} (hR : R = ⟨d, a⟩) (ho : OwD ws w0.heap.size h d) (hb : Below ws.heap.size ws w) (hr : Blk w (w0.heap.size + 1) 42 #[.slice none 0 0, .slice none 0 0, .int .i64 0, .int .i64 0, .int .i64 0, .int .i64 0, .slice none 0 0]) (hB : Below w0.heap.size w0 w) :
    OwnL w0 R (.returned (.tuple #[dkv h d, .string a])) (putDisk w (w0.heap.size + 1) h d) := by
  subst hR
  exact ⟨h, rfl, (ho.below hb).put hr h d, below_putDisk hB (by omega) h d⟩
/-- the premises on a row of names that is handed over -/
structure CapN (h : DH) : Prop where
  le : h.nn ≤ h.nc
  max : h.nc ≤ 9223372036854775807
  nil : h.nA = none → h.nc = 0
theorem OwN.capN {w base A n c ns} (h : OwN w base A n c ns) : (A = none → c = 0) := by
  intro e
  subst e
  rcases h.2 with ⟨h1, h2⟩ | ⟨g, cap, cur, h1, h2, _⟩
  · injection h1
  · injection h1 with h1; exact absurd h1 (by simp)
/-- append of three empty texts, which the walk has just laid in a block of their own -/
theorem wpList_appSt3 {ops : Array Oper} {rest : List Oper} {o : Oper} {a : Act} {Q : Exit → Act → World → Prop} {w : World} {s x : Operand} {base g0 : Nat} {c0 n : Nat} {xs : List ByteArray} (hgd : o.guard = none)
    (ho : o.op = .call { callee := .builtin .append, args := #[s, x], argTypes := #[147, 147] })
    (hs : a.eval s = .slice (some ⟨g0, 0, none⟩) n c0) (hown : w.ownsRow base 9 1 (.slice (some ⟨g0, 0, none⟩) n c0) n (xs.map Value.string))
    (hx : a.eval x = .slice (some ⟨w.heap.size, 0, none⟩) 3 3) (hn : n ≤ 1000000000000) (hbase : base ≤ w.heap.size)
    (h : ∀ g c w', w'.ownsRow base 9 1 (.slice (some ⟨g, 0, none⟩) (n + 3) c) (n + 3) ((xs ++ [ByteArray.empty, ByteArray.empty, ByteArray.empty]).map Value.string) → w.grownBy w' (some g0) → wpList Try.prog ops Q rest (a.put o.dst (.slice (some ⟨g, 0, none⟩) (n + 3) c)) w') :
    wpList Try.prog ops Q (o :: rest) a (w.alloc (.cells #[.string ByteArray.empty, .string ByteArray.empty, .string ByteArray.empty] 9)) := by
  obtain ⟨i0, hi, hz0, hz1, hz2⟩ := info_parts infoStr
  refine wpList_append_own _ hgd s x 147 ho base 9 i0 _ 1 16 Try.underlying147 hi hz0 hz1 hz2 rfl (by decide) (.slice (some ⟨g0, 0, none⟩) n c0) n _ hs (hown.alloc _) ⟨w.heap.size, 0, none⟩ 3 3 [.string ByteArray.empty, .string ByteArray.empty, .string ByteArray.empty] hx rfl ?_ (by simp [Value.oneCell']) (by unfold maxLen; omega) (by omega) (by simp; omega) ?_
  · intro j u hj
    rw [add_none, Nat.zero_add]
    have := (Blk.new w 9 #[.string ByteArray.empty, .string ByteArray.empty, .string ByteArray.empty]).cell j
    rw [this, show (#[Value.string ByteArray.empty, .string ByteArray.empty, .string ByteArray.empty] : Array Value) = [Value.string ByteArray.empty, .string ByteArray.empty, .string ByteArray.empty].toArray from rfl, List.getElem?_toArray]
    exact hj
  · intro v' w' hown' hg _
    rcases hown'.2 with ⟨h1, h2⟩ | ⟨g, cap, cur, h1, hb, _⟩
    · omega
    · subst h1
      refine h g cap w' (by rw [List.map_append]; exact hown') ⟨hg.os, hg.tape, hg.output, Nat.le_trans (by simp) hg.size, fun k hk hne => ?_⟩
      rw [hg.block k (by simp; omega) hne]
      exact Below.heap_alloc w _ k hk
theorem words_cells {s : ByteArray} {w : World} {base g c m : Nat} (h : w.ownsRow base 9 1 (.slice (some ⟨g, 0, none⟩) (m + 3) c) (m + 3) ((wordsL s ++ [ByteArray.empty, ByteArray.empty, ByteArray.empty]).map Value.string)) (hm : (wordsL s).length = m) :
    ∀ i, i < m + 3 → w.cell? ⟨g, i, none⟩ = some (.string (wd s i)) := by
  intro i hi
  rw [own_strCell h i (by simp [hm]; omega)]
  unfold wd
  rw [List.getD_eq_getElem?_getD, List.getD_eq_getElem?_getD, List.getElem?_append]
  by_cases e : i < (wordsL s).length
  · rw [if_pos e]
  · rw [if_neg e, List.getElem?_eq_none (Nat.le_of_not_lt e)]
    have : i - (wordsL s).length = 0 ∨ i - (wordsL s).length = 1 ∨ i - (wordsL s).length = 2 := by omega
    rcases this with e | e | e <;> rw [e] <;> rfl
theorem wd_size (s : ByteArray) (i : Nat) : (wd s i).size ≤ s.size := by
  unfold wd
  by_cases e : i < (wordsL s).length
  · rw [List.getD_eq_getElem?_getD, List.getElem?_eq_getElem e]
    exact wordsTo_size s s.size (Nat.le_refl _) _ (List.getElem_mem _)
  · rw [List.getD_eq_getElem?_getD, List.getElem?_eq_none (Nat.le_of_not_lt e)]
    exact Nat.zero_le _
end Go.Proofs.Ytjnpgdhpneifjaa
