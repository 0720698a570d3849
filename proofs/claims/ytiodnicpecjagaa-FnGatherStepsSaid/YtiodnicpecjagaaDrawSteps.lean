/- Contracts of DrawGatherSteps and DrawApplySteps: drawn pages with a number, or with moves. Printed by gensteps.py. -/
import Derived.Test.YtiodnicpecjagaaDrawPlaces
import Derived.Test.YtiodnicpecjagaaGather
namespace Go.Proofs.Ytiodnicpecjagaa
open Go.ChangeShapes Go.WideShapes Go.ChangeAt Go.RowKit
set_option linter.unusedVariables false
set_option linter.unusedSimpArgs false

/-- drawn pages and a number -/
def DrawnLJ (w : World) (e : Ending) (w' : World) : Prop :=
  ∃ (ys : List Int) (A : Option Addr) (c : Nat) (v : Int), e = .returned (.tuple #[.slice A ys.length c, .int .i64 v]) ∧ -1 ≤ v ∧ v ≤ 100 ∧ ys.length ≤ 100 ∧ w'.ownsRow w.heap.size 3 1 (.slice A ys.length c) ys.length (ys.map (Value.int .i64)) ∧ Below w.heap.size w w'
theorem drawGatherSteps_c {A : Option Addr} {n c : Nat} {xs : List Int} {w : World} (hr : RdI .u8 w w.heap.size A n xs) (hx : ∀ x ∈ xs, 0 ≤ x ∧ x ≤ 255) (hnc : n ≤ c) (hcm : c ≤ 9223372036854775807) :
    Calls Try.prog 26 #[.slice A n c] w (DrawnLJ w) := by
  go_enter Try.func26, Try.ntmps26
  go_wp2_with fail
  refine (open_c hr hx hnc hcm).mono ?_
  rintro e w1 ⟨rfl, h1, b1⟩
  have hg1 := h1.lt
  go_wp2_with fail
  refine (l20Places_c h1 (by omega) (by omega) (by omega)).mono ?_
  rintro e w2 h
  obtain ⟨ys, A2, c2, rfl, h100, o2, h2, g2⟩ := h
  have b2 := below_of_gb b1 g2 b1.size (Nat.le_refl _)
  have hs2 := g2.size
  clear hr hx hnc hcm h1 b1 g2
  generalize hyl : ys.length = m at *
  have HY := Lib.hid hyl
  clear hyl
  go_wp2_with fail
  refine (pick_c h2 (by omega)).mono ?_
  rintro e w3 ⟨v, rfl, hv1, hv2, h3, g3⟩
  have o3 := own_pick o2 g3 (by omega)
  have b3 := below_of_gb b2 g3 b2.size (Nat.le_refl _)
  have hbs := b2.size
  clear o2 b2 h2 g3
  go_wp2_with fail
  refine (pick_c h3 (by omega)).mono ?_
  rintro e w4 ⟨u, rfl, hu1, hu2, h4, g4⟩
  have o4 := own_pick o3 g4 (by omega)
  have b4 := below_of_gb b3 g4 b3.size (Nat.le_refl _)
  clear o3 b3 h3 g4
  have hd1 : 0 ≤ u / 13 := by omega
  have hd2 : u / 13 ≤ 1 := by omega
  go_wp2_with fail
  go_ret2
  obtain rfl := HY.out
  exact ⟨ys, A2, c2, v - u / 13, rfl, by omega, by omega, h100, ownsRow_base o4 (by omega), b4⟩

/-- drawn pages and moves -/
def DrawnLS (w : World) (e : Ending) (w' : World) : Prop :=
  ∃ (xs : List Int) (ps : List (Int × Int)) (A : Option Addr) (c : Nat) (A' : Option Addr) (c' : Nat), e = .returned (.tuple #[.slice A xs.length c, .slice A' ps.length c']) ∧ xs.length ≤ 100 ∧ ps.length ≤ 100 ∧ w'.ownsRow w.heap.size 3 1 (.slice A xs.length c) xs.length (xs.map (Value.int .i64)) ∧ w'.ownsRow w.heap.size 41 2 (.slice A' ps.length c') ps.length (flatP ps) ∧ Below w.heap.size w w'
theorem drawnLS_of {w w' : World} {base base' n m c c' : Nat} {A A' : Option Addr} {xs : List Int} {ps : List (Int × Int)} (h1 : xs.length = n) (h2 : ps.length = m) (h3 : n ≤ 100) (h4 : m ≤ 100) (h5 : w'.ownsRow base 3 1 (.slice A n c) n (xs.map (Value.int .i64))) (h6 : w'.ownsRow base' 41 2 (.slice A' m c') m (flatP ps)) (h7 : Below w.heap.size w w') (h8 : w.heap.size ≤ base) (h9 : w.heap.size ≤ base') :
    DrawnLS w (.returned (.tuple #[.slice A n c, .slice A' m c'])) w' := by
  subst h1; subst h2
  exact ⟨xs, ps, A, c, A', c', rfl, h3, h4, ownsRow_base h5 h8, ownsRow_base h6 h9, h7⟩

theorem drawApplySteps_c {A : Option Addr} {n c : Nat} {zs : List Int} {w : World} (hr : RdI .u8 w w.heap.size A n zs) (hx : ∀ x ∈ zs, 0 ≤ x ∧ x ≤ 255) (hnc : n ≤ c) (hcm : c ≤ 9223372036854775807) :
    Calls Try.prog 32 #[.slice A n c] w (DrawnLS w) := by
  go_enter Try.func32, Try.ntmps32
  go_wp2_with fail
  refine (open_c hr hx hnc hcm).mono ?_
  rintro e w1 ⟨rfl, h1, b1⟩
  have hg1 := h1.lt
  go_wp2_with fail
  refine (l20Places_c h1 (by omega) (by omega) (by omega)).mono ?_
  rintro e w2 h
  obtain ⟨xs, A2, c2, rfl, h100, o2, h2, g2⟩ := h
  have b2 := below_of_gb b1 g2 b1.size (Nat.le_refl _)
  have hs2 := g2.size
  have hs1 := b1.size
  clear hr hx hnc hcm h1 b1 g2
  generalize hxl : xs.length = nx at *
  have HX := Lib.hid hxl
  clear hxl
  go_wp2_with fail
  refine (pick_c h2 (by omega)).mono ?_
  rintro e wS ⟨v, rfl, hv1, hv2, h3, g3⟩
  have o3 := own_pick o2 g3 (by omega)
  have b3 := below_of_gb b2 g3 b2.size (Nat.le_refl _)
  have hs3 := g3.size
  clear o2 b2 h2 g3
  have hll := o3.lt
  by_cases hv : v = 0
  · subst hv
    go_wp2_with fail
    refine (pick_c h3 (by omega)).mono ?_
    rintro e w4 ⟨u, rfl, hu1, hu2, h4, g4⟩
    have o4 := own_pick o3 g4 (by omega)
    have b4 := below_of_gb b3 g4 b3.size (Nat.le_refl _)
    have hs4 := g4.size
    clear o3 b3 h3 g4
    have hnx : nx ≤ 1048576 := by omega
    go_wp2_with fail
    refine (gatherSteps_spec (rdoI o4) (Nat.le_refl _) hnx).mono ?_
    rintro e w5 ⟨A5, c5, rfl, o5, b5⟩
    have hgl := gather_len xs u
    have o45 := own_below o4 b5
    have bb5 := b4.trans (b5.mono (by omega))
    generalize hq : bof (GOk xs u) = q at *
    generalize gatherSteps xs u = ps at *
    generalize hps : ps.length = np at *
    have HP := Lib.hid hps
    clear hq hps o4 b4
    go_wp2_with fail
    go_ret2
    exact drawnLS_of HX.out HP.out h100 (by omega) o45 o5 bb5 (by omega) (by omega)
  · have hq : (v == 0) = false := by simp [hv]
    go_wp2_with fail
    have o0 : (wS.alloc (.cells #[] 41)).ownsRow wS.heap.size 41 2 (.slice (some ⟨wS.heap.size, 0, none⟩) 0 0) 0 (flatP []) := World.ownsRow_lit wS #[] 0 (Nat.le_refl _) (by decide) rfl
    refine (pick_c (h3.alloc _) (by omega)).mono ?_
    rintro e w4 ⟨u, rfl, hu1, hu2, h4, g4⟩
    have own4 := own_pick o0 g4 (by omega)
    have lst4 := own_pick (o3.alloc _) g4 (by omega)
    have bel4 := below_of_gb (b3.alloc b3.size _) g4 (by rw [World.size_alloc]; have := b3.size; omega) (Nat.le_refl _)
    have hs4 := g4.size
    rw [World.size_alloc] at hs4
    have hsz4 : wS.heap.size ≤ w4.heap.size := by omega
    clear o3 b3 h3 g4 o0 hv
    go_wp2_with fail
    go_loopw [8, 9] (fun v kk wr => ∃ (j : Nat) (ps : List (Int × Int)) (A : Option Addr) (c m : Nat), kk = .int .i64 j ∧ j + m ≤ 3 ∧ ps.length = m ∧ v = .slice A m c ∧ wr.ownsRow wS.heap.size 41 2 (.slice A m c) m (flatP ps) ∧ wr.ownsRow w1.heap.size 3 1 (.slice A2 nx c2) nx (xs.map (Value.int .i64)) ∧ Rdr wr w.heap.size w.heap.size (2000 + 10 * m) ∧ Below w.heap.size w wr ∧ wS.heap.size ≤ wr.heap.size) (fun _ kk _ => (intOf kk).toNat)
    case atStart =>
      obtain ⟨j, rfl⟩ := Int.eq_ofNat_of_zero_le hu1
      exact ⟨j, [], _, _, 0, rfl, by omega, rfl, rfl, own4, lst4, h4.mono (by omega), bel4, hsz4⟩
    case round =>
      obtain ⟨j, ps, A5, c5, m, rfl, hjm, hpl, rfl, ownA, lstA, hrA, belA, hszA⟩ := hrel
      have HP := Lib.hid hpl
      clear hpl own4 lst4 h4 bel4 hsz4
      by_cases hj : 0 < j
      · go_wp2_with fail
        refine (pick_c hrA (by omega)).mono ?_
        rintro e wB ⟨v1, rfl, hv1, hv1', hrB, gB⟩
        have ownB := own_pick ownA gB (by omega)
        have lstB := own_pick lstA gB (by omega)
        have belB := below_of_gb belA gB belA.size (Nat.le_refl _)
        have hszB : wS.heap.size ≤ wB.heap.size := Nat.le_trans hszA gB.size
        clear ownA lstA belA hrA gB
        by_cases hn0 : 0 < nx
        · go_wp2_with fail
          refine (pick_c hrB (by omega)).mono ?_
          rintro e wC ⟨v2, rfl, hv2, hv2', hrC, gC⟩
          have ownC := own_pick ownB gC (by omega)
          have lstC := own_pick lstB gC (by omega)
          have belC := below_of_gb belB gC belB.size (Nat.le_refl _)
          have hszC : wS.heap.size ≤ wC.heap.size := Nat.le_trans hszB gC.size
          clear ownB lstB belB hrB gC
          by_cases h20 : 0 < v2
          · go_wp2_with fail
            refine (pick_c hrC (by omega)).mono ?_
            rintro e w3 ⟨v3, rfl, hv3, hv3', hr3, g3⟩
            have own3 := own_pick ownC g3 (by omega)
            have lst3 := own_pick lstC g3 (by omega)
            have bel3 := below_of_gb belC g3 belC.size (Nat.le_refl _)
            have hsz3 : wS.heap.size ≤ w3.heap.size := Nat.le_trans hszC g3.size
            clear ownC lstC belC hrC g3
            obtain ⟨i, rfl⟩ := Int.eq_ofNat_of_zero_le hv3
            have hi : i < nx := by omega
            obtain ⟨gl, rfl, hgl, hgls⟩ := own_form lst3 (by omega)
            have cl := (lst3.cellAt (g := gl) (cap := c2) i (by omega)).trans (map_getElem? xs i (by have := HX.out; omega))
            generalize xs.getD i 0 = x at *
            go_wp2_with fail
            refine (pick_c hr3 (by omega)).mono ?_
            rintro e w7 ⟨v7, rfl, hv7, hv7', hr7, g7⟩
            have own7 := own_pick own3 g7 (by omega)
            have lst7 := own_pick lst3 g7 (by omega)
            have bel7 := below_of_gb bel3 g7 bel3.size (Nat.le_refl _)
            have hsz7 : wS.heap.size ≤ w7.heap.size := Nat.le_trans hsz3 g7.size
            clear own3 lst3 bel3 hr3 g7
            go_wp2_with fail
            refine (pick_c hr7 (by omega)).mono ?_
            rintro e w8 ⟨v8, rfl, hv8, hv8', hr8, g8⟩
            have own8 := own_pick own7 g8 (by omega)
            have lst8 := own_pick lst7 g8 (by omega)
            have bel8 := below_of_gb bel7 g8 bel7.size (Nat.le_refl _)
            have hsz8 : wS.heap.size ≤ w8.heap.size := Nat.le_trans hsz7 g8.size
            clear own7 lst7 bel7 hr7 g8
            have hd1 : 0 ≤ v8 / 13 := by omega
            have hd2 : v8 / 13 ≤ 1 := by omega
            have hl8 := own8.lt
            go_wp2_with (at_builtin; refine wpList_appStep (y := x) (z := v7 - v8 / 13) rfl rfl rfl own8 rfl (by omega) hsz8 ?_; rintro g9 c9 w9 ow9 gg9 hge9)
            have lst9 := own_other lst8 gg9 (fun k hk e => by have h1 := hl8 k e; have h2 := hll k hk; omega)
            have bel9 := bel8.grown gg9 bel8.size (fun k hk => by have := hl8 k hk; omega)
            have hr9 := hr8.grown gg9 (fun k hk => by have := hl8 k hk; omega)
            have hsz9 : wS.heap.size ≤ w9.heap.size := Nat.le_trans hsz8 gg9.size
            go_roundw
            case rel => exact ⟨j - 1, ps ++ [(x, v7 - v8 / 13)], _, _, m + 1, by go_num, by omega, by rw [List.length_append, HP.out]; rfl, rfl, ow9, lst9, hr9.mono (by omega), bel9, hsz9⟩
            case measure => simp [intOf]; omega
          · have hd : decide (0 < v2) = false := by simp; omega
            have own3 := ownC
            have lst3 := lstC
            have bel3 := belC
            have hr3 := hrC
            have hsz3 := hszC
            clear ownC lstC belC hrC hszC
            go_wp2_with fail
            refine (pick_c hr3 (by omega)).mono ?_
            rintro e w7 ⟨v7, rfl, hv7, hv7', hr7, g7⟩
            have own7 := own_pick own3 g7 (by omega)
            have lst7 := own_pick lst3 g7 (by omega)
            have bel7 := below_of_gb bel3 g7 bel3.size (Nat.le_refl _)
            have hsz7 : wS.heap.size ≤ w7.heap.size := Nat.le_trans hsz3 g7.size
            clear own3 lst3 bel3 hr3 g7
            go_wp2_with fail
            refine (pick_c hr7 (by omega)).mono ?_
            rintro e w8 ⟨v8, rfl, hv8, hv8', hr8, g8⟩
            have own8 := own_pick own7 g8 (by omega)
            have lst8 := own_pick lst7 g8 (by omega)
            have bel8 := below_of_gb bel7 g8 bel7.size (Nat.le_refl _)
            have hsz8 : wS.heap.size ≤ w8.heap.size := Nat.le_trans hsz7 g8.size
            clear own7 lst7 bel7 hr7 g8
            have hd1 : 0 ≤ v8 / 13 := by omega
            have hd2 : v8 / 13 ≤ 1 := by omega
            have hl8 := own8.lt
            go_wp2_with (at_builtin; refine wpList_appStep (y := v1) (z := v7 - v8 / 13) rfl rfl rfl own8 rfl (by omega) hsz8 ?_; rintro g9 c9 w9 ow9 gg9 hge9)
            have lst9 := own_other lst8 gg9 (fun k hk e => by have h1 := hl8 k e; have h2 := hll k hk; omega)
            have bel9 := bel8.grown gg9 bel8.size (fun k hk => by have := hl8 k hk; omega)
            have hr9 := hr8.grown gg9 (fun k hk => by have := hl8 k hk; omega)
            have hsz9 : wS.heap.size ≤ w9.heap.size := Nat.le_trans hsz8 gg9.size
            go_roundw
            case rel => exact ⟨j - 1, ps ++ [(v1, v7 - v8 / 13)], _, _, m + 1, by go_num, by omega, by rw [List.length_append, HP.out]; rfl, rfl, ow9, lst9, hr9.mono (by omega), bel9, hsz9⟩
            case measure => simp [intOf]; omega
        · have hd : decide (0 < nx) = false := by simp; omega
          have own3 := ownB
          have lst3 := lstB
          have bel3 := belB
          have hr3 := hrB
          have hsz3 := hszB
          clear ownB lstB belB hrB hszB
          go_wp2_with fail
          refine (pick_c hr3 (by omega)).mono ?_
          rintro e w7 ⟨v7, rfl, hv7, hv7', hr7, g7⟩
          have own7 := own_pick own3 g7 (by omega)
          have lst7 := own_pick lst3 g7 (by omega)
          have bel7 := below_of_gb bel3 g7 bel3.size (Nat.le_refl _)
          have hsz7 : wS.heap.size ≤ w7.heap.size := Nat.le_trans hsz3 g7.size
          clear own3 lst3 bel3 hr3 g7
          go_wp2_with fail
          refine (pick_c hr7 (by omega)).mono ?_
          rintro e w8 ⟨v8, rfl, hv8, hv8', hr8, g8⟩
          have own8 := own_pick own7 g8 (by omega)
          have lst8 := own_pick lst7 g8 (by omega)
          have bel8 := below_of_gb bel7 g8 bel7.size (Nat.le_refl _)
          have hsz8 : wS.heap.size ≤ w8.heap.size := Nat.le_trans hsz7 g8.size
          clear own7 lst7 bel7 hr7 g8
          have hd1 : 0 ≤ v8 / 13 := by omega
          have hd2 : v8 / 13 ≤ 1 := by omega
          have hl8 := own8.lt
          go_wp2_with (at_builtin; refine wpList_appStep (y := v1) (z := v7 - v8 / 13) rfl rfl rfl own8 rfl (by omega) hsz8 ?_; rintro g9 c9 w9 ow9 gg9 hge9)
          have lst9 := own_other lst8 gg9 (fun k hk e => by have h1 := hl8 k e; have h2 := hll k hk; omega)
          have bel9 := bel8.grown gg9 bel8.size (fun k hk => by have := hl8 k hk; omega)
          have hr9 := hr8.grown gg9 (fun k hk => by have := hl8 k hk; omega)
          have hsz9 : wS.heap.size ≤ w9.heap.size := Nat.le_trans hsz8 gg9.size
          go_roundw
          case rel => exact ⟨j - 1, ps ++ [(v1, v7 - v8 / 13)], _, _, m + 1, by go_num, by omega, by rw [List.length_append, HP.out]; rfl, rfl, ow9, lst9, hr9.mono (by omega), bel9, hsz9⟩
          case measure => simp [intOf]; omega
      · have hd : decide (0 < j) = false := by simp; omega
        go_wp2_with fail
        go_ret2
        exact drawnLS_of HX.out HP.out h100 (by omega) lstA ownA belA (by omega) (by omega)
end Go.Proofs.Ytiodnicpecjagaa
