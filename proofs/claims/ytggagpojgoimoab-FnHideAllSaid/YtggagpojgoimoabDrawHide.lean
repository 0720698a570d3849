/- DrawHideAll's contract (some list of at most 40 integers), and the walk of the law FnHideAll. -/
import Derived.Test.YtggagpojgoimoabDraw
import Derived.Test.YtggagpojgoimoabHide
import Derived.Test.YtggagpojgoimoabAlive
import Derived.Test.YtggagpojgoimoabDrawList
namespace Go.Proofs.Ytggagpojgoimoab
open Go.ChangeShapes Go.WideShapes Go.ChangeAt Go.RowKit
set_option linter.unusedVariables false
set_option linter.unusedSimpArgs false

theorem l20Values_c {B g p : Nat} {w : World} (h : Rdr w B g p) (hp : p < 900000) :
    Calls Try.prog 20 #[.pointer (some ⟨g, 0, none⟩), .int .i64 9] w (DrawL B g p w) := by
  have hlt := h.lt
  go_enter Try.func20, Try.ntmps20
  go_wp2_with fail
  have o0 : (w.alloc (.cells #[] 3)).ownsRow w.heap.size 3 1 (.slice (some ⟨w.heap.size, 0, none⟩) 0 0) 0 (([] : List Int).map (Value.int .i64)) := World.ownsRow_lit w #[] 0 (Nat.le_refl _) (by decide) rfl
  refine (pick_c (h.alloc _) (by omega)).mono ?_
  rintro e w1 ⟨v1, rfl, hv1, hv1', h1, g1⟩
  have o1 := own_pick o0 g1 (by omega)
  have G1 : w.grownBy w1 (some g) := gb_trans (gb_alloc (World.grownBy.refl _ _) _) g1
  go_wp2_with fail
  refine (pick_c h1 (by omega)).mono ?_
  rintro e w2 ⟨v2, rfl, hv2, hv2', h2, g2⟩
  have o2 := own_pick o1 g2 (by omega)
  have G2 := gb_trans G1 g2
  clear o0 o1 G1 g1 g2 h1 h
  go_wp2_with fail
  go_loopw [5, 6, 7] (fun v val kk wr => ∃ (j : Nat) (xs : List Int) (A : Option Addr) (c : Nat) (x : Int) (m : Nat), kk = .int .i64 j ∧ j + m ≤ 20 ∧ xs.length = m ∧ v = .slice A m c ∧ val = .int .i64 x ∧ wr.ownsRow w.heap.size 3 1 v m (xs.map (Value.int .i64)) ∧ Rdr wr B g (p + 2 + 2 * m) ∧ w.grownBy wr (some g)) (fun _ _ kk _ => (intOf kk).toNat)
  case atStart =>
    obtain ⟨j, rfl⟩ := Int.eq_ofNat_of_zero_le hv2
    exact ⟨j, [], _, _, _, 0, rfl, by omega, rfl, rfl, rfl, o2, h2, G2⟩
  case round =>
    obtain ⟨j, xs, A, c, x, m, rfl, hjm, hxl, rfl, rfl, own, hr, G⟩ := hrel
    have hlr := hr.lt
    have hsz := G.size
    have HX := Lib.hid hxl
    clear hxl o2 h2 G2
    by_cases hj : 0 < j
    · have HG := Lib.hid G
      clear G
      go_wp2_with (at_builtin; refine wpList_appI rfl rfl rfl own rfl (by omega) hsz ?_; rintro ga ca wa owna hga hgea)
      have Ga := gb_app HG.out own hga
      have hra := Rdr.grown hr hga (fun k hk => by have := own.lt k hk; omega)
      clear hga own hr HG
      go_wp2_with fail
      refine (pick_c hra (by omega)).mono ?_
      rintro e wb ⟨v3, rfl, hv3, hv3', h3, g3⟩
      have ob := own_pick owna g3 (by omega)
      have Gb := gb_trans Ga g3
      have hszb := Gb.size
      clear owna Ga g3 hra
      by_cases hv : v3 = 0
      · subst hv
        go_wp2_with fail
        refine (pick_c h3 (by omega)).mono ?_
        rintro e wc ⟨v4, rfl, hv4, hv4', h4, g4⟩
        have oc := own_pick ob g4 (by omega)
        have Gc := gb_trans Gb g4
        clear ob Gb g4 h3
        go_wp2_with fail
        go_roundw
        case rel => exact ⟨j - 1, xs ++ [x], _, _, _, m + 1, by go_num, by omega, by rw [List.length_append, HX.out]; rfl, rfl, rfl, oc, h4.mono (by omega), Gc⟩
        case measure => simp [intOf]; omega
      · have hv' : (v3 == 0) = false := by simp [hv]
        go_wp2_with fail
        go_roundw
        case rel => exact ⟨j - 1, xs ++ [x], _, _, _, m + 1, by go_num, by omega, by rw [List.length_append, HX.out]; rfl, rfl, rfl, ob, h3.mono (by omega), Gb⟩
        case measure => simp [intOf]; omega
    · obtain rfl : j = 0 := by omega
      go_wp2_with fail
      refine (odd_c hr (by omega) (by omega) (by omega)).mono ?_
      rintro e wb ⟨b, rfl, h3, g3⟩
      have ob := own_pick own g3 (by omega)
      have Gb := gb_trans G g3
      have hszb := Gb.size
      clear own G g3 hr
      cases b
      · go_wp2_with fail
        go_ret
        exact drawL_of HX.out (by omega) ob (h3.mono (by omega)) Gb
      · go_wp2_with fail
        refine (pick_c h3 (by omega)).mono ?_
        rintro e wc ⟨v4, rfl, hv4, hv4', h4, g4⟩
        have oc := own_pick ob g4 (by omega)
        have Gc := gb_trans Gb g4
        have hszc := Gc.size
        have hltc := h4.lt
        clear ob Gb g4 h3
        by_cases hv : v4 = 0
        · subst hv
          have hmk : ∀ W : World, (Instr.makeSlice 22 (.int .i64 31) (.int .i64 31)).run Try.prog W = .ok (.slice (some ⟨W.heap.size, 0, none⟩) 31 31) (W.alloc (.cells (cellsI (List.replicate 31 0)) 3)) := fun W => make_ints 31 (by omega) W
          go_wp2_with fail
          go_ret
          have on := RowI.own (base := w.heap.size) (w := wc.alloc (.cells (cellsI (List.replicate 31 0)) 3)) (g := wc.heap.size) (xs := List.replicate 31 0) (Blk.new _ _ _) hszc (by decide)
          exact drawL_of (xs := List.replicate 31 0) (by simp) (by omega) on ((h4.alloc _).mono (by omega)) (gb_alloc Gc _)
        · have hv' : (v4 == 0) = false := by simp [hv]
          go_wp2_with fail
          have ocn := oc.alloc (.cells #[.int .i64 (-1), .int .i64 10000] 3)
          refine (pick_c (h4.alloc _) (by omega)).mono ?_
          rintro e wd ⟨v5, rfl, hv5, hv5', h5, g5⟩
          have od := own_pick ocn g5 (by omega)
          have Gd := gb_trans (gb_alloc Gc _) g5
          have hszd := Gd.size
          have kk1 : Blk wd wc.heap.size 3 #[.int .i64 (-1), .int .i64 10000] := (Blk.new wc 3 _).grown g5 (by intro e; injection e with e; omega)
          obtain ⟨y, hy1, hy2, hc1⟩ := tab_at [-1, 10000] kk1 (-1) 10000 (by simp) hv5 (by simp; omega)
          have hv6 : v5 < 2 := by omega
          clear kk1 g5 ocn Gc oc h4
          go_wp2_with (at_builtin; refine wpList_appI rfl rfl rfl od rfl (by omega) hszd ?_; rintro ga ca wa owna hga hgea)
          have hra := Rdr.grown h5 hga (fun k hk => by have := od.lt k hk; omega)
          go_ret
          exact drawL_of (by rw [List.length_append, HX.out]; rfl) (by omega) owna (hra.mono (by omega)) (gb_app Gd od hga)

def DrawHA (w : World) (e : Ending) (w' : World) : Prop :=
  ∃ (key place : Int) (ys : List Int) (A : Option Addr) (c : Nat), e = .returned (.tuple #[.int .i64 key, .int .i64 place, .slice A ys.length c]) ∧ ys.length ≤ 100 ∧ w'.ownsRow w.heap.size 3 1 (.slice A ys.length c) ys.length (ys.map (Value.int .i64)) ∧ Below w.heap.size w w'
theorem drawHideAll_c {A : Option Addr} {n c : Nat} {xs : List Int} {w : World} (hr : RdI .u8 w w.heap.size A n xs) (hx : ∀ x ∈ xs, 0 ≤ x ∧ x ≤ 255) (hnc : n ≤ c) (hcm : c ≤ 9223372036854775807) :
    Calls Try.prog 11 #[.slice A n c] w (DrawHA w) := by
  go_enter Try.func11, Try.ntmps11
  go_wp2_with (first
    | (go_at_call 18; refine (open_c hr hx hnc hcm).mono ?_; rintro e w1 ⟨rfl, h1, bel1⟩))
  refine (pick_b h1 bel1 (by omega)).mono ?_; rintro e w2 ⟨v1, rfl, hv11, hv12, h2, bel2, g2⟩
  go_wp2_with fail
  refine (pick_b h2 bel2 (by omega)).mono ?_; rintro e w3 ⟨v2, rfl, hv21, hv22, h3, bel3, g3⟩
  go_wp2_with fail
  clear g2 g3 h1 h2 bel1 bel2
  refine (pick_c h3 (by omega)).mono ?_; rintro e w3a ⟨v3, rfl, hv31, hv32, h3a, g3a⟩
  go_wp2_with fail
  refine (pick_c ((h3a.alloc _).alloc _) (by omega)).mono ?_; rintro e w4 ⟨u3, rfl, hu31, hu32, h4, g4⟩
  have hlt3a := h3a.lt
  have hlt4 := h4.lt
  have kk1 : Blk w4 w3a.heap.size 3 #[.int .i64 v3, .int .i64 1000, .int .i64 1001, .int .i64 (-1)] := ((Blk.new w3a 3 _).alloc _).grown g4 (by intro e; injection e with e; omega)
  have kk2 : Blk w4 (w3a.heap.size + 1) 3 #[.int .i64 0, .int .i64 0, .int .i64 0, .int .i64 0, .int .i64 0, .int .i64 1, .int .i64 2, .int .i64 3] := (Blk.new1 w3a _ 3 _).grown g4 (by intro e; injection e with e; omega)
  obtain ⟨x3, hx31, hx32, hc31⟩ := tab_at [0, 0, 0, 0, 0, 1, 2, 3] kk2 0 3 (by decide) hu31 (by simp; omega)
  obtain ⟨y3, hy31, hy32, hc32⟩ := tab_at [v3, 1000, 1001, (-1)] kk1 (-1) 1000001 (by simp; omega) hx31 (by simp; omega)
  have hu33 : u3 < 8 := by omega
  have hx33 : x3 < 4 := by omega
  clear kk1 kk2
  go_wp2_with fail
  clear hc31 hc32
  have bel4 : Below w.heap.size w w4 := below_of_gb (((below_of_gb bel3 g3a (by have := bel3.size; omega) (by omega)).alloc (by omega) _).alloc (by simp; omega) _) g4 (by simp; omega) (by omega)
  clear g3a g4 h3 h3a
  go_wp2_with fail
  have hs4 := bel4.size
  refine (l20Values_c h4 (by omega)).mono ?_
  rintro e w5 ⟨ys, A5, c5, rfl, hy5, o5, h5, G5⟩
  go_wp2_with fail
  go_ret3
  exact ⟨_, _, ys, A5, c5, rfl, hy5, ownsRow_base o5 hs4, below_of_gb bel4 G5 hs4 h4.1⟩
end Go.Proofs.Ytggagpojgoimoab
