/- The drawn lists of places: some integers in new memory. No condition. Printed by a program of mine (gendrawplaces.py). -/
import Derived.Test.YtiodnicpecjagaaDrawList
import Derived.Test.YtiodnicpecjagaaPlaces
import Derived.Test.YtiodnicpecjagaaClone
namespace Go.Proofs.Ytiodnicpecjagaa
open Go.ChangeShapes Go.WideShapes Go.ChangeAt Go.RowKit
set_option linter.unusedVariables false
set_option linter.unusedSimpArgs false

theorem placesOk_nil : PlacesOk [] := ⟨by simp, PreOk.zero _⟩
set_option maxHeartbeats 4000000 in
theorem l20Places_c {B g p : Nat} {nn : Int} {w : World} (h : Rdr w B g p) (hp : p < 900000) (hn1 : 0 < nn) (hn2 : nn < 1000000) :
    Calls Try.prog 36 #[.pointer (some ⟨g, 0, none⟩), .int .i64 nn] w (DrawL B g p w) := by
  have hlt := h.lt
  go_enter Try.func36, Try.ntmps36
  go_wp2_with fail
  have o0 : (w.alloc (.cells #[] 3)).ownsRow w.heap.size 3 1 (.slice (some ⟨w.heap.size, 0, none⟩) 0 0) 0 (([] : List Int).map (Value.int .i64)) := World.ownsRow_lit w #[] 0 (Nat.le_refl _) (by decide) rfl
  refine (pick_c (h.alloc _) (by omega)).mono ?_
  rintro e w1 ⟨v1, rfl, hv1, hv1', h1, g1⟩
  have o1 := own_pick o0 g1 (by omega)
  have G1 : w.grownBy w1 (some g) := gb_trans (gb_alloc (World.grownBy.refl _ _) _) g1
  clear o0 g1 h
  go_wp2_with fail
  go_loopw [5, 6] (fun v kk wr => ∃ (j : Nat) (xs : List Int) (A : Option Addr) (c : Nat) (m : Nat), kk = .int .i64 j ∧ j + m ≤ 8 ∧ xs.length = m ∧ PlacesOk xs ∧ v = .slice A m c ∧ wr.ownsRow w.heap.size 3 1 v m (xs.map (Value.int .i64)) ∧ Rdr wr B g (p + 2 + 2 * (8 - j)) ∧ w.grownBy wr (some g)) (fun _ kk _ => (intOf kk).toNat)
  case atStart =>
    obtain ⟨j, rfl⟩ := Int.eq_ofNat_of_zero_le hv1
    exact ⟨j, [], _, _, 0, rfl, by omega, rfl, placesOk_nil, rfl, o1, h1.mono (by omega), G1⟩
  case round =>
    obtain ⟨j, xs, A, c, m, rfl, hjm, hxl, hpo, rfl, own, hr, G⟩ := hrel
    have hlr := hr.lt
    have hsz := G.size
    have HX := Lib.hid hxl
    have HPO := Lib.hid hpo
    clear hxl hpo o1 h1 G1
    by_cases hj : 0 < j
    · go_wp2_with fail
      refine (pick_c hr (by omega)).mono ?_
      rintro e wa ⟨x, rfl, hx1, hx2, ha, ga⟩
      have oa0 := own_pick own ga (by omega)
      have Ga0 := gb_trans G ga
      have hsa := Ga0.size
      have hla := ha.lt
      have hx3 : x ≤ 24 := by omega
      clear own G ga hr hx2
      by_cases hm : m < 1
      · obtain ⟨wb, rfl⟩ : ∃ wb : World, wb = wa := ⟨_, rfl⟩
        have oa := oa0
        have Ga := Ga0
        have hb : Rdr wb B g (p + 2 + 2 * (8 - j) + 1 + 1) := ha.mono (by omega)
        have qa := oa.lt
        clear oa0 Ga0 ha
        have on0 : (wb.alloc (.cells #[] 3)).ownsRow wb.heap.size 3 1 (.slice (some ⟨wb.heap.size, 0, none⟩) 0 0) 0 (([] : List Int).map (Value.int .i64)) := World.ownsRow_lit wb #[] 0 (Nat.le_refl _) (by decide) rfl
        have oa1 := oa.alloc (.cells #[] 3)
        have hnil := own_nil oa
        have rd1 := rdoI oa1
        go_wp2_with (first
          | (at_builtin
             refine wpList_appMany (s := .tmp 32) (x := .tmp 33) rfl rfl rfl on0 rfl hnil rd1 (by omega) (by simp) ?_
             rintro A5 c5 w5 o5 g5
             rw [Nat.zero_add, List.nil_append] at o5
             replace g5 : (wb.alloc (.cells #[] 3)).grownBy w5 (some wb.heap.size) := g5
             have oa5 := own_other oa1 g5 (fun k hk e => by injection e with e; have := oa.lt k hk; omega)
             have G5 := gb_step (gb_alloc Ga (.cells #[] 3)) g5 (fun k hk => by injection hk with hk; omega)
             have h5 := (hb.alloc (.cells #[] 3)).grown g5 (fun k hk => by injection hk with hk; omega)
             have hs5 := g5.size
             simp only [World.size_alloc] at hs5
             have hs5' : wb.heap.size ≤ w5.heap.size := by omega
             have q5 := o5.lt
             clear on0 oa1 g5 oa Ga hb)
          | (at_builtin
             refine wpList_appI (s := .tmp 34) (x := .tmp 36) rfl rfl rfl o5 rfl (by omega) hs5' ?_
             rintro g6 c6 w6 o6 gg6 hge6
             have oa6 := own_other oa5 gg6 (fun k hk e => by have h1 := q5 k e; have h2 := oa5.lt k hk; have h3 := qa k hk; omega)
             have G6 := gb_step G5 gg6 (fun k hk => by have := q5 k hk; omega)
             have h6 := h5.grown gg6 (fun k hk => by have := q5 k hk; omega)
             have hs6 := G6.size
             clear o5 oa5 G5 h5 gg6 q5))
        refine (placesValid_spec (rdoI o6) (by omega)).mono ?_
        rintro e w7 ⟨rfl, m7, rfl⟩
        have oa7 : (w6.drewN m7).ownsRow w.heap.size 3 1 (.slice A m c) m (xs.map (Value.int .i64)) := oa6
        have G7 := gb_drewN G6 m7
        have h7 := h6.drewN m7
        have hs7 := G7.size
        rcases Bool.eq_false_or_eq_true (bof (PlacesOk (xs ++ [x]))) with hbo | hbo
        · have HPN := Lib.hid (bof_t.1 hbo)
          clear oa6 G6 h6 o6
          go_wp2_with (at_builtin; refine wpList_appI rfl rfl rfl oa7 rfl (by omega) hs7 ?_; rintro g8 c8 w8 o8 gg8 hge8)
          have G8 := gb_app G7 oa7 gg8
          have h8 := h7.grown gg8 (fun k hk => by have := oa7.lt k hk; omega)
          go_roundw
          case rel => exact ⟨j - 1, xs ++ [x], _, _, m + 1, by go_num, by omega, by rw [List.length_append, HX.out]; rfl, HPN.out, rfl, o8, h8.mono (by omega), G8⟩
          case measure => simp [intOf]; omega
        · clear oa6 G6 h6 o6
          go_wp2_with fail
          go_roundw
          case rel => exact ⟨j - 1, xs, _, _, m, by go_num, by omega, HX.out, HPO.out, rfl, oa7, h7.mono (by omega), G7⟩
          case measure => simp [intOf]; omega
      · have hm1 : 0 < m := by omega
        go_wp2_with fail
        refine (pick_c ha (by omega)).mono ?_
        rintro e wb ⟨v2, rfl, hv3, hv4, hb, gb⟩
        have oa := own_pick oa0 gb (by omega)
        have Ga := gb_trans Ga0 gb
        have hsb := Ga.size
        have hlb := hb.lt
        have qa := oa.lt
        clear ha gb oa0 Ga0
        by_cases hv : v2 = 0
        · subst hv
          obtain ⟨go, hgo, hgob, hgos⟩ := own_form oa hm1
          subst hgo
          have f0 := (oa.cellAt (g := go) (cap := c) (m - 1) (by omega)).trans (map_getElem? xs (m - 1) (by have := HX.out; omega))
          have hyv := HPO.out.2.1 (m - 1) (by have := HX.out; omega)
          generalize xs.getD (m - 1) 0 = y at *
          obtain ⟨hy1, hy2⟩ := hyv
          obtain ⟨A, hA⟩ : ∃ A : Option Addr, A = some ⟨go, 0, none⟩ := ⟨_, rfl⟩
          have on0 : (wb.alloc (.cells #[] 3)).ownsRow wb.heap.size 3 1 (.slice (some ⟨wb.heap.size, 0, none⟩) 0 0) 0 (([] : List Int).map (Value.int .i64)) := World.ownsRow_lit wb #[] 0 (Nat.le_refl _) (by decide) rfl
          have oa1 := oa.alloc (.cells #[] 3)
          have hnil := own_nil oa
          have rd1 := rdoI oa1
          go_wp2_with (first
            | (at_builtin
               refine wpList_appMany (s := .tmp 32) (x := .tmp 33) rfl rfl rfl on0 rfl hnil rd1 (by omega) (by simp) ?_
               rintro A5 c5 w5 o5 g5
               rw [Nat.zero_add, List.nil_append] at o5
               replace g5 : (wb.alloc (.cells #[] 3)).grownBy w5 (some wb.heap.size) := g5
               have oa5 := own_other oa1 g5 (fun k hk e => by injection e with e; have := oa.lt k hk; omega)
               have G5 := gb_step (gb_alloc Ga (.cells #[] 3)) g5 (fun k hk => by injection hk with hk; omega)
               have h5 := (hb.alloc (.cells #[] 3)).grown g5 (fun k hk => by injection hk with hk; omega)
               have hs5 := g5.size
               simp only [World.size_alloc] at hs5
               have hs5' : wb.heap.size ≤ w5.heap.size := by omega
               have q5 := o5.lt
               clear on0 oa1 g5 oa Ga hb)
            | (at_builtin
               refine wpList_appI (s := .tmp 34) (x := .tmp 36) rfl rfl rfl o5 rfl (by omega) hs5' ?_
               rintro g6 c6 w6 o6 gg6 hge6
               have oa6 := own_other oa5 gg6 (fun k hk e => by have h1 := q5 k e; have h2 := oa5.lt k hk; have h3 := qa k hk; omega)
               have G6 := gb_step G5 gg6 (fun k hk => by have := q5 k hk; omega)
               have h6 := h5.grown gg6 (fun k hk => by have := q5 k hk; omega)
               have hs6 := G6.size
               clear o5 oa5 G5 h5 gg6 q5))
          refine (placesValid_spec (rdoI o6) (by omega)).mono ?_
          rintro e w7 ⟨rfl, m7, rfl⟩
          have oa7 : (w6.drewN m7).ownsRow w.heap.size 3 1 (.slice (some ⟨go, 0, none⟩) m c) m (xs.map (Value.int .i64)) := oa6
          have G7 := gb_drewN G6 m7
          have h7 := h6.drewN m7
          have hs7 := G7.size
          rcases Bool.eq_false_or_eq_true (bof (PlacesOk (xs ++ [y + 1]))) with hbo | hbo
          · have HPN := Lib.hid (bof_t.1 hbo)
            clear oa6 G6 h6 o6
            go_wp2_with (at_builtin; refine wpList_appI rfl rfl rfl oa7 rfl (by omega) hs7 ?_; rintro g8 c8 w8 o8 gg8 hge8)
            have G8 := gb_app G7 oa7 gg8
            have h8 := h7.grown gg8 (fun k hk => by have := oa7.lt k hk; omega)
            go_roundw
            case rel => exact ⟨j - 1, xs ++ [y + 1], _, _, m + 1, by go_num, by omega, by rw [List.length_append, HX.out]; rfl, HPN.out, rfl, o8, h8.mono (by omega), G8⟩
            case measure => simp [intOf]; omega
          · clear oa6 G6 h6 o6
            go_wp2_with fail
            go_roundw
            case rel => exact ⟨j - 1, xs, _, _, m, by go_num, by omega, HX.out, HPO.out, rfl, oa7, h7.mono (by omega), G7⟩
            case measure => simp [intOf]; omega
        · have hv' : (v2 == 0) = false := by simp [hv]
          have on0 : (wb.alloc (.cells #[] 3)).ownsRow wb.heap.size 3 1 (.slice (some ⟨wb.heap.size, 0, none⟩) 0 0) 0 (([] : List Int).map (Value.int .i64)) := World.ownsRow_lit wb #[] 0 (Nat.le_refl _) (by decide) rfl
          have oa1 := oa.alloc (.cells #[] 3)
          have hnil := own_nil oa
          have rd1 := rdoI oa1
          go_wp2_with (first
            | (at_builtin
               refine wpList_appMany (s := .tmp 32) (x := .tmp 33) rfl rfl rfl on0 rfl hnil rd1 (by omega) (by simp) ?_
               rintro A5 c5 w5 o5 g5
               rw [Nat.zero_add, List.nil_append] at o5
               replace g5 : (wb.alloc (.cells #[] 3)).grownBy w5 (some wb.heap.size) := g5
               have oa5 := own_other oa1 g5 (fun k hk e => by injection e with e; have := oa.lt k hk; omega)
               have G5 := gb_step (gb_alloc Ga (.cells #[] 3)) g5 (fun k hk => by injection hk with hk; omega)
               have h5 := (hb.alloc (.cells #[] 3)).grown g5 (fun k hk => by injection hk with hk; omega)
               have hs5 := g5.size
               simp only [World.size_alloc] at hs5
               have hs5' : wb.heap.size ≤ w5.heap.size := by omega
               have q5 := o5.lt
               clear on0 oa1 g5 oa Ga hb)
            | (at_builtin
               refine wpList_appI (s := .tmp 34) (x := .tmp 36) rfl rfl rfl o5 rfl (by omega) hs5' ?_
               rintro g6 c6 w6 o6 gg6 hge6
               have oa6 := own_other oa5 gg6 (fun k hk e => by have h1 := q5 k e; have h2 := oa5.lt k hk; have h3 := qa k hk; omega)
               have G6 := gb_step G5 gg6 (fun k hk => by have := q5 k hk; omega)
               have h6 := h5.grown gg6 (fun k hk => by have := q5 k hk; omega)
               have hs6 := G6.size
               clear o5 oa5 G5 h5 gg6 q5))
          refine (placesValid_spec (rdoI o6) (by omega)).mono ?_
          rintro e w7 ⟨rfl, m7, rfl⟩
          have oa7 : (w6.drewN m7).ownsRow w.heap.size 3 1 (.slice A m c) m (xs.map (Value.int .i64)) := oa6
          have G7 := gb_drewN G6 m7
          have h7 := h6.drewN m7
          have hs7 := G7.size
          rcases Bool.eq_false_or_eq_true (bof (PlacesOk (xs ++ [x]))) with hbo | hbo
          · have HPN := Lib.hid (bof_t.1 hbo)
            clear oa6 G6 h6 o6
            go_wp2_with (at_builtin; refine wpList_appI rfl rfl rfl oa7 rfl (by omega) hs7 ?_; rintro g8 c8 w8 o8 gg8 hge8)
            have G8 := gb_app G7 oa7 gg8
            have h8 := h7.grown gg8 (fun k hk => by have := oa7.lt k hk; omega)
            go_roundw
            case rel => exact ⟨j - 1, xs ++ [x], _, _, m + 1, by go_num, by omega, by rw [List.length_append, HX.out]; rfl, HPN.out, rfl, o8, h8.mono (by omega), G8⟩
            case measure => simp [intOf]; omega
          · clear oa6 G6 h6 o6
            go_wp2_with fail
            go_roundw
            case rel => exact ⟨j - 1, xs, _, _, m, by go_num, by omega, HX.out, HPO.out, rfl, oa7, h7.mono (by omega), G7⟩
            case measure => simp [intOf]; omega
    · obtain rfl : j = 0 := by omega
      go_wp2_with fail
      refine (odd_c hr (by omega) (by omega) (by omega)).mono ?_
      rintro e wb ⟨b, rfl, h3, g3⟩
      have ob := own_pick own g3 (by omega)
      have Gb := gb_trans G g3
      have hszb := Gb.size
      clear own G g3 hr
      cases b
      · go_wp2_with fail
        go_ret
        exact drawL_of HX.out (by omega) ob (h3.mono (by omega)) Gb
      · go_wp2_with fail
        have ocn := ob.alloc (.cells #[.int .i64 (-1), .int .i64 24] 3)
        refine (pick_c (h3.alloc _) (by omega)).mono ?_
        rintro e wd ⟨v5, rfl, hv5, hv5', h5, g5⟩
        have od := own_pick ocn g5 (by omega)
        have Gd := gb_trans (gb_alloc Gb _) g5
        have hszd := Gd.size
        have hltb := h3.lt
        have kk1 : Blk wd wb.heap.size 3 #[.int .i64 (-1), .int .i64 24] := (Blk.new wb 3 _).grown g5 (by intro e; injection e with e; omega)
        obtain ⟨y, hy1, hy2, hc1⟩ := tab_at [-1, 24] kk1 (-1) 24 (by simp) hv5 (by simp; omega)
        have hv6 : v5 < 2 := by omega
        clear kk1 g5 ocn Gb ob h3
        go_wp2_with (at_builtin; refine wpList_appNew [y, 3, 3] rfl rfl rfl od rfl rfl (by omega) hszd ?_; rintro A8 c8 wa owna hga)
        have hra := Rdr.grown h5 hga (fun k hk => by have := od.lt k hk; omega)
        go_ret
        exact drawL_of (by rw [List.length_append, HX.out]; rfl) (by omega) owna (hra.mono (by omega)) (gb_app Gd od hga)
end Go.Proofs.Ytiodnicpecjagaa
