/- The drawn logs: some integers in new memory. No condition. -/
import Derived.Test.YtcaagjepiicleaaDrawList
import Derived.Test.YtcaagjepiicleaaLog
import Derived.Test.YtcaagjepiicleaaClone
import Derived.Test.YtcaagjepiicleaaPhase
import Derived.Deep.AppendLies
namespace Go.Proofs.Ytcaagjepiicleaa
open Go.ChangeShapes Go.WideShapes Go.ChangeAt Go.RowKit
set_option linter.unusedVariables false
set_option linter.unusedSimpArgs false

/-- a made row of k integers -/
def LogRow (w W : World) (v : Value) (k : Nat) : Prop := ∃ (zs : List Int) (A : Option Addr), zs.length = k ∧ v = .slice A k k ∧ W.ownsRow w.heap.size 3 1 (.slice A k k) k (zs.map (Value.int .i64))
theorem LogRow.alloc {w W : World} {v : Value} {k : Nat} (h : LogRow w W v k) (o : Obj) : LogRow w (W.alloc o) v k := by
  obtain ⟨zs, A, h1, h2, h3⟩ := h; exact ⟨zs, A, h1, h2, h3.alloc o⟩
theorem LogRow.pick {w W W' : World} {v : Value} {k g : Nat} (h : LogRow w W v k) (hg : W.grownBy W' (some g)) (hl : g < w.heap.size) : LogRow w W' v k := by
  obtain ⟨zs, A, h1, h2, h3⟩ := h; exact ⟨zs, A, h1, h2, own_pick h3 hg hl⟩

set_option maxHeartbeats 4000000 in
theorem l20Log_c {B g p : Nat} {nn : Int} {w : World} (h : Rdr w B g p) (hp : p < 900000) (hn1 : 0 < nn) (hn2 : nn < 1000000) :
    Calls Try.prog 28 #[.pointer (some ⟨g, 0, none⟩), .int .i64 nn] w (DrawL B g p w) := by
  have hlt := h.lt
  go_enter Try.func28, Try.ntmps28
  go_wp2_with fail
  have o0 : (w.alloc (.cells #[] 3)).ownsRow w.heap.size 3 1 (.slice (some ⟨w.heap.size, 0, none⟩) 0 0) 0 (([] : List Int).map (Value.int .i64)) := World.ownsRow_lit w #[] 0 (Nat.le_refl _) (by decide) rfl
  refine (pick_c (h.alloc _) (by omega)).mono ?_
  rintro e w1 ⟨v1, rfl, hv1, hv1', h1, g1⟩
  have o1 := own_pick o0 g1 (by omega)
  have G1 : w.grownBy w1 (some g) := gb_trans (gb_alloc (World.grownBy.refl _ _) _) g1
  clear o0 g1 h
  go_wp2_with fail
  go_loopw [5, 6] (fun v kk wr => ∃ (j : Nat) (xs : List Int) (A : Option Addr) (c : Nat) (m : Nat), kk = .int .i64 j ∧ 2 * j + m ≤ 20 ∧ j ≤ 9 ∧ xs.length = m ∧ v = .slice A m c ∧ wr.ownsRow w.heap.size 3 1 v m (xs.map (Value.int .i64)) ∧ Rdr wr B g (p + 2 + 2 * (9 - j)) ∧ w.grownBy wr (some g)) (fun _ kk _ => (intOf kk).toNat)
  case atStart =>
    obtain ⟨j, rfl⟩ := Int.eq_ofNat_of_zero_le hv1
    exact ⟨j + 1, [], _, _, 0, by go_num, by omega, by omega, rfl, rfl, o1, h1.mono (by omega), G1⟩
  case round =>
    obtain ⟨j, xs, A, c, m, rfl, hjm, hj9, hxl, rfl, own, hr, G⟩ := hrel
    have hlr := hr.lt
    have hsz := G.size
    have HX := Lib.hid hxl
    clear hxl o1 h1 G1
    by_cases hj : 1 < j
    · go_wp2_with (at_builtin; refine wpList_appI rfl rfl rfl own rfl (by omega) hsz ?_; rintro g1 c1 wa ow1 gg1 hge1)
      have Ga := gb_app G own gg1
      have ha := Rdr.grown hr gg1 (fun k hk => by have := own.lt k hk; omega)
      have hsa := Ga.size
      clear own G gg1 hr
      go_wp2_with fail
      refine (pick_c ha (by omega)).mono ?_
      rintro e wb ⟨v2, rfl, hv2, hv2', hb, gb⟩
      have ob := own_pick ow1 gb (by omega)
      have Gb := gb_trans Ga gb
      have hsb := Gb.size
      clear ow1 Ga gb ha
      by_cases hv : v2 = 0
      · subst hv
        go_wp2_with (at_builtin; refine wpList_appI rfl rfl rfl ob rfl (by omega) hsb ?_; rintro g3 c3 wc oc gg3 hge3)
        have Gc := gb_app Gb ob gg3
        have hc := Rdr.grown hb gg3 (fun k hk => by have := ob.lt k hk; omega)
        clear ob Gb gg3 hb
        go_roundw
        case rel => exact ⟨j - 1, xs ++ [(j : Int)] ++ [0], _, _, m + 1 + 1, by go_num, by omega, by omega, by rw [List.length_append, List.length_append, HX.out]; rfl, rfl, oc, hc.mono (by omega), Gc⟩
        case measure => simp [intOf]; omega
      · have hv' : (v2 == 0) = false := by simp [hv]
        go_wp2_with fail
        go_roundw
        case rel => exact ⟨j - 1, xs ++ [(j : Int)], _, _, m + 1, by go_num, by omega, by omega, by rw [List.length_append, HX.out]; rfl, rfl, ob, hb.mono (by omega), Gb⟩
        case measure => simp [intOf]; omega
    · go_wp2_with fail
      refine (odd_c hr (by omega) (by omega) (by omega)).mono ?_
      rintro e wb ⟨b, rfl, h3, g3⟩
      have ob := own_pick own g3 (by omega)
      have Gb := gb_trans G g3
      have hszb := Gb.size
      clear own G g3 hr
      cases b
      · go_wp2_with fail
        go_ret
        exact drawL_of HX.out (by omega) ob (h3.mono (by omega)) Gb
      · have hmk : ∀ W : World, (Instr.makeSlice 22 (.int .i64 17) (.int .i64 17)).run Try.prog W = .ok (.slice (some ⟨W.heap.size, 0, none⟩) 17 17) (W.alloc (.cells (cellsI (List.replicate 17 0)) 3)) := fun W => make_ints 17 (by omega) W
        go_wp2_with fail
        refine wp_region_any (by kernel_rfl) ?_
        refine wpAny_take (i := 0) (v := ?_) rfl (by kernel_rfl) (by kernel_rfl) (by kernel_rfl) (fun _ _ _ h => h) (Or.inl ⟨by rfl, ?_⟩) ?_
        rotate_left
        · intro w; go_simp
          try with_reducible rfl
        refine wpAny_take (i := 6) (v := ?_) rfl (by kernel_rfl) (by kernel_rfl) (by kernel_rfl) (fun _ _ _ h => h) (Or.inl ⟨by rfl, ?_⟩) ?_
        rotate_left
        · intro w; go_simp
          try with_reducible rfl
        have hb0 : Rdr wb.drew B g (p + 60) := (h3.drewN 1).mono (by omega)
        have ob0 : wb.drew.ownsRow w.heap.size 3 1 (.slice A m c) m (xs.map (Value.int .i64)) := ob
        have Gb0 : w.grownBy wb.drew (some g) := gb_drew Gb
        refine wpAny_phase (k := 4) (fun n l a W => ∃ (b1 b2 b3 b4 b5 b7 : Bool) (v29 v30 v31 v32 v33 v35 : Value), l = #[true, b1, b2, b3, b4, b5, true, b7, false, false, false, false] ∧ n = 6 - (b1.toNat + b2.toNat + b3.toNat + b4.toNat + b5.toNat + b7.toNat)
          ∧ a = { tmps := #[.pointer (some ⟨g, 0, none⟩), .int .i64 nn, undef, undef, .slice none 0 0, .slice A m c, .int .i64 j, .slice (some ⟨w.heap.size, 0, none⟩) 0 0, .pointer (some ⟨g, 0, none⟩), .int .i64 v1, .int .i64 (1 + v1), .int .i64 j, .bool (decide ((1 : Int) < j)), u13, u14, u15, u16, u17, u18, u19, u20, u21, u22, u23, u24, .pointer (some ⟨g, 0, none⟩), .int .i64 nn, .bool true, .slice A m c, v29, v30, v31, v32, v33, .pointer (some ⟨g, 0, none⟩), v35, undef, undef, undef, undef], defers := [] }
          ∧ (b1 = true → LogRow w W v29 2) ∧ (b2 = true → LogRow w W v30 1) ∧ (b3 = true → LogRow w W v31 1) ∧ (b4 = true → LogRow w W v32 17) ∧ (b5 = true → (b1 = true ∧ b2 = true ∧ b3 = true ∧ b4 = true) ∧ ∃ gt, v33 = .slice (some ⟨gt, 0, none⟩) 4 4 ∧ w.heap.size ≤ gt ∧ Blk W gt 22 #[v29, v30, v31, v32]) ∧ (b7 = true → ∃ x : Int, v35 = .int .i64 x ∧ 0 ≤ x ∧ x < 4)
          ∧ W.ownsRow w.heap.size 3 1 (.slice A m c) m (xs.map (Value.int .i64)) ∧ (b7 = false → Rdr W B g (p + 60)) ∧ Rdr W B g (p + 70) ∧ w.grownBy W (some g)) ?_ ?_ ?_ 6 _ _ _ ?_
        · rintro l a W ⟨b1, b2, b3, b4, b5, b7, v29, v30, v31, v32, v33, v35, rfl, hn, rfl, q1, q2, q3, q4, q5, q7, qo, qr0, qr1, qG⟩
          have hbb : b1 = true ∧ b2 = true ∧ b3 = true ∧ b4 = true ∧ b5 = true ∧ b7 = true := by cases b1 <;> cases b2 <;> cases b3 <;> cases b4 <;> cases b5 <;> cases b7 <;> simp at hn ⊢
          obtain ⟨rfl, rfl, rfl, rfl, rfl, rfl⟩ := hbb
          obtain ⟨z1, A1, l1, rfl, w1'⟩ := q1 rfl
          obtain ⟨z2, A2, l2, rfl, w2'⟩ := q2 rfl
          obtain ⟨z3, A3, l3, rfl, w3'⟩ := q3 rfl
          obtain ⟨z4, A4, l4, rfl, w4'⟩ := q4 rfl
          obtain ⟨x, rfl, hx1, hx2⟩ := q7 rfl
          obtain ⟨_, gt, rfl, hgt, hblk⟩ := q5 rfl
          have c0 := hblk.cell 0
          have c1 := hblk.cell 1
          have c2 := hblk.cell 2
          have c3 := hblk.cell 3
          clear q1 q2 q3 q4 q5 q7 qr0 hn
          have hx4 : x = 0 ∨ x = 1 ∨ x = 2 ∨ x = 3 := by omega
          rcases hx4 with rfl | rfl | rfl | rfl
          · refine wpAny_ready (rs := [8]) (by kernel_rfl) (by simp) ?_
            refine AllReady.cons rfl (fun K hK => ?_) AllReady.nil
            go_simp
            refine hK _ _ ?_
            clear hK K
            refine wpAny_ready (rs := [9]) (by kernel_rfl) (by simp) ?_
            refine AllReady.cons rfl (fun K hK => ?_) AllReady.nil
            go_simp
            refine hK _ _ ?_
            clear hK K
            obtain ⟨gz, hAz, hgz1, hgz2⟩ := own_form w1' (by omega)
            subst hAz
            have hcz : ∀ i u, (z1.map (Value.int .i64))[i]? = some u → W.cell? ((⟨gz, 0, none⟩ : Addr).add i) = some u := fun i u hu => by
              have hi : i < z1.length := by
                rcases Nat.lt_or_ge i z1.length with h | h
                · exact h
                · rw [List.getElem?_eq_none (by simpa using h)] at hu; cases hu
              rw [add_none, Nat.zero_add]
              exact (w1'.cellAt (g := gz) (cap := 2) i (by omega)).trans hu
            obtain ⟨i0, hi0, hz0, hz1, hz2⟩ := info_parts infoInt
            refine wpAny_ready (rs := [10]) (by kernel_rfl) (by simp) ?_
            refine AllReady.cons rfl (fun K hK => ?_) AllReady.nil
            refine step_append_lies _ rfl (.tmp 28) (.tmp 37) 22 rfl w.heap.size 3 i0 (.int .i64 0) 1 8 Try.underlying22 hi0 hz0 hz1 hz2 rfl (by decide) (.slice A m c) m _ rfl qo ⟨gz, 0, none⟩ 2 2 (z1.map (Value.int .i64)) rfl (by simp [l1]) hcz (by simp [Value.oneCell']) (by decide) (by unfold maxLen; omega) (by omega) qG.size _ rfl ?_
            intro gq cq Wq oq gg hat hlq
            refine hK _ _ ?_
            clear hK K
            have hRq := Rdr.grown qr1 gg (fun k hk => by have := qo.lt k hk; omega)
            have hGq := gb_app qG qo gg
            rw [← List.map_append] at oq
            refine wpAny_ready (rs := [11]) (by kernel_rfl) (by simp) ?_
            refine AllReady.cons rfl (fun K hK => ?_) AllReady.nil
            go_simp
            refine hK _ _ ?_
            clear hK K
            refine wpAny_done (by kernel_rfl) ?_ _
            go_wp2_with fail
            go_ret
            exact drawL_of (by rw [List.length_append, HX.out, l1]) (by omega) oq (hRq.mono (by omega)) hGq
          · refine wpAny_ready (rs := [8]) (by kernel_rfl) (by simp) ?_
            refine AllReady.cons rfl (fun K hK => ?_) AllReady.nil
            go_simp
            refine hK _ _ ?_
            clear hK K
            refine wpAny_ready (rs := [9]) (by kernel_rfl) (by simp) ?_
            refine AllReady.cons rfl (fun K hK => ?_) AllReady.nil
            go_simp
            refine hK _ _ ?_
            clear hK K
            obtain ⟨gz, hAz, hgz1, hgz2⟩ := own_form w2' (by omega)
            subst hAz
            have hcz : ∀ i u, (z2.map (Value.int .i64))[i]? = some u → W.cell? ((⟨gz, 0, none⟩ : Addr).add i) = some u := fun i u hu => by
              have hi : i < z2.length := by
                rcases Nat.lt_or_ge i z2.length with h | h
                · exact h
                · rw [List.getElem?_eq_none (by simpa using h)] at hu; cases hu
              rw [add_none, Nat.zero_add]
              exact (w2'.cellAt (g := gz) (cap := 1) i (by omega)).trans hu
            obtain ⟨i0, hi0, hz0, hz1, hz2⟩ := info_parts infoInt
            refine wpAny_ready (rs := [10]) (by kernel_rfl) (by simp) ?_
            refine AllReady.cons rfl (fun K hK => ?_) AllReady.nil
            refine step_append_lies _ rfl (.tmp 28) (.tmp 37) 22 rfl w.heap.size 3 i0 (.int .i64 0) 1 8 Try.underlying22 hi0 hz0 hz1 hz2 rfl (by decide) (.slice A m c) m _ rfl qo ⟨gz, 0, none⟩ 1 1 (z2.map (Value.int .i64)) rfl (by simp [l2]) hcz (by simp [Value.oneCell']) (by decide) (by unfold maxLen; omega) (by omega) qG.size _ rfl ?_
            intro gq cq Wq oq gg hat hlq
            refine hK _ _ ?_
            clear hK K
            have hRq := Rdr.grown qr1 gg (fun k hk => by have := qo.lt k hk; omega)
            have hGq := gb_app qG qo gg
            rw [← List.map_append] at oq
            refine wpAny_ready (rs := [11]) (by kernel_rfl) (by simp) ?_
            refine AllReady.cons rfl (fun K hK => ?_) AllReady.nil
            go_simp
            refine hK _ _ ?_
            clear hK K
            refine wpAny_done (by kernel_rfl) ?_ _
            go_wp2_with fail
            go_ret
            exact drawL_of (by rw [List.length_append, HX.out, l2]) (by omega) oq (hRq.mono (by omega)) hGq
          · refine wpAny_ready (rs := [8]) (by kernel_rfl) (by simp) ?_
            refine AllReady.cons rfl (fun K hK => ?_) AllReady.nil
            go_simp
            refine hK _ _ ?_
            clear hK K
            refine wpAny_ready (rs := [9]) (by kernel_rfl) (by simp) ?_
            refine AllReady.cons rfl (fun K hK => ?_) AllReady.nil
            go_simp
            refine hK _ _ ?_
            clear hK K
            obtain ⟨gz, hAz, hgz1, hgz2⟩ := own_form w3' (by omega)
            subst hAz
            have hcz : ∀ i u, (z3.map (Value.int .i64))[i]? = some u → W.cell? ((⟨gz, 0, none⟩ : Addr).add i) = some u := fun i u hu => by
              have hi : i < z3.length := by
                rcases Nat.lt_or_ge i z3.length with h | h
                · exact h
                · rw [List.getElem?_eq_none (by simpa using h)] at hu; cases hu
              rw [add_none, Nat.zero_add]
              exact (w3'.cellAt (g := gz) (cap := 1) i (by omega)).trans hu
            obtain ⟨i0, hi0, hz0, hz1, hz2⟩ := info_parts infoInt
            refine wpAny_ready (rs := [10]) (by kernel_rfl) (by simp) ?_
            refine AllReady.cons rfl (fun K hK => ?_) AllReady.nil
            refine step_append_lies _ rfl (.tmp 28) (.tmp 37) 22 rfl w.heap.size 3 i0 (.int .i64 0) 1 8 Try.underlying22 hi0 hz0 hz1 hz2 rfl (by decide) (.slice A m c) m _ rfl qo ⟨gz, 0, none⟩ 1 1 (z3.map (Value.int .i64)) rfl (by simp [l3]) hcz (by simp [Value.oneCell']) (by decide) (by unfold maxLen; omega) (by omega) qG.size _ rfl ?_
            intro gq cq Wq oq gg hat hlq
            refine hK _ _ ?_
            clear hK K
            have hRq := Rdr.grown qr1 gg (fun k hk => by have := qo.lt k hk; omega)
            have hGq := gb_app qG qo gg
            rw [← List.map_append] at oq
            refine wpAny_ready (rs := [11]) (by kernel_rfl) (by simp) ?_
            refine AllReady.cons rfl (fun K hK => ?_) AllReady.nil
            go_simp
            refine hK _ _ ?_
            clear hK K
            refine wpAny_done (by kernel_rfl) ?_ _
            go_wp2_with fail
            go_ret
            exact drawL_of (by rw [List.length_append, HX.out, l3]) (by omega) oq (hRq.mono (by omega)) hGq
          · refine wpAny_ready (rs := [8]) (by kernel_rfl) (by simp) ?_
            refine AllReady.cons rfl (fun K hK => ?_) AllReady.nil
            go_simp
            refine hK _ _ ?_
            clear hK K
            refine wpAny_ready (rs := [9]) (by kernel_rfl) (by simp) ?_
            refine AllReady.cons rfl (fun K hK => ?_) AllReady.nil
            go_simp
            refine hK _ _ ?_
            clear hK K
            obtain ⟨gz, hAz, hgz1, hgz2⟩ := own_form w4' (by omega)
            subst hAz
            have hcz : ∀ i u, (z4.map (Value.int .i64))[i]? = some u → W.cell? ((⟨gz, 0, none⟩ : Addr).add i) = some u := fun i u hu => by
              have hi : i < z4.length := by
                rcases Nat.lt_or_ge i z4.length with h | h
                · exact h
                · rw [List.getElem?_eq_none (by simpa using h)] at hu; cases hu
              rw [add_none, Nat.zero_add]
              exact (w4'.cellAt (g := gz) (cap := 17) i (by omega)).trans hu
            obtain ⟨i0, hi0, hz0, hz1, hz2⟩ := info_parts infoInt
            refine wpAny_ready (rs := [10]) (by kernel_rfl) (by simp) ?_
            refine AllReady.cons rfl (fun K hK => ?_) AllReady.nil
            refine step_append_lies _ rfl (.tmp 28) (.tmp 37) 22 rfl w.heap.size 3 i0 (.int .i64 0) 1 8 Try.underlying22 hi0 hz0 hz1 hz2 rfl (by decide) (.slice A m c) m _ rfl qo ⟨gz, 0, none⟩ 17 17 (z4.map (Value.int .i64)) rfl (by simp [l4]) hcz (by simp [Value.oneCell']) (by decide) (by unfold maxLen; omega) (by omega) qG.size _ rfl ?_
            intro gq cq Wq oq gg hat hlq
            refine hK _ _ ?_
            clear hK K
            have hRq := Rdr.grown qr1 gg (fun k hk => by have := qo.lt k hk; omega)
            have hGq := gb_app qG qo gg
            rw [← List.map_append] at oq
            refine wpAny_ready (rs := [11]) (by kernel_rfl) (by simp) ?_
            refine AllReady.cons rfl (fun K hK => ?_) AllReady.nil
            go_simp
            refine hK _ _ ?_
            clear hK K
            refine wpAny_done (by kernel_rfl) ?_ _
            go_wp2_with fail
            go_ret
            exact drawL_of (by rw [List.length_append, HX.out, l4]) (by omega) oq (hRq.mono (by omega)) hGq
        · rintro n l a W ⟨b1, b2, b3, b4, b5, b7, v29, v30, v31, v32, v33, v35, rfl, hn, -⟩
          cases b1 <;> cases b2 <;> cases b3 <;> cases b4 <;> cases b5 <;> cases b7 <;> first | (exfalso; simp at hn; done) | (refine of_decide_eq_true ?_; kernel_rfl)
        · rintro n l a W i ⟨b1, b2, b3, b4, b5, b7, v29, v30, v31, v32, v33, v35, rfl, hn, rfl, q1, q2, q3, q4, q5, q7, qo, qr0, qr1, qG⟩ hi
          have hcase : (i = 1 ∧ b1 = false) ∨ (i = 2 ∧ b2 = false) ∨ (i = 3 ∧ b3 = false) ∨ (i = 4 ∧ b4 = false) ∨ (i = 5 ∧ (b1 = true ∧ b2 = true ∧ b3 = true ∧ b4 = true) ∧ b5 = false) ∨ (i = 7 ∧ b7 = false) := by
            have h5 : b5 = true → b1 = true ∧ b2 = true ∧ b3 = true ∧ b4 = true := fun h => (q5 h).1
            clear q1 q2 q3 q4 q5 q7 qo qr0 qr1 qG
            revert hi; revert i
            cases b1 <;> cases b2 <;> cases b3 <;> cases b4 <;> cases b5 <;> cases b7 <;> first | (exfalso; simp at hn; done) | (exfalso; simp at h5; done) | (refine of_decide_eq_true ?_; kernel_rfl)
          have hsW := qG.size
          rcases hcase with ⟨rfl, rfl⟩ | ⟨rfl, rfl⟩ | ⟨rfl, rfl⟩ | ⟨rfl, rfl⟩ | ⟨rfl, ⟨rfl, rfl, rfl, rfl⟩, rfl⟩ | ⟨rfl, rfl⟩
          · refine wpOp_step rfl (fun K hK => ?_)
            go_simp
            refine hK _ _ ?_
            have on := RowI.own (base := w.heap.size) (w := W.alloc (.cells (cellsI [3, 3]) 3)) (g := W.heap.size) (xs := [3, 3]) (Blk.new _ _ _) hsW (by decide)
            exact ⟨true, b2, b3, b4, b5, b7, _, v30, v31, v32, v33, v35, rfl, by simp at hn ⊢; omega, rfl, fun _ => ⟨[3, 3], _, rfl, rfl, on⟩, fun h => (q2 h).alloc _, fun h => (q3 h).alloc _, fun h => (q4 h).alloc _, (fun h => by have := (q5 h).1; simp at this), q7, qo.alloc _, fun h => (qr0 h).alloc _, qr1.alloc _, gb_alloc qG _⟩
          · refine wpOp_step rfl (fun K hK => ?_)
            go_simp
            refine hK _ _ ?_
            have on := RowI.own (base := w.heap.size) (w := W.alloc (.cells (cellsI ([-1])) 3)) (g := W.heap.size) (xs := [-1]) (Blk.new _ _ _) hsW (by decide)
            exact ⟨b1, true, b3, b4, b5, b7, v29, _, v31, v32, v33, v35, rfl, by simp at hn ⊢; omega, rfl, fun h => (q1 h).alloc _, fun _ => ⟨[-1], _, rfl, rfl, on⟩, fun h => (q3 h).alloc _, fun h => (q4 h).alloc _, (fun h => by have := (q5 h).1; simp at this), q7, qo.alloc _, fun h => (qr0 h).alloc _, qr1.alloc _, gb_alloc qG _⟩
          · refine wpOp_step rfl (fun K hK => ?_)
            go_simp
            refine hK _ _ ?_
            have on := RowI.own (base := w.heap.size) (w := W.alloc (.cells (cellsI ([17])) 3)) (g := W.heap.size) (xs := [17]) (Blk.new _ _ _) hsW (by decide)
            exact ⟨b1, b2, true, b4, b5, b7, v29, v30, _, v32, v33, v35, rfl, by simp at hn ⊢; omega, rfl, fun h => (q1 h).alloc _, fun h => (q2 h).alloc _, fun _ => ⟨[17], _, rfl, rfl, on⟩, fun h => (q4 h).alloc _, (fun h => by have := (q5 h).1; simp at this), q7, qo.alloc _, fun h => (qr0 h).alloc _, qr1.alloc _, gb_alloc qG _⟩
          · refine wpOp_step rfl (fun K hK => ?_)
            go_simp
            refine hK _ _ ?_
            have on := RowI.own (base := w.heap.size) (w := W.alloc (.cells (cellsI (List.replicate 17 0)) 3)) (g := W.heap.size) (xs := List.replicate 17 0) (Blk.new _ _ _) hsW (by decide)
            exact ⟨b1, b2, b3, true, b5, b7, v29, v30, v31, _, v33, v35, rfl, by simp at hn ⊢; omega, rfl, fun h => (q1 h).alloc _, fun h => (q2 h).alloc _, fun h => (q3 h).alloc _, fun _ => ⟨List.replicate 17 0, _, by simp, rfl, on⟩, (fun h => by have := (q5 h).1; simp at this), q7, qo.alloc _, fun h => (qr0 h).alloc _, qr1.alloc _, gb_alloc qG _⟩
          · obtain ⟨z1, A1, l1, rfl, w1'⟩ := q1 rfl
            obtain ⟨z2, A2, l2, rfl, w2'⟩ := q2 rfl
            obtain ⟨z3, A3, l3, rfl, w3'⟩ := q3 rfl
            obtain ⟨z4, A4, l4, rfl, w4'⟩ := q4 rfl
            refine wpOp_step rfl (fun K hK => ?_)
            go_simp
            refine hK _ _ ?_
            exact ⟨true, true, true, true, true, b7, _, _, _, _, _, v35, rfl, by simp at hn ⊢; omega, rfl, fun h => (q1 h).alloc _, fun h => (q2 h).alloc _, fun h => (q3 h).alloc _, fun h => (q4 h).alloc _, (fun _ => ⟨⟨rfl, rfl, rfl, rfl⟩, _, rfl, hsW, Blk.new _ _ _⟩), q7, qo.alloc _, fun h => (qr0 h).alloc _, qr1.alloc _, gb_alloc qG _⟩
          · refine wpOp_step rfl (fun K hK => ?_)
            go_simp
            refine (pick_c (qr0 rfl) (by omega)).mono ?_
            rintro e W' ⟨x, rfl, hx1, hx2, hR, hGG⟩
            go_simp
            refine hK _ _ ?_
            exact ⟨b1, b2, b3, b4, b5, true, v29, v30, v31, v32, v33, _, rfl, by simp at hn ⊢; omega, rfl, fun h => (q1 h).pick hGG (by omega), fun h => (q2 h).pick hGG (by omega), fun h => (q3 h).pick hGG (by omega), fun h => (q4 h).pick hGG (by omega), (fun h => by obtain ⟨h1, gt, h2, h3, h4⟩ := q5 h; exact ⟨h1, gt, h2, h3, h4.grown hGG (by intro e; injection e with e; omega)⟩), fun _ => ⟨x, rfl, hx1, by omega⟩, own_pick qo hGG (by omega), (fun h => by cases h), hR.mono (by omega), gb_trans qG hGG⟩
        · refine ⟨false, false, false, false, false, false, undef, undef, undef, undef, undef, undef, by rfl, by rfl, by rfl, (fun h => by cases h), (fun h => by cases h), (fun h => by cases h), (fun h => by cases h), (fun h => by cases h), (fun h => by cases h), ob0, fun _ => hb0, hb0.mono (by omega), Gb0⟩
end Go.Proofs.Ytcaagjepiicleaa
