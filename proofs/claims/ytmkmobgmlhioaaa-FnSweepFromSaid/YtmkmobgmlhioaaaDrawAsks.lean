/- The drawn requests: some of them in new memory. No condition. -/
import Derived.Test.YtmkmobgmlhioaaaDrawList
import Derived.Test.YtmkmobgmlhioaaaAskApp
import Derived.Test.YtmkmobgmlhioaaaPhase
namespace Go.Proofs.Ytmkmobgmlhioaaa
open Go.ChangeShapes Go.WideShapes Go.ChangeAt Go.RowKit
set_option linter.unusedVariables false
set_option linter.unusedSimpArgs false

/-- drawn requests: the row lies in new memory; of what was there only the reader's block has turned -/
def DrawA (B g p : Nat) (w : World) (e : Ending) (w' : World) : Prop :=
  ∃ (ys : List (Int × Int)) (A : Option Addr) (c : Nat), e = .returned (.slice A ys.length c) ∧ ys.length ≤ 100 ∧ w'.ownsRow w.heap.size 32 2 (.slice A ys.length c) ys.length (flatP ys) ∧ Rdr w' B g (p + 1000) ∧ w.grownBy w' (some g)
theorem drawA_of {B g p m c : Nat} {w w' : World} {A : Option Addr} {xs : List (Int × Int)} (hm : xs.length = m) (h100 : m ≤ 100) (h : w'.ownsRow w.heap.size 32 2 (.slice A m c) m (flatP xs)) (hr : Rdr w' B g (p + 1000)) (hg : w.grownBy w' (some g)) : DrawA B g p w (.returned (.slice A m c)) w' := by
  subst hm; exact ⟨xs, A, c, rfl, h100, h, hr, hg⟩

theorem made_zero (n i : Nat) (h : i < n) : (madeCells #[Value.int .i64 0, Value.int .i64 0] n)[i]? = some (.int .i64 0) := by
  unfold madeCells
  rw [Array.getElem?_map, Array.getElem?_eq_getElem (by simpa using h)]
  simp only [Array.getElem_range, Option.map_some]
  congr 1
  have : i % 2 = 0 ∨ i % 2 = 1 := by omega
  rcases this with e | e
  · show (#[Value.int .i64 0, Value.int .i64 0] : Array Value)[i % 2]! = _; rw [e]; rfl
  · show (#[Value.int .i64 0, Value.int .i64 0] : Array Value)[i % 2]! = _; rw [e]; rfl
theorem made_own (n : Nat) (hn : n ≤ 1048576) (W : World) (base : Nat) (hb : base ≤ W.heap.size) :
    (W.alloc (.cells (madeCells #[Value.int .i64 0, Value.int .i64 0] (n * 2)) 32)).ownsRow base 32 2 (.slice (some ⟨W.heap.size, 0, none⟩) n n) n (flatP (List.replicate n (0, 0))) := by
  refine own_filledP (Blk.new _ _ _) (size_madeCells _ _) (by simp) (fun t ht => ?_) hb (by unfold maxLen; omega)
  have e : (List.replicate n ((0, 0) : Int × Int)).getD t (0, 0) = (0, 0) := by rw [List.getD_eq_getElem?_getD, List.getElem?_replicate]; simp [ht]
  rw [e, made_zero _ _ (by omega), made_zero _ _ (by omega)]
  exact ⟨rfl, rfl⟩
set_option maxHeartbeats 4000000 in
theorem l20Asks_c {B g p : Nat} {nn : Int} {w : World} (h : Rdr w B g p) (hp : p < 900000) (hn1 : 0 < nn) (hn2 : nn < 1000000) :
    Calls Try.prog 38 #[.pointer (some ⟨g, 0, none⟩), .int .i64 nn] w (DrawA B g p w) := by
  have hlt := h.lt
  go_enter Try.func38, Try.ntmps38
  go_wp2_with fail
  have o0 : (w.alloc (.cells #[] 32)).ownsRow w.heap.size 32 2 (.slice (some ⟨w.heap.size, 0, none⟩) 0 0) 0 (flatP []) := World.ownsRow_lit w #[] 0 (Nat.le_refl _) (by decide) rfl
  refine (pick_c (h.alloc _) (by omega)).mono ?_
  rintro e w1 ⟨v1, rfl, hv1, hv1', h1, g1⟩
  have o1 := own_pick o0 g1 (by omega)
  have G1 : w.grownBy w1 (some g) := gb_trans (gb_alloc (World.grownBy.refl _ _) _) g1
  clear o0 g1 h
  go_wp2_with fail
  refine (pick_c h1 (by omega)).mono ?_
  rintro e w2 ⟨v2, rfl, hv2, hv2', h2, g2⟩
  have o2 := own_pick o1 g2 (by omega)
  have G2 := gb_trans G1 g2
  clear o1 G1 h1 g2
  go_wp2_with fail
  go_loopw [5, 6, 7] (fun v at' kk wr => ∃ (j : Nat) (xs : List (Int × Int)) (A : Option Addr) (c m : Nat) (q : Int), kk = .int .i64 j ∧ at' = .int .i64 q ∧ 0 ≤ q ∧ q ≤ 100 + 10 * (m : Int) ∧ j + m ≤ 8 ∧ xs.length = m ∧ v = .slice A m c ∧ wr.ownsRow w.heap.size 32 2 (.slice A m c) m (flatP xs) ∧ Rdr wr B g (p + 2 + 10 * m) ∧ w.grownBy wr (some g)) (fun _ _ kk _ => (intOf kk).toNat)
  case atStart =>
    obtain ⟨j, rfl⟩ := Int.eq_ofNat_of_zero_le hv2
    exact ⟨j, [], _, _, 0, v1, rfl, rfl, hv1, by omega, by omega, rfl, rfl, o2, h2.mono (by omega), G2⟩
  case round =>
    obtain ⟨j, xs, A, c, m, q, rfl, rfl, hq1, hq2, hjm, hxl, rfl, own, hr, G⟩ := hrel
    have hlr := hr.lt
    have hsz := G.size
    have HX := Lib.hid hxl
    clear hxl o2 h2 G2
    by_cases hj : 0 < j
    · go_wp2_with fail
      refine (pick_c hr (by omega)).mono ?_
      rintro e wa ⟨v3, rfl, hv3, hv3', ha, ga⟩
      have oa := own_pick own ga (by omega)
      have Ga := gb_trans G ga
      have hsa := Ga.size
      clear own G ga hr
      go_wp2_with (at_builtin; refine wpList_appAsk3 rfl rfl rfl (oa.alloc _) (wa.heap.size + 1) (by simp) rfl (by omega) (by simp; omega) ?_; rintro g4 c4 wb ob gg4 hl4)
      have hbox := (newAt wa 32 #[.int .i64 q, .int .i64 (1 + v3)] wa.heap.size rfl).grown gg4 (fun e => by have := (oa.lt _ e.symm).2; omega)
      have hb := Rdr.grown (ha.alloc _) gg4 (fun k hk => by have := oa.lt k hk; omega)
      have Gb := gb_app (gb_alloc Ga _) (oa.alloc _) gg4
      have e1 := hbox.cell 1
      simp at e1
      have hgb : w.heap.size ≤ wa.heap.size := hsa
      clear oa Ga gg4 ha hl4 hbox
      generalize wa.heap.size = gb at *
      go_wp2_with fail
      have hnb : gb ≠ g := by omega
      have hadd : IntKind.i64.wrap (q + (1 + v3)) = q + (1 + v3) := IntWalk.i64_in _ (by omega)
      refine wp_region_any (by kernel_rfl) ?_
      refine wpAny_take (i := 0) (v := ?_) rfl (by kernel_rfl) (by kernel_rfl) (by kernel_rfl) (fun _ _ _ h => h) (Or.inl ⟨by rfl, ?_⟩) ?_
      rotate_left
      · intro w; go_simp
        try with_reducible rfl
      refine wpAny_take (i := 1) (v := ?_) rfl (by kernel_rfl) (by kernel_rfl) (by kernel_rfl) (fun _ _ _ h => h) (Or.inl ⟨by rfl, ?_⟩) ?_
      rotate_left
      · intro w; go_simp
        try with_reducible rfl
      refine wpAny_take (i := 4) (v := ?_) rfl (by kernel_rfl) (by kernel_rfl) (by kernel_rfl) (fun _ _ _ h => h) (Or.inl ⟨by rfl, ?_⟩) ?_
      rotate_left
      · intro w; go_simp
        try with_reducible rfl
      refine wpAny_take (i := 7) (v := ?_) rfl (by kernel_rfl) (by kernel_rfl) (by kernel_rfl) (fun _ _ _ h => h) (Or.inl ⟨by rfl, ?_⟩) ?_
      rotate_left
      · intro w; go_simp
        try with_reducible rfl
      have hb0 : Rdr wb.drew B g (p + 2 + 10 * m + 1) := hb.drewN 1
      have ob0 : wb.drew.ownsRow w.heap.size 32 2 (.slice (some ⟨g4, 0, none⟩) (m + 1) c4) (m + 1) (flatP (xs ++ [(q, 1 + v3)])) := ob
      have Gb0 : w.grownBy wb.drew (some g) := gb_drew Gb
      have e10 : wb.drew.cell? ⟨gb, 1, none⟩ = some (.int .i64 (1 + v3)) := e1
      refine wpAny_phase (k := 3) (fun n l a W => ∃ (b2 b3 b5 b6 b8 : Bool) (s29 s30 s32 s33 s35 : Value), l = #[true, true, b2, b3, true, b5, b6, true, b8, false, false, false] ∧ n = 5 - (b2.toNat + b3.toNat + b5.toNat + b6.toNat + b8.toNat)
        ∧ a = { tmps := #[.pointer (some ⟨g, 0, none⟩), .int .i64 nn, undef, undef, .slice none 0 0, .slice (some ⟨g4, 0, none⟩) (m + 1) c4, .int .i64 q, .int .i64 j, .pointer (some ⟨gb, 0, none⟩), .slice (some ⟨w.heap.size, 0, none⟩) 0 0, .pointer (some ⟨g, 0, none⟩), .int .i64 v1, .pointer (some ⟨g, 0, none⟩), .int .i64 v2, .int .i64 j, .bool true, u16, u17, .int .i64 q, .pointer (some ⟨g, 0, none⟩), .int .i64 v3, .int .i64 (1 + v3), .agg #[.int .i64 q, .int .i64 (1 + v3)], .slice A m c, .agg #[.int .i64 q, .int .i64 (1 + v3)], .slice (some ⟨gb + 1, 0, none⟩) 1 1, .slice (some ⟨g4, 0, none⟩) (m + 1) c4, .int .i64 q, .pointer (some ⟨gb, 1, none⟩), s29, s30, .pointer (some ⟨g, 0, none⟩), s32, s33, .pointer (some ⟨g, 0, none⟩), s35, u36, u37, undef, undef, undef, undef, undef, undef, undef, undef, undef, undef, undef, undef, undef, undef, undef, undef, undef, undef, undef, undef], defers := [] }
        ∧ (b2 = true → s29 = .int .i64 (1 + v3)) ∧ (b3 = true → b2 = true ∧ s30 = .int .i64 (q + (1 + v3))) ∧ (b5 = true → ∃ x : Int, s32 = .int .i64 x ∧ 0 ≤ x ∧ x < 40)
        ∧ (b6 = true → (b3 = true ∧ b5 = true) ∧ ∃ gt, s33 = .slice (some ⟨gt, 0, none⟩) 2 2 ∧ w.heap.size ≤ gt ∧ Blk W gt 3 #[s30, s32]) ∧ (b8 = true → ∃ x : Int, s35 = .int .i64 x ∧ 0 ≤ x ∧ x < 2)
        ∧ W.ownsRow w.heap.size 32 2 (.slice (some ⟨g4, 0, none⟩) (m + 1) c4) (m + 1) (flatP (xs ++ [(q, 1 + v3)])) ∧ W.cell? ⟨gb, 1, none⟩ = some (.int .i64 (1 + v3)) ∧ Rdr W B g (p + 2 + 10 * m + 1 + b5.toNat + b8.toNat) ∧ w.grownBy W (some g)) ?_ ?_ ?_ 5 _ _ _ ?_
      · rintro l a W ⟨b2, b3, b5, b6, b8, s29, s30, s32, s33, s35, rfl, hn, rfl, q2, q3, q5, q6, q8, qo, qc, qr, qG⟩
        have hbb : b2 = true ∧ b3 = true ∧ b5 = true ∧ b6 = true ∧ b8 = true := by cases b2 <;> cases b3 <;> cases b5 <;> cases b6 <;> cases b8 <;> simp at hn ⊢
        obtain ⟨rfl, rfl, rfl, rfl, rfl⟩ := hbb
        obtain rfl := q2 rfl
        obtain ⟨_, rfl⟩ := q3 rfl
        obtain ⟨y, rfl, hy1, hy2⟩ := q5 rfl
        obtain ⟨x, rfl, hx1, hx2⟩ := q8 rfl
        obtain ⟨_, gt, rfl, hgt, hblk⟩ := q6 rfl
        have c0 := hblk.cell 0
        have c1 := hblk.cell 1
        simp only [Bool.toNat_true] at qr
        clear q2 q3 q5 q6 q8 hn
        have hx4 : x = 0 ∨ x = 1 := by omega
        rcases hx4 with rfl | rfl
        all_goals
          refine wpAny_ready (rs := [9]) (by kernel_rfl) (by simp) ?_
          refine AllReady.cons rfl (fun K hK => ?_) AllReady.nil
          go_simp
          refine hK _ _ ?_
          clear hK K
          refine wpAny_ready (rs := [10]) (by kernel_rfl) (by simp) ?_
          refine AllReady.cons rfl (fun K hK => ?_) AllReady.nil
          go_simp
          refine hK _ _ ?_
          clear hK K
          refine wpAny_ready (rs := [11]) (by kernel_rfl) (by simp) ?_
          refine AllReady.cons rfl (fun K hK => ?_) AllReady.nil
          go_simp
          refine hK _ _ ?_
          clear hK K
          refine wpAny_done (by kernel_rfl) ?_ _
          go_wp2_with fail
          go_roundw
          case rel => exact ⟨j - 1, xs ++ [(q, 1 + v3)], _, _, m + 1, _, by go_num, rfl, by omega, by omega, by omega, by rw [List.length_append, HX.out]; rfl, rfl, qo, qr.mono (by omega), qG⟩
          case measure => simp [intOf]; omega
      · rintro n l a W ⟨b2, b3, b5, b6, b8, s29, s30, s32, s33, s35, rfl, hn, -⟩
        cases b2 <;> cases b3 <;> cases b5 <;> cases b6 <;> cases b8 <;> first | (exfalso; simp at hn; done) | (refine of_decide_eq_true ?_; kernel_rfl)
      · rintro n l a W i ⟨b2, b3, b5, b6, b8, s29, s30, s32, s33, s35, rfl, hn, rfl, q2, q3, q5, q6, q8, qo, qc, qr, qG⟩ hi
        have hcase : (i = 2 ∧ b2 = false) ∨ (i = 3 ∧ b2 = true ∧ b3 = false) ∨ (i = 5 ∧ b5 = false) ∨ (i = 6 ∧ (b3 = true ∧ b5 = true) ∧ b6 = false) ∨ (i = 8 ∧ b8 = false) := by
          have h3 : b3 = true → b2 = true := fun h => (q3 h).1
          have h6 : b6 = true → b3 = true ∧ b5 = true := fun h => (q6 h).1
          clear q2 q3 q5 q6 q8 qo qc qr qG
          revert hi; revert i
          cases b2 <;> cases b3 <;> cases b5 <;> cases b6 <;> cases b8 <;> first | (exfalso; simp at hn; done) | (exfalso; simp at h3; done) | (exfalso; simp at h6; done) | (refine of_decide_eq_true ?_; kernel_rfl)
        have hsW := qG.size
        rcases hcase with ⟨rfl, rfl⟩ | ⟨rfl, rfl, rfl⟩ | ⟨rfl, rfl⟩ | ⟨rfl, ⟨rfl, rfl⟩, rfl⟩ | ⟨rfl, rfl⟩
        · refine wpOp_step rfl (fun K hK => ?_)
          go_simp
          refine hK _ _ ?_
          exact ⟨true, b3, b5, b6, b8, _, s30, s32, s33, s35, rfl, by simp at hn ⊢; omega, rfl, fun _ => rfl, fun h => ⟨rfl, (q3 h).2⟩, q5, q6, q8, qo, qc, qr, qG⟩
        · obtain rfl := q2 rfl
          refine wpOp_step rfl (fun K hK => ?_)
          go_simp
          refine hK _ _ ?_
          exact ⟨true, true, b5, b6, b8, _, _, s32, s33, s35, rfl, by simp at hn ⊢; omega, rfl, fun _ => rfl, fun _ => ⟨rfl, by first | rfl | rw [hadd]⟩, q5, (fun h => by have := (q6 h).1.1; simp at this), q8, qo, qc, qr, qG⟩
        · refine wpOp_step rfl (fun K hK => ?_)
          go_simp
          refine (pick_c qr (by cases b8 <;> simp <;> omega)).mono ?_
          rintro e W' ⟨x, rfl, hx1, hx2, hR, hGG⟩
          go_simp
          refine hK _ _ ?_
          exact ⟨b2, b3, true, b6, b8, s29, s30, _, s33, s35, rfl, by simp at hn ⊢; omega, rfl, q2, q3, fun _ => ⟨x, rfl, hx1, by omega⟩, (fun h => by have := (q6 h).1.2; simp at this), q8, own_pick qo hGG (by omega), World.grownBy.cell hGG qc (by simp; omega), hR.mono (by cases b8 <;> simp <;> omega), gb_trans qG hGG⟩
        · obtain ⟨rfl, rfl⟩ := q3 rfl
          obtain rfl := q2 rfl
          have hgbW : gb < W.heap.size := block_lt_of_cell qc
          obtain ⟨y, rfl, hy1, hy2⟩ := q5 rfl
          refine wpOp_step rfl (fun K hK => ?_)
          go_simp
          refine hK _ _ ?_
          exact ⟨true, true, true, true, b8, _, _, _, _, s35, rfl, by simp at hn ⊢; omega, rfl, fun _ => rfl, fun _ => ⟨rfl, rfl⟩, fun _ => ⟨y, rfl, hy1, hy2⟩, fun _ => ⟨⟨rfl, rfl⟩, _, rfl, hsW, Blk.new _ _ _⟩, q8, qo.alloc _, by rw [World.cell?_alloc_old _ _ _ (by show gb ≠ _; omega)]; exact qc, qr.alloc _, gb_alloc qG _⟩
        · refine wpOp_step rfl (fun K hK => ?_)
          go_simp
          refine (pick_c qr (by cases b5 <;> simp <;> omega)).mono ?_
          rintro e W' ⟨x, rfl, hx1, hx2, hR, hGG⟩
          go_simp
          refine hK _ _ ?_
          exact ⟨b2, b3, b5, b6, true, s29, s30, s32, s33, _, rfl, by simp at hn ⊢; omega, rfl, q2, q3, q5, (fun h => by obtain ⟨h1, gt, h2, h3, h4⟩ := q6 h; exact ⟨h1, gt, h2, h3, h4.grown hGG (by intro e; injection e with e; omega)⟩), fun _ => ⟨x, rfl, hx1, by omega⟩, own_pick qo hGG (by omega), World.grownBy.cell hGG qc (by simp; omega), hR.mono (by cases b5 <;> simp <;> omega), gb_trans qG hGG⟩
      · refine ⟨false, false, false, false, false, u29, u30, u32, u33, u35, by rfl, by rfl, by rfl, (fun h => by cases h), (fun h => by cases h), (fun h => by cases h), (fun h => by cases h), (fun h => by cases h), ob0, e10, by simpa using hb0, Gb0⟩
    · have hd : decide (0 < j) = false := by simp; omega
      go_wp2_with fail
      refine (odd_c hr (by omega) (by omega) (by omega)).mono ?_
      rintro e wb ⟨b, rfl, h3, g3⟩
      have ob := own_pick own g3 (by omega)
      have Gb := gb_trans G g3
      have hszb := Gb.size
      clear own G g3 hr
      cases b
      · go_wp2_with fail
        go_ret
        exact drawA_of HX.out (by omega) ob (h3.mono (by omega)) Gb
      · go_wp2_with fail
        refine (pick_c h3 (by omega)).mono ?_
        rintro e wd ⟨v5, rfl, hv5, hv5', h5, g5⟩
        have od := own_pick ob g5 (by omega)
        have Gd := gb_trans Gb g5
        have hszd := Gd.size
        clear ob Gb g5 h3
        by_cases hv0 : v5 = 0
        · subst hv0
          have hmk : ∀ W : World, (Instr.makeSlice 25 (.int .i64 13) (.int .i64 13)).run Try.prog W = .ok (.slice (some ⟨W.heap.size, 0, none⟩) 13 13) (W.alloc (.cells (madeCells #[.int .i64 0, .int .i64 0] 26) 32)) := fun W => makeAsk 13 (by omega) W
          go_wp2_with fail
          go_ret
          exact drawA_of (xs := List.replicate 13 (0, 0)) rfl (by omega) (made_own 13 (by omega) wd w.heap.size hszd) ((h5.alloc _).mono (by omega)) (gb_alloc Gd _)
        · have hq : (v5 == 0) = false := by simp [hv0]
          go_wp2_with fail
          have hltd := h5.lt
          have oe := od.alloc (.cells #[.int .i64 0, .int .i64 0, .int .i64 (-1), .int .i64 1, .int .i64 101, .int .i64 1, .int .i64 0, .int .i64 11] 32)
          refine (pick_c (h5.alloc _) (by omega)).mono ?_
          rintro e wf ⟨v6, rfl, hv6, hv6', h6, g6⟩
          have of' := own_pick oe g6 (by omega)
          have Gf := gb_trans (gb_alloc Gd _) g6
          have hszf := Gf.size
          have kk1 : Blk wf wd.heap.size 32 #[.int .i64 0, .int .i64 0, .int .i64 (-1), .int .i64 1, .int .i64 101, .int .i64 1, .int .i64 0, .int .i64 11] := (Blk.new wd 32 _).grown g6 (by intro e; injection e with e; omega)
          have t0 := kk1.cell 0
          have t1 := kk1.cell 1
          have t2 := kk1.cell 2
          have t3 := kk1.cell 3
          have t4 := kk1.cell 4
          have t5 := kk1.cell 5
          have t6 := kk1.cell 6
          have t7 := kk1.cell 7
          simp at t0 t1 t2 t3 t4 t5 t6 t7
          clear kk1 oe g6 od Gd h5
          have hv4 : v6 = 0 ∨ v6 = 1 ∨ v6 = 2 ∨ v6 = 3 := by omega
          rcases hv4 with rfl | rfl | rfl | rfl
          all_goals
            go_wp2_with (at_builtin; refine wpList_appAsk3 rfl rfl rfl of' wf.heap.size rfl rfl (by omega) hszf ?_; rintro g8 c8 wa owna hga hl8)
            have hra := Rdr.grown h6 hga (fun k hk => by have := of'.lt k hk; omega)
            go_ret
            exact drawA_of (by rw [List.length_append, HX.out]; rfl) (by omega) owna (hra.mono (by omega)) (gb_app Gf of' hga)
end Go.Proofs.Ytmkmobgmlhioaaa
