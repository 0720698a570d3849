/- The drawn orders: some of the log's writes in new memory. Condition: at most 100 entries. -/
import Derived.Test.YtcaagjepiicleaaDrawLog
namespace Go.Proofs.Ytcaagjepiicleaa
open Go.ChangeShapes Go.WideShapes Go.ChangeAt Go.RowKit
set_option linter.unusedVariables false
set_option linter.unusedSimpArgs false

theorem l20Order_c {B g p n c B' : Nat} {A : Option Addr} {xs : List Int} {w : World} (h : Rdr w B g p) (hp : p < 900000) (hr : RdI .i64 w B' A n xs) (hB : B' ≤ w.heap.size) (hn : n ≤ 100) :
    Calls Try.prog 33 #[.pointer (some ⟨g, 0, none⟩), .slice A n c] w (DrawL B g p w) := by
  have hlt := h.lt
  have HR := Lib.hid hr
  clear hr
  go_enter Try.func33, Try.ntmps33
  go_wp2_with fail
  have o0 : (w.alloc (.cells #[] 3)).ownsRow w.heap.size 3 1 (.slice (some ⟨w.heap.size, 0, none⟩) 0 0) 0 (([] : List Int).map (Value.int .i64)) := World.ownsRow_lit w #[] 0 (Nat.le_refl _) (by decide) rfl
  have b0 : Below w.heap.size w (w.alloc (.cells #[] 3)) := (Below.refl _ _).alloc (Nat.le_refl _) _
  go_loopw [5, 6] (fun v kk wr => ∃ (k : Nat) (ys : List Int) (A' : Option Addr) (c' m : Nat), kk = .int .i64 k ∧ k ≤ n ∧ m ≤ k ∧ ys.length = m ∧ v = .slice A' m c' ∧ wr.ownsRow w.heap.size 3 1 (.slice A' m c') m (ys.map (Value.int .i64)) ∧ Below w.heap.size w wr) (fun _ kk _ => n - (intOf kk).toNat)
  case atStart => exact ⟨0, [], _, _, 0, rfl, by omega, by omega, rfl, rfl, o0, b0⟩
  case round =>
    obtain ⟨k, ys, A', c', m, rfl, hk, hmk, hyl, rfl, own, bel⟩ := hrel
    have HY := Lib.hid hyl
    clear hyl o0 b0
    have hsz := bel.size
    by_cases hlt : k < n
    · have hr := (HR.out.mono hB).below bel
      obtain ⟨b, off, rfl, hbB, hc⟩ := hr.at_ (by omega)
      have hc1 := hc k hlt
      generalize xs.getD k 0 = x at *
      clear hc hr
      by_cases hx : 0 < x
      · go_wp2_with (at_builtin; refine wpList_appI rfl rfl rfl own rfl (by omega) hsz ?_; rintro g1 c1 wa ow1 gg1 hge1)
        go_roundw
        case rel => exact ⟨k + 1, ys ++ [x], _, _, m + 1, by go_num, by omega, by omega, by rw [List.length_append, HY.out]; rfl, rfl, ow1, below_app bel own hsz gg1⟩
        case measure => simp [intOf]; omega
      · go_wp2_with fail
        go_roundw
        case rel => exact ⟨k + 1, ys, _, _, m, by go_num, by omega, by omega, HY.out, rfl, own, bel⟩
        case measure => simp [intOf]; omega
    · have hkn : k = n := by omega
      subst hkn
      have G0 := gb_of_below bel (some g)
      have h1 := h.grown (gb_of_below bel none) (fun k e => by cases e)
      clear bel
      go_wp2_with fail
      refine (pick_c h1 (by omega)).mono ?_
      rintro e w1 ⟨v1, rfl, hv1, hv1', h2, g2⟩
      have own2 := own_pick own g2 (by omega)
      have G2 := gb_trans G0 g2
      clear own G0 h1 g2 h
      go_wp2_with fail
      go_loopw [7] (fun kk wr => ∃ (j : Nat) (zs : List Int), kk = .int .i64 j ∧ j ≤ 2 ∧ zs.length = m ∧ wr.ownsRow w.heap.size 3 1 (.slice A' m c') m (zs.map (Value.int .i64)) ∧ Rdr wr B g (p + 1 + (2 - j)) ∧ w.grownBy wr (some g)) (fun kk _ => (intOf kk).toNat)
      case atStart =>
        obtain ⟨j, rfl⟩ := Int.eq_ofNat_of_zero_le hv1
        exact ⟨j, ys, rfl, by omega, HY.out, own2, h2.mono (by omega), G2⟩
      case round =>
        obtain ⟨j, zs, rfl, hj2, hzl, own, hr, G⟩ := hrel
        have HZ := Lib.hid hzl
        have hlr := hr.lt
        have hsz := G.size
        clear hzl own2 h2 G2
        by_cases hj : 0 < j
        · by_cases hm : 1 < m
          · go_wp2_with fail
            refine (pick_c hr (by omega)).mono ?_
            rintro e w3 ⟨v2, rfl, hv2, hv2', h3, g3⟩
            have ow3 := own_pick own g3 (by omega)
            have G3 := gb_trans G g3
            obtain ⟨i, rfl⟩ := Int.eq_ofNat_of_zero_le hv2
            have hi : i + 1 < m := by omega
            obtain ⟨go, rfl, hgo, hgos⟩ := own_form ow3 (by omega)
            clear own G hr g3
            have c0 := (ow3.cellAt (g := go) (cap := c') i (by omega)).trans (map_getElem? zs i (by have := HZ.out; omega))
            have c1 := (ow3.cellAt (g := go) (cap := c') (i + 1) (by omega)).trans (map_getElem? zs (i + 1) (by have := HZ.out; omega))
            have f0 := ow3.frozenAt (g := go) (cap := c') i
            have s1 := (ow3.stored (g := go) (cap := c') i (.int .i64 (zs.getD (i + 1) 0))).1
            rw [← List.map_set] at s1
            have f1 := s1.frozenAt (g := go) (cap := c') (i + 1)
            have s2 := (s1.stored (g := go) (cap := c') (i + 1) (.int .i64 (zs.getD i 0))).1
            rw [← List.map_set] at s2
            have hl2 : ((zs.set i (zs.getD (i + 1) 0)).set (i + 1) (zs.getD i 0)).length = m := by simp [HZ.out]
            generalize (zs.set i (zs.getD (i + 1) 0)).set (i + 1) (zs.getD i 0) = zs2 at *
            generalize zs.getD i 0 = x at *
            generalize zs.getD (i + 1) 0 = y at *
            have S2 := Lib.hid s2
            have HL2 := Lib.hid hl2
            clear s1 s2 hl2 ow3
            have hlt2 := h3.lt
            have G4 := gb_setCell (g := go) (p := ⟨go, i + 1, none⟩) (gb_setCell (g := go) (p := ⟨go, i, none⟩) (World.grownBy.refl w3 (some go)) (.inl rfl) (.int .i64 y)) (.inl rfl) (.int .i64 x)
            have h4 := Lib.hid (h3.grown G4 (fun k hk => by injection hk with hk; omega))
            have G5 := Lib.hid (gb_step G3 G4 (fun k hk => by injection hk with hk; omega))
            clear h3 G3 G4 
            go_wp2_with fail
            go_roundw
            case rel => exact ⟨j - 1, zs2, by go_num, by omega, HL2.out, S2.out, h4.out.mono (by omega), G5.out⟩
            case measure => simp [intOf]; omega
          · have hd : decide (1 < m) = false := by simp; omega
            go_wp2_with fail
            go_ret
            exact drawL_of HZ.out (by omega) own (hr.mono (by omega)) G
        · have hd : decide (0 < j) = false := by simp; omega
          go_wp2_with fail
          go_ret
          exact drawL_of HZ.out (by omega) own (hr.mono (by omega)) G

/-- two drawn lists, at the law's level -/
def DrawnLL (w : World) (e : Ending) (w' : World) : Prop :=
  ∃ (xs ys : List Int) (A : Option Addr) (c : Nat) (A' : Option Addr) (c' : Nat), e = .returned (.tuple #[.slice A xs.length c, .slice A' ys.length c']) ∧ xs.length ≤ 100 ∧ ys.length ≤ 101 ∧ xs.length ≤ c ∧ c ≤ 9223372036854775807 ∧ ys.length ≤ c' ∧ c' ≤ 9223372036854775807 ∧ RdI .i64 w' w'.heap.size A xs.length xs ∧ RdI .i64 w' w'.heap.size A' ys.length ys ∧ Below w.heap.size w w'
theorem drawnLL_of {w w' : World} {base base' n m c c' : Nat} {A A' : Option Addr} {xs ys : List Int} (h1 : xs.length = n) (h2 : ys.length = m) (h3 : n ≤ 100) (h4 : m ≤ 101) (h5 : w'.ownsRow base 3 1 (.slice A n c) n (xs.map (Value.int .i64))) (h6 : w'.ownsRow base' 3 1 (.slice A' m c') m (ys.map (Value.int .i64))) (h7 : Below w.heap.size w w') :
    DrawnLL w (.returned (.tuple #[.slice A n c, .slice A' m c'])) w' := by
  subst h1; subst h2
  exact ⟨xs, ys, A, c, A', c', rfl, h3, h4, (own_cap h5).1, (own_cap h5).2, (own_cap h6).1, (own_cap h6).2, rdoI h5, rdoI h6, h7⟩

theorem drawOrderRight_c {A : Option Addr} {n c : Nat} {zs : List Int} {w : World} (hr : RdI .u8 w w.heap.size A n zs) (hx : ∀ x ∈ zs, 0 ≤ x ∧ x ≤ 255) (hnc : n ≤ c) (hcm : c ≤ 9223372036854775807) :
    Calls Try.prog 25 #[.slice A n c] w (DrawnLL w) := by
  go_enter Try.func25, Try.ntmps25
  go_wp2_with fail
  refine (open_c hr hx hnc hcm).mono ?_
  rintro e w1 ⟨rfl, h1, b1⟩
  have hg1 := h1.lt
  go_wp2_with fail
  refine (l20Log_c h1 (by omega) (by omega) (by omega)).mono ?_
  rintro e w2 h
  obtain ⟨xs, A1, c1, rfl, h100, o2, h2, g2⟩ := h
  have b2 := below_of_gb b1 g2 b1.size (Nat.le_refl _)
  have hs2 := g2.size
  have hsb := b1.size
  clear hr hx hnc hcm h1 b1 g2
  generalize hxl : xs.length = n1 at *
  have HX := Lib.hid hxl
  clear hxl
  go_wp2_with fail
  refine (l20Order_c h2 (by omega) (rdoI o2) (Nat.le_refl _) h100).mono ?_
  rintro e w3 h
  obtain ⟨ys, A2, c2, rfl, h100', o3, h3, g3⟩ := h
  have p3 := own_pick o2 g3 (by omega)
  have b3 := below_of_gb b2 g3 b2.size (Nat.le_refl _)
  have hs3 := g3.size
  have hlo := o2.lt
  clear o2 b2 h2 g3
  generalize hyl : ys.length = n2 at *
  have HY := Lib.hid hyl
  clear hyl
  go_wp2_with fail
  refine (odd_c h3 (by omega) (by omega) (by omega)).mono ?_
  rintro e w4 ⟨b, rfl, h4, g4⟩
  have o4 := own_pick o3 g4 (by omega)
  have p4 := own_pick p3 g4 (by omega)
  have b4 := below_of_gb b3 g4 b3.size (Nat.le_refl _)
  have hs4 := g4.size
  clear o3 p3 b3 h3 g4
  cases b
  · go_wp2_with fail
    go_ret2
    exact drawnLL_of HX.out HY.out h100 (by omega) p4 o4 b4
  · go_wp2_with fail
    have oc := o4.alloc (.cells #[.int .i64 0, .int .i64 2, .int .i64 99] 3)
    have pc' := p4.alloc (.cells #[.int .i64 0, .int .i64 2, .int .i64 99] 3)
    have bc := b4.alloc b4.size (.cells #[.int .i64 0, .int .i64 2, .int .i64 99] 3)
    refine (pick_c (h4.alloc _) (by omega)).mono ?_
    rintro e w5 ⟨v5, rfl, hv5, hv5', h5, g5⟩
    have o5 := own_pick oc g5 (by omega)
    have p5 := own_pick pc' g5 (by omega)
    have b5 := below_of_gb bc g5 bc.size (Nat.le_refl _)
    have hs5 := g5.size
    rw [World.size_alloc] at hs5
    have kk1 : Blk w5 w4.heap.size 3 #[.int .i64 0, .int .i64 2, .int .i64 99] := (Blk.new w4 3 _).grown g5 (by intro e; injection e with e; omega)
    obtain ⟨y, hy1, hy2, hc1⟩ := tab_at [0, 2, 99] kk1 0 99 (by simp) hv5 (by simp; omega)
    have hv6 : v5 < 3 := by omega
    have hl5 := o5.lt
    clear kk1 g5 oc pc' bc b4 p4 o4 h4
    go_wp2_with (at_builtin; refine wpList_appI rfl rfl rfl o5 rfl (by omega) (by omega) ?_; rintro g8 c8 wa owna hga hge8)
    have pa := own_other p5 hga (fun k hk e => by have h1 := hl5 k e; have h2 := hlo k hk; omega)
    have ba := b5.grown hga b5.size (fun k hk => by have := hl5 k hk; omega)
    go_ret2
    exact drawnLL_of HX.out (by rw [List.length_append, HY.out]; rfl) h100 (by omega) pa owna ba

theorem drawCutRight_c {A : Option Addr} {n c : Nat} {zs : List Int} {w : World} (hr : RdI .u8 w w.heap.size A n zs) (hx : ∀ x ∈ zs, 0 ≤ x ∧ x ≤ 255) (hnc : n ≤ c) (hcm : c ≤ 9223372036854775807) :
    Calls Try.prog 24 #[.slice A n c] w (DrawnLL w) := by
  go_enter Try.func24, Try.ntmps24
  go_wp2_with fail
  refine (open_c hr hx hnc hcm).mono ?_
  rintro e w1 ⟨rfl, h1, b1⟩
  have hg1 := h1.lt
  go_wp2_with fail
  refine (l20Log_c h1 (by omega) (by omega) (by omega)).mono ?_
  rintro e w2 h
  obtain ⟨xs, A1, c1, rfl, h100, o2, h2, g2⟩ := h
  have b2 := below_of_gb b1 g2 b1.size (Nat.le_refl _)
  have hs2 := g2.size
  have hsb := b1.size
  clear hr hx hnc hcm h1 b1 g2
  generalize hxl : xs.length = n1 at *
  have HX := Lib.hid hxl
  clear hxl
  go_wp2_with fail
  refine (l20Order_c h2 (by omega) (rdoI o2) (Nat.le_refl _) h100).mono ?_
  rintro e w3 h
  obtain ⟨ys, A2, c2, rfl, h100', o3, h3, g3⟩ := h
  have p3 := own_pick o2 g3 (by omega)
  have b3 := below_of_gb b2 g3 b2.size (Nat.le_refl _)
  have hs3 := g3.size
  have hlo := o2.lt
  clear o2 b2 h2 g3
  have hcap := own_cap o3
  have hnil := own_nil o3
  generalize hyl : ys.length = n2 at *
  have HY := Lib.hid hyl
  clear hyl
  obtain ⟨hcap1, hcap2⟩ := hcap
  go_wp2_with fail
  have on0 : (w3.alloc (.cells #[] 3)).ownsRow w3.heap.size 3 1 (.slice (some ⟨w3.heap.size, 0, none⟩) 0 0) 0 (([] : List Int).map (Value.int .i64)) := World.ownsRow_lit w3 #[] 0 (Nat.le_refl _) (by decide) rfl
  refine (pick_c (h3.alloc _) (by omega)).mono ?_
  rintro e w4 ⟨v, rfl, hv1, hv2, h4, g4⟩
  have o4 := own_pick (o3.alloc _) g4 (by omega)
  have p4 := own_pick (p3.alloc _) g4 (by omega)
  have on4 := own_pick on0 g4 (by omega)
  have b4 := below_of_gb (b3.alloc b3.size _) g4 (by rw [World.size_alloc]; have := b3.size; omega) (Nat.le_refl _)
  have hs4 := g4.size
  rw [World.size_alloc] at hs4
  clear o3 p3 on0 b3 h3 g4
  obtain ⟨k, rfl⟩ := Int.eq_ofNat_of_zero_le hv1
  have hk : k ≤ n2 := by omega
  have rt := (rdoI o4).take (i := k) hk
  go_wp2_with (at_builtin; refine wpList_appMany rfl rfl rfl on4 rfl hnil rt (by omega) (by omega) ?_; rintro A5 c5 w5 o5 g5)
  rw [Nat.zero_add, List.nil_append] at o5
  replace g5 : w4.grownBy w5 (some w3.heap.size) := g5
  have q5 := own_other p4 g5 (fun k hk e => by injection e with e; have := hlo k hk; omega)
  have b5 := b4.grown g5 b4.size (fun k hk => by injection hk with hk; omega)
  have h5 := h4.grown g5 (fun k hk => by injection hk with hk; omega)
  have hs5 := g5.size
  have hkl : (ys.take k).length = k := by simp; have := HY.out; omega
  have HK := Lib.hid hkl
  generalize ys.take k = ts at *
  clear hkl p4 on4 b4 h4 g5 rt o4
  go_wp2_with fail
  refine (odd_c h5 (by omega) (by omega) (by omega)).mono ?_
  rintro e w6 ⟨b, rfl, h6, g6⟩
  have o6 := own_pick o5 g6 (by omega)
  have p6 := own_pick q5 g6 (by omega)
  have b6 := below_of_gb b5 g6 b5.size (Nat.le_refl _)
  have hs6 := g6.size
  clear o5 q5 b5 h5 g6
  cases b
  · go_wp2_with fail
    go_ret2
    exact drawnLL_of HX.out HK.out h100 (by omega) p6 o6 b6
  · go_wp2_with fail
    have oc := o6.alloc (.cells #[.int .i64 0, .int .i64 2, .int .i64 99] 3)
    have pc' := p6.alloc (.cells #[.int .i64 0, .int .i64 2, .int .i64 99] 3)
    have bc := b6.alloc b6.size (.cells #[.int .i64 0, .int .i64 2, .int .i64 99] 3)
    refine (pick_c (h6.alloc _) (by omega)).mono ?_
    rintro e w7 ⟨v5, rfl, hv5, hv5', h7, g7⟩
    have o7 := own_pick oc g7 (by omega)
    have p7 := own_pick pc' g7 (by omega)
    have b7 := below_of_gb bc g7 bc.size (Nat.le_refl _)
    have hs7 := g7.size
    rw [World.size_alloc] at hs7
    have kk1 : Blk w7 w6.heap.size 3 #[.int .i64 0, .int .i64 2, .int .i64 99] := (Blk.new w6 3 _).grown g7 (by intro e; injection e with e; omega)
    obtain ⟨y, hy1, hy2, hc1⟩ := tab_at [0, 2, 99] kk1 0 99 (by simp) hv5 (by simp; omega)
    have hv6 : v5 < 3 := by omega
    have hl7 := o7.lt
    clear kk1 g7 oc pc' bc b6 p6 o6 h6
    go_wp2_with (at_builtin; refine wpList_appI rfl rfl rfl o7 rfl (by omega) (by omega) ?_; rintro g8 c8 wa owna hga hge8)
    have pa := own_other p7 hga (fun k hk e => by have h1 := hl7 k e; have h2 := hlo k hk; omega)
    have ba := b7.grown hga b7.size (fun k hk => by have := hl7 k hk; omega)
    go_ret2
    exact drawnLL_of HX.out (by rw [List.length_append, HK.out]; rfl) h100 (by omega) pa owna ba
end Go.Proofs.Ytcaagjepiicleaa
