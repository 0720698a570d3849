/- DrawShareRun's contract (two lists of at most 100 integers), and the walk of the law FnShareRun. -/
import Derived.Test.YtiojgofkilojmaaShare
import Derived.Test.YtiojgofkilojmaaDrawList
import Derived.Test.YtiojgofkilojmaaAlive
import Derived.Maps.AppendAt
namespace Go.Proofs.Ytiojgofkilojmaa
open Go.ChangeShapes Go.WideShapes Go.ChangeAt Go.RowKit
set_option linter.unusedVariables false
set_option linter.unusedSimpArgs false

/-- append of one integer to a row of the call's own: the new row lies in the old block, or in a new one -/
theorem wpList_appI2 {ops : Array Oper} {rest : List Oper} {o : Oper} {a : Act} {Q : Exit → Act → World → Prop} {w : World} {s x : Operand} {base : Nat} {g0 : Nat} {c0 n : Nat} {xs : List Int} {y : Int} (hgd : o.guard = none)
    (ho : o.op = .call { callee := .builtin .append, args := #[s, x], argTypes := #[22, 22] })
    (hs : a.eval s = .slice (some ⟨g0, 0, none⟩) n c0) (hown : w.ownsRow base 3 1 (.slice (some ⟨g0, 0, none⟩) n c0) n (xs.map (Value.int .i64)))
    (hx : a.eval x = .slice (some ⟨w.heap.size, 0, none⟩) 1 1) (hn : n ≤ 1000000000000) (hbase : base ≤ w.heap.size)
    (h : ∀ g c w', w'.ownsRow base 3 1 (.slice (some ⟨g, 0, none⟩) (n + 1) c) (n + 1) ((xs ++ [y]).map (Value.int .i64)) → w.grownBy w' (some g0) → (g = g0 ∨ w.heap.size ≤ g) → wpList Try.prog ops Q rest (a.put o.dst (.slice (some ⟨g, 0, none⟩) (n + 1) c)) w') :
    wpList Try.prog ops Q (o :: rest) a (w.alloc (.cells #[.int .i64 y] 3)) := by
  obtain ⟨i0, hi, hz0, hz1, hz2⟩ := info_parts infoInt
  refine wpList_append_own_at _ hgd s x 22 ho base 3 i0 (.int .i64 0) 1 8 Try.underlying22 hi hz0 hz1 hz2 rfl (by decide) (.slice (some ⟨g0, 0, none⟩) n c0) n _ hs (hown.alloc _) ⟨w.heap.size, 0, none⟩ 1 1 [.int .i64 y] hx rfl ?_ (by simp [Value.oneCell']) (by unfold maxLen; omega) (by omega) (by simp; omega) ?_
  · intro j u hj
    rw [add_none, Nat.zero_add]
    have := (Blk.new w 3 [Value.int .i64 y].toArray).cell j
    rw [this, List.getElem?_toArray]
    exact hj
  · intro v' w' hown' hg _ hat
    rcases hown'.2 with ⟨h1, h2⟩ | ⟨g, cap, cur, h1, hb, _⟩
    · omega
    · subst h1
      refine h g cap w' (by rw [List.map_append]; exact hown') ⟨hg.os, hg.tape, hg.output, Nat.le_trans (by simp) hg.size, fun k hk hne => ?_⟩ ?_
      · rw [hg.block k (by simp; omega) hne]
        exact Below.heap_alloc w _ k hk
      · rcases hat with h3 | h3
        · left; have h4 : some g = some g0 := h3; injection h4
        · right; have h4 : some g = some (w.alloc (.cells [Value.int .i64 y].toArray 3)).heap.size := h3
          injection h4 with h4; rw [h4]; simp

def DrawnTwo (w : World) (e : Ending) (w' : World) : Prop :=
  ∃ (xs ys : List Int) (A : Option Addr) (c : Nat) (A' : Option Addr) (c' : Nat), e = .returned (.tuple #[.slice A xs.length c, .slice A' ys.length c']) ∧ xs.length ≤ 100 ∧ ys.length ≤ 100 ∧ RdI .i64 w' w'.heap.size A xs.length xs ∧ RdI .i64 w' w'.heap.size A' ys.length ys ∧ Below w.heap.size w w'
theorem drawnTwo_of {w w' : World} {xs ys : List Int} {A A' : Option Addr} {m c m' c' : Nat} (h1 : xs.length = m) (h2 : ys.length = m') (h3 : m ≤ 100) (h4 : m' ≤ 100) (h5 : RdI .i64 w' w'.heap.size A m xs) (h6 : RdI .i64 w' w'.heap.size A' m' ys) (h7 : Below w.heap.size w w') : DrawnTwo w (.returned (.tuple #[.slice A m c, .slice A' m' c'])) w' := by
  subst h1; subst h2
  exact ⟨xs, ys, A, c, A', c', rfl, h3, h4, h5, h6, h7⟩

theorem drawShareRun_c {A : Option Addr} {n c : Nat} {zs : List Int} {w : World} (hr : RdI .u8 w w.heap.size A n zs) (hx : ∀ x ∈ zs, 0 ≤ x ∧ x ≤ 255) (hnc : n ≤ c) (hcm : c ≤ 9223372036854775807) :
    Calls Try.prog 11 #[.slice A n c] w (DrawnTwo w) := by
  go_enter Try.func11, Try.ntmps11
  go_wp2_with fail
  refine (open_c hr hx hnc hcm).mono ?_
  rintro e w1 ⟨rfl, h1, b1⟩
  clear hr hx hnc hcm
  have hg := h1.lt.2
  have hS : w.heap.size < w1.heap.size := hg
  have o1 : (w1.alloc (.cells #[] 3)).ownsRow w1.heap.size 3 1 (.slice (some ⟨w1.heap.size, 0, none⟩) 0 0) 0 (([] : List Int).map (Value.int .i64)) := World.ownsRow_lit w1 #[] 0 (Nat.le_refl _) (by decide) rfl
  have o2 : ((w1.alloc (.cells #[] 3)).alloc (.cells #[] 3)).ownsRow w1.heap.size 3 1 (.slice (some ⟨(w1.alloc (.cells #[] 3)).heap.size, 0, none⟩) 0 0) 0 (([] : List Int).map (Value.int .i64)) := World.ownsRow_lit (w1.alloc (.cells #[] 3)) #[] 0 (by simp) (by decide) rfl
  replace o1 := o1.alloc (.cells #[] 3)
  have h1' := (h1.alloc (.cells #[] 3)).alloc (.cells #[] 3)
  have b1' := (b1.alloc b1.size (.cells #[] 3)).alloc (by simp; have := b1.size; omega) (.cells #[] 3)
  have e1 : (w1.alloc (.cells #[] 3)).heap.size = w1.heap.size + 1 := by simp
  rw [e1] at o2
  clear h1 b1
  go_wp2_with fail
  refine (pick_c h1' (by omega)).mono ?_
  rintro e w2 ⟨v1, rfl, hv1, hv1', h2, g2⟩
  have p1 := own_pick o1 g2 hg
  have p2 := own_pick o2 g2 hg
  have b2 : Below w.heap.size w w2 := b1'.grown g2 b1'.size (fun k hk => by injection hk with hk; omega)
  have s2 : w1.heap.size ≤ w2.heap.size := by have := g2.size; simp at this; omega
  clear o1 o2 h1' b1' g2 e1
  generalize w1.heap.size = S at *
  go_wp2_with fail
  go_loopw [5, 6, 7] (fun v v' kk wr => ∃ (j : Nat) (xs ys : List Int) (q c q' c' : Nat) (m : Nat), kk = .int .i64 j ∧ j + m ≤ 7 ∧ xs.length = m ∧ ys.length = m ∧ q ≠ q' ∧ v = .slice (some ⟨q, 0, none⟩) m c ∧ v' = .slice (some ⟨q', 0, none⟩) m c' ∧ wr.ownsRow S 3 1 (.slice (some ⟨q, 0, none⟩) m c) m (xs.map (Value.int .i64)) ∧ wr.ownsRow S 3 1 (.slice (some ⟨q', 0, none⟩) m c') m (ys.map (Value.int .i64)) ∧ Rdr wr w.heap.size w.heap.size (2 + 4 * m) ∧ Below w.heap.size w wr ∧ S ≤ wr.heap.size) (fun _ _ kk _ => (intOf kk).toNat)
  case atStart =>
    obtain ⟨j, rfl⟩ := Int.eq_ofNat_of_zero_le hv1
    exact ⟨j, [], [], _, _, _, _, 0, rfl, by omega, rfl, rfl, by omega, rfl, rfl, p1, p2, h2.mono (by omega), b2, s2⟩
  case round =>
    obtain ⟨j, xs, ys, q, c, q', c', m, rfl, hjm, hxl, hyl, hqq, rfl, rfl, own, own', hr, bel, hsz⟩ := hrel
    have HX := Lib.hid hxl
    have HY := Lib.hid hyl
    clear hxl hyl p1 p2 h2 b2 s2
    by_cases hj : 0 < j
    · go_wp2_with fail
      refine (pick_c hr (by omega)).mono ?_
      rintro e wa ⟨x1, rfl, hx1, hx1', ha, ga⟩
      have own1 := own_pick own ga hg
      have own1' := own_pick own' ga hg
      have bel1 := bel.grown ga bel.size (fun k hk => by injection hk with hk; omega)
      have hsz1 : S ≤ wa.heap.size := Nat.le_trans hsz ga.size
      clear own own' bel hr ga hsz
      go_wp2_with fail
      refine (pick_c ha (by omega)).mono ?_
      rintro e wb ⟨x2, rfl, hx2, hx2', hb, gb⟩
      have own2 := own_pick own1 gb hg
      have own2' := own_pick own1' gb hg
      have bel2 := bel1.grown gb bel1.size (fun k hk => by injection hk with hk; omega)
      have hsz2 : S ≤ wb.heap.size := Nat.le_trans hsz1 gb.size
      clear own1 own1' bel1 ha gb hsz1
      have hd1 : 0 ≤ x2 / 39 := by omega
      have hd2 : x2 / 39 ≤ 1 := by omega
      have lt2 := own2.lt q rfl
      have lt2' := own2'.lt q' rfl
      go_wp2_with (at_builtin; refine wpList_appI2 rfl rfl rfl own2 rfl (by omega) hsz2 ?_; rintro q3 c3 wc own3 gc hq3)
      have own3' := own_other own2' gc (fun k hk e => hqq (Option.some.inj (e.trans (show some k = some q' from hk.symm))))
      have hc3 := Rdr.grown hb gc (fun k hk => by injection hk with hk; omega)
      have bel3 := bel2.grown gc bel2.size (fun k hk => by injection hk with hk; omega)
      have hsz3 : S ≤ wc.heap.size := Nat.le_trans hsz2 gc.size
      have hqq3 : q3 ≠ q' := by omega
      clear own2 own2' bel2 hb gc hsz2 lt2 lt2' hq3 hqq
      go_wp2_with fail
      refine (pick_c hc3 (by omega)).mono ?_
      rintro e wd ⟨x3, rfl, hx3, hx3', hd, gd⟩
      have own4 := own_pick own3 gd hg
      have own4' := own_pick own3' gd hg
      have bel4 := bel3.grown gd bel3.size (fun k hk => by injection hk with hk; omega)
      have hsz4 : S ≤ wd.heap.size := Nat.le_trans hsz3 gd.size
      clear own3 own3' bel3 hc3 gd hsz3
      have lt4 := own4.lt q3 rfl
      have lt4' := own4'.lt q' rfl
      go_wp2_with (at_builtin; refine wpList_appI2 rfl rfl rfl own4' rfl (by omega) hsz4 ?_; rintro q5 c5 we own5' ge hq5)
      have own5 := own_other own4 ge (fun k hk e => hqq3 (Option.some.inj ((show some q3 = some k from hk).trans e.symm)))
      have hc5 := Rdr.grown hd ge (fun k hk => by injection hk with hk; omega)
      have bel5 := bel4.grown ge bel4.size (fun k hk => by injection hk with hk; omega)
      have hsz5 : S ≤ we.heap.size := Nat.le_trans hsz4 ge.size
      have hqq5 : q3 ≠ q5 := by omega
      clear own4 own4' bel4 hd ge hsz4 lt4 lt4' hq5 hqq3
      go_roundw
      case rel => exact ⟨j - 1, xs ++ [_], ys ++ [x3], q3, c3, q5, c5, m + 1, by go_num, by omega, by rw [List.length_append, HX.out]; rfl, by rw [List.length_append, HY.out]; rfl, hqq5, rfl, rfl, own5, own5', hc5.mono (by omega), bel5, hsz5⟩
      case measure => simp [intOf]; omega
    · obtain rfl : j = 0 := by omega
      go_wp2_with fail
      refine (odd_c hr (by omega) (by omega) (by omega)).mono ?_
      rintro e wa ⟨b, rfl, ha, ga⟩
      have own1 := own_pick own ga hg
      have own1' := own_pick own' ga hg
      have bel1 := bel.grown ga bel.size (fun k hk => by injection hk with hk; omega)
      have hsz1 : S ≤ wa.heap.size := Nat.le_trans hsz ga.size
      clear own own' bel hr ga hsz
      have lt2 := own1.lt q rfl
      have lt2' := own1'.lt q' rfl
      cases b
      · go_wp2_with fail
        refine (odd_c ha (by omega) (by omega) (by omega)).mono ?_
        rintro e wz ⟨bz, rfl, hz, gz⟩
        have oz := own_pick own1 gz hg
        have oz' := own_pick own1' gz hg
        have bz' := bel1.grown gz bel1.size (fun k hk => by injection hk with hk; omega)
        clear own1 own1' bel1 ha gz
        cases bz
        · go_wp2_with fail
          go_ret2
          exact drawnTwo_of HX.out HY.out (by omega) (by omega) (rdoI oz) (rdoI oz') bz'
        · have hmk : ∀ W : World, (Instr.makeSlice 22 (.int .i64 21) (.int .i64 21)).run Try.prog W = .ok (.slice (some ⟨W.heap.size, 0, none⟩) 21 21) (W.alloc (.cells (cellsI (List.replicate 21 0)) 3)) := fun W => make_ints 21 (by omega) W
          go_wp2_with fail
          go_region
          all_goals
            have k1 : RowI ((wz.alloc (.cells (cellsI (List.replicate 21 0)) 3)).alloc (.cells (cellsI (List.replicate 21 0)) 3)).drew wz.heap.size (List.replicate 21 0) := ((Blk.new wz 3 _).alloc _).drew
            have k2 : RowI ((wz.alloc (.cells (cellsI (List.replicate 21 0)) 3)).alloc (.cells (cellsI (List.replicate 21 0)) 3)).drew (wz.alloc (.cells (cellsI (List.replicate 21 0)) 3)).heap.size (List.replicate 21 0) := (Blk.new (wz.alloc (.cells (cellsI (List.replicate 21 0)) 3)) 3 _).drew
            rw [World.size_alloc] at k2
            have bq : Below w.heap.size w ((wz.alloc (.cells (cellsI (List.replicate 21 0)) 3)).alloc (.cells (cellsI (List.replicate 21 0)) 3)).drew := below_drewN ((bz'.alloc bz'.size _).alloc (by rw [World.size_alloc]; have := bz'.size; omega) _) 1
            go_wp2_with fail
            go_ret2
            first
              | exact drawnTwo_of (xs := List.replicate 21 0) (ys := List.replicate 21 0) rfl rfl (by omega) (by omega) k1.rd k2.rd bq
              | exact drawnTwo_of (xs := List.replicate 21 0) (ys := List.replicate 21 0) rfl rfl (by omega) (by omega) k2.rd k1.rd bq
      · go_wp2_with (at_builtin; refine wpList_appI2 rfl rfl rfl own1 rfl (by omega) hsz1 ?_; rintro q3 c3 wc own3 gc hq3)
        have own3' := own_other own1' gc (fun k hk e => hqq (Option.some.inj (e.trans (show some k = some q' from hk.symm))))
        have hc3 := Rdr.grown ha gc (fun k hk => by injection hk with hk; omega)
        have bel3 := bel1.grown gc bel1.size (fun k hk => by injection hk with hk; omega)
        have HX3 := Lib.hid (show (xs ++ [1]).length = m + 1 from by rw [List.length_append, HX.out]; rfl)
        clear own1 own1' bel1 ha gc
        go_wp2_with fail
        refine (odd_c hc3 (by omega) (by omega) (by omega)).mono ?_
        rintro e wz ⟨bz, rfl, hz, gz⟩
        have oz := own_pick own3 gz hg
        have oz' := own_pick own3' gz hg
        have bz' := bel3.grown gz bel3.size (fun k hk => by injection hk with hk; omega)
        clear own3 own3' bel3 hc3 gz
        cases bz
        · go_wp2_with fail
          go_ret2
          exact drawnTwo_of HX3.out HY.out (by omega) (by omega) (rdoI oz) (rdoI oz') bz'
        · have hmk : ∀ W : World, (Instr.makeSlice 22 (.int .i64 21) (.int .i64 21)).run Try.prog W = .ok (.slice (some ⟨W.heap.size, 0, none⟩) 21 21) (W.alloc (.cells (cellsI (List.replicate 21 0)) 3)) := fun W => make_ints 21 (by omega) W
          go_wp2_with fail
          go_region
          all_goals
            have k1 : RowI ((wz.alloc (.cells (cellsI (List.replicate 21 0)) 3)).alloc (.cells (cellsI (List.replicate 21 0)) 3)).drew wz.heap.size (List.replicate 21 0) := ((Blk.new wz 3 _).alloc _).drew
            have k2 : RowI ((wz.alloc (.cells (cellsI (List.replicate 21 0)) 3)).alloc (.cells (cellsI (List.replicate 21 0)) 3)).drew (wz.alloc (.cells (cellsI (List.replicate 21 0)) 3)).heap.size (List.replicate 21 0) := (Blk.new (wz.alloc (.cells (cellsI (List.replicate 21 0)) 3)) 3 _).drew
            rw [World.size_alloc] at k2
            have bq : Below w.heap.size w ((wz.alloc (.cells (cellsI (List.replicate 21 0)) 3)).alloc (.cells (cellsI (List.replicate 21 0)) 3)).drew := below_drewN ((bz'.alloc bz'.size _).alloc (by rw [World.size_alloc]; have := bz'.size; omega) _) 1
            go_wp2_with fail
            go_ret2
            first
              | exact drawnTwo_of (xs := List.replicate 21 0) (ys := List.replicate 21 0) rfl rfl (by omega) (by omega) k1.rd k2.rd bq
              | exact drawnTwo_of (xs := List.replicate 21 0) (ys := List.replicate 21 0) rfl rfl (by omega) (by omega) k2.rd k1.rd bq

theorem shareRun_small {xs ys : List Int} (h : shareRun xs ys < 0) : shareRun xs ys = -1 := by
  by_cases hok : ShrOk xs ys
  · by_cases h0 : sumTo xs xs.length = 0
    · rw [shareRun_zero hok h0] at h; omega
    · obtain ⟨⟨h1, h2⟩, h3, h4⟩ := sumTo_range hok.2.2 xs.length (Nat.le_refl _)
      have : 0 ≤ (sumTo xs xs.length + sumTo ys xs.length) * 100 / sumTo xs xs.length := Int.ediv_nonneg (by omega) (by omega)
      rw [shareRun_yes hok h0] at h; omega
  · exact shareRun_no hok
theorem shareRun_ge {xs ys : List Int} (hok : ShrOk xs ys) (h0 : sumTo xs xs.length ≠ 0) : 100 ≤ shareRun xs ys := by
  obtain ⟨⟨h1, h2⟩, h3, h4⟩ := sumTo_range hok.2.2 xs.length (Nat.le_refl _)
  rw [shareRun_yes hok h0]
  exact Int.le_ediv_of_mul_le (by omega) (by omega)
theorem shareRun_law {xs ys : List Int} (h : 0 ≤ shareRun xs ys) : (shareRun xs ys = 0 ∨ 100 ≤ shareRun xs ys) ∧ xs.length = ys.length ∧ (xs.length = 1 → xs.getD 0 0 = 0 ∨ writeShare (xs.getD 0 0) (ys.getD 0 0) = shareRun xs ys) := by
  by_cases hok : ShrOk xs ys
  · refine ⟨?_, hok.1, fun hl => ?_⟩
    · by_cases h0 : sumTo xs xs.length = 0
      · left; exact shareRun_zero hok h0
      · right; exact shareRun_ge hok h0
    · have e1 : sumTo xs 1 = xs.getD 0 0 := by simp [sumTo]
      have e2 : sumTo ys 1 = ys.getD 0 0 := by simp [sumTo]
      by_cases h0 : xs.getD 0 0 = 0
      · exact .inl h0
      · right
        have hz : sumTo xs xs.length ≠ 0 := by rw [hl, e1]; exact h0
        have hb := hok.2.2 0 (by omega)
        unfold Shr1 at hb
        rw [shareRun_yes hok hz, hl, e1, e2]
        unfold writeShare
        rw [if_neg (by omega)]
  · rw [shareRun_no hok] at h; omega

theorem fnShareRun_w (a0 : Option Addr) (len0 cap0 : Nat) (z0 : List Int) (w : World) (w0 : IsRow .u8 w a0 len0 cap0 z0) :
    Calls Try.prog 4 #[.slice a0 len0 cap0] w fun e w' => e = .returned (.bool true) ∧ Below w.heap.size w w' := by
  obtain ⟨h1, h2, h3, h4⟩ := bytes_ok w0
  by_cases hl : 1048576 < len0
  · go_enter Try.func4, Try.ntmps4
    go_wp2
    go_ret
    exact ⟨rfl, Below.refl _ _⟩
  go_enter Try.func4, Try.ntmps4
  go_wp2_with fail
  refine (drawShareRun_c h3 h4 h1 h2).mono ?_
  rintro e w1 ⟨xs, ys, A, c, A', c', rfl, hx100, hy100, rx, ry, bel⟩
  clear h3 h4 w0
  go_wp2_with fail
  refine (shareRun_impl rx (by omega) ry (by omega)).mono ?_
  rintro e w' ⟨rfl, rfl⟩
  go_wp2_with fail
  refine (shareRun_spec rx (by omega) ry (by omega)).mono ?_
  rintro e w' ⟨rfl, rfl⟩
  by_cases hneg : shareRun xs ys < 0
  · have hm := shareRun_small hneg
    rw [hm]
    clear hneg
    go_wp2_with (go_at_call 12; refine (alive_c _).mono ?_; rintro e w' ⟨rfl, rfl⟩)
    go_ret
    exact ⟨rfl, bel⟩
  · obtain ⟨hl1, hl2, hl3⟩ := shareRun_law (xs := xs) (ys := ys) (by omega)
    generalize shareRun xs ys = r at *
    by_cases hn1 : xs.length = 1
    · have hy1 : ys.length = 1 := by omega
      obtain ⟨b, off, hA, hb, hc⟩ := rx.at_ (by omega)
      obtain ⟨b', off', hA', hb', hc'⟩ := ry.at_ (by omega)
      subst hA; subst hA'
      have c0 := hc 0 (by omega)
      have c0' := hc' 0 (by omega)
      rw [Nat.add_zero] at c0 c0'
      replace hl3 := hl3 hn1
      generalize xs.getD 0 0 = x at *
      generalize ys.getD 0 0 = y at *
      rw [hn1, hy1]
      clear hc hc' rx ry hl2
      have hne1 : ((1 : Int) != 1) = false := by decide
      rcases hl1 with hr0 | hr0
      · subst hr0
        by_cases hx0 : x = 0
        · subst hx0
          go_wp2_with fail
          go_quiet (fail)
          go_wp2_with fail
          go_ret
          exact ⟨rfl, below_drewN bel _⟩
        · have hq : (x == 0) = false := by simp [hx0]
          have hws := hl3.resolve_left hx0
          go_wp2_with fail
          go_quiet ((go_at_call 13; first | exact quiet_left (writeShare_impl _ _ _) | exact quiet_add_left (writeShare_impl _ _ _)))
          rw [hws]
          go_wp2_with fail
          go_ret
          exact ⟨by simp, below_drewN bel _⟩
      · have hr1 : (r == 0) = false := by rw [beq_eq_false_iff_ne]; omega
        have hr2 : decide (100 ≤ r) = true := by simp; omega
        by_cases hx0 : x = 0
        · subst hx0
          go_wp2_with fail
          go_quiet (fail)
          go_wp2_with fail
          go_ret
          exact ⟨rfl, below_drewN bel _⟩
        · have hq : (x == 0) = false := by simp [hx0]
          have hws := hl3.resolve_left hx0
          go_wp2_with fail
          go_quiet ((go_at_call 13; first | exact quiet_left (writeShare_impl _ _ _) | exact quiet_add_left (writeShare_impl _ _ _)))
          rw [hws]
          go_wp2_with fail
          go_ret
          exact ⟨by simp, below_drewN bel _⟩
    · have hq1 : ((xs.length : Int) == 1) = false := by rw [beq_eq_false_iff_ne]; omega
      have hq2 : ((xs.length : Int) != 1) = true := by rw [bne_iff_ne]; omega
      have hq3 : (xs.length == 1) = false := by rw [beq_eq_false_iff_ne]; omega
      have hq4 : (xs.length != 1) = true := by rw [bne_iff_ne]; omega
      have hq5 : decide (xs.length = 1) = false := by simp [hn1]
      generalize xs.length = nx at *
      clear rx ry hl3 hl2 hn1
      rcases hl1 with hr0 | hr0
      · subst hr0
        go_wp2_with fail
        go_quiet (fail)
        go_wp2_with fail
        go_ret
        exact ⟨rfl, below_drewN bel _⟩
      · have hr1 : (r == 0) = false := by rw [beq_eq_false_iff_ne]; omega
        have hr2 : decide (100 ≤ r) = true := by simp; omega
        go_wp2_with fail
        go_quiet (fail)
        go_wp2_with fail
        go_ret
        exact ⟨rfl, below_drewN bel _⟩
end Go.Proofs.Ytiojgofkilojmaa
