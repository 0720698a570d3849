/- Parts of the proof, one after the other; each says what it proves. -/
import Derived.Test.YtjnpgdhpneifjaaG1
import Derived.Test.YtjnpgdhpneifjaaG10
import Derived.Test.YtjnpgdhpneifjaaG13
import Derived.Deep.RegionHeld3
/- Copies of tables, TableGet and CutFile by the reference, at a valid table. -/
namespace Go.Proofs.Ytjnpgdhpneifjaa
open Go.ChangeShapes Go.WideShapes Go.ChangeAt Go.RowKit Go.Deep
set_option linter.unusedVariables false
set_option linter.unusedSimpArgs false

theorem own_cellI {w : World} {base g n c : Nat} {xs : List Int} (h : w.ownsRow base 3 1 (.slice (some ⟨g, 0, none⟩) n c) n (xs.map (Value.int .i64))) (i : Nat) (hi : i < xs.length) : w.cell? ⟨g, i, none⟩ = some (.int .i64 (xs.getD i 0)) := by
  have hl := own_len h
  rw [h.cellAt (g := g) (cap := c) i (by omega)]
  exact map_getElem? _ _ hi
theorem own_emptyRowI (w : World) : (w.alloc (.cells #[] 3)).ownsRow w.heap.size 3 1 (.slice (some ⟨w.heap.size, 0, none⟩) 0 0) 0 [] := World.ownsRow_lit w #[] 0 (Nat.le_refl _) (by decide) (by simp)
/-- a whole row of integers is put onto an empty row of the call's own -/
theorem step_appIn {ops : Array Oper} {o : Oper} {a : Act} {K : Act → World → Prop} {Q : Exit → Act → World → Prop} {E : Prop} {w0 w : World} {B m c : Nat} {ad : Addr} {A0 : Option Addr} {c0 : Nat} {xs : List Int} (hgd : o.guard = none) (s x : Operand)
    (ho : o.op = .call { callee := .builtin .append, args := #[s, x], argTypes := #[76, 76] })
    (hs : a.eval s = .slice A0 0 c0) (hx : a.eval x = .slice (some ad) m c) (hown : w.ownsRow w0.heap.size 3 1 (.slice A0 0 c0) 0 []) (hb : Below w0.heap.size w0 w)
    (hr : RdI .i64 w B (some ad) m xs) (hm : 0 < m) (hn : m ≤ 1000000000)
    (h : ∀ A' c' w', w'.ownsRow w0.heap.size 3 1 (.slice A' m c') m (xs.map (Value.int .i64)) → Below w0.heap.size w0 w' → K (a.put o.dst (.slice A' m c')) w') :
    if Region.wanted o (yielded ops a.tmps) = true then Oper.wp Try.prog o a w K Q else E := by
  obtain ⟨i0, hi, hz0, hz1, hz2⟩ := info_parts infoInt
  have hw : Region.wanted o (yielded ops a.tmps) = true := by simp [Region.wanted, hgd]
  rw [if_pos hw]
  have hl := hr.len
  have hsz := hb.size
  obtain ⟨b, off, e, _, hc⟩ := hr.at_ hm
  injection e with e
  subst e
  refine wp_append_own w s x 76 ho w0.heap.size 3 i0 _ 1 8 Try.underlying76 hi hz0 hz1 hz2 rfl (by decide) (.slice A0 0 c0) 0 _ hs hown _ m c (xs.map (Value.int .i64)) hx (by rw [List.length_map, hl, Nat.mul_one]) ?_ ?_ (by unfold maxLen; omega) (by omega) hsz ?_
  · intro j u hj
    have hjl : j < xs.length := by
      rcases Nat.lt_or_ge j xs.length with h0 | h0
      · exact h0
      · rw [List.getElem?_eq_none (by simpa using h0)] at hj; cases hj
    rw [add_none, hc j (by omega)]
    rw [map_getElem? _ _ hjl] at hj
    exact hj
  · intro u hu
    simp only [List.mem_map] at hu
    obtain ⟨v, _, rfl⟩ := hu
    rfl
  · intro v' w' hown' hg _
    rw [Nat.zero_add, List.nil_append] at hown'
    have hform : ∃ A' c', v' = .slice A' m c' := by
      rcases hown'.2 with ⟨h1, h2⟩ | ⟨g, cap, cur, h1, _⟩
      · exact ⟨none, 0, by rw [h1, h2]⟩
      · exact ⟨_, _, h1⟩
    obtain ⟨A', c', rfl⟩ := hform
    exact h A' c' w' hown' (below_app hb hown hsz hg)
/-- append of one row onto a table of the call's own, in a region that draws its order -/
theorem step_appRow {ops : Array Oper} {o : Oper} {a : Act} {K : Act → World → Prop} {Q : Exit → Act → World → Prop} {E : Prop} {w w1 : World} {base : Nat} {A0 : Option Addr} {c0 n : Nat} {ts : List (List Int)} {A' : Option Addr} {n' c' : Nat} {xs : List Int} (hgd : o.guard = none) (s x : Operand)
    (ho : o.op = .call { callee := .builtin .append, args := #[s, x], argTypes := #[35, 35] })
    (hs : a.eval s = .slice A0 n c0) (hown : OwT w1 base A0 n c0 ts) (hb : Below w1.heap.size w1 w) (hr : w.ownsRow w1.heap.size 3 1 (.slice A' n' c') n' (xs.map (Value.int .i64)))
    (hx : a.eval x = .slice (some ⟨w.heap.size, 0, none⟩) 1 1) (hn : n ≤ 1000000000000) (hbase : base ≤ w1.heap.size)
    (h : ∀ g c w', OwT w' base (some ⟨g, 0, none⟩) (n + 1) c (ts ++ [xs]) → Below base w1 w' → ChgT [76] w w' → base ≤ g → K (a.put o.dst (.slice (some ⟨g, 0, none⟩) (n + 1) c)) w') :
    if Region.wanted o (yielded ops a.tmps) = true then Oper.wp Try.prog o a (w.alloc (.cells #[.slice A' n' c'] 76)) K Q else E := by
  obtain ⟨i0, hi, hz0, hz1, hz2⟩ := info_parts infoInts
  have hw : Region.wanted o (yielded ops a.tmps) = true := by simp [Region.wanted, hgd]
  rw [if_pos hw]
  obtain ⟨hs', h2⟩ := hown
  have h3 := h2.below hb
  have hpl := own_len hr
  have hsz := hb.size
  refine wp_append_own _ s x 35 ho base 76 i0 _ 1 24 Try.underlying35 hi hz0 hz1 hz2 rfl (by decide) (.slice A0 n c0) n _ hs (h3.main.alloc _) ⟨w.heap.size, 0, none⟩ 1 1 [.slice A' n' c'] hx rfl ?_ (by simp [Value.oneCell']) (by unfold maxLen; omega) (by omega) (by simp; omega) ?_
  · intro j u hj
    rw [add_none, Nat.zero_add]
    have := (Blk.new w 76 #[.slice A' n' c']).cell j
    rw [this]
    simpa using hj
  · intro v' w' hown' hg _
    have hform : ∃ g c, v' = .slice (some ⟨g, 0, none⟩) (n + 1) c ∧ base ≤ g := by
      obtain ⟨g, cap, e, hg1, hg2⟩ := hown'.form (by omega)
      exact ⟨g, cap, e, hg1⟩
    obtain ⟨g, c, rfl, hgb⟩ := hform
    have hg' : w.grownBy w' (Value.slice A0 n c0).ownBlock := ⟨hg.os, hg.tape, hg.output, Nat.le_trans (by simp) hg.size, fun i hi hne => (hg.block i (by simp; omega) hne).trans (Below.heap_alloc w _ i hi)⟩
    have hA := h2.append (e := elT xs) (h := .slice A' n' c') (by decide) hb (by unfold elT; simp only; rw [hpl]; exact hr) rfl hbase hown' hg'
    refine h g c w' ⟨_, by rw [List.map_append]; exact hA⟩ ?_ (ChgT.grown h3.main (by simp) hg') hgb
    exact (hb.mono hbase).grown hg' (by omega) (fun k hk => (own_lt h3.main hk).1)
set_option maxRecDepth 8000 in
set_option maxHeartbeats 4000000 in
theorem l7Copy_c {A : Option Addr} {n c B : Nat} {ts : List (List Int)} {w : World} (hr : RdT w B A n ts) (hB : B ≤ w.heap.size) (hn : n ≤ 1048576) (hrows : ∀ i, i < n → 0 < (ts.getD i []).length ∧ (ts.getD i []).length ≤ 1048576) :
    Calls Try.prog 141 #[.agg #[.slice A n c]] w (OwnT w ts) := by
  have HL := Lib.hid hr.len
  have HRW := Lib.hid hrows
  have b3 : Below w.heap.size w (((w.alloc (.cells #[.slice A n c] 37)).alloc (.cells #[.slice none 0 0] 37)).alloc (.cells #[.slice none 0 0] 37)) := (((Below.refl _ _).alloc (Nat.le_refl _) _).alloc (by simp) _).alloc (by simp; omega) _
  have e1 : (w.alloc (.cells #[.slice A n c] 37)).heap.size = w.heap.size + 1 := by simp
  have e2 : ((w.alloc (.cells #[.slice A n c] 37)).alloc (.cells #[.slice none 0 0] 37)).heap.size = w.heap.size + 1 + 1 := by simp
  have H3 := ((Blk.new w 37 #[.slice A n c]).alloc (.cells #[.slice none 0 0] 37)).alloc (.cells #[.slice none 0 0] 37)
  have R3 := (Blk.new (w.alloc (.cells #[.slice A n c] 37)) 37 #[.slice none 0 0]).alloc (.cells #[.slice none 0 0] 37)
  have X3 := Blk.new ((w.alloc (.cells #[.slice A n c] 37)).alloc (.cells #[.slice none 0 0] 37)) 37 #[.slice none 0 0]
  rw [e1] at R3
  rw [e2] at X3
  have hr3 := (hr.mono hB).below b3
  have B3 := Lib.hid b3
  have H3 := Lib.hid H3
  have R3 := Lib.hid R3
  have X3 := Lib.hid X3
  clear hr hrows b3 e1 e2
  go_enter Try.func141, Try.ntmps141
  go_wp2_with fail
  generalize ((w.alloc (.cells #[.slice A n c] 37)).alloc (.cells #[.slice none 0 0] 37)).alloc (.cells #[.slice none 0 0] 37) = w3 at *
  go_loopw [4] (fun i wr => ∃ (k : Nat) (Ao : Option Addr) (co : Nat), k ≤ n ∧ i = .int .i64 k ∧ OwT wr w.heap.size Ao k co (ts.take k) ∧ Blk wr (w.heap.size + 1 + 1) 37 #[.slice Ao k co] ∧ Blk wr w.heap.size 37 #[.slice A n c] ∧ Blk wr (w.heap.size + 1) 37 #[.slice none 0 0] ∧ RdT wr w.heap.size A n ts ∧ Below w.heap.size w wr) (fun i _ => n - (intOf i).toNat)
  case atStart => exact ⟨0, none, 0, Nat.zero_le _, rfl, OwT.nil _ _, X3.out, H3.out, R3.out, hr3, B3.out⟩
  case round =>
    obtain ⟨k, Ao, co, hk, rfl, O4, X4, H4, R4, hr4, b4⟩ := hrel
    have B4 := Lib.hid b4
    have s4 := b4.size
    have xl := X4.lt
    clear b4 hr3
    have t0 := H4.cell 0
    simp at t0
    by_cases hlt : k < n
    · obtain ⟨b, off, rfl, hbB, hc⟩ := hr4.at_ (by omega)
      obtain ⟨A', n', c', d0, hnc, hcm, hrg⟩ := hc k hlt
      have hn6 := HRW.out k hlt
      have HT := Lib.hid (show ts.take (k + 1) = ts.take k ++ [ts.getD k []] from by rw [List.take_succ_eq_append_getElem (by rw [HL.out]; exact hlt), List.getD_eq_getElem?_getD, List.getElem?_eq_getElem (by rw [HL.out]; exact hlt)]; rfl)
      generalize ts.getD k [] = row at *
      have hrl := hrg.len
      obtain ⟨rb, ro, rfl, hrb, _⟩ := hrg.at_ (by omega)
      clear hc
      have hdk : decide ((k : Int) < n) = true := decide_eq_true (by omega)
      have hltI : (k : Int) < n := by omega
      go_upto_region 5 with (fail)
      refine wp_region_held_drew (S := fun w' => w'.cell? ⟨w.heap.size, 0, none⟩ = some (.slice (some ⟨b, off, none⟩) n c) ∧ w'.cell? ⟨b, off + k, none⟩ = some (.slice (some ⟨rb, ro, none⟩) n' c')) (by kernel_rfl) ?_ (fun hHeld => ?_)
      · exact ⟨t0, d0⟩
      refine tk 0 ?_
      refine tk 3 ?_
      refine tk 4 ?_
      refine tk 5 ?_
      refine tk 6 ?_
      refine tk 7 ?_
      have X5 : Blk wr.drew (w.heap.size + 1 + 1) 37 _ := X4
      have H5 : Blk wr.drew w.heap.size 37 _ := H4
      have R5 : Blk wr.drew (w.heap.size + 1) 37 _ := R4
      have O5 := O4.below ((Below.refl _ _).drew)
      have hr5 := hr4.drew
      have hg5 := hrg.below ((Below.refl _ _).drew)
      have B5 := Lib.hid B4.out.drew
      have d5 : wr.drew.cell? ⟨b, off + k, none⟩ = some (.slice (some ⟨rb, ro, none⟩) n' c') := d0
      have s5 : w.heap.size ≤ wr.drew.heap.size := s4
      have xl5 : w.heap.size + 1 + 1 < wr.drew.heap.size := xl
      clear X4 H4 R4 O4 hr4 hrg B4 d0 t0 s4 xl
      have b0 : Below wr.drew.heap.size wr.drew wr.drew := Below.refl _ _
      refine rd2 1 2 (fun K hK => ?_) (fun K hK => ?_)
      · have tx : (wr.drew).cell? ⟨w.heap.size + 1 + 1, 0, none⟩ = some (.slice Ao k co) := (X5.below b0 X5.lt).cell 0
        go_simp
        clear tx
        refine hK.out _ _ ?_ (fun hHeld => ?_)
        · exact ⟨(H5.below b0 H5.lt).cell 0, (b0.cell (p := ⟨b, off + k, none⟩) (by show b < wr.drew.heap.size; omega)).trans d5⟩
        clear hK K
        refine pt ?_
        refine rd1 2 (fun K hK => ?_)
        go_simp
        have bz : Below wr.drew.heap.size wr.drew ((wr.alloc (.cells #[] 3)).drew) := (Below.refl _ _).alloc (Nat.le_refl _) _
        have oz := own_emptyRowI wr.drew
        have rz := hg5.below (bz.mono s5)
        refine hK.out _ _ ?_ (fun hHeld => ?_)
        · exact ⟨(H5.below bz H5.lt).cell 0, (bz.cell (p := ⟨b, off + k, none⟩) (by show b < wr.drew.heap.size; omega)).trans d5⟩
        clear hK K
        refine pt ?_
        refine rd1 8 (fun K hK => ?_)
        refine step_appIn (w0 := wr.drew) (xs := row) (by rfl) (.tmp 15) (.tmp 20) (by rfl) (by rfl) (by rfl) oz bz rz (by omega) (by omega) ?_
        intro A6 c6 w6 o6 b6
        have s6 := b6.size
        refine hK.out _ _ ?_ (fun hHeld => ?_)
        · exact ⟨(H5.below b6 H5.lt).cell 0, (b6.cell (p := ⟨b, off + k, none⟩) (by show b < wr.drew.heap.size; omega)).trans d5⟩
        clear hK K
        refine pt ?_
        refine rd1 9 (fun K hK => ?_)
        go_simp
        have b7 : Below wr.drew.heap.size wr.drew (w6.alloc (.cells #[.slice A6 n' c6] 76)) := b6.alloc s6 _
        refine hK.out _ _ ?_ (fun hHeld => ?_)
        · exact ⟨(H5.below b7 H5.lt).cell 0, (b7.cell (p := ⟨b, off + k, none⟩) (by show b < wr.drew.heap.size; omega)).trans d5⟩
        clear hK K
        refine pt ?_
        refine rd1 10 (fun K hK => ?_)
        refine step_appRow (w1 := wr.drew) (w := w6) (ts := ts.take k) (xs := row) (by rfl) (.tmp 14) (.tmp 22) (by rfl) (by rfl) O5 b6 o6 (by rfl) (by omega) s5 ?_
        intro g8 c8 w8 o8 b8 t8 hg8
        have X8 := ((X5.below b6 X5.lt).typed t8 (by decide))
        have H8 := ((H5.below b6 H5.lt).typed t8 (by decide))
        have R8 := ((R5.below b6 R5.lt).typed t8 (by decide))
        have hr8 := hr5.below b8
        have dd8 := (b8.cell (p := ⟨b, off + k, none⟩) hbB).trans d5
        have B8 := Lib.hid (B5.out.trans b8)
        have O8 := Lib.hid o8
        clear X5 H5 R5 O5 hr5 hg5 B5 d5 bz oz rz b6 o6 b7 b8 t8 o8
        refine hK.out _ _ ?_ (fun hHeld => ?_)
        · exact ⟨H8.cell 0, dd8⟩
        clear hK K
        refine pt ?_
        refine tk 11 ?_
        have x0 := X8.cell 0
        have x1 := X8.frozen 0
        simp at x0
        refine rd1 12 (fun K hK => ?_)
        go_simp
        have X9 := X8.set_ 0 (.slice (some ⟨g8, 0, none⟩) (k + 1) c8)
        have H9 := H8.far (p := ⟨w.heap.size + 1 + 1, 0, none⟩) (by show w.heap.size ≠ w.heap.size + 1 + 1; omega) (.slice (some ⟨g8, 0, none⟩) (k + 1) c8)
        have R9 := R8.far (p := ⟨w.heap.size + 1 + 1, 0, none⟩) (by show w.heap.size + 1 ≠ w.heap.size + 1 + 1; omega) (.slice (some ⟨g8, 0, none⟩) (k + 1) c8)
        have hr9 := hr8.below ((Below.refl w.heap.size _).setCell (p := ⟨w.heap.size + 1 + 1, 0, none⟩) (by show w.heap.size ≤ w.heap.size + 1 + 1; omega) (.slice (some ⟨g8, 0, none⟩) (k + 1) c8))
        have B9 := Lib.hid (B8.out.setCell (p := ⟨w.heap.size + 1 + 1, 0, none⟩) (by show w.heap.size ≤ w.heap.size + 1 + 1; omega) (.slice (some ⟨g8, 0, none⟩) (k + 1) c8))
        have O9 := Lib.hid (O8.out.typed (ChgT.blk X8 0 (.slice (some ⟨g8, 0, none⟩) (k + 1) c8)) (by decide) (by decide))
        have dd9 := (World.cell?_setCell_far w8 ⟨w.heap.size + 1 + 1, 0, none⟩ ⟨b, off + k, none⟩ (.slice (some ⟨g8, 0, none⟩) (k + 1) c8) (by show w.heap.size + 1 + 1 ≠ b; omega)).trans dd8
        simp at X9
        refine hK.out _ _ ?_ (fun hHeld => ?_)
        · exact ⟨H9.cell 0, dd9⟩
        clear hK K
        refine pt ?_
        refine wpAnyH_done (by kernel_rfl) ?_ _
        clear hHeld
        clear X8 H8 R8 hr8 dd8 dd9 x0 x1 B8 O8
        generalize w8.setCell ⟨w.heap.size + 1 + 1, 0, none⟩ (.slice (some ⟨g8, 0, none⟩) (k + 1) c8) = w9 at *
        go_wp2
        go_roundw
        case rel => exact ⟨k + 1, _, c8, by omega, by go_num, by rw [HT.out]; exact O9.out, X9, H9, R9, hr9, B9.out⟩
        case measure => simp [intOf]; omega
      · go_simp
        have bz : Below wr.drew.heap.size wr.drew ((wr.alloc (.cells #[] 3)).drew) := (Below.refl _ _).alloc (Nat.le_refl _) _
        have oz := own_emptyRowI wr.drew
        have rz := hg5.below (bz.mono s5)
        refine hK.out _ _ ?_ (fun hHeld => ?_)
        · exact ⟨(H5.below bz H5.lt).cell 0, (bz.cell (p := ⟨b, off + k, none⟩) (by show b < wr.drew.heap.size; omega)).trans d5⟩
        clear hK K
        refine pt ?_
        refine rd2 1 8 (fun K hK => ?_) (fun K hK => ?_)
        · have tx : ((wr.alloc (.cells #[] 3)).drew).cell? ⟨w.heap.size + 1 + 1, 0, none⟩ = some (.slice Ao k co) := (X5.below bz X5.lt).cell 0
          go_simp
          clear tx
          refine hK.out _ _ ?_ (fun hHeld => ?_)
          · exact ⟨(H5.below bz H5.lt).cell 0, (bz.cell (p := ⟨b, off + k, none⟩) (by show b < wr.drew.heap.size; omega)).trans d5⟩
          clear hK K
          refine pt ?_
          refine rd1 8 (fun K hK => ?_)
          refine step_appIn (w0 := wr.drew) (xs := row) (by rfl) (.tmp 15) (.tmp 20) (by rfl) (by rfl) (by rfl) oz bz rz (by omega) (by omega) ?_
          intro A6 c6 w6 o6 b6
          have s6 := b6.size
          refine hK.out _ _ ?_ (fun hHeld => ?_)
          · exact ⟨(H5.below b6 H5.lt).cell 0, (b6.cell (p := ⟨b, off + k, none⟩) (by show b < wr.drew.heap.size; omega)).trans d5⟩
          clear hK K
          refine pt ?_
          refine rd1 9 (fun K hK => ?_)
          go_simp
          have b7 : Below wr.drew.heap.size wr.drew (w6.alloc (.cells #[.slice A6 n' c6] 76)) := b6.alloc s6 _
          refine hK.out _ _ ?_ (fun hHeld => ?_)
          · exact ⟨(H5.below b7 H5.lt).cell 0, (b7.cell (p := ⟨b, off + k, none⟩) (by show b < wr.drew.heap.size; omega)).trans d5⟩
          clear hK K
          refine pt ?_
          refine rd1 10 (fun K hK => ?_)
          refine step_appRow (w1 := wr.drew) (w := w6) (ts := ts.take k) (xs := row) (by rfl) (.tmp 14) (.tmp 22) (by rfl) (by rfl) O5 b6 o6 (by rfl) (by omega) s5 ?_
          intro g8 c8 w8 o8 b8 t8 hg8
          have X8 := ((X5.below b6 X5.lt).typed t8 (by decide))
          have H8 := ((H5.below b6 H5.lt).typed t8 (by decide))
          have R8 := ((R5.below b6 R5.lt).typed t8 (by decide))
          have hr8 := hr5.below b8
          have dd8 := (b8.cell (p := ⟨b, off + k, none⟩) hbB).trans d5
          have B8 := Lib.hid (B5.out.trans b8)
          have O8 := Lib.hid o8
          clear X5 H5 R5 O5 hr5 hg5 B5 d5 bz oz rz b6 o6 b7 b8 t8 o8
          refine hK.out _ _ ?_ (fun hHeld => ?_)
          · exact ⟨H8.cell 0, dd8⟩
          clear hK K
          refine pt ?_
          refine tk 11 ?_
          have x0 := X8.cell 0
          have x1 := X8.frozen 0
          simp at x0
          refine rd1 12 (fun K hK => ?_)
          go_simp
          have X9 := X8.set_ 0 (.slice (some ⟨g8, 0, none⟩) (k + 1) c8)
          have H9 := H8.far (p := ⟨w.heap.size + 1 + 1, 0, none⟩) (by show w.heap.size ≠ w.heap.size + 1 + 1; omega) (.slice (some ⟨g8, 0, none⟩) (k + 1) c8)
          have R9 := R8.far (p := ⟨w.heap.size + 1 + 1, 0, none⟩) (by show w.heap.size + 1 ≠ w.heap.size + 1 + 1; omega) (.slice (some ⟨g8, 0, none⟩) (k + 1) c8)
          have hr9 := hr8.below ((Below.refl w.heap.size _).setCell (p := ⟨w.heap.size + 1 + 1, 0, none⟩) (by show w.heap.size ≤ w.heap.size + 1 + 1; omega) (.slice (some ⟨g8, 0, none⟩) (k + 1) c8))
          have B9 := Lib.hid (B8.out.setCell (p := ⟨w.heap.size + 1 + 1, 0, none⟩) (by show w.heap.size ≤ w.heap.size + 1 + 1; omega) (.slice (some ⟨g8, 0, none⟩) (k + 1) c8))
          have O9 := Lib.hid (O8.out.typed (ChgT.blk X8 0 (.slice (some ⟨g8, 0, none⟩) (k + 1) c8)) (by decide) (by decide))
          have dd9 := (World.cell?_setCell_far w8 ⟨w.heap.size + 1 + 1, 0, none⟩ ⟨b, off + k, none⟩ (.slice (some ⟨g8, 0, none⟩) (k + 1) c8) (by show w.heap.size + 1 + 1 ≠ b; omega)).trans dd8
          simp at X9
          refine hK.out _ _ ?_ (fun hHeld => ?_)
          · exact ⟨H9.cell 0, dd9⟩
          clear hK K
          refine pt ?_
          refine wpAnyH_done (by kernel_rfl) ?_ _
          clear hHeld
          clear X8 H8 R8 hr8 dd8 dd9 x0 x1 B8 O8
          generalize w8.setCell ⟨w.heap.size + 1 + 1, 0, none⟩ (.slice (some ⟨g8, 0, none⟩) (k + 1) c8) = w9 at *
          go_wp2
          go_roundw
          case rel => exact ⟨k + 1, _, c8, by omega, by go_num, by rw [HT.out]; exact O9.out, X9, H9, R9, hr9, B9.out⟩
          case measure => simp [intOf]; omega
        · refine step_appIn (w0 := wr.drew) (xs := row) (by rfl) (.tmp 15) (.tmp 20) (by rfl) (by rfl) (by rfl) oz bz rz (by omega) (by omega) ?_
          intro A6 c6 w6 o6 b6
          have s6 := b6.size
          refine hK.out _ _ ?_ (fun hHeld => ?_)
          · exact ⟨(H5.below b6 H5.lt).cell 0, (b6.cell (p := ⟨b, off + k, none⟩) (by show b < wr.drew.heap.size; omega)).trans d5⟩
          clear hK K
          refine pt ?_
          refine rd2 1 9 (fun K hK => ?_) (fun K hK => ?_)
          · have tx : (w6).cell? ⟨w.heap.size + 1 + 1, 0, none⟩ = some (.slice Ao k co) := (X5.below b6 X5.lt).cell 0
            go_simp
            clear tx
            refine hK.out _ _ ?_ (fun hHeld => ?_)
            · exact ⟨(H5.below b6 H5.lt).cell 0, (b6.cell (p := ⟨b, off + k, none⟩) (by show b < wr.drew.heap.size; omega)).trans d5⟩
            clear hK K
            refine pt ?_
            refine rd1 9 (fun K hK => ?_)
            go_simp
            have b7 : Below wr.drew.heap.size wr.drew (w6.alloc (.cells #[.slice A6 n' c6] 76)) := b6.alloc s6 _
            refine hK.out _ _ ?_ (fun hHeld => ?_)
            · exact ⟨(H5.below b7 H5.lt).cell 0, (b7.cell (p := ⟨b, off + k, none⟩) (by show b < wr.drew.heap.size; omega)).trans d5⟩
            clear hK K
            refine pt ?_
            refine rd1 10 (fun K hK => ?_)
            refine step_appRow (w1 := wr.drew) (w := w6) (ts := ts.take k) (xs := row) (by rfl) (.tmp 14) (.tmp 22) (by rfl) (by rfl) O5 b6 o6 (by rfl) (by omega) s5 ?_
            intro g8 c8 w8 o8 b8 t8 hg8
            have X8 := ((X5.below b6 X5.lt).typed t8 (by decide))
            have H8 := ((H5.below b6 H5.lt).typed t8 (by decide))
            have R8 := ((R5.below b6 R5.lt).typed t8 (by decide))
            have hr8 := hr5.below b8
            have dd8 := (b8.cell (p := ⟨b, off + k, none⟩) hbB).trans d5
            have B8 := Lib.hid (B5.out.trans b8)
            have O8 := Lib.hid o8
            clear X5 H5 R5 O5 hr5 hg5 B5 d5 bz oz rz b6 o6 b7 b8 t8 o8
            refine hK.out _ _ ?_ (fun hHeld => ?_)
            · exact ⟨H8.cell 0, dd8⟩
            clear hK K
            refine pt ?_
            refine tk 11 ?_
            have x0 := X8.cell 0
            have x1 := X8.frozen 0
            simp at x0
            refine rd1 12 (fun K hK => ?_)
            go_simp
            have X9 := X8.set_ 0 (.slice (some ⟨g8, 0, none⟩) (k + 1) c8)
            have H9 := H8.far (p := ⟨w.heap.size + 1 + 1, 0, none⟩) (by show w.heap.size ≠ w.heap.size + 1 + 1; omega) (.slice (some ⟨g8, 0, none⟩) (k + 1) c8)
            have R9 := R8.far (p := ⟨w.heap.size + 1 + 1, 0, none⟩) (by show w.heap.size + 1 ≠ w.heap.size + 1 + 1; omega) (.slice (some ⟨g8, 0, none⟩) (k + 1) c8)
            have hr9 := hr8.below ((Below.refl w.heap.size _).setCell (p := ⟨w.heap.size + 1 + 1, 0, none⟩) (by show w.heap.size ≤ w.heap.size + 1 + 1; omega) (.slice (some ⟨g8, 0, none⟩) (k + 1) c8))
            have B9 := Lib.hid (B8.out.setCell (p := ⟨w.heap.size + 1 + 1, 0, none⟩) (by show w.heap.size ≤ w.heap.size + 1 + 1; omega) (.slice (some ⟨g8, 0, none⟩) (k + 1) c8))
            have O9 := Lib.hid (O8.out.typed (ChgT.blk X8 0 (.slice (some ⟨g8, 0, none⟩) (k + 1) c8)) (by decide) (by decide))
            have dd9 := (World.cell?_setCell_far w8 ⟨w.heap.size + 1 + 1, 0, none⟩ ⟨b, off + k, none⟩ (.slice (some ⟨g8, 0, none⟩) (k + 1) c8) (by show w.heap.size + 1 + 1 ≠ b; omega)).trans dd8
            simp at X9
            refine hK.out _ _ ?_ (fun hHeld => ?_)
            · exact ⟨H9.cell 0, dd9⟩
            clear hK K
            refine pt ?_
            refine wpAnyH_done (by kernel_rfl) ?_ _
            clear hHeld
            clear X8 H8 R8 hr8 dd8 dd9 x0 x1 B8 O8
            generalize w8.setCell ⟨w.heap.size + 1 + 1, 0, none⟩ (.slice (some ⟨g8, 0, none⟩) (k + 1) c8) = w9 at *
            go_wp2
            go_roundw
            case rel => exact ⟨k + 1, _, c8, by omega, by go_num, by rw [HT.out]; exact O9.out, X9, H9, R9, hr9, B9.out⟩
            case measure => simp [intOf]; omega
          · go_simp
            have b7 : Below wr.drew.heap.size wr.drew (w6.alloc (.cells #[.slice A6 n' c6] 76)) := b6.alloc s6 _
            refine hK.out _ _ ?_ (fun hHeld => ?_)
            · exact ⟨(H5.below b7 H5.lt).cell 0, (b7.cell (p := ⟨b, off + k, none⟩) (by show b < wr.drew.heap.size; omega)).trans d5⟩
            clear hK K
            refine pt ?_
            refine rd1 1 (fun K hK => ?_)
            have tx : (w6.alloc (.cells #[.slice A6 n' c6] 76)).cell? ⟨w.heap.size + 1 + 1, 0, none⟩ = some (.slice Ao k co) := (X5.below b7 X5.lt).cell 0
            go_simp
            clear tx
            refine hK.out _ _ ?_ (fun hHeld => ?_)
            · exact ⟨(H5.below b7 H5.lt).cell 0, (b7.cell (p := ⟨b, off + k, none⟩) (by show b < wr.drew.heap.size; omega)).trans d5⟩
            clear hK K
            refine pt ?_
            refine rd1 10 (fun K hK => ?_)
            refine step_appRow (w1 := wr.drew) (w := w6) (ts := ts.take k) (xs := row) (by rfl) (.tmp 14) (.tmp 22) (by rfl) (by rfl) O5 b6 o6 (by rfl) (by omega) s5 ?_
            intro g8 c8 w8 o8 b8 t8 hg8
            have X8 := ((X5.below b6 X5.lt).typed t8 (by decide))
            have H8 := ((H5.below b6 H5.lt).typed t8 (by decide))
            have R8 := ((R5.below b6 R5.lt).typed t8 (by decide))
            have hr8 := hr5.below b8
            have dd8 := (b8.cell (p := ⟨b, off + k, none⟩) hbB).trans d5
            have B8 := Lib.hid (B5.out.trans b8)
            have O8 := Lib.hid o8
            clear X5 H5 R5 O5 hr5 hg5 B5 d5 bz oz rz b6 o6 b7 b8 t8 o8
            refine hK.out _ _ ?_ (fun hHeld => ?_)
            · exact ⟨H8.cell 0, dd8⟩
            clear hK K
            refine pt ?_
            refine tk 11 ?_
            have x0 := X8.cell 0
            have x1 := X8.frozen 0
            simp at x0
            refine rd1 12 (fun K hK => ?_)
            go_simp
            have X9 := X8.set_ 0 (.slice (some ⟨g8, 0, none⟩) (k + 1) c8)
            have H9 := H8.far (p := ⟨w.heap.size + 1 + 1, 0, none⟩) (by show w.heap.size ≠ w.heap.size + 1 + 1; omega) (.slice (some ⟨g8, 0, none⟩) (k + 1) c8)
            have R9 := R8.far (p := ⟨w.heap.size + 1 + 1, 0, none⟩) (by show w.heap.size + 1 ≠ w.heap.size + 1 + 1; omega) (.slice (some ⟨g8, 0, none⟩) (k + 1) c8)
            have hr9 := hr8.below ((Below.refl w.heap.size _).setCell (p := ⟨w.heap.size + 1 + 1, 0, none⟩) (by show w.heap.size ≤ w.heap.size + 1 + 1; omega) (.slice (some ⟨g8, 0, none⟩) (k + 1) c8))
            have B9 := Lib.hid (B8.out.setCell (p := ⟨w.heap.size + 1 + 1, 0, none⟩) (by show w.heap.size ≤ w.heap.size + 1 + 1; omega) (.slice (some ⟨g8, 0, none⟩) (k + 1) c8))
            have O9 := Lib.hid (O8.out.typed (ChgT.blk X8 0 (.slice (some ⟨g8, 0, none⟩) (k + 1) c8)) (by decide) (by decide))
            have dd9 := (World.cell?_setCell_far w8 ⟨w.heap.size + 1 + 1, 0, none⟩ ⟨b, off + k, none⟩ (.slice (some ⟨g8, 0, none⟩) (k + 1) c8) (by show w.heap.size + 1 + 1 ≠ b; omega)).trans dd8
            simp at X9
            refine hK.out _ _ ?_ (fun hHeld => ?_)
            · exact ⟨H9.cell 0, dd9⟩
            clear hK K
            refine pt ?_
            refine wpAnyH_done (by kernel_rfl) ?_ _
            clear hHeld
            clear X8 H8 R8 hr8 dd8 dd9 x0 x1 B8 O8
            generalize w8.setCell ⟨w.heap.size + 1 + 1, 0, none⟩ (.slice (some ⟨g8, 0, none⟩) (k + 1) c8) = w9 at *
            go_wp2
            go_roundw
            case rel => exact ⟨k + 1, _, c8, by omega, by go_num, by rw [HT.out]; exact O9.out, X9, H9, R9, hr9, B9.out⟩
            case measure => simp [intOf]; omega
    · obtain rfl : k = n := by omega
      have x0 := X4.cell 0
      have r0 := R4.cell 0
      have r1 := R4.frozen 0
      simp at x0 r0
      have hO := O4
      rw [List.take_of_length_le (by rw [HL.out]; exact Nat.le_refl _)] at hO
      have RE := R4.set_ 0 (.slice Ao k co)
      have OE := Lib.hid (hO.typed (ChgT.blk R4 0 (.slice Ao k co)) (by decide) (by decide))
      have BE := Lib.hid (B4.out.setCell (p := ⟨w.heap.size + 1, 0, none⟩) (by show w.heap.size ≤ w.heap.size + 1; omega) (.slice Ao k co))
      have e0 := RE.cell 0
      simp at e0
      clear hO hr4
      go_wp2
      generalize wr.setCell ⟨w.heap.size + 1, 0, none⟩ (.slice Ao k co) = wz at *
      refine bodyPost_ret (by simp [results, Try.results141, go_sem, e0]; try rfl) rfl ?_
      exact ownT_of HL.out OE.out BE.out
set_option maxRecDepth 8000 in
set_option maxHeartbeats 1000000 in
theorem tableGet_spec {A : Option Addr} {n c B f k : Nat} {ts : List (List Int)} {w : World} (hr : RdT w B A n ts) (hB : B ≤ w.heap.size) (hok : TableOk ts) (hf : f < 8) (hk : k < 6) :
    Calls Try.prog 134 #[.agg #[.slice A n c], .int .i64 f, .int .i64 k] w fun e w' => e = .returned (.int .i64 (tE ts f k)) ∧ Below w.heap.size w w' := by
  have HE := Lib.hid (show (ts.getD f []).getD k 0 = tE ts f k from rfl)
  obtain rfl : n = 8 := by rw [← hr.len, hok.1]
  have h6 := hok.2.1 f hf
  have HBT := Lib.hid (bof_t.2 hok)
  have i1 := Lib.hid (show inB (f : Int) 0 7 = true from by rw [inB_t]; omega)
  have i2 := Lib.hid (show inB (k : Int) 0 5 = true from by rw [inB_t]; omega)
  have b1 : Below w.heap.size w (w.alloc (.cells #[.slice A 8 c] 37)) := (Below.refl _ _).alloc (Nat.le_refl _) _
  have k1 := Blk.new w 37 #[.slice A 8 c]
  have l1 := k1.lt
  have r1 := (hr.mono hB).below b1
  have B1 := Lib.hid b1
  clear hr hok b1
  go_enter Try.func134, Try.ntmps134
  go_upto_region 1 with (fail)
  generalize w.alloc (.cells #[.slice A 8 c] 37) = w1 at *
  have t0 := k1.cell 0
  simp at t0
  go_wp2_with fail
  refine (tableValid_spec r1 B1.out.size (by omega)).mono ?_
  rw [HBT.out]
  rintro e w2 ⟨rfl, b2⟩
  have k2 := k1.below b2 l1
  have r2 := r1.below (b2.mono B1.out.size)
  have B2 := Lib.hid (B1.out.trans (b2.mono B1.out.size))
  clear k1 r1 b2 B1 t0
  have t0 := k2.cell 0
  simp at t0
  obtain ⟨b, off, rfl, hbB, hc⟩ := r2.at_ (by omega)
  obtain ⟨A', n', c', d0, hnc, hcm, hrg⟩ := hc f hf
  have hl := hrg.len
  obtain rfl : n' = 6 := by omega
  obtain ⟨rb, ro, rfl, hrb, hcr⟩ := hrg.at_ (by omega)
  have d1 := hcr k hk
  rw [HE.out] at d1
  have fI : (f : Int) < 8 := by omega
  have kI : (k : Int) < 6 := by omega
  clear hc hcr hrg r2
  go_wp2_with (go_at_call 32; refine (l1In_c _ _ _ _).mono ?_; (first | rw [i1.out] | rw [i2.out]); rintro e w' ⟨rfl, rfl⟩)
  go_ret
  exact ⟨rfl, B2.out⟩
/-- a table without the pages of a file -/
def cutT (ts : List (List Int)) (f : Nat) : List (List Int) := ts.set f emptyRow
def cutRow (row : List Int) (k : Nat) : List Int := List.replicate k (-1) ++ row.drop k
theorem cutRow_len {row : List Int} {k : Nat} (h : row.length = 6) (hk : k ≤ 6) : (cutRow row k).length = 6 := by simp [cutRow, h]; omega
theorem cutRow_set {row : List Int} {k : Nat} (h : row.length = 6) (hk : k < 6) : (cutRow row k).set k (-1) = cutRow row (k + 1) := by
  unfold cutRow
  rw [List.set_append_right _ _ (by simp), List.length_replicate, Nat.sub_self, List.replicate_succ', List.append_assoc, List.drop_eq_getElem_cons (by omega)]
  rfl
theorem cutRow_six {row : List Int} (h : row.length = 6) : cutRow row 6 = emptyRow := by
  unfold cutRow emptyRow
  rw [List.drop_eq_nil_of_le (by omega), List.append_nil]
set_option maxRecDepth 8000 in
set_option maxHeartbeats 2000000 in
theorem cutFile_spec {A : Option Addr} {n c B f : Nat} {ts : List (List Int)} {w : World} (hr : RdT w B A n ts) (hB : B ≤ w.heap.size) (hok : TableOk ts) (hf : f < 8) :
    Calls Try.prog 137 #[.agg #[.slice A n c], .int .i64 f, .int .i64 0] w (OwnT w (cutT ts f)) := by
  obtain rfl : n = 8 := by rw [← hr.len, hok.1]
  have H6 := Lib.hid (hok.2.1 f hf)
  have HBT := Lib.hid (bof_t.2 hok)
  have HLT := Lib.hid hok.1
  have HRW := Lib.hid (show ∀ i, i < 8 → 0 < (ts.getD i []).length ∧ (ts.getD i []).length ≤ 1048576 from fun i hi => by rw [hok.2.1 i hi]; omega)
  have i1 := Lib.hid (show inB (f : Int) 0 7 = true from by rw [inB_t]; omega)
  have i2 := Lib.hid (show inB 0 0 6 = true from by rw [inB_t]; omega)
  have b1 : Below w.heap.size w ((w.alloc (.cells #[.slice A 8 c] 37)).alloc (.cells #[.slice none 0 0] 37)) := ((Below.refl _ _).alloc (Nat.le_refl _) _).alloc (by simp) _
  have k1 := (Blk.new w 37 #[.slice A 8 c]).alloc (.cells #[.slice none 0 0] 37)
  have x1 := Blk.new (w.alloc (.cells #[.slice A 8 c] 37)) 37 #[.slice none 0 0]
  rw [show (w.alloc (.cells #[.slice A 8 c] 37)).heap.size = w.heap.size + 1 by simp] at x1
  have l1 := x1.lt
  have r1 := (hr.mono hB).below b1
  have B1 := Lib.hid b1
  clear hr hok b1
  go_enter Try.func137, Try.ntmps137
  go_upto_region 1 with (fail)
  generalize (w.alloc (.cells #[.slice A 8 c] 37)).alloc (.cells #[.slice none 0 0] 37) = w1 at *
  have t0 := k1.cell 0
  simp at t0
  go_wp2_with fail
  refine (tableValid_spec r1 B1.out.size (by omega)).mono ?_
  rw [HBT.out]
  rintro e w2 ⟨rfl, b2⟩
  have k2 := k1.below b2 k1.lt
  have x2 := x1.below b2 l1
  have r2 := r1.below (b2.mono B1.out.size)
  have B2 := Lib.hid (B1.out.trans (b2.mono B1.out.size))
  have l2 : w.heap.size + 1 < w2.heap.size := x2.lt
  clear k1 x1 r1 b2 B1 t0 l1
  have t0 := k2.cell 0
  simp at t0
  go_wp2_with (go_at_call 32; refine (l1In_c _ _ _ _).mono ?_; (first | rw [i1.out] | rw [i2.out]); rintro e w' ⟨rfl, rfl⟩)
  refine (l7Copy_c r2 B2.out.size (by omega) HRW.out).mono ?_
  rintro e w3 ⟨A3, c3, rfl, o3, b3⟩
  rw [HLT.out] at o3 ⊢
  have x3 := x2.below b3 x2.lt
  have O3 := o3.lower (base' := w.heap.size) B2.out.size
  have B3 := B2.out.trans (b3.mono B2.out.size)
  have s3 := b3.size
  clear k2 x2 r2 B2 o3 b3 t0
  go_wp2_with fail
  have x4 := x3.alloc (.cells #[.slice A3 8 c3] 37)
  have y4 := Blk.new w3 37 #[.slice A3 8 c3]
  have O4 := O3.below ((Below.refl w3.heap.size w3).alloc (Nat.le_refl _) (.cells #[.slice A3 8 c3] 37))
  have B4 := B3.alloc B3.size (.cells #[.slice A3 8 c3] 37)
  have g3 : w.heap.size + 1 < w3.heap.size := x3.lt
  clear x3 O3 B3
  generalize w3.alloc (.cells #[.slice A3 8 c3] 37) = w4 at *
  generalize hg3 : w3.heap.size = h3 at *
  clear hg3 s3
  obtain ⟨g, rfl, hgg, _⟩ := O4.form (by omega)
  go_loopw [8] (fun i wr => ∃ k : Nat, k ≤ 6 ∧ i = .int .i64 k ∧ OwT wr w.heap.size (some ⟨g, 0, none⟩) 8 c3 (ts.set f (cutRow (ts.getD f []) k)) ∧ Blk wr (w.heap.size + 1) 37 #[.slice none 0 0] ∧ Blk wr h3 37 #[.slice (some ⟨g, 0, none⟩) 8 c3] ∧ Below w.heap.size w wr) (fun i _ => 6 - (intOf i).toNat)
  case atStart =>
    refine ⟨0, Nat.zero_le _, rfl, ?_, x4, y4, B4⟩
    have e : ts.set f (cutRow (ts.getD f []) 0) = ts := by
      unfold cutRow
      simp only [List.replicate_zero, List.nil_append, List.drop_zero]
      rw [List.getD_eq_getElem?_getD, List.getElem?_eq_getElem (by rw [HLT.out]; exact hf)]
      simp
    rw [e]; exact O4
  case round =>
    obtain ⟨k, hk, rfl, O5, x5, y5, B5⟩ := hrel
    clear O4 x4 y4 B4
    have s5 := B5.size
    have t0 := y5.cell 0
    simp at t0
    by_cases hlt : k < 6
    · have hfl : f < (ts.set f (cutRow (ts.getD f []) k)).length := by simp [HLT.out]; exact hf
      obtain ⟨A', n', c', d0, z0, hnc, hcm, hnl, hrow⟩ := O5.cells f hf
      rw [List.getD_eq_getElem?_getD, List.getElem?_set_self (by rw [HLT.out]; exact hf)] at hnl hrow
      simp only [Option.getD_some] at hnl hrow
      rw [cutRow_len H6.out hk] at hnl
      subst hnl
      obtain ⟨rg, cap, e, hg1, hg2⟩ := hrow.form (by omega)
      injection e with e _ _
      subst e
      have d1 := own_cellI hrow k (by rw [cutRow_len H6.out hk]; exact hlt)
      have z1 := hrow.frozenAt (g := rg) (cap := c') k
      have hst := hrow.stored (g := rg) (cap := c') k (.int .i64 (-1))
      have hset : ((cutRow (ts.getD f []) k).map (Value.int .i64)).set k (.int .i64 (-1)) = (cutRow (ts.getD f []) (k + 1)).map (Value.int .i64) := by rw [← List.map_set, cutRow_set H6.out hlt]
      rw [hset] at hst
      have hT := O5.turn hf d0 hst.2 hst.1 (by rw [List.getD_eq_getElem?_getD, List.getElem?_set_self (by rw [HLT.out]; exact hf)]; simp only [Option.getD_some]; rw [cutRow_len H6.out hk])
      rw [List.set_set] at hT
      have hch := O5.chg hf d0 hst.2 s5
      have x6 := x5.typed hch.1 (by decide)
      have y6 := y5.typed hch.1 (by decide)
      have B6 := B5.trans hch.2
      have fI : (f : Int) < 8 := by omega
      have kI : (k : Int) < 6 := by omega
      clear O5 x5 y5 B5 hst hch hrow
      go_wp2
      go_roundw
      case rel => exact ⟨k + 1, by omega, by go_num, hT, x6, y6, B6⟩
      case measure => simp [intOf]; omega
    · obtain rfl : k = 6 := by omega
      rw [cutRow_six H6.out] at O5
      have r0 := x5.cell 0
      have r1 := x5.frozen 0
      simp at r0
      have RE := x5.set_ 0 (.slice (some ⟨g, 0, none⟩) 8 c3)
      have OE := Lib.hid (O5.typed (ChgT.blk x5 0 (.slice (some ⟨g, 0, none⟩) 8 c3)) (by decide) (by decide))
      have BE := Lib.hid (B5.setCell (p := ⟨w.heap.size + 1, 0, none⟩) (by show w.heap.size ≤ w.heap.size + 1; omega) (.slice (some ⟨g, 0, none⟩) 8 c3))
      have e0 := RE.cell 0
      simp at e0
      clear O5 B5
      go_wp2
      generalize wr.setCell ⟨w.heap.size + 1, 0, none⟩ (.slice (some ⟨g, 0, none⟩) 8 c3) = wz at *
      refine bodyPost_ret (by simp [results, Try.results137, go_sem, e0]; try rfl) rfl ?_
      exact ownT_of (by unfold cutT; simp [HLT.out]) OE.out BE.out
end Go.Proofs.Ytjnpgdhpneifjaa

/- UsedPages by the reference, at a valid table. -/
namespace Go.Proofs.Ytjnpgdhpneifjaa
open Go.ChangeShapes Go.WideShapes Go.ChangeAt Go.RowKit Go.Deep
set_option linter.unusedVariables false
set_option linter.unusedSimpArgs false

open Classical in
/-- the pages below v that the table names, in ascending order -/
noncomputable def usedTo (ts : List (List Int)) : Nat → List Int
  | 0 => []
  | v + 1 => if SeenT ts 8 0 v then usedTo ts v ++ [(v : Int)] else usedTo ts v
open Classical in
noncomputable def usedAt (ts : List (List Int)) (a f k : Nat) : List Int := if SeenT ts f k a then usedTo ts a ++ [(a : Int)] else usedTo ts a
noncomputable def usedL (ts : List (List Int)) : List Int := usedTo ts 48
theorem usedTo_len (ts : List (List Int)) : ∀ v, (usedTo ts v).length ≤ v
  | 0 => Nat.le_refl _
  | v + 1 => by
    have := usedTo_len ts v
    unfold usedTo
    split
    · simp; omega
    · omega
theorem usedTo_mem (ts : List (List Int)) : ∀ v x, x ∈ usedTo ts v → 0 ≤ x ∧ x < v
  | 0, x, h => by cases h
  | v + 1, x, h => by
    unfold usedTo at h
    split at h
    · rw [List.mem_append] at h
      rcases h with h | h
      · have := usedTo_mem ts v x h; omega
      · simp at h; omega
    · have := usedTo_mem ts v x h; omega
theorem usedAt_len (ts : List (List Int)) (a f k : Nat) : (usedAt ts a f k).length ≤ a + 1 := by
  have := usedTo_len ts a
  unfold usedAt
  split
  · simp; omega
  · omega
theorem usedAt_zero (ts : List (List Int)) (a : Nat) : usedAt ts a 0 0 = usedTo ts a := by unfold usedAt; rw [if_neg (SeenT.zero ts a)]
theorem usedAt_end (ts : List (List Int)) (a : Nat) : usedAt ts a 8 0 = usedTo ts (a + 1) := rfl
theorem usedAt_row {ts : List (List Int)} {a f : Nat} (h : (ts.getD f []).length = 6) : usedAt ts a f 6 = usedAt ts a (f + 1) 0 := by
  unfold usedAt
  have := SeenT.row (ts := ts) (f := f) a
  rw [h] at this
  by_cases hs : SeenT ts f 6 a
  · rw [if_pos hs, if_pos (this.1 hs)]
  · rw [if_neg hs, if_neg (fun h' => hs (this.2 h'))]
theorem usedAt_yes {ts : List (List Int)} {a f k : Nat} (hk : k < (ts.getD f []).length) (he : EntOk ts f k) (h : tE ts f k = (a : Int)) : usedAt ts a f (k + 1) = usedAt ts a f k ++ [(a : Int)] := by
  have hn : ¬ SeenT ts f k a := by
    have := entOk_seen he (by omega)
    rwa [h, Int.toNat_natCast] at this
  unfold usedAt
  rw [if_pos ((SeenT.step hk a).2 (.inr h)), if_neg hn]
theorem usedAt_no {ts : List (List Int)} {a f k : Nat} (hk : k < (ts.getD f []).length) (h : tE ts f k ≠ (a : Int)) : usedAt ts a f (k + 1) = usedAt ts a f k := by
  unfold usedAt
  have : SeenT ts f (k + 1) a ↔ SeenT ts f k a := by rw [SeenT.step hk a]; exact ⟨fun h' => h'.resolve_right h, .inl⟩
  by_cases hs : SeenT ts f k a
  · rw [if_pos hs, if_pos (this.2 hs)]
  · rw [if_neg hs, if_neg (fun h' => hs (this.1 h'))]
theorem ent_of {ts : List (List Int)} (hok : TableOk ts) {f k : Nat} (hf : f < 8) (hk : k < 6) : EntOk ts f k :=
  hok.2.2 f k (by rw [hok.2.1 f hf]; exact hk) (.inl hf)
/-- integers in new memory, returned -/
def OwI (w0 : World) (xs : List Int) (e : Ending) (w' : World) : Prop := ∃ g c, e = .returned (.slice (some ⟨g, 0, none⟩) xs.length c) ∧ w'.ownsRow w0.heap.size 3 1 (.slice (some ⟨g, 0, none⟩) xs.length c) xs.length (xs.map (Value.int .i64)) ∧ Below w0.heap.size w0 w'
theorem owI_of {w0 w' : World} {xs : List Int} {g m c : Nat} (hm : xs.length = m) (h : w'.ownsRow w0.heap.size 3 1 (.slice (some ⟨g, 0, none⟩) m c) m (xs.map (Value.int .i64))) (hb : Below w0.heap.size w0 w') : OwI w0 xs (.returned (.slice (some ⟨g, 0, none⟩) m c)) w' := by
  subst hm; exact ⟨g, c, rfl, h, hb⟩
set_option maxRecDepth 8000 in
set_option maxHeartbeats 2000000 in
theorem usedPages_spec {A : Option Addr} {n c B : Nat} {ts : List (List Int)} {w : World} (hr : RdT w B A n ts) (hB : B ≤ w.heap.size) (hok : TableOk ts) :
    Calls Try.prog 145 #[.agg #[.slice A n c]] w (OwI w (usedL ts)) := by
  obtain rfl : n = 8 := by rw [← hr.len, hok.1]
  have HBT := Lib.hid (bof_t.2 hok)
  have HOK := Lib.hid hok
  have HR := Lib.hid (hr.mono hB)
  have b1 : Below w.heap.size w ((w.alloc (.cells #[.slice A 8 c] 37)).alloc (.cells #[] 3)) := ((Below.refl _ _).alloc (Nat.le_refl _) _).alloc (by simp) _
  have k1 := (Blk.new w 37 #[.slice A 8 c]).alloc (.cells #[] 3)
  have o1 := World.ownsRow_lit (base := w.heap.size) (e := 3) (size := 1) (w.alloc (.cells #[.slice A 8 c] 37)) #[] 0 (by simp) (by decide) rfl
  rw [show (w.alloc (.cells #[.slice A 8 c] 37)).heap.size = w.heap.size + 1 by simp] at o1
  have B1 := Lib.hid b1
  have K1 := Lib.hid k1
  have O1 := Lib.hid o1
  clear hr hok b1 k1 o1
  go_enter Try.func145, Try.ntmps145
  go_wp2_with fail
  generalize (w.alloc (.cells #[.slice A 8 c] 37)).alloc (.cells #[] 3) = w1 at *
  go_loopw [3, 4] (fun v i wr => ∃ (a m gq co : Nat), a ≤ 48 ∧ i = .int .i64 a ∧ (usedTo ts a).length = m ∧ v = .slice (some ⟨gq, 0, none⟩) m co ∧ wr.ownsRow w.heap.size 3 1 (.slice (some ⟨gq, 0, none⟩) m co) m ((usedTo ts a).map (Value.int .i64)) ∧ Blk wr w.heap.size 37 #[.slice A 8 c] ∧ Below w.heap.size w wr) (fun _ i _ => 48 - (intOf i).toNat)
  case atStart => exact ⟨0, 0, _, _, Nat.zero_le _, rfl, rfl, rfl, O1.out, K1.out, B1.out⟩
  case round =>
    obtain ⟨a, m, Ao, co, ha, rfl, hml, rfl, O2, K2, hb2⟩ := hrel
    have B2 := Lib.hid hb2
    have HM := Lib.hid hml
    have s2 := hb2.size
    clear hb2 hml K1 O1 B1
    by_cases hlt : a < 48
    · have aI : (a : Int) < 48 := by omega
      have t0 := K2.cell 0
      simp at t0
      have r2 := HR.out.below B2.out
      go_wp2_with fail
      refine (tableValid_spec r2 s2 (by omega)).mono ?_
      rw [HBT.out]
      rintro e w3 ⟨rfl, b3⟩
      have O3 := Lib.hid (own_below O2 b3)
      have K3 := Lib.hid (K2.below b3 K2.lt)
      have B3 := Lib.hid (B2.out.trans (b3.mono s2))
      clear O2 K2 b3 B2 r2 t0
      go_wp2_with fail
      go_loopw [3, 5] (fun v i wr => ∃ (f m gq co : Nat), f ≤ 8 ∧ i = .int .i64 f ∧ (usedAt ts a f 0).length = m ∧ v = .slice (some ⟨gq, 0, none⟩) m co ∧ wr.ownsRow w.heap.size 3 1 (.slice (some ⟨gq, 0, none⟩) m co) m ((usedAt ts a f 0).map (Value.int .i64)) ∧ Blk wr w.heap.size 37 #[.slice A 8 c] ∧ Below w.heap.size w wr) (fun _ i _ => 8 - (intOf i).toNat)
      case atStart => exact ⟨0, m, _, _, Nat.zero_le _, rfl, by rw [usedAt_zero]; exact HM.out, rfl, by rw [usedAt_zero]; exact O3.out, K3.out, B3.out⟩
      case round =>
        obtain ⟨f, m2, Ao2, co2, hf, rfl, hml2, rfl, O4, K4, hb4⟩ := hrel
        have B4 := Lib.hid hb4
        have HM2 := Lib.hid hml2
        have O4 := Lib.hid O4
        have K4 := Lib.hid K4
        clear hb4 hml2 O3 K3 B3
        by_cases hf8 : f < 8
        · have fI : (f : Int) < 8 := by omega
          go_wp2_with fail
          go_loopw [3, 6] (fun v i wr => ∃ (k m gq co : Nat), k ≤ 6 ∧ i = .int .i64 k ∧ (usedAt ts a f k).length = m ∧ v = .slice (some ⟨gq, 0, none⟩) m co ∧ wr.ownsRow w.heap.size 3 1 (.slice (some ⟨gq, 0, none⟩) m co) m ((usedAt ts a f k).map (Value.int .i64)) ∧ Blk wr w.heap.size 37 #[.slice A 8 c] ∧ Below w.heap.size w wr) (fun _ i _ => 6 - (intOf i).toNat)
          case atStart => exact ⟨0, m2, _, _, Nat.zero_le _, rfl, HM2.out, rfl, O4.out, K4.out, B4.out⟩
          case round =>
            obtain ⟨k, m3, Ao3, co3, hk, rfl, hml3, rfl, O5, K5, hb5⟩ := hrel
            have B5 := Lib.hid hb5
            have HM3 := Lib.hid hml3
            have hm49 : m3 ≤ 49 := by have := usedAt_len ts a f k; omega
            have s5 := hb5.size
            clear hb5 hml3 O4 K4 B4
            by_cases hk6 : k < 6
            · have kI : (k : Int) ≤ 5 := by omega
              have kI6 : (k : Int) < 6 := by omega
              have t0 := K5.cell 0
              simp at t0
              have r5 := HR.out.below B5.out
              obtain ⟨b, off, rfl, hbB, hc⟩ := r5.at_ (by omega)
              obtain ⟨A', n', c', d0, hnc, hcm, hrg⟩ := hc f hf8
              have h6 := HOK.out.2.1 f hf8
              obtain rfl : n' = 6 := by rw [← hrg.len, h6]
              obtain ⟨rb, ro, rfl, hrb, hcr⟩ := hrg.at_ (by omega)
              have d1 := hcr k hk6
              have HEN := Lib.hid (ent_of HOK.out hf8 hk6)
              have hkl : k < (ts.getD f []).length := by omega
              rw [show (ts.getD f []).getD k 0 = tE ts f k from rfl] at d1
              have O5 := Lib.hid O5
              have HY := Lib.hid (fun h => usedAt_yes (a := a) hkl HEN.out h)
              have HN := Lib.hid (fun h => usedAt_no (a := a) hkl h)
              generalize tE ts f k = E at *
              clear hc hcr hrg r5 h6 hkl HEN
              by_cases he : E = (a : Int)
              · subst he
                have HY := Lib.hid (HY.out rfl)
                clear HN
                go_wp2_with (at_builtin; refine wpList_appI rfl rfl rfl O5.out rfl (by omega) s5 ?_; rintro g3 c3 w6 o6 gr6 hg6)
                have HO6 := Lib.hid (show w6.ownsRow w.heap.size 3 1 (.slice (some ⟨g3, 0, none⟩) (m3 + 1) c3) (m3 + 1) ((usedAt ts a f (k + 1)).map (Value.int .i64)) from by rw [HY.out]; exact o6)
                have HB6 := Lib.hid (below_app B5.out O5.out s5 gr6)
                have K6 := Lib.hid (K5.typed (ChgT.grown O5.out (ts := [3]) (by simp) gr6) (by decide))
                clear o6 gr6 K5 O5 d0 d1 t0
                go_wp2
                go_roundw
                case rel => exact ⟨k + 1, m3 + 1, _, _, by omega, by go_num, by rw [HY.out, List.length_append, HM3.out]; rfl, rfl, HO6.out, K6.out, HB6.out⟩
                case measure => simp [intOf]; omega
              · have HN := Lib.hid (HN.out he)
                have hne : (E == (a : Int)) = false := by simpa using he
                clear HY
                go_wp2
                go_roundw
                case rel => exact ⟨k + 1, m3, _, _, by omega, by go_num, by rw [HN.out]; exact HM3.out, rfl, by rw [HN.out]; exact O5.out, K5, B5.out⟩
                case measure => simp [intOf]; omega
            · obtain rfl : k = 6 := by omega
              have HRW := Lib.hid (usedAt_row (a := a) (HOK.out.2.1 f hf8))
              have O5 := Lib.hid O5
              go_wp2
              go_roundw
              case rel => exact ⟨f + 1, m3, _, _, by omega, by go_num, by rw [← HRW.out]; exact HM3.out, rfl, by rw [← HRW.out]; exact O5.out, K5, B5.out⟩
              case measure => simp [intOf]; omega
        · obtain rfl : f = 8 := by omega
          go_wp2
          go_roundw
          case rel => exact ⟨a + 1, m2, _, _, by omega, by go_num, by rw [← usedAt_end]; exact HM2.out, rfl, by rw [← usedAt_end]; exact O4.out, K4.out, B4.out⟩
          case measure => simp [intOf]; omega
    · obtain rfl : a = 48 := by omega
      have O2 := Lib.hid O2
      go_wp2
      go_ret
      exact owI_of HM.out O2.out B2.out
end Go.Proofs.Ytjnpgdhpneifjaa
