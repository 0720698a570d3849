/- The laws' marks on devices and tables of the call's own, and how they are looked for. Conditions: lengths of at most 2^20. -/
import Derived.Test.YtjnpgdhpneifjaaTabLaw
namespace Go.Proofs.Ytjnpgdhpneifjaa
open Go.ChangeShapes Go.WideShapes Go.ChangeAt Go.RowKit Go.Deep
set_option linter.unusedVariables false
set_option linter.unusedSimpArgs false

def markG (k : Int) : PageV := ⟨k % 3 == 0, k + 1, k + 1 + 1, k + 1 + 1 + 1, k + 1 + 1 + 1 + 1⟩
def marksG (k : Int) (n : Nat) : List PageV := (List.range n).map fun (i : Nat) => markG (k + 5 * (i : Int))
theorem marksG_len (k : Int) (n : Nat) : (marksG k n).length = n := by simp [marksG]
theorem below_row {w w' : World} {base e s n : Nat} {v : Value} {xs : List Value} (h : w.ownsRow base e s v n xs) (hg : w.grownBy w' v.ownBlock) (hb : base ≤ w.heap.size) : Below base w w' :=
  ⟨hg.os, hg.tape, hg.output, hg.size, fun k hk => hg.block k (by omega) (fun e => by have := (own_lt h e.symm).1; omega)⟩

theorem markPageS_c {A : Option Addr} {n c base : Nat} {ps : List PageV} {w : World} {k0 : Int} (hown : w.ownsRow base 102 5 (.slice A n c) n (flatG ps)) (hk0 : 0 ≤ k0) (hk1 : k0 ≤ 1000000000000000) (hn : n ≤ 1048576) :
    Calls Try.prog 87 #[.slice A n c, .int .i64 k0] w fun e w' => e = .returned (.int .i64 (k0 + 5 * n)) ∧ w'.ownsRow base 102 5 (.slice A n c) n (flatG (marksG k0 n)) ∧ w.grownBy w' (Value.slice A n c).ownBlock := by
  have hl := own_pagesLen hown
  have hml : (marksG k0 n).length = ps.length := by rw [marksG_len, hl]
  have HL := Lib.hid hl
  have HML := Lib.hid hml
  clear hl hml
  go_enter Try.func87, Try.ntmps87
  go_wp2
  go_loopw [1, 5] (fun kk i wr => ∃ j : Nat, j ≤ n ∧ i = .int .i64 j ∧ kk = .int .i64 (k0 + 5 * j) ∧ wr.ownsRow base 102 5 (.slice A n c) n (flatG (repTo (marksG k0 n) ps j)) ∧ w.grownBy wr (Value.slice A n c).ownBlock) (fun _ i _ => n - (intOf i).toNat)
  case atStart => exact ⟨0, Nat.zero_le _, rfl, by simp, by rw [repTo_zero]; exact hown, World.grownBy.refl _ _⟩
  case round =>
    obtain ⟨j, hj, rfl, rfl, howr, hg⟩ := hrel
    by_cases hlt : j < n
    · obtain ⟨g, cap, ev, hg1, hg2⟩ := howr.form (by omega)
      injection ev with e1 e2 e3
      subst e1
      clear e2 e3
      obtain ⟨f0, f1, f2, f3, f4⟩ := own_pageCells howr j hlt
      have z0 := howr.frozenAt (g := g) (cap := c) (j * 5)
      have z1 := howr.frozenAt (g := g) (cap := c) (j * 5 + 1)
      have z2 := howr.frozenAt (g := g) (cap := c) (j * 5 + 2)
      have z3 := howr.frozenAt (g := g) (cap := c) (j * 5 + 3)
      have z4 := howr.frozenAt (g := g) (cap := c) (j * 5 + 4)
      have hput := own_putPage howr j hlt (markG (k0 + 5 * (j : Int)))
      have hset := repTo_set noPage (m := marksG k0 n) (xs := ps) (j := j) HML.out (by have := HL.out; omega)
      have hgm : (marksG k0 n).getD j noPage = markG (k0 + 5 * (j : Int)) := getD_mapRange noPage _ hlt
      rw [hgm] at hset
      rw [hset] at hput
      unfold putPage markG at hput
      simp only at hput
      have HP := Lib.hid hput.1
      have HG := Lib.hid (gb_trans hg hput.2)
      generalize (repTo (marksG k0 n) ps j).getD j noPage = Q at *
      clear howr hown hput hset hgm hg
      go_wp2
      go_roundw
      case rel => exact ⟨j + 1, by omega, by go_num, by go_num, HP.out, HG.out⟩
      case measure => simp [intOf]; omega
    · obtain rfl : j = n := by omega
      have how : wr.ownsRow base 102 5 (.slice A j c) j (flatG (marksG k0 j)) := by
        have := repTo_all HML.out
        rw [HL.out] at this
        rw [this] at howr
        exact howr
      have HO := Lib.hid how
      clear howr hown how
      go_wp2
      go_ret
      exact ⟨rfl, HO.out, hg⟩
theorem heldPageS_c {A : Option Addr} {n c B : Nat} {w : World} {k0 : Int} (hr : RdG w B A n (marksG k0 n)) (hk0 : 0 ≤ k0) (hk1 : k0 ≤ 1000000000000000) (hn : n ≤ 1048576) :
    Calls Try.prog 90 #[.slice A n c, .int .i64 k0] w fun e w' => e = .returned (.int .i64 (k0 + 5 * n)) ∧ w = w' := by
  go_enter Try.func90, Try.ntmps90
  go_wp2
  go_loop [1, 5] (fun kk i => ∃ j : Nat, j ≤ n ∧ i = .int .i64 j ∧ kk = .int .i64 (k0 + 5 * j)) (fun _ i => n - (intOf i).toNat)
  case atStart => exact ⟨0, Nat.zero_le _, rfl, by simp⟩
  case round =>
    obtain ⟨j, hj, rfl, rfl⟩ := hrel
    by_cases hlt : j < n
    · obtain ⟨b, off, rfl, hbB, hc⟩ := hr.at_ (by omega)
      obtain ⟨c0, c1, c2, c3, c4⟩ := hc j hlt
      have hgm : (marksG k0 n).getD j noPage = markG (k0 + 5 * (j : Int)) := getD_mapRange noPage _ hlt
      rw [hgm] at c0 c1 c2 c3 c4
      unfold markG at c0 c1 c2 c3 c4
      simp only at c0 c1 c2 c3 c4
      have hnn : ((((k0 + 5 * (j : Int)) % 3 == 0)) != ((k0 + 5 * (j : Int)) % 3 == 0)) = false := by simp
      clear hr hc hgm
      go_wp2
      go_round
      case rel => exact ⟨j + 1, by omega, by go_num, by go_num⟩
      case measure => simp [intOf]; omega
    · obtain rfl : j = n := by omega
      go_wp2
      go_ret
      exact ⟨rfl, rfl⟩

/-! ### devices -/
/-- the first mark of block j -/
def kB (k0 : Int) (bs : List BlockV) : Nat → Int
  | 0 => k0
  | j + 1 => kB k0 bs j + 1 + 5 * (bs.getD j noBlock).pages.length
theorem kB_range {k0 : Int} {bs : List BlockV} (h0 : 0 ≤ k0) : ∀ {j : Nat}, SmallB bs j 1048576 → 0 ≤ kB k0 bs j ∧ kB k0 bs j ≤ k0 + 5242881 * j
  | 0, _ => by unfold kB; omega
  | j + 1, h => by
    have h1 := kB_range (k0 := k0) (bs := bs) h0 (j := j) (fun i hi => h i (by omega))
    have h2 := h j (by omega)
    unfold kB
    omega
def markB (k : Int) (b : BlockV) : BlockV := ⟨k, marksG (k + 1) b.pages.length⟩
def marksB (k0 : Int) (bs : List BlockV) : List BlockV := (List.range bs.length).map fun i => markB (kB k0 bs i) (bs.getD i noBlock)
theorem marksB_len (k0 : Int) (bs : List BlockV) : (marksB k0 bs).length = bs.length := by simp [marksB]
theorem marksB_small {k0 : Int} {bs : List BlockV} {n : Nat} {left : Int} (hn : n ≤ bs.length) (h : SmallB bs n left) : SmallB (marksB k0 bs) n left := by
  intro i hi
  have := h i hi
  have e : (marksB k0 bs).getD i noBlock = markB (kB k0 bs i) (bs.getD i noBlock) := getD_mapRange noBlock _ (by omega)
  rw [e]
  simpa [markB, marksG_len] using this
/-- the wear of a block is stored -/
theorem OwB.setWear {w : World} {base g n c : Nat} {bs : List BlockV} (h : OwB w base (some ⟨g, 0, none⟩) n c bs) {i : Nat} (hi : i < n) (we : Int) :
    OwB (w.setCell ⟨g, i * 2, none⟩ (.int .i64 we)) base (some ⟨g, 0, none⟩) n c (bs.set i ⟨we, (bs.getD i noBlock).pages⟩) ∧ ChgT [67] w (w.setCell ⟨g, i * 2, none⟩ (.int .i64 we)) := by
  have hl := h.len
  obtain ⟨hs, h⟩ := h
  have h2 := h.setPre (by decide) hi (Nat.zero_lt_one) (.int .i64 we)
  have hst := h.main.stored (g := g) (cap := c) (i * (1 + 1) + 0) (.int .i64 we)
  refine ⟨⟨hs, ?_⟩, h.typ hst.2⟩
  rw [List.map_set]
  have e : elB ⟨we, (bs.getD i noBlock).pages⟩ = ⟨((bs.map elB).getD i nilEl).pre.set 0 (.int .i64 we), ((bs.map elB).getD i nilEl).m, ((bs.map elB).getD i nilEl).cells⟩ := by
    rw [elB_getD bs i (by omega)]; rfl
  rw [e]
  exact h2
/-- the pages of a block turn within -/
theorem OwB.turn {w w' : World} {base g n c : Nat} {A' : Option Addr} {n' c' : Nat} {bs : List BlockV} {ps : List PageV} (h : OwB w base (some ⟨g, 0, none⟩) n c bs) {i : Nat} (hi : i < n) (hcell : w.cell? ⟨g, i * 2 + 1, none⟩ = some (.slice A' n' c'))
    (hg : w.grownBy w' (Value.slice A' n' c').ownBlock) (hr : w'.ownsRow base 102 5 (.slice A' n' c') n' (flatG ps)) (hl : n' = (bs.getD i noBlock).pages.length) (hbase : base ≤ w.heap.size) :
    OwB w' base (some ⟨g, 0, none⟩) n c (bs.set i ⟨(bs.getD i noBlock).wear, ps⟩) ∧ ChgT [102] w w' ∧ Below base w w' := by
  have hlen := h.len
  obtain ⟨hs, h⟩ := h
  obtain ⟨c0, c1, r⟩ := h.blockCells i hi
  have e : hs.getD i nilV = .slice A' n' c' := by rw [c1] at hcell; injection hcell
  rw [← e] at hg hr
  have hm : ((bs.map elB).getD i nilEl).m = n' := by rw [elB_getD bs i (by omega), hl]; rfl
  have ht := h.turnRow (cs := flatG ps) (by decide) hi hg (by rw [hm]; exact hr)
  have r' := h.row i hi
  refine ⟨⟨hs, ?_⟩, h.typRow hi hg, below_row r' hg hbase⟩
  rw [List.map_set]
  have hxl := own_pagesLen hr
  have e2 : elB ⟨(bs.getD i noBlock).wear, ps⟩ = ⟨((bs.map elB).getD i nilEl).pre, ((bs.map elB).getD i nilEl).m, flatG ps⟩ := by rw [hm, elB_getD bs i (by omega)]; unfold elB; rw [hxl]
  rw [e2]
  exact ht
theorem markBlockS_c {A : Option Addr} {n c base : Nat} {bs : List BlockV} {w : World} {k0 : Int} (hown : OwB w base A n c bs) (hbase : base ≤ w.heap.size) (hk0 : 0 ≤ k0) (hk1 : k0 ≤ 100000000000000) (hn : n ≤ 1048576) (hsm : SmallB bs n 1048576) :
    Calls Try.prog 49 #[.slice A n c, .int .i64 k0] w fun e w' => e = .returned (.int .i64 (kB k0 bs n)) ∧ OwB w' base A n c (marksB k0 bs) ∧ ChgT [67, 102] w w' ∧ Below base w w' := by
  have HL := Lib.hid hown.len
  have HML := Lib.hid (marksB_len k0 bs)
  have HSM := Lib.hid hsm
  clear hsm
  go_enter Try.func49, Try.ntmps49
  go_wp2
  go_loopw [1, 5] (fun kk i wr => ∃ j : Nat, j ≤ n ∧ i = .int .i64 j ∧ kk = .int .i64 (kB k0 bs j) ∧ OwB wr base A n c (repTo (marksB k0 bs) bs j) ∧ ChgT [67, 102] w wr ∧ Below base w wr) (fun _ i _ => n - (intOf i).toNat)
  case atStart => exact ⟨0, Nat.zero_le _, rfl, rfl, by rw [repTo_zero]; exact hown, ChgT.refl _ _, Below.refl _ _⟩
  case round =>
    obtain ⟨j, hj, rfl, rfl, howr, hg, hbl⟩ := hrel
    have hkr := kB_range hk0 (bs := bs) (j := j) (fun i hi => HSM.out i (by omega))
    by_cases hlt : j < n
    · obtain ⟨g, rfl, hg1, hg2⟩ := howr.form (by omega)
      obtain ⟨A', n', c', f0, f1, z0, z1, q1, q2, q3, q4⟩ := howr.cells j hlt
      have hrg : (repTo (marksB k0 bs) bs j).getD j noBlock = bs.getD j noBlock := repTo_get noBlock HML.out (Nat.le_refl _) (by have := HL.out; omega)
      rw [hrg] at q3 q4 f0
      obtain ⟨o1, t1⟩ := howr.setWear hlt (kB k0 bs j)
      have hb1 : Below base wr (wr.setCell ⟨g, j * 2, none⟩ (.int .i64 (kB k0 bs j))) := (Below.refl _ _).setCell (p := ⟨g, j * 2, none⟩) hg1 _
      have r1 := own_typed q4 t1 (by decide)
      have hn' : n' ≤ 1048576 := by have := HSM.out j hlt; omega
      have hset := repTo_set noBlock (m := marksB k0 bs) (xs := bs) (j := j) HML.out (by have := HL.out; omega)
      have hgm : (marksB k0 bs).getD j noBlock = markB (kB k0 bs j) (bs.getD j noBlock) := getD_mapRange noBlock _ (by have := HL.out; omega)
      rw [hgm] at hset
      have HST := Lib.hid hset
      have HK := Lib.hid (show kB k0 bs (j + 1) = kB k0 bs j + 1 + 5 * (bs.getD j noBlock).pages.length from rfl)
      have Q3 := Lib.hid q3
      have O1 := Lib.hid o1
      have HRG := Lib.hid hrg
      have B1 := Lib.hid (hbl.trans hb1)
      have G1 := Lib.hid (hg.trans (t1.wide (ts' := [67, 102]) (by simp)))
      have hbz : base ≤ (wr.setCell ⟨g, j * 2, none⟩ (.int .i64 (kB k0 bs j))).heap.size := by have := hbl.size; have := hb1.size; omega
      have F1 := Lib.hid (show (wr.setCell ⟨g, j * 2, none⟩ (.int .i64 (kB k0 bs j))).cell? ⟨g, j * 2 + 1, none⟩ = some (.slice A' n' c') from (World.cell?_setCell_other _ _ _ _ (by simp)).trans f1)
      clear o1 t1 hb1 hset hgm q3 q4 howr hrg hown hg hbl
      go_wp2_with fail
      refine (markPageS_c (k0 := kB k0 bs j + 1) r1 (by omega) (by omega) hn').mono ?_
      rintro e w2 ⟨rfl, om, gm⟩
      obtain ⟨o2, t2, b2⟩ := O1.out.turn (ps := marksG (kB k0 bs j + 1) n') hlt F1.out gm om (by
        rw [getD_setG _ _ _ _ (by rw [repTo_len HML.out (by have := HL.out; omega)]; have := HL.out; omega), HRG.out]; exact Q3.out) hbz
      have OF := Lib.hid (show OwB w2 base (some ⟨g, 0, none⟩) n c (repTo (marksB k0 bs) bs (j + 1)) from by
        rw [List.set_set] at o2
        rw [← HST.out]
        have e1 : ((repTo (marksB k0 bs) bs j).set j ⟨kB k0 bs j, ((repTo (marksB k0 bs) bs j).getD j noBlock).pages⟩).getD j noBlock = ⟨kB k0 bs j, (bs.getD j noBlock).pages⟩ := by
          rw [getD_setG _ _ _ _ (by rw [repTo_len HML.out (by have := HL.out; omega)]; have := HL.out; omega), HRG.out]
        rw [e1] at o2
        unfold markB
        rw [← Q3.out]
        exact o2)
      have HT := Lib.hid (G1.out.trans (t2.wide (ts' := [67, 102]) (by simp)))
      have HB := Lib.hid (B1.out.trans b2)
      have hkk : kB k0 bs j + 1 + 5 * (n' : Int) = kB k0 bs (j + 1) := by rw [HK.out, Q3.out]
      rw [hkk]
      clear hkk o2 t2 b2 om gm r1
      go_wp2
      go_roundw
      case rel => exact ⟨j + 1, by omega, by go_num, rfl, OF.out, HT.out, HB.out⟩
      case measure => simp [intOf]; omega
    · obtain rfl : j = n := by omega
      have how : OwB wr base A j c (marksB k0 bs) := by
        have := repTo_all HML.out
        rw [HL.out] at this
        rw [this] at howr
        exact howr
      have HO := Lib.hid how
      clear howr hown how
      go_wp2
      go_ret
      exact ⟨rfl, HO.out, hg, hbl⟩
theorem heldBlockS_c {A : Option Addr} {n c B : Nat} {bs : List BlockV} {w : World} {k0 : Int} (hr : RdB w B A n (marksB k0 bs)) (hk0 : 0 ≤ k0) (hk1 : k0 ≤ 100000000000000) (hn : n ≤ 1048576) (hsm : SmallB bs n 1048576) :
    Calls Try.prog 52 #[.slice A n c, .int .i64 k0] w fun e w' => e = .returned (.int .i64 (kB k0 bs n)) ∧ w = w' := by
  have HL := Lib.hid (show bs.length = n by have := hr.len; rw [marksB_len] at this; exact this)
  have HSM := Lib.hid hsm
  clear hsm
  go_enter Try.func52, Try.ntmps52
  go_wp2
  go_loop [1, 5] (fun kk i => ∃ j : Nat, j ≤ n ∧ i = .int .i64 j ∧ kk = .int .i64 (kB k0 bs j)) (fun _ i => n - (intOf i).toNat)
  case atStart => exact ⟨0, Nat.zero_le _, rfl, rfl⟩
  case round =>
    obtain ⟨j, hj, rfl, rfl⟩ := hrel
    have hkr := kB_range hk0 (bs := bs) (j := j) (fun i hi => HSM.out i (by omega))
    by_cases hlt : j < n
    · have hkr1 := kB_range hk0 (bs := bs) (j := j + 1) (fun i hi => HSM.out i (by omega))
      obtain ⟨b, off, rfl, hbB, hc⟩ := hr.at_ (by omega)
      obtain ⟨A', n', c', c0, c1, hnc, hcm, hrp⟩ := hc j hlt
      have hgm : (marksB k0 bs).getD j noBlock = markB (kB k0 bs j) (bs.getD j noBlock) := getD_mapRange noBlock _ (by have := HL.out; omega)
      rw [hgm] at c0 hrp
      unfold markB at c0 hrp
      simp only at c0 hrp
      have hq := hrp.len
      rw [marksG_len] at hq
      have hn' : n' ≤ 1048576 := by have := HSM.out j hlt; omega
      rw [hq] at hrp
      have hkk : kB k0 bs j + 1 + 5 * (n' : Int) = kB k0 bs (j + 1) := by rw [← hq]; rfl
      have HKK := Lib.hid hkk
      have h0 : 0 ≤ kB k0 bs j + 1 + 5 * (n' : Int) := by omega
      clear hr hc hgm hq hkk
      go_wp2_with fail
      refine (heldPageS_c (k0 := kB k0 bs j + 1) hrp (by omega) (by omega) hn').mono ?_
      rintro e w2 ⟨rfl, rfl⟩
      clear hrp c0 c1
      generalize kB k0 bs j = q at *
      go_wp2
      go_round
      case rel => exact ⟨j + 1, by omega, by go_num, by rw [HKK.out]⟩
      case measure => simp [intOf]; omega
    · obtain rfl : j = n := by omega
      go_wp2
      go_ret
      exact ⟨rfl, rfl⟩
/-! ### tables -/
/-- the first mark of list j -/
def kT (k0 : Int) (ts : List (List Int)) : Nat → Int
  | 0 => k0
  | j + 1 => kT k0 ts j + (ts.getD j []).length
theorem kT_range {k0 : Int} {ts : List (List Int)} (h0 : 0 ≤ k0) : ∀ {j : Nat}, SmallT ts j 1048576 → 0 ≤ kT k0 ts j ∧ kT k0 ts j ≤ k0 + 1048576 * j
  | 0, _ => by unfold kT; omega
  | j + 1, h => by
    have h1 := kT_range (k0 := k0) (ts := ts) h0 (j := j) (fun i hi => h i (by omega))
    have h2 := h j (by omega)
    unfold kT
    omega
def marksT (k0 : Int) (ts : List (List Int)) : List (List Int) := (List.range ts.length).map fun i => marks (kT k0 ts i) (ts.getD i []).length
theorem marksT_len (k0 : Int) (ts : List (List Int)) : (marksT k0 ts).length = ts.length := by simp [marksT]
theorem markIntSS_c {A : Option Addr} {n c base : Nat} {ts : List (List Int)} {w : World} {k0 : Int} (hown : OwT w base A n c ts) (hbase : base ≤ w.heap.size) (hk0 : 0 ≤ k0) (hk1 : k0 ≤ 100000000000000) (hn : n ≤ 1048576) (hsm : SmallT ts n 1048576) :
    Calls Try.prog 88 #[.slice A n c, .int .i64 k0] w fun e w' => e = .returned (.int .i64 (kT k0 ts n)) ∧ OwT w' base A n c (marksT k0 ts) ∧ ChgT [3] w w' ∧ Below base w w' := by
  have HL := Lib.hid hown.len
  have HML := Lib.hid (marksT_len k0 ts)
  have HSM := Lib.hid hsm
  clear hsm
  go_enter Try.func88, Try.ntmps88
  go_wp2
  go_loopw [1, 5] (fun kk i wr => ∃ j : Nat, j ≤ n ∧ i = .int .i64 j ∧ kk = .int .i64 (kT k0 ts j) ∧ OwT wr base A n c (repTo (marksT k0 ts) ts j) ∧ ChgT [3] w wr ∧ Below base w wr) (fun _ i _ => n - (intOf i).toNat)
  case atStart => exact ⟨0, Nat.zero_le _, rfl, rfl, by rw [repTo_zero]; exact hown, ChgT.refl _ _, Below.refl _ _⟩
  case round =>
    obtain ⟨j, hj, rfl, rfl, howr, hg, hbl⟩ := hrel
    have hkr := kT_range hk0 (ts := ts) (j := j) (fun i hi => HSM.out i (by omega))
    by_cases hlt : j < n
    · obtain ⟨g, rfl, hg1, hg2⟩ := howr.form (by omega)
      obtain ⟨A', n', c', f1, z1, q1, q2, q3, q4⟩ := howr.cells j hlt
      have hrg : (repTo (marksT k0 ts) ts j).getD j [] = ts.getD j [] := repTo_get [] HML.out (Nat.le_refl _) (by have := HL.out; omega)
      rw [hrg] at q3 q4
      have hn' : n' ≤ 1048576 := by have := HSM.out j hlt; omega
      have hset := repTo_set [] (m := marksT k0 ts) (xs := ts) (j := j) HML.out (by have := HL.out; omega)
      have hgm : (marksT k0 ts).getD j [] = marks (kT k0 ts j) (ts.getD j []).length := getD_mapRange [] _ (by have := HL.out; omega)
      rw [hgm] at hset
      have HST := Lib.hid hset
      have HK := Lib.hid (show kT k0 ts (j + 1) = kT k0 ts j + (ts.getD j []).length from rfl)
      have Q3 := Lib.hid q3
      have O1 := Lib.hid howr
      have HRG := Lib.hid hrg
      have B1 := Lib.hid hbl
      have G1 := Lib.hid hg
      have hbz : base ≤ wr.heap.size := by omega
      have F1 := Lib.hid f1
      clear hset hgm q3 howr hrg hown hg hbl
      go_wp2_with fail
      refine (markIntS_o (k0 := kT k0 ts j) q4 (by omega) (by omega) (by omega)).mono ?_
      rintro e w2 ⟨rfl, om, gm⟩
      have o2 := O1.out.turn (xs := marks (kT k0 ts j) n') hlt F1.out gm om (by rw [HRG.out]; exact Q3.out)
      obtain ⟨t2, b2⟩ := O1.out.chg hlt F1.out gm hbz
      rw [Q3.out, HST.out] at o2
      have OF := Lib.hid o2
      have HT := Lib.hid (G1.out.trans t2)
      have HB := Lib.hid (B1.out.trans b2)
      have hkk : kT k0 ts j + (n' : Int) = kT k0 ts (j + 1) := by rw [HK.out, Q3.out]
      rw [hkk]
      clear hkk o2 t2 b2 om gm q4
      go_wp2
      go_roundw
      case rel => exact ⟨j + 1, by omega, by go_num, rfl, OF.out, HT.out, HB.out⟩
      case measure => simp [intOf]; omega
    · obtain rfl : j = n := by omega
      have how : OwT wr base A j c (marksT k0 ts) := by
        have := repTo_all HML.out
        rw [HL.out] at this
        rw [this] at howr
        exact howr
      have HO := Lib.hid how
      clear howr hown how
      go_wp2
      go_ret
      exact ⟨rfl, HO.out, hg, hbl⟩
theorem heldIntSS_c {A : Option Addr} {n c B : Nat} {ts : List (List Int)} {w : World} {k0 : Int} (hr : RdT w B A n (marksT k0 ts)) (hk0 : 0 ≤ k0) (hk1 : k0 ≤ 100000000000000) (hn : n ≤ 1048576) (hsm : SmallT ts n 1048576) :
    Calls Try.prog 91 #[.slice A n c, .int .i64 k0] w fun e w' => e = .returned (.int .i64 (kT k0 ts n)) ∧ w = w' := by
  have HL := Lib.hid (show ts.length = n by have := hr.len; rw [marksT_len] at this; exact this)
  have HSM := Lib.hid hsm
  clear hsm
  go_enter Try.func91, Try.ntmps91
  go_wp2
  go_loop [1, 5] (fun kk i => ∃ j : Nat, j ≤ n ∧ i = .int .i64 j ∧ kk = .int .i64 (kT k0 ts j)) (fun _ i => n - (intOf i).toNat)
  case atStart => exact ⟨0, Nat.zero_le _, rfl, rfl⟩
  case round =>
    obtain ⟨j, hj, rfl, rfl⟩ := hrel
    have hkr := kT_range hk0 (ts := ts) (j := j) (fun i hi => HSM.out i (by omega))
    by_cases hlt : j < n
    · obtain ⟨b, off, rfl, hbB, hc⟩ := hr.at_ (by omega)
      obtain ⟨A', n', c', c1, hnc, hcm, hrp⟩ := hc j hlt
      have hgm : (marksT k0 ts).getD j [] = marks (kT k0 ts j) (ts.getD j []).length := getD_mapRange [] _ (by have := HL.out; omega)
      rw [hgm] at hrp
      have hq := hrp.len
      rw [marks_len] at hq
      have hn' : n' ≤ 1048576 := by have := HSM.out j hlt; omega
      rw [hq] at hrp
      have HKK := Lib.hid (show kT k0 ts j + (n' : Int) = kT k0 ts (j + 1) by rw [← hq]; rfl)
      have h0 : 0 ≤ kT k0 ts j + (n' : Int) := by omega
      clear hr hc hgm hq
      go_wp2_with fail
      refine (heldIntS_c (k0 := kT k0 ts j) hrp (by omega) (by omega) (by omega)).mono ?_
      rintro e w2 ⟨rfl, rfl⟩
      clear hrp c1
      generalize kT k0 ts j = q at *
      go_wp2
      go_round
      case rel => exact ⟨j + 1, by omega, by go_num, by rw [HKK.out]⟩
      case measure => simp [intOf]; omega
    · obtain rfl : j = n := by omega
      go_wp2
      go_ret
      exact ⟨rfl, rfl⟩
theorem markTable_c {A : Option Addr} {n c base : Nat} {ts : List (List Int)} {w : World} {k0 : Int} (hown : OwT w base A n c ts) (hbase : base ≤ w.heap.size) (hk0 : 0 ≤ k0) (hk1 : k0 ≤ 100000000000000) (hn : n ≤ 1048576) (hsm : SmallT ts n 1048576) :
    Calls Try.prog 50 #[.agg #[.slice A n c], .int .i64 k0] w fun e w' => e = .returned (.int .i64 (kT k0 ts n)) ∧ OwT w' base A n c (marksT k0 ts) ∧ ChgT [3] w w' ∧ Below base w w' := by
  have b1 : Below w.heap.size w (w.alloc (.cells #[.slice A n c] 37)) := (Below.refl _ _).alloc (Nat.le_refl _) _
  go_enter Try.func50, Try.ntmps50
  go_wp2_with fail
  refine (markIntSS_c (hown.below b1) (by have := b1.size; omega) hk0 hk1 hn hsm).mono ?_
  rintro e w2 ⟨rfl, o2, t2, b2⟩
  have OF := Lib.hid o2
  have HT := Lib.hid ((ChgT.of_below b1).trans t2)
  have HB := Lib.hid ((b1.mono hbase).trans b2)
  clear o2 t2 b2 b1 hown
  go_wp2
  go_ret
  exact ⟨rfl, OF.out, HT.out, HB.out⟩
theorem heldTable_c {A : Option Addr} {n c B : Nat} {ts : List (List Int)} {w : World} {k0 : Int} (hr : RdT w B A n (marksT k0 ts)) (hB : B ≤ w.heap.size) (hk0 : 0 ≤ k0) (hk1 : k0 ≤ 100000000000000) (hn : n ≤ 1048576) (hsm : SmallT ts n 1048576) :
    Calls Try.prog 53 #[.agg #[.slice A n c], .int .i64 k0] w fun e w' => e = .returned (.int .i64 (kT k0 ts n)) ∧ Below w.heap.size w w' := by
  have b1 : Below w.heap.size w (w.alloc (.cells #[.slice A n c] 37)) := (Below.refl _ _).alloc (Nat.le_refl _) _
  have hkr := kT_range hk0 (ts := ts) (j := n) hsm
  go_enter Try.func53, Try.ntmps53
  go_wp2_with fail
  refine (heldIntSS_c ((hr.mono hB).below b1) hk0 hk1 hn hsm).mono ?_
  rintro e w2 ⟨rfl, rfl⟩
  go_wp2
  go_ret
  exact ⟨rfl, b1⟩
end Go.Proofs.Ytjnpgdhpneifjaa
