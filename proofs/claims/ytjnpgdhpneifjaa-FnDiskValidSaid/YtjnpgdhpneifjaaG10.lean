/- Parts of the proof, one after the other; each says what it proves. -/
import Derived.Test.YtjnpgdhpneifjaaG9
/- The laws' marks on devices and tables of the call's own, and how they are looked for. Conditions: lengths of at most 2^20. -/
namespace Go.Proofs.Ytjnpgdhpneifjaa
open Go.ChangeShapes Go.WideShapes Go.ChangeAt Go.RowKit Go.Deep
set_option linter.unusedVariables false
set_option linter.unusedSimpArgs false

def markG (k : Int) : PageV := ⟨k % 3 == 0, k + 1, k + 1 + 1, k + 1 + 1 + 1, k + 1 + 1 + 1 + 1⟩
def marksG (k : Int) (n : Nat) : List PageV := (List.range n).map fun (i : Nat) => markG (k + 5 * (i : Int))
theorem marksG_len (k : Int) (n : Nat) : (marksG k n).length = n := by simp [marksG]
theorem below_row {w w' : World} {base e s n : Nat} {v : Value} {xs : List Value} (h : w.ownsRow base e s v n xs) (hg : w.grownBy w' v.ownBlock) (hb : base ≤ w.heap.size) : Below base w w' :=
  ⟨hg.os, hg.tape, hg.output, hg.size, fun k hk => hg.block k (by omega) (fun e => by have := (own_lt h e.symm).1; omega)⟩

theorem markPageS_c {A : Option Addr} {n c base : Nat} {ps : List PageV} {w : World} {k0 : Int} (hown : w.ownsRow base 102 5 (.slice A n c) n (flatG ps)) (hk0 : 0 ≤ k0) (hk1 : k0 ≤ 1000000000000000) (hn : n ≤ 1048576) :
    Calls Try.prog 87 #[.slice A n c, .int .i64 k0] w fun e w' => e = .returned (.int .i64 (k0 + 5 * n)) ∧ w'.ownsRow base 102 5 (.slice A n c) n (flatG (marksG k0 n)) ∧ w.grownBy w' (Value.slice A n c).ownBlock := by
  have hl := own_pagesLen hown
  have hml : (marksG k0 n).length = ps.length := by rw [marksG_len, hl]
  have HL := Lib.hid hl
  have HML := Lib.hid hml
  clear hl hml
  go_enter Try.func87, Try.ntmps87
  go_wp2
  go_loopw [1, 5] (fun kk i wr => ∃ j : Nat, j ≤ n ∧ i = .int .i64 j ∧ kk = .int .i64 (k0 + 5 * j) ∧ wr.ownsRow base 102 5 (.slice A n c) n (flatG (repTo (marksG k0 n) ps j)) ∧ w.grownBy wr (Value.slice A n c).ownBlock) (fun _ i _ => n - (intOf i).toNat)
  case atStart => exact ⟨0, Nat.zero_le _, rfl, by simp, by rw [repTo_zero]; exact hown, World.grownBy.refl _ _⟩
  case round =>
    obtain ⟨j, hj, rfl, rfl, howr, hg⟩ := hrel
    by_cases hlt : j < n
    · obtain ⟨g, cap, ev, hg1, hg2⟩ := howr.form (by omega)
      injection ev with e1 e2 e3
      subst e1
      clear e2 e3
      obtain ⟨f0, f1, f2, f3, f4⟩ := own_pageCells howr j hlt
      have z0 := howr.frozenAt (g := g) (cap := c) (j * 5)
      have z1 := howr.frozenAt (g := g) (cap := c) (j * 5 + 1)
      have z2 := howr.frozenAt (g := g) (cap := c) (j * 5 + 2)
      have z3 := howr.frozenAt (g := g) (cap := c) (j * 5 + 3)
      have z4 := howr.frozenAt (g := g) (cap := c) (j * 5 + 4)
      have hput := own_putPage howr j hlt (markG (k0 + 5 * (j : Int)))
      have hset := repTo_set noPage (m := marksG k0 n) (xs := ps) (j := j) HML.out (by have := HL.out; omega)
      have hgm : (marksG k0 n).getD j noPage = markG (k0 + 5 * (j : Int)) := getD_mapRange noPage _ hlt
      rw [hgm] at hset
      rw [hset] at hput
      unfold putPage markG at hput
      simp only at hput
      have HP := Lib.hid hput.1
      have HG := Lib.hid (gb_trans hg hput.2)
      generalize (repTo (marksG k0 n) ps j).getD j noPage = Q at *
      clear howr hown hput hset hgm hg
      go_wp2
      go_roundw
      case rel => exact ⟨j + 1, by omega, by go_num, by go_num, HP.out, HG.out⟩
      case measure => simp [intOf]; omega
    · obtain rfl : j = n := by omega
      have how : wr.ownsRow base 102 5 (.slice A j c) j (flatG (marksG k0 j)) := by
        have := repTo_all HML.out
        rw [HL.out] at this
        rw [this] at howr
        exact howr
      have HO := Lib.hid how
      clear howr hown how
      go_wp2
      go_ret
      exact ⟨rfl, HO.out, hg⟩
theorem heldPageS_c {A : Option Addr} {n c B : Nat} {w : World} {k0 : Int} (hr : RdG w B A n (marksG k0 n)) (hk0 : 0 ≤ k0) (hk1 : k0 ≤ 1000000000000000) (hn : n ≤ 1048576) :
    Calls Try.prog 90 #[.slice A n c, .int .i64 k0] w fun e w' => e = .returned (.int .i64 (k0 + 5 * n)) ∧ w = w' := by
  go_enter Try.func90, Try.ntmps90
  go_wp2
  go_loop [1, 5] (fun kk i => ∃ j : Nat, j ≤ n ∧ i = .int .i64 j ∧ kk = .int .i64 (k0 + 5 * j)) (fun _ i => n - (intOf i).toNat)
  case atStart => exact ⟨0, Nat.zero_le _, rfl, by simp⟩
  case round =>
    obtain ⟨j, hj, rfl, rfl⟩ := hrel
    by_cases hlt : j < n
    · obtain ⟨b, off, rfl, hbB, hc⟩ := hr.at_ (by omega)
      obtain ⟨c0, c1, c2, c3, c4⟩ := hc j hlt
      have hgm : (marksG k0 n).getD j noPage = markG (k0 + 5 * (j : Int)) := getD_mapRange noPage _ hlt
      rw [hgm] at c0 c1 c2 c3 c4
      unfold markG at c0 c1 c2 c3 c4
      simp only at c0 c1 c2 c3 c4
      have hnn : ((((k0 + 5 * (j : Int)) % 3 == 0)) != ((k0 + 5 * (j : Int)) % 3 == 0)) = false := by simp
      clear hr hc hgm
      go_wp2
      go_round
      case rel => exact ⟨j + 1, by omega, by go_num, by go_num⟩
      case measure => simp [intOf]; omega
    · obtain rfl : j = n := by omega
      go_wp2
      go_ret
      exact ⟨rfl, rfl⟩

/-! ### devices -/
/-- the first mark of block j -/
def kB (k0 : Int) (bs : List BlockV) : Nat → Int
  | 0 => k0
  | j + 1 => kB k0 bs j + 1 + 5 * (bs.getD j noBlock).pages.length
theorem kB_range {k0 : Int} {bs : List BlockV} (h0 : 0 ≤ k0) : ∀ {j : Nat}, SmallB bs j 1048576 → 0 ≤ kB k0 bs j ∧ kB k0 bs j ≤ k0 + 5242881 * j
  | 0, _ => by unfold kB; omega
  | j + 1, h => by
    have h1 := kB_range (k0 := k0) (bs := bs) h0 (j := j) (fun i hi => h i (by omega))
    have h2 := h j (by omega)
    unfold kB
    omega
def markB (k : Int) (b : BlockV) : BlockV := ⟨k, marksG (k + 1) b.pages.length⟩
def marksB (k0 : Int) (bs : List BlockV) : List BlockV := (List.range bs.length).map fun i => markB (kB k0 bs i) (bs.getD i noBlock)
theorem marksB_len (k0 : Int) (bs : List BlockV) : (marksB k0 bs).length = bs.length := by simp [marksB]
theorem marksB_small {k0 : Int} {bs : List BlockV} {n : Nat} {left : Int} (hn : n ≤ bs.length) (h : SmallB bs n left) : SmallB (marksB k0 bs) n left := by
  intro i hi
  have := h i hi
  have e : (marksB k0 bs).getD i noBlock = markB (kB k0 bs i) (bs.getD i noBlock) := getD_mapRange noBlock _ (by omega)
  rw [e]
  simpa [markB, marksG_len] using this
/-- the wear of a block is stored -/
theorem OwB.setWear {w : World} {base g n c : Nat} {bs : List BlockV} (h : OwB w base (some ⟨g, 0, none⟩) n c bs) {i : Nat} (hi : i < n) (we : Int) :
    OwB (w.setCell ⟨g, i * 2, none⟩ (.int .i64 we)) base (some ⟨g, 0, none⟩) n c (bs.set i ⟨we, (bs.getD i noBlock).pages⟩) ∧ ChgT [67] w (w.setCell ⟨g, i * 2, none⟩ (.int .i64 we)) := by
  have hl := h.len
  obtain ⟨hs, h⟩ := h
  have h2 := h.setPre (by decide) hi (Nat.zero_lt_one) (.int .i64 we)
  have hst := h.main.stored (g := g) (cap := c) (i * (1 + 1) + 0) (.int .i64 we)
  refine ⟨⟨hs, ?_⟩, h.typ hst.2⟩
  rw [List.map_set]
  have e : elB ⟨we, (bs.getD i noBlock).pages⟩ = ⟨((bs.map elB).getD i nilEl).pre.set 0 (.int .i64 we), ((bs.map elB).getD i nilEl).m, ((bs.map elB).getD i nilEl).cells⟩ := by
    rw [elB_getD bs i (by omega)]; rfl
  rw [e]
  exact h2
/-- the pages of a block turn within -/
theorem OwB.turn {w w' : World} {base g n c : Nat} {A' : Option Addr} {n' c' : Nat} {bs : List BlockV} {ps : List PageV} (h : OwB w base (some ⟨g, 0, none⟩) n c bs) {i : Nat} (hi : i < n) (hcell : w.cell? ⟨g, i * 2 + 1, none⟩ = some (.slice A' n' c'))
    (hg : w.grownBy w' (Value.slice A' n' c').ownBlock) (hr : w'.ownsRow base 102 5 (.slice A' n' c') n' (flatG ps)) (hl : n' = (bs.getD i noBlock).pages.length) (hbase : base ≤ w.heap.size) :
    OwB w' base (some ⟨g, 0, none⟩) n c (bs.set i ⟨(bs.getD i noBlock).wear, ps⟩) ∧ ChgT [102] w w' ∧ Below base w w' := by
  have hlen := h.len
  obtain ⟨hs, h⟩ := h
  obtain ⟨c0, c1, r⟩ := h.blockCells i hi
  have e : hs.getD i nilV = .slice A' n' c' := by rw [c1] at hcell; injection hcell
  rw [← e] at hg hr
  have hm : ((bs.map elB).getD i nilEl).m = n' := by rw [elB_getD bs i (by omega), hl]; rfl
  have ht := h.turnRow (cs := flatG ps) (by decide) hi hg (by rw [hm]; exact hr)
  have r' := h.row i hi
  refine ⟨⟨hs, ?_⟩, h.typRow hi hg, below_row r' hg hbase⟩
  rw [List.map_set]
  have hxl := own_pagesLen hr
  have e2 : elB ⟨(bs.getD i noBlock).wear, ps⟩ = ⟨((bs.map elB).getD i nilEl).pre, ((bs.map elB).getD i nilEl).m, flatG ps⟩ := by rw [hm, elB_getD bs i (by omega)]; unfold elB; rw [hxl]
  rw [e2]
  exact ht
theorem markBlockS_c {A : Option Addr} {n c base : Nat} {bs : List BlockV} {w : World} {k0 : Int} (hown : OwB w base A n c bs) (hbase : base ≤ w.heap.size) (hk0 : 0 ≤ k0) (hk1 : k0 ≤ 100000000000000) (hn : n ≤ 1048576) (hsm : SmallB bs n 1048576) :
    Calls Try.prog 49 #[.slice A n c, .int .i64 k0] w fun e w' => e = .returned (.int .i64 (kB k0 bs n)) ∧ OwB w' base A n c (marksB k0 bs) ∧ ChgT [67, 102] w w' ∧ Below base w w' := by
  have HL := Lib.hid hown.len
  have HML := Lib.hid (marksB_len k0 bs)
  have HSM := Lib.hid hsm
  clear hsm
  go_enter Try.func49, Try.ntmps49
  go_wp2
  go_loopw [1, 5] (fun kk i wr => ∃ j : Nat, j ≤ n ∧ i = .int .i64 j ∧ kk = .int .i64 (kB k0 bs j) ∧ OwB wr base A n c (repTo (marksB k0 bs) bs j) ∧ ChgT [67, 102] w wr ∧ Below base w wr) (fun _ i _ => n - (intOf i).toNat)
  case atStart => exact ⟨0, Nat.zero_le _, rfl, rfl, by rw [repTo_zero]; exact hown, ChgT.refl _ _, Below.refl _ _⟩
  case round =>
    obtain ⟨j, hj, rfl, rfl, howr, hg, hbl⟩ := hrel
    have hkr := kB_range hk0 (bs := bs) (j := j) (fun i hi => HSM.out i (by omega))
    by_cases hlt : j < n
    · obtain ⟨g, rfl, hg1, hg2⟩ := howr.form (by omega)
      obtain ⟨A', n', c', f0, f1, z0, z1, q1, q2, q3, q4⟩ := howr.cells j hlt
      have hrg : (repTo (marksB k0 bs) bs j).getD j noBlock = bs.getD j noBlock := repTo_get noBlock HML.out (Nat.le_refl _) (by have := HL.out; omega)
      rw [hrg] at q3 q4 f0
      obtain ⟨o1, t1⟩ := howr.setWear hlt (kB k0 bs j)
      have hb1 : Below base wr (wr.setCell ⟨g, j * 2, none⟩ (.int .i64 (kB k0 bs j))) := (Below.refl _ _).setCell (p := ⟨g, j * 2, none⟩) hg1 _
      have r1 := own_typed q4 t1 (by decide)
      have hn' : n' ≤ 1048576 := by have := HSM.out j hlt; omega
      have hset := repTo_set noBlock (m := marksB k0 bs) (xs := bs) (j := j) HML.out (by have := HL.out; omega)
      have hgm : (marksB k0 bs).getD j noBlock = markB (kB k0 bs j) (bs.getD j noBlock) := getD_mapRange noBlock _ (by have := HL.out; omega)
      rw [hgm] at hset
      have HST := Lib.hid hset
      have HK := Lib.hid (show kB k0 bs (j + 1) = kB k0 bs j + 1 + 5 * (bs.getD j noBlock).pages.length from rfl)
      have Q3 := Lib.hid q3
      have O1 := Lib.hid o1
      have HRG := Lib.hid hrg
      have B1 := Lib.hid (hbl.trans hb1)
      have G1 := Lib.hid (hg.trans (t1.wide (ts' := [67, 102]) (by simp)))
      have hbz : base ≤ (wr.setCell ⟨g, j * 2, none⟩ (.int .i64 (kB k0 bs j))).heap.size := by have := hbl.size; have := hb1.size; omega
      have F1 := Lib.hid (show (wr.setCell ⟨g, j * 2, none⟩ (.int .i64 (kB k0 bs j))).cell? ⟨g, j * 2 + 1, none⟩ = some (.slice A' n' c') from (World.cell?_setCell_other _ _ _ _ (by simp)).trans f1)
      clear o1 t1 hb1 hset hgm q3 q4 howr hrg hown hg hbl
      go_wp2_with fail
      refine (markPageS_c (k0 := kB k0 bs j + 1) r1 (by omega) (by omega) hn').mono ?_
      rintro e w2 ⟨rfl, om, gm⟩
      obtain ⟨o2, t2, b2⟩ := O1.out.turn (ps := marksG (kB k0 bs j + 1) n') hlt F1.out gm om (by
        rw [getD_setG _ _ _ _ (by rw [repTo_len HML.out (by have := HL.out; omega)]; have := HL.out; omega), HRG.out]; exact Q3.out) hbz
      have OF := Lib.hid (show OwB w2 base (some ⟨g, 0, none⟩) n c (repTo (marksB k0 bs) bs (j + 1)) from by
        rw [List.set_set] at o2
        rw [← HST.out]
        have e1 : ((repTo (marksB k0 bs) bs j).set j ⟨kB k0 bs j, ((repTo (marksB k0 bs) bs j).getD j noBlock).pages⟩).getD j noBlock = ⟨kB k0 bs j, (bs.getD j noBlock).pages⟩ := by
          rw [getD_setG _ _ _ _ (by rw [repTo_len HML.out (by have := HL.out; omega)]; have := HL.out; omega), HRG.out]
        rw [e1] at o2
        unfold markB
        rw [← Q3.out]
        exact o2)
      have HT := Lib.hid (G1.out.trans (t2.wide (ts' := [67, 102]) (by simp)))
      have HB := Lib.hid (B1.out.trans b2)
      have hkk : kB k0 bs j + 1 + 5 * (n' : Int) = kB k0 bs (j + 1) := by rw [HK.out, Q3.out]
      rw [hkk]
      clear hkk o2 t2 b2 om gm r1
      go_wp2
      go_roundw
      case rel => exact ⟨j + 1, by omega, by go_num, rfl, OF.out, HT.out, HB.out⟩
      case measure => simp [intOf]; omega
    · obtain rfl : j = n := by omega
      have how : OwB wr base A j c (marksB k0 bs) := by
        have := repTo_all HML.out
        rw [HL.out] at this
        rw [this] at howr
        exact howr
      have HO := Lib.hid how
      clear howr hown how
      go_wp2
      go_ret
      exact ⟨rfl, HO.out, hg, hbl⟩
theorem heldBlockS_c {A : Option Addr} {n c B : Nat} {bs : List BlockV} {w : World} {k0 : Int} (hr : RdB w B A n (marksB k0 bs)) (hk0 : 0 ≤ k0) (hk1 : k0 ≤ 100000000000000) (hn : n ≤ 1048576) (hsm : SmallB bs n 1048576) :
    Calls Try.prog 52 #[.slice A n c, .int .i64 k0] w fun e w' => e = .returned (.int .i64 (kB k0 bs n)) ∧ w = w' := by
  have HL := Lib.hid (show bs.length = n by have := hr.len; rw [marksB_len] at this; exact this)
  have HSM := Lib.hid hsm
  clear hsm
  go_enter Try.func52, Try.ntmps52
  go_wp2
  go_loop [1, 5] (fun kk i => ∃ j : Nat, j ≤ n ∧ i = .int .i64 j ∧ kk = .int .i64 (kB k0 bs j)) (fun _ i => n - (intOf i).toNat)
  case atStart => exact ⟨0, Nat.zero_le _, rfl, rfl⟩
  case round =>
    obtain ⟨j, hj, rfl, rfl⟩ := hrel
    have hkr := kB_range hk0 (bs := bs) (j := j) (fun i hi => HSM.out i (by omega))
    by_cases hlt : j < n
    · have hkr1 := kB_range hk0 (bs := bs) (j := j + 1) (fun i hi => HSM.out i (by omega))
      obtain ⟨b, off, rfl, hbB, hc⟩ := hr.at_ (by omega)
      obtain ⟨A', n', c', c0, c1, hnc, hcm, hrp⟩ := hc j hlt
      have hgm : (marksB k0 bs).getD j noBlock = markB (kB k0 bs j) (bs.getD j noBlock) := getD_mapRange noBlock _ (by have := HL.out; omega)
      rw [hgm] at c0 hrp
      unfold markB at c0 hrp
      simp only at c0 hrp
      have hq := hrp.len
      rw [marksG_len] at hq
      have hn' : n' ≤ 1048576 := by have := HSM.out j hlt; omega
      rw [hq] at hrp
      have hkk : kB k0 bs j + 1 + 5 * (n' : Int) = kB k0 bs (j + 1) := by rw [← hq]; rfl
      have HKK := Lib.hid hkk
      have h0 : 0 ≤ kB k0 bs j + 1 + 5 * (n' : Int) := by omega
      clear hr hc hgm hq hkk
      go_wp2_with fail
      refine (heldPageS_c (k0 := kB k0 bs j + 1) hrp (by omega) (by omega) hn').mono ?_
      rintro e w2 ⟨rfl, rfl⟩
      clear hrp c0 c1
      generalize kB k0 bs j = q at *
      go_wp2
      go_round
      case rel => exact ⟨j + 1, by omega, by go_num, by rw [HKK.out]⟩
      case measure => simp [intOf]; omega
    · obtain rfl : j = n := by omega
      go_wp2
      go_ret
      exact ⟨rfl, rfl⟩
/-! ### tables -/
/-- the first mark of list j -/
def kT (k0 : Int) (ts : List (List Int)) : Nat → Int
  | 0 => k0
  | j + 1 => kT k0 ts j + (ts.getD j []).length
theorem kT_range {k0 : Int} {ts : List (List Int)} (h0 : 0 ≤ k0) : ∀ {j : Nat}, SmallT ts j 1048576 → 0 ≤ kT k0 ts j ∧ kT k0 ts j ≤ k0 + 1048576 * j
  | 0, _ => by unfold kT; omega
  | j + 1, h => by
    have h1 := kT_range (k0 := k0) (ts := ts) h0 (j := j) (fun i hi => h i (by omega))
    have h2 := h j (by omega)
    unfold kT
    omega
def marksT (k0 : Int) (ts : List (List Int)) : List (List Int) := (List.range ts.length).map fun i => marks (kT k0 ts i) (ts.getD i []).length
theorem marksT_len (k0 : Int) (ts : List (List Int)) : (marksT k0 ts).length = ts.length := by simp [marksT]
theorem markIntSS_c {A : Option Addr} {n c base : Nat} {ts : List (List Int)} {w : World} {k0 : Int} (hown : OwT w base A n c ts) (hbase : base ≤ w.heap.size) (hk0 : 0 ≤ k0) (hk1 : k0 ≤ 100000000000000) (hn : n ≤ 1048576) (hsm : SmallT ts n 1048576) :
    Calls Try.prog 88 #[.slice A n c, .int .i64 k0] w fun e w' => e = .returned (.int .i64 (kT k0 ts n)) ∧ OwT w' base A n c (marksT k0 ts) ∧ ChgT [3] w w' ∧ Below base w w' := by
  have HL := Lib.hid hown.len
  have HML := Lib.hid (marksT_len k0 ts)
  have HSM := Lib.hid hsm
  clear hsm
  go_enter Try.func88, Try.ntmps88
  go_wp2
  go_loopw [1, 5] (fun kk i wr => ∃ j : Nat, j ≤ n ∧ i = .int .i64 j ∧ kk = .int .i64 (kT k0 ts j) ∧ OwT wr base A n c (repTo (marksT k0 ts) ts j) ∧ ChgT [3] w wr ∧ Below base w wr) (fun _ i _ => n - (intOf i).toNat)
  case atStart => exact ⟨0, Nat.zero_le _, rfl, rfl, by rw [repTo_zero]; exact hown, ChgT.refl _ _, Below.refl _ _⟩
  case round =>
    obtain ⟨j, hj, rfl, rfl, howr, hg, hbl⟩ := hrel
    have hkr := kT_range hk0 (ts := ts) (j := j) (fun i hi => HSM.out i (by omega))
    by_cases hlt : j < n
    · obtain ⟨g, rfl, hg1, hg2⟩ := howr.form (by omega)
      obtain ⟨A', n', c', f1, z1, q1, q2, q3, q4⟩ := howr.cells j hlt
      have hrg : (repTo (marksT k0 ts) ts j).getD j [] = ts.getD j [] := repTo_get [] HML.out (Nat.le_refl _) (by have := HL.out; omega)
      rw [hrg] at q3 q4
      have hn' : n' ≤ 1048576 := by have := HSM.out j hlt; omega
      have hset := repTo_set [] (m := marksT k0 ts) (xs := ts) (j := j) HML.out (by have := HL.out; omega)
      have hgm : (marksT k0 ts).getD j [] = marks (kT k0 ts j) (ts.getD j []).length := getD_mapRange [] _ (by have := HL.out; omega)
      rw [hgm] at hset
      have HST := Lib.hid hset
      have HK := Lib.hid (show kT k0 ts (j + 1) = kT k0 ts j + (ts.getD j []).length from rfl)
      have Q3 := Lib.hid q3
      have O1 := Lib.hid howr
      have HRG := Lib.hid hrg
      have B1 := Lib.hid hbl
      have G1 := Lib.hid hg
      have hbz : base ≤ wr.heap.size := by omega
      have F1 := Lib.hid f1
      clear hset hgm q3 howr hrg hown hg hbl
      go_wp2_with fail
      refine (markIntS_o (k0 := kT k0 ts j) q4 (by omega) (by omega) (by omega)).mono ?_
      rintro e w2 ⟨rfl, om, gm⟩
      have o2 := O1.out.turn (xs := marks (kT k0 ts j) n') hlt F1.out gm om (by rw [HRG.out]; exact Q3.out)
      obtain ⟨t2, b2⟩ := O1.out.chg hlt F1.out gm hbz
      rw [Q3.out, HST.out] at o2
      have OF := Lib.hid o2
      have HT := Lib.hid (G1.out.trans t2)
      have HB := Lib.hid (B1.out.trans b2)
      have hkk : kT k0 ts j + (n' : Int) = kT k0 ts (j + 1) := by rw [HK.out, Q3.out]
      rw [hkk]
      clear hkk o2 t2 b2 om gm q4
      go_wp2
      go_roundw
      case rel => exact ⟨j + 1, by omega, by go_num, rfl, OF.out, HT.out, HB.out⟩
      case measure => simp [intOf]; omega
    · obtain rfl : j = n := by omega
      have how : OwT wr base A j c (marksT k0 ts) := by
        have := repTo_all HML.out
        rw [HL.out] at this
        rw [this] at howr
        exact howr
      have HO := Lib.hid how
      clear howr hown how
      go_wp2
      go_ret
      exact ⟨rfl, HO.out, hg, hbl⟩
theorem heldIntSS_c {A : Option Addr} {n c B : Nat} {ts : List (List Int)} {w : World} {k0 : Int} (hr : RdT w B A n (marksT k0 ts)) (hk0 : 0 ≤ k0) (hk1 : k0 ≤ 100000000000000) (hn : n ≤ 1048576) (hsm : SmallT ts n 1048576) :
    Calls Try.prog 91 #[.slice A n c, .int .i64 k0] w fun e w' => e = .returned (.int .i64 (kT k0 ts n)) ∧ w = w' := by
  have HL := Lib.hid (show ts.length = n by have := hr.len; rw [marksT_len] at this; exact this)
  have HSM := Lib.hid hsm
  clear hsm
  go_enter Try.func91, Try.ntmps91
  go_wp2
  go_loop [1, 5] (fun kk i => ∃ j : Nat, j ≤ n ∧ i = .int .i64 j ∧ kk = .int .i64 (kT k0 ts j)) (fun _ i => n - (intOf i).toNat)
  case atStart => exact ⟨0, Nat.zero_le _, rfl, rfl⟩
  case round =>
    obtain ⟨j, hj, rfl, rfl⟩ := hrel
    have hkr := kT_range hk0 (ts := ts) (j := j) (fun i hi => HSM.out i (by omega))
    by_cases hlt : j < n
    · obtain ⟨b, off, rfl, hbB, hc⟩ := hr.at_ (by omega)
      obtain ⟨A', n', c', c1, hnc, hcm, hrp⟩ := hc j hlt
      have hgm : (marksT k0 ts).getD j [] = marks (kT k0 ts j) (ts.getD j []).length := getD_mapRange [] _ (by have := HL.out; omega)
      rw [hgm] at hrp
      have hq := hrp.len
      rw [marks_len] at hq
      have hn' : n' ≤ 1048576 := by have := HSM.out j hlt; omega
      rw [hq] at hrp
      have HKK := Lib.hid (show kT k0 ts j + (n' : Int) = kT k0 ts (j + 1) by rw [← hq]; rfl)
      have h0 : 0 ≤ kT k0 ts j + (n' : Int) := by omega
      clear hr hc hgm hq
      go_wp2_with fail
      refine (heldIntS_c (k0 := kT k0 ts j) hrp (by omega) (by omega) (by omega)).mono ?_
      rintro e w2 ⟨rfl, rfl⟩
      clear hrp c1
      generalize kT k0 ts j = q at *
      go_wp2
      go_round
      case rel => exact ⟨j + 1, by omega, by go_num, by rw [HKK.out]⟩
      case measure => simp [intOf]; omega
    · obtain rfl : j = n := by omega
      go_wp2
      go_ret
      exact ⟨rfl, rfl⟩
theorem markTable_c {A : Option Addr} {n c base : Nat} {ts : List (List Int)} {w : World} {k0 : Int} (hown : OwT w base A n c ts) (hbase : base ≤ w.heap.size) (hk0 : 0 ≤ k0) (hk1 : k0 ≤ 100000000000000) (hn : n ≤ 1048576) (hsm : SmallT ts n 1048576) :
    Calls Try.prog 50 #[.agg #[.slice A n c], .int .i64 k0] w fun e w' => e = .returned (.int .i64 (kT k0 ts n)) ∧ OwT w' base A n c (marksT k0 ts) ∧ ChgT [3] w w' ∧ Below base w w' := by
  have b1 : Below w.heap.size w (w.alloc (.cells #[.slice A n c] 37)) := (Below.refl _ _).alloc (Nat.le_refl _) _
  go_enter Try.func50, Try.ntmps50
  go_wp2_with fail
  refine (markIntSS_c (hown.below b1) (by have := b1.size; omega) hk0 hk1 hn hsm).mono ?_
  rintro e w2 ⟨rfl, o2, t2, b2⟩
  have OF := Lib.hid o2
  have HT := Lib.hid ((ChgT.of_below b1).trans t2)
  have HB := Lib.hid ((b1.mono hbase).trans b2)
  clear o2 t2 b2 b1 hown
  go_wp2
  go_ret
  exact ⟨rfl, OF.out, HT.out, HB.out⟩
theorem heldTable_c {A : Option Addr} {n c B : Nat} {ts : List (List Int)} {w : World} {k0 : Int} (hr : RdT w B A n (marksT k0 ts)) (hB : B ≤ w.heap.size) (hk0 : 0 ≤ k0) (hk1 : k0 ≤ 100000000000000) (hn : n ≤ 1048576) (hsm : SmallT ts n 1048576) :
    Calls Try.prog 53 #[.agg #[.slice A n c], .int .i64 k0] w fun e w' => e = .returned (.int .i64 (kT k0 ts n)) ∧ Below w.heap.size w w' := by
  have b1 : Below w.heap.size w (w.alloc (.cells #[.slice A n c] 37)) := (Below.refl _ _).alloc (Nat.le_refl _) _
  have hkr := kT_range hk0 (ts := ts) (j := n) hsm
  go_enter Try.func53, Try.ntmps53
  go_wp2_with fail
  refine (heldIntSS_c ((hr.mono hB).below b1) hk0 hk1 hn hsm).mono ?_
  rintro e w2 ⟨rfl, rfl⟩
  go_wp2
  go_ret
  exact ⟨rfl, b1⟩
end Go.Proofs.Ytjnpgdhpneifjaa

/- The empty table, the program's and the reference's. No condition. -/
namespace Go.Proofs.Ytjnpgdhpneifjaa
open Go.ChangeShapes Go.WideShapes Go.ChangeAt Go.RowKit Go.Deep
set_option linter.unusedVariables false
set_option linter.unusedSimpArgs false

def emptyRow : List Int := List.replicate 6 (-1)
def emptyT : List (List Int) := List.replicate 8 emptyRow
/-- a table in new memory, returned -/
def OwnT (w0 : World) (ts : List (List Int)) (e : Ending) (w' : World) : Prop := ∃ A c, e = .returned (.agg #[.slice A ts.length c]) ∧ OwT w' w0.heap.size A ts.length c ts ∧ Below w0.heap.size w0 w'
theorem ownT_of {w0 w' : World} {ts : List (List Int)} {A : Option Addr} {m c : Nat} (hm : ts.length = m) (h : OwT w' w0.heap.size A m c ts) (hb : Below w0.heap.size w0 w') : OwnT w0 ts (.returned (.agg #[.slice A m c])) w' := by
  subst hm; exact ⟨A, c, rfl, h, hb⟩
theorem l7New_c (w : World) : Calls Try.prog 44 #[] w (OwnT w emptyT) := by
  have e1 : (w.alloc (.cells #[.slice none 0 0] 37)).heap.size = w.heap.size + 1 := by simp
  have K1 := (Blk.new w 37 #[.slice none 0 0]).alloc (.cells #[.slice none 0 0] 37)
  have K2 := Blk.new (w.alloc (.cells #[.slice none 0 0] 37)) 37 #[.slice none 0 0]
  rw [e1] at K2
  have b1 : Below w.heap.size w ((w.alloc (.cells #[.slice none 0 0] 37)).alloc (.cells #[.slice none 0 0] 37)) := ((Below.refl _ _).alloc (Nat.le_refl _) _).alloc (by simp) _
  have HK1 := Lib.hid K1
  have HK2 := Lib.hid K2
  have HB1 := Lib.hid b1
  clear e1 K1 K2 b1
  go_enter Try.func44, Try.ntmps44
  go_wp2
  generalize (w.alloc (.cells #[.slice none 0 0] 37)).alloc (.cells #[.slice none 0 0] 37) = w1 at *
  go_loopw [2] (fun i wr => ∃ (k : Nat) (A : Option Addr) (c : Nat), k ≤ 8 ∧ i = .int .i64 k ∧ OwT wr w.heap.size A k c (List.replicate k emptyRow) ∧ Blk wr w.heap.size 37 #[.slice none 0 0] ∧ Blk wr (w.heap.size + 1) 37 #[.slice A k c] ∧ Below w.heap.size w wr) (fun i _ => 8 - (intOf i).toNat)
  case atStart => exact ⟨0, none, 0, Nat.zero_le _, rfl, OwT.nil _ _, HK1.out, HK2.out, HB1.out⟩
  case round =>
    obtain ⟨k, A, c, hk, rfl, hown, k1, k2, hbel⟩ := hrel
    have HO := Lib.hid hown
    have HB := Lib.hid hbel
    have hsz := hbel.size
    have G1 := Lib.hid k1
    have G2 := Lib.hid k2
    by_cases hlt : k < 8
    · have hlit : (wr.alloc (.cells #[] 3)).ownsRow wr.heap.size 3 1 (.slice (some ⟨wr.heap.size, 0, none⟩) 0 0) 0 (([] : List Int).map (Value.int .i64)) := World.ownsRow_lit wr #[] 0 (Nat.le_refl _) (by decide) rfl
      have HL := Lib.hid hlit
      have hd : decide ((k : Int) < 8) = true := decide_eq_true (by omega)
      clear hlit hown hbel k1 k2
      obtain ⟨wo, rfl⟩ : ∃ wo : World, wo = wr := ⟨_, rfl⟩
      go_wp2
      go_loopw [3, 4] (fun v i ws => ∃ (j : Nat) (A : Option Addr) (c : Nat), j ≤ 6 ∧ i = .int .i64 j ∧ v = .slice A j c ∧ ws.ownsRow wo.heap.size 3 1 (.slice A j c) j ((List.replicate j (-1 : Int)).map (Value.int .i64)) ∧ Below wo.heap.size wo ws) (fun _ i _ => 6 - (intOf i).toNat)
      case atStart => exact ⟨0, _, _, Nat.zero_le _, rfl, rfl, HL.out, (Below.refl _ _).alloc (Nat.le_refl _) _⟩
      case round =>
        obtain ⟨j, A2, c2, hj, rfl, rfl, hrow, hb2⟩ := hrel
        have HR := Lib.hid hrow
        have HB2 := Lib.hid hb2
        have hs2 := hb2.size
        clear hrow hb2
        by_cases hl6 : j < 6
        · go_wp2_with (at_builtin; refine wpList_appI rfl rfl rfl HR.out rfl (by omega) hs2 ?_; rintro g3 c3 w3 o3 gr3 hg3)
          have HR3 := Lib.hid (show w3.ownsRow wo.heap.size 3 1 (.slice (some ⟨g3, 0, none⟩) (j + 1) c3) (j + 1) ((List.replicate (j + 1) (-1 : Int)).map (Value.int .i64)) from by rw [List.replicate_succ']; exact o3)
          have HB3 := Lib.hid (below_app HB2.out HR.out hs2 gr3)
          clear o3 gr3
          go_wp2
          go_roundw
          case rel => exact ⟨j + 1, _, _, by omega, by go_num, rfl, HR3.out, HB3.out⟩
          case measure => simp [intOf]; omega
        · obtain rfl : j = 6 := by omega
          have g2 := (G2.out.below HB2.out (G2.out.lt)).cell 0
          have z2 := (G2.out.below HB2.out (G2.out.lt)).frozen 0
          simp at g2
          have KA := G1.out.below HB2.out G1.out.lt
          have KB := G2.out.below HB2.out G2.out.lt
          have ka := Lib.hid KA
          have kb := Lib.hid KB
          clear KA KB
          go_wp2_with (at_builtin; refine wpList_appRow rfl rfl rfl HO.out HB2.out HR.out rfl (by omega) hsz ?_; rintro g3 c3 w3 o3 b3 t3 hg3; have k3 := Lib.hid (kb.out.typed t3 (by decide)); have h0 : w3.cell? ⟨w.heap.size + 1, 0, none⟩ = some (.slice A k c) := k3.out.cell 0; have y0 := k3.out.frozen 0)
          have k4 := ka.out.typed t3 (by decide)
          replace k3 := k3.out
          have HO3 := Lib.hid (show OwT (w3.setCell ⟨w.heap.size + 1, 0, none⟩ (.slice (some ⟨g3, 0, none⟩) (k + 1) c3)) w.heap.size (some ⟨g3, 0, none⟩) (k + 1) c3 (List.replicate (k + 1) emptyRow) from by
            rw [List.replicate_succ']
            exact o3.typed (ChgT.blk k3 0 _) (by decide) (by decide))
          have K3 := Lib.hid (k3.set_ 0 (.slice (some ⟨g3, 0, none⟩) (k + 1) c3))
          have K4 := Lib.hid (k4.far (p := ⟨w.heap.size + 1, 0, none⟩) (by show w.heap.size ≠ w.heap.size + 1; omega) (.slice (some ⟨g3, 0, none⟩) (k + 1) c3))
          have HB3 := Lib.hid ((HB.out.trans b3).setCell (p := ⟨w.heap.size + 1, 0, none⟩) (by show w.heap.size ≤ w.heap.size + 1; omega) (.slice (some ⟨g3, 0, none⟩) (k + 1) c3))
          clear k3 k4 o3 b3 t3 g2 z2
          go_roundw
          case rel => exact ⟨k + 1, _, _, by omega, by go_num, HO3.out, K4.out, K3.out, HB3.out⟩
          case measure => simp [intOf]; omega
    · obtain rfl : k = 8 := by omega
      have h0 := k2.cell 0
      have y0 := k2.frozen 0
      have q0 := k1.cell 0
      have r0 := k1.frozen 0
      simp at h0 q0
      have P := Lib.hid (k1.set_ 0 (.slice A 8 c))
      have HO3 := Lib.hid (hown.typed (ChgT.blk k1 0 (.slice A 8 c)) (by decide) (by decide))
      have HB3 := Lib.hid (hbel.setCell (p := ⟨w.heap.size, 0, none⟩) (Nat.le_refl _) (.slice A 8 c))
      clear k1 k2 hown hbel
      go_wp2
      generalize wr.setCell ⟨w.heap.size, 0, none⟩ (.slice A 8 c) = wz at *
      have p0 := P.out.cell 0
      simp at p0
      refine bodyPost_ret (by simp [results, Try.results44, go_sem, p0]; try rfl) rfl ?_
      exact ownT_of rfl HO3.out HB3.out
theorem makeTab8 : ∀ W : World, (Instr.makeSlice 35 (.int .i64 8) (.int .i64 8)).run Try.prog W = .ok (.slice (some ⟨W.heap.size, 0, none⟩) 8 8) (W.alloc (.cells (madeCells #[.slice none 0 0] 8) 76)) := fun W => makeTab 8 (by omega) W
theorem makeRow6 : ∀ W : World, (Instr.makeSlice 76 (.int .i64 6) (.int .i64 6)).run Try.prog W = .ok (.slice (some ⟨W.heap.size, 0, none⟩) 6 6) (W.alloc (.cells (cellsI [0, 0, 0, 0, 0, 0]) 3)) := fun W => make_ints 6 (by omega) W
theorem own_row6 (W : World) (base : Nat) (hb : base ≤ W.heap.size) : (W.alloc (.cells (cellsI [0, 0, 0, 0, 0, 0]) 3)).ownsRow base 3 1 (.slice (some ⟨W.heap.size, 0, none⟩) 6 6) 6 (([0, 0, 0, 0, 0, 0] : List Int).map (Value.int .i64)) := by
  have h : RowI (W.alloc (.cells (cellsI [0, 0, 0, 0, 0, 0]) 3)) W.heap.size [0, 0, 0, 0, 0, 0] := Blk.new _ _ _
  exact h.own hb (by unfold maxLen; simp)
set_option maxHeartbeats 1000000 in
theorem emptyTable_c (w : World) : Calls Try.prog 45 #[] w (OwnT w emptyT) := by
  have hmk8 := makeTab8
  have hmk6 := makeRow6
  have e1 : (w.alloc (.cells #[.slice none 0 0] 37)).heap.size = w.heap.size + 1 := by simp
  have hot := own_madeTab (w.alloc (.cells #[.slice none 0 0] 37)) w.heap.size 8 emptyT rfl (by simp) (by omega)
  rw [e1] at hot
  have e2 : ((w.alloc (.cells #[.slice none 0 0] 37)).alloc (.cells (madeCells #[.slice none 0 0] 8) 76)).heap.size = w.heap.size + 1 + 1 := by simp
  have K1 := ((Blk.new w 37 #[.slice none 0 0]).alloc (.cells (madeCells #[.slice none 0 0] 8) 76)).alloc (.cells #[.slice (some ⟨w.heap.size + 1, 0, none⟩) 8 8] 37)
  have K2 := Blk.new ((w.alloc (.cells #[.slice none 0 0] 37)).alloc (.cells (madeCells #[.slice none 0 0] 8) 76)) 37 #[.slice (some ⟨w.heap.size + 1, 0, none⟩) 8 8]
  rw [e2] at K2
  have hot2 := hot.below ((Below.refl _ _).alloc (Nat.le_refl _) (.cells #[.slice (some ⟨w.heap.size + 1, 0, none⟩) 8 8] 37))
  have b1 : Below w.heap.size w (((w.alloc (.cells #[.slice none 0 0] 37)).alloc (.cells (madeCells #[.slice none 0 0] 8) 76)).alloc (.cells #[.slice (some ⟨w.heap.size + 1, 0, none⟩) 8 8] 37)) := (((Below.refl _ _).alloc (Nat.le_refl _) _).alloc (by simp) _).alloc (by simp; omega) _
  have HK1 := Lib.hid K1
  have HK2 := Lib.hid K2
  have HB1 := Lib.hid b1
  have HOT := Lib.hid hot2
  have k2 := K2.cell 0
  simp at k2
  clear K1 K2 b1 hot hot2 e1 e2
  go_enter Try.func45, Try.ntmps45
  go_wp2
  generalize ((w.alloc (.cells #[.slice none 0 0] 37)).alloc (.cells (madeCells #[.slice none 0 0] 8) 76)).alloc (.cells #[.slice (some ⟨w.heap.size + 1, 0, none⟩) 8 8] 37) = w1 at *
  clear k2 hmk8
  go_loopw [9] (fun i wr => ∃ k : Nat, k ≤ 8 ∧ i = .int .i64 k ∧ OwT wr w.heap.size (some ⟨w.heap.size + 1, 0, none⟩) 8 8 (fillTo [] emptyT k) ∧ Blk wr w.heap.size 37 #[.slice none 0 0] ∧ Blk wr (w.heap.size + 1 + 1) 37 #[.slice (some ⟨w.heap.size + 1, 0, none⟩) 8 8] ∧ Below w.heap.size w wr) (fun i _ => 8 - (intOf i).toNat)
  case atStart => exact ⟨0, Nat.zero_le _, rfl, HOT.out, HK1.out, HK2.out, HB1.out⟩
  case round =>
    obtain ⟨k, hk, rfl, hown, k1, k2, hbel⟩ := hrel
    have HO := Lib.hid hown
    have HB := Lib.hid hbel
    have hsz := hbel.size
    have G1 := Lib.hid k1
    have G2 := Lib.hid k2
    by_cases hlt : k < 8
    · have hd : decide ((k : Int) < 8) = true := decide_eq_true (by omega)
      have hlt8 : (k : Int) < 8 := by omega
      obtain ⟨A3, n3, c3, f1, z1, q1, q2, q3, _⟩ := hown.cells k hlt
      have t0 := k2.cell 0
      simp at t0
      have l0 := k2.lt
      have l1 : w.heap.size + 1 < wr.heap.size := by omega
      clear hown hbel k1 k2 q3
      obtain ⟨wo, rfl⟩ : ∃ wo : World, wo = wr := ⟨_, rfl⟩
      have o5 := HO.out.setList ((Below.refl _ _).alloc (Nat.le_refl _) (.cells (cellsI [0, 0, 0, 0, 0, 0]) 3)) (own_row6 wo wo.heap.size (Nat.le_refl _)) hsz hlt
      rw [World.setCell_alloc_past _ _ _ _ l1] at o5
      have O5 := Lib.hid (o5.below ((Below.refl _ _).drew))
      have B5 := Lib.hid (((HB.out.setCell (p := ⟨w.heap.size + 1, k, none⟩) (by show w.heap.size ≤ w.heap.size + 1; omega) (.slice (some ⟨wo.heap.size, 0, none⟩) 6 6)).alloc (by simp; omega) (.cells (cellsI [0, 0, 0, 0, 0, 0]) 3)).drew)
      have k5 := Lib.hid (((G1.out.far (p := ⟨w.heap.size + 1, k, none⟩) (by show w.heap.size ≠ w.heap.size + 1; omega) (.slice (some ⟨wo.heap.size, 0, none⟩) 6 6)).alloc (.cells (cellsI [0, 0, 0, 0, 0, 0]) 3)).drew)
      have k6 := Lib.hid (((G2.out.far (p := ⟨w.heap.size + 1, k, none⟩) (by show w.heap.size + 1 + 1 ≠ w.heap.size + 1; omega) (.slice (some ⟨wo.heap.size, 0, none⟩) 6 6)).alloc (.cells (cellsI [0, 0, 0, 0, 0, 0]) 3)).drew)
      have h5 : (((wo.setCell ⟨w.heap.size + 1, k, none⟩ (.slice (some ⟨wo.heap.size, 0, none⟩) 6 6)).alloc (.cells (cellsI [0, 0, 0, 0, 0, 0]) 3)).drew).cell? ⟨w.heap.size + 1, k, none⟩ = some (.slice (some ⟨wo.heap.size, 0, none⟩) 6 6) := by
        show ((wo.setCell ⟨w.heap.size + 1, k, none⟩ (.slice (some ⟨wo.heap.size, 0, none⟩) 6 6)).alloc _).cell? _ = _
        rw [World.cell?_of_block (Below.heap_alloc _ _ _ (by simpa using l1))]
        exact World.cell?_setCell_same _ _ _ f1
      have H5 := Lib.hid h5
      clear o5 h5
      go_wp2
      go_region
      have h5 := H5.out
      clear H5
      generalize ((wo.setCell ⟨w.heap.size + 1, k, none⟩ (.slice (some ⟨wo.heap.size, 0, none⟩) 6 6)).alloc (.cells (cellsI [0, 0, 0, 0, 0, 0]) 3)).drew = w5 at *
      have H5 := Lib.hid h5
      have u0 := k6.out.cell 0
      simp at u0
      clear f1 z1 t0
      obtain ⟨gr, hgr⟩ : ∃ gr, gr = wo.heap.size := ⟨_, rfl⟩
      rw [← hgr] at h5 H5
      have hgr1 : w.heap.size + 1 + 1 < gr := by omega
      rw [← hgr]
      have HGR := Lib.hid hgr
      clear hgr
      go_wp2
      clear u0 h5
      go_loopw [23] (fun i ws => ∃ j : Nat, j ≤ 6 ∧ i = .int .i64 j ∧ OwT ws w.heap.size (some ⟨w.heap.size + 1, 0, none⟩) 8 8 ((fillTo [] emptyT k).set k (repTo emptyRow [0, 0, 0, 0, 0, 0] j)) ∧ ws.cell? ⟨w.heap.size + 1, k, none⟩ = some (.slice (some ⟨gr, 0, none⟩) 6 6) ∧ Blk ws w.heap.size 37 #[.slice none 0 0] ∧ Blk ws (w.heap.size + 1 + 1) 37 #[.slice (some ⟨w.heap.size + 1, 0, none⟩) 8 8] ∧ Below w.heap.size w ws) (fun i _ => 6 - (intOf i).toNat)
      case atStart => exact ⟨0, Nat.zero_le _, rfl, O5.out, H5.out, k5.out, k6.out, B5.out⟩
      case round =>
        obtain ⟨j, hj, rfl, ho, hh, m1, m2, hb⟩ := hrel
        by_cases hl6 : j < 6
        · obtain ⟨A4, n4, c4, f4, z4, _, _, q4, r4⟩ := ho.cells k hlt
          rw [hh] at f4
          injection f4 with f4
          injection f4 with f4 f5 f6
          subst f4
          subst f5
          subst f6
          have hlen : (fillTo [] emptyT k).length = 8 := by rw [fillTo_len _ _ (by show k ≤ 8; omega)]; rfl
          have hgs : ((fillTo [] emptyT k).set k (repTo emptyRow [0, 0, 0, 0, 0, 0] j)).getD k [] = repTo emptyRow [0, 0, 0, 0, 0, 0] j := getD_setG _ _ _ _ (by omega)
          rw [hgs] at r4 q4
          have cj := r4.cellAt (g := gr) (cap := 6) j (by omega)
          have zj := r4.frozenAt (g := gr) (cap := 6) j
          rw [map_getElem? _ _ (by rw [← q4]; exact hl6)] at cj
          have st := r4.stored (g := gr) (cap := 6) j (.int .i64 (-1))
          have hre : (repTo emptyRow [0, 0, 0, 0, 0, 0] j).set j (-1) = repTo emptyRow [0, 0, 0, 0, 0, 0] (j + 1) := by
            have := repTo_set 0 (m := emptyRow) (xs := [0, 0, 0, 0, 0, 0]) (j := j) rfl hl6
            rw [show emptyRow.getD j 0 = -1 from by unfold emptyRow; rw [List.getD_eq_getElem?_getD, List.getElem?_replicate, if_pos hl6]; rfl] at this
            exact this
          have hst := st.1
          rw [← List.map_set, hre] at hst
          have ot := ho.turn (xs := repTo emptyRow [0, 0, 0, 0, 0, 0] (j + 1)) hlt hh st.2 hst (by rw [hgs]; exact q4)
          rw [List.set_set] at ot
          have OT := Lib.hid ot
          have HH := Lib.hid (show (wr.setCell ⟨gr, j, none⟩ (.int .i64 (-1))).cell? ⟨w.heap.size + 1, k, none⟩ = some (.slice (some ⟨gr, 0, none⟩) 6 6) from (World.cell?_setCell_other _ _ _ _ (fun e => by injection e with e; omega)).trans hh)
          have N1 := Lib.hid (m1.far (p := ⟨gr, j, none⟩) (by show w.heap.size ≠ gr; omega) (.int .i64 (-1)))
          have N2 := Lib.hid (m2.far (p := ⟨gr, j, none⟩) (by show w.heap.size + 1 + 1 ≠ gr; omega) (.int .i64 (-1)))
          have NB := Lib.hid (hb.setCell (p := ⟨gr, j, none⟩) (by show w.heap.size ≤ gr; omega) (.int .i64 (-1)))
          have u2 := m2.cell 0
          simp at u2
          generalize (repTo emptyRow [0, 0, 0, 0, 0, 0] j).getD j 0 = q at *
          clear ho hb m1 m2 r4 st hst ot hre hgs q4 z4 hlen
          go_wp2
          go_roundw
          case rel => exact ⟨j + 1, by omega, by go_num, OT.out, HH.out, N1.out, N2.out, NB.out⟩
          case measure => simp [intOf]; omega
        · obtain rfl : j = 6 := by omega
          have e6 : repTo emptyRow [0, 0, 0, 0, 0, 0] 6 = emptyRow := rfl
          rw [e6] at ho
          have hfs := fillTo_set [] emptyT (k := k) (by show k < 8; exact hlt)
          rw [show emptyT.getD k [] = emptyRow from by unfold emptyT; rw [List.getD_eq_getElem?_getD, List.getElem?_replicate, if_pos hlt]; rfl] at hfs
          rw [hfs] at ho
          clear hh hfs e6
          go_wp2
          go_roundw
          case rel => exact ⟨k + 1, by omega, by go_num, ho, m1, m2, hb⟩
          case measure => simp [intOf]; omega
    · obtain rfl : k = 8 := by omega
      have how : OwT wr w.heap.size (some ⟨w.heap.size + 1, 0, none⟩) 8 8 emptyT := by have := fillTo_all [] emptyT; rw [show emptyT.length = 8 from rfl] at this; rw [this] at hown; exact hown
      have h0 := k2.cell 0
      have y0 := k2.frozen 0
      have q0 := k1.cell 0
      have r0 := k1.frozen 0
      simp at h0 q0
      have P := Lib.hid (k1.set_ 0 (.slice (some ⟨w.heap.size + 1, 0, none⟩) 8 8))
      have HO3 := Lib.hid (how.typed (ChgT.blk k1 0 (.slice (some ⟨w.heap.size + 1, 0, none⟩) 8 8)) (by decide) (by decide))
      have HB3 := Lib.hid (hbel.setCell (p := ⟨w.heap.size, 0, none⟩) (Nat.le_refl _) (.slice (some ⟨w.heap.size + 1, 0, none⟩) 8 8))
      clear k1 k2 hown hbel how
      go_wp2
      generalize wr.setCell ⟨w.heap.size, 0, none⟩ (.slice (some ⟨w.heap.size + 1, 0, none⟩) 8 8) = wz at *
      have p0 := P.out.cell 0
      simp at p0
      refine bodyPost_ret (by simp [results, Try.results45, go_sem, p0]; try rfl) rfl ?_
      exact ownT_of rfl HO3.out HB3.out
end Go.Proofs.Ytjnpgdhpneifjaa
