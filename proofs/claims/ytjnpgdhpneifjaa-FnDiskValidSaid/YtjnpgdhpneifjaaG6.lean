/- Parts of the proof, one after the other; each says what it proves. -/
import Derived.Test.YtjnpgdhpneifjaaG5
import Derived.Test.YtjnpgdhpneifjaaG3
import Derived.Test.YtjnpgdhpneifjaaG2
/- Devices of the call's own: how they are owned and read; the laws' helpers on pages and blocks (size, copy, compare). Conditions: lengths of at most 2^20. -/
namespace Go.Proofs.Ytjnpgdhpneifjaa
open Go.ChangeShapes Go.WideShapes Go.ChangeAt Go.RowKit Go.Deep
set_option linter.unusedVariables false
set_option linter.unusedSimpArgs false

theorem RdG.drew {w B A n xs} (h : RdG w B A n xs) : RdG w.drew B A n xs := ⟨h.len, h.at_⟩
theorem RdG.drewN {w B A n xs} (h : RdG w B A n xs) (m : Nat) : RdG (w.drewN m) B A n xs := ⟨h.len, h.at_⟩
theorem RdB.drew {w B A n xs} (h : RdB w B A n xs) : RdB w.drew B A n xs := h.below ((Below.refl B w).drew)
theorem RdB.drewN {w B A n xs} (h : RdB w B A n xs) (m : Nat) : RdB (w.drewN m) B A n xs := h.below (below_drewN (Below.refl B w) m)
/-! ### elements of k cells -/
theorem flatM_len {α : Type} (f : α → List Value) {k : Nat} (hk : ∀ x, (f x).length = k) (xs : List α) : (xs.flatMap f).length = xs.length * k := by
  induction xs with
  | nil => simp
  | cons x xs ih => rw [List.flatMap_cons, List.length_append, ih, hk, List.length_cons, Nat.add_mul]; omega
theorem flatM_get {α : Type} (f : α → List Value) {k : Nat} (hk : ∀ x, (f x).length = k) (d : α) (xs : List α) (i j : Nat) (hi : i < xs.length) (hj : j < k) : (xs.flatMap f)[i * k + j]? = (f (xs.getD i d))[j]? := by
  induction xs generalizing i with
  | nil => simp at hi
  | cons x xs ih =>
    rw [List.flatMap_cons]
    cases i with
    | zero => rw [List.getElem?_append_left (by rw [hk]; omega)]; simp
    | succ i =>
      rw [List.getElem?_append_right (by rw [hk, Nat.add_mul]; omega), hk]
      have e : (i + 1) * k + j - k = i * k + j := by rw [Nat.add_mul]; omega
      rw [e, ih i (by simpa using hi)]
      simp
theorem flatM_set {α : Type} (f : α → List Value) {k : Nat} (hk : ∀ x, (f x).length = k) (d : α) (xs : List α) (i j : Nat) (hi : i < xs.length) (hj : j < k) (u : Value) (y : α) (hy : f y = (f (xs.getD i d)).set j u) : (xs.flatMap f).set (i * k + j) u = (xs.set i y).flatMap f := by
  induction xs generalizing i with
  | nil => simp at hi
  | cons x xs ih =>
    cases i with
    | zero =>
      rw [List.flatMap_cons, List.set_cons_zero, List.flatMap_cons, List.set_append_left _ _ (by rw [hk]; omega), hy]
      simp
    | succ i =>
      have e : (i + 1) * k + j - k = i * k + j := by rw [Nat.add_mul]; omega
      rw [List.flatMap_cons, List.set_append_right _ _ (by rw [hk, Nat.add_mul]; omega), hk, e, ih i (by simpa using hi) (by simpa using hy), List.set_cons_succ, List.flatMap_cons]

/-! ### pages -/
def pgc (p : PageV) : List Value := [.bool p.full, .int .i64 p.file, .int .i64 p.place, .int .i64 p.value, .int .i64 p.stamp]
theorem pgc_len (p : PageV) : (pgc p).length = 5 := rfl
def flatG (ps : List PageV) : List Value := ps.flatMap pgc
theorem flatG_len (ps : List PageV) : (flatG ps).length = ps.length * 5 := flatM_len pgc pgc_len ps
theorem flatG_append (ps qs : List PageV) : flatG (ps ++ qs) = flatG ps ++ flatG qs := by simp [flatG]
theorem flatG_one (p : PageV) : flatG [p] = pgc p := by simp [flatG]
theorem flatG_one_cell (ps : List PageV) : ∀ u ∈ flatG ps, u.oneCell' = true := by
  intro u hu
  simp only [flatG, List.mem_flatMap, pgc] at hu
  obtain ⟨p, _, hp⟩ := hu
  simp at hp
  rcases hp with rfl | rfl | rfl | rfl | rfl <;> rfl
/-- the cells of page i -/
theorem own_pageCells {w : World} {base g n c : Nat} {ps : List PageV} (h : w.ownsRow base 102 5 (.slice (some ⟨g, 0, none⟩) n c) n (flatG ps)) (i : Nat) (hi : i < n) :
    w.cell? ⟨g, i * 5, none⟩ = some (.bool (ps.getD i noPage).full) ∧ w.cell? ⟨g, i * 5 + 1, none⟩ = some (.int .i64 (ps.getD i noPage).file) ∧ w.cell? ⟨g, i * 5 + 2, none⟩ = some (.int .i64 (ps.getD i noPage).place) ∧
    w.cell? ⟨g, i * 5 + 3, none⟩ = some (.int .i64 (ps.getD i noPage).value) ∧ w.cell? ⟨g, i * 5 + 4, none⟩ = some (.int .i64 (ps.getD i noPage).stamp) := by
  have hl : ps.length = n := by have := h.1; rw [flatG_len] at this; omega
  have key : ∀ j, j < 5 → w.cell? ⟨g, i * 5 + j, none⟩ = (pgc (ps.getD i noPage))[j]? := fun j hj => by
    rw [h.cellAt (g := g) (cap := c) (i * 5 + j) (by omega)]
    exact flatM_get pgc pgc_len noPage ps i j (by omega) hj
  exact ⟨key 0 (by omega), key 1 (by omega), key 2 (by omega), key 3 (by omega), key 4 (by omega)⟩
theorem own_pagesLen {w : World} {base n : Nat} {v : Value} {ps : List PageV} (h : w.ownsRow base 102 5 v n (flatG ps)) : ps.length = n := by
  have := h.1; rw [flatG_len] at this; omega
theorem rdoG {w : World} {base n c : Nat} {A : Option Addr} {ps : List PageV} (h : w.ownsRow base 102 5 (.slice A n c) n (flatG ps)) : RdG w w.heap.size A n ps := by
  refine ⟨own_pagesLen h, fun hn => ?_⟩
  obtain ⟨g, cap, e, hg1, hg2⟩ := h.form hn
  injection e with e1 e2 e3
  subst e1
  refine ⟨g, 0, rfl, hg2, fun i hi => ?_⟩
  have := own_pageCells h i hi
  simpa using this
/-- a page of an owned row is stored anew, cell by cell -/
def putPage (w : World) (g i : Nat) (p : PageV) : World :=
  ((((w.setCell ⟨g, i * 5, none⟩ (.bool p.full)).setCell ⟨g, i * 5 + 1, none⟩ (.int .i64 p.file)).setCell ⟨g, i * 5 + 2, none⟩ (.int .i64 p.place)).setCell ⟨g, i * 5 + 3, none⟩ (.int .i64 p.value)).setCell ⟨g, i * 5 + 4, none⟩ (.int .i64 p.stamp)
theorem own_putPage {w : World} {base g n c : Nat} {ps : List PageV} (h : w.ownsRow base 102 5 (.slice (some ⟨g, 0, none⟩) n c) n (flatG ps)) (i : Nat) (hi : i < n) (p : PageV) :
    (putPage w g i p).ownsRow base 102 5 (.slice (some ⟨g, 0, none⟩) n c) n (flatG (ps.set i p)) ∧ w.grownBy (putPage w g i p) (some g) := by
  have hl := own_pagesLen h
  obtain ⟨f, x, y, z, s⟩ := p
  have s0 := h.stored (g := g) (cap := c) (i * 5 + 0) (.bool f)
  obtain ⟨P, hP⟩ : ∃ P, ps.getD i noPage = P := ⟨_, rfl⟩
  have f0 := flatM_set pgc pgc_len noPage ps i 0 (by omega) (by omega) (.bool f) ⟨f, P.file, P.place, P.value, P.stamp⟩ (by rw [hP]; rfl)
  have g0 : ∀ Q : PageV, (ps.set i Q).getD i noPage = Q := fun Q => by rw [List.getD_eq_getElem?_getD, List.getElem?_set_self (by omega)]; rfl
  have l0 : ∀ Q : PageV, (ps.set i Q).length = n := fun Q => by simpa using hl
  have f1 := flatM_set pgc pgc_len noPage (ps.set i ⟨f, P.file, P.place, P.value, P.stamp⟩) i 1 (by rw [l0]; omega) (by omega) (.int .i64 x) ⟨f, x, P.place, P.value, P.stamp⟩ (by rw [g0]; rfl)
  have f2 := flatM_set pgc pgc_len noPage (ps.set i ⟨f, x, P.place, P.value, P.stamp⟩) i 2 (by rw [l0]; omega) (by omega) (.int .i64 y) ⟨f, x, y, P.value, P.stamp⟩ (by rw [g0]; rfl)
  have f3 := flatM_set pgc pgc_len noPage (ps.set i ⟨f, x, y, P.value, P.stamp⟩) i 3 (by rw [l0]; omega) (by omega) (.int .i64 z) ⟨f, x, y, z, P.stamp⟩ (by rw [g0]; rfl)
  have f4 := flatM_set pgc pgc_len noPage (ps.set i ⟨f, x, y, z, P.stamp⟩) i 4 (by rw [l0]; omega) (by omega) (.int .i64 s) ⟨f, x, y, z, s⟩ (by rw [g0]; rfl)
  rw [List.set_set] at f1 f2 f3 f4
  obtain ⟨o0, q0⟩ := s0
  rw [show (flatG ps).set (i * 5 + 0) (.bool f) = _ from f0] at o0
  obtain ⟨o1, q1⟩ := o0.stored (g := g) (cap := c) (i * 5 + 1) (.int .i64 x)
  rw [f1] at o1
  obtain ⟨o2, q2⟩ := o1.stored (g := g) (cap := c) (i * 5 + 2) (.int .i64 y)
  rw [f2] at o2
  obtain ⟨o3, q3⟩ := o2.stored (g := g) (cap := c) (i * 5 + 3) (.int .i64 z)
  rw [f3] at o3
  obtain ⟨o4, q4⟩ := o3.stored (g := g) (cap := c) (i * 5 + 4) (.int .i64 s)
  rw [f4] at o4
  exact ⟨o4, gb_trans (gb_trans (gb_trans (gb_trans q0 q1) q2) q3) q4⟩

/-! ### devices -/
def elB (b : BlockV) : El := ⟨[.int .i64 b.wear], b.pages.length, flatG b.pages⟩
/-- a device of the call's own, from block number base on -/
def OwB (w : World) (base : Nat) (A : Option Addr) (n c : Nat) (bs : List BlockV) : Prop := ∃ hs, Own2 w base 67 1 102 5 (.slice A n c) n (bs.map elB) hs
theorem elB_getD (bs : List BlockV) (i : Nat) (h : i < bs.length) : (bs.map elB).getD i nilEl = elB (bs.getD i noBlock) := by
  rw [List.getD_eq_getElem?_getD, List.getElem?_map, List.getElem?_eq_getElem h, List.getD_eq_getElem?_getD, List.getElem?_eq_getElem h]; rfl
theorem OwB.len {w base A n c bs} (h : OwB w base A n c bs) : bs.length = n := by obtain ⟨hs, h⟩ := h; have := h.nl; simpa using this
theorem OwB.below {w w' base A n c bs} (h : OwB w base A n c bs) (hb : Below w.heap.size w w') : OwB w' base A n c bs := by obtain ⟨hs, h⟩ := h; exact ⟨hs, h.below hb⟩
theorem OwB.lower {w base base' A n c bs} (h : OwB w base A n c bs) (hb : base' ≤ base) : OwB w base' A n c bs := by obtain ⟨hs, h⟩ := h; exact ⟨hs, h.lower hb⟩
theorem OwB.typed {ts : List Nat} {w w' base A n c bs} (h : OwB w base A n c bs) (hc : ChgT ts w w') (h1 : 67 ∉ ts) (h2 : 102 ∉ ts) : OwB w' base A n c bs := by obtain ⟨hs, h⟩ := h; exact ⟨hs, h.typed hc h1 h2⟩
theorem OwB.cap {w base A n c bs} (h : OwB w base A n c bs) : n ≤ c ∧ c ≤ 9223372036854775807 := by obtain ⟨hs, h⟩ := h; exact own_cap h.main
theorem OwB.nil (w : World) (base : Nat) : OwB w base none 0 0 [] := ⟨[], Own2.nil w base _ _ _ _⟩
/-- what the cells of block i hold -/
theorem Own2.blockCells {w : World} {base g n c : Nat} {bs : List BlockV} {hs : List Value} (h : Own2 w base 67 1 102 5 (.slice (some ⟨g, 0, none⟩) n c) n (bs.map elB) hs) (i : Nat) (hi : i < n) :
    w.cell? ⟨g, i * 2, none⟩ = some (.int .i64 (bs.getD i noBlock).wear) ∧ w.cell? ⟨g, i * 2 + 1, none⟩ = some (hs.getD i nilV) ∧ w.ownsRow base 102 5 (hs.getD i nilV) (bs.getD i noBlock).pages.length (flatG (bs.getD i noBlock).pages) := by
  have hl : bs.length = n := by have := h.nl; simpa using this
  have hq : ∀ j, j < (bs.map elB).length → ((bs.map elB).getD j nilEl).pre.length = 1 := fun j hj => h.pre j (by rw [← h.nl]; exact hj)
  have hi' : i < (bs.map elB).length := by rw [h.nl]; exact hi
  have h0 := flat2_pre (es := bs.map elB) (hs := hs) (by rw [h.hl, h.nl]) hq (i := i) (j := 0) hi' (by omega)
  have h1 := flat2_head (es := bs.map elB) (hs := hs) (by rw [h.hl, h.nl]) hq (i := i) hi'
  have c0 := (h.main.cellAt (g := g) (cap := c) (i * (1 + 1) + 0) (by omega)).trans h0
  have c1 := (h.main.cellAt (g := g) (cap := c) (i * (1 + 1) + 1) (by omega)).trans h1
  have r := h.row i hi
  rw [elB_getD bs i (by omega)] at c0 r
  exact ⟨c0, c1, r⟩
theorem OwB.rd {w base A n c bs} (h : OwB w base A n c bs) : RdB w w.heap.size A n bs := by
  have hl := h.len
  obtain ⟨hs, h⟩ := h
  refine ⟨hl, fun hn => ?_⟩
  obtain ⟨g, cap, e, hg1, hg2⟩ := h.main.form hn
  injection e with e1 e2 e3
  subst e1
  refine ⟨g, 0, rfl, hg2, fun i hi => ?_⟩
  obtain ⟨c0, c1, r⟩ := h.blockCells i hi
  obtain ⟨A', c', e', hnc, hcm, _⟩ := h.lits i hi
  rw [elB_getD bs i (by omega)] at e' hnc
  rw [e'] at c1 r
  refine ⟨A', (bs.getD i noBlock).pages.length, c', by rw [Nat.zero_add]; exact c0, by rw [Nat.zero_add]; exact c1, hnc, by unfold maxLen at hcm; omega, ?_⟩
  exact rdoG r
theorem infoPage : (Try.prog.info? 102).map (fun i => (i.zero, i.size, i.bytes)) = some (some (.agg #[.bool false, .int .i64 0, .int .i64 0, .int .i64 0, .int .i64 0]), 5, 40) := by kernel_rfl
theorem infoBlock : (Try.prog.info? 67).map (fun i => (i.zero, i.size, i.bytes)) = some (some (.agg #[.int .i64 0, .slice none 0 0]), 2, 32) := by kernel_rfl
theorem makePage (n : Nat) (hn : n ≤ 1048576) (W : World) : (Instr.makeSlice 65 (.int .i64 (n : Int)) (.int .i64 (n : Int))).run Try.prog W = .ok (.slice (some ⟨W.heap.size, 0, none⟩) n n) (W.alloc (.cells (madeCells #[.bool false, .int .i64 0, .int .i64 0, .int .i64 0, .int .i64 0] (n * 5)) 102)) := by
  obtain ⟨i0, hi, hz0, hz1, hz2⟩ := info_parts infoPage
  have := run_make (P := Try.prog) W 65 102 i0 _ Try.underlying65 hi hz0 .i64 .i64 n n (by omega) (by omega) (by rw [hz2]; omega) (by omega)
  rw [this, hz1]
  simp only [Int.toNat_natCast]
  rfl
theorem makeBlock (n : Nat) (hn : n ≤ 1048576) (W : World) : (Instr.makeSlice 25 (.int .i64 (n : Int)) (.int .i64 (n : Int))).run Try.prog W = .ok (.slice (some ⟨W.heap.size, 0, none⟩) n n) (W.alloc (.cells (madeCells #[.int .i64 0, .slice none 0 0] (n * 2)) 67)) := by
  obtain ⟨i0, hi, hz0, hz1, hz2⟩ := info_parts infoBlock
  have := run_make (P := Try.prog) W 25 67 i0 _ Try.underlying25 hi hz0 .i64 .i64 n n (by omega) (by omega) (by rw [hz2]; omega) (by omega)
  rw [this, hz1]
  simp only [Int.toNat_natCast]
  rfl
theorem madeCells_list (z : Array Value) {k : Nat} (hk : z.size = k) (hk0 : 0 < k) (n : Nat) : (madeCells z (n * k)).toList = (List.replicate n z.toList).flatten := by
  have hf : ∀ m, (madeCells z m).toList = (List.range m).map (fun i => z[i % z.size]!) := fun m => by simp [madeCells]
  rw [hf]
  induction n with
  | zero => simp
  | succ n ih =>
    rw [Nat.succ_mul, List.range_add, List.map_append, ih, List.replicate_succ', List.flatten_append, List.map_map]
    congr 1
    apply List.ext_getElem?
    intro i
    simp only [List.flatten_cons, List.flatten_nil, List.append_nil, List.getElem?_map]
    rcases Nat.lt_or_ge i k with h | h
    · have hm : (n * k + i) % z.size = i := by rw [hk, Nat.mul_comm, Nat.mul_add_mod, Nat.mod_eq_of_lt h]
      rw [List.getElem?_range h, Array.getElem?_toList]
      simp only [Option.map_some, Function.comp_apply, hm]
      rw [getElem!_pos z i (by omega), Array.getElem?_eq_getElem (by omega)]
    · rw [List.getElem?_eq_none (by simpa using h), List.getElem?_eq_none (by simpa [hk] using h)]
      rfl
/-! ### a list that is filled from its head on -/
def fillTo {α : Type} (d : α) (xs : List α) (k : Nat) : List α := xs.take k ++ List.replicate (xs.length - k) d
theorem fillTo_zero {α : Type} (d : α) (xs : List α) : fillTo d xs 0 = List.replicate xs.length d := by simp [fillTo]
theorem fillTo_all {α : Type} (d : α) (xs : List α) : fillTo d xs xs.length = xs := by simp [fillTo]
theorem fillTo_len {α : Type} (d : α) (xs : List α) {k : Nat} (h : k ≤ xs.length) : (fillTo d xs k).length = xs.length := by simp [fillTo]; omega
theorem fillTo_set {α : Type} (d : α) (xs : List α) {k : Nat} (h : k < xs.length) : (fillTo d xs k).set k (xs.getD k d) = fillTo d xs (k + 1) := by
  have hl : (xs.take k).length = k := by simp; omega
  unfold fillTo
  rw [List.set_append_right _ _ (by omega), hl, Nat.sub_self]
  obtain ⟨m, hm⟩ : ∃ m, xs.length - k = m + 1 := ⟨xs.length - k - 1, by omega⟩
  have hm' : xs.length - (k + 1) = m := by omega
  rw [hm, hm', List.replicate_succ, List.set_cons_zero, List.take_succ_eq_append_getElem h, List.append_assoc, List.getD_eq_getElem?_getD, List.getElem?_eq_getElem h]
  rfl
theorem fillTo_get {α : Type} (d : α) (xs : List α) {k i : Nat} (h : k ≤ i) : (fillTo d xs k).getD i d = d := by
  unfold fillTo
  rw [List.getD_eq_getElem?_getD]
  rcases Nat.lt_or_ge i (xs.take k).length with h1 | h1
  · simp at h1; omega
  · rw [List.getElem?_append_right h1, List.getElem?_replicate]
    split <;> rfl
/-- the first j are those of m -/
def repTo {α : Type} (m xs : List α) (j : Nat) : List α := m.take j ++ xs.drop j
theorem repTo_zero {α : Type} (m xs : List α) : repTo m xs 0 = xs := by simp [repTo]
theorem repTo_all {α : Type} {m xs : List α} (h : m.length = xs.length) : repTo m xs xs.length = m := by simp [repTo, ← h]
theorem repTo_len {α : Type} {m xs : List α} {j : Nat} (h : m.length = xs.length) (hj : j ≤ xs.length) : (repTo m xs j).length = xs.length := by simp [repTo]; omega
theorem repTo_get {α : Type} (d : α) {m xs : List α} {j i : Nat} (h : m.length = xs.length) (hj : j ≤ i) (hx : j ≤ xs.length) : (repTo m xs j).getD i d = xs.getD i d := by
  unfold repTo
  rw [List.getD_eq_getElem?_getD, List.getElem?_append_right (by simp; omega), List.getElem?_drop, List.getD_eq_getElem?_getD]
  simp only [List.length_take]
  congr 2
  omega
theorem repTo_set {α : Type} (d : α) {m xs : List α} {j : Nat} (h : m.length = xs.length) (hj : j < xs.length) : (repTo m xs j).set j (m.getD j d) = repTo m xs (j + 1) := by
  have hl : (m.take j).length = j := by simp; omega
  unfold repTo
  rw [List.set_append_right _ _ (by omega), hl, Nat.sub_self, List.drop_eq_getElem_cons hj, List.set_cons_zero, List.take_succ_eq_append_getElem (by omega), List.append_assoc, List.getD_eq_getElem?_getD, List.getElem?_eq_getElem (by omega)]
  rfl
theorem getD_mapRange {α : Type} (d : α) (f : Nat → α) {n i : Nat} (h : i < n) : ((List.range n).map f).getD i d = f i := by
  simp [List.getD_eq_getElem?_getD, h]

theorem set_getD_self {α : Type} (d : α) (l : List α) {k : Nat} (h : k < l.length) : l.set k (l.getD k d) = l := by
  rw [List.getD_eq_getElem?_getD, List.getElem?_eq_getElem h]
  exact List.set_getElem_self h
/-- the rows just made -/
theorem own_madePages (w : World) (base n : Nat) (ps : List PageV) (hn : ps.length = n) (hb : base ≤ w.heap.size) (hm : n ≤ 1048576) : (w.alloc (.cells (madeCells #[.bool false, .int .i64 0, .int .i64 0, .int .i64 0, .int .i64 0] (n * 5)) 102)).ownsRow base 102 5 (.slice (some ⟨w.heap.size, 0, none⟩) n n) n (flatG (fillTo noPage ps 0)) := by
  have h := World.ownsRow_lit (base := base) (e := 102) (size := 5) w (madeCells #[.bool false, .int .i64 0, .int .i64 0, .int .i64 0, .int .i64 0] (n * 5)) n hb (by unfold maxLen; omega) (by rw [size_madeCells])
  rw [madeCells_list _ (k := 5) rfl (by omega)] at h
  rw [fillTo_zero, hn]
  have e : flatG (List.replicate n noPage) = (List.replicate n (#[Value.bool false, .int .i64 0, .int .i64 0, .int .i64 0, .int .i64 0] : Array Value).toList).flatten := by
    unfold flatG
    rw [List.flatMap_def, List.map_replicate]
    rfl
  rw [e]
  exact h
theorem own_madeBlocks (w : World) (base n : Nat) (bs : List BlockV) (hn : bs.length = n) (hb : base ≤ w.heap.size) (hm : n ≤ 1048576) : OwB (w.alloc (.cells (madeCells #[.int .i64 0, .slice none 0 0] (n * 2)) 67)) base (some ⟨w.heap.size, 0, none⟩) n n (fillTo noBlock bs 0) := by
  rw [fillTo_zero, hn]
  refine ⟨List.replicate n nilV, ?_⟩
  rw [List.map_replicate]
  exact Own2.made (zs := [.int .i64 0]) w _ rfl (by rw [madeCells_list _ (k := 2) rfl (by omega)]; rfl) hb (by unfold maxLen; omega)
/-- a block of an owned device is stored anew -/
theorem OwB.setBlock {w w1 : World} {base g n c : Nat} {A' : Option Addr} {n' c' : Nat} {bs : List BlockV} {we : Int} {ps : List PageV} (h : OwB w base (some ⟨g, 0, none⟩) n c bs) (hb : Below w.heap.size w w1) (hr : w1.ownsRow w.heap.size 102 5 (.slice A' n' c') n' (flatG ps)) (hbase : base ≤ w.heap.size) {i : Nat} (hi : i < n) :
    OwB ((w1.setCell ⟨g, i * 2, none⟩ (.int .i64 we)).setCell ⟨g, i * 2 + 1, none⟩ (.slice A' n' c')) base (some ⟨g, 0, none⟩) n c (bs.set i ⟨we, ps⟩) := by
  obtain ⟨hs, h⟩ := h
  have hpl := own_pagesLen hr
  have := h.setEl1 (u := .int .i64 we) (by decide) hb hr hbase hi
  refine ⟨hs.set i (.slice A' n' c'), ?_⟩
  rw [List.map_set]
  have e : elB ⟨we, ps⟩ = ⟨[.int .i64 we], n', flatG ps⟩ := by unfold elB; rw [hpl]
  rw [e]
  exact this
theorem OwB.form {w base A n c bs} (h : OwB w base A n c bs) (hn : 0 < n) : ∃ g, A = some ⟨g, 0, none⟩ ∧ base ≤ g ∧ g < w.heap.size := by
  obtain ⟨hs, h⟩ := h
  obtain ⟨g, cap, e, hg1, hg2⟩ := h.main.form hn
  injection e with e1 e2 e3
  subst e1
  exact ⟨g, rfl, hg1, hg2⟩
/-- the cells of block i of an owned device, as they may be stored into -/
theorem OwB.cells {w base g n c bs} (h : OwB w base (some ⟨g, 0, none⟩) n c bs) (i : Nat) (hi : i < n) : ∃ A' n' c', w.cell? ⟨g, i * 2, none⟩ = some (.int .i64 (bs.getD i noBlock).wear) ∧ w.cell? ⟨g, i * 2 + 1, none⟩ = some (.slice A' n' c') ∧ w.frozen? ⟨g, i * 2, none⟩ = false ∧ w.frozen? ⟨g, i * 2 + 1, none⟩ = false ∧
    n' ≤ c' ∧ c' ≤ 9223372036854775807 ∧ n' = (bs.getD i noBlock).pages.length ∧ w.ownsRow base 102 5 (.slice A' n' c') n' (flatG (bs.getD i noBlock).pages) := by
  have hl := h.len
  obtain ⟨hs, h⟩ := h
  obtain ⟨c0, c1, r⟩ := h.blockCells i hi
  obtain ⟨A', c', e', hnc, hcm, _⟩ := h.lits i hi
  rw [elB_getD bs i (by omega)] at e' hnc
  rw [e'] at c1 r
  exact ⟨A', _, c', c0, c1, h.main.frozenAt (g := g) (cap := c) _, h.main.frozenAt (g := g) (cap := c) _, hnc, by unfold maxLen at hcm; omega, rfl, r⟩
/-- append of one block, whose pages are new, which the walk has just laid in a block of its own -/
theorem wpList_appBlock {ops : Array Oper} {rest : List Oper} {o : Oper} {a : Act} {Q : Exit → Act → World → Prop} {w w1 : World} {s x : Operand} {base : Nat} {A0 : Option Addr} {c0 n : Nat} {bs : List BlockV} {we : Int} {A' : Option Addr} {n' c' : Nat} {ps : List PageV} (hgd : o.guard = none)
    (ho : o.op = .call { callee := .builtin .append, args := #[s, x], argTypes := #[25, 25] })
    (hs : a.eval s = .slice A0 n c0) (hown : OwB w1 base A0 n c0 bs) (hb : Below w1.heap.size w1 w) (hr : w.ownsRow w1.heap.size 102 5 (.slice A' n' c') n' (flatG ps))
    (hx : a.eval x = .slice (some ⟨w.heap.size, 0, none⟩) 1 1) (hn : n ≤ 1000000000000) (hbase : base ≤ w1.heap.size)
    (h : ∀ g c w', OwB w' base (some ⟨g, 0, none⟩) (n + 1) c (bs ++ [⟨we, ps⟩]) → Below base w1 w' → ChgT [67] w w' → base ≤ g → wpList Try.prog ops Q rest (a.put o.dst (.slice (some ⟨g, 0, none⟩) (n + 1) c)) w') :
    wpList Try.prog ops Q (o :: rest) a (w.alloc (.cells #[.int .i64 we, .slice A' n' c'] 67)) := by
  obtain ⟨i0, hi, hz0, hz1, hz2⟩ := info_parts infoBlock
  obtain ⟨hs', h2⟩ := hown
  have h3 := h2.below hb
  have hpl := own_pagesLen hr
  have hsz := hb.size
  refine wpList_app hgd s x 25 ho base 67 i0 _ 2 32 Try.underlying25 hi hz0 hz1 hz2 rfl (by decide) (.slice A0 n c0) n _ hs h3.main [.int .i64 we, .slice A' n' c'] hx rfl (by simp [Value.oneCell']) (by omega) (by omega) (by omega) ?_
  intro g c w' g1 g2 g3
  have hA := h2.append (e := elB ⟨we, ps⟩) (h := .slice A' n' c') (by decide) hb (by unfold elB; simp only; rw [hpl]; exact hr) rfl hbase g1 g2
  refine h g c w' ⟨_, by rw [List.map_append]; exact hA⟩ ?_ (ChgT.grown h3.main (by simp) g2) g3
  exact (hb.mono hbase).grown g2 (by omega) (fun k hk => (own_lt h3.main hk).1)
end Go.Proofs.Ytjnpgdhpneifjaa

/- Names of the call's own: how they are owned and read. No condition. -/
namespace Go.Proofs.Ytjnpgdhpneifjaa
open Go.ChangeShapes Go.WideShapes Go.ChangeAt Go.RowKit Go.Deep
set_option linter.unusedVariables false
set_option linter.unusedSimpArgs false

def nmc (x : NameV) : List Value := [.string x.1, .int .i64 x.2]
theorem nmc_len (x : NameV) : (nmc x).length = 2 := rfl
def flatN (ns : List NameV) : List Value := ns.flatMap nmc
theorem flatN_len (ns : List NameV) : (flatN ns).length = ns.length * 2 := flatM_len nmc nmc_len ns
theorem flatN_append (ps qs : List NameV) : flatN (ps ++ qs) = flatN ps ++ flatN qs := by simp [flatN]
theorem flatN_one (p : NameV) : flatN [p] = nmc p := by simp [flatN]
theorem flatN_one_cell (ps : List NameV) : ∀ u ∈ flatN ps, u.oneCell' = true := by
  intro u hu
  simp only [flatN, List.mem_flatMap, nmc] at hu
  obtain ⟨p, _, hp⟩ := hu
  simp at hp
  rcases hp with rfl | rfl <;> rfl
/-- names of the call's own -/
def OwN (w : World) (base : Nat) (A : Option Addr) (n c : Nat) (ns : List NameV) : Prop := w.ownsRow base 90 2 (.slice A n c) n (flatN ns)
theorem OwN.len {w base A n c ns} (h : OwN w base A n c ns) : ns.length = n := by have := h.1; rw [flatN_len] at this; omega
theorem OwN.below {w w' base A n c ns} (h : OwN w base A n c ns) (hb : Below w.heap.size w w') : OwN w' base A n c ns := own_below h hb
theorem OwN.lower {w base base' A n c ns} (h : OwN w base A n c ns) (hb : base' ≤ base) : OwN w base' A n c ns := own_lower h hb
theorem OwN.typed {ts : List Nat} {w w' base A n c ns} (h : OwN w base A n c ns) (hc : ChgT ts w w') (h1 : 90 ∉ ts) : OwN w' base A n c ns := own_typed h hc h1
theorem OwN.cap {w base A n c ns} (h : OwN w base A n c ns) : n ≤ c ∧ c ≤ 9223372036854775807 := own_cap h
theorem OwN.nil (w : World) (base : Nat) : OwN w base none 0 0 [] := World.ownsRow_nil _ _ _ _
theorem OwN.form {w base A n c ns} (h : OwN w base A n c ns) (hn : 0 < n) : ∃ g, A = some ⟨g, 0, none⟩ ∧ base ≤ g ∧ g < w.heap.size := by
  obtain ⟨g, cap, e, hg1, hg2⟩ := World.ownsRow.form h hn
  injection e with e1 e2 e3
  subst e1
  exact ⟨g, rfl, hg1, hg2⟩
theorem OwN.cells {w base g n c ns} (h : OwN w base (some ⟨g, 0, none⟩) n c ns) (i : Nat) (hi : i < n) : w.cell? ⟨g, i * 2, none⟩ = some (.string (ns.getD i noName).1) ∧ w.cell? ⟨g, i * 2 + 1, none⟩ = some (.int .i64 (ns.getD i noName).2) ∧ w.frozen? ⟨g, i * 2, none⟩ = false ∧ w.frozen? ⟨g, i * 2 + 1, none⟩ = false := by
  have hl := h.len
  have key : ∀ j, j < 2 → w.cell? ⟨g, i * 2 + j, none⟩ = (nmc (ns.getD i noName))[j]? := fun j hj => by
    rw [World.ownsRow.cellAt h (g := g) (cap := c) (i * 2 + j) (by omega)]
    exact flatM_get nmc nmc_len noName ns i j (by omega) hj
  exact ⟨key 0 (by omega), key 1 (by omega), World.ownsRow.frozenAt h (g := g) (cap := c) _, World.ownsRow.frozenAt h (g := g) (cap := c) _⟩
theorem OwN.rd {w base A n c ns} (h : OwN w base A n c ns) : RdN w w.heap.size A n ns := by
  refine ⟨h.len, fun hn => ?_⟩
  obtain ⟨g, rfl, hg1, hg2⟩ := h.form hn
  refine ⟨g, 0, rfl, hg2, fun i hi => ?_⟩
  obtain ⟨h0, h1, _⟩ := h.cells i hi
  exact ⟨by rw [Nat.zero_add]; exact h0, by rw [Nat.zero_add]; exact h1⟩
/-- a name is stored anew -/
theorem OwN.put {w : World} {base g n c : Nat} {ns : List NameV} (h : OwN w base (some ⟨g, 0, none⟩) n c ns) (i : Nat) (hi : i < n) (x : NameV) :
    OwN ((w.setCell ⟨g, i * 2, none⟩ (.string x.1)).setCell ⟨g, i * 2 + 1, none⟩ (.int .i64 x.2)) base (some ⟨g, 0, none⟩) n c (ns.set i x) ∧ w.grownBy ((w.setCell ⟨g, i * 2, none⟩ (.string x.1)).setCell ⟨g, i * 2 + 1, none⟩ (.int .i64 x.2)) (some g) := by
  have hl := h.len
  obtain ⟨s, f⟩ := x
  obtain ⟨P, hP⟩ : ∃ P, ns.getD i noName = P := ⟨_, rfl⟩
  have f0 := flatM_set nmc nmc_len noName ns i 0 (by omega) (by omega) (.string s) (s, P.2) (by rw [hP]; rfl)
  have f1 := flatM_set nmc nmc_len noName (ns.set i (s, P.2)) i 1 (by simp; omega) (by omega) (.int .i64 f) (s, f) (by rw [getD_setG _ _ _ _ (by omega)]; rfl)
  rw [List.set_set] at f1
  obtain ⟨o0, q0⟩ := World.ownsRow.stored h (g := g) (cap := c) (i * 2 + 0) (.string s)
  rw [show (flatN ns).set (i * 2 + 0) (.string s) = _ from f0] at o0
  obtain ⟨o1, q1⟩ := o0.stored (g := g) (cap := c) (i * 2 + 1) (.int .i64 f)
  rw [f1] at o1
  exact ⟨o1, gb_trans q0 q1⟩
theorem infoName : (Try.prog.info? 90).map (fun i => (i.zero, i.size, i.bytes)) = some (some (.agg #[.string ByteArray.empty, .int .i64 0]), 2, 24) := by kernel_rfl
theorem makeName (n : Nat) (hn : n ≤ 1048576) (W : World) : (Instr.makeSlice 40 (.int .i64 (n : Int)) (.int .i64 (n : Int))).run Try.prog W = .ok (.slice (some ⟨W.heap.size, 0, none⟩) n n) (W.alloc (.cells (madeCells #[.string ByteArray.empty, .int .i64 0] (n * 2)) 90)) := by
  obtain ⟨i0, hi, hz0, hz1, hz2⟩ := info_parts infoName
  have := run_make (P := Try.prog) W 40 90 i0 _ Try.underlying40 hi hz0 .i64 .i64 n n (by omega) (by omega) (by rw [hz2]; omega) (by omega)
  rw [this, hz1]
  simp only [Int.toNat_natCast]
  rfl
theorem own_madeNames (w : World) (base n : Nat) (ns : List NameV) (hn : ns.length = n) (hb : base ≤ w.heap.size) (hm : n ≤ 1048576) : OwN (w.alloc (.cells (madeCells #[.string ByteArray.empty, .int .i64 0] (n * 2)) 90)) base (some ⟨w.heap.size, 0, none⟩) n n (fillTo noName ns 0) := by
  have h := World.ownsRow_lit (base := base) (e := 90) (size := 2) w (madeCells #[.string ByteArray.empty, .int .i64 0] (n * 2)) n hb (by unfold maxLen; omega) (by rw [size_madeCells])
  rw [madeCells_list _ (k := 2) rfl (by omega)] at h
  rw [fillTo_zero, hn]
  have e : flatN (List.replicate n noName) = (List.replicate n (#[Value.string ByteArray.empty, .int .i64 0] : Array Value).toList).flatten := by
    unfold flatN
    rw [List.flatMap_def, List.map_replicate]
    rfl
  unfold OwN
  rw [e]
  exact h
end Go.Proofs.Ytjnpgdhpneifjaa

/- Tables of the call's own: how they are owned and read, made and stored into. No condition. -/
namespace Go.Proofs.Ytjnpgdhpneifjaa
open Go.ChangeShapes Go.WideShapes Go.ChangeAt Go.RowKit Go.Deep
set_option linter.unusedVariables false
set_option linter.unusedSimpArgs false

def elT (t : List Int) : El := ⟨[], t.length, t.map (Value.int .i64)⟩
/-- a table of the call's own, from block number base on -/
def OwT (w : World) (base : Nat) (A : Option Addr) (n c : Nat) (ts : List (List Int)) : Prop := ∃ hs, Own2 w base 76 0 3 1 (.slice A n c) n (ts.map elT) hs
theorem elT_getD (ts : List (List Int)) (i : Nat) (h : i < ts.length) : (ts.map elT).getD i nilEl = elT (ts.getD i []) := by
  rw [List.getD_eq_getElem?_getD, List.getElem?_map, List.getElem?_eq_getElem h, List.getD_eq_getElem?_getD, List.getElem?_eq_getElem h]; rfl
theorem OwT.len {w base A n c ts} (h : OwT w base A n c ts) : ts.length = n := by obtain ⟨hs, h⟩ := h; have := h.nl; simpa using this
theorem OwT.below {w w' base A n c ts} (h : OwT w base A n c ts) (hb : Below w.heap.size w w') : OwT w' base A n c ts := by obtain ⟨hs, h⟩ := h; exact ⟨hs, h.below hb⟩
theorem OwT.lower {w base base' A n c ts} (h : OwT w base A n c ts) (hb : base' ≤ base) : OwT w base' A n c ts := by obtain ⟨hs, h⟩ := h; exact ⟨hs, h.lower hb⟩
theorem OwT.typed {ts' : List Nat} {w w' base A n c ts} (h : OwT w base A n c ts) (hc : ChgT ts' w w') (h1 : 76 ∉ ts') (h2 : 3 ∉ ts') : OwT w' base A n c ts := by obtain ⟨hs, h⟩ := h; exact ⟨hs, h.typed hc h1 h2⟩
theorem OwT.cap {w base A n c ts} (h : OwT w base A n c ts) : n ≤ c ∧ c ≤ 9223372036854775807 := by obtain ⟨hs, h⟩ := h; exact own_cap h.main
theorem OwT.nil (w : World) (base : Nat) : OwT w base none 0 0 [] := ⟨[], Own2.nil w base _ _ _ _⟩
theorem OwT.form {w base A n c ts} (h : OwT w base A n c ts) (hn : 0 < n) : ∃ g, A = some ⟨g, 0, none⟩ ∧ base ≤ g ∧ g < w.heap.size := by
  obtain ⟨hs, h⟩ := h
  obtain ⟨g, cap, e, hg1, hg2⟩ := h.main.form hn
  injection e with e1 e2 e3
  subst e1
  exact ⟨g, rfl, hg1, hg2⟩
theorem Own2.listCells {w : World} {base g n c : Nat} {ts : List (List Int)} {hs : List Value} (h : Own2 w base 76 0 3 1 (.slice (some ⟨g, 0, none⟩) n c) n (ts.map elT) hs) (i : Nat) (hi : i < n) :
    w.cell? ⟨g, i, none⟩ = some (hs.getD i nilV) ∧ w.ownsRow base 3 1 (hs.getD i nilV) (ts.getD i []).length ((ts.getD i []).map (Value.int .i64)) := by
  have hl : ts.length = n := by have := h.nl; simpa using this
  have hq : ∀ j, j < (ts.map elT).length → ((ts.map elT).getD j nilEl).pre.length = 0 := fun j hj => h.pre j (by rw [← h.nl]; exact hj)
  have hi' : i < (ts.map elT).length := by rw [h.nl]; exact hi
  have h1 := flat2_head (es := ts.map elT) (hs := hs) (by rw [h.hl, h.nl]) hq (i := i) hi'
  have c1 := (h.main.cellAt (g := g) (cap := c) (i * (0 + 1) + 0) (by omega)).trans h1
  have r := h.row i hi
  rw [elT_getD ts i (by omega)] at r
  have e : i * (0 + 1) + 0 = i := by omega
  rw [e] at c1
  exact ⟨c1, r⟩
/-- the cell of row i of an owned table, as it may be stored into -/
theorem OwT.cells {w base g n c ts} (h : OwT w base (some ⟨g, 0, none⟩) n c ts) (i : Nat) (hi : i < n) : ∃ A' n' c', w.cell? ⟨g, i, none⟩ = some (.slice A' n' c') ∧ w.frozen? ⟨g, i, none⟩ = false ∧
    n' ≤ c' ∧ c' ≤ 9223372036854775807 ∧ n' = (ts.getD i []).length ∧ w.ownsRow base 3 1 (.slice A' n' c') n' ((ts.getD i []).map (Value.int .i64)) := by
  have hl := h.len
  obtain ⟨hs, h⟩ := h
  obtain ⟨c1, r⟩ := h.listCells i hi
  obtain ⟨A', c', e', hnc, hcm, _⟩ := h.lits i hi
  rw [elT_getD ts i (by omega)] at e' hnc
  rw [e'] at c1 r
  exact ⟨A', _, c', c1, h.main.frozenAt (g := g) (cap := c) _, hnc, by unfold maxLen at hcm; omega, rfl, r⟩
theorem OwT.rd {w base A n c ts} (h : OwT w base A n c ts) : RdT w w.heap.size A n ts := by
  refine ⟨h.len, fun hn => ?_⟩
  obtain ⟨g, rfl, hg1, hg2⟩ := h.form hn
  refine ⟨g, 0, rfl, hg2, fun i hi => ?_⟩
  obtain ⟨A', n', c', c1, _, h2, h3, h4, r⟩ := h.cells i hi
  exact ⟨A', n', c', by rw [Nat.zero_add]; exact c1, h2, h3, rdoI r⟩
theorem infoInts : (Try.prog.info? 76).map (fun i => (i.zero, i.size, i.bytes)) = some (some (.slice none 0 0), 1, 24) := by kernel_rfl
theorem makeTab (n : Nat) (hn : n ≤ 1048576) (W : World) : (Instr.makeSlice 35 (.int .i64 (n : Int)) (.int .i64 (n : Int))).run Try.prog W = .ok (.slice (some ⟨W.heap.size, 0, none⟩) n n) (W.alloc (.cells (madeCells #[.slice none 0 0] n) 76)) := by
  obtain ⟨i0, hi, hz0, hz1, hz2⟩ := info_parts infoInts
  have := run_make (P := Try.prog) W 35 76 i0 _ Try.underlying35 hi hz0 .i64 .i64 n n (by omega) (by omega) (by rw [hz2]; omega) (by omega)
  rw [this, hz1]
  simp only [Int.toNat_natCast, Nat.mul_one]
  rfl
theorem own_madeTab (w : World) (base n : Nat) (ts : List (List Int)) (hn : ts.length = n) (hb : base ≤ w.heap.size) (hm : n ≤ 1048576) : OwT (w.alloc (.cells (madeCells #[.slice none 0 0] n) 76)) base (some ⟨w.heap.size, 0, none⟩) n n (fillTo [] ts 0) := by
  rw [fillTo_zero, hn]
  refine ⟨List.replicate n nilV, ?_⟩
  rw [List.map_replicate]
  exact Own2.made (zs := []) w _ rfl (by have := madeCells_list #[Value.slice none 0 0] (k := 1) rfl (by omega) n; rw [Nat.mul_one] at this; rw [this]; rfl) hb (by unfold maxLen; omega)
/-- a row of an owned table is stored anew -/
theorem OwT.setList {w w1 : World} {base g n c : Nat} {A' : Option Addr} {n' c' : Nat} {ts : List (List Int)} {xs : List Int} (h : OwT w base (some ⟨g, 0, none⟩) n c ts) (hb : Below w.heap.size w w1) (hr : w1.ownsRow w.heap.size 3 1 (.slice A' n' c') n' (xs.map (Value.int .i64))) (hbase : base ≤ w.heap.size) {i : Nat} (hi : i < n) :
    OwT (w1.setCell ⟨g, i, none⟩ (.slice A' n' c')) base (some ⟨g, 0, none⟩) n c (ts.set i xs) := by
  obtain ⟨hs, h⟩ := h
  have hpl := own_len hr
  have := h.setEl0 (by decide) hb hr hbase hi
  refine ⟨hs.set i (.slice A' n' c'), ?_⟩
  rw [List.map_set]
  have e : elT xs = ⟨[], n', xs.map (Value.int .i64)⟩ := by unfold elT; rw [hpl]
  rw [e]
  exact this
/-- a row of an owned table turns within -/
theorem OwT.turn {w w' : World} {base g n c : Nat} {A' : Option Addr} {n' c' : Nat} {ts : List (List Int)} {xs : List Int} (h : OwT w base (some ⟨g, 0, none⟩) n c ts) {i : Nat} (hi : i < n) (hcell : w.cell? ⟨g, i, none⟩ = some (.slice A' n' c'))
    (hg : w.grownBy w' (Value.slice A' n' c').ownBlock) (hr : w'.ownsRow base 3 1 (.slice A' n' c') n' (xs.map (Value.int .i64))) (hl : n' = (ts.getD i []).length) : OwT w' base (some ⟨g, 0, none⟩) n c (ts.set i xs) := by
  have hlen := h.len
  obtain ⟨hs, h⟩ := h
  obtain ⟨c1, r⟩ := h.listCells i hi
  have e : hs.getD i nilV = .slice A' n' c' := by rw [c1] at hcell; injection hcell
  rw [← e] at hg hr
  have hm : ((ts.map elT).getD i nilEl).m = n' := by rw [elT_getD ts i (by omega), hl]; rfl
  have ht := h.turnRow (cs := xs.map (Value.int .i64)) (by decide) hi hg (by rw [hm]; exact hr)
  refine ⟨hs, ?_⟩
  rw [List.map_set]
  have hxl := own_len hr
  have e2 : elT xs = ⟨((ts.map elT).getD i nilEl).pre, ((ts.map elT).getD i nilEl).m, xs.map (Value.int .i64)⟩ := by rw [hm, elT_getD ts i (by omega)]; unfold elT; rw [hxl]
  rw [e2]
  exact ht
/-- which blocks turn -/
theorem OwT.chg {w w' : World} {base g n c i : Nat} {A' : Option Addr} {n' c' : Nat} {ts : List (List Int)} (h : OwT w base (some ⟨g, 0, none⟩) n c ts) (hi : i < n) (hcell : w.cell? ⟨g, i, none⟩ = some (.slice A' n' c'))
    (hg : w.grownBy w' (Value.slice A' n' c').ownBlock) (hbase : base ≤ w.heap.size) : ChgT [3] w w' ∧ Below base w w' := by
  have hlen := h.len
  obtain ⟨hs, h⟩ := h
  obtain ⟨c1, r⟩ := h.listCells i hi
  have e : hs.getD i nilV = .slice A' n' c' := by rw [c1] at hcell; injection hcell
  rw [← e] at hg
  have r' := h.row i hi
  exact ⟨h.typRow hi hg, ⟨hg.os, hg.tape, hg.output, hg.size, fun k hk => hg.block k (by omega) (fun e => by have := (own_lt r' e.symm).1; omega)⟩⟩
/-- append of one row, which is new, and whose header the walk has just laid in a block of its own -/
theorem wpList_appRow {ops : Array Oper} {rest : List Oper} {o : Oper} {a : Act} {Q : Exit → Act → World → Prop} {w w1 : World} {s x : Operand} {base : Nat} {A0 : Option Addr} {c0 n : Nat} {ts : List (List Int)} {A' : Option Addr} {n' c' : Nat} {xs : List Int} (hgd : o.guard = none)
    (ho : o.op = .call { callee := .builtin .append, args := #[s, x], argTypes := #[35, 35] })
    (hs : a.eval s = .slice A0 n c0) (hown : OwT w1 base A0 n c0 ts) (hb : Below w1.heap.size w1 w) (hr : w.ownsRow w1.heap.size 3 1 (.slice A' n' c') n' (xs.map (Value.int .i64)))
    (hx : a.eval x = .slice (some ⟨w.heap.size, 0, none⟩) 1 1) (hn : n ≤ 1000000000000) (hbase : base ≤ w1.heap.size)
    (h : ∀ g c w', OwT w' base (some ⟨g, 0, none⟩) (n + 1) c (ts ++ [xs]) → Below base w1 w' → ChgT [76] w w' → base ≤ g → wpList Try.prog ops Q rest (a.put o.dst (.slice (some ⟨g, 0, none⟩) (n + 1) c)) w') :
    wpList Try.prog ops Q (o :: rest) a (w.alloc (.cells #[.slice A' n' c'] 76)) := by
  obtain ⟨i0, hi, hz0, hz1, hz2⟩ := info_parts infoInts
  obtain ⟨hs', h2⟩ := hown
  have h3 := h2.below hb
  have hpl := own_len hr
  have hsz := hb.size
  refine wpList_app hgd s x 35 ho base 76 i0 _ 1 24 Try.underlying35 hi hz0 hz1 hz2 rfl (by decide) (.slice A0 n c0) n _ hs h3.main [.slice A' n' c'] hx rfl (by simp [Value.oneCell']) (by omega) (by omega) (by omega) ?_
  intro g c w' g1 g2 g3
  have hA := h2.append (e := elT xs) (h := .slice A' n' c') (by decide) hb (by unfold elT; simp only; rw [hpl]; exact hr) rfl hbase g1 g2
  refine h g c w' ⟨_, by rw [List.map_append]; exact hA⟩ ?_ (ChgT.grown h3.main (by simp) g2) g3
  exact (hb.mono hbase).grown g2 (by omega) (fun k hk => (own_lt h3.main hk).1)
end Go.Proofs.Ytjnpgdhpneifjaa
