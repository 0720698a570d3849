/- Tables of the call's own: how they are owned and read, made and stored into. No condition. -/
import Derived.Test.YtjnpgdhpneifjaaDevOwn
import Derived.Test.YtjnpgdhpneifjaaTabN
namespace Go.Proofs.Ytjnpgdhpneifjaa
open Go.ChangeShapes Go.WideShapes Go.ChangeAt Go.RowKit Go.Deep
set_option linter.unusedVariables false
set_option linter.unusedSimpArgs false

def elT (t : List Int) : El := ⟨[], t.length, t.map (Value.int .i64)⟩
/-- a table of the call's own, from block number base on -/
def OwT (w : World) (base : Nat) (A : Option Addr) (n c : Nat) (ts : List (List Int)) : Prop := ∃ hs, Own2 w base 76 0 3 1 (.slice A n c) n (ts.map elT) hs
theorem elT_getD (ts : List (List Int)) (i : Nat) (h : i < ts.length) : (ts.map elT).getD i nilEl = elT (ts.getD i []) := by
  rw [List.getD_eq_getElem?_getD, List.getElem?_map, List.getElem?_eq_getElem h, List.getD_eq_getElem?_getD, List.getElem?_eq_getElem h]; rfl
theorem OwT.len {w base A n c ts} (h : OwT w base A n c ts) : ts.length = n := by obtain ⟨hs, h⟩ := h; have := h.nl; simpa using this
theorem OwT.below {w w' base A n c ts} (h : OwT w base A n c ts) (hb : Below w.heap.size w w') : OwT w' base A n c ts := by obtain ⟨hs, h⟩ := h; exact ⟨hs, h.below hb⟩
theorem OwT.lower {w base base' A n c ts} (h : OwT w base A n c ts) (hb : base' ≤ base) : OwT w base' A n c ts := by obtain ⟨hs, h⟩ := h; exact ⟨hs, h.lower hb⟩
theorem OwT.typed {ts' : List Nat} {w w' base A n c ts} (h : OwT w base A n c ts) (hc : ChgT ts' w w') (h1 : 76 ∉ ts') (h2 : 3 ∉ ts') : OwT w' base A n c ts := by obtain ⟨hs, h⟩ := h; exact ⟨hs, h.typed hc h1 h2⟩
theorem OwT.cap {w base A n c ts} (h : OwT w base A n c ts) : n ≤ c ∧ c ≤ 9223372036854775807 := by obtain ⟨hs, h⟩ := h; exact own_cap h.main
theorem OwT.nil (w : World) (base : Nat) : OwT w base none 0 0 [] := ⟨[], Own2.nil w base _ _ _ _⟩
theorem OwT.form {w base A n c ts} (h : OwT w base A n c ts) (hn : 0 < n) : ∃ g, A = some ⟨g, 0, none⟩ ∧ base ≤ g ∧ g < w.heap.size := by
  obtain ⟨hs, h⟩ := h
  obtain ⟨g, cap, e, hg1, hg2⟩ := h.main.form hn
  injection e with e1 e2 e3
  subst e1
  exact ⟨g, rfl, hg1, hg2⟩
theorem Own2.listCells {w : World} {base g n c : Nat} {ts : List (List Int)} {hs : List Value} (h : Own2 w base 76 0 3 1 (.slice (some ⟨g, 0, none⟩) n c) n (ts.map elT) hs) (i : Nat) (hi : i < n) :
    w.cell? ⟨g, i, none⟩ = some (hs.getD i nilV) ∧ w.ownsRow base 3 1 (hs.getD i nilV) (ts.getD i []).length ((ts.getD i []).map (Value.int .i64)) := by
  have hl : ts.length = n := by have := h.nl; simpa using this
  have hq : ∀ j, j < (ts.map elT).length → ((ts.map elT).getD j nilEl).pre.length = 0 := fun j hj => h.pre j (by rw [← h.nl]; exact hj)
  have hi' : i < (ts.map elT).length := by rw [h.nl]; exact hi
  have h1 := flat2_head (es := ts.map elT) (hs := hs) (by rw [h.hl, h.nl]) hq (i := i) hi'
  have c1 := (h.main.cellAt (g := g) (cap := c) (i * (0 + 1) + 0) (by omega)).trans h1
  have r := h.row i hi
  rw [elT_getD ts i (by omega)] at r
  have e : i * (0 + 1) + 0 = i := by omega
  rw [e] at c1
  exact ⟨c1, r⟩
/-- the cell of row i of an owned table, as it may be stored into -/
theorem OwT.cells {w base g n c ts} (h : OwT w base (some ⟨g, 0, none⟩) n c ts) (i : Nat) (hi : i < n) : ∃ A' n' c', w.cell? ⟨g, i, none⟩ = some (.slice A' n' c') ∧ w.frozen? ⟨g, i, none⟩ = false ∧
    n' ≤ c' ∧ c' ≤ 9223372036854775807 ∧ n' = (ts.getD i []).length ∧ w.ownsRow base 3 1 (.slice A' n' c') n' ((ts.getD i []).map (Value.int .i64)) := by
  have hl := h.len
  obtain ⟨hs, h⟩ := h
  obtain ⟨c1, r⟩ := h.listCells i hi
  obtain ⟨A', c', e', hnc, hcm, _⟩ := h.lits i hi
  rw [elT_getD ts i (by omega)] at e' hnc
  rw [e'] at c1 r
  exact ⟨A', _, c', c1, h.main.frozenAt (g := g) (cap := c) _, hnc, by unfold maxLen at hcm; omega, rfl, r⟩
theorem OwT.rd {w base A n c ts} (h : OwT w base A n c ts) : RdT w w.heap.size A n ts := by
  refine ⟨h.len, fun hn => ?_⟩
  obtain ⟨g, rfl, hg1, hg2⟩ := h.form hn
  refine ⟨g, 0, rfl, hg2, fun i hi => ?_⟩
  obtain ⟨A', n', c', c1, _, h2, h3, h4, r⟩ := h.cells i hi
  exact ⟨A', n', c', by rw [Nat.zero_add]; exact c1, h2, h3, rdoI r⟩
theorem infoInts : (Try.prog.info? 76).map (fun i => (i.zero, i.size, i.bytes)) = some (some (.slice none 0 0), 1, 24) := by kernel_rfl
theorem makeTab (n : Nat) (hn : n ≤ 1048576) (W : World) : (Instr.makeSlice 35 (.int .i64 (n : Int)) (.int .i64 (n : Int))).run Try.prog W = .ok (.slice (some ⟨W.heap.size, 0, none⟩) n n) (W.alloc (.cells (madeCells #[.slice none 0 0] n) 76)) := by
  obtain ⟨i0, hi, hz0, hz1, hz2⟩ := info_parts infoInts
  have := run_make (P := Try.prog) W 35 76 i0 _ Try.underlying35 hi hz0 .i64 .i64 n n (by omega) (by omega) (by rw [hz2]; omega) (by omega)
  rw [this, hz1]
  simp only [Int.toNat_natCast, Nat.mul_one]
  rfl
theorem own_madeTab (w : World) (base n : Nat) (ts : List (List Int)) (hn : ts.length = n) (hb : base ≤ w.heap.size) (hm : n ≤ 1048576) : OwT (w.alloc (.cells (madeCells #[.slice none 0 0] n) 76)) base (some ⟨w.heap.size, 0, none⟩) n n (fillTo [] ts 0) := by
  rw [fillTo_zero, hn]
  refine ⟨List.replicate n nilV, ?_⟩
  rw [List.map_replicate]
  exact Own2.made (zs := []) w _ rfl (by have := madeCells_list #[Value.slice none 0 0] (k := 1) rfl (by omega) n; rw [Nat.mul_one] at this; rw [this]; rfl) hb (by unfold maxLen; omega)
/-- a row of an owned table is stored anew -/
theorem OwT.setList {w w1 : World} {base g n c : Nat} {A' : Option Addr} {n' c' : Nat} {ts : List (List Int)} {xs : List Int} (h : OwT w base (some ⟨g, 0, none⟩) n c ts) (hb : Below w.heap.size w w1) (hr : w1.ownsRow w.heap.size 3 1 (.slice A' n' c') n' (xs.map (Value.int .i64))) (hbase : base ≤ w.heap.size) {i : Nat} (hi : i < n) :
    OwT (w1.setCell ⟨g, i, none⟩ (.slice A' n' c')) base (some ⟨g, 0, none⟩) n c (ts.set i xs) := by
  obtain ⟨hs, h⟩ := h
  have hpl := own_len hr
  have := h.setEl0 (by decide) hb hr hbase hi
  refine ⟨hs.set i (.slice A' n' c'), ?_⟩
  rw [List.map_set]
  have e : elT xs = ⟨[], n', xs.map (Value.int .i64)⟩ := by unfold elT; rw [hpl]
  rw [e]
  exact this
/-- a row of an owned table turns within -/
theorem OwT.turn {w w' : World} {base g n c : Nat} {A' : Option Addr} {n' c' : Nat} {ts : List (List Int)} {xs : List Int} (h : OwT w base (some ⟨g, 0, none⟩) n c ts) {i : Nat} (hi : i < n) (hcell : w.cell? ⟨g, i, none⟩ = some (.slice A' n' c'))
    (hg : w.grownBy w' (Value.slice A' n' c').ownBlock) (hr : w'.ownsRow base 3 1 (.slice A' n' c') n' (xs.map (Value.int .i64))) (hl : n' = (ts.getD i []).length) : OwT w' base (some ⟨g, 0, none⟩) n c (ts.set i xs) := by
  have hlen := h.len
  obtain ⟨hs, h⟩ := h
  obtain ⟨c1, r⟩ := h.listCells i hi
  have e : hs.getD i nilV = .slice A' n' c' := by rw [c1] at hcell; injection hcell
  rw [← e] at hg hr
  have hm : ((ts.map elT).getD i nilEl).m = n' := by rw [elT_getD ts i (by omega), hl]; rfl
  have ht := h.turnRow (cs := xs.map (Value.int .i64)) (by decide) hi hg (by rw [hm]; exact hr)
  refine ⟨hs, ?_⟩
  rw [List.map_set]
  have hxl := own_len hr
  have e2 : elT xs = ⟨((ts.map elT).getD i nilEl).pre, ((ts.map elT).getD i nilEl).m, xs.map (Value.int .i64)⟩ := by rw [hm, elT_getD ts i (by omega)]; unfold elT; rw [hxl]
  rw [e2]
  exact ht
/-- which blocks turn -/
theorem OwT.chg {w w' : World} {base g n c i : Nat} {A' : Option Addr} {n' c' : Nat} {ts : List (List Int)} (h : OwT w base (some ⟨g, 0, none⟩) n c ts) (hi : i < n) (hcell : w.cell? ⟨g, i, none⟩ = some (.slice A' n' c'))
    (hg : w.grownBy w' (Value.slice A' n' c').ownBlock) (hbase : base ≤ w.heap.size) : ChgT [3] w w' ∧ Below base w w' := by
  have hlen := h.len
  obtain ⟨hs, h⟩ := h
  obtain ⟨c1, r⟩ := h.listCells i hi
  have e : hs.getD i nilV = .slice A' n' c' := by rw [c1] at hcell; injection hcell
  rw [← e] at hg
  have r' := h.row i hi
  exact ⟨h.typRow hi hg, ⟨hg.os, hg.tape, hg.output, hg.size, fun k hk => hg.block k (by omega) (fun e => by have := (own_lt r' e.symm).1; omega)⟩⟩
/-- append of one row, which is new, and whose header the walk has just laid in a block of its own -/
theorem wpList_appRow {ops : Array Oper} {rest : List Oper} {o : Oper} {a : Act} {Q : Exit → Act → World → Prop} {w w1 : World} {s x : Operand} {base : Nat} {A0 : Option Addr} {c0 n : Nat} {ts : List (List Int)} {A' : Option Addr} {n' c' : Nat} {xs : List Int} (hgd : o.guard = none)
    (ho : o.op = .call { callee := .builtin .append, args := #[s, x], argTypes := #[35, 35] })
    (hs : a.eval s = .slice A0 n c0) (hown : OwT w1 base A0 n c0 ts) (hb : Below w1.heap.size w1 w) (hr : w.ownsRow w1.heap.size 3 1 (.slice A' n' c') n' (xs.map (Value.int .i64)))
    (hx : a.eval x = .slice (some ⟨w.heap.size, 0, none⟩) 1 1) (hn : n ≤ 1000000000000) (hbase : base ≤ w1.heap.size)
    (h : ∀ g c w', OwT w' base (some ⟨g, 0, none⟩) (n + 1) c (ts ++ [xs]) → Below base w1 w' → ChgT [76] w w' → base ≤ g → wpList Try.prog ops Q rest (a.put o.dst (.slice (some ⟨g, 0, none⟩) (n + 1) c)) w') :
    wpList Try.prog ops Q (o :: rest) a (w.alloc (.cells #[.slice A' n' c'] 76)) := by
  obtain ⟨i0, hi, hz0, hz1, hz2⟩ := info_parts infoInts
  obtain ⟨hs', h2⟩ := hown
  have h3 := h2.below hb
  have hpl := own_len hr
  have hsz := hb.size
  refine wpList_app hgd s x 35 ho base 76 i0 _ 1 24 Try.underlying35 hi hz0 hz1 hz2 rfl (by decide) (.slice A0 n c0) n _ hs h3.main [.slice A' n' c'] hx rfl (by simp [Value.oneCell']) (by omega) (by omega) (by omega) ?_
  intro g c w' g1 g2 g3
  have hA := h2.append (e := elT xs) (h := .slice A' n' c') (by decide) hb (by unfold elT; simp only; rw [hpl]; exact hr) rfl hbase g1 g2
  refine h g c w' ⟨_, by rw [List.map_append]; exact hA⟩ ?_ (ChgT.grown h3.main (by simp) g2) g3
  exact (hb.mono hbase).grown g2 (by omega) (fun k hk => (own_lt h3.main hk).1)
end Go.Proofs.Ytjnpgdhpneifjaa
