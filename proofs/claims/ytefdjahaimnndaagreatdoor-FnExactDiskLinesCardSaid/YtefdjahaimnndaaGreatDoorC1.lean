/- Parts of the proof, one after the other. -/
import Derived.Test.YtefdjahaimnndaaGreatDoorRows
import Derived.Deep.RegionHeld3
import Derived.WalkKit
import Derived.ProofKit
import Derived.OpenShut
import Derived.ShutString
import Derived.ChangeOld
import Derived.WalkSpells
import Derived.WalkLawsBesides
import Derived.Outline
import Derived.Below
import Derived.Handy
import Derived.IntWalk
import Derived.Lib.Hide
import Derived.Deep.QuietTactic
import Derived.BigQuiet
import Derived.Deep.RegionWith
import Derived.Deep.DeepCutAuto
import Derived.Deep.DeepFit
import Derived.Deep.Draws
import Derived.Laws.BitsAllLaws
import Derived.Laws.BitsLemmas
import Derived.Deep.Slices
import Derived.Deep.Fields
import Derived.ChangeSame
import Derived.Maps.AppendAt
import Derived.Deep.AppendLies
import Derived.Laws.OwnMore
import Derived.Laws.Rows
import Derived.Laws.BytesArg
namespace Go.Proofs.YtefdjahaimnndaaGreatDoor
open Go.ChangeShapes Go.WideShapes Go.ChangeAt Go.RowKit Go.Deep
open Go.Lib (hid)
set_option linter.unusedVariables false
set_option linter.unusedSimpArgs false
variable {P : Program} {ops : Array Oper} {Q : Exit → Act → World → Prop} {md : Region.Mode} {S : World → Prop}
theorem tk (i : Nat) {oi : Oper} {v : Value} {fuel : Nat} {listed : Array Bool} {a a' : Act} {w : World} (h : wpAnyH P md ops Q S fuel (listed.setIfInBounds i true) a' w)
 (hi : ops[i]? = some oi := by exact rfl) (hs : Region.noSelect ops = true := by kernel_rfl) (hf : Region.free md ops listed i = true := by kernel_rfl) (hr : (Region.ready md ops listed).contains i = true := by kernel_rfl)
 (hw : Region.wanted oi (yielded ops a.tmps) = true := by exact rfl) (hy : ∀ w, S w → (execOp a.eval oi).run P w = .ok (.value v) w := by (intro w hSw; (try dsimp only at hSw); go_simp; (try with_reducible rfl)))
 (ha : a.put oi.dst v = a' := by ((try simp only [Act.put, List.setIfInBounds_toArray, List.set_cons_zero, List.set_cons_succ, List.getElem_toArray, List.getElem_cons_zero, List.getElem_cons_succ]); exact rfl))
 (hQ : ∀ c a w, Q (.panic c) (a.put oi.dst v) w → Q (.panic c) a w := by exact fun _ _ _ h => h) (hS : S w := by assumption) : wpAnyH P md ops Q S (fuel + 1) listed a w := by
 subst ha; exact wpAnyH_take hi hs hf hr hQ (Or.inl ⟨hw, hy⟩) hS h
theorem sk (i : Nat) {oi : Oper} {fuel : Nat} {listed : Array Bool} {a a' : Act} {w : World} (h : wpAnyH P md ops Q S fuel (listed.setIfInBounds i true) a' w)
 (hi : ops[i]? = some oi := by exact rfl) (hs : Region.noSelect ops = true := by kernel_rfl) (hf : Region.free md ops listed i = true := by kernel_rfl) (hr : (Region.ready md ops listed).contains i = true := by kernel_rfl)
 (hw : Region.wanted oi (yielded ops a.tmps) = false := by exact rfl)
 (ha : a.put oi.dst undef = a' := by ((try simp only [Act.put, List.setIfInBounds_toArray, List.set_cons_zero, List.set_cons_succ, List.getElem_toArray, List.getElem_cons_zero, List.getElem_cons_succ]); exact rfl))
 (hQ : ∀ c a w, Q (.panic c) (a.put oi.dst undef) w → Q (.panic c) a w := by exact fun _ _ _ h => h) (hS : S w := by assumption) : wpAnyH P md ops Q S (fuel + 1) listed a w := by
 subst ha; exact wpAnyH_take hi hs hf hr hQ (Or.inr ⟨hw, rfl⟩) hS h
theorem pt {fuel : Nat} {listed : Array Bool} {a a' : Act} {w : World} (h : wpAnyH P md ops Q S fuel listed a' w) (ha : a = a' := by ((try simp only [Act.put, List.setIfInBounds_toArray, List.set_cons_zero, List.set_cons_succ, List.getElem_toArray, List.getElem_cons_zero, List.getElem_cons_succ]); exact rfl)) : wpAnyH P md ops Q S fuel listed a w := ha ▸ h
theorem rd1 (i : Nat) {o : Oper} {fuel : Nat} {listed : Array Bool} {a : Act} {w : World}
 (h : ∀ K' : Act → World → Prop, Shut (∀ a w, S w → (S w → wpAnyH P md ops Q S fuel (listed.setIfInBounds i true) a w) → K' a w) → if Region.wanted o (yielded ops a.tmps) = true then Oper.wp P o a w K' Q else K' (a.put o.dst undef) w)
 (ho : ops[i]? = some o := by exact rfl) (hr : Region.ready md ops listed = [i] := by kernel_rfl) : wpAnyH P md ops Q S (fuel + 1) listed a w :=
 wpAnyH_ready hr (by simp) (AllReadyH.cons ho h AllReadyH.nil)
theorem rd2 (i j : Nat) {o o' : Oper} {fuel : Nat} {listed : Array Bool} {a : Act} {w : World}
 (h : ∀ K' : Act → World → Prop, Shut (∀ a w, S w → (S w → wpAnyH P md ops Q S fuel (listed.setIfInBounds i true) a w) → K' a w) → if Region.wanted o (yielded ops a.tmps) = true then Oper.wp P o a w K' Q else K' (a.put o.dst undef) w)
 (h' : ∀ K' : Act → World → Prop, Shut (∀ a w, S w → (S w → wpAnyH P md ops Q S fuel (listed.setIfInBounds j true) a w) → K' a w) → if Region.wanted o' (yielded ops a.tmps) = true then Oper.wp P o' a w K' Q else K' (a.put o'.dst undef) w)
 (ho : ops[i]? = some o := by exact rfl) (ho' : ops[j]? = some o' := by exact rfl) (hr : Region.ready md ops listed = [i, j] := by kernel_rfl) : wpAnyH P md ops Q S (fuel + 1) listed a w :=
 wpAnyH_ready hr (by simp) (AllReadyH.cons ho h (AllReadyH.cons ho' h' AllReadyH.nil))
theorem dn {fuel : Nat} {listed : Array Bool} {a : Act} {w : World} (h : Q .normal a w) (hr : Region.ready md ops listed = [] := by kernel_rfl) : wpAnyH P md ops Q S fuel listed a w := wpAnyH_done hr h fuel
abbrev Zd : Array Value := #[.slice none 0 0, .slice none 0 0, .int .i64 0, .int .i64 0, .int .i64 0, .int .i64 0, .slice none 0 0]
abbrev dc (a : Option Addr) (b c : Nat) (e : Option Addr) (f g : Nat) (h i j k : Int) (l : Option Addr) (m n : Nat) : Array Value := #[.slice a b c, .slice e f g, .int .i64 h, .int .i64 i, .int .i64 j, .int .i64 k, .slice l m n]
abbrev p6 (w : World) (g : Nat) (a b c d e f : Value) : World := (((((w.setCell ⟨g, 0, none⟩ a).setCell ⟨g, 1, none⟩ b).setCell ⟨g, 2, none⟩ c).setCell ⟨g, 3, none⟩ d).setCell ⟨g, 4, none⟩ e).setCell ⟨g, 5, none⟩ f
theorem own : ownKnob Tryz.prog.godebug = none := by kernel_rfl
theorem ret_int {k : IntKind} {a b : Int} (h : a = b) : Ending.returned (.int k a) = .returned (.int k b) := by rw [h]
theorem ret_bool {a b : Bool} (h : a = b) : Ending.returned (.bool a) = .returned (.bool b) := by rw [h]
def inB (n lo hi : Int) : Bool := decide (lo ≤ n ∧ n ≤ hi)
theorem inB_t {n lo hi : Int} : inB n lo hi = true ↔ lo ≤ n ∧ n ≤ hi := by simp [inB]
theorem inB_f {n lo hi : Int} : inB n lo hi = false ↔ (n < lo ∨ hi < n) := by simp [inB]; omega
theorem block_lt_of_cell {w : World} {a : Addr} {v : Value} (h : w.cell? a = some v) : a.block < w.heap.size := by
 rcases Nat.lt_or_ge a.block w.heap.size with hl | hl
 · exact hl
 · unfold World.cell? at h; rw [Array.getElem?_eq_none hl] at h; cases h
theorem add_none (b off i : Nat) : (⟨b, off, none⟩ : Addr).add i = ⟨b, off + i, none⟩ := by
 unfold Addr.add; split
 · next h => rw [h]; rfl
 · rfl
structure RdI (k : IntKind) (w : World) (B : Nat) (A : Option Addr) (n : Nat) (xs : List Int) : Prop where
 len : xs.length = n
 at_ : 0 < n → ∃ b off, A = some ⟨b, off, none⟩ ∧ b < B ∧ ∀ i, i < n → w.cell? ⟨b, off + i, none⟩ = some (.int k (xs.getD i 0))
theorem RdI.mono {k w B B' A n xs} (h : RdI k w B A n xs) (hB : B ≤ B') : RdI k w B' A n xs :=
 ⟨h.len, fun hn => by obtain ⟨b, off, e, hb, hc⟩ := h.at_ hn; exact ⟨b, off, e, by omega, hc⟩⟩
theorem RdI.below {k w w' B A n xs} (h : RdI k w B A n xs) (hb : Below B w w') : RdI k w' B A n xs :=
 ⟨h.len, fun hn => by obtain ⟨b, off, e, hb1, hc⟩ := h.at_ hn; exact ⟨b, off, e, hb1, fun i hi => (hb.cell hb1).trans (hc i hi)⟩⟩
theorem RdI.nil {k w B A} : RdI k w B A 0 [] := ⟨rfl, fun h => absurd h (Nat.lt_irrefl _)⟩
theorem RdI.alloc {k w B A n xs} (h : RdI k w B A n xs) (hB : B ≤ w.heap.size) (o : Obj) : RdI k (w.alloc o) B A n xs :=
 h.below ((Below.refl _ _).alloc hB o)
theorem RdI.drew {k w B A n xs} (h : RdI k w B A n xs) : RdI k w.drew B A n xs := ⟨h.len, h.at_⟩
theorem RdI.drewN {k w B A n xs} (h : RdI k w B A n xs) (m : Nat) : RdI k (w.drewN m) B A n xs := ⟨h.len, h.at_⟩
theorem rd_of_own {w : World} {base : Nat} {e : TypeId} {k : IntKind} {v : Value} {n : Nat} {xs : List Int}
 (h : w.ownsRow base e 1 v n (xs.map (Value.int k))) : ∃ A c, v = .slice A n c ∧ n ≤ c ∧ c ≤ maxLen ∧ RdI k w w.heap.size A n xs := by
 have hl : xs.length = n := by have := h.1; simpa using this
 rcases h.2 with ⟨rfl, rfl⟩ | ⟨g, cap, cur, rfl, hb, hh, hnc, hm, hsz, htk⟩
 · exact ⟨none, 0, rfl, Nat.le_refl _, by decide, hl, fun h => absurd h (Nat.lt_irrefl _)⟩
 · refine ⟨_, cap, rfl, hnc, hm, hl, fun hn => ⟨g, 0, rfl, ?_, fun i hi => ?_⟩⟩
   · rcases Nat.lt_or_ge g w.heap.size with hlt | hge
     · exact hlt
     · rw [Array.getElem?_eq_none hge] at hh; cases hh
   · have hcell := h.cellAt (g := g) (cap := cap) i (by omega); rw [Nat.zero_add, hcell, List.getElem?_map]; rw [List.getD_eq_getElem?_getD, List.getElem?_eq_getElem (by omega)]; rfl
theorem below_drewN {B : Nat} {a w : World} (h : Below B a w) (n : Nat) : Below B a (w.drewN n) := ⟨h.os, h.tape, h.output, h.size, h.block⟩
theorem gb_trans {a b c : World} {g : Nat} (h : a.grownBy b (some g)) (k : b.grownBy c (some g)) : a.grownBy c (some g) :=
 ⟨k.os.trans h.os, k.tape.trans h.tape, k.output.trans h.output, Nat.le_trans h.size k.size, fun i hi hne => (k.block i (Nat.lt_of_lt_of_le hi h.size) hne).trans (h.block i hi hne)⟩
theorem gb_drew {a w : World} {row : Option Nat} (h : a.grownBy w row) : a.grownBy w.drew row := ⟨h.os, h.tape, h.output, h.size, h.block⟩
theorem gb_setCell {a w : World} {g : Nat} (h : a.grownBy w (some g)) {p : Addr} (hp : p.block = g ∨ a.heap.size ≤ p.block) (u : Value) : a.grownBy (w.setCell p u) (some g) :=
 ⟨h.os, h.tape, h.output, by simpa [World.setCell] using h.size, fun i hi hne => (Below.heap_setCell w p u i (by
  rintro rfl; rcases hp with hp | hp
  · exact hne (by rw [hp])
  · omega)).trans (h.block i hi hne)⟩
theorem gb_of_below {a w : World} (h : Below a.heap.size a w) (row : Option Nat) : a.grownBy w row := ⟨h.os, h.tape, h.output, h.size, fun i hi _ => h.block i hi⟩
theorem below_of_gb {a w w' : World} {B g : Nat} (h : Below B a w) (hg : w.grownBy w' (some g)) (hB : B ≤ w.heap.size) (hr : B ≤ g) : Below B a w' :=
 h.grown hg hB (by intro k hk; injection hk with hk; omega)
def Blk (w : World) (g : Nat) (t : TypeId) (cs : Array Value) : Prop := w.heap[g]? = some (.cells cs t (0, 0))
theorem Blk.lt {w g t cs} (h : Blk w g t cs) : g < w.heap.size := by
 rcases Nat.lt_or_ge g w.heap.size with hlt | hge
 · exact hlt
 · unfold Blk at h; rw [Array.getElem?_eq_none hge] at h; cases h
theorem Blk.cell {w g t cs} (h : Blk w g t cs) (i : Nat) : w.cell? ⟨g, i, none⟩ = cs[i]? := cell_of_row w g i cs t (0, 0) h
theorem Blk.frozen {w g t cs} (h : Blk w g t cs) (i : Nat) : w.frozen? ⟨g, i, none⟩ = false := by
 unfold Blk at h; simp [World.frozen?, h]
theorem Blk.new (w : World) (t : TypeId) (cs : Array Value) : Blk (w.alloc (.cells cs t)) w.heap.size t cs := heap_alloc_new w _
theorem Blk.drew {w g t cs} (h : Blk w g t cs) : Blk w.drew g t cs := h
theorem Blk.drewN {w g t cs} (h : Blk w g t cs) (n : Nat) : Blk (w.drewN n) g t cs := h
theorem Blk.alloc {w g t cs} (h : Blk w g t cs) (o : Obj) : Blk (w.alloc o) g t cs := (Below.heap_alloc w o g h.lt).trans h
theorem Blk.set_ {w g t cs} (h : Blk w g t cs) (i : Nat) (u : Value) : Blk (w.setCell ⟨g, i, none⟩ u) g t (cs.setIfInBounds i u) := by
 unfold Blk at h ⊢; simp [World.setCell, Array.getElem?_modify, h]
theorem Blk.far {w g t cs} (h : Blk w g t cs) {p : Addr} (hp : g ≠ p.block) (u : Value) : Blk (w.setCell p u) g t cs := (Below.heap_setCell w p u g hp).trans h
theorem Blk.below {w w' g t cs B} (h : Blk w g t cs) (hb : Below B w w') (hg : g < B) : Blk w' g t cs := (hb.block g hg).trans h
theorem Blk.grown {w w' g t cs} {row : Option Nat} (h : Blk w g t cs) (hb : w.grownBy w' row) (hg : some g ≠ row) : Blk w' g t cs := (hb.block g h.lt hg).trans h
noncomputable def bof (p : Prop) : Bool := @decide p (Classical.propDecidable p)
theorem bof_t {p : Prop} : bof p = true ↔ p := by unfold bof; exact @decide_eq_true_iff p (Classical.propDecidable p)
theorem bof_f {p : Prop} : bof p = false ↔ ¬ p := by unfold bof; exact @decide_eq_false_iff_not p (Classical.propDecidable p)
theorem ret_bof_t {p : Prop} (h : p) : Ending.returned (.bool true) = .returned (.bool (bof p)) := by rw [bof_t.2 h]
theorem ret_bof_f {p : Prop} (h : ¬ p) : Ending.returned (.bool false) = .returned (.bool (bof p)) := by rw [bof_f.2 h]
theorem ret_bof_iff {p : Prop} {b : Bool} (h : b = true ↔ p) : Ending.returned (.bool b) = .returned (.bool (bof p)) := by
 congr 2; rw [Bool.eq_iff_iff, bof_t]; exact h
theorem quiet_add_left {P : Program} {f : FuncId} {args : Array Value} {w : World} {a n : Nat} {v : Value}
 (h : Calls P f args (w.drewN (a + n)) fun e w' => e = .returned v ∧ w.drewN (a + n) = w') : Calls P f args (w.drewN (a + n)) fun e w'' => e = .returned v ∧ ∃ m, w'' = w.drewN (a + m) :=
 h.mono fun _ _ ⟨he, hm⟩ => ⟨he, n, hm.symm⟩
theorem quiet_left {P : Program} {f : FuncId} {args : Array Value} {w : World} {n : Nat} {v : Value}
 (h : Calls P f args (w.drewN n) fun e w' => e = .returned v ∧ w.drewN n = w') : Calls P f args (w.drewN n) fun e w'' => e = .returned v ∧ ∃ m, w'' = w.drewN m :=
 h.mono fun _ _ ⟨he, hm⟩ => ⟨he, n, hm.symm⟩
theorem infoInt : (Tryz.prog.info? 3).map (fun i => (i.zero, i.size, i.bytes)) = some (some (.int .i64 0), 1, 8) := by kernel_rfl
def cellsI (xs : List Int) : Array Value := (xs.map (Value.int .i64)).toArray
theorem cellsI_get (xs : List Int) (i : Nat) (h : i < xs.length) : (cellsI xs)[i]? = some (.int .i64 (xs.getD i 0)) := by
 unfold cellsI; rw [List.getElem?_toArray, List.getElem?_map, List.getElem?_eq_getElem h, List.getD_eq_getElem?_getD, List.getElem?_eq_getElem h]; rfl
theorem cellsI_set (xs : List Int) (i : Nat) (v : Int) : (cellsI xs).setIfInBounds i (.int .i64 v) = cellsI (xs.set i v) := by
 unfold cellsI; simp [List.map_set]
theorem cellsI_zero (n : Nat) : (madeCells #[Value.int .i64 0] n) = cellsI (List.replicate n 0) := by
 apply Array.toList_inj.1
 rw [toList_madeCells_one]; simp [cellsI]
theorem make_ints (n : Nat) (hn : n ≤ 1048576) (W : World) : (Instr.makeSlice 57 (.int .i64 (n : Int)) (.int .i64 (n : Int))).run Tryz.prog W = .ok (.slice (some ⟨W.heap.size, 0, none⟩) n n) (W.alloc (.cells (cellsI (List.replicate n 0)) 3)) := by
 obtain ⟨i0, hi, hz0, hz1, hz2⟩ := info_parts infoInt; have := run_make (P := Tryz.prog) W 57 3 i0 (.int .i64 0) Tryz.underlying57 hi hz0 .i64 .i64 n n (by omega) (by omega) (by rw [hz2]; omega) (by omega); rw [this, hz1]; simp only [Int.toNat_natCast, Nat.mul_one]; rw [← cellsI_zero]; rfl
def RowI (w : World) (g : Nat) (xs : List Int) : Prop := Blk w g 3 (cellsI xs)
theorem RowI.rd {w g xs} (h : RowI w g xs) : RdI .i64 w w.heap.size (some ⟨g, 0, none⟩) xs.length xs :=
 ⟨rfl, fun hn => ⟨g, 0, rfl, Blk.lt h, fun i hi => by rw [Nat.zero_add, Blk.cell h, cellsI_get xs i hi]⟩⟩
theorem RowI.own {w g xs base} (h : RowI w g xs) (hb : base ≤ g) (hm : xs.length ≤ maxLen) : w.ownsRow base 3 1 (.slice (some ⟨g, 0, none⟩) xs.length xs.length) xs.length (xs.map (Value.int .i64)) :=
 ⟨by simp, .inr ⟨g, xs.length, cellsI xs, rfl, hb, h, Nat.le_refl _, hm, by simp [cellsI], by rw [Nat.mul_one]; unfold cellsI; simp only [List.toList_toArray]; exact List.take_of_length_le (by simp)⟩⟩
theorem wpList_app {P : Program} {ops : Array Oper} {rest : List Oper} {o : Oper} {a : Act} {Q : Exit → Act → World → Prop} {w : World} (hgd : o.guard = none) (s x : Operand) (t : TypeId)
 (ho : o.op = .call { callee := .builtin .append, args := #[s, x], argTypes := #[t, t] })
 (base : Nat) (e : TypeId) (i : TypeInfo) (z : Value) (size bytes : Nat) (ht : P.underlying t = some (.slice e)) (hi : P.info? e = some i) (hz : i.zero = some z)
 (hsize : i.size = size) (hby : i.bytes = bytes) (hzs : z.cells.size = size) (hsz : 0 < size)
 (v : Value) (n : Nat) (xs : List Value) (hs : a.eval s = v) (hown : w.ownsRow base e size v n xs)
 (news : List Value) (hx : a.eval x = .slice (some ⟨w.heap.size, 0, none⟩) 1 1) (hl : news.length = size) (h1 : ∀ u ∈ news, u.oneCell' = true)
 (h63 : n + 1 ≤ 9223372036854775807) (hbytes : (n + 1) * bytes ≤ 140737488355328) (hbase : base ≤ w.heap.size)
 (h : ∀ g c w', w'.ownsRow base e size (.slice (some ⟨g, 0, none⟩) (n + 1) c) (n + 1) (xs ++ news) → w.grownBy w' v.ownBlock → base ≤ g → wpList P ops Q rest (a.put o.dst (.slice (some ⟨g, 0, none⟩) (n + 1) c)) w') :
 wpList P ops Q (o :: rest) a (w.alloc (.cells news.toArray e)) := by
 refine wpList_append_own _ hgd s x t ho base e i z size bytes ht hi hz hsize hby hzs hsz v n xs hs (hown.alloc _) ⟨w.heap.size, 0, none⟩ 1 1 news hx (by rw [hl, Nat.one_mul]) ?_ h1 (by unfold maxLen; exact h63) hbytes (by simp; omega) ?_
 · intro j u hj
   rw [add_none, Nat.zero_add]; have := (Blk.new w e news.toArray).cell j; rw [this, List.getElem?_toArray]; exact hj
 · intro v' w' hown' hg _
   rcases hown'.2 with ⟨h1, h2⟩ | ⟨g, cap, cur, h1, hb, _⟩
   · omega
   · subst h1; refine h g cap w' hown' ⟨hg.os, hg.tape, hg.output, Nat.le_trans (by simp) hg.size, fun k hk hne => ?_⟩ hb; rw [hg.block k (by simp; omega) hne]; exact Below.heap_alloc w _ k hk
theorem wpList_appI {ops : Array Oper} {rest : List Oper} {o : Oper} {a : Act} {Q : Exit → Act → World → Prop} {w : World} {s x : Operand} {base : Nat} {A0 : Option Addr} {c0 n : Nat} {xs : List Int} {y : Int} (hgd : o.guard = none)
 (ho : o.op = .call { callee := .builtin .append, args := #[s, x], argTypes := #[57, 57] })
 (hs : a.eval s = .slice A0 n c0) (hown : w.ownsRow base 3 1 (.slice A0 n c0) n (xs.map (Value.int .i64)))
 (hx : a.eval x = .slice (some ⟨w.heap.size, 0, none⟩) 1 1) (hn : n ≤ 1000000000000) (hbase : base ≤ w.heap.size)
 (h : ∀ g c w', w'.ownsRow base 3 1 (.slice (some ⟨g, 0, none⟩) (n + 1) c) (n + 1) ((xs ++ [y]).map (Value.int .i64)) → w.grownBy w' (Value.slice A0 n c0).ownBlock → base ≤ g → wpList Tryz.prog ops Q rest (a.put o.dst (.slice (some ⟨g, 0, none⟩) (n + 1) c)) w') :
 wpList Tryz.prog ops Q (o :: rest) a (w.alloc (.cells #[.int .i64 y] 3)) := by
 obtain ⟨i0, hi, hz0, hz1, hz2⟩ := info_parts infoInt; refine wpList_app hgd s x 57 ho base 3 i0 (.int .i64 0) 1 8 Tryz.underlying57 hi hz0 hz1 hz2 rfl (by decide) (.slice A0 n c0) n _ hs hown [.int .i64 y] hx rfl (by simp [Value.oneCell']) (by omega) (by omega) hbase ?_; intro g c w' h1 h2 h3
 exact h g c w' (by rw [List.map_append]; exact h1) h2 h3
def OwnI (w0 : World) (ys : List Int) (e : Ending) (w' : World) : Prop :=
 ∃ A c, e = .returned (.slice A ys.length c) ∧ w'.ownsRow w0.heap.size 3 1 (.slice A ys.length c) ys.length (ys.map (Value.int .i64)) ∧ Below w0.heap.size w0 w'
def OwnIx (w0 : World) (ys : List Int) (v2 : Value) (e : Ending) (w' : World) : Prop :=
 ∃ A c, e = .returned (.tuple #[.slice A ys.length c, v2]) ∧ w'.ownsRow w0.heap.size 3 1 (.slice A ys.length c) ys.length (ys.map (Value.int .i64)) ∧ Below w0.heap.size w0 w'
theorem ownI_of {w0 w' : World} {ys : List Int} {A : Option Addr} {m c : Nat} (hm : ys.length = m) (h : w'.ownsRow w0.heap.size 3 1 (.slice A m c) m (ys.map (Value.int .i64))) (hb : Below w0.heap.size w0 w') : OwnI w0 ys (.returned (.slice A m c)) w' := by
 subst hm; exact ⟨A, c, rfl, h, hb⟩
theorem ownIx_of {w0 w' : World} {ys : List Int} {A : Option Addr} {m c : Nat} {v2 : Value} (hm : ys.length = m) (h : w'.ownsRow w0.heap.size 3 1 (.slice A m c) m (ys.map (Value.int .i64))) (hb : Below w0.heap.size w0 w') : OwnIx w0 ys v2 (.returned (.tuple #[.slice A m c, v2])) w' := by
 subst hm; exact ⟨A, c, rfl, h, hb⟩
theorem own_below {w w' : World} {base e size n : Nat} {v : Value} {xs : List Value} (h : w.ownsRow base e size v n xs) (hb : Below w.heap.size w w') : w'.ownsRow base e size v n xs :=
 h.kept (gb_of_below hb none) (by rcases hv : v.ownBlock with _ | k <;> simp)
theorem own_other {w w' : World} {base e size n : Nat} {v : Value} {xs : List Value} {row : Option Nat} (h : w.ownsRow base e size v n xs) (hg : w.grownBy w' row) (hne : ∀ k, v.ownBlock = some k → row ≠ some k) : w'.ownsRow base e size v n xs :=
 h.kept hg (by
  rcases hv : v.ownBlock with _ | k
  · exact .inl rfl
  · exact .inr (fun e => hne k hv e.symm))
theorem rdoI {w : World} {base : Nat} {e : TypeId} {k : IntKind} {A : Option Addr} {n c : Nat} {xs : List Int} (h : w.ownsRow base e 1 (.slice A n c) n (xs.map (Value.int k))) : RdI k w w.heap.size A n xs := by
 obtain ⟨A', c', hv, _, _, hr⟩ := rd_of_own h; injection hv with h1 h2 h3; subst h1; exact hr
theorem own_cap {w : World} {base e size n c : Nat} {A : Option Addr} {xs : List Value} (h : w.ownsRow base e size (.slice A n c) n xs) : n ≤ c ∧ c ≤ 9223372036854775807 := by
 rcases h.2 with ⟨h1, h2⟩ | ⟨g, cap, cur, h1, hb, hh, hnc, hm, _⟩
 · injection h1 with h1 h3 h4; omega
 · injection h1 with h1 h3 h4; unfold maxLen at hm; omega
theorem below_app {w0 w w' : World} {B e size n : Nat} {v : Value} {xs : List Value} (hb : Below B w0 w) (hown : w.ownsRow B e size v n xs) (hB : B ≤ w.heap.size) (hg : w.grownBy w' v.ownBlock) : Below B w0 w' :=
 hb.grown hg hB (fun k hk => (hown.lt k hk).1)
theorem own_len {w : World} {base : Nat} {e : TypeId} {v : Value} {n : Nat} {xs : List Int} (h : w.ownsRow base e 1 v n (xs.map (Value.int .i64))) : xs.length = n := by
 have := h.1; simpa using this
theorem map_getElem? (xs : List Int) (i : Nat) (h : i < xs.length) : (xs.map (Value.int .i64))[i]? = some (.int .i64 (xs.getD i 0)) := by
 rw [List.getElem?_map, List.getElem?_eq_getElem h, List.getD_eq_getElem?_getD, List.getElem?_eq_getElem h]; rfl
theorem l1In_c (n lo hi : Int) (w : World) : Calls Tryz.prog 53 #[.int .i64 n, .int .i64 lo, .int .i64 hi] w fun e w' => e = .returned (.bool (inB n lo hi)) ∧ w = w' := by
 by_cases h1 : lo ≤ n <;> by_cases h2 : n ≤ hi
 all_goals
  go_enter Tryz.func53, Tryz.ntmps53
  go_wp2; go_ret
  exact ⟨ret_bool (by rw [eq_comm]; first | (rw [inB_t]; omega) | (rw [inB_f]; omega)), rfl⟩
def byN (s : ByteArray) (i : Nat) : Nat := if h : i < s.size then s[i].toNat else 0
theorem byN_of {s : ByteArray} {i : Nat} (h : i < s.size) : byN s i = s[i].toNat := by unfold byN; rw [dif_pos h]
def LettersTo (s : ByteArray) (k : Nat) : Prop := ∀ i, i < k → 97 ≤ byN s i ∧ byN s i ≤ 122
theorem LettersTo.zero (s : ByteArray) : LettersTo s 0 := fun i h => absurd h (Nat.not_lt_zero _)
theorem LettersTo.succ {s : ByteArray} {k : Nat} (h : LettersTo s k) (h1 : 97 ≤ byN s k) (h2 : byN s k ≤ 122) : LettersTo s (k + 1) := by
 intro i hi
 by_cases e : i = k
 · subst e; exact ⟨h1, h2⟩
 · exact h i (by omega)
def TextOk (s : ByteArray) : Prop := (1 ≤ s.size ∧ s.size ≤ 8) ∧ LettersTo s s.size
theorem textValid_impl (s : ByteArray) (w : World) (hm : s.size ≤ 9223372036854775807) : Calls Tryz.prog 99 #[.string s] w fun e w' => e = .returned (.bool (bof (TextOk s))) ∧ w = w' := by
 by_cases h1 : s.size < 1
 · have hno := hid (show ¬ TextOk s from fun h => by have := h.1.1; omega); go_enter Tryz.func99, Tryz.ntmps99
   go_wp2; go_ret
   exact ⟨ret_bof_f hno.out, rfl⟩
 by_cases h8 : 8 < s.size
 · have hno := hid (show ¬ TextOk s from fun h => by have := h.1.2; omega); go_enter Tryz.func99, Tryz.ntmps99
   go_wp2; go_ret
   exact ⟨ret_bof_f hno.out, rfl⟩
 go_enter Tryz.func99, Tryz.ntmps99
 go_wp2; go_loop [14] (fun i => ∃ k : Nat, k ≤ s.size ∧ i = .int .i64 k ∧ LettersTo s k) (fun i => s.size - (intOf i).toNat)
 case atStart => exact ⟨0, Nat.zero_le _, rfl, LettersTo.zero _⟩
 case round =>
  obtain ⟨k, hk, rfl, hto⟩ := hrel; have HT := hid hto; clear hto; by_cases hlt : k < s.size
  · have HB := hid (byN_of hlt); have HNO := hid (show ¬ (97 ≤ byN s k ∧ byN s k ≤ 122) → ¬ TextOk s from fun h hh => h (hh.2 k hlt)); by_cases ha : s[k].toNat < 97
    · have hno := hid (HNO.out (fun h => by rw [HB.out] at h; omega)); go_wp2; go_ret; exact ⟨ret_bof_f hno.out, rfl⟩
    · by_cases hz : 122 < s[k].toNat
      · have hno := hid (HNO.out (fun h => by rw [HB.out] at h; omega)); go_wp2; go_ret; exact ⟨ret_bof_f hno.out, rfl⟩
      · have HT2 := hid (HT.out.succ (by rw [HB.out]; omega) (by rw [HB.out]; omega)); go_wp2; go_round
        case rel => exact ⟨k + 1, by omega, by go_num, HT2.out⟩
        case measure => simp [intOf]; omega
  · obtain rfl : k = s.size := by omega
    have hyes := hid (show TextOk s from ⟨by omega, HT.out⟩); go_wp2; go_ret; exact ⟨ret_bof_t hyes.out, rfl⟩
theorem textValid_spec (s : ByteArray) (w : World) (hm : s.size ≤ 9223372036854775807) : Calls Tryz.prog 149 #[.string s] w fun e w' => e = .returned (.bool (bof (TextOk s))) ∧ w = w' := by
 go_enter Tryz.func149, Tryz.ntmps149
 go_wp2; go_loop [3] (fun i => ∃ k : Nat, k ≤ s.size ∧ i = .int .i64 k ∧ LettersTo s k) (fun i => s.size - (intOf i).toNat)
 case atStart => exact ⟨0, Nat.zero_le _, rfl, LettersTo.zero _⟩
 case round =>
  obtain ⟨k, hk, rfl, hto⟩ := hrel; have HT := hid hto; clear hto; by_cases hlt : k < s.size
  · have HB := hid (byN_of hlt); have HNO := hid (show ¬ (97 ≤ byN s k ∧ byN s k ≤ 122) → ¬ TextOk s from fun h hh => h (hh.2 k hlt)); by_cases ha : s[k].toNat < 97
    · have hno := hid (HNO.out (fun h => by rw [HB.out] at h; omega)); go_wp2; go_ret; exact ⟨ret_bof_f hno.out, rfl⟩
    · by_cases hz : 122 < s[k].toNat
      · have hno := hid (HNO.out (fun h => by rw [HB.out] at h; omega)); go_wp2; go_ret; exact ⟨ret_bof_f hno.out, rfl⟩
      · have HT2 := hid (HT.out.succ (by rw [HB.out]; omega) (by rw [HB.out]; omega)); go_wp2; go_round
        case rel => exact ⟨k + 1, by omega, by go_num, HT2.out⟩
        case measure => simp [intOf]; omega
  · obtain rfl : k = s.size := by omega
    by_cases h1 : 1 ≤ s.size ∧ s.size ≤ 8
    · have hb : inB (s.size : Int) 1 8 = true := by rw [inB_t]; omega
      have hyes := hid (show TextOk s from ⟨h1, HT.out⟩); go_wp2_with (go_at_call 53; refine (l1In_c _ _ _ _).mono ?_; rw [hb]; rintro e w' ⟨rfl, rfl⟩)
      go_ret; exact ⟨ret_bof_t hyes.out, rfl⟩
    · have hb : inB (s.size : Int) 1 8 = false := by rw [inB_f]; omega
      have hno := hid (show ¬ TextOk s from fun h => h1 h.1); go_wp2_with (go_at_call 53; refine (l1In_c _ _ _ _).mono ?_; rw [hb]; rintro e w' ⟨rfl, rfl⟩)
      go_ret; exact ⟨ret_bof_f hno.out, rfl⟩
def hashTo (s : ByteArray) : Nat → Nat
 | 0 => 7
 | k + 1 => (31 * hashTo s k + byN s k) % 1009
theorem hashTo_le (s : ByteArray) : ∀ k, hashTo s k ≤ 1008
 | 0 => by show 7 ≤ 1008; omega
 | k + 1 => by unfold hashTo; omega
open Classical in
noncomputable def bucket (s : ByteArray) : Int := if TextOk s then ((hashTo s s.size % 3 : Nat) : Int) else -1
theorem bucket_yes {s : ByteArray} (h : TextOk s) : bucket s = ((hashTo s s.size % 3 : Nat) : Int) := by unfold bucket; rw [if_pos h]
theorem bucket_no {s : ByteArray} (h : ¬ TextOk s) : bucket s = -1 := by unfold bucket; rw [if_neg h]
theorem bucket_range (s : ByteArray) : -1 ≤ bucket s ∧ bucket s ≤ 2 := by
 by_cases h : TextOk s
 · rw [bucket_yes h]; omega
 · rw [bucket_no h]; omega
theorem bucket_ok {s : ByteArray} : 0 ≤ bucket s ↔ TextOk s := by
 by_cases h : TextOk s
 · rw [bucket_yes h]; exact ⟨fun _ => h, fun _ => by omega⟩
 · rw [bucket_no h]; exact ⟨fun h => by omega, fun h' => absurd h' h⟩
theorem byN_le (s : ByteArray) (i : Nat) : byN s i ≤ 255 := by
 unfold byN; split
 · next h => have := s[i].toNat_lt; omega
 · omega
theorem nameBucket_impl (s : ByteArray) (w : World) (hm : s.size ≤ 9223372036854775807) : Calls Tryz.prog 101 #[.string s] w fun e w' => e = .returned (.int .i64 (bucket s)) ∧ w = w' := by
 by_cases h : TextOk s
 · have hs8 := h.1.2; have HE := hid (bucket_yes h); have hbt := bof_t.2 h; clear h; go_enter Tryz.func101, Tryz.ntmps101
   go_wp2_with (go_at_call 99; refine (textValid_impl s _ hm).mono ?_; rw [hbt]; rintro e w' ⟨rfl, rfl⟩)
   go_loop [3, 10] (fun v i => ∃ k : Nat, k ≤ s.size ∧ i = .int .i64 k ∧ v = .int .i64 (hashTo s k : Nat)) (fun _ i => s.size - (intOf i).toNat)
   case atStart => exact ⟨0, Nat.zero_le _, rfl, rfl⟩
   case round =>
    obtain ⟨k, hk, rfl, rfl⟩ := hrel; have hq := hashTo_le s k; by_cases hlt : k < s.size
    · have HB := hid (byN_of hlt); have HH := hid (show hashTo s (k + 1) = (31 * hashTo s k + byN s k) % 1009 from rfl); have hb := byN_le s k; rw [byN_of hlt] at hb; generalize hashTo s k = q at *; go_wp2; go_round
      case rel => exact ⟨k + 1, by omega, by go_num, by rw [HH.out, HB.out]; go_num⟩
      case measure => simp [intOf]; omega
    · obtain rfl : k = s.size := by omega
      go_wp2; go_ret
      exact ⟨ret_int (by rw [HE.out]; omega), rfl⟩
 · have hbf := bof_f.2 h; have HE := hid (bucket_no h); clear h; go_enter Tryz.func101, Tryz.ntmps101
   go_wp2_with (go_at_call 99; refine (textValid_impl s _ hm).mono ?_; rw [hbf]; rintro e w' ⟨rfl, rfl⟩)
   go_ret; exact ⟨ret_int HE.out.symm, rfl⟩
theorem nameBucket_spec (s : ByteArray) (w : World) (hm : s.size ≤ 9223372036854775807) : Calls Tryz.prog 105 #[.string s] w fun e w' => e = .returned (.int .i64 (bucket s)) ∧ w = w' := by
 by_cases h : TextOk s
 · have hs8 := h.1.2; have HE := hid (bucket_yes h); have hbt := bof_t.2 h; clear h; go_enter Tryz.func105, Tryz.ntmps105
   go_wp2_with (go_at_call 149; refine (textValid_spec s _ hm).mono ?_; rw [hbt]; rintro e w' ⟨rfl, rfl⟩)
   go_loop [3, 4] (fun v i => ∃ k : Nat, k ≤ s.size ∧ i = .int .i64 k ∧ v = .int .i64 (hashTo s k : Nat)) (fun _ i => s.size - (intOf i).toNat)
   case atStart => exact ⟨0, Nat.zero_le _, rfl, rfl⟩
   case round =>
    obtain ⟨k, hk, rfl, rfl⟩ := hrel; have hq := hashTo_le s k; by_cases hlt : k < s.size
    · have HB := hid (byN_of hlt); have HH := hid (show hashTo s (k + 1) = (31 * hashTo s k + byN s k) % 1009 from rfl); have hb := byN_le s k; rw [byN_of hlt] at hb; generalize hashTo s k = q at *; go_wp2; go_round
      case rel => exact ⟨k + 1, by omega, by go_num, by rw [HH.out, HB.out]; go_num⟩
      case measure => simp [intOf]; omega
    · obtain rfl : k = s.size := by omega
      go_wp2; go_ret
      exact ⟨ret_int (by rw [HE.out]; omega), rfl⟩
 · have hbf := bof_f.2 h; have HE := hid (bucket_no h); clear h; go_enter Tryz.func105, Tryz.ntmps105
   go_wp2_with (go_at_call 149; refine (textValid_spec s _ hm).mono ?_; rw [hbf]; rintro e w' ⟨rfl, rfl⟩)
   go_ret; exact ⟨ret_int HE.out.symm, rfl⟩
theorem bl_irrefl : ∀ x : List UInt8, Op.bytesLess x x = false
 | [] => by simp [Op.bytesLess]
 | a :: x => by simp [Op.bytesLess, bl_irrefl x]
theorem bl_total : ∀ x y : List UInt8, Op.bytesLess x y = true ∨ x = y ∨ Op.bytesLess y x = true
 | [], [] => .inr (.inl rfl)
 | [], _ :: _ => .inl (by simp [Op.bytesLess])
 | _ :: _, [] => .inr (.inr (by simp [Op.bytesLess]))
 | a :: x, b :: y => by
  simp only [Op.bytesLess, Bool.or_eq_true, Bool.and_eq_true, decide_eq_true_eq, beq_iff_eq, List.cons.injEq]; rcases Nat.lt_trichotomy a.toNat b.toNat with h | h | h
  · exact .inl (.inl (UInt8.lt_iff_toNat_lt.2 h))
  · have e : a = b := UInt8.toNat_inj.1 h; subst e; rcases bl_total x y with h1 | h1 | h1
    · exact .inl (.inr ⟨rfl, h1⟩)
    · exact .inr (.inl ⟨rfl, h1⟩)
    · exact .inr (.inr (.inr ⟨rfl, h1⟩))
  · exact .inr (.inr (.inl (UInt8.lt_iff_toNat_lt.2 h)))
theorem bl_trans : ∀ {x y z : List UInt8}, Op.bytesLess x y = true → Op.bytesLess y z = true → Op.bytesLess x z = true
 | [], [], z, h, _ => by simp [Op.bytesLess] at h
 | [], _ :: _, [], _, h => by simp [Op.bytesLess] at h
 | [], _ :: _, _ :: _, _, _ => by simp [Op.bytesLess]
 | _ :: _, [], _, h, _ => by simp [Op.bytesLess] at h
 | _ :: _, _ :: _, [], _, h => by simp [Op.bytesLess] at h
 | a :: x, b :: y, c :: z, h1, h2 => by
  simp only [Op.bytesLess, Bool.or_eq_true, Bool.and_eq_true, decide_eq_true_eq, beq_iff_eq, UInt8.lt_iff_toNat_lt] at h1 h2 ⊢; rcases h1 with h1 | ⟨e1, h1⟩
  · rcases h2 with h2 | ⟨e2, h2⟩
    · exact .inl (by omega)
    · subst e2; exact .inl h1
  · subst e1; rcases h2 with h2 | ⟨e2, h2⟩
    · exact .inl h2
    · exact .inr ⟨e2, bl_trans h1 h2⟩
theorem toList_inj' {a b : ByteArray} (h : a.toList = b.toList) : a = b := by
 rw [ByteArray.toList_eq, ByteArray.toList_eq] at h; cases a; cases b
 simp only at h; congr 1
 exact Array.toList_inj.1 h
def sLt (a b : ByteArray) : Prop := Op.bytesLess a.toList b.toList = true
theorem sLt_irrefl (a : ByteArray) : ¬ sLt a a := by unfold sLt; rw [bl_irrefl]; simp
theorem sLt_trans {a b c : ByteArray} (h : sLt a b) (k : sLt b c) : sLt a c := bl_trans h k
theorem sLt_total (a b : ByteArray) : sLt a b ∨ a = b ∨ sLt b a := by
 rcases bl_total a.toList b.toList with h | h | h
 · exact .inl h
 · exact .inr (.inl (toList_inj' h))
 · exact .inr (.inr h)
theorem sLe_iff (a b : ByteArray) : (Op.bytesLess a.toList b.toList || a.toList == b.toList) = true ↔ ¬ sLt b a := by
 rw [Bool.or_eq_true, beq_iff_eq]; constructor
 · rintro (h | h) k
   · exact sLt_irrefl a (sLt_trans h k)
   · rw [toList_inj' h] at k; exact sLt_irrefl _ k
 · intro h
   rcases sLt_total a b with k | k | k
   · exact .inl k
   · exact .inr (by rw [k])
   · exact absurd k h
def NBef (a b : ByteArray) : Prop := bucket a < bucket b ∨ (bucket a = bucket b ∧ sLt a b)
theorem NBef_irrefl (a : ByteArray) : ¬ NBef a a := by
 rintro (h | ⟨_, h⟩)
 · omega
 · exact sLt_irrefl a h
theorem NBef_trans {a b c : ByteArray} (h : NBef a b) (k : NBef b c) : NBef a c := by
 rcases h with h | ⟨h1, h2⟩
 · rcases k with k | ⟨k1, k2⟩
   · exact .inl (by omega)
   · exact .inl (by omega)
 · rcases k with k | ⟨k1, k2⟩
   · exact .inl (by omega)
   · exact .inr ⟨by omega, sLt_trans h2 k2⟩
theorem NBef_total (a b : ByteArray) : NBef a b ∨ a = b ∨ NBef b a := by
 rcases Int.lt_trichotomy (bucket a) (bucket b) with h | h | h
 · exact .inl (.inl h)
 · rcases sLt_total a b with k | k | k
   · exact .inl (.inr ⟨h, k⟩)
   · exact .inr (.inl k)
   · exact .inr (.inr (.inr ⟨h.symm, k⟩))
 · exact .inr (.inr (.inl h))
theorem nameBefore_c (a b : ByteArray) (w : World) (ha : a.size ≤ 9223372036854775807) (hb : b.size ≤ 9223372036854775807) : Calls Tryz.prog 100 #[.string a, .string b] w fun e w' => e = .returned (.bool (bof (NBef a b))) ∧ w = w' := by
 have r1 := bucket_range a; have r2 := bucket_range b; by_cases he : bucket a = bucket b
 · have hq : (bucket a == bucket b) = true := by simp [he]
   have HE := hid he; clear he; go_enter Tryz.func100, Tryz.ntmps100
   go_wp2_with (go_at_call 101; refine (nameBucket_impl _ _ (by assumption)).mono ?_; rintro e w' ⟨rfl, rfl⟩)
   go_ret; exact ⟨ret_bof_iff ⟨fun h => .inr ⟨HE.out, h⟩, fun h => by
    rcases h with h | ⟨_, h⟩
    · have := HE.out; omega
    · exact h⟩, rfl⟩
 · have hq : (bucket a == bucket b) = false := by simp [he]
   have HE := hid he; clear he; go_enter Tryz.func100, Tryz.ntmps100
   go_wp2_with (go_at_call 101; refine (nameBucket_impl _ _ (by assumption)).mono ?_; rintro e w' ⟨rfl, rfl⟩)
   go_ret; exact ⟨ret_bof_iff ⟨fun h => .inl (by simpa using h), fun h => by
    rcases h with h | ⟨h, _⟩
    · simpa using h
    · exact absurd h HE.out⟩, rfl⟩
def dig (x : Int) : ByteArray := strOfNums [x]
def decT (n : Nat) : ByteArray := if h : n < 10 then dig (48 + (n : Int)) else decT (n / 10) ++ dig (48 + ((n % 10 : Nat) : Int))
def preT (n : Nat) : ByteArray := if n < 10 then ByteArray.empty else decT (n / 10)
theorem dig_size (x : Int) : (dig x).size = 1 := rfl
theorem decT_pre (n : Nat) : decT n = preT n ++ dig (48 + ((n % 10 : Nat) : Int)) := by
 unfold preT; rw [decT]; by_cases h : n < 10
 · rw [dif_pos h, if_pos h, Nat.mod_eq_of_lt h]; simp
 · rw [dif_neg h, if_neg h]
theorem conv_one (W : World) (x : Int) : (convert 22 9 (.slice (some ⟨W.heap.size, 0, none⟩) 1 1)).run Tryz.prog (W.alloc (.cells #[.int .u8 x] 5)) = .ok (.string (dig x)) (W.alloc (.cells #[.int .u8 x] 5)) := by
 refine run_convert_bytes_arg _ 22 5 Tryz.underlying22 Tryz.underlying5 W.heap.size 0 1 1 [x] rfl ?_ 9 Tryz.underlying9; intro i hi
 obtain rfl : i = 0 := by omega
 have := (Blk.new W 5 #[.int .u8 x]).cell 0; simp
set_option maxRecDepth 8000 in
set_option maxHeartbeats 1000000 in
theorem l34Text_c (n : Nat) (hn : n ≤ 100000) (w : World) : Calls Tryz.prog 56 #[.int .i64 (n : Int)] w fun e w' => e = .returned (.string (decT n)) ∧ Below w.heap.size w w' := by
 have hcv := conv_one; have hcv1 := hid (conv_one w (48 + (n : Int) % 10)); have b1 : Below w.heap.size w (w.alloc (.cells #[.int .u8 (48 + (n : Int) % 10)] 5)) := (Below.refl _ _).alloc (Nat.le_refl _) _; have B1 := hid b1; have HD := hid (decT_pre n); clear b1; go_enter Tryz.func56, Tryz.ntmps56
 go_wp2_with fail; generalize w.alloc (.cells #[.int .u8 (48 + (n : Int) % 10)] 5) = w1 at *
 go_loopw [0, 3] (fun i v wr => ∃ (m : Nat) (r : ByteArray), m ≤ n ∧ i = .int .i64 m ∧ v = .string r ∧ preT m ++ r = decT n ∧ r.size + m ≤ n + 1 ∧ Below w.heap.size w wr) (fun i _ _ => (intOf i).toNat)
 case atStart => exact ⟨n, _, Nat.le_refl _, rfl, rfl, HD.out.symm, by rw [dig_size]; omega, B1.out⟩
 case round =>
  obtain ⟨m, r, hm, rfl, rfl, he, hrs, hb⟩ := hrel; have B2 := hid hb; have HE := hid he; have s2 := hb.size; clear hb he; by_cases h9 : 9 < m
  · have mI : (9 : Int) < m := by omega
    have HQ2 := hid (show (m : Int) / 10 = ((m / 10 : Nat) : Int) by omega); have HP := hid (show preT m = preT (m / 10) ++ dig (48 + ((m / 10 % 10 : Nat) : Int)) from by
     have : preT m = decT (m / 10) := by unfold preT; rw [if_neg (by omega)]
     rw [this, decT_pre])
    have bA := B2.out.alloc s2 (.cells #[.int .u8 (48 + (m : Int) / 10 % 10)] 5); have BA := hid bA; clear bA; have HRS := hid (show (dig (48 + (m : Int) / 10 % 10) ++ r).size + m / 10 ≤ n + 1 by rw [ByteArray.size_append, dig_size]; omega); have hcat : (dig (48 + (m : Int) / 10 % 10)).size + r.size ≤ 9223372036854775807 := by rw [dig_size]; omega
    go_wp2; go_roundw
    case rel => exact ⟨m / 10, _, by omega, by rw [HQ2.out], rfl, by rw [← HE.out, HP.out, ByteArray.append_assoc, show (48 + (m : Int) / 10 % 10) = 48 + ((m / 10 % 10 : Nat) : Int) by omega], HRS.out, BA.out⟩
    case measure => simp [intOf]; omega
  · have HP := hid (show r = decT n from by rw [← HE.out]; unfold preT; rw [if_pos (by omega)]; simp); go_wp2; go_ret; exact ⟨by rw [← HP.out]; rfl, B2.out⟩
def DigTo (s : ByteArray) (k : Nat) : Prop := ∀ i, i < k → 48 ≤ byN s i ∧ byN s i ≤ 57
theorem DigTo.zero (s : ByteArray) : DigTo s 0 := fun i h => absurd h (Nat.not_lt_zero _)
theorem DigTo.succ {s : ByteArray} {k : Nat} (h : DigTo s k) (h1 : 48 ≤ byN s k) (h2 : byN s k ≤ 57) : DigTo s (k + 1) := by
 intro i hi
 by_cases e : i = k
 · subst e; exact ⟨h1, h2⟩
 · exact h i (by omega)
def valTo (s : ByteArray) : Nat → Nat
 | 0 => 0
 | k + 1 => 10 * valTo s k + (byN s k - 48)
theorem valTo_lt {s : ByteArray} : ∀ {k : Nat}, DigTo s k → valTo s k < 10 ^ k
 | 0, _ => by simp [valTo]
 | k + 1, h => by
  have := valTo_lt (s := s) (k := k) (fun i hi => h i (by omega)); have hk := h k (by omega); unfold valTo; rw [Nat.pow_succ]; omega
def NumOk (s : ByteArray) : Prop := s.size ≤ 4 ∧ DigTo s s.size ∧ s.size ≠ 0 ∧ decT (valTo s s.size) = s
open Classical in
/-- the number that a text is, -1 without one -/
noncomputable def numT (s : ByteArray) : Int := if NumOk s then ((valTo s s.size : Nat) : Int) else -1
theorem numT_yes {s : ByteArray} (h : NumOk s) : numT s = ((valTo s s.size : Nat) : Int) := by unfold numT; rw [if_pos h]
theorem numT_no {s : ByteArray} (h : ¬ NumOk s) : numT s = -1 := by unfold numT; rw [if_neg h]
set_option maxRecDepth 8000 in
set_option maxHeartbeats 1000000 in
theorem l34Number_c (s : ByteArray) (w : World) (hm : s.size ≤ 9223372036854775807) : Calls Tryz.prog 50 #[.string s] w fun e w' => e = .returned (.int .i64 (numT s)) ∧ Below w.heap.size w w' := by
 go_enter Tryz.func50, Tryz.ntmps50
 go_wp2; go_loop [3, 4] (fun v i => ∃ k : Nat, k ≤ s.size ∧ k ≤ 4 ∧ i = .int .i64 k ∧ v = .int .i64 (valTo s k : Nat) ∧ DigTo s k) (fun _ i => s.size - (intOf i).toNat)
 case atStart => exact ⟨0, Nat.zero_le _, by omega, rfl, rfl, DigTo.zero _⟩
 case round =>
  obtain ⟨k, hk, hk4, rfl, rfl, hto⟩ := hrel; have hv := valTo_lt hto; have hp : 10 ^ k ≤ 10 ^ 4 := Nat.pow_le_pow_right (by omega) hk4; have HT := hid hto; clear hto; by_cases hlt : k < s.size
  · have HB := hid (byN_of hlt); have HNO := hid (show ¬ (48 ≤ byN s k ∧ byN s k ≤ 57) → ¬ NumOk s from fun h hh => h (hh.2.1 k hlt)); have HNK := hid (show ¬ k ≤ 3 → ¬ NumOk s from fun h hh => by have := hh.1; omega); have HV := hid (show valTo s (k + 1) = 10 * valTo s k + (byN s k - 48) from rfl); generalize valTo s k = q at *; have hq4 : q < 10000 := by omega
    clear hv hp; by_cases ha : s[k].toNat < 48
    · have hno := hid (numT_no (HNO.out (fun h => by rw [HB.out] at h; omega))); go_wp2; go_ret; exact ⟨by rw [hno.out]; rfl, Below.refl _ _⟩
    · by_cases hz : 57 < s[k].toNat
      · have hno := hid (numT_no (HNO.out (fun h => by rw [HB.out] at h; omega))); go_wp2; go_ret; exact ⟨by rw [hno.out]; rfl, Below.refl _ _⟩
      · by_cases h3 : k ≤ 3
        · have HT2 := hid (HT.out.succ (by rw [HB.out]; omega) (by rw [HB.out]; omega)); have hx : s[k].toNat < 256 := s[k].toNat_lt; have h3I : ¬ (3 : Int) < (k : Int) := by omega
          go_wp2; go_round
          case rel => exact ⟨k + 1, by omega, by omega, by go_num, by rw [HV.out, HB.out]; go_num, HT2.out⟩
          case measure => simp [intOf]; omega
        · have hno := hid (numT_no (HNK.out h3)); have h3I : (3 : Int) < (k : Int) := by omega
          go_wp2; go_ret
          exact ⟨by rw [hno.out]; rfl, Below.refl _ _⟩
  · obtain rfl : k = s.size := by omega
    by_cases h0 : s.size = 0
    · have hno := hid (numT_no (fun h : NumOk s => h.2.2.1 h0)); have hs0 : s.toList = [] := by
       rw [ByteArray.toList_eq]; have : s.data = #[] := Array.eq_empty_of_size_eq_zero h0; rw [this]
      have hs1 : s.toList.isEmpty = true := by rw [hs0]; rfl
      clear HT; go_wp2; go_ret; exact ⟨by rw [hno.out]; rfl, Below.refl _ _⟩
    · have hs0 : ¬ s.toList = [] := fun h => h0 (by
       rw [ByteArray.toList_eq] at h; have : s.data = #[] := Array.toList_inj.1 h; show s.data.size = 0
       rw [this]; rfl)
      have hs1 : s.toList.isEmpty = false := by
       cases h : s.toList with
       | nil => exact absurd h hs0
       | cons a b => rfl
      have HV := hid (show numT s = if decT (valTo s s.size) = s then ((valTo s s.size : Nat) : Int) else -1 from by
       by_cases h : decT (valTo s s.size) = s
       · rw [if_pos h]; exact numT_yes ⟨hk4, HT.out, h0, h⟩
       · rw [if_neg h]; exact numT_no (fun hh => h hh.2.2.2))
      generalize valTo s s.size = q at *; go_wp2_with fail; refine (l34Text_c q (by omega) _).mono ?_; rintro e w2 ⟨rfl, b2⟩; have B2 := hid b2; by_cases he : decT q = s
      · have hd : ((decT q).toList == s.toList) = true := by rw [he]; exact beq_self_eq_true _
        have HV2 := hid (show numT s = (q : Int) from by rw [HV.out, if_pos he]); go_wp2; go_ret; exact ⟨by rw [HV2.out]; rfl, B2.out⟩
      · have hd : ((decT q).toList == s.toList) = false := beq_eq_false_iff_ne.2 (fun h => he (toList_inj' h)); have HV2 := hid (show numT s = -1 from by rw [HV.out, if_neg he]); go_wp2; go_ret; exact ⟨by rw [HV2.out]; rfl, B2.out⟩
end Go.Proofs.YtefdjahaimnndaaGreatDoor
