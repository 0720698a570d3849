/- Parts of the proof, one after the other; each says what it proves. -/
import Derived.Deep.RegionHeld3
import Derived.Test.YtjnpgdhpneifjaaRows
import Derived.WalkKit
import Derived.ProofKit
import Derived.OpenShut
import Derived.ShutString
import Derived.ChangeOld
import Derived.WalkSpells
import Derived.WalkLawsBesides
import Derived.Outline
import Derived.Below
import Derived.Handy
import Derived.IntWalk
import Derived.Lib.Hide
import Derived.Deep.QuietTactic
import Derived.BigQuiet
import Derived.Deep.RegionWith
import Derived.Deep.DeepCutAuto
import Derived.Deep.DeepFit
import Derived.Deep.Draws
import Derived.Laws.BitsAllLaws
import Derived.Laws.BitsLemmas
import Derived.Deep.Slices
import Derived.Deep.Fields
import Derived.ChangeSame
import Derived.Maps.AppendAt
import Derived.Deep.AppendLies
import Derived.Laws.OwnMore
import Derived.Laws.Rows
/- Short forms of the kit's moves in a region of any order under a held condition. No condition. -/
namespace Go.Proofs.Ytjnpgdhpneifjaa
variable {P : Program} {ops : Array Oper} {Q : Exit → Act → World → Prop} {md : Region.Mode} {S : World → Prop}
/-- operation i yields its value wherever S holds: take it first -/
theorem tk (i : Nat) {oi : Oper} {v : Value} {fuel : Nat} {listed : Array Bool} {a a' : Act} {w : World} (h : wpAnyH P md ops Q S fuel (listed.setIfInBounds i true) a' w)
    (hi : ops[i]? = some oi := by exact rfl) (hs : Region.noSelect ops = true := by kernel_rfl) (hf : Region.free md ops listed i = true := by kernel_rfl) (hr : (Region.ready md ops listed).contains i = true := by kernel_rfl)
    (hw : Region.wanted oi (yielded ops a.tmps) = true := by exact rfl) (hy : ∀ w, S w → (execOp a.eval oi).run P w = .ok (.value v) w := by (intro w hSw; (try dsimp only at hSw); go_simp; (try with_reducible rfl)))
    (ha : a.put oi.dst v = a' := by ((try simp only [Act.put, List.setIfInBounds_toArray, List.set_cons_zero, List.set_cons_succ, List.getElem_toArray, List.getElem_cons_zero, List.getElem_cons_succ]); exact rfl))
    (hQ : ∀ c a w, Q (.panic c) (a.put oi.dst v) w → Q (.panic c) a w := by exact fun _ _ _ h => h) (hS : S w := by assumption) : wpAnyH P md ops Q S (fuel + 1) listed a w := by
  subst ha
  exact wpAnyH_take hi hs hf hr hQ (Or.inl ⟨hw, hy⟩) hS h
/-- operation i is not wanted -/
theorem sk (i : Nat) {oi : Oper} {fuel : Nat} {listed : Array Bool} {a a' : Act} {w : World} (h : wpAnyH P md ops Q S fuel (listed.setIfInBounds i true) a' w)
    (hi : ops[i]? = some oi := by exact rfl) (hs : Region.noSelect ops = true := by kernel_rfl) (hf : Region.free md ops listed i = true := by kernel_rfl) (hr : (Region.ready md ops listed).contains i = true := by kernel_rfl)
    (hw : Region.wanted oi (yielded ops a.tmps) = false := by exact rfl)
    (ha : a.put oi.dst undef = a' := by ((try simp only [Act.put, List.setIfInBounds_toArray, List.set_cons_zero, List.set_cons_succ, List.getElem_toArray, List.getElem_cons_zero, List.getElem_cons_succ]); exact rfl))
    (hQ : ∀ c a w, Q (.panic c) (a.put oi.dst undef) w → Q (.panic c) a w := by exact fun _ _ _ h => h) (hS : S w := by assumption) : wpAnyH P md ops Q S (fuel + 1) listed a w := by
  subst ha
  exact wpAnyH_take hi hs hf hr hQ (Or.inr ⟨hw, rfl⟩) hS h
/-- the state put in its written form -/
theorem pt {fuel : Nat} {listed : Array Bool} {a a' : Act} {w : World} (h : wpAnyH P md ops Q S fuel listed a' w) (ha : a = a' := by ((try simp only [Act.put, List.setIfInBounds_toArray, List.set_cons_zero, List.set_cons_succ, List.getElem_toArray, List.getElem_cons_zero, List.getElem_cons_succ]); exact rfl)) : wpAnyH P md ops Q S fuel listed a w := ha ▸ h
/-- operation i is the one that may come up -/
theorem rd1 (i : Nat) {o : Oper} {fuel : Nat} {listed : Array Bool} {a : Act} {w : World}
    (h : ∀ K' : Act → World → Prop, Shut (∀ a w, S w → (S w → wpAnyH P md ops Q S fuel (listed.setIfInBounds i true) a w) → K' a w) → if Region.wanted o (yielded ops a.tmps) = true then Oper.wp P o a w K' Q else K' (a.put o.dst undef) w)
    (ho : ops[i]? = some o := by exact rfl) (hr : Region.ready md ops listed = [i] := by kernel_rfl) : wpAnyH P md ops Q S (fuel + 1) listed a w :=
  wpAnyH_ready hr (by simp) (AllReadyH.cons ho h AllReadyH.nil)
/-- operations i and j are those that may come up -/
theorem rd2 (i j : Nat) {o o' : Oper} {fuel : Nat} {listed : Array Bool} {a : Act} {w : World}
    (h : ∀ K' : Act → World → Prop, Shut (∀ a w, S w → (S w → wpAnyH P md ops Q S fuel (listed.setIfInBounds i true) a w) → K' a w) → if Region.wanted o (yielded ops a.tmps) = true then Oper.wp P o a w K' Q else K' (a.put o.dst undef) w)
    (h' : ∀ K' : Act → World → Prop, Shut (∀ a w, S w → (S w → wpAnyH P md ops Q S fuel (listed.setIfInBounds j true) a w) → K' a w) → if Region.wanted o' (yielded ops a.tmps) = true then Oper.wp P o' a w K' Q else K' (a.put o'.dst undef) w)
    (ho : ops[i]? = some o := by exact rfl) (ho' : ops[j]? = some o' := by exact rfl) (hr : Region.ready md ops listed = [i, j] := by kernel_rfl) : wpAnyH P md ops Q S (fuel + 1) listed a w :=
  wpAnyH_ready hr (by simp) (AllReadyH.cons ho h (AllReadyH.cons ho' h' AllReadyH.nil))
end Go.Proofs.Ytjnpgdhpneifjaa

/- Small lemmas that all texts of this seat use: how slices read, which blocks stay, endings. No condition. -/
namespace Go.Proofs.Ytjnpgdhpneifjaa
open Go.ChangeShapes Go.WideShapes Go.ChangeAt Go.RowKit Go.Deep
set_option linter.unusedVariables false

theorem own : ownKnob Try.prog.godebug = none := by kernel_rfl
theorem laidOut : laidOutB Try.prog = true := by kernel_rfl

theorem ret_int {k : IntKind} {a b : Int} (h : a = b) : Ending.returned (.int k a) = .returned (.int k b) := by rw [h]
theorem ret_bool {a b : Bool} (h : a = b) : Ending.returned (.bool a) = .returned (.bool b) := by rw [h]

/-- lo ≤ n ≤ hi, as a Bool that the walk does not take apart. -/
def inB (n lo hi : Int) : Bool := decide (lo ≤ n ∧ n ≤ hi)
theorem inB_t {n lo hi : Int} : inB n lo hi = true ↔ lo ≤ n ∧ n ≤ hi := by simp [inB]
theorem inB_f {n lo hi : Int} : inB n lo hi = false ↔ (n < lo ∨ hi < n) := by simp [inB]; omega

/-- What a law's walk is told of a slice of integers that came in. -/
def IsRow (k : IntKind) (w : World) (a : Option Addr) (len cap : Nat) (zs : List Int) : Prop :=
  (a = none ∧ len = 0 ∧ cap = 0 ∧ zs = []) ∨
  ∃ x, a = some x ∧ len ≤ cap ∧ cap ≤ maxLen ∧ zs.length = cap ∧ (∀ i, i < zs.length → w.cell? (x.add i) = some (.int k (zs.getD i 0))) ∧ ∀ n ∈ zs, (Lit.int k n).wf = true

theorem block_lt_of_cell {w : World} {a : Addr} {v : Value} (h : w.cell? a = some v) : a.block < w.heap.size := by
  rcases Nat.lt_or_ge a.block w.heap.size with hl | hl
  · exact hl
  · unfold World.cell? at h; rw [Array.getElem?_eq_none hl] at h; cases h

theorem add_none (b off i : Nat) : (⟨b, off, none⟩ : Addr).add i = ⟨b, off + i, none⟩ := by
  unfold Addr.add
  split
  · next h => rw [h]; rfl
  · rfl
/-- A slice of integers of kind k that reads as xs, in a block below B. -/
structure RdI (k : IntKind) (w : World) (B : Nat) (A : Option Addr) (n : Nat) (xs : List Int) : Prop where
  len : xs.length = n
  at_ : 0 < n → ∃ b off, A = some ⟨b, off, none⟩ ∧ b < B ∧ ∀ i, i < n → w.cell? ⟨b, off + i, none⟩ = some (.int k (xs.getD i 0))

theorem RdI.mono {k w B B' A n xs} (h : RdI k w B A n xs) (hB : B ≤ B') : RdI k w B' A n xs :=
  ⟨h.len, fun hn => by obtain ⟨b, off, e, hb, hc⟩ := h.at_ hn; exact ⟨b, off, e, by omega, hc⟩⟩
theorem RdI.below {k w w' B A n xs} (h : RdI k w B A n xs) (hb : Below B w w') : RdI k w' B A n xs :=
  ⟨h.len, fun hn => by obtain ⟨b, off, e, hb1, hc⟩ := h.at_ hn; exact ⟨b, off, e, hb1, fun i hi => (hb.cell hb1).trans (hc i hi)⟩⟩
theorem RdI.nil {k w B A} : RdI k w B A 0 [] := ⟨rfl, fun h => absurd h (Nat.lt_irrefl _)⟩
theorem RdI.alloc {k w B A n xs} (h : RdI k w B A n xs) (hB : B ≤ w.heap.size) (o : Obj) : RdI k (w.alloc o) B A n xs :=
  h.below ((Below.refl _ _).alloc hB o)
theorem RdI.drew {k w B A n xs} (h : RdI k w B A n xs) : RdI k w.drew B A n xs := ⟨h.len, h.at_⟩
theorem RdI.drewN {k w B A n xs} (h : RdI k w B A n xs) (m : Nat) : RdI k (w.drewN m) B A n xs := ⟨h.len, h.at_⟩

theorem isRow_rd {k w a len cap zs} (h : IsRow k w a len cap zs) : len ≤ cap ∧ cap ≤ maxLen ∧ RdI k w w.heap.size a len (zs.take len) ∧ ∀ n ∈ zs.take len, (Lit.int k n).wf = true := by
  rcases h with ⟨rfl, rfl, rfl, rfl⟩ | ⟨x, rfl, hl, hm, hz, hc, hw⟩
  · exact ⟨Nat.le_refl _, by decide, ⟨rfl, fun h => absurd h (Nat.lt_irrefl _)⟩, by simp⟩
  · refine ⟨hl, hm, ⟨by simp; omega, fun hn => ?_⟩, fun n hn => hw n (List.mem_of_mem_take hn)⟩
    obtain ⟨b, off, spot⟩ := x
    have hc0 := hc 0 (by omega)
    have hspot : spot = none := by simpa [Addr.add] using World.cell?_spot hc0
    subst hspot
    refine ⟨b, off, rfl, by simpa [Addr.add] using block_lt_of_cell hc0, fun i hi => ?_⟩
    have := hc i (by omega)
    rw [add_none] at this
    rw [this, List.getD_eq_getElem?_getD, List.getD_eq_getElem?_getD, List.getElem?_take_of_lt hi]

/-- an owned row of integers reads as them -/
theorem rd_of_own {w : World} {base : Nat} {e : TypeId} {k : IntKind} {v : Value} {n : Nat} {xs : List Int}
    (h : w.ownsRow base e 1 v n (xs.map (Value.int k))) : ∃ A c, v = .slice A n c ∧ n ≤ c ∧ c ≤ maxLen ∧ RdI k w w.heap.size A n xs := by
  have hl : xs.length = n := by have := h.1; simpa using this
  rcases h.2 with ⟨rfl, rfl⟩ | ⟨g, cap, cur, rfl, hb, hh, hnc, hm, hsz, htk⟩
  · exact ⟨none, 0, rfl, Nat.le_refl _, by decide, hl, fun h => absurd h (Nat.lt_irrefl _)⟩
  · refine ⟨_, cap, rfl, hnc, hm, hl, fun hn => ⟨g, 0, rfl, ?_, fun i hi => ?_⟩⟩
    · rcases Nat.lt_or_ge g w.heap.size with hlt | hge
      · exact hlt
      · rw [Array.getElem?_eq_none hge] at hh; cases hh
    · have hcell := h.cellAt (g := g) (cap := cap) i (by omega)
      rw [Nat.zero_add, hcell, List.getElem?_map]
      rw [List.getD_eq_getElem?_getD, List.getElem?_eq_getElem (by omega)]
      rfl

theorem bcell {B : Nat} {W w1 : World} (hb : Below B W w1) : (∀ b o, b < B → w1.cell? ⟨b, o, none⟩ = W.cell? ⟨b, o, none⟩) ∧ (∀ b o, b < B → w1.frozen? ⟨b, o, none⟩ = W.frozen? ⟨b, o, none⟩) :=
  ⟨fun b o h => hb.cell (p := ⟨b, o, none⟩) h, fun b o h => hb.frozen (p := ⟨b, o, none⟩) h⟩

theorem below_drewN {B : Nat} {a w : World} (h : Below B a w) (n : Nat) : Below B a (w.drewN n) := ⟨h.os, h.tape, h.output, h.size, h.block⟩

/-! ### frames: only one block has turned -/
theorem gb_trans {a b c : World} {g : Nat} (h : a.grownBy b (some g)) (k : b.grownBy c (some g)) : a.grownBy c (some g) :=
  ⟨k.os.trans h.os, k.tape.trans h.tape, k.output.trans h.output, Nat.le_trans h.size k.size, fun i hi hne => (k.block i (Nat.lt_of_lt_of_le hi h.size) hne).trans (h.block i hi hne)⟩
theorem gb_drewN {a w : World} {row : Option Nat} (h : a.grownBy w row) (n : Nat) : a.grownBy (w.drewN n) row := ⟨h.os, h.tape, h.output, h.size, h.block⟩
theorem gb_drew {a w : World} {row : Option Nat} (h : a.grownBy w row) : a.grownBy w.drew row := ⟨h.os, h.tape, h.output, h.size, h.block⟩
theorem gb_alloc {a w : World} {row : Option Nat} (h : a.grownBy w row) (o : Obj) : a.grownBy (w.alloc o) row :=
  ⟨h.os, h.tape, h.output, Nat.le_trans h.size (by simp), fun i hi hne => (Below.heap_alloc w o i (Nat.lt_of_lt_of_le hi h.size)).trans (h.block i hi hne)⟩
theorem gb_setCell {a w : World} {g : Nat} (h : a.grownBy w (some g)) {p : Addr} (hp : p.block = g ∨ a.heap.size ≤ p.block) (u : Value) : a.grownBy (w.setCell p u) (some g) :=
  ⟨h.os, h.tape, h.output, by simpa [World.setCell] using h.size, fun i hi hne => (Below.heap_setCell w p u i (by
    rintro rfl
    rcases hp with hp | hp
    · exact hne (by rw [hp])
    · omega)).trans (h.block i hi hne)⟩
theorem gb_of_below {a w : World} (h : Below a.heap.size a w) (row : Option Nat) : a.grownBy w row := ⟨h.os, h.tape, h.output, h.size, fun i hi _ => h.block i hi⟩
theorem below_of_gb {a w w' : World} {B g : Nat} (h : Below B a w) (hg : w.grownBy w' (some g)) (hB : B ≤ w.heap.size) (hr : B ≤ g) : Below B a w' :=
  h.grown hg hB (by intro k hk; injection hk with hk; omega)

/-! ### a block known whole -/
def Blk (w : World) (g : Nat) (t : TypeId) (cs : Array Value) : Prop := w.heap[g]? = some (.cells cs t (0, 0))
theorem Blk.lt {w g t cs} (h : Blk w g t cs) : g < w.heap.size := by
  rcases Nat.lt_or_ge g w.heap.size with hlt | hge
  · exact hlt
  · unfold Blk at h; rw [Array.getElem?_eq_none hge] at h; cases h
theorem Blk.cell {w g t cs} (h : Blk w g t cs) (i : Nat) : w.cell? ⟨g, i, none⟩ = cs[i]? := cell_of_row w g i cs t (0, 0) h
theorem Blk.frozen {w g t cs} (h : Blk w g t cs) (i : Nat) : w.frozen? ⟨g, i, none⟩ = false := by
  unfold Blk at h
  simp [World.frozen?, h]
theorem Blk.new (w : World) (t : TypeId) (cs : Array Value) : Blk (w.alloc (.cells cs t)) w.heap.size t cs := heap_alloc_new w _
theorem Blk.drew {w g t cs} (h : Blk w g t cs) : Blk w.drew g t cs := h
theorem Blk.drewN {w g t cs} (h : Blk w g t cs) (n : Nat) : Blk (w.drewN n) g t cs := h
theorem Blk.alloc {w g t cs} (h : Blk w g t cs) (o : Obj) : Blk (w.alloc o) g t cs := (Below.heap_alloc w o g h.lt).trans h
theorem Blk.set_ {w g t cs} (h : Blk w g t cs) (i : Nat) (u : Value) : Blk (w.setCell ⟨g, i, none⟩ u) g t (cs.setIfInBounds i u) := by
  unfold Blk at h ⊢
  simp [World.setCell, Array.getElem?_modify, h]
theorem Blk.far {w g t cs} (h : Blk w g t cs) {p : Addr} (hp : g ≠ p.block) (u : Value) : Blk (w.setCell p u) g t cs := (Below.heap_setCell w p u g hp).trans h
theorem Blk.below {w w' g t cs B} (h : Blk w g t cs) (hb : Below B w w') (hg : g < B) : Blk w' g t cs := (hb.block g hg).trans h
theorem Blk.grown {w w' g t cs} {row : Option Nat} (h : Blk w g t cs) (hb : w.grownBy w' row) (hg : some g ≠ row) : Blk w' g t cs := (hb.block g h.lt hg).trans h

/-! ### bits at int64 -/
theorem ofInt_i64 (a : Nat) (ha : a < 9223372036854775808) : (BitVec.ofInt 64 (a : Int)).toNat = a := by
  rw [BitVec.ofInt_natCast, BitVec.toNat_ofNat]; exact Nat.mod_eq_of_lt (by omega)
theorem i64_xor_nat (a b : Nat) (ha : a < 9223372036854775808) (hb : b < 9223372036854775808) : bits .xor .i64 (a : Int) (b : Int) = ((a ^^^ b : Nat) : Int) := by
  have hx : a ^^^ b < 2 ^ 63 := Nat.xor_lt_two_pow (by omega) (by omega)
  show IntKind.i64.wrap ((BitVec.ofInt 64 (a : Int) ^^^ BitVec.ofInt 64 (b : Int)).toNat : Int) = _
  rw [BitVec.toNat_xor, ofInt_i64 a ha, ofInt_i64 b hb, IntKind.wrap_i64]
  omega
end Go.Proofs.Ytjnpgdhpneifjaa

/- Contracts of the functions on plain integers (budgets, shares, hiding). No condition but the integers' own ranges. -/
namespace Go.Proofs.Ytjnpgdhpneifjaa
open Go.ChangeShapes Go.WideShapes Go.ChangeAt Go.RowKit
set_option linter.unusedVariables false

theorem l1In_c (n lo hi : Int) (w : World) : Calls Try.prog 32 #[.int .i64 n, .int .i64 lo, .int .i64 hi] w fun e w' => e = .returned (.bool (inB n lo hi)) ∧ w = w' := by
  by_cases h1 : lo ≤ n <;> by_cases h2 : n ≤ hi
  all_goals
    go_enter Try.func32, Try.ntmps32
    go_wp2
    go_ret
    exact ⟨ret_bool (by rw [eq_comm]; first | (rw [inB_t]; omega) | (rw [inB_f]; omega)), rfl⟩

end Go.Proofs.Ytjnpgdhpneifjaa

/- The laws' helper alive: it returns true. -/
namespace Go.Proofs.Ytjnpgdhpneifjaa
open Go.ChangeShapes Go.WideShapes Go.ChangeAt Go.RowKit
set_option linter.unusedVariables false
theorem bytes_ok {w : World} {a : Option Addr} {n c : Nat} {z : List Int} (h : IsRow .u8 w a n c z) :
    n ≤ c ∧ c ≤ 9223372036854775807 ∧ RdI .u8 w w.heap.size a n (z.take n) ∧ ∀ x ∈ z.take n, 0 ≤ x ∧ x ≤ 255 := by
  obtain ⟨h1, h2, h3, h4⟩ := isRow_rd h
  refine ⟨h1, by unfold maxLen at h2; exact h2, h3, fun x hx => ?_⟩
  have := bounds_u8 (h4 x hx)
  omega

theorem bitCount_10 (w : World) : Calls Try.prog 41 #[.int .i64 10] w fun e w' => e = .returned (.int .i64 2) ∧ w = w' := by
  go_enter Try.func41, Try.ntmps41
  go_wp2_with fail
  refine wp_loop_rounds 5 ?_
  repeat any_goals (rw [rounds_succ]; go_wp2)
  go_ret
  exact ⟨rfl, rfl⟩
theorem bitCount_m1 (w : World) : Calls Try.prog 41 #[.int .i64 (-1)] w fun e w' => e = .returned (.int .i64 (-1)) ∧ w = w' := by
  go_enter Try.func41, Try.ntmps41
  go_wp2
  go_ret
  exact ⟨rfl, rfl⟩
theorem alive_c (w : World) : Calls Try.prog 15 #[] w fun e w' => e = .returned (.bool true) ∧ w = w' := by
  go_enter Try.func15, Try.ntmps15
  go_wp2_with fail
  refine (bitCount_10 _).mono ?_; rintro e w' ⟨rfl, rfl⟩
  go_wp2_with fail
  refine (bitCount_m1 _).mono ?_; rintro e w' ⟨rfl, rfl⟩
  go_wp2_with fail
  go_ret
  exact ⟨rfl, rfl⟩
end Go.Proofs.Ytjnpgdhpneifjaa

/- The reader of a law's code: l20Open, pick, odd: whatever the bytes, pick n gives a number in 0..n-1 (0 if n is less than 1) and turns the reader's own block alone. No condition. -/
namespace Go.Proofs.Ytjnpgdhpneifjaa
open Go.ChangeShapes Go.WideShapes Go.ChangeAt Go.RowKit
set_option linter.unusedVariables false

/-- block g is a reader whose bytes lie below block B, and that has read at most p of them -/
def Rdr (w : World) (B g p : Nat) : Prop := B ≤ g ∧ ∃ (A : Option Addr) (n c q : Nat) (xs : List Int), q ≤ p ∧ Blk w g 108 #[.slice A n c, .int .i64 q] ∧ RdI .u8 w B A n xs ∧ (∀ i, 0 ≤ xs.getD i 0 ∧ xs.getD i 0 ≤ 255) ∧ n ≤ 2000
theorem Rdr.mono {w B g p p'} (h : Rdr w B g p) (hp : p ≤ p') : Rdr w B g p' := by
  obtain ⟨h0, A, n, c, q, xs, hq, h⟩ := h
  exact ⟨h0, A, n, c, q, xs, by omega, h⟩
theorem Rdr.grown {w w' B g p} {row : Option Nat} (h : Rdr w B g p) (hg : w.grownBy w' row) (hne : ∀ k, row = some k → B ≤ k ∧ k ≠ g) : Rdr w' B g p := by
  obtain ⟨h0, A, n, c, q, xs, hq, hb, hr, h⟩ := h
  have hlt := hb.lt
  exact ⟨h0, A, n, c, q, xs, hq, hb.grown hg (fun e => (hne g e.symm).2 rfl), hr.below ((Below.refl _ _).grown hg (by omega) (fun k hk => (hne k hk).1)), h⟩
theorem Rdr.alloc {w B g p} (h : Rdr w B g p) (o : Obj) : Rdr (w.alloc o) B g p :=
  h.grown (row := none) (gb_alloc (World.grownBy.refl _ _) o) (fun k e => by cases e)
theorem Rdr.drew {w B g p} (h : Rdr w B g p) : Rdr w.drew B g p :=
  h.grown (row := none) (gb_drew (World.grownBy.refl _ _)) (fun k e => by cases e)
theorem Rdr.drewN {w B g p} (h : Rdr w B g p) (n : Nat) : Rdr (w.drewN n) B g p :=
  h.grown (row := none) (gb_drewN (World.grownBy.refl _ _) n) (fun k e => by cases e)
theorem Rdr.lt {w B g p} (h : Rdr w B g p) : B ≤ g ∧ g < w.heap.size := by
  obtain ⟨h0, A, n, c, q, xs, hq, hb, _⟩ := h
  exact ⟨h0, hb.lt⟩

/-- what a call leaves that turned block g alone -/
def PickPost (B g p : Nat) (m : Int) (w : World) (e : Ending) (w' : World) : Prop :=
  ∃ v : Int, e = .returned (.int .i64 v) ∧ 0 ≤ v ∧ (v < m ∨ v = 0) ∧ Rdr w' B g (p + 1) ∧ w.grownBy w' (some g)

theorem xor_tmod (X m : Int) (h0 : 0 ≤ X) (h1 : X < 1000000000) (hm : 1 ≤ m) : 0 ≤ (bits BinOp.xor IntKind.i64 X (X / 64)).tmod m ∧ (bits BinOp.xor IntKind.i64 X (X / 64)).tmod m < m := by
  obtain ⟨a, rfl⟩ := Int.eq_ofNat_of_zero_le h0
  have e : ((a : Int) / 64) = ((a / 64 : Nat) : Int) := by omega
  rw [e, i64_xor_nat _ _ (by omega) (by omega)]
  exact ⟨Int.tmod_nonneg _ (by omega), Int.tmod_lt_of_pos _ (by omega)⟩
theorem rdr_step {w B g p} {A : Option Addr} {n c q : Nat} {xs : List Int} (h0 : B ≤ g) (hq : q ≤ p) (hb : Blk w g 108 #[.slice A n c, .int .i64 q]) (hr : RdI .u8 w B A n xs) (hx : ∀ i, 0 ≤ xs.getD i 0 ∧ xs.getD i 0 ≤ 255) (hn : n ≤ 2000) (nq : Nat) :
    Rdr ((w.setCell ⟨g, 1, none⟩ (.int .i64 (↑q + 1))).drewN nq) B g (p + 1) ∧ w.grownBy ((w.setCell ⟨g, 1, none⟩ (.int .i64 (↑q + 1))).drewN nq) (some g) := by
  have hlt := hb.lt
  refine ⟨⟨h0, A, n, c, q + 1, xs, by omega, ?_, ?_, hx, hn⟩, gb_drewN (gb_setCell (World.grownBy.refl _ _) (.inl rfl) _) _⟩
  · exact (hb.set_ 1 _).drewN nq
  · exact hr.below (below_drewN ((Below.refl _ _).setCell (p := ⟨g, 1, none⟩) h0 _) _)

/-- what pick gives: the bytes xs, q of them read, n = m -/
def pv (xs : List Int) (q : Nat) (m : Int) : Int :=
  if m < 1 ∨ xs.length = 0 then 0
  else if q < xs.length then xs.getD q 0 % m
  else (bits BinOp.xor IntKind.i64 (xs.getD (q % xs.length) 0 * 131 + xs.getD ((q * 7 + 3) % xs.length) 0 * 1117 + ↑q * 29 + ↑q / ↑xs.length * 53)
    ((xs.getD (q % xs.length) 0 * 131 + xs.getD ((q * 7 + 3) % xs.length) 0 * 1117 + ↑q * 29 + ↑q / ↑xs.length * 53) / 64)).tmod m
theorem pv_range (xs : List Int) (q : Nat) (m : Int) (hq : q < 1000000) (hx : ∀ i, 0 ≤ xs.getD i 0 ∧ xs.getD i 0 ≤ 255) : 0 ≤ pv xs q m ∧ (pv xs q m < m ∨ pv xs q m = 0) := by
  unfold pv
  split
  · omega
  · split
    · exact ⟨Int.emod_nonneg _ (by omega), .inl (Int.emod_lt_of_pos _ (by omega))⟩
    · have d1 : 0 ≤ (q : Int) / (xs.length : Int) := Int.ediv_nonneg (by omega) (by omega)
      have d2 : (q : Int) / (xs.length : Int) ≤ q := Int.ediv_le_self _ (by omega)
      have h1 := hx (q % xs.length)
      have h2 := hx ((q * 7 + 3) % xs.length)
      have := xor_tmod (xs.getD (q % xs.length) 0 * 131 + xs.getD ((q * 7 + 3) % xs.length) 0 * 1117 + ↑q * 29 + ↑q / ↑xs.length * 53) m (by omega) (by omega) (by omega)
      exact ⟨this.1, .inl this.2⟩

theorem pick_mix (g p n c : Nat) (b off : Nat) (m : Int) (xs : List Int) (w : World) (hb : Blk w g 108 #[.slice (some ⟨b, off, none⟩) n c, .int .i64 p]) (hp : p < 1000000) (hl : xs.length = n) (hn0 : 0 < n) (hn : n ≤ 2000) (hnp : n ≤ p) (hm : 1 ≤ m)
   (c1 : ∀ i, i < n → w.cell? ⟨b, off + i, none⟩ = some (.int .u8 (xs.getD i 0))) (hx : ∀ i, 0 ≤ xs.getD i 0 ∧ xs.getD i 0 ≤ 255) (hgb : b ≠ g) :
   Calls Try.prog 40 #[.pointer (some ⟨g, 0, none⟩), .int .i64 m] w fun e w' => e = .returned (.int .i64 (pv xs p m)) ∧ ∃ nq, w' = (w.setCell ⟨g, 1, none⟩ (.int .i64 (↑p + 1))).drewN nq := by
  have h0 := hb.cell 0
  have h1 := hb.cell 1
  have hf := hb.frozen 1
  simp at h0 h1
  have h0' : (w.setCell ⟨g, 1, none⟩ (.int .i64 (↑p + 1))).cell? ⟨g, 0, none⟩ = some (.slice (some ⟨b, off, none⟩) n c) := by
    rw [(hb.set_ 1 _).cell 0]; rfl
  have h1' : (w.setCell ⟨g, 1, none⟩ (.int .i64 (↑p + 1))).cell? ⟨g, 1, none⟩ = some (.int .i64 (↑p + 1)) := by
    rw [(hb.set_ 1 _).cell 1]; rfl
  have hz : ((n : Int) == 0) = false := by simp; omega
  have hn1 : ¬ n = 0 := by omega
  have q1 : 0 ≤ (p : Int) % (n : Int) := Int.emod_nonneg _ (by omega)
  have q2 : (p : Int) % (n : Int) < n := Int.emod_lt_of_pos _ (by omega)
  have r1 : 0 ≤ ((p : Int) * 7 + 3) % (n : Int) := Int.emod_nonneg _ (by omega)
  have r2 : ((p : Int) * 7 + 3) % (n : Int) < n := Int.emod_lt_of_pos _ (by omega)
  have c2 := c1 (p % n) (Nat.mod_lt _ hn0)
  have c3 := c1 ((p * 7 + 3) % n) (Nat.mod_lt _ hn0)
  obtain ⟨x1l, x1h⟩ := hx (p % n)
  obtain ⟨x2l, x2h⟩ := hx ((p * 7 + 3) % n)
  have HV : pv xs p m = (bits BinOp.xor IntKind.i64 (xs.getD (p % n) 0 * 131 + xs.getD ((p * 7 + 3) % n) 0 * 1117 + ↑p * 29 + ↑p / ↑n * 53)
    ((xs.getD (p % n) 0 * 131 + xs.getD ((p * 7 + 3) % n) 0 * 1117 + ↑p * 29 + ↑p / ↑n * 53) / 64)).tmod m := by
    unfold pv; rw [if_neg (by omega), if_neg (by omega), hl]
  have HV := Lib.hid HV
  have HL := Lib.hid hl
  clear hl
  generalize xs.getD (p % n) 0 = x1 at *
  generalize xs.getD ((p * 7 + 3) % n) 0 = x2 at *
  have d1 : 0 ≤ (p : Int) / (n : Int) := Int.ediv_nonneg (by omega) (by omega)
  have d2 : (p : Int) / (n : Int) ≤ p := Int.ediv_le_self _ (by omega)
  clear c1 hx
  go_enter Try.func40, Try.ntmps40
  go_wp2
  go_quiet (fail)
  go_wp2
  go_ret
  exact ⟨ret_int HV.out.symm, nq, rfl⟩

theorem pick_low (g p n c : Nat) (b off : Nat) (m : Int) (xs : List Int) (w : World) (hb : Blk w g 108 #[.slice (some ⟨b, off, none⟩) n c, .int .i64 p]) (hp : p < 1000000) (hl : xs.length = n) (hn : n ≤ 2000) (hnp : p < n) (hm : 1 ≤ m)
   (c1 : ∀ i, i < n → w.cell? ⟨b, off + i, none⟩ = some (.int .u8 (xs.getD i 0))) (hx : ∀ i, 0 ≤ xs.getD i 0 ∧ xs.getD i 0 ≤ 255) (hgb : b ≠ g) :
   Calls Try.prog 40 #[.pointer (some ⟨g, 0, none⟩), .int .i64 m] w fun e w' => e = .returned (.int .i64 (pv xs p m)) ∧ ∃ nq, w' = (w.setCell ⟨g, 1, none⟩ (.int .i64 (↑p + 1))).drewN nq := by
  have h0 := hb.cell 0
  have h1 := hb.cell 1
  have hf := hb.frozen 1
  simp at h0 h1
  have h0' : (w.setCell ⟨g, 1, none⟩ (.int .i64 (↑p + 1))).cell? ⟨g, 0, none⟩ = some (.slice (some ⟨b, off, none⟩) n c) := by
    rw [(hb.set_ 1 _).cell 0]; rfl
  have h1' : (w.setCell ⟨g, 1, none⟩ (.int .i64 (↑p + 1))).cell? ⟨g, 1, none⟩ = some (.int .i64 (↑p + 1)) := by
    rw [(hb.set_ 1 _).cell 1]; rfl
  have hz : ((n : Int) == 0) = false := by simp; omega
  have c2 := c1 p hnp
  obtain ⟨x1l, x1h⟩ := hx p
  have HV : pv xs p m = xs.getD p 0 % m := by
    unfold pv; rw [if_neg (by omega), if_pos (by omega)]
  have HV := Lib.hid HV
  clear hl
  generalize xs.getD p 0 = x1 at *
  clear c1 hx
  go_enter Try.func40, Try.ntmps40
  go_wp2
  go_ret
  exact ⟨ret_int HV.out.symm, 0, rfl⟩

theorem pick_zero (g p n c : Nat) (A : Option Addr) (m : Int) (xs : List Int) (w : World) (hl : xs.length = n) (hb : Blk w g 108 #[.slice A n c, .int .i64 p]) (hp : p < 1000000) (hm : m < 1 ∨ n = 0) :
   Calls Try.prog 40 #[.pointer (some ⟨g, 0, none⟩), .int .i64 m] w fun e w' => e = .returned (.int .i64 (pv xs p m)) ∧ ∃ nq, w' = (w.setCell ⟨g, 1, none⟩ (.int .i64 (↑p + 1))).drewN nq := by
  have h0 := hb.cell 0
  have h1 := hb.cell 1
  have hf := hb.frozen 1
  simp at h0 h1
  have h0' : (w.setCell ⟨g, 1, none⟩ (.int .i64 (↑p + 1))).cell? ⟨g, 0, none⟩ = some (.slice A n c) := by
    rw [(hb.set_ 1 _).cell 0]; rfl
  by_cases hm1 : m < 1
  · go_enter Try.func40, Try.ntmps40
    go_wp2
    go_ret
    exact ⟨ret_int (by unfold pv; rw [if_pos (.inl hm1)]), 0, rfl⟩
  · obtain rfl : n = 0 := by omega
    have HL := Lib.hid hl
    clear hl
    go_enter Try.func40, Try.ntmps40
    go_wp2
    go_ret
    exact ⟨ret_int (by unfold pv; rw [if_pos (.inr HL.out)]), 0, rfl⟩

theorem pick_x {B g q n c : Nat} {A : Option Addr} {m : Int} {xs : List Int} {w : World} (h0 : B ≤ g) (hb : Blk w g 108 #[.slice A n c, .int .i64 q]) (hr : RdI .u8 w B A n xs) (hx : ∀ i, 0 ≤ xs.getD i 0 ∧ xs.getD i 0 ≤ 255) (hn : n ≤ 2000) (hp : q < 1000000) :
    Calls Try.prog 40 #[.pointer (some ⟨g, 0, none⟩), .int .i64 m] w fun e w' => e = .returned (.int .i64 (pv xs q m)) ∧ ∃ nq, w' = (w.setCell ⟨g, 1, none⟩ (.int .i64 (↑q + 1))).drewN nq := by
  by_cases hz : m < 1 ∨ n = 0
  · exact pick_zero g q n c A m xs w hr.len hb (by omega) hz
  · obtain ⟨b, off, rfl, hbB, hc⟩ := hr.at_ (by omega)
    by_cases hl : q < n
    · exact pick_low g q n c b off m xs w hb (by omega) hr.len hn hl (by omega) hc hx (by omega)
    · exact pick_mix g q n c b off m xs w hb (by omega) hr.len (by omega) hn (by omega) (by omega) hc hx (by omega)

theorem pick_c {B g p : Nat} {m : Int} {w : World} (h : Rdr w B g p) (hp : p < 1000000) :
    Calls Try.prog 40 #[.pointer (some ⟨g, 0, none⟩), .int .i64 m] w (PickPost B g p m w) := by
  obtain ⟨h0, A, n, c, q, xs, hq, hb, hr, hx, hn⟩ := h
  refine (pick_x h0 hb hr hx hn (by omega)).mono ?_
  rintro e w' ⟨he, nq, rfl⟩
  have := rdr_step h0 hq hb hr hx hn nq
  have hv := pv_range xs q m (by omega) hx
  exact ⟨_, he, hv.1, hv.2, this.1, this.2⟩

/-- the same, with what has become of the world since w0 -/
theorem pick_b {B g p : Nat} {m : Int} {w0 w : World} (h : Rdr w B g p) (bel : Below B w0 w) (hp : p < 1000000) :
    Calls Try.prog 40 #[.pointer (some ⟨g, 0, none⟩), .int .i64 m] w fun e w' => ∃ v : Int, e = .returned (.int .i64 v) ∧ 0 ≤ v ∧ (v < m ∨ v = 0) ∧ Rdr w' B g (p + 1) ∧ Below B w0 w' ∧ w.grownBy w' (some g) := by
  refine (pick_c h hp).mono ?_
  rintro e w' ⟨v, he, h1, h2, h3, h4⟩
  exact ⟨v, he, h1, h2, h3, below_of_gb bel h4 (by have := h.lt; omega) h.1, h4⟩
def OddPost (B g p : Nat) (w : World) (e : Ending) (w' : World) : Prop :=
  ∃ b : Bool, e = .returned (.bool b) ∧ Rdr w' B g (p + 1) ∧ w.grownBy w' (some g)
theorem odd_c {B g p : Nat} {m : Int} {w : World} (h : Rdr w B g p) (hp : p < 1000000) (hm1 : 0 < m) (hm2 : m < 1000000) :
    Calls Try.prog 82 #[.pointer (some ⟨g, 0, none⟩), .int .i64 m] w (OddPost B g p w) := by
  go_enter Try.func82, Try.ntmps82
  go_wp2_with (go_at_call 40; refine (pick_c h hp).mono ?_; rintro e w' ⟨v, rfl, hv1, hv2, hr, hg⟩)
  go_ret
  exact ⟨_, rfl, hr, hg⟩

theorem tab_at {w : World} {g : Nat} {t : TypeId} (l : List Int) (hb : Blk w g t (l.map (Value.int .i64)).toArray) (lo up : Int) (hall : ∀ x ∈ l, lo ≤ x ∧ x ≤ up) {i : Int} (h0 : 0 ≤ i) (hi : i < l.length) :
    ∃ x, lo ≤ x ∧ x ≤ up ∧ w.cell? ⟨g, i.toNat, none⟩ = some (.int .i64 x) := by
  have hlt : i.toNat < l.length := by omega
  refine ⟨l[i.toNat], (hall _ (List.getElem_mem hlt)).1, (hall _ (List.getElem_mem hlt)).2, ?_⟩
  rw [hb.cell]
  simp [hlt]
theorem tab_in (ls : List Value) (l : List Int) (hl : ls = l.map (Value.int .i64)) (lo up : Int) (hall : ∀ x ∈ l, lo ≤ x ∧ x ≤ up) {i : Int} (h0 : 0 ≤ i) (hi : i < l.length) :
    ∃ x, lo ≤ x ∧ x ≤ up ∧ ls.toArray[i.toNat]? = some (.int .i64 x) ∧ ∀ h, ls[i.toNat]'h = .int .i64 x := by
  subst hl
  have hlt : i.toNat < l.length := by omega
  exact ⟨l[i.toNat], (hall _ (List.getElem_mem hlt)).1, (hall _ (List.getElem_mem hlt)).2, by simp [hlt], by simp⟩
theorem Blk.new1 (w : World) (o : Obj) (t : TypeId) (cs : Array Value) : Blk ((w.alloc o).alloc (.cells cs t)) (w.heap.size + 1) t cs := by
  have := Blk.new (w.alloc o) t cs; rwa [World.size_alloc] at this
theorem Blk.picked {w : World} {g : Nat} {t : TypeId} {A : Option Addr} {n c q : Nat} (hb : Blk w g t #[.slice A n c, .int .i64 q]) :
    Blk (w.setCell ⟨g, 1, none⟩ (.int .i64 (↑q + 1))) g t #[.slice A n c, .int .i64 ((q + 1 : Nat) : Int)] := (hb.set_ 1 _)
def Int1 (w : World) (e : Ending) (w' : World) : Prop := ∃ a : Int, e = .returned (.int .i64 a) ∧ Below w.heap.size w w'
def Int2 (w : World) (e : Ending) (w' : World) : Prop := ∃ a b : Int, e = .returned (.tuple #[.int .i64 a, .int .i64 b]) ∧ Below w.heap.size w w'
def Int3 (w : World) (e : Ending) (w' : World) : Prop := ∃ a b c : Int, e = .returned (.tuple #[.int .i64 a, .int .i64 b, .int .i64 c]) ∧ Below w.heap.size w w'

theorem open_c {A : Option Addr} {n c : Nat} {xs : List Int} {w : World} (hr : RdI .u8 w w.heap.size A n xs) (hx : ∀ x ∈ xs, 0 ≤ x ∧ x ≤ 255) (hnc : n ≤ c) (hcm : c ≤ 9223372036854775807) :
    Calls Try.prog 38 #[.slice A n c] w fun e w' => e = .returned (.pointer (some ⟨w.heap.size, 0, none⟩)) ∧ Rdr w' w.heap.size w.heap.size 0 ∧ Below w.heap.size w w' := by
  have hxx : ∀ i, 0 ≤ xs.getD i 0 ∧ xs.getD i 0 ≤ 255 := by
    intro i
    rw [List.getD_eq_getElem?_getD]
    rcases Nat.lt_or_ge i xs.length with h | h
    · rw [List.getElem?_eq_getElem h]; exact hx _ (List.getElem_mem h)
    · rw [List.getElem?_eq_none h]; simp
  by_cases hl : n ≤ 2000
  · go_enter Try.func38, Try.ntmps38
    go_wp2
    go_ret
    have hb := (Below.refl w.heap.size w).alloc (Nat.le_refl _) (Obj.cells #[Value.slice A n c, Value.int IntKind.i64 0] 108)
    exact ⟨rfl, ⟨Nat.le_refl _, A, n, c, 0, xs, Nat.le_refl _, Blk.new _ _ _, hr.below hb, hxx, hl⟩, hb⟩
  · obtain ⟨b, off, rfl, hbB, hc⟩ := hr.at_ (by omega)
    have hlen := hr.len
    go_enter Try.func38, Try.ntmps38
    go_wp2
    go_ret
    have hb := (Below.refl w.heap.size w).alloc (Nat.le_refl _) (Obj.cells #[Value.slice (some ⟨b, off, none⟩) 2000 c, Value.int IntKind.i64 0] 108)
    have hr' : RdI .u8 w w.heap.size (some ⟨b, off, none⟩) 2000 (xs.take 2000) := ⟨by simp; omega, fun _ => ⟨b, off, rfl, hbB, fun i hi => by
      rw [hc i (by omega), List.getD_eq_getElem?_getD, List.getD_eq_getElem?_getD, List.getElem?_take_of_lt hi]⟩⟩
    refine ⟨rfl, ⟨Nat.le_refl _, _, 2000, c, 0, xs.take 2000, Nat.le_refl _, Blk.new _ _ _, hr'.below hb, fun i => ?_, Nat.le_refl _⟩, hb⟩
    rw [List.getD_eq_getElem?_getD]
    rcases Nat.lt_or_ge i 2000 with h | h
    · rw [List.getElem?_take_of_lt h, ← List.getD_eq_getElem?_getD]; exact hxx i
    · rw [List.getElem?_eq_none (by simp; omega)]; simp
end Go.Proofs.Ytjnpgdhpneifjaa
