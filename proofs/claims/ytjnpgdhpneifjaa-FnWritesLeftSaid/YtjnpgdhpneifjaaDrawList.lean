/- What a drawn list is: some integers in new memory, the reader a little further on; and how owned rows stay over picks. -/
import Derived.Test.YtjnpgdhpneifjaaDraw
import Derived.Test.YtjnpgdhpneifjaaList
namespace Go.Proofs.Ytjnpgdhpneifjaa
open Go.ChangeShapes Go.WideShapes Go.ChangeAt Go.RowKit
set_option linter.unusedVariables false
set_option linter.unusedSimpArgs false
/-- a drawn list of integers: its row lies in new memory; of what was there only the reader's block has turned -/
def DrawL (B g p : Nat) (w : World) (e : Ending) (w' : World) : Prop :=
  ∃ (ys : List Int) (A : Option Addr) (c : Nat), e = .returned (.slice A ys.length c) ∧ ys.length ≤ 100 ∧ w'.ownsRow w.heap.size 3 1 (.slice A ys.length c) ys.length (ys.map (Value.int .i64)) ∧ Rdr w' B g (p + 1000) ∧ w.grownBy w' (some g)
theorem drawL_of {B g p m c : Nat} {w w' : World} {A : Option Addr} {xs : List Int} (hm : xs.length = m) (h100 : m ≤ 100) (h : w'.ownsRow w.heap.size 3 1 (.slice A m c) m (xs.map (Value.int .i64))) (hr : Rdr w' B g (p + 1000)) (hg : w.grownBy w' (some g)) : DrawL B g p w (.returned (.slice A m c)) w' := by
  subst hm; exact ⟨xs, A, c, rfl, h100, h, hr, hg⟩
theorem own_pick {w w' : World} {base e size n g : Nat} {v : Value} {xs : List Value} (h : w.ownsRow base e size v n xs) (hg : w.grownBy w' (some g)) (hgb : g < base) : w'.ownsRow base e size v n xs :=
  own_other h hg (fun k hk e => by injection e with e; have := h.lt k hk; omega)
theorem gb_app {w0 w w' : World} {g e size n : Nat} {v : Value} {xs : List Value} (hb : w0.grownBy w (some g)) (hown : w.ownsRow w0.heap.size e size v n xs) (hg : w.grownBy w' v.ownBlock) : w0.grownBy w' (some g) :=
  ⟨hg.os.trans hb.os, hg.tape.trans hb.tape, hg.output.trans hb.output, Nat.le_trans hb.size hg.size, fun i hi hne => (hg.block i (Nat.lt_of_lt_of_le hi hb.size) (fun e => by have := hown.lt i e.symm; omega)).trans (hb.block i hi hne)⟩
theorem ownsRow_base {w : World} {base base' e size n : Nat} {v : Value} {xs : List Value} (h : w.ownsRow base e size v n xs) (hb : base' ≤ base) : w.ownsRow base' e size v n xs := by
  refine ⟨h.1, ?_⟩
  rcases h.2 with h' | ⟨g, cap, cur, h1, h2, h3⟩
  · exact .inl h'
  · exact .inr ⟨g, cap, cur, h1, by omega, h3⟩
theorem gb_step {w0 w w' : World} {g : Nat} {row : Option Nat} (hb : w0.grownBy w (some g)) (hg : w.grownBy w' row) (hr : ∀ k, row = some k → w0.heap.size ≤ k) : w0.grownBy w' (some g) :=
  ⟨hg.os.trans hb.os, hg.tape.trans hb.tape, hg.output.trans hb.output, Nat.le_trans hb.size hg.size, fun i hi hne => (hg.block i (Nat.lt_of_lt_of_le hi hb.size) (fun e => by have := hr i e.symm; omega)).trans (hb.block i hi hne)⟩
/-- a drawn list, at the law's level -/
def DrawnL (w : World) (e : Ending) (w' : World) : Prop :=
  ∃ (ys : List Int) (A : Option Addr) (c : Nat), e = .returned (.slice A ys.length c) ∧ ys.length ≤ 100 ∧ w'.ownsRow w.heap.size 3 1 (.slice A ys.length c) ys.length (ys.map (Value.int .i64)) ∧ Below w.heap.size w w'
theorem drawnL_of {w w1 w' : World} {B g p : Nat} {e : Ending} (hb : Below w.heap.size w w1) (hg : w.heap.size ≤ g) (h : DrawL B g p w1 e w') : DrawnL w e w' := by
  obtain ⟨ys, A, c, he, h100, ho, _, hgb⟩ := h
  exact ⟨ys, A, c, he, h100, ownsRow_base ho hb.size, below_of_gb hb hgb hb.size hg⟩
end Go.Proofs.Ytjnpgdhpneifjaa
