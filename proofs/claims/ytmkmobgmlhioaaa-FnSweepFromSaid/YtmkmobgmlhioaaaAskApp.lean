/- Appending one request, with where the new row lies; lists that stay readable beside it. No condition. -/
import Derived.Test.YtmkmobgmlhioaaaSort
import Derived.Deep.AppendLies
namespace Go.Proofs.Ytmkmobgmlhioaaa
open Go.ChangeShapes Go.WideShapes Go.ChangeAt Go.RowKit
set_option linter.unusedVariables false
set_option linter.unusedSimpArgs false

theorem RdP.keepG {w w' : World} {B n : Nat} {A : Option Addr} {ps : List (Int × Int)} {row : Option Nat} (h : RdP w B A n ps) (hg : w.grownBy w' row) (hB : B ≤ w.heap.size) (hne : ∀ b off, A = some ⟨b, off, none⟩ → some b ≠ row) : RdP w' B A n ps :=
  ⟨h.len, fun hn => by
    obtain ⟨b, off, e, hb, hc⟩ := h.at_ hn
    refine ⟨b, off, e, hb, fun i hi => ?_⟩
    have hblk : ∀ o, w'.cell? ⟨b, o, none⟩ = w.cell? ⟨b, o, none⟩ := fun o => World.grownBy.cell_far hg ⟨b, o, none⟩ (by show b < _; omega) (hne b off e)
    rw [hblk, hblk]
    exact hc i hi⟩
theorem wpList_appAsk2 {ops : Array Oper} {rest : List Oper} {o : Oper} {a : Act} {Q : Exit → Act → World → Prop} {w : World} {s x : Operand} {base g0 c0 n : Nat} {xs : List (Int × Int)} {y z : Int} (hgd : o.guard = none)
    (ho : o.op = .call { callee := .builtin .append, args := #[s, x], argTypes := #[25, 25] })
    (hs : a.eval s = .slice (some ⟨g0, 0, none⟩) n c0) (hown : w.ownsRow base 32 2 (.slice (some ⟨g0, 0, none⟩) n c0) n (flatP xs))
    (hx : a.eval x = .slice (some ⟨w.heap.size, 0, none⟩) 1 1) (hn : n ≤ 1000000000000) (hbase : base ≤ w.heap.size)
    (h : ∀ g c w', w'.ownsRow base 32 2 (.slice (some ⟨g, 0, none⟩) (n + 1) c) (n + 1) (flatP (xs ++ [(y, z)])) → w.grownBy w' (some g0) → (g = g0 ∨ w.heap.size ≤ g) → wpList Try.prog ops Q rest (a.put o.dst (.slice (some ⟨g, 0, none⟩) (n + 1) c)) w') :
    wpList Try.prog ops Q (o :: rest) a (w.alloc (.cells #[.int .i64 y, .int .i64 z] 32)) := by
  obtain ⟨i0, hi, hz0, hz1, hz2⟩ := info_parts infoAsk2
  refine wpList_append_lies _ hgd s x 25 ho base 32 i0 _ 2 16 Try.underlying25 hi hz0 hz1 hz2 rfl (by decide) (.slice (some ⟨g0, 0, none⟩) n c0) n _ hs (hown.alloc _) ⟨w.heap.size, 0, none⟩ 1 1 [.int .i64 y, .int .i64 z] hx rfl
    (World.news_of_block (cs := #[.int .i64 y, .int .i64 z]) (t := 32) (fr := (0, 0)) (heap_alloc_new w _)) (by simp [Value.oneCell']) (by omega) (by unfold maxLen; omega) (by omega) (by simp; omega) (w.heap.size + 1) (by simp) ?_
  intro g cap w' h1 h2 h3 _
  refine h g cap w' (by rw [flatP_append, flatP_one]; exact h1) ⟨h2.os, h2.tape, h2.output, Nat.le_trans (by simp) h2.size, fun k hk hne => ?_⟩ ?_
  · rw [h2.block k (by simp; omega) hne]
    exact Below.heap_alloc w _ k hk
  · rcases h3 with h3 | h3
    · left
      have h4 : some g0 = some g := h3
      injection h4 with h4
      exact h4.symm
    · right; omega
theorem wpList_appAsk3 {ops : Array Oper} {rest : List Oper} {o : Oper} {a : Act} {Q : Exit → Act → World → Prop} {w : World} {s x : Operand} {base c0 n : Nat} {A0 : Option Addr} {xs : List (Int × Int)} {y z : Int} (hgd : o.guard = none)
    (ho : o.op = .call { callee := .builtin .append, args := #[s, x], argTypes := #[25, 25] })
    (hs : a.eval s = .slice A0 n c0) (hown : w.ownsRow base 32 2 (.slice A0 n c0) n (flatP xs))
    (H : Nat) (hH : w.heap.size = H) (hx : a.eval x = .slice (some ⟨H, 0, none⟩) 1 1) (hn : n ≤ 1000000000000) (hbase : base ≤ w.heap.size)
    (h : ∀ g c w', w'.ownsRow base 32 2 (.slice (some ⟨g, 0, none⟩) (n + 1) c) (n + 1) (flatP (xs ++ [(y, z)])) → w.grownBy w' (Value.slice A0 n c0).ownBlock → ((Value.slice A0 n c0).ownBlock = some g ∨ w.heap.size ≤ g) → wpList Try.prog ops Q rest (a.put o.dst (.slice (some ⟨g, 0, none⟩) (n + 1) c)) w') :
    wpList Try.prog ops Q (o :: rest) a (w.alloc (.cells #[.int .i64 y, .int .i64 z] 32)) := by
  subst hH
  obtain ⟨i0, hi, hz0, hz1, hz2⟩ := info_parts infoAsk2
  refine wpList_append_lies _ hgd s x 25 ho base 32 i0 _ 2 16 Try.underlying25 hi hz0 hz1 hz2 rfl (by decide) (.slice A0 n c0) n _ hs (hown.alloc _) ⟨w.heap.size, 0, none⟩ 1 1 [.int .i64 y, .int .i64 z] hx rfl
    (World.news_of_block (cs := #[.int .i64 y, .int .i64 z]) (t := 32) (fr := (0, 0)) (heap_alloc_new w _)) (by simp [Value.oneCell']) (by omega) (by unfold maxLen; omega) (by omega) (by simp; omega) (w.heap.size + 1) (by simp) ?_
  intro g cap w' h1 h2 h3 _
  refine h g cap w' (by rw [flatP_append, flatP_one]; exact h1) ⟨h2.os, h2.tape, h2.output, Nat.le_trans (by simp) h2.size, fun k hk hne => ?_⟩ ?_
  · rw [h2.block k (by simp; omega) hne]
    exact Below.heap_alloc w _ k hk
  · rcases h3 with h3 | h3
    · exact .inl h3
    · right; omega

/-- two rows of the call's own that are not one -/
def Apart (v v' : Value) : Prop := ∀ q, v.ownBlock = some q → v'.ownBlock = some q → False
theorem Apart.nil (v : Value) : Apart v (.slice none 0 0) := fun q _ h => by cases h

end Go.Proofs.Ytmkmobgmlhioaaa
