/- Appending a whole list of integers onto a row of the call's own; slices.Clone at []int. -/
import Derived.Test.YtiodnicpecjagaaSlices
import Derived.Laws.AppendOwnNone
import Derived.Lib.SliceRun
namespace Go.Proofs.Ytiodnicpecjagaa
open Go.ChangeShapes Go.WideShapes Go.ChangeAt Go.RowKit
set_option linter.unusedVariables false
set_option linter.unusedSimpArgs false

theorem own_nil {w : World} {base e size n c : Nat} {A : Option Addr} {xs : List Value} (h : w.ownsRow base e size (.slice A n c) n xs) : A = none → c = 0 := by
  rintro rfl
  rcases h.2 with ⟨h1, h2⟩ | ⟨g, cap, cur, h1, _⟩
  · injection h1 with h1 h3 h4
  · injection h1 with h1; cases h1
/-- an operation that is guarded, and wanted, runs as one without a guard -/
theorem wpList_unguard {P : Program} {ops : Array Oper} {rest : List Oper} {o : Oper} {a : Act} {Q : Exit → Act → World → Prop} {w : World} (hw : Region.wanted o (yielded ops a.tmps) = true)
    (h : wpList P ops Q ({ o with guard := none } :: rest) a w) : wpList P ops Q (o :: rest) a w := by
  unfold wpList at h ⊢
  rw [if_pos hw]
  rw [if_pos (by simp [Region.wanted])] at h
  exact h
/-- append(out, ys...), ys whatever list of integers -/
theorem wpList_appMany {ops : Array Oper} {rest : List Oper} {o : Oper} {a : Act} {Q : Exit → Act → World → Prop} {w : World} {s x : Operand} {base B m c : Nat} {A : Option Addr} {A0 : Option Addr} {c0 n : Nat} {xs ys : List Int} (hgd : o.guard = none)
    (ho : o.op = .call { callee := .builtin .append, args := #[s, x], argTypes := #[22, 22] })
    (hs : a.eval s = .slice A0 n c0) (hown : w.ownsRow base 3 1 (.slice A0 n c0) n (xs.map (Value.int .i64))) (hx : a.eval x = .slice A m c) (hnil : A = none → c = 0)
    (hr : RdI .i64 w B A m ys) (hn : n + m ≤ 1000000000000) (hbase : base ≤ w.heap.size)
    (h : ∀ A' c' w', w'.ownsRow base 3 1 (.slice A' (n + m) c') (n + m) ((xs ++ ys).map (Value.int .i64)) → w.grownBy w' (Value.slice A0 n c0).ownBlock → wpList Try.prog ops Q rest (a.put o.dst (.slice A' (n + m) c')) w') :
    wpList Try.prog ops Q (o :: rest) a w := by
  obtain ⟨i0, hi, hz0, hz1, hz2⟩ := info_parts infoInt
  rcases A with _ | ad
  · have hm : m = 0 := by
      rcases Nat.eq_zero_or_pos m with h0 | h0
      · exact h0
      · obtain ⟨b, off, e, _⟩ := hr.at_ h0; cases e
    subst hm
    have hy : ys = [] := List.eq_nil_of_length_eq_zero hr.len
    subst hy
    rw [hnil rfl] at hx
    refine wpList_append_own_none hgd s x 22 ho base 3 i0 1 Try.underlying22 hi (.slice A0 n c0) n _ hs hown hx ?_
    exact h A0 c0 w (by rw [List.append_nil]; exact hown) (World.grownBy.refl _ _)
  · refine wpList_append_own _ hgd s x 22 ho base 3 i0 (.int .i64 0) 1 8 Try.underlying22 hi hz0 hz1 hz2 rfl (by decide) (.slice A0 n c0) n _ hs hown ad m c (ys.map (Value.int .i64)) hx (by rw [List.length_map, hr.len, Nat.mul_one]) ?_ (ints_oneCell _ _) (by unfold maxLen; omega) (by omega) hbase ?_
    · intro j u hj
      have hjl : j < ys.length := by
        rcases Nat.lt_or_ge j ys.length with h0 | h0
        · exact h0
        · rw [List.getElem?_eq_none (by simpa using h0)] at hj; cases hj
      obtain ⟨b, off, e, _, hc⟩ := hr.at_ (by have := hr.len; omega)
      injection e with e
      subst e
      rw [add_none, hc j (by have := hr.len; omega)]
      rw [map_getElem? _ _ hjl] at hj
      exact hj
    · intro v' w' hown' hg _
      have hform : ∃ A' c', v' = .slice A' (n + m) c' := by
        rcases hown'.2 with ⟨h1, h2⟩ | ⟨g, cap, cur, h1, _⟩
        · exact ⟨none, 0, by rw [h1, h2]⟩
        · exact ⟨_, _, h1⟩
      obtain ⟨A', c', rfl⟩ := hform
      exact h A' c' w' (by rw [List.map_append]; exact hown') hg
/-- append of some integers, which the walk has just laid in a block of their own -/
theorem wpList_appNew {ops : Array Oper} {rest : List Oper} {o : Oper} {a : Act} {Q : Exit → Act → World → Prop} {w : World} {s x : Operand} {base m : Nat} {A0 : Option Addr} {c0 n : Nat} {xs : List Int} (ys : List Int) (hgd : o.guard = none)
    (ho : o.op = .call { callee := .builtin .append, args := #[s, x], argTypes := #[22, 22] })
    (hs : a.eval s = .slice A0 n c0) (hown : w.ownsRow base 3 1 (.slice A0 n c0) n (xs.map (Value.int .i64)))
    (hx : a.eval x = .slice (some ⟨w.heap.size, 0, none⟩) m m) (hm : ys.length = m) (hn : n + m ≤ 1000000000000) (hbase : base ≤ w.heap.size)
    (h : ∀ A' c' w', w'.ownsRow base 3 1 (.slice A' (n + m) c') (n + m) ((xs ++ ys).map (Value.int .i64)) → w.grownBy w' (Value.slice A0 n c0).ownBlock → wpList Try.prog ops Q rest (a.put o.dst (.slice A' (n + m) c')) w') :
    wpList Try.prog ops Q (o :: rest) a (w.alloc (.cells (cellsI ys) 3)) := by
  have hrow : RowI (w.alloc (.cells (cellsI ys) 3)) w.heap.size ys := Blk.new _ _ _
  have hr := hrow.rd
  rw [hm] at hr
  refine wpList_appMany (base := base) hgd ho hs (hown.alloc _) hx (by intro h; cases h) hr hn (by simp; omega) ?_
  intro A' c' w' h1 h2
  exact h A' c' w' h1 ⟨h2.os, h2.tape, h2.output, Nat.le_trans (by simp) h2.size, fun k hk hne => by
    rw [h2.block k (by simp; omega) hne]
    exact Below.heap_alloc w _ k hk⟩
theorem clone_c {A : Option Addr} {n c B : Nat} {xs : List Int} {w : World} (hr : RdI .i64 w B A n xs) (hB : B ≤ w.heap.size) (hn : n ≤ 1048576) :
    Calls Try.prog 41 #[.slice A n c] w fun e w' => ∃ A' c', e = .returned (.slice A' n c') ∧ w'.ownsRow w.heap.size 3 1 (.slice A' n c') n (xs.map (Value.int .i64)) ∧ Below w.heap.size w w' := by
  have hnil := fun (W : World) (a : Option Addr) (m k : Nat) => Lib.run_eql_slice_nil (P := Try.prog) W 22 3 a m k 0 0 Try.underlying22
  rcases A with _ | ad
  · have hm : n = 0 := by
      rcases Nat.eq_zero_or_pos n with h0 | h0
      · exact h0
      · obtain ⟨b, off, e, _⟩ := hr.at_ h0; cases e
    subst hm
    have hy : xs = [] := List.eq_nil_of_length_eq_zero hr.len
    subst hy
    go_enter Try.func41, Try.ntmps41
    go_wp2
    go_ret
    exact ⟨none, 0, rfl, World.ownsRow_nil _ _ _ _, Below.refl _ _⟩
  · have b0 : Below w.heap.size w (w.alloc (.cells #[] 3)) := (Below.refl _ _).alloc (Nat.le_refl _) _
    have o0 : (w.alloc (.cells #[] 3)).ownsRow w.heap.size 3 1 (.slice (some ⟨w.heap.size, 0, none⟩) 0 0) 0 (([] : List Int).map (Value.int .i64)) := World.ownsRow_lit w #[] 0 (Nat.le_refl _) (by decide) rfl
    have hr1 := (hr.mono hB).below b0
    go_enter Try.func41, Try.ntmps41
    go_wp2_with (at_builtin; refine wpList_appMany rfl rfl rfl o0 rfl (by intro h; cases h) hr1 (by omega) (by simp) ?_; rintro A' c' w' ho hg)
    go_ret
    rw [Nat.zero_add, List.nil_append] at ho
    exact ⟨A', c', rfl, ho, below_app b0 o0 (by simp) hg⟩
end Go.Proofs.Ytiodnicpecjagaa
