/- Arguments opened: devices (and tables, names, disks). -/
import Derived.Test.YtjnpgdhpneifjaaPages
import Derived.Test.YtjnpgdhpneifjaaTabN
import Derived.Deep.Slices
import Derived.Deep.Fields
import Derived.ChangeSame
namespace Go.Proofs.Ytjnpgdhpneifjaa
open Go.ChangeShapes Go.WideShapes Go.ChangeAt Go.RowKit Go.Deep
set_option linter.unusedVariables false
set_option linter.unusedSimpArgs false

section
variable {H : Type} {enc : TypeId × Value → H} {P : Program} {w : World} {base : Nat} {spare : Nat → Bool} {held : Bool}
theorem open_slice_fields {t e : TypeId} {fs : Array Field} {fuel : Nat} {cs : List Value} {x : DataW H × List MemPlace} (ht : P.underlying t = some (.slice e)) (he : P.underlying e = some (.struct fs))
    (hone : oneCellFields P fs = true) (hC : P.cellsOf e = fs.size) (h : DataW.trod enc P w base spare held fuel t cs = some x) :
    (cs = [.slice none 0 0] ∧ x = (.nil, [])) ∨
    ∃ (a : Addr) (len cap m : Nat), cs = [.slice (some a) len cap] ∧ len ≤ cap ∧ cap ≤ maxLen ∧ m = (if spare a.block then cap else len) ∧
      ∀ i, i < m → ∃ (n : Nat),
        ∀ (j : Nat) (f : Field), fs[j]? = some f → ∃ (v : Value) (y : DataW H × List MemPlace), w.cell? (a.add (i * fs.size + j)) = some v ∧ DataW.trod enc P w base spare held n f.type [v] = some y := by
  rcases open_slice ht h with h0 | ⟨a, len, cap, m, n, D, Pl, hcs, hb, hl, hm, hmm, hx, hi⟩
  · exact .inl h0
  · refine .inr ⟨a, len, cap, m, hcs, hl, hm, hmm, fun i him => ?_⟩
    obtain ⟨cs', hc, ht'⟩ := hi i him
    rw [hC] at hc
    obtain ⟨ys, n', hn', hy, hlen, hyl, hf⟩ := DataW.trod_struct he ht'
    obtain ⟨_, hcl, hat⟩ := World.cells?_some hc
    refine ⟨n', fun j f hj => ?_⟩
    obtain ⟨ho, hk⟩ := hone_of hone j f hj
    have hjl : j < fs.size := (Array.getElem?_eq_some_iff.1 hj).1
    have hcell := hat j hjl
    have hv : cs'[j]? = some (cs'[j]'(by omega)) := List.getElem?_eq_getElem (by omega)
    have h1 := hf j f hj
    rw [ho, hk] at h1
    have hone' : (cs'.drop j).take 1 = [cs'[j]'(by omega)] := by
      rw [List.drop_eq_getElem_cons (by omega)]
      rfl
    rw [hone'] at h1
    have hys : ys[j]? = some (ys[j]'(by omega)) := List.getElem?_eq_getElem (by omega)
    refine ⟨_, _, ?_, h1.trans hys⟩
    rw [← Go.Deep.add_add, hcell, hv]
end
theorem pick_list {α : Type} (d : α) (P : Nat → α → Prop) : ∀ n : Nat, (∀ i, i < n → ∃ x, P i x) → ∃ xs : List α, xs.length = n ∧ ∀ i, i < n → P i (xs.getD i d)
  | 0, _ => ⟨[], rfl, fun i h => absurd h (Nat.not_lt_zero _)⟩
  | n + 1, h => by
    obtain ⟨xs, hl, hp⟩ := pick_list d P n (fun i hi => h i (by omega))
    obtain ⟨x, hx⟩ := h n (by omega)
    refine ⟨xs ++ [x], by simp [hl], fun i hi => ?_⟩
    rw [List.getD_eq_getElem?_getD]
    by_cases e : i = n
    · subst e; rw [List.getElem?_append_right (by omega), hl, Nat.sub_self]; exact hx
    · rw [List.getElem?_append_left (by omega), ← List.getD_eq_getElem?_getD]; exact hp i (by omega)
/-- an address with a cell behind it, in a row -/
theorem addr_form {W : World} {x : Addr} {v : Value} (h : W.cell? (x.add 0) = some v) : ∃ b off, x = ⟨b, off, none⟩ ∧ b < W.heap.size := by
  obtain ⟨b, off, spot⟩ := x
  have hspot : spot = none := by simpa [Addr.add] using World.cell?_spot h
  subst hspot
  rw [add_none] at h
  exact ⟨b, off, rfl, block_lt_of_cell h⟩
section
variable {H : Type} {enc : TypeId × Value → H} {W : World} {fuel : Nat} {x : DataW H × List MemPlace}
theorem trodPages {v : Value} (h : DataW.trod enc Try.prog W 0 (fun _ => true) true fuel 60 [v] = some x) : ∃ A n c ps, v = .slice A n c ∧ n ≤ c ∧ c ≤ maxLen ∧ RdG W W.heap.size A n ps := by
  rcases open_slice_fields Try.underlying60 Try.underlying135 (by kernel_rfl) (by kernel_rfl) h with ⟨hcs, _⟩ | ⟨a, len, cap, m, hcs, hl, hm, hmm, hi⟩
  · injection hcs with hcs _
    exact ⟨none, 0, 0, [], hcs, Nat.le_refl _, by decide, rfl, fun h => absurd h (Nat.lt_irrefl _)⟩
  · injection hcs with hcs _
    simp only [if_true] at hmm
    subst hmm
    have key : ∀ i, i < len → ∃ p : PageV, W.cell? (a.add (i * 5)) = some (.bool p.full) ∧ W.cell? (a.add (i * 5 + 1)) = some (.int .i64 p.file) ∧ W.cell? (a.add (i * 5 + 2)) = some (.int .i64 p.place) ∧ W.cell? (a.add (i * 5 + 3)) = some (.int .i64 p.value) ∧ W.cell? (a.add (i * 5 + 4)) = some (.int .i64 p.stamp) := by
      intro i hil
      obtain ⟨n, hf⟩ := hi i (by omega)
      obtain ⟨v0, y0, c0, t0⟩ := hf 0 _ rfl
      obtain ⟨v1, y1, c1, t1⟩ := hf 1 _ rfl
      obtain ⟨v2, y2, c2, t2⟩ := hf 2 _ rfl
      obtain ⟨v3, y3, c3, t3⟩ := hf 3 _ rfl
      obtain ⟨v4, y4, c4, t4⟩ := hf 4 _ rfl
      obtain ⟨b, e0, _⟩ := DataW.trod_bool (P := Try.prog) (t := 4) Try.underlying4 t0
      obtain ⟨n1, e1, _, _⟩ := DataW.trod_int (P := Try.prog) (t := 3) Try.underlying3 t1
      obtain ⟨n2, e2, _, _⟩ := DataW.trod_int (P := Try.prog) (t := 3) Try.underlying3 t2
      obtain ⟨n3, e3, _, _⟩ := DataW.trod_int (P := Try.prog) (t := 3) Try.underlying3 t3
      obtain ⟨n4, e4, _, _⟩ := DataW.trod_int (P := Try.prog) (t := 3) Try.underlying3 t4
      injection e0 with e0 _
      injection e1 with e1 _
      injection e2 with e2 _
      injection e3 with e3 _
      injection e4 with e4 _
      subst e0 e1 e2 e3 e4
      exact ⟨⟨b, n1, n2, n3, n4⟩, c0, c1, c2, c3, c4⟩
    obtain ⟨ps, hpl, hp⟩ := pick_list noPage _ len key
    refine ⟨_, _, _, ps, hcs, hl, hm, hpl, fun hn => ?_⟩
    obtain ⟨b, off, rfl, hb⟩ := addr_form (by simpa using (hp 0 hn).1)
    refine ⟨b, off, rfl, hb, fun i hil => ?_⟩
    have := hp i hil
    simp only [add_none, ← Nat.add_assoc] at this
    exact this
theorem trodBlocks {v : Value} (h : DataW.trod enc Try.prog W 0 (fun _ => true) true fuel 22 [v] = some x) : ∃ A n c bs, v = .slice A n c ∧ n ≤ c ∧ c ≤ maxLen ∧ RdB W W.heap.size A n bs := by
  rcases open_slice_fields Try.underlying22 Try.underlying62 (by kernel_rfl) (by kernel_rfl) h with ⟨hcs, _⟩ | ⟨a, len, cap, m, hcs, hl, hm, hmm, hi⟩
  · injection hcs with hcs _
    exact ⟨none, 0, 0, [], hcs, Nat.le_refl _, by decide, rfl, fun h => absurd h (Nat.lt_irrefl _)⟩
  · injection hcs with hcs _
    simp only [if_true] at hmm
    subst hmm
    have key : ∀ i, i < len → ∃ b : BlockV, ∃ A' n' c', W.cell? (a.add (i * 2)) = some (.int .i64 b.wear) ∧ W.cell? (a.add (i * 2 + 1)) = some (.slice A' n' c') ∧ n' ≤ c' ∧ c' ≤ 9223372036854775807 ∧ RdG W W.heap.size A' n' b.pages := by
      intro i hil
      obtain ⟨n, hf⟩ := hi i (by omega)
      obtain ⟨v0, y0, c0, t0⟩ := hf 0 _ rfl
      obtain ⟨v1, y1, c1, t1⟩ := hf 1 _ rfl
      obtain ⟨n0, e0, _, _⟩ := DataW.trod_int (P := Try.prog) (t := 3) Try.underlying3 t0
      obtain ⟨A', n', c', ps, rfl, h1, h2, h3⟩ := trodPages t1
      injection e0 with e0 _
      subst e0
      exact ⟨⟨n0, ps⟩, A', n', c', c0, c1, h1, by unfold maxLen at h2; omega, h3⟩
    obtain ⟨bs, hpl, hp⟩ := pick_list noBlock _ len key
    refine ⟨_, _, _, bs, hcs, hl, hm, hpl, fun hn => ?_⟩
    obtain ⟨_, _, _, h0, _⟩ := hp 0 hn
    obtain ⟨b, off, rfl, hb⟩ := addr_form (by simpa using h0)
    refine ⟨b, off, rfl, hb, fun i hil => ?_⟩
    obtain ⟨A', n', c', h0, h1, h2⟩ := hp i hil
    rw [add_none] at h0 h1
    exact ⟨A', n', c', h0, by rw [Nat.add_assoc]; exact h1, h2⟩
end
def IsRowBlockS (w : World) (a : Option Addr) (len cap : Nat) (zs : List BlockV) : Prop := len ≤ cap ∧ cap ≤ maxLen ∧ RdB w w.heap.size a len zs
theorem openArg_BlockS {H : Type} {enc : TypeId × Value → H} {W : World} {len cap : Nat} {a : Option Addr} {d : DataW H} {p : List MemPlace}
    (h : DataW.Trod enc Try.prog W 0 (fun _ => true) true 22 (.slice a len cap) d p) (lt : ∀ x ∈ p, x.block < W.heap.size) : ∃ zs, IsRowBlockS W a len cap zs := by
  obtain ⟨fuel, hf⟩ := h
  obtain ⟨A, n, c, bs, hv, h1, h2, h3⟩ := trodBlocks (v := .slice a len cap) (by simpa [Value.cells] using hf)
  injection hv with e1 e2 e3
  subst e1 e2 e3
  exact ⟨bs, h1, h2, h3⟩
end Go.Proofs.Ytjnpgdhpneifjaa
