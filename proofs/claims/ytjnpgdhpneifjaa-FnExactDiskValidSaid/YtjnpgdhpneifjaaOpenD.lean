/- Arguments opened: disks. -/
import Derived.Test.YtjnpgdhpneifjaaOpen
import Derived.Test.YtjnpgdhpneifjaaDiskLaw
namespace Go.Proofs.Ytjnpgdhpneifjaa
open Go.ChangeShapes Go.WideShapes Go.ChangeAt Go.RowKit Go.Deep
set_option linter.unusedVariables false
set_option linter.unusedSimpArgs false

section
variable {H : Type} {enc : TypeId × Value → H} {P : Program} {w : World} {base : Nat} {spare : Nat → Bool} {held : Bool}
/-- the fields of a struct, each by itself -/
theorem open_fields {t : TypeId} {fs : Array Field} {fuel : Nat} {cs : List Value} {x : DataW H × List MemPlace} (ht : P.underlying t = some (.struct fs)) (h : DataW.trod enc P w base spare held fuel t cs = some x) :
    cs.length = P.cellsOf t ∧ ∃ n : Nat, ∀ (i : Nat) (f : Field) (k : Nat), fs[i]? = some f → P.cellsOf f.type = k → ∃ y, DataW.trod enc P w base spare held n f.type ((cs.drop f.offset).take k) = some y := by
  obtain ⟨xs, n, hn, hx, hlen, hxl, hf⟩ := DataW.trod_struct ht h
  refine ⟨hlen, n, fun i f k hi hk => ?_⟩
  have h1 := hf i f hi
  have hil : i < fs.size := (Array.getElem?_eq_some_iff.1 hi).1
  rw [hk] at h1
  exact ⟨_, h1.trans (List.getElem?_eq_getElem (by omega))⟩
end
section
variable {H : Type} {enc : TypeId × Value → H} {W : World} {fuel : Nat} {x : DataW H × List MemPlace}
theorem trodInts {v : Value} (h : DataW.trod enc Try.prog W 0 (fun _ => true) true fuel 76 [v] = some x) : ∃ A n c xs, v = .slice A n c ∧ n ≤ c ∧ c ≤ maxLen ∧ RdI .i64 W W.heap.size A n xs := by
  rcases open_ints Try.underlying76 Try.underlying3 (by kernel_rfl) h with ⟨hcs, _⟩ | ⟨a, len, cap, zs, hcs, _, hl, hm, hz, _, hcell, _⟩
  · injection hcs with hcs _
    exact ⟨none, 0, 0, [], hcs, Nat.le_refl _, by decide, rfl, fun h => absurd h (Nat.lt_irrefl _)⟩
  · injection hcs with hcs _
    simp only [if_true] at hz
    refine ⟨_, _, _, zs.take len, hcs, hl, hm, by simp; omega, fun hn => ?_⟩
    obtain ⟨b, off, rfl, hb⟩ := addr_form (hcell 0 (by omega))
    refine ⟨b, off, rfl, hb, fun i hil => ?_⟩
    have := hcell i (by omega)
    rw [add_none] at this
    rw [this, List.getD_eq_getElem?_getD, List.getD_eq_getElem?_getD, List.getElem?_take_of_lt hil]
theorem trodIntSS {v : Value} (h : DataW.trod enc Try.prog W 0 (fun _ => true) true fuel 35 [v] = some x) : ∃ A n c ts, v = .slice A n c ∧ n ≤ c ∧ c ≤ maxLen ∧ RdT W W.heap.size A n ts := by
  rcases open_slice Try.underlying35 h with ⟨hcs, _⟩ | ⟨a, len, cap, m, n, D, Pl, hcs, _, hl, hm, hmm, _, hi⟩
  · injection hcs with hcs _
    exact ⟨none, 0, 0, [], hcs, Nat.le_refl _, by decide, rfl, fun h => absurd h (Nat.lt_irrefl _)⟩
  · injection hcs with hcs _
    simp only [if_true] at hmm
    subst hmm
    have key : ∀ i, i < len → ∃ r : List Int, ∃ A' n' c', W.cell? (a.add i) = some (.slice A' n' c') ∧ n' ≤ c' ∧ c' ≤ 9223372036854775807 ∧ RdI .i64 W W.heap.size A' n' r := by
      intro i hil
      obtain ⟨cs', hc, ht⟩ := hi i (by omega)
      rw [show Try.prog.cellsOf 76 = 1 by kernel_rfl, Nat.mul_one] at hc
      obtain ⟨_, hcl, hat⟩ := World.cells?_some hc
      obtain ⟨v, rfl⟩ : ∃ v, cs' = [v] := by
        match cs', hcl with
        | [v], _ => exact ⟨v, rfl⟩
      have hcell := hat 0 (by simp)
      obtain ⟨A', n', c', xs, rfl, h1, h2, h3⟩ := trodInts ht
      refine ⟨xs, A', n', c', ?_, h1, by unfold maxLen at h2; omega, h3⟩
      rw [Go.Deep.add_add, Nat.add_zero] at hcell
      exact hcell
    obtain ⟨ts, hpl, hp⟩ := pick_list [] _ len key
    refine ⟨_, _, _, ts, hcs, hl, hm, hpl, fun hn => ?_⟩
    obtain ⟨_, _, _, h0, _⟩ := hp 0 hn
    obtain ⟨b, off, rfl, hb⟩ := addr_form h0
    refine ⟨b, off, rfl, hb, fun i hil => ?_⟩
    obtain ⟨A', n', c', h0, h2⟩ := hp i hil
    rw [add_none] at h0
    exact ⟨A', n', c', h0, h2⟩
theorem trodNames {v : Value} (h : DataW.trod enc Try.prog W 0 (fun _ => true) true fuel 52 [v] = some x) : ∃ A n c ns, v = .slice A n c ∧ n ≤ c ∧ c ≤ maxLen ∧ RdN W W.heap.size A n ns ∧ LimN ns n := by
  rcases open_slice_fields Try.underlying52 Try.underlying125 (by kernel_rfl) (by kernel_rfl) h with ⟨hcs, _⟩ | ⟨a, len, cap, m, hcs, hl, hm, hmm, hi⟩
  · injection hcs with hcs _
    exact ⟨none, 0, 0, [], hcs, Nat.le_refl _, by decide, ⟨rfl, fun h => absurd h (Nat.lt_irrefl _)⟩, fun i h => absurd h (Nat.not_lt_zero _)⟩
  · injection hcs with hcs _
    simp only [if_true] at hmm
    subst hmm
    have key : ∀ i, i < len → ∃ p : NameV, W.cell? (a.add (i * 2)) = some (.string p.1) ∧ W.cell? (a.add (i * 2 + 1)) = some (.int .i64 p.2) ∧ p.1.size ≤ 9223372036854775807 := by
      intro i hil
      obtain ⟨n, hf⟩ := hi i (by omega)
      obtain ⟨v0, y0, c0, t0⟩ := hf 0 _ rfl
      obtain ⟨v1, y1, c1, t1⟩ := hf 1 _ rfl
      obtain ⟨s, e0, _, hs⟩ := DataW.trod_string (P := Try.prog) (t := 9) Try.underlying9 t0
      obtain ⟨n1, e1, _, _⟩ := DataW.trod_int (P := Try.prog) (t := 3) Try.underlying3 t1
      injection e0 with e0 _
      injection e1 with e1 _
      subst e0 e1
      exact ⟨(s, n1), c0, c1, by unfold maxLen at hs; simp only; omega⟩
    obtain ⟨ns, hpl, hp⟩ := pick_list noName _ len key
    refine ⟨_, _, _, ns, hcs, hl, hm, ⟨hpl, fun hn => ?_⟩, fun i hil => (hp i hil).2.2⟩
    obtain ⟨b, off, rfl, hb⟩ := addr_form (by simpa using (hp 0 hn).1)
    refine ⟨b, off, rfl, hb, fun i hil => ?_⟩
    have := hp i hil
    simp only [add_none, ← Nat.add_assoc] at this
    exact ⟨this.1, this.2.1⟩
end
/-- a disk that was handed in -/
structure OpenDisk (w : World) (z : DH × DiskV) : Prop where
  rd : RdD w w.heap.size z.1 z.2
  lim : LimD z.1 z.2
set_option maxRecDepth 8000 in
theorem openArg_Disk {b0 : Nat} {H : Type} {enc : TypeId × Value → H} {W : World} {v : Value} {d : DataW H} {p : List MemPlace} (hv : Value.okWide Try.prog W .any b0 54 v)
    (h : DataW.Trod enc Try.prog W 0 (fun _ => true) true 54 v d p) (lt : ∀ x ∈ p, x.block < W.heap.size) : ∃ z : DH × DiskV, v = dkv z.1 z.2 ∧ OpenDisk W z := by
  obtain ⟨cs, rfl, hsz⟩ := okWide_struct Try.underlying54 hv
  obtain ⟨fuel, hf⟩ := h
  rw [show Try.prog.cellsOf 54 = 7 by kernel_rfl] at hsz
  obtain ⟨c0, c1, c2, c3, c4, c5, c6, rfl⟩ : ∃ c0 c1 c2 c3 c4 c5 c6, cs = #[c0, c1, c2, c3, c4, c5, c6] := by
    obtain ⟨l⟩ := cs
    match l, hsz with
    | [c0, c1, c2, c3, c4, c5, c6], _ => exact ⟨c0, c1, c2, c3, c4, c5, c6, rfl⟩
  have hf' : DataW.trod enc Try.prog W 0 (fun _ => true) true fuel 54 [c0, c1, c2, c3, c4, c5, c6] = some (d, p) := hf
  obtain ⟨_, n, hn⟩ := open_fields Try.underlying54 hf'
  obtain ⟨y0, f0⟩ := hn 0 _ 1 rfl (by kernel_rfl)
  obtain ⟨y1, f1⟩ := hn 1 _ 1 rfl (by kernel_rfl)
  obtain ⟨y2, f2⟩ := hn 2 _ 3 rfl (by kernel_rfl)
  obtain ⟨y3, f3⟩ := hn 3 _ 1 rfl (by kernel_rfl)
  obtain ⟨y4, f4⟩ := hn 4 _ 1 rfl (by kernel_rfl)
  replace f0 : DataW.trod enc Try.prog W 0 (fun _ => true) true n 22 [c0] = some y0 := f0
  replace f1 : DataW.trod enc Try.prog W 0 (fun _ => true) true n 50 [c1] = some y1 := f1
  replace f2 : DataW.trod enc Try.prog W 0 (fun _ => true) true n 51 [c2, c3, c4] = some y2 := f2
  replace f3 : DataW.trod enc Try.prog W 0 (fun _ => true) true n 3 [c5] = some y3 := f3
  replace f4 : DataW.trod enc Try.prog W 0 (fun _ => true) true n 52 [c6] = some y4 := f4
  obtain ⟨_, n1, hn1⟩ := open_fields Try.underlying50 f1
  obtain ⟨y5, f5⟩ := hn1 0 _ 1 rfl (by kernel_rfl)
  replace f5 : DataW.trod enc Try.prog W 0 (fun _ => true) true n1 35 [c1] = some y5 := f5
  obtain ⟨_, n2, hn2⟩ := open_fields Try.underlying51 f2
  obtain ⟨y6, f6⟩ := hn2 0 _ 1 rfl (by kernel_rfl)
  obtain ⟨y7, f7⟩ := hn2 1 _ 1 rfl (by kernel_rfl)
  obtain ⟨y8, f8⟩ := hn2 2 _ 1 rfl (by kernel_rfl)
  replace f6 : DataW.trod enc Try.prog W 0 (fun _ => true) true n2 3 [c2] = some y6 := f6
  replace f7 : DataW.trod enc Try.prog W 0 (fun _ => true) true n2 3 [c3] = some y7 := f7
  replace f8 : DataW.trod enc Try.prog W 0 (fun _ => true) true n2 3 [c4] = some y8 := f8
  obtain ⟨bA, bn, bc, bs, rfl, b1, b2, b3⟩ := trodBlocks f0
  obtain ⟨tA, tn, tc, ts, rfl, t1, t2, t3⟩ := trodIntSS f5
  obtain ⟨nA, nn, nc, ns, rfl, n1, n2, n3, n4⟩ := trodNames f4
  obtain ⟨x, e2, _, _⟩ := DataW.trod_int (P := Try.prog) (t := 3) Try.underlying3 f6
  obtain ⟨y, e3, _, _⟩ := DataW.trod_int (P := Try.prog) (t := 3) Try.underlying3 f7
  obtain ⟨z, e4, _, _⟩ := DataW.trod_int (P := Try.prog) (t := 3) Try.underlying3 f8
  obtain ⟨st, e5, _, _⟩ := DataW.trod_int (P := Try.prog) (t := 3) Try.underlying3 f3
  injection e2 with e2 _
  injection e3 with e3 _
  injection e4 with e4 _
  injection e5 with e5 _
  subst e2 e3 e4 e5
  unfold maxLen at *
  exact ⟨(⟨bA, bn, bc, tA, tn, tc, nA, nn, nc⟩, ⟨bs, ts, x, y, z, st, ns⟩), rfl, ⟨b3, t3, n3⟩, ⟨by simp only; omega, by simp only; omega, by simp only; omega, n4⟩⟩
end Go.Proofs.Ytjnpgdhpneifjaa
