/- Slices of structs of two integers: how they read, owned rows of them. No condition. -/
import Derived.Test.YtmkmobgmlhioaaaList
import Derived.Deep.SlicePairs
namespace Go.Proofs.Ytmkmobgmlhioaaa
open Go.ChangeShapes Go.WideShapes Go.ChangeAt Go.RowKit Go.Deep
set_option linter.unusedVariables false
set_option linter.unusedSimpArgs false

def pc (p : Int × Int) : List Value := [.int .i64 p.1, .int .i64 p.2]
def flatP (ps : List (Int × Int)) : List Value := ps.flatMap pc
theorem flatP_nil : flatP [] = [] := rfl
theorem flatP_append (ps qs : List (Int × Int)) : flatP (ps ++ qs) = flatP ps ++ flatP qs := by simp [flatP]
theorem flatP_one (p : Int × Int) : flatP [p] = pc p := by simp [flatP]
theorem flatP_cons (p : Int × Int) (ps : List (Int × Int)) : flatP (p :: ps) = pc p ++ flatP ps := by simp [flatP]
theorem flatP_len (ps : List (Int × Int)) : (flatP ps).length = ps.length * 2 := by
  induction ps with
  | nil => rfl
  | cons p ps ih => rw [flatP_cons, List.length_append, ih, List.length_cons]; simp [pc]; omega
theorem flatP_get (ps : List (Int × Int)) (i : Nat) (h : i < ps.length) :
    (flatP ps)[i * 2]? = some (.int .i64 (ps.getD i (0, 0)).1) ∧ (flatP ps)[i * 2 + 1]? = some (.int .i64 (ps.getD i (0, 0)).2) := by
  induction ps generalizing i with
  | nil => simp at h
  | cons p ps ih =>
    rw [flatP_cons]
    cases i with
    | zero => simp [pc]
    | succ i =>
      have hi := ih i (by simpa using h)
      have e : (i + 1) * 2 = i * 2 + 2 := by omega
      have e1 : (i + 1) * 2 + 1 = (i * 2 + 1) + 2 := by omega
      rw [e1, e, List.getElem?_append_right (by simp [pc]), List.getElem?_append_right (by simp [pc])]
      simp only [pc, List.length_cons, List.length_nil, Nat.zero_add, Nat.reduceAdd, Nat.add_sub_cancel]
      exact ⟨by simpa using hi.1, by simpa using hi.2⟩
theorem flatP_one_cell (ps : List (Int × Int)) : ∀ u ∈ flatP ps, u.oneCell' = true := by
  intro u hu
  simp only [flatP, List.mem_flatMap, pc] at hu
  obtain ⟨p, _, hp⟩ := hu
  simp at hp
  rcases hp with rfl | rfl <;> rfl

/-- a slice of pairs that reads as ps, in a block below B -/
structure RdP (w : World) (B : Nat) (A : Option Addr) (n : Nat) (ps : List (Int × Int)) : Prop where
  len : ps.length = n
  at_ : 0 < n → ∃ b off, A = some ⟨b, off, none⟩ ∧ b < B ∧ ∀ i, i < n → w.cell? ⟨b, off + i * 2, none⟩ = some (.int .i64 (ps.getD i (0, 0)).1) ∧ w.cell? ⟨b, off + i * 2 + 1, none⟩ = some (.int .i64 (ps.getD i (0, 0)).2)
theorem RdP.mono {w B B' A n xs} (h : RdP w B A n xs) (hB : B ≤ B') : RdP w B' A n xs :=
  ⟨h.len, fun hn => by obtain ⟨b, off, e, hb, hc⟩ := h.at_ hn; exact ⟨b, off, e, by omega, hc⟩⟩
theorem RdP.below {w w' B A n xs} (h : RdP w B A n xs) (hb : Below B w w') : RdP w' B A n xs :=
  ⟨h.len, fun hn => by obtain ⟨b, off, e, hb1, hc⟩ := h.at_ hn; exact ⟨b, off, e, hb1, fun i hi => ⟨(hb.cell hb1).trans (hc i hi).1, (hb.cell hb1).trans (hc i hi).2⟩⟩⟩
theorem rdoP {w : World} {base : Nat} {e : TypeId} {A : Option Addr} {n c : Nat} {xs : List (Int × Int)} (h : w.ownsRow base e 2 (.slice A n c) n (flatP xs)) : RdP w w.heap.size A n xs := by
  have hl : xs.length = n := by have := h.1; rw [flatP_len] at this; omega
  rcases h.2 with ⟨h1, h2⟩ | ⟨g, cap, cur, h1, hb, hh, hnc, hm, hsz, htk⟩
  · exact ⟨hl, fun hn => by omega⟩
  · injection h1 with h1 h3 h4
    subst h1; subst h4
    refine ⟨hl, fun hn => ⟨g, 0, rfl, ?_, fun i hi => ?_⟩⟩
    · rcases Nat.lt_or_ge g w.heap.size with hlt | hge
      · exact hlt
      · rw [Array.getElem?_eq_none hge] at hh; cases hh
    · have c0 := h.cellAt (g := g) (cap := c) (i * 2) (by omega)
      have c1 := h.cellAt (g := g) (cap := c) (i * 2 + 1) (by omega)
      have := flatP_get xs i (by omega)
      rw [Nat.zero_add, c0, c1]
      exact this
def IsRowP (w : World) (a : Option Addr) (len cap : Nat) (zs : List (Int × Int)) : Prop := len ≤ cap ∧ cap ≤ maxLen ∧ RdP w w.heap.size a len zs
theorem isRowP_rd {w a len cap zs} (h : IsRowP w a len cap zs) : len ≤ cap ∧ cap ≤ maxLen ∧ RdP w w.heap.size a len (zs.take len) := by
  obtain ⟨h1, h2, h3⟩ := h
  exact ⟨h1, h2, by rw [List.take_of_length_le (by rw [h3.len]; omega)]; exact h3⟩
/-- the integer in a cell -/
def intAt (w : World) (a : Addr) : Int := match w.cell? a with | some (.int _ n) => n | _ => 0
theorem intAt_of {w : World} {a : Addr} {k : IntKind} {n : Int} (h : w.cell? a = some (.int k n)) : intAt w a = n := by unfold intAt; rw [h]
/-- an argument that is a slice of such structs -/
theorem openArg_pairs {H : Type} {enc : TypeId × Value → H} {W : World} {t e : TypeId} {f0 f1 : Field} {len cap : Nat} {a : Option Addr} {d : DataW H} {p : List MemPlace}
    (ht : Try.prog.underlying t = some (.slice e)) (he : Try.prog.underlying e = some (.struct #[f0, f1])) (ce : Try.prog.cellsOf e = 2) (o0 : f0.offset = 0) (o1 : f1.offset = 1) (t0 : f0.type = 3) (t1 : f1.type = 3)
    (h : DataW.Trod enc Try.prog W 0 (fun _ => true) true t (.slice a len cap) d p) : ∃ zs, IsRowP W a len cap zs := by
  obtain ⟨fuel, hf⟩ := h
  rcases open_slice_pairs ht he ce o0 o1 (by rw [t0]; kernel_rfl) (by rw [t1]; kernel_rfl) hf with ⟨hcs, _⟩ | ⟨x, l, c, m, n, V0, V1, D0, D1, P0, P1, hcs, hb, hl, hm, hmm, hx, hcell⟩
  · simp [Value.cells] at hcs
    obtain ⟨rfl, rfl, rfl⟩ := hcs
    exact ⟨[], Nat.le_refl _, by decide, rfl, fun h => absurd h (Nat.lt_irrefl _)⟩
  · simp [Value.cells] at hcs
    obtain ⟨rfl, rfl, rfl⟩ := hcs
    simp only [if_true] at hmm
    subst hmm
    have key : ∀ i, i < m → ∃ u v : Int, W.cell? (x.add (i * 2)) = some (.int .i64 u) ∧ W.cell? (x.add (i * 2 + 1)) = some (.int .i64 v) := by
      intro i hi
      obtain ⟨h0, h1, g0, g1⟩ := hcell i hi
      rw [t0] at g0
      rw [t1] at g1
      obtain ⟨u, e0, _⟩ := DataW.trod_int Try.underlying3 g0
      obtain ⟨v, e1, _⟩ := DataW.trod_int Try.underlying3 g1
      simp at e0 e1
      exact ⟨u, v, by rw [h0, e0], by rw [h1, e1]⟩
    refine ⟨(List.range len).map fun i => (intAt W (x.add (i * 2)), intAt W (x.add (i * 2 + 1))), hl, hm, by simp, fun hn => ?_⟩
    obtain ⟨b, off, spot⟩ := x
    obtain ⟨u, v, q0, _⟩ := key 0 (by omega)
    have hspot : spot = none := by simpa [Addr.add] using World.cell?_spot q0
    subst hspot
    have hlt := block_lt_of_cell q0
    rw [add_none] at hlt
    refine ⟨b, off, rfl, hlt, fun i hi => ?_⟩
    obtain ⟨u, v, q0, q1⟩ := key i (by omega)
    simp only [List.getD_eq_getElem?_getD, List.getElem?_map, List.getElem?_range hi, Option.map_some, Option.getD_some]
    rw [intAt_of q0, intAt_of q1]
    rw [add_none] at q0 q1
    exact ⟨q0, by rw [Nat.add_assoc]; exact q1⟩

def marksP (k : Int) (n : Nat) : List (Int × Int) := (List.range n).map fun (i : Nat) => (k + 2 * (i : Int), k + 2 * (i : Int) + 1)
theorem marksP_len (k : Int) (n : Nat) : (marksP k n).length = n := by simp [marksP]
theorem marksP_getD (k : Int) (n i : Nat) (h : i < n) : (marksP k n).getD i (0, 0) = (k + 2 * (i : Int), k + 2 * (i : Int) + 1) := by
  simp [marksP, List.getD_eq_getElem?_getD, h]
def markToP (k : Int) (j : Nat) (xs : List (Int × Int)) : List (Int × Int) := marksP k j ++ xs.drop j
theorem markToP_zero (k : Int) (xs : List (Int × Int)) : markToP k 0 xs = xs := by simp [markToP, marksP]
theorem markToP_all (k : Int) (xs : List (Int × Int)) : markToP k xs.length xs = marksP k xs.length := by simp [markToP]
theorem markToP_len (k : Int) (j : Nat) (xs : List (Int × Int)) (h : j ≤ xs.length) : (markToP k j xs).length = xs.length := by simp [markToP, marksP_len]; omega
theorem flatP_set (xs : List (Int × Int)) (j : Nat) (u v : Int) (h : j < xs.length) : ((flatP xs).set (j * 2) (.int .i64 u)).set (j * 2 + 1) (.int .i64 v) = flatP (xs.set j (u, v)) := by
  induction xs generalizing j with
  | nil => simp at h
  | cons p ps ih =>
    cases j with
    | zero => simp [flatP_cons, pc]
    | succ j =>
      have hj := ih j (by simpa using h)
      rw [List.set_cons_succ, flatP_cons, flatP_cons, ← hj]
      have e : (j + 1) * 2 = j * 2 + 2 := by omega
      have e1 : (j + 1) * 2 + 1 = (j * 2 + 1) + 2 := by omega
      rw [e1, e]
      simp [pc]
theorem markToP_succ (k : Int) (j : Nat) (xs : List (Int × Int)) (h : j < xs.length) : (markToP k j xs).set j (k + 2 * (j : Int), k + 2 * (j : Int) + 1) = markToP k (j + 1) xs := by
  unfold markToP
  rw [List.set_append_right _ _ (by rw [marksP_len]; omega), marksP_len, Nat.sub_self, List.drop_eq_getElem_cons h, List.set_cons_zero]
  have : marksP k (j + 1) = marksP k j ++ [(k + 2 * (j : Int), k + 2 * (j : Int) + 1)] := by simp [marksP, List.range_succ]
  rw [this, List.append_assoc]
  rfl
/-- two stores into an owned row of pairs -/
theorem own_storedP {w : World} {base e g n c : Nat} {xs : List (Int × Int)} (h : w.ownsRow base e 2 (.slice (some ⟨g, 0, none⟩) n c) n (flatP xs)) (j : Nat) (hj : j < n) (u v : Int) :
    ((w.setCell ⟨g, j * 2, none⟩ (.int .i64 u)).setCell ⟨g, j * 2 + 1, none⟩ (.int .i64 v)).ownsRow base e 2 (.slice (some ⟨g, 0, none⟩) n c) n (flatP (xs.set j (u, v))) := by
  have hl : xs.length = n := by have := h.1; rw [flatP_len] at this; omega
  have h1 := (h.stored (g := g) (cap := c) (j * 2) (.int .i64 u)).1
  have h2 := (h1.stored (g := g) (cap := c) (j * 2 + 1) (.int .i64 v)).1
  rw [flatP_set xs j u v (by omega)] at h2
  exact h2
theorem ext_getDP {xs ys : List (Int × Int)} (h : xs.length = ys.length) (hd : ∀ i, i < xs.length → xs.getD i (0, 0) = ys.getD i (0, 0)) : xs = ys := by
  apply List.ext_getElem h
  intro i h1 h2
  have := hd i h1
  rw [List.getD_eq_getElem?_getD, List.getD_eq_getElem?_getD, List.getElem?_eq_getElem h1, List.getElem?_eq_getElem h2] at this
  exact this
end Go.Proofs.Ytmkmobgmlhioaaa
