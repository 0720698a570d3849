/- Names of the call's own: how they are owned and read. No condition. -/
import Derived.Test.YtjnpgdhpneifjaaDevOwn
import Derived.Test.YtjnpgdhpneifjaaTabN
namespace Go.Proofs.Ytjnpgdhpneifjaa
open Go.ChangeShapes Go.WideShapes Go.ChangeAt Go.RowKit Go.Deep
set_option linter.unusedVariables false
set_option linter.unusedSimpArgs false

def nmc (x : NameV) : List Value := [.string x.1, .int .i64 x.2]
theorem nmc_len (x : NameV) : (nmc x).length = 2 := rfl
def flatN (ns : List NameV) : List Value := ns.flatMap nmc
theorem flatN_len (ns : List NameV) : (flatN ns).length = ns.length * 2 := flatM_len nmc nmc_len ns
theorem flatN_append (ps qs : List NameV) : flatN (ps ++ qs) = flatN ps ++ flatN qs := by simp [flatN]
theorem flatN_one (p : NameV) : flatN [p] = nmc p := by simp [flatN]
theorem flatN_one_cell (ps : List NameV) : ∀ u ∈ flatN ps, u.oneCell' = true := by
  intro u hu
  simp only [flatN, List.mem_flatMap, nmc] at hu
  obtain ⟨p, _, hp⟩ := hu
  simp at hp
  rcases hp with rfl | rfl <;> rfl
/-- names of the call's own -/
def OwN (w : World) (base : Nat) (A : Option Addr) (n c : Nat) (ns : List NameV) : Prop := w.ownsRow base 90 2 (.slice A n c) n (flatN ns)
theorem OwN.len {w base A n c ns} (h : OwN w base A n c ns) : ns.length = n := by have := h.1; rw [flatN_len] at this; omega
theorem OwN.below {w w' base A n c ns} (h : OwN w base A n c ns) (hb : Below w.heap.size w w') : OwN w' base A n c ns := own_below h hb
theorem OwN.lower {w base base' A n c ns} (h : OwN w base A n c ns) (hb : base' ≤ base) : OwN w base' A n c ns := own_lower h hb
theorem OwN.typed {ts : List Nat} {w w' base A n c ns} (h : OwN w base A n c ns) (hc : ChgT ts w w') (h1 : 90 ∉ ts) : OwN w' base A n c ns := own_typed h hc h1
theorem OwN.cap {w base A n c ns} (h : OwN w base A n c ns) : n ≤ c ∧ c ≤ 9223372036854775807 := own_cap h
theorem OwN.nil (w : World) (base : Nat) : OwN w base none 0 0 [] := World.ownsRow_nil _ _ _ _
theorem OwN.form {w base A n c ns} (h : OwN w base A n c ns) (hn : 0 < n) : ∃ g, A = some ⟨g, 0, none⟩ ∧ base ≤ g ∧ g < w.heap.size := by
  obtain ⟨g, cap, e, hg1, hg2⟩ := World.ownsRow.form h hn
  injection e with e1 e2 e3
  subst e1
  exact ⟨g, rfl, hg1, hg2⟩
theorem OwN.cells {w base g n c ns} (h : OwN w base (some ⟨g, 0, none⟩) n c ns) (i : Nat) (hi : i < n) : w.cell? ⟨g, i * 2, none⟩ = some (.string (ns.getD i noName).1) ∧ w.cell? ⟨g, i * 2 + 1, none⟩ = some (.int .i64 (ns.getD i noName).2) ∧ w.frozen? ⟨g, i * 2, none⟩ = false ∧ w.frozen? ⟨g, i * 2 + 1, none⟩ = false := by
  have hl := h.len
  have key : ∀ j, j < 2 → w.cell? ⟨g, i * 2 + j, none⟩ = (nmc (ns.getD i noName))[j]? := fun j hj => by
    rw [World.ownsRow.cellAt h (g := g) (cap := c) (i * 2 + j) (by omega)]
    exact flatM_get nmc nmc_len noName ns i j (by omega) hj
  exact ⟨key 0 (by omega), key 1 (by omega), World.ownsRow.frozenAt h (g := g) (cap := c) _, World.ownsRow.frozenAt h (g := g) (cap := c) _⟩
theorem OwN.rd {w base A n c ns} (h : OwN w base A n c ns) : RdN w w.heap.size A n ns := by
  refine ⟨h.len, fun hn => ?_⟩
  obtain ⟨g, rfl, hg1, hg2⟩ := h.form hn
  refine ⟨g, 0, rfl, hg2, fun i hi => ?_⟩
  obtain ⟨h0, h1, _⟩ := h.cells i hi
  exact ⟨by rw [Nat.zero_add]; exact h0, by rw [Nat.zero_add]; exact h1⟩
/-- a name is stored anew -/
theorem OwN.put {w : World} {base g n c : Nat} {ns : List NameV} (h : OwN w base (some ⟨g, 0, none⟩) n c ns) (i : Nat) (hi : i < n) (x : NameV) :
    OwN ((w.setCell ⟨g, i * 2, none⟩ (.string x.1)).setCell ⟨g, i * 2 + 1, none⟩ (.int .i64 x.2)) base (some ⟨g, 0, none⟩) n c (ns.set i x) ∧ w.grownBy ((w.setCell ⟨g, i * 2, none⟩ (.string x.1)).setCell ⟨g, i * 2 + 1, none⟩ (.int .i64 x.2)) (some g) := by
  have hl := h.len
  obtain ⟨s, f⟩ := x
  obtain ⟨P, hP⟩ : ∃ P, ns.getD i noName = P := ⟨_, rfl⟩
  have f0 := flatM_set nmc nmc_len noName ns i 0 (by omega) (by omega) (.string s) (s, P.2) (by rw [hP]; rfl)
  have f1 := flatM_set nmc nmc_len noName (ns.set i (s, P.2)) i 1 (by simp; omega) (by omega) (.int .i64 f) (s, f) (by rw [getD_setG _ _ _ _ (by omega)]; rfl)
  rw [List.set_set] at f1
  obtain ⟨o0, q0⟩ := World.ownsRow.stored h (g := g) (cap := c) (i * 2 + 0) (.string s)
  rw [show (flatN ns).set (i * 2 + 0) (.string s) = _ from f0] at o0
  obtain ⟨o1, q1⟩ := o0.stored (g := g) (cap := c) (i * 2 + 1) (.int .i64 f)
  rw [f1] at o1
  exact ⟨o1, gb_trans q0 q1⟩
theorem infoName : (Try.prog.info? 90).map (fun i => (i.zero, i.size, i.bytes)) = some (some (.agg #[.string ByteArray.empty, .int .i64 0]), 2, 24) := by kernel_rfl
theorem makeName (n : Nat) (hn : n ≤ 1048576) (W : World) : (Instr.makeSlice 40 (.int .i64 (n : Int)) (.int .i64 (n : Int))).run Try.prog W = .ok (.slice (some ⟨W.heap.size, 0, none⟩) n n) (W.alloc (.cells (madeCells #[.string ByteArray.empty, .int .i64 0] (n * 2)) 90)) := by
  obtain ⟨i0, hi, hz0, hz1, hz2⟩ := info_parts infoName
  have := run_make (P := Try.prog) W 40 90 i0 _ Try.underlying40 hi hz0 .i64 .i64 n n (by omega) (by omega) (by rw [hz2]; omega) (by omega)
  rw [this, hz1]
  simp only [Int.toNat_natCast]
  rfl
theorem own_madeNames (w : World) (base n : Nat) (ns : List NameV) (hn : ns.length = n) (hb : base ≤ w.heap.size) (hm : n ≤ 1048576) : OwN (w.alloc (.cells (madeCells #[.string ByteArray.empty, .int .i64 0] (n * 2)) 90)) base (some ⟨w.heap.size, 0, none⟩) n n (fillTo noName ns 0) := by
  have h := World.ownsRow_lit (base := base) (e := 90) (size := 2) w (madeCells #[.string ByteArray.empty, .int .i64 0] (n * 2)) n hb (by unfold maxLen; omega) (by rw [size_madeCells])
  rw [madeCells_list _ (k := 2) rfl (by omega)] at h
  rw [fillTo_zero, hn]
  have e : flatN (List.replicate n noName) = (List.replicate n (#[Value.string ByteArray.empty, .int .i64 0] : Array Value).toList).flatten := by
    unfold flatN
    rw [List.flatMap_def, List.map_replicate]
    rfl
  unfold OwN
  rw [e]
  exact h
end Go.Proofs.Ytjnpgdhpneifjaa
