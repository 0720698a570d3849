/- How tables and names read. No condition. -/
import Derived.Test.YtjnpgdhpneifjaaList
namespace Go.Proofs.Ytjnpgdhpneifjaa
open Go.ChangeShapes Go.WideShapes Go.ChangeAt Go.RowKit Go.Deep
set_option linter.unusedVariables false
set_option linter.unusedSimpArgs false

/-- a slice that reads as this table -/
structure RdT (w : World) (B : Nat) (A : Option Addr) (n : Nat) (ts : List (List Int)) : Prop where
  len : ts.length = n
  at_ : 0 < n → ∃ b off, A = some ⟨b, off, none⟩ ∧ b < B ∧ ∀ i, i < n → ∃ (A' : Option Addr) (n' c' : Nat),
    w.cell? ⟨b, off + i, none⟩ = some (.slice A' n' c') ∧ n' ≤ c' ∧ c' ≤ 9223372036854775807 ∧ RdI .i64 w B A' n' (ts.getD i [])
theorem RdT.mono {w B B' A n xs} (h : RdT w B A n xs) (hB : B ≤ B') : RdT w B' A n xs :=
  ⟨h.len, fun hn => by
    obtain ⟨b, off, e, hb, hc⟩ := h.at_ hn
    refine ⟨b, off, e, by omega, fun i hi => ?_⟩
    obtain ⟨A', n', c', h1, h2, h3, h4⟩ := hc i hi
    exact ⟨A', n', c', h1, h2, h3, h4.mono hB⟩⟩
theorem RdT.below {w w' B A n xs} (h : RdT w B A n xs) (hb : Below B w w') : RdT w' B A n xs :=
  ⟨h.len, fun hn => by
    obtain ⟨b, off, e, hb1, hc⟩ := h.at_ hn
    refine ⟨b, off, e, hb1, fun i hi => ?_⟩
    obtain ⟨A', n', c', h1, h2, h3, h4⟩ := hc i hi
    exact ⟨A', n', c', (hb.cell hb1).trans h1, h2, h3, h4.below hb⟩⟩
theorem RdT.drew {w B A n xs} (h : RdT w B A n xs) : RdT w.drew B A n xs := h.below ((Below.refl B w).drew)
theorem RdT.drewN {w B A n xs} (h : RdT w B A n xs) (m : Nat) : RdT (w.drewN m) B A n xs := h.below (below_drewN (Below.refl B w) m)
theorem RdT.nil {w B A} : RdT w B A 0 [] := ⟨rfl, fun h => absurd h (Nat.lt_irrefl _)⟩
abbrev NameV := ByteArray × Int
def noName : NameV := (ByteArray.empty, 0)
/-- a slice that reads as these names -/
structure RdN (w : World) (B : Nat) (A : Option Addr) (n : Nat) (ns : List NameV) : Prop where
  len : ns.length = n
  at_ : 0 < n → ∃ b off, A = some ⟨b, off, none⟩ ∧ b < B ∧ ∀ i, i < n → w.cell? ⟨b, off + i * 2, none⟩ = some (.string (ns.getD i noName).1) ∧ w.cell? ⟨b, off + i * 2 + 1, none⟩ = some (.int .i64 (ns.getD i noName).2)
theorem RdN.mono {w B B' A n xs} (h : RdN w B A n xs) (hB : B ≤ B') : RdN w B' A n xs :=
  ⟨h.len, fun hn => by obtain ⟨b, off, e, hb, hc⟩ := h.at_ hn; exact ⟨b, off, e, by omega, hc⟩⟩
theorem RdN.below {w w' B A n xs} (h : RdN w B A n xs) (hb : Below B w w') : RdN w' B A n xs :=
  ⟨h.len, fun hn => by obtain ⟨b, off, e, hb1, hc⟩ := h.at_ hn; exact ⟨b, off, e, hb1, fun i hi => ⟨(hb.cell hb1).trans (hc i hi).1, (hb.cell hb1).trans (hc i hi).2⟩⟩⟩
theorem RdN.drew {w B A n xs} (h : RdN w B A n xs) : RdN w.drew B A n xs := ⟨h.len, h.at_⟩
theorem RdN.drewN {w B A n xs} (h : RdN w B A n xs) (m : Nat) : RdN (w.drewN m) B A n xs := ⟨h.len, h.at_⟩
theorem RdN.nil {w B A} : RdN w B A 0 [] := ⟨rfl, fun h => absurd h (Nat.lt_irrefl _)⟩
end Go.Proofs.Ytjnpgdhpneifjaa
