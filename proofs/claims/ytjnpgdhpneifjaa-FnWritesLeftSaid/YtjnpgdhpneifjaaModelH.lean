/- What FreshBlock and AppendPage compute, in plain Lean. -/
import Derived.Test.YtjnpgdhpneifjaaModelB
import Derived.Test.YtjnpgdhpneifjaaHeadS
namespace Go.Proofs.Ytjnpgdhpneifjaa
set_option linter.unusedVariables false
set_option linter.unusedSimpArgs false

def HeadV.has (h : HeadV) (k : Int) : Bool := k == h.x || k == h.y || k == h.z
/-- the fresh block with the least wear among the first k; -1 without one -/
def freshTo (bs : List BlockV) (h : HeadV) : Nat → Int
  | 0 => -1
  | k + 1 => if h.has k || !(nextP (bs.getD k noBlock).pages == 0) then freshTo bs h k else if freshTo bs h k < 0 ∨ (bs.getD k noBlock).wear < (bs.getD (freshTo bs h k).toNat noBlock).wear then k else freshTo bs h k
def freshF (bs : List BlockV) (h : HeadV) : Int := freshTo bs h bs.length
theorem freshTo_range (bs : List BlockV) (h : HeadV) : ∀ k, -1 ≤ freshTo bs h k ∧ freshTo bs h k < k
  | 0 => ⟨Int.le_refl _, by unfold freshTo; omega⟩
  | k + 1 => by
    have := freshTo_range bs h k
    unfold freshTo
    split
    · omega
    · split <;> omega
/-- a block to append to: that of the head, or a fresh one; -1 without one -/
def appendN (bs : List BlockV) (h : HeadV) (heat : Nat) : Int := if h.get heat < 0 ∨ nextP (bs.getD (h.get heat).toNat noBlock).pages < 0 then freshF bs h else h.get heat
structure AppV where
  bs : List BlockV
  h : HeadV
  at_ : Int
open Classical in
noncomputable def appendF (bs : List BlockV) (h : HeadV) (heat : Nat) (p : PageV) : AppV :=
  if PageOk p ∧ p.full = true then
    if appendN bs h heat < 0 then ⟨bs, h, -1⟩
    else ⟨progB bs (appendN bs h heat).toNat p, h.set heat (appendN bs h heat), progAt bs (appendN bs h heat).toNat⟩
  else ⟨[], ⟨0, 0, 0⟩, -1⟩
end Go.Proofs.Ytjnpgdhpneifjaa
