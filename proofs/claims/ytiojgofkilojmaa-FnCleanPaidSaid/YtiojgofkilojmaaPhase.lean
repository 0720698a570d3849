/- A region that draws its order, taken in phases: an invariant over (done mask, act, world) carries the walk through the operations that may come in any order. No condition. -/
import Derived.Orders
namespace Go.Proofs.Ytiojgofkilojmaa
open Go

theorem wpAny_phase {P : Program} {ops : Array Oper} {Q : Exit → Act → World → Prop} {md : Region.Mode} {k : Nat} (I : Nat → Array Bool → Act → World → Prop)
    (last : ∀ l a w, I 0 l a w → wpAny P md ops Q k l a w)
    (some_ : ∀ n l a w, I (n + 1) l a w → Region.ready md ops l ≠ [])
    (step : ∀ n l a w i, I (n + 1) l a w → i ∈ Region.ready md ops l → wpOp P ops Q i (I n (l.setIfInBounds i true)) a w) :
    ∀ n l a w, I n l a w → wpAny P md ops Q (n + k) l a w
  | 0, l, a, w, h => by rw [Nat.zero_add]; exact last l a w h
  | n + 1, l, a, w, h => by
    rw [Nat.add_right_comm]
    refine ⟨fun e => absurd e (some_ n l a w h), fun i hi => ?_⟩
    exact wpOp_mono (fun a' w' h' => wpAny_phase I last some_ step n _ a' w' h') (step n l a w i h hi)
end Go.Proofs.Ytiojgofkilojmaa
