/- Contract of the program's SortAsks. Condition: at most 2^20 requests. -/
import Derived.Test.YtmkmobgmlhioaaaSort
import Derived.Test.YtmkmobgmlhioaaaAsks
namespace Go.Proofs.Ytmkmobgmlhioaaa
open Go.ChangeShapes Go.WideShapes Go.ChangeAt Go.RowKit
set_option linter.unusedVariables false
set_option linter.unusedSimpArgs false

open Classical in
noncomputable def sortAsks (xs : List (Int × Int)) : List (Int × Int) := if AsksOk xs then sortP xs else []
theorem sortAsks_ok {xs} (h : AsksOk xs) : sortAsks xs = sortP xs := by unfold sortAsks; rw [if_pos h]
theorem sortAsks_no {xs} (h : ¬ AsksOk xs) : sortAsks xs = [] := by unfold sortAsks; rw [if_neg h]
theorem sortAsks_len (xs) : (sortAsks xs).length ≤ 12 := by
  unfold sortAsks
  split
  · next h => rw [sortP_len]; exact h.1
  · simp
theorem sortAsks_impl {A : Option Addr} {n c B : Nat} {xs : List (Int × Int)} {w : World} (hp : RdP w B A n xs) (hB : B ≤ w.heap.size) (hn : n ≤ 1048576) :
    Calls Try.prog 23 #[.slice A n c] w (OwnAsk w (sortAsks xs)) := by
  have hxl := hp.len
  rcases Bool.eq_false_or_eq_true (bof (AsksOk xs)) with hb | hb
  · have hs := Lib.hid (sortAsks_ok (bof_t.1 hb))
    have HSL := Lib.hid (sortP_len xs)
    go_enter Try.func23, Try.ntmps23
    go_wp2_with fail
    refine (asksValid_impl hp hB hn).mono ?_
    rw [hb]
    rintro e w1 ⟨rfl, b1⟩
    have hp1 := hp.below (b1.mono hB)
    have hs1 := b1.size
    go_wp2_with fail
    refine (cloneP_c hp1 (by omega) hn).mono ?_
    rintro e w2 ⟨A2, c2, rfl, o2, b2⟩
    have hs2 := b2.size
    go_wp2_with fail
    refine (sortFunc_c o2 hn).mono ?_
    rintro e w3 ⟨rfl, o3, g3⟩
    go_wp2_with fail
    go_ret
    rw [hs.out]
    exact ownAsk_of (by rw [HSL.out]; exact hxl) (ownsRow_base3 o3 hs1) (b1.trans ((below_app b2 o2 hs2 g3).mono hs1))
  · have hs := Lib.hid (sortAsks_no (bof_f.1 hb))
    go_enter Try.func23, Try.ntmps23
    go_wp2_with fail
    refine (asksValid_impl hp hB hn).mono ?_
    rw [hb]
    rintro e w1 ⟨rfl, b1⟩
    go_wp2_with fail
    go_ret
    rw [hs.out]
    exact ownAsk_of (ys := []) rfl (World.ownsRow_nil _ _ _ _) b1
end Go.Proofs.Ytmkmobgmlhioaaa
