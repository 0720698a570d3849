/- Plain laws of sweeps; DrawSweepFrom. -/
import Derived.Test.YtmkmobgmlhioaaaFnAsks
import Derived.Test.YtmkmobgmlhioaaaSweepI
import Derived.Test.YtmkmobgmlhioaaaSweepS
import Derived.Test.YtmkmobgmlhioaaaPhase
namespace Go.Proofs.Ytmkmobgmlhioaaa
open Go.ChangeShapes Go.WideShapes Go.ChangeAt Go.RowKit
set_option linter.unusedVariables false
set_option linter.unusedSimpArgs false

theorem selP_all (pg : Int) (st : Nat) (ss : List (Int × Int)) : selP pg st ss ss.length = ss.filter (selB pg st) := by unfold selP; rw [List.take_length]
theorem selB_one (pg : Int) (a : Int × Int) : selB pg 1 a = !selB pg 0 a := by unfold selB; cases decide (pg ≤ a.1) <;> rfl
theorem sweepL_perm (ss : List (Int × Int)) (pg : Int) : (sweepL ss pg).Perm ss := by
  unfold sweepL
  rw [selP_all, selP_all]
  have e : selB pg 1 = fun a => !selB pg 0 a := funext (selB_one pg)
  rw [e]
  exact List.filter_append_perm _ _
theorem sweep_asks {xs : List (Int × Int)} {pg : Int} (h : SwOk xs pg) : AsksOk (sweepFrom xs pg) := by
  rw [sweep_ok h]; exact asksOk_perm (sweepL_perm _ _).symm (sortAsks_asks h.1)
theorem sweep_sort {xs : List (Int × Int)} {pg : Int} (h : SwOk xs pg) : sortAsks (sweepFrom xs pg) = sortAsks xs := by
  rw [sortAsks_ok (sweep_asks h), sweep_ok h, sortP_same (sweepL_perm _ _), sortAsks_ok h.1, sortP_twice]
theorem sweep_zero {xs : List (Int × Int)} (h : AsksOk xs) : sweepFrom xs 0 = sortAsks xs := by
  rw [sweep_ok ⟨h, by omega, by omega⟩]
  unfold sweepL
  rw [selP_all, selP_all]
  have hall := sortAsks_ok1 xs
  have h0 : ∀ a ∈ sortAsks xs, selB 0 0 a = true := fun a ha => by
    have := hall a ha
    unfold Ask1 at this
    unfold selB
    simp; omega
  rw [List.filter_eq_self.2 h0, List.filter_eq_nil_iff.2 (fun a ha => by rw [selB_one, h0 a ha]; simp), List.append_nil]
/-- how often First descends among the first k + 1 -/
def turnsTo (x : List (Int × Int)) : Nat → Nat
  | 0 => 0
  | k + 1 => turnsTo x k + if (x.getD (k + 1) (0, 0)).1 < (x.getD k (0, 0)).1 then 1 else 0
theorem turnsTo_le (x : List (Int × Int)) (k : Nat) : turnsTo x k ≤ k := by
  induction k with
  | zero => exact Nat.le_refl _
  | succ k ih => unfold turnsTo; split <;> omega
theorem getD_left {l l' : List (Int × Int)} {i : Nat} (h : i < l.length) : (l ++ l').getD i (0, 0) = l.getD i (0, 0) := by
  rw [List.getD_eq_getElem?_getD, List.getElem?_append_left h, ← List.getD_eq_getElem?_getD]
theorem getD_right {l l' : List (Int × Int)} {i : Nat} (h : l.length ≤ i) : (l ++ l').getD i (0, 0) = l'.getD (i - l.length) (0, 0) := by
  rw [List.getD_eq_getElem?_getD, List.getElem?_append_right h, ← List.getD_eq_getElem?_getD]
theorem up_of {l : List (Int × Int)} (h : l.Pairwise leR) {i j : Nat} (hij : i ≤ j) (hj : j < l.length) : (l.getD i (0, 0)).1 ≤ (l.getD j (0, 0)).1 := by
  have := sorted_at h hij hj
  rw [ltP_no] at this
  omega
theorem turns_two {l l' : List (Int × Int)} (h : l.Pairwise leR) (h' : l'.Pairwise leR) : ∀ k, k < (l ++ l').length → turnsTo (l ++ l') k ≤ if l.length ≤ k then 1 else 0
  | 0, _ => by unfold turnsTo; omega
  | k + 1, hk => by
    have ih := turns_two h h' k (by omega)
    rw [List.length_append] at hk
    unfold turnsTo
    by_cases h1 : k + 1 < l.length
    · rw [getD_left h1, getD_left (by omega), if_neg (by have := up_of h (i := k) (j := k + 1) (by omega) h1; omega), if_neg (by omega)]
      rw [if_neg (by omega)] at ih
      omega
    · by_cases h2 : k + 1 = l.length
      · rw [if_neg (by omega)] at ih
        have e2 : (if l.length ≤ k + 1 then 1 else 0) = 1 := if_pos (by omega)
        rw [e2]
        split <;> omega
      · rw [getD_right (i := k + 1) (by omega), getD_right (i := k) (by omega)]
        have e : k + 1 - l.length = (k - l.length) + 1 := by omega
        rw [if_neg (by have := up_of h' (i := k - l.length) (j := k + 1 - l.length) (by omega) (by omega); omega), if_pos (by omega)]
        rw [if_pos (by omega)] at ih
        omega
theorem sweep_turns {xs : List (Int × Int)} {pg : Int} (h : SwOk xs pg) {k : Nat} (hk : k < (sweepFrom xs pg).length) : turnsTo (sweepFrom xs pg) k ≤ 1 := by
  rw [sweep_ok h] at hk ⊢
  unfold sweepL at hk ⊢
  have hs : (sortAsks xs).Pairwise leR := by rw [sortAsks_ok h.1]; exact sortP_sorted xs
  rw [selP_all, selP_all] at hk ⊢
  have := turns_two (hs.filter (selB pg 0)) (hs.filter (selB pg 1)) k hk
  split at this <;> omega
theorem swOk_iff {xs : List (Int × Int)} {pg : Int} : SwOk xs pg ↔ AsksOk xs ∧ 0 ≤ pg ∧ pg ≤ 100 := Iff.rfl

/-- drawn requests and a page -/
def DrawnAI (w : World) (e : Ending) (w' : World) : Prop :=
  ∃ (ys : List (Int × Int)) (A : Option Addr) (c : Nat) (v : Int), e = .returned (.tuple #[.slice A ys.length c, .int .i64 v]) ∧ -1 ≤ v ∧ v ≤ 101 ∧ ys.length ≤ 100 ∧ w'.ownsRow w.heap.size 32 2 (.slice A ys.length c) ys.length (flatP ys) ∧ Below w.heap.size w w'
set_option maxHeartbeats 4000000 in
theorem drawSweepFrom_c {A : Option Addr} {n c : Nat} {xs : List Int} {w : World} (hr : RdI .u8 w w.heap.size A n xs) (hx : ∀ x ∈ xs, 0 ≤ x ∧ x ≤ 255) (hnc : n ≤ c) (hcm : c ≤ 9223372036854775807) :
    Calls Try.prog 33 #[.slice A n c] w (DrawnAI w) := by
  go_enter Try.func33, Try.ntmps33
  go_wp2_with fail
  refine (open_c hr hx hnc hcm).mono ?_
  rintro e w1 ⟨rfl, h1, b1⟩
  have hg1 := h1.lt
  go_wp2_with fail
  refine (l20Asks_c h1 (by omega) (by omega) (by omega)).mono ?_
  rintro e w2 h
  obtain ⟨ys, A2, c2, rfl, h100, o2, h2, g2⟩ := h
  have b2 := below_of_gb b1 g2 b1.size (Nat.le_refl _)
  have hs2 := g2.size
  have hs1 := b1.size
  clear hr hx hnc hcm h1 b1 g2
  generalize hyl : ys.length = m at *
  have HY := Lib.hid hyl
  clear hyl
  have hlg : w.heap.size < w1.heap.size := hg1.2
  have bel2 := b2
  go_wp2_with fail
  have hlt2 := h2.lt
  obtain ⟨g0, A', n', c', q, zs, hq, hb, hr', hxs, hn'⟩ := h2
  have hu1 := pv_range zs q 50 (by omega) hxs
  have hu2 := pv_range zs (q + 1) 8 (by omega) hxs
  obtain ⟨u1, hu⟩ : ∃ u1, pv zs q 50 = u1 := ⟨_, rfl⟩
  have HU1 := Lib.hid hu
  rw [hu] at hu1; clear hu
  obtain ⟨u2, hu⟩ : ∃ u2, pv zs (q + 1) 8 = u2 := ⟨_, rfl⟩
  have HU2 := Lib.hid hu
  rw [hu] at hu2; clear hu
  obtain ⟨x', hx1', hx2', A1, A1'⟩ := tab_in [.int .i64 0, .int .i64 0, .int .i64 0, .int .i64 0, .int .i64 0, .int .i64 0, .int .i64 1, .int .i64 2] [0, 0, 0, 0, 0, 0, 1, 2] rfl 0 2 (by decide) hu2.1 (by simp; omega)
  obtain ⟨y', hy1', hy2', A2, A2'⟩ := tab_in [.int .i64 u1, .int .i64 101, .int .i64 (-1)] [u1, 101, (-1)] rfl (-1) 101 (by simp; omega) hx1' (by simp; omega)
  have hu3 : u2 < 8 := by omega
  have hu4 : 0 ≤ u2 := by omega
  have hu5 : 0 ≤ u1 := by omega
  have hu6 : u1 < 50 := by omega
  have hx3 : x' < 3 := by omega
  go_region_with (first
    | (go_at_call_of 46 (Value.int IntKind.i64 50)
       refine (pick_x (q := q) (xs := zs) g0 (by repeat' (first | with_reducible exact hb | with_reducible apply Blk.drew | with_reducible apply Blk.alloc | with_reducible apply Blk.picked | with_reducible apply Blk.drewN)) (hr'.below (by repeat' first | with_reducible exact Below.refl _ _ | with_reducible apply below_drewN | with_reducible apply Below.drew | with_reducible refine Below.alloc ?_ (by first | omega | (simp; omega)) _ | with_reducible refine Below.setCell ?_ (by simp) _)) hxs hn' (by omega)).mono ?_
       rw [HU1.out]
       rintro e w4 ⟨rfl, nq1, rfl⟩)
    | (go_at_call_of 46 (Value.int IntKind.i64 8)
       refine (pick_x (q := q + 1) (xs := zs) g0 (by repeat' (first | with_reducible exact hb | with_reducible apply Blk.drew | with_reducible apply Blk.alloc | with_reducible apply Blk.picked | with_reducible apply Blk.drewN)) (hr'.below (by repeat' first | with_reducible exact Below.refl _ _ | with_reducible apply below_drewN | with_reducible apply Below.drew | with_reducible refine Below.alloc ?_ (by first | omega | (simp; omega)) _ | with_reducible refine Below.setCell ?_ (by simp) _)) hxs hn' (by omega)).mono ?_
       rw [HU2.out]
       rintro e w5 ⟨rfl, nq2, rfl⟩))
  all_goals
    go_wp2
    go_ret2
    obtain rfl := HY.out
    exact ⟨ys, _, _, y', rfl, by omega, by omega, h100, ownsRow_base3 (own_pick o2 (by repeat' first | with_reducible exact World.grownBy.refl _ _ | with_reducible apply gb_drewN | with_reducible apply gb_drew | with_reducible apply gb_alloc | with_reducible refine gb_setCell ?_ (.inl rfl) _) hlg) hs1, b2.trans (by repeat' first | with_reducible exact Below.refl _ _ | with_reducible apply below_drewN | with_reducible apply Below.drew | with_reducible refine Below.alloc ?_ (by first | omega | (simp; omega)) _ | with_reducible refine Below.setCell ?_ (by simp) _)⟩
end Go.Proofs.Ytmkmobgmlhioaaa
