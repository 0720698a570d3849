/- Contract of the program's SweepFrom; what it computes. Condition: at most 2^20 requests. -/
import Derived.Test.YtmkmobgmlhioaaaSortLaw
import Derived.Test.YtmkmobgmlhioaaaAskApp
namespace Go.Proofs.Ytmkmobgmlhioaaa
open Go.ChangeShapes Go.WideShapes Go.ChangeAt Go.RowKit
set_option linter.unusedVariables false
set_option linter.unusedSimpArgs false

def selB (pg : Int) (st : Nat) (a : Int × Int) : Bool := decide (pg ≤ a.1) == decide (st = 0)
/-- of the first k: those from the page on (0), the others (1) -/
def selP (pg : Int) (st : Nat) (ss : List (Int × Int)) (k : Nat) : List (Int × Int) := (ss.take k).filter (selB pg st)
theorem selP_zero (pg : Int) (st : Nat) (ss : List (Int × Int)) : selP pg st ss 0 = [] := rfl
theorem selP_yes {pg : Int} {st : Nat} {ss : List (Int × Int)} {k : Nat} (h : k < ss.length) (hb : selB pg st (ss.getD k (0, 0)) = true) : selP pg st ss (k + 1) = selP pg st ss k ++ [ss.getD k (0, 0)] := by
  unfold selP; rw [take_succP h, List.filter_append, List.filter_cons_of_pos hb]; rfl
theorem selP_no {pg : Int} {st : Nat} {ss : List (Int × Int)} {k : Nat} (h : k < ss.length) (hb : selB pg st (ss.getD k (0, 0)) = false) : selP pg st ss (k + 1) = selP pg st ss k := by
  unfold selP; rw [take_succP h, List.filter_append, List.filter_cons_of_neg (by rw [hb]; exact Bool.false_ne_true)]; simp
theorem selP_len (pg : Int) (st : Nat) (ss : List (Int × Int)) (k : Nat) : (selP pg st ss k).length ≤ k := by
  unfold selP
  have h1 := List.length_filter_le (selB pg st) (ss.take k)
  have h2 : (ss.take k).length ≤ k := List.length_take_le _ _
  omega
def sweepL (ss : List (Int × Int)) (pg : Int) : List (Int × Int) := selP pg 0 ss ss.length ++ selP pg 1 ss ss.length
def SwOk (xs : List (Int × Int)) (pg : Int) : Prop := AsksOk xs ∧ 0 ≤ pg ∧ pg ≤ 100
open Classical in
noncomputable def sweepFrom (xs : List (Int × Int)) (pg : Int) : List (Int × Int) := if SwOk xs pg then sweepL (sortAsks xs) pg else []
theorem sweep_ok {xs pg} (h : SwOk xs pg) : sweepFrom xs pg = sweepL (sortAsks xs) pg := by unfold sweepFrom; rw [if_pos h]
theorem sweep_no {xs pg} (h : ¬ SwOk xs pg) : sweepFrom xs pg = [] := by unfold sweepFrom; rw [if_neg h]
theorem sweepFrom_len (xs pg) : (sweepFrom xs pg).length ≤ 24 := by
  unfold sweepFrom
  split
  · unfold sweepL
    have := selP_len pg 0 (sortAsks xs) (sortAsks xs).length
    have := selP_len pg 1 (sortAsks xs) (sortAsks xs).length
    have := sortAsks_len xs
    simp; omega
  · simp

set_option maxHeartbeats 2000000 in
theorem sweepFrom_impl {A : Option Addr} {n c B : Nat} {xs : List (Int × Int)} {pg : Int} {w : World} (hp : RdP w B A n xs) (hB : B ≤ w.heap.size) (hn : n ≤ 1048576) :
    Calls Try.prog 32 #[.slice A n c, .int .i64 pg] w (OwnAsk w (sweepFrom xs pg)) := by
  have NO : ∀ W : World, Below w.heap.size w W → ¬ SwOk xs pg → OwnAsk w (sweepFrom xs pg) (.returned (.slice none 0 0)) W := fun W hW h => by
    rw [sweep_no h]; exact ownAsk_of (ys := []) rfl (World.ownsRow_nil _ _ _ _) hW
  have NO := Lib.hid NO
  rcases Bool.eq_false_or_eq_true (bof (AsksOk xs)) with hb | hb
  · by_cases h1 : pg < 0
    · have hno := Lib.hid (show ¬ SwOk xs pg from fun h => by have := h.2.1; omega)
      go_enter Try.func32, Try.ntmps32
      go_wp2_with fail
      refine (asksValid_impl hp hB hn).mono ?_
      rw [hb]
      rintro e w1 ⟨rfl, b1⟩
      go_wp2_with fail
      go_ret
      exact NO.out _ b1 hno.out
    by_cases h2 : 100 < pg
    · have hno := Lib.hid (show ¬ SwOk xs pg from fun h => by have := h.2.2; omega)
      go_enter Try.func32, Try.ntmps32
      go_wp2_with fail
      refine (asksValid_impl hp hB hn).mono ?_
      rw [hb]
      rintro e w1 ⟨rfl, b1⟩
      go_wp2_with fail
      go_ret
      exact NO.out _ b1 hno.out
    have HSW := Lib.hid (sweep_ok (show SwOk xs pg from ⟨bof_t.1 hb, by omega, by omega⟩))
    go_enter Try.func32, Try.ntmps32
    go_wp2_with fail
    refine (asksValid_impl hp hB hn).mono ?_
    rw [hb]
    rintro e wv ⟨rfl, bv⟩
    have hpv := hp.below (bv.mono hB)
    have hsv := bv.size
    clear hb hp
    go_wp2_with fail
    refine (sortAsks_impl hpv (by omega) hn).mono ?_
    rintro e w1 ⟨A1, c1, rfl, o1, b1⟩
    have hsl := sortAsks_len xs
    have rs := rdoAsk o1
    have hs1 := b1.size
    have bw := bv.trans (b1.mono hsv)
    clear o1 hpv b1 bv
    generalize sortAsks xs = ss at *
    have HSW2 := Lib.hid (show sweepL ss pg = selP pg 0 ss ss.length ++ selP pg 1 ss ss.length from rfl)
    generalize hnn : ss.length = n1 at *
    have HL := Lib.hid hnn
    clear hnn
    go_wp2_with fail
    go_loopw [5, 6, 23] (fun v v' i wr => ∃ (k m m' : Nat) (A : Option Addr) (c : Nat) (A' : Option Addr) (c' : Nat), i = .int .i64 k ∧ k ≤ n1 ∧ m ≤ k ∧ m' ≤ k ∧ (selP pg 0 ss k).length = m ∧ (selP pg 1 ss k).length = m' ∧ v = .slice A m c ∧ v' = .slice A' m' c' ∧
      wr.ownsRow w1.heap.size 32 2 (.slice A m c) m (flatP (selP pg 0 ss k)) ∧ wr.ownsRow w1.heap.size 32 2 (.slice A' m' c') m' (flatP (selP pg 1 ss k)) ∧ Below w1.heap.size w1 wr ∧ Apart (.slice A m c) (.slice A' m' c')) (fun _ _ i _ => n1 - (intOf i).toNat)
    case atStart => exact ⟨0, 0, 0, none, 0, none, 0, rfl, Nat.zero_le _, Nat.le_refl _, Nat.le_refl _, rfl, rfl, rfl, rfl, World.ownsRow_nil _ _ _ _, World.ownsRow_nil _ _ _ _, Below.refl _ _, Apart.nil _⟩
    case round =>
      obtain ⟨k, m, m', A5, c5, A6, c6, rfl, hk, hmk, hmk', hml, hml', rfl, rfl, own, own', bel, hap⟩ := hrel
      have HML := Lib.hid hml
      have HML' := Lib.hid hml'
      have HAP := Lib.hid hap
      clear hml hml' hap
      have hsz := bel.size
      have hl1 := own.lt
      have hl2 := own'.lt
      by_cases hlt : k < n1
      · have rdw := rs.below bel
        obtain ⟨b, off, rfl, hbB, hc⟩ := rdw.at_ (by omega)
        obtain ⟨c0, c1'⟩ := hc k hlt
        have HY0 := Lib.hid (selP_yes (pg := pg) (st := 0) (ss := ss) (k := k) (by rw [HL.out]; exact hlt))
        have HY1 := Lib.hid (selP_yes (pg := pg) (st := 1) (ss := ss) (k := k) (by rw [HL.out]; exact hlt))
        have HN0 := Lib.hid (selP_no (pg := pg) (st := 0) (ss := ss) (k := k) (by rw [HL.out]; exact hlt))
        have HN1 := Lib.hid (selP_no (pg := pg) (st := 1) (ss := ss) (k := k) (by rw [HL.out]; exact hlt))
        generalize ss.getD k (0, 0) = a at *
        obtain ⟨a1, a2⟩ := a
        simp only at c0 c1'
        clear hc rdw
        by_cases hge : pg ≤ a1
        · have E0 := Lib.hid (HY0.out (by simp [selB, hge]))
          have E1 := Lib.hid (HN1.out (by simp [selB, hge]))
          clear HY0 HY1 HN0 HN1
          go_wp2_with (at_builtin; refine wpList_appAsk3 rfl rfl rfl (own.alloc _) (wr.heap.size + 1) (by simp) rfl (by omega) (by simp; omega) ?_; rintro g7 c7 w7 o7 gg7 hl7)
          rw [World.size_alloc] at hl7
          have bW := bel.alloc hsz (.cells #[.int .i64 a1, .int .i64 a2] 32)
          have own7 := own_other (own'.alloc (.cells #[.int .i64 a1, .int .i64 a2] 32)) gg7 (fun q hq e => HAP.out q e hq)
          have bel7 := bW.grown gg7 bW.size (fun q hq => (hl1 q hq).1)
          go_roundw
          case rel =>
            refine ⟨k + 1, m + 1, m', _, _, A6, c6, by go_num, by omega, by omega, by omega, by rw [E0.out, List.length_append, HML.out]; rfl, by rw [E1.out]; exact HML'.out, rfl, rfl, by rw [E0.out]; exact o7, by rw [E1.out]; exact own7, bel7, fun q hq hq' => ?_⟩
            have e7 : g7 = q := by injection hq
            rcases hl7 with h | h
            · exact HAP.out g7 h (by rw [e7]; exact hq')
            · have := (hl2 q hq').2; omega
          case measure => simp [intOf]; omega
        · have E0 := Lib.hid (HN0.out (by simp [selB, hge]))
          have E1 := Lib.hid (HY1.out (by simp [selB, hge]))
          clear HY0 HY1 HN0 HN1
          go_wp2_with (at_builtin; refine wpList_appAsk3 rfl rfl rfl (own'.alloc _) (wr.heap.size + 1) (by simp) rfl (by omega) (by simp; omega) ?_; rintro g7 c7 w7 o7 gg7 hl7)
          rw [World.size_alloc] at hl7
          have bW := bel.alloc hsz (.cells #[.int .i64 a1, .int .i64 a2] 32)
          have own7 := own_other (own.alloc (.cells #[.int .i64 a1, .int .i64 a2] 32)) gg7 (fun q hq e => HAP.out q hq e)
          have bel7 := bW.grown gg7 bW.size (fun q hq => (hl2 q hq).1)
          go_roundw
          case rel =>
            refine ⟨k + 1, m, m' + 1, A5, c5, _, _, by go_num, by omega, by omega, by omega, by rw [E0.out]; exact HML.out, by rw [E1.out, List.length_append, HML'.out]; rfl, rfl, rfl, by rw [E0.out]; exact own7, by rw [E1.out]; exact o7, bel7, fun q hq hq' => ?_⟩
            have e7 : g7 = q := by injection hq'
            rcases hl7 with h | h
            · exact HAP.out g7 (by rw [e7]; exact hq) h
            · have := (hl1 q hq).2; omega
          case measure => simp [intOf]; omega
      · have hkn : k = n1 := by omega
        subst hkn
        have rd' := rdoAsk own'
        have hnil := own_nil2 own'
        go_wp2_with (at_builtin; refine wpList_appManyP rfl rfl rfl own rfl hnil rd' (by omega) hsz ?_; rintro A7 c7 w7 o7 gg7)
        go_ret
        rw [HSW.out, HSW2.out]
        have bel7 := bel.grown gg7 hsz (fun q hq => (hl1 q hq).1)
        exact ownAsk_of (by rw [List.length_append, HML.out, HML'.out]) (ownsRow_base3 o7 (by omega)) (bw.trans (bel7.mono (by omega)))
  · have hno := Lib.hid (show ¬ SwOk xs pg from fun h => bof_f.1 hb h.1)
    go_enter Try.func32, Try.ntmps32
    go_wp2_with fail
    refine (asksValid_impl hp hB hn).mono ?_
    rw [hb]
    rintro e w1 ⟨rfl, b1⟩
    go_wp2_with fail
    go_ret
    exact NO.out _ b1 hno.out
end Go.Proofs.Ytmkmobgmlhioaaa
