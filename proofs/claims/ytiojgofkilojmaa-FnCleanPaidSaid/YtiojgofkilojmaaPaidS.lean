/- Contract of the reference's CleanPaid. Condition: at most 2^20 entries. -/
import Derived.Test.YtiojgofkilojmaaPaidI
import Derived.Test.YtiojgofkilojmaaInts
import Derived.Deep.AppendLies
import Derived.Lib.BufferWrite
namespace Go.Proofs.Ytiojgofkilojmaa
open Go.ChangeShapes Go.WideShapes Go.ChangeAt Go.RowKit
set_option linter.unusedVariables false
set_option linter.unusedSimpArgs false

theorem infoBool : (Try.prog.info? 4).map (fun i => (i.zero, i.size, i.bytes)) = some (some (.bool false), 1, 1) := by kernel_rfl
def cellsB (bs : List Bool) : Array Value := (bs.map Value.bool).toArray
theorem cellsB_get (bs : List Bool) (i : Nat) (h : i < bs.length) : (cellsB bs)[i]? = some (.bool (bs.getD i false)) := by
  unfold cellsB
  rw [List.getElem?_toArray, List.getElem?_map, List.getElem?_eq_getElem h, List.getD_eq_getElem?_getD, List.getElem?_eq_getElem h]
  rfl
theorem cellsB_set (bs : List Bool) (i : Nat) (v : Bool) : (cellsB bs).setIfInBounds i (.bool v) = cellsB (bs.set i v) := by
  unfold cellsB
  simp [List.map_set]
theorem cellsB_zero (n : Nat) : (madeCells #[Value.bool false] n) = cellsB (List.replicate n false) := by
  apply Array.toList_inj.1
  rw [toList_madeCells_one]
  simp [cellsB]
theorem make_bools (n : Nat) (hn : n ≤ 1048576) (W : World) : (Instr.makeSlice 42 (.int .i64 (n : Int)) (.int .i64 (n : Int))).run Try.prog W = .ok (.slice (some ⟨W.heap.size, 0, none⟩) n n) (W.alloc (.cells (cellsB (List.replicate n false)) 4)) := by
  obtain ⟨i0, hi, hz0, hz1, hz2⟩ := info_parts infoBool
  have := run_make (P := Try.prog) W 42 4 i0 (.bool false) Try.underlying42 hi hz0 .i64 .i64 n n (by omega) (by omega) (by rw [hz2]; omega) (by omega)
  rw [this, hz1]
  simp only [Int.toNat_natCast, Nat.mul_one]
  rw [← cellsB_zero]
  rfl
/-- which blocks are among the first t -/
noncomputable def doneL (us : List Int) (t : Nat) : List Bool := (List.range us.length).map fun i => bof (inTo us t i)
theorem doneL_len (us : List Int) (t : Nat) : (doneL us t).length = us.length := by simp [doneL]
theorem doneL_getD {us : List Int} {t i : Nat} (h : i < us.length) : (doneL us t).getD i false = bof (inTo us t i) := by
  simp [doneL, List.getD_eq_getElem?_getD, h]
theorem doneL_zero (us : List Int) : doneL us 0 = List.replicate us.length false := by
  apply List.ext_getElem
  · simp [doneL]
  · intro i h1 h2
    simp only [doneL, List.getElem_map, List.getElem_range, List.getElem_replicate]
    exact bof_f.2 inTo_zero
theorem doneL_succ (us : List Int) (t : Nat) : (doneL us t).set ((ordL us).getD t 0) true = doneL us (t + 1) := by
  apply List.ext_getElem
  · simp [doneL]
  · intro i h1 h2
    rw [List.getElem_set]
    simp only [doneL, List.getElem_map, List.getElem_range]
    by_cases e : (ordL us).getD t 0 = i
    · rw [if_pos e]; exact (bof_t.2 (inTo_succ.2 (.inr e.symm))).symm
    · rw [if_neg e, Bool.eq_iff_iff, bof_t, bof_t, inTo_succ]
      exact ⟨.inl, fun h => h.elim id (fun h => absurd h.symm e)⟩
theorem wpList_appI3 {ops : Array Oper} {rest : List Oper} {o : Oper} {a : Act} {Q : Exit → Act → World → Prop} {w : World} {s x : Operand} {base g0 c0 n : Nat} {xs : List Int} {y : Int} (hgd : o.guard = none)
    (ho : o.op = .call { callee := .builtin .append, args := #[s, x], argTypes := #[22, 22] })
    (hs : a.eval s = .slice (some ⟨g0, 0, none⟩) n c0) (hown : w.ownsRow base 3 1 (.slice (some ⟨g0, 0, none⟩) n c0) n (xs.map (Value.int .i64)))
    (H : Nat) (hH : w.heap.size = H) (hx : a.eval x = .slice (some ⟨H, 0, none⟩) 1 1) (hn : n ≤ 1000000000000) (hbase : base ≤ w.heap.size)
    (h : ∀ g c w', w'.ownsRow base 3 1 (.slice (some ⟨g, 0, none⟩) (n + 1) c) (n + 1) ((xs ++ [y]).map (Value.int .i64)) → w.grownBy w' (some g0) → (g = g0 ∨ w.heap.size ≤ g) → wpList Try.prog ops Q rest (a.put o.dst (.slice (some ⟨g, 0, none⟩) (n + 1) c)) w') :
    wpList Try.prog ops Q (o :: rest) a (w.alloc (.cells #[.int .i64 y] 3)) := by
  subst hH
  obtain ⟨i0, hi, hz0, hz1, hz2⟩ := info_parts infoInt
  refine wpList_append_lies _ hgd s x 22 ho base 3 i0 _ 1 8 Try.underlying22 hi hz0 hz1 hz2 rfl (by decide) (.slice (some ⟨g0, 0, none⟩) n c0) n _ hs (hown.alloc _) ⟨w.heap.size, 0, none⟩ 1 1 [.int .i64 y] hx rfl
    (World.news_of_block (cs := #[.int .i64 y]) (t := 3) (fr := (0, 0)) (heap_alloc_new w _)) (by simp [Value.oneCell']) (by omega) (by unfold maxLen; omega) (by omega) (by simp; omega) (w.heap.size + 1) (by simp) ?_
  intro g cap w' h1 h2 h3 _
  refine h g cap w' (by rw [List.map_append]; exact h1) ⟨h2.os, h2.tape, h2.output, Nat.le_trans (by simp) h2.size, fun k hk hne => ?_⟩ ?_
  · rw [h2.block k (by simp; omega) hne]
    exact Below.heap_alloc w _ k hk
  · rcases h3 with h3 | h3
    · left
      have h4 : some g0 = some g := h3
      injection h4 with h4
      exact h4.symm
    · right; omega
def lenOf : Value → Nat
  | .slice _ n _ => n
  | _ => 0
/-- what the search holds when k are looked at: none that is not done, or the least of them -/
def BestTo (us : List Int) (t k : Nat) (v : Int) : Prop := (v = -1 ∧ ∀ i, i < k → inTo us t i) ∨ ∃ b : Nat, b < k ∧ v = b ∧ ¬ inTo us t b ∧ ∀ i, i < k → ¬ inTo us t i → leL us b i
theorem BestTo.zero (us : List Int) (t : Nat) : BestTo us t 0 (-1) := .inl ⟨rfl, fun i h => absurd h (Nat.not_lt_zero _)⟩

set_option maxHeartbeats 4000000 in
theorem cleanPaid_spec {A : Option Addr} {n c B : Nat} {us : List Int} {cr : Int} {w : World} (hr : RdI .i64 w B A n us) (hB : B ≤ w.heap.size) (hn : n ≤ 1048576) :
    Calls Try.prog 14 #[.slice A n c, .int .i64 cr] w (OwnIx w (cleanPaid us cr) (.int .i64 (paidLeft us cr))) := by
  have HL := Lib.hid hr.len
  have hr0 := hr.mono hB
  have hmk := make_bools n hn (w.alloc (.cells #[] 3))
  have s1 : (w.alloc (.cells #[] 3)).heap.size = w.heap.size + 1 := by simp
  rw [s1] at hmk
  have b1 : Below w.heap.size w (w.alloc (.cells #[] 3)) := (Below.refl _ _).alloc (Nat.le_refl _) _
  have o1 : (w.alloc (.cells #[] 3)).ownsRow w.heap.size 3 1 (.slice (some ⟨w.heap.size, 0, none⟩) 0 0) 0 ((takeI us 0).map (Value.int .i64)) := by rw [takeI_zero]; exact World.ownsRow_lit w #[] 0 (Nat.le_refl _) (by decide) rfl
  have b2 := b1.alloc (by simp) (.cells (cellsB (List.replicate n false)) 4)
  have o2 := o1.alloc (.cells (cellsB (List.replicate n false)) 4)
  have d2 : Blk ((w.alloc (.cells #[] 3)).alloc (.cells (cellsB (List.replicate n false)) 4)) (w.heap.size + 1) 4 (cellsB (doneL us 0)) := by
    rw [doneL_zero, HL.out, ← s1]; exact Blk.new _ _ _
  have B2 := Lib.hid b2
  have O2 := Lib.hid o2
  have D2 := Lib.hid d2
  clear b1 o1 b2 o2 d2
  go_enter Try.func14, Try.ntmps14
  go_wp2_with fail
  clear hmk s1
  generalize (w.alloc (.cells #[] 3)).alloc (.cells (cellsB (List.replicate n false)) 4) = w2 at *
  have hr2 := hr0.below B2.out
  go_loop [8] (fun i => ∃ k : Nat, k ≤ n ∧ i = .int .i64 k ∧ UsedTo us k ∧ (n ≤ 12 ∨ k = 0)) (fun i => n - (intOf i).toNat)
  case atStart => exact ⟨0, Nat.zero_le _, rfl, fun i h => absurd h (Nat.not_lt_zero _), .inr rfl⟩
  case round =>
    obtain ⟨k, hk, rfl, hto, h12⟩ := hrel
    have HT := Lib.hid hto
    clear hto
    by_cases hlt : k < n
    · obtain ⟨b, off, rfl, hbB, hc⟩ := hr2.at_ (by omega)
      have hc1 := hc k hlt
      obtain ⟨x, hx⟩ : ∃ x, us.getD k 0 = x := ⟨_, rfl⟩
      rw [hx] at hc1
      have HX := Lib.hid hx
      clear hx hc hr2 hr0 hr
      have HNO := Lib.hid (show ¬ (0 ≤ x ∧ x ≤ 4 ∧ n ≤ 12) → cleanPaid us cr = [] ∧ paidLeft us cr = -1 from fun h => paid_no (fun hok => h (by have := hok.1.2 k (by have := HL.out; omega); rw [HX.out] at this; exact ⟨this.1, this.2, by have := hok.1.1; have := HL.out; omega⟩)))
      by_cases hin : 0 ≤ x ∧ x ≤ 4
      · have hb : inB x 0 4 = true := by rw [inB_t]; exact hin
        by_cases h13 : 12 < n
        · have HE := Lib.hid (HNO.out (by omega))
          go_wp2_with (go_at_call 21; refine (l1In_c _ _ _ _).mono ?_; rw [hb]; rintro e w' ⟨rfl, rfl⟩)
          go_ret2
          rw [HE.out.1, HE.out.2]
          exact ownIx_of (ys := []) rfl (by have := O2.out; rw [takeI_zero] at this; exact this) B2.out
        · go_wp2_with (go_at_call 21; refine (l1In_c _ _ _ _).mono ?_; rw [hb]; rintro e w' ⟨rfl, rfl⟩)
          go_round
          case rel => exact ⟨k + 1, by omega, by go_num, fun i hi => by
            by_cases e : i = k
            · subst e; rw [HX.out]; exact hin
            · exact HT.out i (by omega), .inl (by omega)⟩
          case measure => simp [intOf]; omega
      · have hb : inB x 0 4 = false := by rw [inB_f]; omega
        have HE := Lib.hid (HNO.out (by omega))
        go_wp2_with (go_at_call 21; refine (l1In_c _ _ _ _).mono ?_; rw [hb]; rintro e w' ⟨rfl, rfl⟩)
        go_ret2
        rw [HE.out.1, HE.out.2]
        exact ownIx_of (ys := []) rfl (by have := O2.out; rw [takeI_zero] at this; exact this) B2.out
    · obtain rfl : k = n := by omega
      have h12' : k ≤ 12 := by omega
      by_cases hin : 0 ≤ cr ∧ cr ≤ 100
      · have hb : inB cr 0 100 = true := by rw [inB_t]; exact hin
        have HOK := Lib.hid (show PaidOk us cr from ⟨⟨by have := HL.out; omega, by rw [HL.out]; exact HT.out⟩, hin⟩)
        go_wp2_with (go_at_call 21; refine (l1In_c _ _ _ _).mono ?_; rw [hb]; rintro e w' ⟨rfl, rfl⟩)
        generalize hg2 : w.heap.size + 1 = g2 at D2 ⊢
        have HG2 := Lib.hid hg2
        clear hg2
        go_loopw [1, 6] (fun cc o wr => ∃ (t go c' : Nat), t ≤ k ∧ o = .slice (some ⟨go, 0, none⟩) t c' ∧ go ≠ g2 ∧ cc = .int .i64 (creditAt us cr t) ∧ (∀ s, s < t → CanPay us cr s) ∧ wr.ownsRow w.heap.size 3 1 (.slice (some ⟨go, 0, none⟩) t c') t ((takeI us t).map (Value.int .i64)) ∧ Below w.heap.size w wr ∧ Blk wr g2 4 (cellsB (doneL us t))) (fun _ o _ => k - lenOf o)
        case atStart => exact ⟨0, _, 0, Nat.zero_le _, rfl, by have := HG2.out; omega, rfl, fun s h => absurd h (Nat.not_lt_zero _), O2.out, B2.out, D2.out⟩
        case round =>
          obtain ⟨t, go, c', ht, rfl, hgo, rfl, hcan, hown, hbl, hdone⟩ := hrel
          have HCAN := Lib.hid hcan
          have HOWN := Lib.hid hown
          have HBL := Lib.hid hbl
          have HD := Lib.hid hdone
          have hrw := hr0.below hbl
          have hrng := creditAt_range HOK.out hcan
          have hr0' := Lib.hid hr0
          clear hcan hown hbl hr2 hr0 hr
          generalize hcu : creditAt us cr t = cu at *
          have HCU := Lib.hid hcu
          clear hcu
          go_wp2_with fail
          go_loopw [9, 10] (fun bb kk wr2 => ∃ (j : Nat) (v : Int), j ≤ k ∧ kk = .int .i64 j ∧ bb = .int .i64 v ∧ BestTo us t j v ∧ ∃ m, wr2 = wr.drewN m) (fun _ kk _ => k - (intOf kk).toNat)
          case atStart => exact ⟨0, -1, Nat.zero_le _, rfl, rfl, BestTo.zero _ _, 0, rfl⟩
          case round =>
            obtain ⟨j, v, hj, rfl, rfl, hbest, m, rfl⟩ := hrel
            by_cases hlt2 : j < k
            · obtain ⟨b, off, rfl, hbB, hc⟩ := hrw.at_ (by omega)
              have hc1 := hc j hlt2
              have hd1 := (Blk.cell hdone j).trans (cellsB_get _ j (by rw [doneL_len, HL.out]; exact hlt2))
              rw [doneL_getD (by rw [HL.out]; exact hlt2)] at hd1
              obtain ⟨x, hx⟩ : ∃ x, us.getD j 0 = x := ⟨_, rfl⟩
              rw [hx] at hc1
              have HX := Lib.hid hx
              clear hx
              by_cases hin2 : inTo us t j
              · rw [bof_t.2 hin2] at hd1
                have HBT := Lib.hid (show BestTo us t (j + 1) v from hbest.elim (fun h => .inl ⟨h.1, fun i hi => by
                    by_cases e : i = j
                    · subst e; exact hin2
                    · exact h.2 i (by omega)⟩) (fun ⟨q, h1, h2, h3, h4⟩ => .inr ⟨q, by omega, h2, h3, fun i hi hni => by
                    by_cases e : i = j
                    · subst e; exact absurd hin2 hni
                    · exact h4 i (by omega) hni⟩))
                clear hbest hin2 hc hdone hrw
                go_wp2_with fail
                go_quiet (fail)
                go_wp2
                go_roundw
                case rel => exact ⟨j + 1, v, by omega, by go_num, rfl, HBT.out, m + nq, by first | rfl | rw [World.drewN_drewN]⟩
                case measure => simp [intOf]; omega
              · rw [bof_f.2 hin2] at hd1
                rcases hbest with ⟨rfl, hall⟩ | ⟨q, hq1, rfl, hq3, hq4⟩
                · have HBT := Lib.hid (show BestTo us t (j + 1) j from .inr ⟨j, by omega, rfl, hin2, fun i hi hni => by
                    by_cases e : i = j
                    · subst e; unfold leL lexL; omega
                    · exact absurd (hall i (by omega)) hni⟩)
                  clear hall hin2 hc hdone hrw
                  go_wp2_with fail
                  go_quiet (fail)
                  go_wp2
                  go_roundw
                  case rel => exact ⟨j + 1, j, by omega, by go_num, rfl, HBT.out, m + nq, by first | rfl | rw [World.drewN_drewN]⟩
                  case measure => simp [intOf]; omega
                · have hc2 := hc q (by omega)
                  obtain ⟨y, hy⟩ : ∃ y, us.getD q 0 = y := ⟨_, rfl⟩
                  rw [hy] at hc2
                  have HY := Lib.hid hy
                  clear hy
                  have hq0 : (0 : Int) ≤ (q : Int) := by omega
                  have hqn : decide ((q : Int) < 0) = false := by simp
                  by_cases hxy : x < y
                  · have hxd : decide (x < y) = true := decide_eq_true hxy
                    have HBT := Lib.hid (show BestTo us t (j + 1) j from .inr ⟨j, by omega, rfl, hin2, fun i hi hni => by
                      by_cases e : i = j
                      · subst e; unfold leL lexL; omega
                      · have h1 := hq4 i (by omega) hni
                        have h2 := HX.out
                        have h3 := HY.out
                        unfold leL lexL at *
                        omega⟩)
                    clear hq4 hq3 hin2 hc hdone hrw
                    go_wp2_with fail
                    go_quiet (fail)
                    go_wp2
                    go_roundw
                    case rel => exact ⟨j + 1, j, by omega, by go_num, rfl, HBT.out, m + nq, by first | rfl | rw [World.drewN_drewN]⟩
                    case measure => simp [intOf]; omega
                  · have hxd : decide (x < y) = false := decide_eq_false hxy
                    have HBT := Lib.hid (show BestTo us t (j + 1) q from .inr ⟨q, by omega, rfl, hq3, fun i hi hni => by
                      by_cases e : i = j
                      · subst e
                        have h2 := HX.out
                        have h3 := HY.out
                        unfold leL lexL
                        omega
                      · exact hq4 i (by omega) hni⟩)
                    clear hq4 hq3 hin2 hc hdone hrw
                    go_wp2_with fail
                    go_quiet (fail)
                    go_wp2
                    go_roundw
                    case rel => exact ⟨j + 1, q, by omega, by go_num, rfl, HBT.out, m + nq, by first | rfl | rw [World.drewN_drewN]⟩
                    case measure => simp [intOf]; omega
            · obtain rfl : j = k := by omega
              have hbl' := below_drewN HBL.out m
              have hown' := own_below HOWN.out (drew_below ⟨m, rfl⟩)
              have hdone' := Blk.drewN hdone m
              clear hdone hrw HD HBL HOWN
              generalize wr.drewN m = wx at *
              have hrw := (hr0'.out).below hbl'
              rcases hbest with ⟨rfl, hall⟩ | ⟨q, hq1, rfl, hq3, hq4⟩
              · have HE := Lib.hid (paid_at HOK.out HCAN.out (fun h => absurd (hall _ (by have := ordL_in h.1; rw [HL.out] at this; exact this)) (inTo_not (Nat.le_refl _) h.1)))
                have HTL := Lib.hid (takeI_len (us := us) (t := t) (by rw [HL.out]; exact ht))
                clear hall hrw hdone'
                go_wp2
                go_ret2
                rw [HE.out.1, HE.out.2, HCU.out]
                exact ownIx_of HTL.out hown' hbl'
              · have htn : t < j := by
                  by_cases e : t = j
                  · subst e
                    exact absurd (by have := inTo_all (us := us) (i := q) (by rw [HL.out]; exact hq1); rw [HL.out] at this; exact this) hq3
                  · omega
                have hqe := best_is (us := us) (t := t) (by rw [HL.out]; exact htn) (by rw [HL.out]; exact hq1) hq3 (fun i hi hni => hq4 i (by rw [HL.out] at hi; exact hi) hni)
                have HQE := Lib.hid hqe
                obtain ⟨b, off, rfl, hbB, hc⟩ := hrw.at_ (by omega)
                have hc1 := hc q hq1
                have hx0 := HOK.out.1.2 q (by rw [HL.out]; exact hq1)
                obtain ⟨x, hx⟩ : ∃ x, us.getD q 0 = x := ⟨_, rfl⟩
                rw [hx] at hc1 hx0
                have HX := Lib.hid hx
                have hq0 : (0 : Int) ≤ (q : Int) := by omega
                have hqn : decide ((q : Int) < 0) = false := by simp
                have HCOST := Lib.hid (show costAt us t = x by unfold costAt; rw [← hqe]; exact hx)
                have HTL := Lib.hid (takeI_len (us := us) (t := t) (by rw [HL.out]; exact ht))
                clear hx hqe hq3 hq4 hc hrw
                by_cases hpay : cu < x
                · have hpd : decide (x > cu) = true := decide_eq_true hpay
                  have HE := Lib.hid (paid_at HOK.out HCAN.out (fun h => by have h1 := h.2; rw [HCOST.out, HCU.out] at h1; omega))
                  clear hdone'
                  go_wp2
                  go_ret2
                  rw [HE.out.1, HE.out.2, HCU.out]
                  exact ownIx_of HTL.out hown' hbl'
                · have HGO := Lib.hid (show CanPay us cr t from ⟨by rw [HL.out]; exact htn, by rw [HCOST.out, HCU.out]; omega⟩)
                  have hd1 := (Blk.cell hdone' q).trans (cellsB_get _ q (by rw [doneL_len, HL.out]; exact hq1))
                  have hf := Blk.frozen hdone' q
                  have hset : Blk (wx.setCell ⟨g2, q, none⟩ (.bool true)) g2 4 (cellsB (doneL us (t + 1))) := by
                    have := Blk.set_ hdone' q (.bool true)
                    rw [cellsB_set, HQE.out, doneL_succ, ← HQE.out] at this
                    exact this
                  have hbs : Below w.heap.size w (wx.setCell ⟨g2, q, none⟩ (.bool true)) := hbl'.setCell (by show w.heap.size ≤ g2; have := HG2.out; omega) _
                  have hos : (wx.setCell ⟨g2, q, none⟩ (.bool true)).ownsRow w.heap.size 3 1 (.slice (some ⟨go, 0, none⟩) t c') t ((takeI us t).map (Value.int .i64)) := own_other hown' (Lib.grownBy_setCell _ _ _ _) (fun k' hk' e => hgo (by
                    have h1 : some go = some k' := hk'
                    injection h1 with h1
                    injection e with e
                    omega))
                  have hne : b ≠ g2 := by have := HG2.out; omega
                  have hsz : w.heap.size ≤ wx.heap.size := hbl'.size
                  have HLT := Lib.hid (hos.lt go rfl).1
                  have HSET := Lib.hid hset
                  have HBS := Lib.hid hbs
                  have HT1 := Lib.hid (takeI_succ (us := us) (t := t) (by rw [HL.out]; exact htn))
                  have HG2' := Lib.hid (show g2 < wx.heap.size from Blk.lt hdone')
                  generalize (doneL us t).getD q false = bq at *
                  clear hset hbs hdone' hbl' hown'
                  go_wp2_with (at_builtin; refine wpList_appI3 (y := (q : Int)) rfl rfl rfl hos _ (by simp [World.setCell]) rfl (by omega) (by simpa [World.setCell] using hsz) ?_; rintro g' c'' w4 ho hg hgg; have HO := Lib.hid ho; have HG := Lib.hid hg; have HGG := Lib.hid hgg; clear ho hg hgg)
                  go_roundw
                  case rel =>
                    have h1 := HG2'.out
                    have h2 : (wx.setCell ⟨g2, q, none⟩ (.bool true)).heap.size = wx.heap.size := by simp [World.setCell]
                    have h3 := HGG.out
                    rw [h2] at h3
                    refine ⟨t + 1, g', c'', by omega, rfl, by omega, ?_, ?_, ?_, ?_, ?_⟩
                    · have h4 := HCOST.out
                      have h5 := HCU.out
                      show Value.int .i64 (cu - x) = .int .i64 (creditAt us cr t - costAt us t)
                      rw [h4, h5]
                    · intro s hs
                      by_cases e : s = t
                      · subst e; exact HGO.out
                      · exact HCAN.out s (by omega)
                    · rw [HT1.out, ← HQE.out]; exact HO.out
                    · exact HBS.out.grown HG.out (by rw [h2]; exact hsz) (fun k' hk' => by injection hk' with hk'; have := HLT.out; omega)
                    · exact Blk.grown HSET.out HG.out (fun e => hgo (by injection e with e; omega))
                  case measure => simp only [lenOf]; omega
      · have hb : inB cr 0 100 = false := by rw [inB_f]; omega
        have HE := Lib.hid (paid_no (us := us) (c := cr) (fun h => hin h.2))
        go_wp2_with (go_at_call 21; refine (l1In_c _ _ _ _).mono ?_; rw [hb]; rintro e w' ⟨rfl, rfl⟩)
        go_ret2
        rw [HE.out.1, HE.out.2]
        exact ownIx_of (ys := []) rfl (by have := O2.out; rw [takeI_zero] at this; exact this) B2.out
end Go.Proofs.Ytiojgofkilojmaa
