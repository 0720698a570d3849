/- Contract of the program's MergeAsks. Condition: at most 2^20 requests. -/
import Derived.Test.YtmkmobgmlhioaaaMergeLaw
import Derived.Test.YtmkmobgmlhioaaaSortS
namespace Go.Proofs.Ytmkmobgmlhioaaa
open Go.ChangeShapes Go.WideShapes Go.ChangeAt Go.RowKit
set_option linter.unusedVariables false
set_option linter.unusedSimpArgs false

set_option maxHeartbeats 2000000 in
theorem mergeAsks_impl {A : Option Addr} {n c B : Nat} {xs : List (Int × Int)} {w : World} (hp : RdP w B A n xs) (hB : B ≤ w.heap.size) (hn : n ≤ 1048576) :
    Calls Try.prog 30 #[.slice A n c] w (OwnAsk w (mergeAsks xs)) := by
  go_enter Try.func30, Try.ntmps30
  go_wp2_with fail
  refine (sortAsks_impl hp hB hn).mono ?_
  rintro e w1 ⟨A1, c1, rfl, o1, b1⟩
  have HOK := Lib.hid (sortAsks_ok1 xs)
  have hsl := sortAsks_len xs
  have HM := Lib.hid (show mergeAsks xs = mergeTo (sortAsks xs) (sortAsks xs).length from rfl)
  have rs := rdoAsk o1
  have hs1 := b1.size
  clear o1 hp
  generalize sortAsks xs = ss at *
  generalize hnn : ss.length = n1 at *
  have HL := Lib.hid hnn
  clear hnn
  go_wp2_with fail
  go_loopw [3, 10] (fun v i wr => ∃ (k m : Nat) (A : Option Addr) (c : Nat), i = .int .i64 k ∧ k ≤ n1 ∧ m ≤ k ∧ (mergeTo ss k).length = m ∧ v = .slice A m c ∧ wr.ownsRow w1.heap.size 32 2 (.slice A m c) m (flatP (mergeTo ss k)) ∧ Below w1.heap.size w1 wr) (fun _ i _ => n1 - (intOf i).toNat)
  case atStart => exact ⟨0, 0, none, 0, rfl, Nat.zero_le _, Nat.le_refl _, rfl, rfl, World.ownsRow_nil _ _ _ _, Below.refl _ _⟩
  case round =>
    obtain ⟨k, m, A5, c5, rfl, hk, hmk, hml, rfl, own, bel⟩ := hrel
    have hsz := bel.size
    by_cases hlt : k < n1
    · have rw := rs.below bel
      obtain ⟨b, off, rfl, hbB, hc⟩ := rw.at_ (by omega)
      obtain ⟨c0, c1'⟩ := hc k hlt
      have hask := HOK.out _ (getD_memP (i := k) (by rw [HL.out]; exact hlt))
      have HMS := Lib.hid (mergeTo_succ (ss := ss) (k := k) (by rw [HL.out]; exact hlt))
      have hyok := mergeTo_ok HOK.out k (by rw [HL.out]; omega)
      have hlast := fun h0 => hyok.last h0
      have HLEN := Lib.hid (mstep_len (mergeTo ss k) (ss.getD k (0, 0)))
      generalize ss.getD k (0, 0) = a at *
      obtain ⟨a1, a2⟩ := a
      generalize mergeTo ss k = ys at *
      have HML := Lib.hid hml
      obtain ⟨q1, q2, q3, q4⟩ := hask
      simp only at c0 c1' q1 q2 q3 q4
      rw [hml] at hlast
      clear hc rw hyok hml
      go_wp2_with fail
      have hbox := newAt wr 32 #[.int .i64 a1, .int .i64 a2] wr.heap.size rfl
      have ownW := own.alloc (.cells #[.int .i64 a1, .int .i64 a2] 32)
      have belW := bel.alloc hsz (.cells #[.int .i64 a1, .int .i64 a2] 32)
      have hg0 : wr.heap.size < (wr.alloc (.cells #[.int .i64 a1, .int .i64 a2] 32)).heap.size := by simp
      have hql := own.lt
      generalize hW : wr.alloc (.cells #[.int .i64 a1, .int .i64 a2] 32) = W at *
      generalize hgb : wr.heap.size = gb at *
      have HW := Lib.hid hW
      have HGB := Lib.hid hgb
      clear hW hgb own bel c0 c1'
      have e0 := hbox.cell 0
      have e1 := hbox.cell 1
      simp at e0 e1
      go_cut [45] (fun t wx => ∃ m', t = .bool (decide (Fits ys (a1, a2))) ∧ wx = W.drewN m')
      case first =>
        by_cases h0 : 0 < m
        · obtain ⟨go, rfl, hgo, hgs⟩ := own_form2 ownW h0
          have f := flatP_get ys (m - 1) (by have := HML.out; omega)
          have d0 := (ownW.cellAt (g := go) (cap := c5) ((m - 1) * 2) (by omega)).trans f.1
          have d1 := (ownW.cellAt (g := go) (cap := c5) ((m - 1) * 2 + 1) (by omega)).trans f.2
          have HLP := Lib.hid (show lastP ys = ys.getD (m - 1) (0, 0) from by unfold lastP; rw [HML.out])
          have hl := hlast h0
          rw [HLP.out] at hl
          clear f
          generalize ys.getD (m - 1) (0, 0) = y at *
          obtain ⟨l1, l2⟩ := y
          obtain ⟨p1, p2, p3, p4⟩ := hl
          simp only at d0 d1 p1 p2 p3 p4
          have HF := Lib.hid (show Fits ys (a1, a2) ↔ (l1 + l2 = a1 ∧ l2 + a2 ≤ 10) from by unfold Fits; rw [HLP.out, HML.out]; simp [h0])
          have hw1 : IntKind.i64.wrap (l1 + l2) = l1 + l2 := IntWalk.i64_in _ (by omega)
          have hw2 : IntKind.i64.wrap (l2 + a2) = l2 + a2 := IntWalk.i64_in _ (by omega)
          have hw3 : (0 : Int) ≤ (m : Int) - 1 := by omega
          have hw4 : ((m : Int) - 1).toNat = m - 1 := by omega
          have hm1 : (1 : Int) ≤ (m : Int) := by omega
          by_cases hq1 : l1 + l2 = a1
          · subst hq1
            go_quiet (fail)
            go_wp2_with fail
            go_meet
            refine ⟨nq, ?_, rfl⟩
            congr 1
            by_cases h2 : l2 + a2 ≤ 10 <;> simp [HF.out, h2]
          · have hq : (l1 + l2 == a1) = false := by simp [hq1]
            have HQ1 := Lib.hid hq1
            clear hq1
            go_quiet (fail)
            go_wp2_with fail
            go_meet
            exact ⟨nq, by simp [HF.out, HQ1.out], rfl⟩
        · have hm0 : m = 0 := by omega
          have HF := Lib.hid (show ¬ Fits ys (a1, a2) from fun h => by have := h.1; have := HML.out; omega)
          subst hm0
          go_quiet (fail)
          go_wp2_with fail
          go_meet
          exact ⟨nq, by simp [HF.out], rfl⟩
      case rest =>
        obtain ⟨m', rfl, rfl⟩ := hcut
        have ownX : (W.drewN m').ownsRow w1.heap.size 32 2 (.slice A5 m c5) m (flatP ys) := ownW
        have belX := below_drewN belW m'
        have hszX : w1.heap.size ≤ (W.drewN m').heap.size := belX.size
        have x0 : (W.drewN m').cell? ⟨gb, 0, none⟩ = some (.int .i64 a1) := e0
        have x1 : (W.drewN m').cell? ⟨gb, 1, none⟩ = some (.int .i64 a2) := e1
        clear ownW belW hbox e0 e1
        generalize W.drewN m' = X at *
        by_cases hfit : Fits ys (a1, a2)
        · have hd : decide (Fits ys (a1, a2)) = true := by simp [hfit]
          rw [hd]
          have h0 : 0 < m := by have := hfit.1; have := HML.out; omega
          obtain ⟨go, rfl, hgo, hgs⟩ := own_form2 ownX h0
          have f := flatP_get ys (m - 1) (by have := HML.out; omega)
          have d1 := (ownX.cellAt (g := go) (cap := c5) ((m - 1) * 2 + 1) (by omega)).trans f.2
          have fz := ownX.frozenAt (g := go) (cap := c5) ((m - 1) * 2 + 1)
          have HLP := Lib.hid (show lastP ys = ys.getD (m - 1) (0, 0) from by unfold lastP; rw [HML.out])
          have hl := hlast h0
          have HST := Lib.hid (mstep_fit hfit)
          rw [HLP.out] at hl
          have st := (ownX.stored (g := go) (cap := c5) ((m - 1) * 2 + 1) (.int .i64 ((ys.getD (m - 1) (0, 0)).2 + a2))).1
          rw [flatP_set2 _ _ _ (by rw [HML.out]; omega)] at st
          have ST := Lib.hid st
          have hgne := (hql go rfl).2
          clear f st hfit
          generalize ys.getD (m - 1) (0, 0) = y at *
          obtain ⟨l1, l2⟩ := y
          obtain ⟨p1, p2, p3, p4⟩ := hl
          simp only at d1 p1 p2 p3 p4
          have hw2 : IntKind.i64.wrap (l2 + a2) = l2 + a2 := IntWalk.i64_in _ (by omega)
          have hw3 : (0 : Int) ≤ (m : Int) - 1 := by omega
          have hw4 : ((m : Int) - 1).toNat = m - 1 := by omega
          have hm1 : (1 : Int) ≤ (m : Int) := by omega
          go_wp2_with fail
          go_region
          all_goals
            have HE := Lib.hid (show mergeTo ss (k + 1) = ys.set (m - 1) (l1, l2 + a2) from by rw [HMS.out, HST.out, HLP.out, HML.out])
            have ownN : ((X.setCell ⟨go, (m - 1) * 2 + 1, none⟩ (.int .i64 (l2 + a2))).drew).ownsRow w1.heap.size 32 2 (.slice (some ⟨go, 0, none⟩) m c5) m (flatP (ys.set (m - 1) (l1, l2 + a2))) := ST.out
            have OWN := Lib.hid ownN
            clear ownN
            go_wp2_with fail
            go_roundw
            case rel => exact ⟨k + 1, m, _, c5, by go_num, by omega, by omega, by rw [HE.out, List.length_set]; exact HML.out, rfl, by rw [HE.out]; exact OWN.out, (belX.setCell (p := ⟨go, (m - 1) * 2 + 1, none⟩) hgo _).drew⟩
            case measure => simp [intOf]; omega
        · have hd : decide (Fits ys (a1, a2)) = false := by simp [hfit]
          rw [hd]
          have HST := Lib.hid (mstep_new hfit)
          go_wp2_with (at_builtin; refine wpList_appAsk rfl rfl rfl ownX rfl (by omega) hszX ?_; rintro g6 c6 w6 o6 gg6 hge6)
          go_roundw
          case rel => exact ⟨k + 1, m + 1, _, _, by go_num, by omega, by omega, by rw [HMS.out, HST.out, List.length_append, HML.out]; rfl, rfl, by rw [HMS.out, HST.out]; exact o6, below_app belX ownX hszX gg6⟩
          case measure => simp [intOf]; omega
    · have hkn : k = n1 := by omega
      subst hkn
      go_wp2_with fail
      go_ret
      rw [HM.out]
      exact ownAsk_of hml (ownsRow_base3 own hs1) (b1.trans (bel.mono hs1))
end Go.Proofs.Ytmkmobgmlhioaaa
