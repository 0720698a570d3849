/- Contract of the reference's MergeAsks. Condition: at most 2^20 requests. -/
import Derived.Test.YtmkmobgmlhioaaaMergeLaw
import Derived.Test.YtmkmobgmlhioaaaSortS
import Derived.Test.YtmkmobgmlhioaaaAskApp
namespace Go.Proofs.Ytmkmobgmlhioaaa
open Go.ChangeShapes Go.WideShapes Go.ChangeAt Go.RowKit
set_option linter.unusedVariables false
set_option linter.unusedSimpArgs false

set_option maxHeartbeats 2000000 in
theorem mergeAsks_spec {A : Option Addr} {n c B : Nat} {xs : List (Int × Int)} {w : World} (hp : RdP w B A n xs) (hB : B ≤ w.heap.size) (hn : n ≤ 1048576) :
    Calls Try.prog 29 #[.slice A n c] w (OwnAsk w (mergeAsks xs)) := by
  go_enter Try.func29, Try.ntmps29
  go_wp2_with fail
  have ow0 : (w.alloc (.cells #[] 32)).ownsRow w.heap.size 32 2 (.slice (some ⟨w.heap.size, 0, none⟩) 0 0) 0 (flatP []) := World.ownsRow_lit w #[] 0 (Nat.le_refl _) (by decide) rfl
  have bb0 : Below w.heap.size w (w.alloc (.cells #[] 32)) := (Below.refl _ _).alloc (Nat.le_refl _) _
  have hp0 := (hp.mono hB).below bb0
  refine (sortAsks_spec hp0 (by simp) hn).mono ?_
  rintro e w1 ⟨A1, c1, rfl, o1, b1⟩
  have ow1 := own_below ow0 b1
  have bb1 := bb0.trans (b1.mono (by simp))
  have hs0 := b1.size
  rw [World.size_alloc] at hs0
  have hA1 : ∀ b off, A1 = some ⟨b, off, none⟩ → w.heap.size < b ∧ b < w1.heap.size := fun b off e => by
    have := o1.lt b (by rw [e]; rfl)
    simp at this
    omega
  have HOK := Lib.hid (sortAsks_ok1 xs)
  have hsl := sortAsks_len xs
  have HM := Lib.hid (show mergeAsks xs = mergeTo (sortAsks xs) (sortAsks xs).length from rfl)
  have rs := rdoAsk o1
  clear o1 hp hp0 ow0 bb0 b1
  generalize sortAsks xs = ss at *
  generalize hnn : ss.length = n1 at *
  have HL := Lib.hid hnn
  clear hnn
  go_wp2_with fail
  go_loopw [3, 5] (fun v i wr => ∃ (k m g c : Nat), i = .int .i64 k ∧ k ≤ n1 ∧ m ≤ k ∧ (mergeTo ss k).length = m ∧ v = .slice (some ⟨g, 0, none⟩) m c ∧ wr.ownsRow w.heap.size 32 2 (.slice (some ⟨g, 0, none⟩) m c) m (flatP (mergeTo ss k)) ∧ Below w.heap.size w wr ∧ (g = w.heap.size ∨ w1.heap.size ≤ g) ∧ RdP wr w1.heap.size A1 n1 ss ∧ w1.heap.size ≤ wr.heap.size) (fun _ i _ => n1 - (intOf i).toNat)
  case atStart => exact ⟨0, 0, _, _, rfl, Nat.zero_le _, Nat.le_refl _, rfl, rfl, ow1, bb1, .inl rfl, rs, Nat.le_refl _⟩
  case round =>
    obtain ⟨k, m, go, c5, rfl, hk, hmk, hml, rfl, own, bel, hgg, rdw, hsw⟩ := hrel
    have hsz := bel.size
    by_cases hlt : k < n1
    · obtain ⟨b, off, hA, hbB, hc⟩ := rdw.at_ (by omega)
      obtain ⟨c0, c1'⟩ := hc k hlt
      have hask := HOK.out _ (getD_memP (i := k) (by rw [HL.out]; exact hlt))
      have HMS := Lib.hid (mergeTo_succ (ss := ss) (k := k) (by rw [HL.out]; exact hlt))
      have hyok := mergeTo_ok HOK.out k (by rw [HL.out]; omega)
      have hlast := fun h0 => hyok.last h0
      have HLEN := Lib.hid (mstep_len (mergeTo ss k) (ss.getD k (0, 0)))
      generalize ss.getD k (0, 0) = a at *
      obtain ⟨a1, a2⟩ := a
      generalize mergeTo ss k = ys at *
      have HML := Lib.hid hml
      obtain ⟨q1, q2, q3, q4⟩ := hask
      simp only at c0 c1' q1 q2 q3 q4
      rw [hml] at hlast
      obtain ⟨hgb1, hgb2⟩ := hA1 b off hA
      have hgne : go ≠ b := by omega
      subst hA
      clear hc hyok hml rs ow1 bb1
      go_upto_region 7 with fail
      go_cut [53] (fun t wx => ∃ m', t = .bool (decide (Fits ys (a1, a2))) ∧ wx = wr.drewN m')
      case first =>
        by_cases h0 : 0 < m
        · have f := flatP_get ys (m - 1) (by have := HML.out; omega)
          have d0 := (own.cellAt (g := go) (cap := c5) ((m - 1) * 2) (by omega)).trans f.1
          have d1 := (own.cellAt (g := go) (cap := c5) ((m - 1) * 2 + 1) (by omega)).trans f.2
          have HLP := Lib.hid (show lastP ys = ys.getD (m - 1) (0, 0) from by unfold lastP; rw [HML.out])
          have hl := hlast h0
          rw [HLP.out] at hl
          clear f
          generalize ys.getD (m - 1) (0, 0) = y at *
          obtain ⟨l1, l2⟩ := y
          obtain ⟨p1, p2, p3, p4⟩ := hl
          simp only at d0 d1 p1 p2 p3 p4
          have HF := Lib.hid (show Fits ys (a1, a2) ↔ (l1 + l2 = a1 ∧ l2 + a2 ≤ 10) from by unfold Fits; rw [HLP.out, HML.out]; simp [h0])
          have hw1 : IntKind.i64.wrap (l1 + l2) = l1 + l2 := IntWalk.i64_in _ (by omega)
          have hw2 : IntKind.i64.wrap (l2 + a2) = l2 + a2 := IntWalk.i64_in _ (by omega)
          have hw3 : (0 : Int) ≤ (m : Int) - 1 := by omega
          have hw4 : ((m : Int) - 1).toNat = m - 1 := by omega
          have hm1 : (1 : Int) ≤ (m : Int) := by omega
          by_cases hq1 : l1 + l2 = a1
          · subst hq1
            go_quiet (fail)
            go_wp2_with fail
            go_meet
            refine ⟨nq, ?_, rfl⟩
            congr 1
            by_cases h2 : l2 + a2 ≤ 10 <;> simp [HF.out, h2]
          · have hq : (a1 == l1 + l2) = false := by simp; exact fun h => hq1 h.symm
            have HQ1 := Lib.hid hq1
            clear hq1
            go_quiet (fail)
            go_wp2_with fail
            go_meet
            exact ⟨nq, by simp [HF.out, HQ1.out], rfl⟩
        · have hm0 : m = 0 := by omega
          have HF := Lib.hid (show ¬ Fits ys (a1, a2) from fun h => by have := h.1; have := HML.out; omega)
          subst hm0
          go_quiet (fail)
          go_wp2_with fail
          go_meet
          exact ⟨nq, by simp [HF.out], rfl⟩
      case rest =>
        obtain ⟨m', rfl, rfl⟩ := hcut
        have ownX : (wr.drewN m').ownsRow w.heap.size 32 2 (.slice (some ⟨go, 0, none⟩) m c5) m (flatP ys) := own
        have belX := below_drewN bel m'
        have hszX : w.heap.size ≤ (wr.drewN m').heap.size := belX.size
        have hswX : w1.heap.size ≤ (wr.drewN m').heap.size := hsw
        have rwX : RdP (wr.drewN m') w1.heap.size (some ⟨b, off, none⟩) n1 ss := ⟨rdw.len, rdw.at_⟩
        have x0 : (wr.drewN m').cell? ⟨b, off + k * 2, none⟩ = some (.int .i64 a1) := c0
        have x1 : (wr.drewN m').cell? ⟨b, off + k * 2 + 1, none⟩ = some (.int .i64 a2) := c1'
        clear own bel c0 c1' rdw hsw hsz
        generalize wr.drewN m' = X at *
        by_cases hfit : Fits ys (a1, a2)
        · have hd : decide (Fits ys (a1, a2)) = true := by simp [hfit]
          rw [hd]
          have h0 : 0 < m := by have := hfit.1; have := HML.out; omega
          have hgo : w.heap.size ≤ go := (ownX.lt go rfl).1
          have hgs : go < X.heap.size := (ownX.lt go rfl).2
          have f := flatP_get ys (m - 1) (by have := HML.out; omega)
          have d1 := (ownX.cellAt (g := go) (cap := c5) ((m - 1) * 2 + 1) (by omega)).trans f.2
          have fz := ownX.frozenAt (g := go) (cap := c5) ((m - 1) * 2 + 1)
          have HLP := Lib.hid (show lastP ys = ys.getD (m - 1) (0, 0) from by unfold lastP; rw [HML.out])
          have hl := hlast h0
          have HST := Lib.hid (mstep_fit hfit)
          rw [HLP.out] at hl
          have st := (ownX.stored (g := go) (cap := c5) ((m - 1) * 2 + 1) (.int .i64 ((ys.getD (m - 1) (0, 0)).2 + a2))).1
          rw [flatP_set2 _ _ _ (by rw [HML.out]; omega)] at st
          have ST := Lib.hid st
          clear f st hfit
          generalize ys.getD (m - 1) (0, 0) = y at *
          obtain ⟨l1, l2⟩ := y
          obtain ⟨p1, p2, p3, p4⟩ := hl
          simp only at d1 p1 p2 p3 p4
          have hw2 : IntKind.i64.wrap (l2 + a2) = l2 + a2 := IntWalk.i64_in _ (by omega)
          have hw3 : (0 : Int) ≤ (m : Int) - 1 := by omega
          have hw4 : ((m : Int) - 1).toNat = m - 1 := by omega
          have hm1 : (1 : Int) ≤ (m : Int) := by omega
          have hk0 : (0 : Int) ≤ (k : Int) := by omega
          have hk1 : (k : Int) < (n1 : Int) := by omega
          go_wp2_with fail
          go_region
          all_goals
            have HE := Lib.hid (show mergeTo ss (k + 1) = ys.set (m - 1) (l1, l2 + a2) from by rw [HMS.out, HST.out, HLP.out, HML.out])
            have ownN : ((X.setCell ⟨go, (m - 1) * 2 + 1, none⟩ (.int .i64 (l2 + a2))).drew).ownsRow w.heap.size 32 2 (.slice (some ⟨go, 0, none⟩) m c5) m (flatP (ys.set (m - 1) (l1, l2 + a2))) := ST.out
            have OWN := Lib.hid ownN
            clear ownN
            go_wp2_with fail
            go_roundw
            case rel => exact ⟨k + 1, m, go, c5, by go_num, by omega, by omega, by rw [HE.out, List.length_set]; exact HML.out, rfl, by rw [HE.out]; exact OWN.out, (belX.setCell (p := ⟨go, (m - 1) * 2 + 1, none⟩) hgo _).drew, hgg, rwX.keepG (gb_drew (gb_setCell (g := go) (p := ⟨go, (m - 1) * 2 + 1, none⟩) (World.grownBy.refl X (some go)) (.inl rfl) _)) hswX (fun b' off' e h => by have := (hA1 b' off' e); injection h with h; omega), by simpa [World.setCell] using hswX⟩
            case measure => simp [intOf]; omega
        · have hd : decide (Fits ys (a1, a2)) = false := by simp [hfit]
          rw [hd]
          have HST := Lib.hid (mstep_new hfit)
          go_wp2_with (at_builtin; refine wpList_appAsk2 rfl rfl rfl ownX rfl (by omega) hszX ?_; rintro g6 c6 w6 o6 gg6 hge6)
          go_roundw
          case rel => exact ⟨k + 1, m + 1, g6, c6, by go_num, by omega, by omega, by rw [HMS.out, HST.out, List.length_append, HML.out]; rfl, rfl, by rw [HMS.out, HST.out]; exact o6, belX.grown gg6 hszX (fun q hq => by have := (ownX.lt go rfl).1; injection hq with hq; omega), by omega, rwX.keepG gg6 hswX (fun b' off' e h => by have := (hA1 b' off' e); injection h with h; omega), Nat.le_trans hswX gg6.size⟩
          case measure => simp [intOf]; omega
    · have hkn : k = n1 := by omega
      subst hkn
      go_wp2_with fail
      go_ret
      rw [HM.out]
      exact ownAsk_of hml own bel
end Go.Proofs.Ytmkmobgmlhioaaa
