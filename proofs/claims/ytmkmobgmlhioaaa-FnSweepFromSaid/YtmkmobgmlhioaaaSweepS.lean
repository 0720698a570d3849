/- Contract of the reference's SweepFrom. Condition: at most 2^20 requests. -/
import Derived.Test.YtmkmobgmlhioaaaSweepI
import Derived.Test.YtmkmobgmlhioaaaSortS
import Derived.Test.YtmkmobgmlhioaaaInts
namespace Go.Proofs.Ytmkmobgmlhioaaa
open Go.ChangeShapes Go.WideShapes Go.ChangeAt Go.RowKit
set_option linter.unusedVariables false
set_option linter.unusedSimpArgs false

/-- what lies in the row ahead of the step -/
def swTo (pg : Int) (ss : List (Int × Int)) (n : Nat) : Nat → List (Int × Int)
  | 0 => []
  | st + 1 => swTo pg ss n st ++ selP pg st ss n
theorem swTo_len (pg : Int) (ss : List (Int × Int)) (n st : Nat) : (swTo pg ss n st).length ≤ st * n := by
  induction st with
  | zero => simp [swTo]
  | succ st ih =>
    have := selP_len pg st ss n
    have e : (st + 1) * n = st * n + n := Nat.succ_mul _ _
    unfold swTo; simp; omega
theorem swTo_two (pg : Int) (ss : List (Int × Int)) (n : Nat) : swTo pg ss n 2 = selP pg 0 ss n ++ selP pg 1 ss n := by simp [swTo]

set_option maxHeartbeats 2000000 in
theorem sweepFrom_spec {A : Option Addr} {n c B : Nat} {xs : List (Int × Int)} {pg : Int} {w : World} (hp : RdP w B A n xs) (hB : B ≤ w.heap.size) (hn : n ≤ 1048576) :
    Calls Try.prog 31 #[.slice A n c, .int .i64 pg] w (OwnAsk w (sweepFrom xs pg)) := by
  go_enter Try.func31, Try.ntmps31
  go_wp2_with fail
  have ow0 : (w.alloc (.cells #[] 32)).ownsRow w.heap.size 32 2 (.slice (some ⟨w.heap.size, 0, none⟩) 0 0) 0 (flatP []) := World.ownsRow_lit w #[] 0 (Nat.le_refl _) (by decide) rfl
  have bb0 : Below w.heap.size w (w.alloc (.cells #[] 32)) := (Below.refl _ _).alloc (Nat.le_refl _) _
  have hp0 := (hp.mono hB).below bb0
  refine (sortAsks_spec hp0 (by simp) hn).mono ?_
  rintro e w1 ⟨A1, c1, rfl, o1, b1⟩
  have ow1 := own_below ow0 b1
  have bb1 := bb0.trans (b1.mono (by simp))
  have hs0 := b1.size
  rw [World.size_alloc] at hs0
  have hA1 : ∀ b off, A1 = some ⟨b, off, none⟩ → w.heap.size < b ∧ b < w1.heap.size := fun b off e => by
    have := o1.lt b (by rw [e]; rfl)
    simp at this
    omega
  have hsl := sortAsks_len xs
  have hinv : ¬ AsksOk xs → sortAsks xs = [] := fun h => sortAsks_no h
  have HYES := Lib.hid (fun h => sweep_ok (xs := xs) (pg := pg) h)
  have HNO := Lib.hid (fun h => sweep_no (xs := xs) (pg := pg) h)
  have rs := rdoAsk o1
  clear o1 hp hp0 ow0 bb0 b1
  generalize sortAsks xs = ss at *
  have HSW2 := Lib.hid (show sweepL ss pg = selP pg 0 ss ss.length ++ selP pg 1 ss ss.length from rfl)
  have HINV := Lib.hid hinv
  clear hinv
  generalize hnn : ss.length = n1 at *
  have HL := Lib.hid hnn
  clear hnn
  go_wp2_with fail
  rcases Bool.eq_false_or_eq_true (inB pg 0 100) with hpg | hpg
  · have hpg' := inB_t.1 hpg
    have HFIN := Lib.hid (show sweepFrom xs pg = swTo pg ss n1 2 from by
      rw [swTo_two]
      by_cases h : AsksOk xs
      · rw [HYES.out ⟨h, hpg'.1, hpg'.2⟩, HSW2.out]
      · have e := HINV.out h
        rw [HNO.out (fun h' => h h'.1), e]
        simp [selP])
    go_loopw [5, 7] (fun v i wr => ∃ (st m g c : Nat), i = .int .i64 st ∧ st ≤ 2 ∧ (swTo pg ss n1 st).length = m ∧ v = .slice (some ⟨g, 0, none⟩) m c ∧ wr.ownsRow w.heap.size 32 2 (.slice (some ⟨g, 0, none⟩) m c) m (flatP (swTo pg ss n1 st)) ∧ Below w.heap.size w wr ∧ (g = w.heap.size ∨ w1.heap.size ≤ g) ∧ RdP wr w1.heap.size A1 n1 ss ∧ w1.heap.size ≤ wr.heap.size) (fun _ i _ => 2 - (intOf i).toNat)
    case atStart => exact ⟨0, 0, _, _, rfl, by omega, rfl, rfl, ow1, bb1, .inl rfl, rs, Nat.le_refl _⟩
    case round =>
      obtain ⟨st, m, g, c5, rfl, hst, hml, rfl, own, bel, hgg, rdw, hsw⟩ := hrel
      have HML := Lib.hid hml
      have hmlen := swTo_len pg ss n1 st
      rw [hml] at hmlen
      clear hml
      by_cases hst2 : st < 2
      · go_wp2_with fail
        refine (l1In_c _ _ _ _).mono ?_
        rw [hpg]
        rintro e w' ⟨rfl, rfl⟩
        go_wp2_with fail
        go_loopw [5, 8] (fun v i wr => ∃ (k m g c : Nat), i = .int .i64 k ∧ k ≤ n1 ∧ (swTo pg ss n1 st ++ selP pg st ss k).length = m ∧ v = .slice (some ⟨g, 0, none⟩) m c ∧ wr.ownsRow w.heap.size 32 2 (.slice (some ⟨g, 0, none⟩) m c) m (flatP (swTo pg ss n1 st ++ selP pg st ss k)) ∧ Below w.heap.size w wr ∧ (g = w.heap.size ∨ w1.heap.size ≤ g) ∧ RdP wr w1.heap.size A1 n1 ss ∧ w1.heap.size ≤ wr.heap.size) (fun _ i _ => n1 - (intOf i).toNat)
        case atStart => exact ⟨0, m, g, c5, rfl, by omega, by rw [selP_zero, List.append_nil]; exact HML.out, rfl, by rw [selP_zero, List.append_nil]; exact own, bel, hgg, rdw, hsw⟩
        case round =>
          obtain ⟨k, m2, g2, c2, rfl, hk, hml2, rfl, own2, bel2, hgg2, rdw2, hsw2⟩ := hrel
          have HML2 := Lib.hid hml2
          have hm2 : m2 ≤ 1000 := by
            rw [← hml2, List.length_append, HML.out]
            have := selP_len pg st ss k
            have : st * n1 ≤ 2 * 12 := Nat.mul_le_mul hst hsl
            omega
          clear hml2 own bel hgg rdw hsw
          have hsz := bel2.size
          by_cases hlt : k < n1
          · obtain ⟨b, off, hA, hbB, hc⟩ := rdw2.at_ (by omega)
            obtain ⟨c0, c1'⟩ := hc k hlt
            obtain ⟨hgb1, hgb2⟩ := hA1 b off hA
            subst hA
            have HY := Lib.hid (selP_yes (pg := pg) (st := st) (ss := ss) (k := k) (by rw [HL.out]; exact hlt))
            have HN := Lib.hid (selP_no (pg := pg) (st := st) (ss := ss) (k := k) (by rw [HL.out]; exact hlt))
            generalize ss.getD k (0, 0) = a at *
            obtain ⟨a1, a2⟩ := a
            simp only at c0 c1'
            clear hc
            cases hsel : selB pg st (a1, a2)
            · have E := Lib.hid (HN.out hsel)
              have hs' : (decide (pg ≤ a1) == decide (st = 0)) = false := hsel
              clear hsel HY HN
              by_cases hge : pg ≤ a1
              · have hst0 : st ≠ 0 := by intro h; simp [hge, h] at hs'
                have hq : ((st : Int) == 0) = false := by rw [beq_eq_false_iff_ne]; omega
                clear hs' hst0
                go_wp2_with fail
                go_roundw
                case rel => exact ⟨k + 1, m2, g2, c2, by go_num, by omega, by rw [E.out]; exact HML2.out, rfl, by rw [E.out]; exact own2, bel2, hgg2, rdw2, hsw2⟩
                case measure => simp [intOf]; omega
              · have hst0 : st = 0 := by
                  by_cases h : st = 0
                  · exact h
                  · simp [hge, h] at hs'
                have hq : ((st : Int) == 0) = true := by simp [hst0]
                clear hs' hst0
                go_wp2_with fail
                go_roundw
                case rel => exact ⟨k + 1, m2, g2, c2, by go_num, by omega, by rw [E.out]; exact HML2.out, rfl, by rw [E.out]; exact own2, bel2, hgg2, rdw2, hsw2⟩
                case measure => simp [intOf]; omega
            · have E := Lib.hid (HY.out hsel)
              have hs' : (decide (pg ≤ a1) == decide (st = 0)) = true := hsel
              clear hsel HY HN
              by_cases hge : pg ≤ a1
              · have hst0 : st = 0 := by simpa [hge] using hs'
                have hq : ((st : Int) == 0) = true := by simp [hst0]
                clear hs' hst0
                go_wp2_with (at_builtin; refine wpList_appAsk2 rfl rfl rfl own2 rfl (by omega) hsz ?_; rintro g6 c6 w6 o6 gg6 hge6)
                go_roundw
                case rel => exact ⟨k + 1, m2 + 1, g6, c6, by go_num, by omega, by rw [E.out, ← List.append_assoc, List.length_append, HML2.out]; rfl, rfl, by rw [E.out, ← List.append_assoc]; exact o6, bel2.grown gg6 hsz (fun q hq => by have := (own2.lt g2 rfl).1; injection hq with hq; omega), by omega, rdw2.keepG gg6 hsw2 (fun b' off' e h => by have := (hA1 b' off' e); injection h with h; omega), Nat.le_trans hsw2 gg6.size⟩
                case measure => simp [intOf]; omega
              · have hst0 : st ≠ 0 := by intro h; simp [hge, h] at hs'
                have hq : ((st : Int) == 0) = false := by rw [beq_eq_false_iff_ne]; omega
                clear hs' hst0
                go_wp2_with (at_builtin; refine wpList_appAsk2 rfl rfl rfl own2 rfl (by omega) hsz ?_; rintro g6 c6 w6 o6 gg6 hge6)
                go_roundw
                case rel => exact ⟨k + 1, m2 + 1, g6, c6, by go_num, by omega, by rw [E.out, ← List.append_assoc, List.length_append, HML2.out]; rfl, rfl, by rw [E.out, ← List.append_assoc]; exact o6, bel2.grown gg6 hsz (fun q hq => by have := (own2.lt g2 rfl).1; injection hq with hq; omega), by omega, rdw2.keepG gg6 hsw2 (fun b' off' e h => by have := (hA1 b' off' e); injection h with h; omega), Nat.le_trans hsw2 gg6.size⟩
                case measure => simp [intOf]; omega
          · have hkn : k = n1 := by omega
            subst hkn
            go_wp2_with fail
            go_roundw
            case rel => exact ⟨st + 1, m2, g2, c2, by go_num, by omega, HML2.out, rfl, own2, bel2, hgg2, rdw2, hsw2⟩
            case measure => simp [intOf]; omega
      · have hst3 : st = 2 := by omega
        subst hst3
        go_wp2_with fail
        go_ret
        rw [HFIN.out]
        exact ownAsk_of HML.out own bel
  · have hpg' := inB_f.1 hpg
    have hno := Lib.hid (HNO.out (fun h => by have := h.2; omega))
    go_loopw [5, 7] (fun v i wr => i = .int .i64 0 ∧ v = .slice (some ⟨w.heap.size, 0, none⟩) 0 0 ∧ wr = w1) (fun _ _ _ => 0)
    case atStart => exact ⟨rfl, rfl, rfl⟩
    case round =>
      obtain ⟨rfl, rfl, rfl⟩ := hrel
      go_wp2_with fail
      refine (l1In_c _ _ _ _).mono ?_
      rw [hpg]
      rintro e w' ⟨rfl, rfl⟩
      go_wp2_with fail
      go_ret
      rw [hno.out]
      exact ownAsk_of (ys := []) rfl ow1 bb1
end Go.Proofs.Ytmkmobgmlhioaaa
