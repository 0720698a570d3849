/- The walks of the laws FnGatherSteps and FnApplySteps. -/
import Derived.Test.YtiodnicpecjagaaDrawSteps
import Derived.Test.YtiodnicpecjagaaGatherLaw
import Derived.Test.YtiodnicpecjagaaAlive
import Derived.Deep.RegionHeld3
import Derived.Deep.AppendLies
namespace Go.Proofs.Ytiodnicpecjagaa
open Go.ChangeShapes Go.WideShapes Go.ChangeAt Go.RowKit
set_option linter.unusedVariables false
set_option linter.unusedSimpArgs false

theorem RdP.drewN {w B A n xs} (h : RdP w B A n xs) (m : Nat) : RdP (w.drewN m) B A n xs := ⟨h.len, h.at_⟩

theorem fnGatherSteps_w (a0 : Option Addr) (len0 cap0 : Nat) (z0 : List Int) (w : World) (w0 : IsRow .u8 w a0 len0 cap0 z0) :
    Calls Try.prog 8 #[.slice a0 len0 cap0] w fun e w' => e = .returned (.bool true) ∧ Below w.heap.size w w' := by
  obtain ⟨h1, h2, h3, h4⟩ := bytes_ok w0
  by_cases hl : 1048576 < len0
  · go_enter Try.func8, Try.ntmps8
    go_wp2
    go_ret
    exact ⟨rfl, Below.refl _ _⟩
  go_enter Try.func8, Try.ntmps8
  go_wp2_with fail
  refine (drawGatherSteps_c h3 h4 h1 h2).mono ?_
  rintro e w1 ⟨xs, A, c, tg, rfl, ht1, ht2, h100, ox, bel1⟩
  clear h3 h4 w0
  have hcap := own_cap ox
  obtain ⟨hcap1, hcap2⟩ := hcap
  have rx := rdoI ox
  have hs1 := bel1.size
  have hn20 : xs.length ≤ 1048576 := by omega
  clear ox
  go_wp2_with fail
  refine (gatherSteps_impl rx (Nat.le_refl _) hn20 hcap1 hcap2).mono ?_
  rintro e w2 ⟨A2, c2, rfl, o2, b2⟩
  have rx2 := rx.below b2
  have rs2 := rdoStep o2
  have hs2 := b2.size
  clear o2 rx
  go_wp2_with fail
  refine (gatherSteps_spec (rx2.mono hs2) (Nat.le_refl _) hn20).mono ?_
  rintro e w3 ⟨A3, c3, rfl, o3, b3⟩
  have rx3 := rx2.below (b3.mono hs2)
  have rs3 := rs2.below b3
  have rt3 := rdoStep o3
  have hs3 := b3.size
  have bel3 := (bel1.trans (b2.mono hs1)).trans (b3.mono (by omega))
  clear o3 rs2 rx2 b2 b3 bel1
  have hgl := gather_len xs tg
  have hfew := gather_fewer xs tg
  have HAP := Lib.hid (fun h => gather_applied (xs := xs) (tg := tg) h)
  have HCT := Lib.hid (fun h => rowFrom_count (xs := xs) (tg := tg) h)
  have HNO := Lib.hid (fun h => gather_no (xs := xs) (tg := tg) h)
  generalize hq : bof (GOk xs tg) = ok at *
  have HQ := Lib.hid hq
  clear hq
  generalize gatherSteps xs tg = ps at *
  generalize hnx : xs.length = nx at *
  generalize hnp : ps.length = np at *
  have HNX := Lib.hid hnx
  have HNP := Lib.hid hnp
  clear hnx hnp
  go_wp2_with fail
  go_loopw [9] (fun i wr => ∃ k : Nat, k ≤ np ∧ i = .int .i64 k ∧ ∃ m, wr = w3.drewN m) (fun i _ => np - (intOf i).toNat)
  case atStart => exact ⟨0, by omega, rfl, 0, rfl⟩
  case round =>
    obtain ⟨k, hk, rfl, m0, rfl⟩ := hrel
    by_cases hlt : k < np
    · obtain ⟨b, off, rfl, hbB, hc⟩ := rs3.at_ (by omega)
      obtain ⟨b', off', rfl, hbB', hc'⟩ := rt3.at_ (by omega)
      obtain ⟨c0, c1⟩ := hc k hlt
      obtain ⟨d0, d1⟩ := hc' k hlt
      generalize (ps.getD k (0, 0)).1 = x at *
      generalize (ps.getD k (0, 0)).2 = y at *
      clear hc hc' rs3 rt3 rx3
      go_wp2_with fail
      go_quiet (fail)
      go_wp2_with fail
      go_roundw
      case rel => exact ⟨k + 1, by omega, by go_num, m0 + nq, by first | rfl | rw [World.drewN_drewN]⟩
      case measure => simp [intOf]; omega
    · clear rt3
      have rx4 := rx3.drewN m0
      have rs4 := rs3.drewN m0
      have bel4 := below_drewN bel3 m0
      cases ok
      · have hgn : ps = [] := HNO.out (bof_f.1 HQ.out)
        have hnp0 : np = 0 := by rw [← HNP.out, hgn]; rfl
        subst hnp0
        clear hgn
        go_wp2_with (go_at_call 18; refine (alive_c _).mono ?_; rintro e w' ⟨rfl, rfl⟩)
        go_ret
        exact ⟨rfl, bel4⟩
      · have HG := Lib.hid (bof_t.1 HQ.out)
        have hap := HAP.out HG.out
        have hct := HCT.out HG.out
        have hg0 := HG.out.2.1
        have hg1 := HG.out.2.2.1
        obtain ⟨hap1, hap2⟩ := hap
        obtain ⟨hct1, hct2⟩ := hct
        have hap3 := bof_t.2 hap2
        have HA1 := Lib.hid hap1
        have HA2 := Lib.hid hap3
        have hrl := rowFrom_len tg nx
        have hrg := rowFrom_getD tg nx
        have HRG := Lib.hid hrg
        clear hap1 hap2 hap3 hrg
        generalize rowFrom tg nx = zs at *
        clear rx3 rs3
        go_wp2_with fail
        refine (applySteps_impl rx4 (by simp; omega) hn20 hcap1 hcap2 rs4 (by simp; omega) (by omega)).mono ?_
        rw [HA1.out, HA2.out]
        rintro e w5 ⟨A5, c5, rfl, o5, b5⟩
        rw [hrl] at o5 ⊢
        clear hrl
        have hc5 := own_cap o5
        obtain ⟨hc51, hc52⟩ := hc5
        have rz := rdoI o5
        have bel5 := bel4.trans (b5.mono (by simp; have := bel4.size; simp at this; omega))
        clear o5 b5 rx4 rs4 bel4 bel3
        go_wp2_with fail
        go_loop [12] (fun i => ∃ k : Nat, k ≤ nx ∧ i = .int .i64 k) (fun i => nx - (intOf i).toNat)
        case atStart => exact ⟨0, by omega, rfl⟩
        case round =>
          obtain ⟨k, hk, rfl⟩ := hrel
          by_cases hlt : k < nx
          · obtain ⟨b, off, rfl, hbB, hc⟩ := rz.at_ (by omega)
            have c0 := hc k hlt
            rw [HRG.out k hlt] at c0
            clear hc rz
            go_wp2_with fail
            go_round
            case rel => exact ⟨k + 1, by omega, by go_num⟩
            case measure => simp [intOf]; omega
          · have hfw : decide (np ≤ nx) = true := by simp [hfew]
            go_wp2_with fail
            refine (fragmentCount_impl rz hc51 hc52).mono ?_
            rintro e w' ⟨rfl, rfl⟩
            generalize fragCount zs = fc at *
            go_wp2_with fail
            go_ret
            exact ⟨by simp [hct2], bel5⟩

theorem apply_not {xs : List Int} {ps : List (Int × Int)} (h : ¬ AOk xs ps) : applySteps xs ps = [] := by
  by_cases h1 : PlacesOk xs
  · refine apply_none ?_
    cases h2 : stepsTo xs ps with
    | none => rfl
    | some ys => exact absurd (aok_some h1 h2) h
  · exact apply_bad h1
theorem swap_drop {ps : List (Int × Int)} {i : Nat} (h : i < ps.length) : (ps.drop i).reverse.map swapP = (ps.drop (i + 1)).reverse.map swapP ++ [((ps.getD i (0, 0)).2, (ps.getD i (0, 0)).1)] := by
  rw [List.drop_eq_getElem_cons h, List.reverse_cons, List.map_append, List.getD_eq_getElem?_getD, List.getElem?_eq_getElem h]
  rfl

theorem fnApplySteps_w (a0 : Option Addr) (len0 cap0 : Nat) (z0 : List Int) (w : World) (w0 : IsRow .u8 w a0 len0 cap0 z0) :
    Calls Try.prog 10 #[.slice a0 len0 cap0] w fun e w' => e = .returned (.bool true) ∧ Below w.heap.size w w' := by
  obtain ⟨h1, h2, h3, h4⟩ := bytes_ok w0
  by_cases hl : 1048576 < len0
  · go_enter Try.func10, Try.ntmps10
    go_wp2
    go_ret
    exact ⟨rfl, Below.refl _ _⟩
  go_enter Try.func10, Try.ntmps10
  go_wp2_with fail
  refine (drawApplySteps_c h3 h4 h1 h2).mono ?_
  rintro e w1 ⟨xs, ps, A, c, A', c', rfl, h100, h100', ox, op, bel1⟩
  clear h3 h4 w0
  have hcap := own_cap ox
  obtain ⟨hcap1, hcap2⟩ := hcap
  have hnil := own_nil ox
  have rx := rdoI ox
  have rp := rdoStep op
  have hs1 := bel1.size
  have hn20 : xs.length ≤ 1048576 := by omega
  have hn20' : ps.length ≤ 1048576 := by omega
  clear ox op
  go_wp2_with fail
  refine (applySteps_impl rx (Nat.le_refl _) hn20 hcap1 hcap2 rp (Nat.le_refl _) hn20').mono ?_
  rintro e w2 ⟨A2, c2, rfl, o2, b2⟩
  have rx2 := rx.below b2
  have rp2 := rp.below b2
  have rs2 := rdoI o2
  have hc2 := own_cap o2
  obtain ⟨hc21, hc22⟩ := hc2
  have hs2 := b2.size
  clear o2 rx rp
  go_wp2_with fail
  refine (applySteps_spec (rx2.mono hs2) (Nat.le_refl _) hn20 hnil (rp2.mono hs2) (Nat.le_refl _) hn20').mono ?_
  rintro e w3 ⟨A3, c3, rfl, o3, b3⟩
  have rx3 := rx2.below (b3.mono hs2)
  have rp3 := rp2.below (b3.mono hs2)
  have rs3 := rs2.below b3
  have rt3 := rdoI o3
  have hs3 := b3.size
  have bel3 := (bel1.trans (b2.mono hs1)).trans (b3.mono (by omega))
  clear o3 rs2 rx2 b2 b3 bel1 rp2
  have hgl := apply_len xs ps
  have HBK := Lib.hid (fun h => apply_back (xs := xs) (ps := ps) h)
  have HNO := Lib.hid (fun h => apply_not (xs := xs) (ps := ps) h)
  generalize hq : bof (AOk xs ps) = ok at *
  have HQ := Lib.hid hq
  clear hq
  generalize applySteps xs ps = zs at *
  generalize hnx : xs.length = nx at *
  generalize hnp : ps.length = np at *
  generalize hnz : zs.length = nz at *
  have HNX := Lib.hid hnx
  have HNP := Lib.hid hnp
  have HNZ := Lib.hid hnz
  clear hnx hnp hnz
  go_wp2_with fail
  refine (sameInts_o rs3 rt3 (by omega)).mono ?_
  rintro e w4 ⟨rfl, b4⟩
  have rx4 := rx3.below (b4.mono (by omega))
  have rp4 := rp3.below (b4.mono (by omega))
  have rs4 := rs3.below (b4.mono (by omega))
  have hs4 := b4.size
  have bel4 := bel3.trans (b4.mono (by have := bel3.size; omega))
  clear rx3 rp3 rs3 rt3 bel3 b4
  cases ok
  · have hz : zs = [] := HNO.out (bof_f.1 HQ.out)
    have hnz0 : nz = 0 := by rw [← HNZ.out, hz]; rfl
    subst hnz0
    clear hz
    go_wp2_with (go_at_call 18; refine (alive_c _).mono ?_; rintro e w' ⟨rfl, rfl⟩)
    go_ret
    exact ⟨rfl, bel4⟩
  · have hbk := HBK.out (bof_t.1 HQ.out)
    obtain ⟨hb1, hb2, hb3, hb4⟩ := hbk
    have HB1 := Lib.hid (bof_t.2 hb1)
    subst hb2
    have HB3 := Lib.hid (bof_t.2 hb3)
    have HB4 := Lib.hid hb4
    clear hb1 hb3 hb4
    go_wp2_with fail
    have o0 : (w4.alloc (.cells #[] 41)).ownsRow w4.heap.size 41 2 (.slice (some ⟨w4.heap.size, 0, none⟩) 0 0) 0 (flatP []) := World.ownsRow_lit w4 #[] 0 (Nat.le_refl _) (by decide) rfl
    have b0 : Below w4.heap.size w4 (w4.alloc (.cells #[] 41)) := (Below.refl _ _).alloc (Nat.le_refl _) _
    go_loopw [9, 10] (fun v kk wr => ∃ (j : Nat) (A' : Option Addr) (c' : Nat), kk = .int .i64 ((j : Int) - 1) ∧ j ≤ np ∧ v = .slice A' (np - j) c' ∧ wr.ownsRow w4.heap.size 41 2 (.slice A' (np - j) c') (np - j) (flatP ((ps.drop j).reverse.map swapP)) ∧ Below w4.heap.size w4 wr) (fun _ kk _ => (intOf kk + 1).toNat)
    case atStart => exact ⟨np, _, _, rfl, Nat.le_refl _, by rw [Nat.sub_self], by rw [Nat.sub_self, ← HNP.out, List.drop_length]; exact o0, b0⟩
    case round =>
      obtain ⟨j, A5, c5, hkk, hjm, rfl, own, bel⟩ := hrel
      clear o0 b0
      have hsz := bel.size
      rcases j with _ | i
      · have e0 : ((0 : Nat) : Int) - 1 = -1 := by omega
        rw [e0] at hkk
        subst hkk
        have rx5 := rx4.below (bel.mono (by omega))
        have rs5 := rs4.below (bel.mono (by omega))
        have r5 := rdoStep own
        have hc5 := own_cap own
        rw [List.drop_zero] at r5
        have bel5 := bel4.trans (bel.mono (by have := bel4.size; omega))
        clear rx4 rs4 rp4 bel bel4 own
        go_wp2_with fail
        refine (applySteps_impl (rs5.mono (by omega)) (Nat.le_refl _) (by omega) hc21 hc22 r5 (Nat.le_refl _) (by omega)).mono ?_
        rw [HB3.out, HB4.out]
        rintro e w6 ⟨A6, c6, rfl, o6, b6⟩
        rw [HNX.out] at o6 ⊢
        have rx6 := rx5.below (b6.mono (by omega))
        have rs6 := rs5.below (b6.mono (by omega))
        have ro6 := rdoI o6
        have bel6 := bel5.trans (b6.mono (by have := bel5.size; omega))
        clear rx5 rs5 o6 b6 bel5
        go_wp2_with fail
        refine (placesValid_impl rs6 hc21 hc22).mono ?_
        rw [HB1.out]
        rintro e w' ⟨rfl, rfl⟩
        go_wp2_with fail
        refine (sameInts_o ro6 rx6 (by omega)).mono ?_
        rintro e w7 ⟨rfl, b7⟩
        go_wp2_with fail
        go_ret
        exact ⟨rfl, bel6.trans (b7.mono (by have := bel6.size; omega))⟩
      · have e1 : ((i + 1 : Nat) : Int) - 1 = (i : Int) := by omega
        rw [e1] at hkk
        subst hkk
        have hr := rp4.below (bel.mono (by omega))
        obtain ⟨b, off, rfl, hbB, hc⟩ := hr.at_ (by omega)
        obtain ⟨c0, c1⟩ := hc i (by omega)
        have HD := Lib.hid (swap_drop (ps := ps) (i := i) (by rw [HNP.out]; omega))
        have hmi : np - i = np - (i + 1) + 1 := by omega
        have HMI := Lib.hid hmi
        clear hmi
        generalize (ps.getD i (0, 0)).1 = x at *
        generalize (ps.getD i (0, 0)).2 = y at *
        generalize (ps.drop (i + 1)).reverse.map swapP = qs at *
        clear hc hr
        have hz0 : (0 : Int) ≤ (i : Int) := Int.natCast_nonneg _
        have hz1 : (i : Int) < (np : Int) := by omega
        have lb : b < wr.heap.size := by omega
        have hne : (Value.slice A5 (np - (i + 1)) c5).ownBlock ≠ some b := fun e => by have := (own.lt b e).1; omega
        obtain ⟨i0, hi0, hi1, hi2, hi3⟩ := info_parts infoStep
        have hlen : np - (i + 1) + 1 ≤ 1000000000000 := by omega
        generalize hmm : np - (i + 1) = mm at *
        have HMM := Lib.hid hmm
        clear hmm
        go_wp2_with fail
        go_region_held3 (fun w' => w'.cell? ⟨b, off + i * 2, none⟩ = some (.int .i64 x) ∧ w'.cell? ⟨b, off + i * 2 + 1, none⟩ = some (.int .i64 y))
          (first
            | go_keep
            | (go_split_ands
               refine ⟨?_, ?_⟩
               · (rw [hgrow.cell_far _ (by simp; omega) (Ne.symm hne)]; assumption)
               · (rw [hgrow.cell_far _ (by simp; omega) (Ne.symm hne)]; assumption)))
          ((refine step_append_lies _ (by rfl) _ _ _ (by rfl) w4.heap.size 41 i0 _ 2 16 Try.underlying31 hi0 hi1 hi2 hi3 rfl (by omega) (.slice A5 mm c5) mm _ (by rfl) ((own.alloc _).drew)
              ⟨wr.heap.size, 0, none⟩ 1 1 [.int .i64 y, .int .i64 x] (by rfl) (by rfl) (World.news_of_block (cs := #[.int .i64 y, .int .i64 x]) (t := 41) (fr := (0, 0)) (heap_alloc_new wr _)) (by simp [Value.oneCell'])
              (by omega) (by unfold maxLen; omega) (by omega) (by simp; omega) (wr.heap.size + 1) (by simp) ?_; intro gg cap wn hown1 hgrow hat hlt))
        have bel1 := below_app (bel.alloc hsz _).drew ((own.alloc _).drew) (by simp; omega) hgrow
        have own1 := Lib.hid (show wn.ownsRow w4.heap.size 41 2 (.slice (some ⟨gg, 0, none⟩) (mm + 1) cap) (mm + 1) (flatP (qs ++ [(y, x)])) from by rw [flatP_append, flatP_one]; exact hown1)
        clear hown1 hgrow own bel
        go_wp2_with fail
        go_roundw
        case rel => exact ⟨i, _, _, by go_num, by omega, by rw [HMI.out], by rw [HMI.out, HD.out]; exact own1.out, bel1⟩
        case measure => simp [intOf]
end Go.Proofs.Ytiodnicpecjagaa
