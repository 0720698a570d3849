/- Drawn requests at the law's level; sameAsks; the walks of the laws FnAsksValid, FnAskPages and FnSortAsks. -/
import Derived.Test.YtmkmobgmlhioaaaDrawAsks
import Derived.Test.YtmkmobgmlhioaaaAskLaw
import Derived.Test.YtmkmobgmlhioaaaSortS
import Derived.Test.YtmkmobgmlhioaaaAlive
namespace Go.Proofs.Ytmkmobgmlhioaaa
open Go.ChangeShapes Go.WideShapes Go.ChangeAt Go.RowKit
set_option linter.unusedVariables false
set_option linter.unusedSimpArgs false

/-- drawn requests, at the law's level -/
def DrawnA (w : World) (e : Ending) (w' : World) : Prop :=
  ∃ (ys : List (Int × Int)) (A : Option Addr) (c : Nat), e = .returned (.slice A ys.length c) ∧ ys.length ≤ 100 ∧ w'.ownsRow w.heap.size 32 2 (.slice A ys.length c) ys.length (flatP ys) ∧ Below w.heap.size w w'
theorem drawnA_of {w w1 w' : World} {B g p : Nat} {e : Ending} (hb : Below w.heap.size w w1) (hg : w.heap.size ≤ g) (h : DrawA B g p w1 e w') : DrawnA w e w' := by
  obtain ⟨ys, A, c, he, h100, ho, _, hgb⟩ := h
  exact ⟨ys, A, c, he, h100, ownsRow_base3 ho hb.size, below_of_gb hb hgb hb.size hg⟩
theorem sameAsks_o {A A' : Option Addr} {n c c' B B' : Nat} {xs : List (Int × Int)} {w : World} (hr : RdP w B A n xs) (hr' : RdP w B' A' n xs) (hn : n ≤ 9000000000000) :
    Calls Try.prog 28 #[.slice A n c, .slice A' n c'] w fun e w' => e = .returned (.bool true) ∧ Below w.heap.size w w' := by
  go_enter Try.func28, Try.ntmps28
  go_wp2
  go_loopw [5] (fun i wr => ∃ k : Nat, k ≤ n ∧ i = .int .i64 k ∧ ∃ m, wr = w.drewN m) (fun i _ => n - (intOf i).toNat)
  case atStart => exact ⟨0, by omega, rfl, 0, rfl⟩
  case round =>
    obtain ⟨k, hk, rfl, m0, rfl⟩ := hrel
    by_cases hlt : k < n
    · obtain ⟨b, off, rfl, hbB, hc⟩ := hr.at_ (by omega)
      obtain ⟨b', off', rfl, hbB', hc'⟩ := hr'.at_ (by omega)
      obtain ⟨c0, c1⟩ := hc k hlt
      obtain ⟨d0, d1⟩ := hc' k hlt
      generalize (xs.getD k (0, 0)).1 = x at *
      generalize (xs.getD k (0, 0)).2 = y at *
      clear hc hc' hr hr'
      go_wp2_with fail
      go_quiet (fail)
      go_wp2_with fail
      go_roundw
      case rel => exact ⟨k + 1, by omega, by go_num, m0 + nq, by first | rfl | rw [World.drewN_drewN]⟩
      case measure => simp [intOf]; omega
    · have hkn : k = n := by omega
      subst hkn
      go_wp2_with fail
      go_ret
      exact ⟨rfl, below_drewN (Below.refl _ _) m0⟩
theorem drawAsksValid_c {A : Option Addr} {n c : Nat} {xs : List Int} {w : World} (hr : RdI .u8 w w.heap.size A n xs) (hx : ∀ x ∈ xs, 0 ≤ x ∧ x ≤ 255) (hnc : n ≤ c) (hcm : c ≤ 9223372036854775807) :
    Calls Try.prog 18 #[.slice A n c] w (DrawnA w) := by
  go_enter Try.func18, Try.ntmps18
  go_wp2_with fail
  refine (open_c hr hx hnc hcm).mono ?_
  rintro e w1 ⟨rfl, h1, b1⟩
  go_wp2_with fail
  refine (l20Asks_c h1 (by omega) (by omega) (by omega)).mono ?_
  rintro e w2 h
  obtain ⟨ys, A2, c2, rfl, hq⟩ := drawnA_of b1 (Nat.le_refl _) h
  clear h
  go_wp2_with fail
  go_ret
  exact ⟨ys, A2, c2, rfl, hq⟩
theorem drawAskPages_c {A : Option Addr} {n c : Nat} {xs : List Int} {w : World} (hr : RdI .u8 w w.heap.size A n xs) (hx : ∀ x ∈ xs, 0 ≤ x ∧ x ≤ 255) (hnc : n ≤ c) (hcm : c ≤ 9223372036854775807) :
    Calls Try.prog 26 #[.slice A n c] w (DrawnA w) := by
  go_enter Try.func26, Try.ntmps26
  go_wp2_with fail
  refine (open_c hr hx hnc hcm).mono ?_
  rintro e w1 ⟨rfl, h1, b1⟩
  go_wp2_with fail
  refine (l20Asks_c h1 (by omega) (by omega) (by omega)).mono ?_
  rintro e w2 h
  obtain ⟨ys, A2, c2, rfl, hq⟩ := drawnA_of b1 (Nat.le_refl _) h
  clear h
  go_wp2_with fail
  go_ret
  exact ⟨ys, A2, c2, rfl, hq⟩
theorem drawSortAsks_c {A : Option Addr} {n c : Nat} {xs : List Int} {w : World} (hr : RdI .u8 w w.heap.size A n xs) (hx : ∀ x ∈ xs, 0 ≤ x ∧ x ≤ 255) (hnc : n ≤ c) (hcm : c ≤ 9223372036854775807) :
    Calls Try.prog 27 #[.slice A n c] w (DrawnA w) := by
  go_enter Try.func27, Try.ntmps27
  go_wp2_with fail
  refine (open_c hr hx hnc hcm).mono ?_
  rintro e w1 ⟨rfl, h1, b1⟩
  go_wp2_with fail
  refine (l20Asks_c h1 (by omega) (by omega) (by omega)).mono ?_
  rintro e w2 h
  obtain ⟨ys, A2, c2, rfl, hq⟩ := drawnA_of b1 (Nat.le_refl _) h
  clear h
  go_wp2_with fail
  go_ret
  exact ⟨ys, A2, c2, rfl, hq⟩
theorem drawMergeAsks_c {A : Option Addr} {n c : Nat} {xs : List Int} {w : World} (hr : RdI .u8 w w.heap.size A n xs) (hx : ∀ x ∈ xs, 0 ≤ x ∧ x ≤ 255) (hnc : n ≤ c) (hcm : c ≤ 9223372036854775807) :
    Calls Try.prog 34 #[.slice A n c] w (DrawnA w) := by
  go_enter Try.func34, Try.ntmps34
  go_wp2_with fail
  refine (open_c hr hx hnc hcm).mono ?_
  rintro e w1 ⟨rfl, h1, b1⟩
  go_wp2_with fail
  refine (l20Asks_c h1 (by omega) (by omega) (by omega)).mono ?_
  rintro e w2 h
  obtain ⟨ys, A2, c2, rfl, hq⟩ := drawnA_of b1 (Nat.le_refl _) h
  clear h
  go_wp2_with fail
  go_ret
  exact ⟨ys, A2, c2, rfl, hq⟩

theorem fnAskPages_w (a0 : Option Addr) (len0 cap0 : Nat) (z0 : List Int) (w : World) (w0 : IsRow .u8 w a0 len0 cap0 z0) :
    Calls Try.prog 7 #[.slice a0 len0 cap0] w fun e w' => e = .returned (.bool true) ∧ Below w.heap.size w w' := by
  obtain ⟨h1, h2, h3, h4⟩ := bytes_ok w0
  by_cases hl : 1048576 < len0
  · go_enter Try.func7, Try.ntmps7
    go_wp2
    go_ret
    exact ⟨rfl, Below.refl _ _⟩
  go_enter Try.func7, Try.ntmps7
  go_wp2_with fail
  refine (drawAskPages_c h3 h4 h1 h2).mono ?_
  rintro e w1 ⟨xs, A, c, rfl, h100, ox, bel1⟩
  clear h3 h4 w0
  have rx := rdoAsk ox
  have hs1 := bel1.size
  have hn20 : xs.length ≤ 1048576 := by omega
  clear ox
  go_wp2_with fail
  refine (askPages_impl rx (Nat.le_refl _) hn20).mono ?_
  rintro e w2 ⟨rfl, b2⟩
  have rx2 := rx.below b2
  have hs2 := b2.size
  have bel2 := bel1.trans (b2.mono hs1)
  clear b2 bel1 rx
  go_wp2_with fail
  refine (askPages_spec rx2 hn20).mono ?_
  rintro e w' ⟨rfl, rfl⟩
  by_cases hneg : askPages xs < 0
  · rw [(askPages_neg hneg).1]
    clear hneg
    go_wp2_with (go_at_call 19; refine (alive_c _).mono ?_; rintro e w' ⟨rfl, rfl⟩)
    go_ret
    exact ⟨rfl, bel2⟩
  · have hok := askPages_pos hneg
    obtain ⟨hr1, hr2⟩ := askPages_range hok
    have HPS := Lib.hid (askPages_sort hok)
    have hsl := sortAsks_len xs
    clear hok
    generalize hq : askPages xs = q at *
    have HQ := Lib.hid hq
    clear hq
    generalize hn : xs.length = n at *
    have HN := Lib.hid hn
    clear hn
    go_wp2_with fail
    refine (sortAsks_impl rx2 (by omega) hn20).mono ?_
    rintro e w3 ⟨A3, c3, rfl, o3, b3⟩
    have rs3 := rdoAsk o3
    have bel3 := bel2.trans (b3.mono (by omega))
    have hs3 := b3.size
    clear o3 b3 bel2 rx2
    go_wp2_with fail
    refine (askPages_impl rs3 (Nat.le_refl _) (by omega)).mono ?_
    rw [HPS.out]
    rintro e w4 ⟨rfl, b4⟩
    go_wp2_with fail
    go_ret
    exact ⟨by simp, bel3.trans (b4.mono (by omega))⟩

theorem fnAsksValid_w (a0 : Option Addr) (len0 cap0 : Nat) (z0 : List Int) (w : World) (w0 : IsRow .u8 w a0 len0 cap0 z0) :
    Calls Try.prog 4 #[.slice a0 len0 cap0] w fun e w' => e = .returned (.bool true) ∧ Below w.heap.size w w' := by
  obtain ⟨h1, h2, h3, h4⟩ := bytes_ok w0
  by_cases hl : 1048576 < len0
  · go_enter Try.func4, Try.ntmps4
    go_wp2
    go_ret
    exact ⟨rfl, Below.refl _ _⟩
  go_enter Try.func4, Try.ntmps4
  go_wp2_with fail
  refine (drawAsksValid_c h3 h4 h1 h2).mono ?_
  rintro e w1 ⟨xs, A, c, rfl, h100, ox, bel1⟩
  clear h3 h4 w0
  have hnil := own_nil2 ox
  have hcap := own_cap ox
  obtain ⟨hcap1, hcap2⟩ := hcap
  have rx := rdoAsk ox
  have hfm := fun h0 => own_form2 ox h0
  have hs1 := bel1.size
  have hn20 : xs.length ≤ 1048576 := by omega
  clear ox
  go_wp2_with fail
  refine (asksValid_impl rx (Nat.le_refl _) hn20).mono ?_
  rintro e w2 ⟨rfl, b2⟩
  have rx2 := rx.below b2
  have hs2 := b2.size
  have bel2 := bel1.trans (b2.mono hs1)
  clear b2 bel1 rx
  go_wp2_with fail
  refine (asksValid_spec rx2 hn20).mono ?_
  rintro e w' ⟨rfl, rfl⟩
  have HNO := Lib.hid (bof_f.2 (asksOk_zero xs))
  have HDR := Lib.hid (fun h => bof_t.2 (asksOk_drop (xs := xs) h (xs.length / 2)))
  have on0 : (w2.alloc (.cells #[.int .i64 1, .int .i64 0] 32)).ownsRow w2.heap.size 32 2 (.slice (some ⟨w2.heap.size, 0, none⟩) 1 1) 1 (flatP [(1, 0)]) := World.ownsRow_lit w2 #[.int .i64 1, .int .i64 0] 1 (Nat.le_refl _) (by unfold maxLen; omega) rfl
  have bn : Below w2.heap.size w2 (w2.alloc (.cells #[.int .i64 1, .int .i64 0] 32)) := (Below.refl _ _).alloc (Nat.le_refl _) _
  have rxn := (rx2.mono hs2).below bn
  have hsn := bn.size
  have hsum : 1 + xs.length ≤ 1048576 := by omega
  generalize hok : bof (AsksOk xs) = ok at *
  have HOK := Lib.hid hok
  clear hok
  generalize hn : xs.length = n at *
  have HN := Lib.hid hn
  clear hn
  go_wp2_with (at_builtin; refine wpList_appManyP rfl rfl rfl on0 rfl hnil rxn (by omega) hsn ?_; rintro A5 c5 w5 o5 g5)
  have r5 := rdoAsk o5
  have b5 := below_app bn on0 hsn g5
  have hs5 := b5.size
  have rx5 := rx2.below (b5.mono (by omega))
  have bel5 := bel2.trans (b5.mono (by omega))
  clear on0 bn rxn o5 g5 b5 bel2 rx2 hnil
  refine (asksValid_impl r5 (Nat.le_refl _) (by omega)).mono ?_
  rw [HNO.out]
  rintro e w6 ⟨rfl, b6⟩
  have rx6 := rx5.below (b6.mono (by omega))
  have hs6 := b6.size
  have bel6 := bel5.trans (b6.mono (by omega))
  clear b6 bel5 rx5 r5
  cases ok
  · go_wp2_with (go_at_call 19; refine (alive_c _).mono ?_; rintro e w' ⟨rfl, rfl⟩)
    go_ret
    exact ⟨rfl, bel6⟩
  · have HT := Lib.hid (HDR.out (bof_t.1 HOK.out))
    by_cases h0 : 0 < n
    · obtain ⟨ga, hA, hg1, hg2⟩ := hfm h0
      subst hA
      obtain ⟨h, hh⟩ : ∃ h, h = n / 2 := ⟨_, rfl⟩
      have hdv : (n : Int) / 2 = (h : Int) := by omega
      have hlt : h < c := by omega
      have hle : h ≤ n := by omega
      have hle2 : (h : Int) ≤ (n : Int) := by omega
      have hne : ¬ c = h := by omega
      have rd := rx6.drop hle
      rw [Nat.zero_add] at rd
      rw [← hh] at HT
      have hnh : n - h ≤ 1048576 := by omega
      clear hh
      go_wp2_with fail
      refine (asksValid_impl rd (by omega) hnh).mono ?_
      rw [HT.out]
      rintro e w7 ⟨rfl, b7⟩
      go_wp2_with (go_at_call 19; refine (alive_c _).mono ?_; rintro e w' ⟨rfl, rfl⟩)
      go_ret
      exact ⟨rfl, bel6.trans (b7.mono (by omega))⟩
    · have hn0 : n = 0 := by omega
      subst hn0
      have hx0 : xs = [] := List.eq_nil_of_length_eq_zero HN.out
      subst hx0
      go_wp2_with fail
      refine (asksValid_impl (B := 0) RdP.none (by omega) (by omega)).mono ?_
      rw [show bof (AsksOk []) = true from bof_t.2 ⟨by decide, AskTo.zero _⟩]
      rintro e w7 ⟨rfl, b7⟩
      go_wp2_with (go_at_call 19; refine (alive_c _).mono ?_; rintro e w' ⟨rfl, rfl⟩)
      go_ret
      exact ⟨rfl, bel6.trans (b7.mono (by omega))⟩

theorem fnSortAsks_w (a0 : Option Addr) (len0 cap0 : Nat) (z0 : List Int) (w : World) (w0 : IsRow .u8 w a0 len0 cap0 z0) :
    Calls Try.prog 8 #[.slice a0 len0 cap0] w fun e w' => e = .returned (.bool true) ∧ Below w.heap.size w w' := by
  obtain ⟨h1, h2, h3, h4⟩ := bytes_ok w0
  by_cases hl : 1048576 < len0
  · go_enter Try.func8, Try.ntmps8
    go_wp2
    go_ret
    exact ⟨rfl, Below.refl _ _⟩
  go_enter Try.func8, Try.ntmps8
  go_wp2_with fail
  refine (drawSortAsks_c h3 h4 h1 h2).mono ?_
  rintro e w1 ⟨xs, A, c, rfl, h100, ox, bel1⟩
  clear h3 h4 w0
  have rx := rdoAsk ox
  have hs1 := bel1.size
  have hn20 : xs.length ≤ 1048576 := by omega
  clear ox
  go_wp2_with fail
  refine (sortAsks_impl rx (Nat.le_refl _) hn20).mono ?_
  rintro e w2 ⟨A2, c2, rfl, o2, b2⟩
  have rx2 := rx.below b2
  have rs2 := rdoAsk o2
  have hs2 := b2.size
  have bel2 := bel1.trans (b2.mono hs1)
  clear b2 bel1 rx o2
  go_wp2_with fail
  refine (sortAsks_spec rx2 (by omega) hn20).mono ?_
  rintro e w3 ⟨A3, c3, rfl, o3, b3⟩
  have rx3 := rx2.below (b3.mono (by omega))
  have rs3 := rs2.below (b3.mono (by omega))
  have rt3 := rdoAsk o3
  have hs3 := b3.size
  have bel3 := bel2.trans (b3.mono (by omega))
  clear b3 bel2 rx2 rs2 o3
  have hsl := sortAsks_len xs
  have HUP := Lib.hid (fun (i j : Nat) h1 h2 => sortAsks_up (xs := xs) (i := i) (j := j) h1 h2)
  have HTW := Lib.hid (fun h => sortAsks_twice (xs := xs) h)
  have HLN := Lib.hid (fun h => sortAsks_length (xs := xs) h)
  have HPG := Lib.hid (fun h => askPages_sort (xs := xs) h)
  have HNO := Lib.hid (fun h => sortAsks_no (xs := xs) h)
  generalize sortAsks xs = ss at *
  generalize hok : bof (AsksOk xs) = ok
  have HOK := Lib.hid hok
  generalize hn : xs.length = n at *
  have HN := Lib.hid hn
  generalize hm : ss.length = m at *
  have HM := Lib.hid hm
  clear hn hm hok
  go_wp2_with fail
  refine (sameAsks_o rs3 rt3 (by omega)).mono ?_
  rintro e w4 ⟨rfl, b4⟩
  have rx4 := rx3.below (b4.mono (by omega))
  have rs4 := rs3.below (b4.mono (by omega))
  have hs4 := b4.size
  have bel4 := bel3.trans (b4.mono (by omega))
  clear b4 bel3 rx3 rs3 rt3
  go_wp2_with fail
  refine (asksValid_impl rx4 (by omega) hn20).mono ?_
  rw [HOK.out]
  rintro e w5 ⟨rfl, b5⟩
  have rx5 := rx4.below (b5.mono (by omega))
  have rs5 := rs4.below (b5.mono (by omega))
  have hs5 := b5.size
  have bel5 := bel4.trans (b5.mono (by omega))
  clear b5 bel4 rx4 rs4
  cases ok
  · have hm0 : m = 0 := by rw [← HM.out, HNO.out (bof_f.1 HOK.out)]; rfl
    subst hm0
    go_wp2_with (go_at_call 19; refine (alive_c _).mono ?_; rintro e w' ⟨rfl, rfl⟩)
    go_ret
    exact ⟨rfl, bel5⟩
  · have hv := Lib.hid (bof_t.1 HOK.out)
    have HTW2 := Lib.hid (HTW.out hv.out)
    have hln := HLN.out hv.out
    subst hln
    have HPG2 := Lib.hid (HPG.out hv.out)
    go_wp2_with fail
    go_loopw [5] (fun i wr => ∃ k : Nat, 1 ≤ k ∧ (k ≤ m ∨ k = 1) ∧ i = .int .i64 k ∧ ∃ q, wr = w5.drewN q) (fun i _ => m - (intOf i).toNat)
    case atStart => exact ⟨1, by omega, by omega, rfl, 0, rfl⟩
    case round =>
      obtain ⟨k, hk1, hk, rfl, q, rfl⟩ := hrel
      by_cases hlt : k < m
      · obtain ⟨b, off, rfl, hbB, hc⟩ := rs5.at_ (by omega)
        obtain ⟨c0, c1⟩ := hc k hlt
        obtain ⟨d0, d1⟩ := hc (k - 1) (by omega)
        have hup := HUP.out (k - 1) k (by omega) hlt
        generalize (ss.getD k (0, 0)).1 = x at *
        generalize (ss.getD (k - 1) (0, 0)).1 = y at *
        clear hc c1 d1
        have hw1 : IntKind.i64.wrap ((k : Int) - 1) = (k : Int) - 1 := IntWalk.i64_in _ (by omega)
        have hw3 : (0 : Int) ≤ (k : Int) - 1 := by omega
        have hw4 : ((k : Int) - 1).toNat = k - 1 := by omega
        have hw5 : (k : Int) - 1 < (m : Int) := by omega
        have hm1 : (1 : Int) ≤ (k : Int) := by omega
        have hkm : (k : Int) ≤ (m : Int) := by omega
        have hkm2 : k ≤ m := by omega
        have hd : decide (x < y) = false := by simp; omega
        go_wp2_with fail
        go_quiet (fail)
        go_wp2_with fail
        go_roundw
        case rel => exact ⟨k + 1, by omega, by omega, by go_num, q + nq, by first | rfl | rw [World.drewN_drewN]⟩
        case measure => simp [intOf]; omega
      · have rx6 := rx5.drewN q
        have rs6 := rs5.drewN q
        have bel6 := below_drewN bel5 q
        have hs6 : w5.heap.size ≤ (w5.drewN q).heap.size := Nat.le_refl _
        generalize w5.drewN q = w6 at *
        clear rx5 rs5 bel5
        go_wp2_with fail
        refine (askPages_impl rs6 (by omega) (by omega)).mono ?_
        rw [HPG2.out]
        rintro e w7 ⟨rfl, b7⟩
        have rx7 := rx6.below (b7.mono (by omega))
        have rs7 := rs6.below (b7.mono (by omega))
        have hs7 := b7.size
        have bel7 := bel6.trans (b7.mono (by omega))
        clear b7 bel6 rx6 rs6
        go_wp2_with fail
        refine (askPages_impl rx7 (by omega) hn20).mono ?_
        rintro e w8 ⟨rfl, b8⟩
        have rs8 := rs7.below (b8.mono (by omega))
        have hs8 := b8.size
        have bel8 := bel7.trans (b8.mono (by omega))
        clear b8 bel7 rx7 rs7
        go_wp2_with fail
        refine (sortAsks_impl rs8 (by omega) hn20).mono ?_
        rw [HTW2.out]
        rintro e w9 ⟨A9, c9, rfl, o9, b9⟩
        rw [HM.out] at o9 ⊢
        have rs9 := rs8.below (b9.mono (by omega))
        have rt9 := rdoAsk o9
        have hs9 := b9.size
        have bel9 := bel8.trans (b9.mono (by omega))
        clear b9 bel8 rs8 o9
        go_wp2_with fail
        refine (sameAsks_o rt9 rs9 (by omega)).mono ?_
        rintro e w10 ⟨rfl, b10⟩
        go_wp2_with fail
        go_ret
        exact ⟨by simp, bel9.trans (b10.mono (by omega))⟩
end Go.Proofs.Ytmkmobgmlhioaaa
