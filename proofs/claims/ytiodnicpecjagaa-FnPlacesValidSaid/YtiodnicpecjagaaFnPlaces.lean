/- The walks of the laws FnPlacesValid and FnFragmentCount. -/
import Derived.Test.YtiodnicpecjagaaDrawPlaces
import Derived.Test.YtiodnicpecjagaaAlive
namespace Go.Proofs.Ytiodnicpecjagaa
open Go.ChangeShapes Go.WideShapes Go.ChangeAt Go.RowKit
set_option linter.unusedVariables false
set_option linter.unusedSimpArgs false

/-- a drawn list, at the law's level -/
def DrawnL (w : World) (e : Ending) (w' : World) : Prop :=
  ∃ (ys : List Int) (A : Option Addr) (c : Nat), e = .returned (.slice A ys.length c) ∧ ys.length ≤ 100 ∧ w'.ownsRow w.heap.size 3 1 (.slice A ys.length c) ys.length (ys.map (Value.int .i64)) ∧ Below w.heap.size w w'
theorem drawnL_of {w w1 w' : World} {B g p : Nat} {e : Ending} (hb : Below w.heap.size w w1) (hg : w.heap.size ≤ g) (h : DrawL B g p w1 e w') : DrawnL w e w' := by
  obtain ⟨ys, A, c, he, h100, ho, _, hgb⟩ := h
  exact ⟨ys, A, c, he, h100, ownsRow_base ho hb.size, below_of_gb hb hgb hb.size hg⟩
theorem drawPlacesValid_c {A : Option Addr} {n c : Nat} {xs : List Int} {w : World} (hr : RdI .u8 w w.heap.size A n xs) (hx : ∀ x ∈ xs, 0 ≤ x ∧ x ≤ 255) (hnc : n ≤ c) (hcm : c ≤ 9223372036854775807) :
    Calls Try.prog 17 #[.slice A n c] w (DrawnL w) := by
  go_enter Try.func17, Try.ntmps17
  go_wp2_with fail
  refine (open_c hr hx hnc hcm).mono ?_
  rintro e w1 ⟨rfl, h1, b1⟩
  go_wp2_with fail
  refine (l20Places_c h1 (by omega) (by omega) (by omega)).mono ?_
  rintro e w2 h
  have h' := drawnL_of b1 (Nat.le_refl _) h
  obtain ⟨ys, A2, c2, rfl, hq⟩ := h'
  clear h
  go_wp2_with fail
  go_ret
  exact ⟨ys, A2, c2, rfl, hq⟩
theorem drawFragmentCount_c {A : Option Addr} {n c : Nat} {xs : List Int} {w : World} (hr : RdI .u8 w w.heap.size A n xs) (hx : ∀ x ∈ xs, 0 ≤ x ∧ x ≤ 255) (hnc : n ≤ c) (hcm : c ≤ 9223372036854775807) :
    Calls Try.prog 19 #[.slice A n c] w (DrawnL w) := by
  go_enter Try.func19, Try.ntmps19
  go_wp2_with fail
  refine (open_c hr hx hnc hcm).mono ?_
  rintro e w1 ⟨rfl, h1, b1⟩
  go_wp2_with fail
  refine (l20Places_c h1 (by omega) (by omega) (by omega)).mono ?_
  rintro e w2 h
  have h' := drawnL_of b1 (Nat.le_refl _) h
  obtain ⟨ys, A2, c2, rfl, hq⟩ := h'
  clear h
  go_wp2_with fail
  go_ret
  exact ⟨ys, A2, c2, rfl, hq⟩
theorem RdI.tail {k w B n off b} {xs : List Int} (h : RdI k w B (some ⟨b, off, none⟩) n xs) (hn : 0 < n) : RdI k w B (some ⟨b, off + 1, none⟩) (n - 1) (xs.drop 1) :=
  ⟨by have := h.len; simp; omega, fun _ => by
    obtain ⟨b', off', e, hb, hc⟩ := h.at_ hn
    injection e with e
    injection e with e1 e2
    subst e1; subst e2
    refine ⟨b, off + 1, rfl, hb, fun i hi => ?_⟩
    rw [Nat.add_assoc, Nat.add_comm 1 i, hc (i + 1) (by omega)]
    rw [List.getD_eq_getElem?_getD, List.getD_eq_getElem?_getD, List.getElem?_drop, Nat.add_comm 1 i]⟩
theorem PlacesOk.tail {xs : List Int} (h : PlacesOk xs) : PlacesOk (xs.drop 1) := by
  have hd : ∀ i, (xs.drop 1).getD i 0 = xs.getD (i + 1) 0 := fun i => by
    rw [List.getD_eq_getElem?_getD, List.getD_eq_getElem?_getD, List.getElem?_drop, Nat.add_comm 1 i]
  have hl : (xs.drop 1).length = xs.length - 1 := by simp
  refine ⟨by have := h.1; omega, fun i hi => ?_, fun i j hj hi => ?_⟩
  · rw [hd]; exact h.2.1 (i + 1) (by omega)
  · rw [hd, hd]; exact h.2.2 (i + 1) (j + 1) (by omega) (by omega)
theorem placesOk_twice {xs : List Int} (hn : 0 < xs.length) : ¬ PlacesOk ([xs.getD 0 0] ++ xs) := by
  intro h
  have := h.2.2 1 0 (by omega) (by simp; omega)
  apply this
  rcases xs with _ | ⟨x, xs⟩
  · simp at hn
  · rfl

theorem fnPlacesValid_w (a0 : Option Addr) (len0 cap0 : Nat) (z0 : List Int) (w : World) (w0 : IsRow .u8 w a0 len0 cap0 z0) :
    Calls Try.prog 5 #[.slice a0 len0 cap0] w fun e w' => e = .returned (.bool true) ∧ Below w.heap.size w w' := by
  obtain ⟨h1, h2, h3, h4⟩ := bytes_ok w0
  by_cases hl : 1048576 < len0
  · go_enter Try.func5, Try.ntmps5
    go_wp2
    go_ret
    exact ⟨rfl, Below.refl _ _⟩
  go_enter Try.func5, Try.ntmps5
  go_wp2_with fail
  refine (drawPlacesValid_c h3 h4 h1 h2).mono ?_
  rintro e w1 ⟨xs, A, c, rfl, h100, ox, bel1⟩
  clear h3 h4 w0
  have hcap := own_cap ox
  obtain ⟨hcap1, hcap2⟩ := hcap
  have rx := rdoI ox
  have hs1 := bel1.size
  go_wp2_with fail
  refine (placesValid_impl rx hcap1 hcap2).mono ?_
  rintro e w' ⟨rfl, rfl⟩
  go_wp2_with fail
  refine (placesValid_spec rx (by omega)).mono ?_
  rintro e w' ⟨rfl, m0, rfl⟩
  have bel2 := below_drewN bel1 m0
  have rx2 := rx.drewN m0
  have ox2 : (w1.drewN m0).ownsRow w.heap.size 3 1 (.slice A xs.length c) xs.length (xs.map (Value.int .i64)) := ox
  rcases Bool.eq_false_or_eq_true (bof (PlacesOk xs)) with hb | hb
  · have HOK := Lib.hid (bof_t.1 hb)
    by_cases h0 : 0 < xs.length
    · obtain ⟨b, hA, hbb, hbs⟩ := own_form ox h0
      subst hA
      have HT := Lib.hid (bof_t.2 HOK.out.tail)
      have HW := Lib.hid (bof_f.2 (placesOk_twice h0))
      have rt := rx2.tail h0
      have hz : ((xs.length : Int) == 0) = false := by rw [beq_eq_false_iff_ne]; omega
      obtain ⟨rb, ro, re, rbb, rc⟩ := rx2.at_ h0
      injection re with re
      injection re with re1 re2
      subst re1; subst re2
      have c0 := rc 0 h0
      rw [Nat.zero_add] at c0
      generalize hxx : xs.getD 0 0 = x at *
      generalize hn : xs.length = n at *
      have HXX := Lib.hid hxx
      have HN := Lib.hid hn
      clear hxx hn rc
      by_cases hc1 : c = 1
      · subst hc1
        obtain rfl : n = 1 := by omega
        have rt0 : RdI .i64 (w1.drewN m0) w1.heap.size (some ⟨b, 0, none⟩) 0 [] := RdI.nil
        go_wp2_with fail
        refine (placesValid_impl rt0 (by omega) (by omega)).mono ?_
        rw [bof_t.2 placesOk_nil]
        rintro e w' ⟨rfl, rfl⟩
        have on0 : ((w1.alloc (.cells #[.int .i64 x] 3)).drewN m0).ownsRow w1.heap.size 3 1 (.slice (some ⟨w1.heap.size, 0, none⟩) 1 1) 1 (([x] : List Int).map (Value.int .i64)) :=
          RowI.own (base := w1.heap.size) (w := (w1.alloc (.cells #[.int .i64 x] 3)).drewN m0) (g := w1.heap.size) (xs := [x]) ((Blk.new _ _ _).drewN m0) (Nat.le_refl _) (by unfold maxLen; simp)
        have rxn := (rx.alloc (Nat.le_refl _) (.cells #[.int .i64 x] 3)).drewN m0
        have bn : Below w1.heap.size w1 ((w1.alloc (.cells #[.int .i64 x] 3)).drewN m0) := below_drewN ((Below.refl _ _).alloc (Nat.le_refl _) _) m0
        have hsz := bn.size
        go_wp2_with (at_builtin; refine wpList_unguard rfl ?_; refine wpList_appMany rfl rfl rfl on0 rfl (by intro h; cases h) rxn (by omega) hsz ?_; rintro A5 c5 w5 o5 g5)
        have hc5 := own_cap o5
        have hb5 := below_app bn on0 hsz g5
        refine (placesValid_impl (rdoI o5) hc5.1 hc5.2).mono ?_
        rw [HW.out]
        rintro e w' ⟨rfl, rfl⟩
        go_wp2_with fail
        go_ret
        exact ⟨rfl, bel1.trans (hb5.mono hs1)⟩
      · have hc2 : 1 < c := by omega
        go_wp2_with fail
        refine (placesValid_impl rt (by omega) (by omega)).mono ?_
        rw [HT.out]
        rintro e w' ⟨rfl, rfl⟩
        have on0 : ((w1.alloc (.cells #[.int .i64 x] 3)).drewN m0).ownsRow w1.heap.size 3 1 (.slice (some ⟨w1.heap.size, 0, none⟩) 1 1) 1 (([x] : List Int).map (Value.int .i64)) :=
          RowI.own (base := w1.heap.size) (w := (w1.alloc (.cells #[.int .i64 x] 3)).drewN m0) (g := w1.heap.size) (xs := [x]) ((Blk.new _ _ _).drewN m0) (Nat.le_refl _) (by unfold maxLen; simp)
        have rxn := (rx.alloc (Nat.le_refl _) (.cells #[.int .i64 x] 3)).drewN m0
        have bn : Below w1.heap.size w1 ((w1.alloc (.cells #[.int .i64 x] 3)).drewN m0) := below_drewN ((Below.refl _ _).alloc (Nat.le_refl _) _) m0
        have hsz := bn.size
        go_wp2_with (at_builtin; refine wpList_unguard rfl ?_; refine wpList_appMany rfl rfl rfl on0 rfl (by intro h; cases h) rxn (by omega) hsz ?_; rintro A5 c5 w5 o5 g5)
        have hc5 := own_cap o5
        have hb5 := below_app bn on0 hsz g5
        refine (placesValid_impl (rdoI o5) hc5.1 hc5.2).mono ?_
        rw [HW.out]
        rintro e w' ⟨rfl, rfl⟩
        go_wp2_with fail
        go_ret
        exact ⟨rfl, bel1.trans (hb5.mono hs1)⟩
    · have hn0 : xs.length = 0 := by omega
      have hnil0 : xs = [] := List.eq_nil_of_length_eq_zero hn0
      subst hnil0
      go_wp2_with (go_at_call 18; refine (alive_c _).mono ?_; rintro e w' ⟨rfl, rfl⟩)
      go_ret
      exact ⟨rfl, bel2⟩
  · have hno := Lib.hid hb
    go_wp2_with (go_at_call 18; refine (alive_c _).mono ?_; rintro e w' ⟨rfl, rfl⟩)
    go_ret
    exact ⟨rfl, bel2⟩
theorem PlacesOk.one {xs : List Int} (h : PlacesOk xs) (h0 : 0 < xs.length) : PlacesOk (xs.take 1) := by
  have hl : (xs.take 1).length = 1 := by simp; omega
  refine ⟨by omega, fun i hi => ?_, fun i j hj hi => by omega⟩
  rw [take_getD (by omega)]
  exact h.2.1 i (by omega)
theorem fragCount_one {xs : List Int} (h : PlacesOk xs) (h0 : 0 < xs.length) : fragCount (xs.take 1) = 1 := by
  rw [fragCount_ok (h.one h0)]
  have hl : (xs.take 1).length = 1 := by simp; omega
  rw [hl, frag_new _ 0 (.inl rfl)]
  rfl
theorem frag_pos (xs : List Int) (k : Nat) (h : 0 < k) : 1 ≤ frag xs k := by
  induction k with
  | zero => omega
  | succ k ih =>
    by_cases h0 : k = 0
    · subst h0; rw [frag_new _ 0 (.inl rfl)]; omega
    · have := ih (by omega)
      by_cases hx : xs.getD k 0 = xs.getD (k - 1) 0 + 1
      · rw [frag_old _ _ h0 hx]; exact this
      · rw [frag_new _ _ (.inr hx)]; omega
theorem fnFragmentCount_w (a0 : Option Addr) (len0 cap0 : Nat) (z0 : List Int) (w : World) (w0 : IsRow .u8 w a0 len0 cap0 z0) :
    Calls Try.prog 6 #[.slice a0 len0 cap0] w fun e w' => e = .returned (.bool true) ∧ Below w.heap.size w w' := by
  obtain ⟨h1, h2, h3, h4⟩ := bytes_ok w0
  by_cases hl : 1048576 < len0
  · go_enter Try.func6, Try.ntmps6
    go_wp2
    go_ret
    exact ⟨rfl, Below.refl _ _⟩
  go_enter Try.func6, Try.ntmps6
  go_wp2_with fail
  refine (drawFragmentCount_c h3 h4 h1 h2).mono ?_
  rintro e w1 ⟨xs, A, c, rfl, h100, ox, bel1⟩
  clear h3 h4 w0
  obtain ⟨hcap1, hcap2⟩ := own_cap ox
  have rx := rdoI ox
  go_wp2_with fail
  refine (fragmentCount_impl rx hcap1 hcap2).mono ?_
  rintro e w' ⟨rfl, rfl⟩
  go_wp2_with fail
  refine (fragmentCount_spec rx (by omega)).mono ?_
  rintro e w' ⟨rfl, m0, rfl⟩
  have bel2 := below_drewN bel1 m0
  rcases Bool.eq_false_or_eq_true (bof (PlacesOk xs)) with hb | hb
  · have hok := bof_t.1 hb
    by_cases h0 : 0 < xs.length
    · have hf := fragCount_ok hok
      have hf1 := frag_le xs xs.length
      have hf2 := frag_pos xs xs.length h0
      have HO := Lib.hid (fragCount_one hok h0)
      have rt := (rx.drewN m0).take (i := 1) (by omega)
      have hz : ((xs.length : Int) == 0) = false := by rw [beq_eq_false_iff_ne]; omega
      generalize hq : fragCount xs = q at *
      have hq1 : 1 ≤ q := by omega
      have hq2 : q ≤ (xs.length : Int) := by omega
      have HQ := Lib.hid hq
      clear hq hf hf1 hf2 hok
      obtain ⟨b, hA, hbb, hbs⟩ := own_form ox h0
      subst hA
      generalize hn : xs.length = n at *
      have HN := Lib.hid hn
      clear hn
      have hc1 : 1 ≤ c := by omega
      go_wp2_with fail
      refine (fragmentCount_impl rt hc1 hcap2).mono ?_
      rw [HO.out]
      rintro e w' ⟨rfl, rfl⟩
      go_wp2_with fail
      go_ret
      exact ⟨rfl, bel2⟩
    · have hn0 : xs.length = 0 := by omega
      have hnil0 : xs = [] := List.eq_nil_of_length_eq_zero hn0
      subst hnil0
      have hf : fragCount [] = 0 := by rw [fragCount_ok placesOk_nil]; rfl
      rw [hf]
      go_wp2_with (go_at_call 18; refine (alive_c _).mono ?_; rintro e w' ⟨rfl, rfl⟩)
      go_ret
      exact ⟨rfl, bel2⟩
  · have hf := fragCount_no (bof_f.1 hb)
    rw [hf]
    clear hf
    go_wp2_with (go_at_call 18; refine (alive_c _).mono ?_; rintro e w' ⟨rfl, rfl⟩)
    go_ret
    exact ⟨rfl, bel2⟩
end Go.Proofs.Ytiodnicpecjagaa
