/- Contracts of ApplySteps, the program's and the reference's. Condition: at most 2^20 pages and 2^20 steps. -/
import Derived.Test.YtiodnicpecjagaaPlaces
import Derived.Test.YtiodnicpecjagaaStepS
import Derived.Test.YtiodnicpecjagaaClone
namespace Go.Proofs.Ytiodnicpecjagaa
open Go.ChangeShapes Go.WideShapes Go.ChangeAt Go.RowKit
set_option linter.unusedVariables false
set_option linter.unusedSimpArgs false

def Dis (xs : List Int) : Prop := ∀ i j, j < i → i < xs.length → xs.getD j 0 ≠ xs.getD i 0
def repl (f t : Int) (xs : List Int) : List Int := xs.map fun x => if x = f then t else x
theorem repl_len (f t : Int) (xs : List Int) : (repl f t xs).length = xs.length := by simp [repl]
theorem repl_getD (f t : Int) (xs : List Int) (i : Nat) (h : i < xs.length) : (repl f t xs).getD i 0 = if xs.getD i 0 = f then t else xs.getD i 0 := by
  simp [repl, List.getD_eq_getElem?_getD, h]
theorem repl_set {f t : Int} {xs : List Int} {i : Nat} (hd : Dis xs) (hi : i < xs.length) (hf : xs.getD i 0 = f) : xs.set i t = repl f t xs := by
  apply ext_getD (by simp [repl_len])
  intro j hj
  rw [List.length_set] at hj
  rw [repl_getD _ _ _ _ hj]
  by_cases e : j = i
  · subst e; rw [getD_set_eq _ _ _ hj, if_pos hf]
  · rw [getD_set_ne _ _ _ _ (fun h => e h.symm), if_neg]
    rw [← hf]
    rcases Nat.lt_or_gt_of_ne e with h | h
    · exact hd i j h hi
    · exact fun e => hd j i h hj e.symm
theorem repl_dis {f t : Int} {xs : List Int} (hd : Dis xs) (ht : ∀ j, j < xs.length → xs.getD j 0 ≠ t) : Dis (repl f t xs) := by
  intro i j hj hi
  rw [repl_len] at hi
  rw [repl_getD _ _ _ _ hi, repl_getD _ _ _ _ (by omega)]
  have h0 := hd i j hj hi
  have h1 := ht i hi
  have h2 := ht j (by omega)
  split <;> split
  · next e1 e2 => exact absurd (e1.trans e2.symm) h0
  · next e1 e2 => exact fun h => h1 h.symm
  · next e1 e2 => exact h2
  · exact h0
open Classical in
noncomputable def stepOne (xs : List Int) (p : Int × Int) : Option (List Int) := if p.1 ∈ xs ∧ p.2 ∉ xs ∧ 0 ≤ p.2 ∧ p.2 ≤ 23 then some (repl p.1 p.2 xs) else none
theorem stepOne_ok {xs : List Int} {p : Int × Int} (h : p.1 ∈ xs ∧ p.2 ∉ xs ∧ 0 ≤ p.2 ∧ p.2 ≤ 23) : stepOne xs p = some (repl p.1 p.2 xs) := by unfold stepOne; rw [if_pos h]
theorem stepOne_no {xs : List Int} {p : Int × Int} (h : ¬ (p.1 ∈ xs ∧ p.2 ∉ xs ∧ 0 ≤ p.2 ∧ p.2 ≤ 23)) : stepOne xs p = none := by unfold stepOne; rw [if_neg h]
noncomputable def stepsTo (xs : List Int) (ps : List (Int × Int)) : Option (List Int) := ps.foldl (fun o p => o.bind fun ys => stepOne ys p) (some xs)
theorem stepsTo_nil (xs : List Int) : stepsTo xs [] = some xs := rfl
theorem foldl_none (ps : List (Int × Int)) : ps.foldl (fun o p => o.bind fun ys => stepOne ys p) (none : Option (List Int)) = none := by
  induction ps with
  | nil => rfl
  | cons p ps ih => exact ih
theorem stepsTo_append (xs : List Int) (ps qs : List (Int × Int)) : stepsTo xs (ps ++ qs) = (stepsTo xs ps).bind fun ys => stepsTo ys qs := by
  unfold stepsTo
  rw [List.foldl_append]
  cases h : List.foldl (fun o p => o.bind fun ys => stepOne ys p) (some xs) ps with
  | none => rw [foldl_none]; rfl
  | some ys => rfl
theorem take_succ_getD {ps : List (Int × Int)} {k : Nat} (h : k < ps.length) : ps.take (k + 1) = ps.take k ++ [ps.getD k (0, 0)] := by
  rw [List.take_succ_eq_append_getElem h, List.getD_eq_getElem?_getD, List.getElem?_eq_getElem h]; rfl
theorem stepsTo_succ {xs ys : List Int} {ps : List (Int × Int)} {k : Nat} (h : k < ps.length) (hk : stepsTo xs (ps.take k) = some ys) : stepsTo xs (ps.take (k + 1)) = stepOne ys (ps.getD k (0, 0)) := by
  rw [take_succ_getD h, stepsTo_append, hk]; rfl
theorem stepsTo_fail {xs ys : List Int} {ps : List (Int × Int)} {k : Nat} (h : k < ps.length) (hk : stepsTo xs (ps.take k) = some ys) (hn : stepOne ys (ps.getD k (0, 0)) = none) : stepsTo xs ps = none := by
  have h1 := stepsTo_succ h hk
  have : stepsTo xs (ps.take (k + 1) ++ ps.drop (k + 1)) = none := by rw [stepsTo_append, h1, hn]; rfl
  rwa [List.take_append_drop] at this
def AOk (xs : List Int) (ps : List (Int × Int)) : Prop := PlacesOk xs ∧ (stepsTo xs ps).isSome = true
open Classical in
noncomputable def applySteps (xs : List Int) (ps : List (Int × Int)) : List Int := if PlacesOk xs then (stepsTo xs ps).getD [] else []
theorem apply_ok {xs ys ps} (h : PlacesOk xs) (h2 : stepsTo xs ps = some ys) : applySteps xs ps = ys := by unfold applySteps; rw [if_pos h, h2]; rfl
theorem apply_bad {xs ps} (h : ¬ PlacesOk xs) : applySteps xs ps = [] := by unfold applySteps; rw [if_neg h]
theorem apply_none {xs ps} (h2 : stepsTo xs ps = none) : applySteps xs ps = [] := by unfold applySteps; rw [h2]; simp
theorem aok_some {xs ys ps} (h : PlacesOk xs) (h2 : stepsTo xs ps = some ys) : AOk xs ps := ⟨h, by rw [h2]; rfl⟩
theorem aok_none {xs ps} (h2 : stepsTo xs ps = none) : ¬ AOk xs ps := fun h => by have := h.2; rw [h2] at this; cases this
theorem aok_bad {xs ps} (h : ¬ PlacesOk xs) : ¬ AOk xs ps := fun h' => h h'.1
theorem stepsTo_len {xs ys : List Int} {ps : List (Int × Int)} (h : stepsTo xs ps = some ys) : ys.length = xs.length := by
  induction ps generalizing xs with
  | nil => injection h with h; rw [h]
  | cons p ps ih =>
    have h' : (stepOne xs p).bind (fun zs => stepsTo zs ps) = some ys := by
      have := stepsTo_append xs [p] ps
      rw [List.singleton_append, h] at this
      exact this.symm
    cases h1 : stepOne xs p with
    | none => rw [h1] at h'; cases h'
    | some zs =>
      rw [h1] at h'
      have hz : zs.length = xs.length := by
        unfold stepOne at h1
        split at h1
        · injection h1 with h1; rw [← h1, repl_len]
        · cases h1
      rw [ih h', hz]
theorem apply_len (xs ps) : (applySteps xs ps).length ≤ 24 := by
  unfold applySteps
  split
  · next h =>
    cases h1 : stepsTo xs ps with
    | none => simp
    | some ys => have := stepsTo_len h1; have := h.1; simp; omega
  · simp
theorem PlacesOk.dis {xs} (h : PlacesOk xs) : Dis xs := fun i j hj hi => h.2.2 i j hj hi

theorem applySteps_impl {A A' : Option Addr} {n c B n' c' B' : Nat} {xs : List Int} {ps : List (Int × Int)} {w : World} (hr : RdI .i64 w B A n xs) (hB : B ≤ w.heap.size) (hn : n ≤ 1048576) (hnc : n ≤ c) (hcm : c ≤ 9223372036854775807)
    (hp : RdP w B' A' n' ps) (hB' : B' ≤ w.heap.size) (hn' : n' ≤ 1048576) :
    Calls Try.prog 27 #[.slice A n c, .slice A' n' c'] w (OwnIx w (applySteps xs ps) (.bool (bof (AOk xs ps)))) := by
  have HL := Lib.hid hr.len
  have HL' := Lib.hid hp.len
  have NO : ∀ (W : World), Below w.heap.size w W → applySteps xs ps = [] → ¬ AOk xs ps → OwnIx w (applySteps xs ps) (.bool (bof (AOk xs ps))) (.returned (.tuple #[.slice none 0 0, .bool false])) W := by
    intro W hW h1 h2
    rw [h1, bof_f.2 h2]
    exact ownIx_of (ys := []) rfl (World.ownsRow_nil _ _ _ _) hW
  have NO := Lib.hid NO
  rcases Bool.eq_false_or_eq_true (bof (PlacesOk xs)) with hb | hb
  · have hok := bof_t.1 hb
    have HOK := Lib.hid hok
    have hn24 : n ≤ 24 := by have := hok.1; have := HL.out; omega
    have HD := Lib.hid hok.dis
    clear hok
    go_enter Try.func27, Try.ntmps27
    go_wp2_with (first | (go_at_call 13; refine (placesValid_impl hr hnc hcm).mono ?_; rintro e w' ⟨rfl, rfl⟩) | (go_at_call 41; refine (clone_c hr hB hn).mono ?_; rintro e w1 ⟨A1, c1, rfl, o1, b1⟩))
    clear hb
    go_loopw [17] (fun i wr => ∃ (k : Nat) (ys : List Int), k ≤ n' ∧ i = .int .i64 k ∧ ys.length = n ∧ stepsTo xs (ps.take k) = some ys ∧ Dis ys ∧ wr.ownsRow w.heap.size 3 1 (.slice A1 n c1) n (ys.map (Value.int .i64)) ∧ Below w.heap.size w wr) (fun i _ => n' - (intOf i).toNat)
    case atStart => exact ⟨0, xs, Nat.zero_le _, rfl, HL.out, stepsTo_nil xs, HD.out, o1, b1⟩
    case round =>
      obtain ⟨k, ys, hk, rfl, hyl, hst, hdis, hown, hbel⟩ := hrel
      clear o1 b1
      have HY := Lib.hid hyl
      have HS := Lib.hid hst
      have HDI := Lib.hid hdis
      have hsz := hbel.size
      clear hyl hst hdis
      by_cases hlt : k < n'
      · obtain ⟨b, off, rfl, hbB, hc⟩ := hp.at_ (by omega)
        have e0 := (hbel.cell (p := ⟨b, off + k * 2, none⟩) (by exact Nat.lt_of_lt_of_le hbB hB')).trans (hc k hlt).1
        have e1 := (hbel.cell (p := ⟨b, off + k * 2 + 1, none⟩) (by exact Nat.lt_of_lt_of_le hbB hB')).trans (hc k hlt).2
        obtain ⟨f, t, hft⟩ : ∃ f t, ps.getD k (0, 0) = (f, t) := ⟨_, _, rfl⟩
        rw [hft] at e0 e1
        have HFT := Lib.hid hft
        have HB := Lib.hid hbel
        clear hft hc hp hbel
        have fail : stepOne ys (f, t) = none → ∀ W, Below w.heap.size w W → OwnIx w (applySteps xs ps) (.bool (bof (AOk xs ps))) (.returned (.tuple #[.slice none 0 0, .bool false])) W := by
          intro h W hW
          have := stepsTo_fail (by have := HL'.out; omega) HS.out (by rw [HFT.out]; exact h)
          exact NO.out W hW (apply_none this) (aok_none this)
        have FAIL := Lib.hid fail
        clear fail
        have rd := rdoI hown
        have rd1 := rd.alloc (Nat.le_refl _) (.cells #[.int .i64 f, .int .i64 t] 41)
        have ow1 := hown.alloc (.cells #[.int .i64 f, .int .i64 t] 41)
        have hb1 := HB.out.alloc hsz (.cells #[.int .i64 f, .int .i64 t] 41)
        have HB1 := Lib.hid hb1
        clear hb1 rd hown
        go_wp2_with fail
        refine (index_c rd1 (by omega)).mono ?_
        rintro e w2 ⟨⟨r, rfl, hr1⟩, rfl⟩
        by_cases hr0 : r < 0
        · have hno : stepOne ys (f, t) = none := stepOne_no (fun h => by have := hr1.ge.2 h.1; omega)
          have HNO := Lib.hid hno
          clear hno
          go_wp2_with fail
          go_ret2
          exact FAIL.out HNO.out _ HB1.out
        · have hmem := hr1.ge.1 (by omega)
          have hr2 : ∃ i : Nat, i < n ∧ r = i ∧ ys.getD i 0 = f := by
            rcases hr1 with ⟨rfl, _⟩ | ⟨i, h1, h2, h3, _⟩
            · omega
            · exact ⟨i, by have := HY.out; omega, h2, h3⟩
          obtain ⟨i, hi, rfl, hif⟩ := hr2
          have HM := Lib.hid hmem
          have HIF := Lib.hid hif
          clear hr1 hmem hif hr0
          rcases Bool.eq_false_or_eq_true (bof (t ∈ ys)) with hb | hb
          · have hno : stepOne ys (f, t) = none := stepOne_no (fun h => h.2.1 (bof_t.1 hb))
            have HNO := Lib.hid hno
            clear hno
            go_wp2_with (go_at_call 35; refine (contains_c rd1 (by omega)).mono ?_; rintro e w' ⟨rfl, rfl⟩)
            go_ret2
            exact FAIL.out HNO.out _ HB1.out
          · have HNT := Lib.hid (bof_f.1 hb)
            by_cases ht : 0 ≤ t ∧ t < 24
            · obtain ⟨ht1, ht2⟩ := ht
              obtain ⟨g, hg, hgb, hgs⟩ := own_form ow1 (by omega)
              subst hg
              have f0 := (ow1.cellAt (g := g) (cap := c1) i (by omega)).trans (map_getElem? ys i (by have := HY.out; omega))
              have z0 := ow1.frozenAt (g := g) (cap := c1) i
              have hst := (ow1.stored (g := g) (cap := c1) i (.int .i64 t)).1
              rw [← List.map_set, repl_set HDI.out (by have := HY.out; omega) HIF.out] at hst
              have HST := Lib.hid hst
              have HN := Lib.hid (stepOne_ok (xs := ys) (p := (f, t)) ⟨HM.out, HNT.out, ht1, by show t ≤ 23; omega⟩)
              have hgw : g ≠ wr.heap.size := by
                intro e
                have := rd1
                have hlt2 := (World.ownsRow.lt ow1 g rfl).2
                rcases ow1.2 with ⟨h1, _⟩ | ⟨g', cap, cur, h1, _, hh, _⟩
                · cases h1
                · injection h1 with h1
                  injection h1 with h1
                  have h2 : g = g' := by injection h1
                  rw [← h2, e, heap_alloc_new] at hh
                  injection hh with hh
                  injection hh with _ hh
                  exact absurd hh (by decide)
              generalize ys.getD i 0 = y0 at *
              clear hst ow1
              go_wp2_with (go_at_call 35; refine (contains_c rd1 (by omega)).mono ?_; rintro e w' ⟨rfl, rfl⟩)
              go_roundw
              case rel =>
                refine ⟨k + 1, repl f t ys, by omega, by go_num, by rw [repl_len]; exact HY.out, ?_, repl_dis HDI.out (fun j hj e => HNT.out (mem_getD.2 ⟨j, hj, e⟩)), HST.out, HB1.out.setCell (p := ⟨g, i, none⟩) hgb _⟩
                rw [stepsTo_succ (by have := HL'.out; omega) HS.out, HFT.out]; exact HN.out
              case measure => simp [intOf]; omega
            · have hno : stepOne ys (f, t) = none := stepOne_no (fun h => ht ⟨h.2.2.1, by have := h.2.2.2; simp only at this; omega⟩)
              have HNO := Lib.hid hno
              clear hno
              by_cases ht0 : t < 0
              · clear ht
                go_wp2_with (go_at_call 35; refine (contains_c rd1 (by omega)).mono ?_; rintro e w' ⟨rfl, rfl⟩)
                go_ret2
                exact FAIL.out HNO.out _ HB1.out
              · have ht1 : 24 ≤ t := by omega
                clear ht
                go_wp2_with (go_at_call 35; refine (contains_c rd1 (by omega)).mono ?_; rintro e w' ⟨rfl, rfl⟩)
                go_ret2
                exact FAIL.out HNO.out _ HB1.out
      · have hkn : k = n' := by omega
        subst hkn
        have hfin : stepsTo xs ps = some ys := by have := HS.out; rwa [List.take_of_length_le (by rw [HL'.out]; exact Nat.le_refl _)] at this
        have HF := Lib.hid hfin
        clear hfin
        go_wp2_with fail
        go_ret2
        rw [apply_ok HOK.out HF.out, bof_t.2 (aok_some HOK.out HF.out)]
        exact ownIx_of HY.out hown hbel
  · have hno := bof_f.1 hb
    have H1 := Lib.hid (apply_bad (ps := ps) hno)
    have H2 := Lib.hid (aok_bad (ps := ps) hno)
    clear hno
    go_enter Try.func27, Try.ntmps27
    go_wp2_with (go_at_call 13; refine (placesValid_impl hr hnc hcm).mono ?_; rintro e w' ⟨rfl, rfl⟩)
    go_ret2
    exact NO.out _ (Below.refl _ _) H1.out H2.out

theorem applySteps_spec {A A' : Option Addr} {n c B n' c' B' : Nat} {xs : List Int} {ps : List (Int × Int)} {w : World} (hr : RdI .i64 w B A n xs) (hB : B ≤ w.heap.size) (hn : n ≤ 1048576) (hnil : A = none → c = 0)
    (hp : RdP w B' A' n' ps) (hB' : B' ≤ w.heap.size) (hn' : n' ≤ 1048576) :
    Calls Try.prog 29 #[.slice A n c, .slice A' n' c'] w (OwnIx w (applySteps xs ps) (.bool (bof (AOk xs ps)))) := by
  have HL := Lib.hid hr.len
  have HL' := Lib.hid hp.len
  have NO : ∀ (W : World), Below w.heap.size w W → applySteps xs ps = [] → ¬ AOk xs ps → OwnIx w (applySteps xs ps) (.bool (bof (AOk xs ps))) (.returned (.tuple #[.slice (some ⟨W.heap.size, 0, none⟩) 0 0, .bool false])) (W.alloc (.cells #[] 3)) := by
    intro W hW h1 h2
    rw [h1, bof_f.2 h2]
    exact ownIx_of (ys := []) rfl (World.ownsRow_lit W #[] 0 hW.size (by decide) rfl) (hW.alloc hW.size _)
  have NO := Lib.hid NO
  rcases Bool.eq_false_or_eq_true (bof (PlacesOk xs)) with hb | hb
  · have hok := bof_t.1 hb
    have HOK := Lib.hid hok
    have hn24 : n ≤ 24 := by have := hok.1; have := HL.out; omega
    have HD := Lib.hid hok.dis
    clear hok
    go_enter Try.func29, Try.ntmps29
    go_wp2_with fail
    refine (placesValid_spec hr hn).mono ?_
    rintro e w' ⟨rfl, m0, rfl⟩
    have b00 : Below w.heap.size w (w.drewN m0) := below_drewN (Below.refl _ _) m0
    have o0 : ((w.drewN m0).alloc (.cells #[] 3)).ownsRow w.heap.size 3 1 (.slice (some ⟨w.heap.size, 0, none⟩) 0 0) 0 (([] : List Int).map (Value.int .i64)) := World.ownsRow_lit (w.drewN m0) #[] 0 (Nat.le_refl _) (by decide) rfl
    have b0 : Below w.heap.size w ((w.drewN m0).alloc (.cells #[] 3)) := b00.alloc (Nat.le_refl _) _
    have o0' : ((w.alloc (.cells #[] 3)).drewN m0).ownsRow w.heap.size 3 1 (.slice (some ⟨w.heap.size, 0, none⟩) 0 0) 0 (([] : List Int).map (Value.int .i64)) := o0
    have b0' : Below w.heap.size w ((w.alloc (.cells #[] 3)).drewN m0) := below_drewN ((Below.refl _ _).alloc (Nat.le_refl _) _) m0
    have hr1 := (hr.mono hB).below b0'
    have hs0 := b0'.size
    clear o0 b0 b00
    go_wp2_with (at_builtin; refine wpList_appMany rfl rfl rfl o0' rfl hnil hr1 (by omega) hs0 ?_; rintro A1 c1 w1 o1 hg)
    rw [Nat.zero_add, List.nil_append] at o1
    have b1 := below_app b0' o0' hs0 hg
    clear hr1 o0' b0' hg hb
    go_loopw [7] (fun i wr => ∃ (k : Nat) (ys : List Int), k ≤ n' ∧ i = .int .i64 k ∧ ys.length = n ∧ stepsTo xs (ps.take k) = some ys ∧ Dis ys ∧ wr.ownsRow w.heap.size 3 1 (.slice A1 n c1) n (ys.map (Value.int .i64)) ∧ Below w.heap.size w wr) (fun i _ => n' - (intOf i).toNat)
    case atStart => exact ⟨0, xs, Nat.zero_le _, rfl, HL.out, stepsTo_nil xs, HD.out, o1, b1⟩
    case round =>
      obtain ⟨k, ys, hk, rfl, hyl, hst, hdis, hown, hbel⟩ := hrel
      clear o1 b1
      have HY := Lib.hid hyl
      have HS := Lib.hid hst
      have HDI := Lib.hid hdis
      have hsz := hbel.size
      clear hyl hst hdis
      by_cases hlt : k < n'
      · obtain ⟨b, off, rfl, hbB, hc⟩ := hp.at_ (by omega)
        have e0 := (hbel.cell (p := ⟨b, off + k * 2, none⟩) (by exact Nat.lt_of_lt_of_le hbB hB')).trans (hc k hlt).1
        have e1 := (hbel.cell (p := ⟨b, off + k * 2 + 1, none⟩) (by exact Nat.lt_of_lt_of_le hbB hB')).trans (hc k hlt).2
        obtain ⟨f, t, hft⟩ : ∃ f t, ps.getD k (0, 0) = (f, t) := ⟨_, _, rfl⟩
        rw [hft] at e0 e1
        have HFT := Lib.hid hft
        have HB := Lib.hid hbel
        clear hft hc hp hbel
        have fail : stepOne ys (f, t) = none → ∀ W, Below w.heap.size w W → OwnIx w (applySteps xs ps) (.bool (bof (AOk xs ps))) (.returned (.tuple #[.slice (some ⟨W.heap.size, 0, none⟩) 0 0, .bool false])) (W.alloc (.cells #[] 3)) := by
          intro h W hW
          have := stepsTo_fail (by have := HL'.out; omega) HS.out (by rw [HFT.out]; exact h)
          exact NO.out W hW (apply_none this) (aok_none this)
        have FAIL := Lib.hid fail
        have HO := Lib.hid hown
        have rd := rdoI hown
        clear fail hown
        go_wp2_with fail
        go_loopw [8, 9] (fun r i W => ∃ (j : Nat) (m : Nat), j ≤ n ∧ i = .int .i64 j ∧ W = wr.drewN m ∧ (∀ u, u < j → ys.getD u 0 ≠ t) ∧ ((r = .int .i64 (-1) ∧ ∀ u, u < j → ys.getD u 0 ≠ f) ∨ ∃ q : Nat, q < j ∧ r = .int .i64 q ∧ ys.getD q 0 = f)) (fun _ i _ => n - (intOf i).toNat)
        case atStart => exact ⟨0, 0, Nat.zero_le _, rfl, rfl, fun u h => absurd h (Nat.not_lt_zero _), .inl ⟨rfl, fun u h => absurd h (Nat.not_lt_zero _)⟩⟩
        case round =>
          rename_i r _ _
          obtain ⟨j, m, hj, rfl, rfl, hnt, hf⟩ := hrel
          have HNT := Lib.hid hnt
          have HFD := Lib.hid hf
          clear hnt hf
          by_cases hjn : j < n
          · obtain ⟨g, hg, hgb, hgs⟩ := own_form HO.out (by omega)
            subst hg
            have f0 := (HO.out.cellAt (g := g) (cap := c1) j (by omega)).trans (map_getElem? ys j (by have := HY.out; omega))
            obtain ⟨y, hy⟩ : ∃ y, ys.getD j 0 = y := ⟨_, rfl⟩
            rw [hy] at f0
            have HYJ := Lib.hid hy
            clear hy
            by_cases hyt : y = t
            · have hq : (y == t) = true := by simp [hyt]
              have hno : stepOne ys (f, t) = none := stepOne_no (fun h => h.2.1 (mem_getD.2 ⟨j, by have := HY.out; omega, by rw [HYJ.out]; exact hyt⟩))
              have HNO := Lib.hid hno
              clear hno hyt
              go_wp2_with fail
              go_quiet (fail)
              go_wp2_with fail
              go_ret2
              exact FAIL.out HNO.out (wr.drewN (m + nq)) (below_drewN HB.out _)
            · have hq : (y == t) = false := by simp [hyt]
              have HYT := Lib.hid hyt
              clear hyt
              by_cases hyf : y = f
              · have hq2 : (y == f) = true := by simp [hyf]
                have HYF := Lib.hid hyf
                clear hyf
                go_wp2_with fail
                go_quiet (fail)
                go_wp2_with fail
                go_quiet (fail)
                go_wp2_with fail
                go_roundw
                case rel =>
                  refine ⟨j + 1, _, by omega, by go_num, rfl, fun u hu => ?_, .inr ⟨j, by omega, rfl, by rw [HYJ.out]; exact HYF.out⟩⟩
                  by_cases e : u = j
                  · subst e; rw [HYJ.out]; exact HYT.out
                  · exact HNT.out u (by omega)
                case measure => simp [intOf]; omega
              · have hq2 : (y == f) = false := by simp [hyf]
                have HYF := Lib.hid hyf
                clear hyf
                go_wp2_with fail
                go_quiet (fail)
                go_wp2_with fail
                go_quiet (fail)
                go_wp2_with fail
                go_roundw
                case rel =>
                  refine ⟨j + 1, _, by omega, by go_num, rfl, fun u hu => ?_, ?_⟩
                  · by_cases e : u = j
                    · subst e; rw [HYJ.out]; exact HYT.out
                    · exact HNT.out u (by omega)
                  · rcases HFD.out with ⟨h1, h2⟩ | ⟨q, h1, h2, h3⟩
                    · refine .inl ⟨h1, fun u hu => ?_⟩
                      by_cases e : u = j
                      · subst e; rw [HYJ.out]; exact HYF.out
                      · exact h2 u (by omega)
                    · exact .inr ⟨q, by omega, h2, h3⟩
                case measure => simp [intOf]; omega
          · have hjn' : j = n := by omega
            subst hjn'
            rcases HFD.out with ⟨rfl, h2⟩ | ⟨q, h1, rfl, h3⟩
            · have hno : stepOne ys (f, t) = none := stepOne_no (fun h => by
                obtain ⟨i, hi, e⟩ := mem_getD.1 h.1
                exact h2 i (by have := HY.out; omega) e)
              have HNO := Lib.hid hno
              clear hno h2
              go_wp2_with fail
              go_ret2
              exact FAIL.out HNO.out (wr.drewN m) (below_drewN HB.out _)
            · have H3 := Lib.hid h3
              clear h3
              rcases Bool.eq_false_or_eq_true (inB t 0 23) with hb | hb
              · obtain ⟨ht1, ht2⟩ := inB_t.1 hb
                obtain ⟨g, hg, hgb, hgs⟩ := own_form HO.out (by omega)
                subst hg
                have f0 := (HO.out.cellAt (g := g) (cap := c1) q (by omega)).trans (map_getElem? ys q (by have := HY.out; omega))
                have z0 := HO.out.frozenAt (g := g) (cap := c1) q
                have hst := (HO.out.stored (g := g) (cap := c1) q (.int .i64 t)).1
                rw [← List.map_set, repl_set HDI.out (by have := HY.out; omega) H3.out] at hst
                have HST := Lib.hid hst
                have HN := Lib.hid (stepOne_ok (xs := ys) (p := (f, t)) ⟨mem_getD.2 ⟨q, by have := HY.out; omega, H3.out⟩, fun h => by
                  obtain ⟨i, hi, e⟩ := mem_getD.1 h
                  exact HNT.out i (by have := HY.out; omega) e, ht1, ht2⟩)
                generalize ys.getD q 0 = y0 at *
                clear hst
                go_wp2_with (go_at_call 34; refine (l1In_c _ _ _ _).mono ?_; rintro e w' ⟨rfl, rfl⟩)
                go_roundw
                case rel =>
                  refine ⟨k + 1, repl f t ys, by omega, by go_num, by rw [repl_len]; exact HY.out, ?_, repl_dis HDI.out (fun i hi e => HNT.out i (by have := HY.out; omega) e), HST.out, below_drewN (HB.out.setCell (p := ⟨g, q, none⟩) hgb _) _⟩
                  rw [stepsTo_succ (by have := HL'.out; omega) HS.out, HFT.out]; exact HN.out
                case measure => simp [intOf]; omega
              · have hno : stepOne ys (f, t) = none := stepOne_no (fun h => by
                  have := inB_f.1 hb
                  have h1 := h.2.2.1
                  have h2 := h.2.2.2
                  simp only at h1 h2
                  omega)
                have HNO := Lib.hid hno
                clear hno
                go_wp2_with (go_at_call 34; refine (l1In_c _ _ _ _).mono ?_; rintro e w' ⟨rfl, rfl⟩)
                go_ret2
                exact FAIL.out HNO.out (wr.drewN m) (below_drewN HB.out _)
      · have hkn : k = n' := by omega
        subst hkn
        have hfin : stepsTo xs ps = some ys := by have := HS.out; rwa [List.take_of_length_le (by rw [HL'.out]; exact Nat.le_refl _)] at this
        have HF := Lib.hid hfin
        clear hfin
        go_wp2_with fail
        go_ret2
        rw [apply_ok HOK.out HF.out, bof_t.2 (aok_some HOK.out HF.out)]
        exact ownIx_of HY.out hown hbel
  · have hno := bof_f.1 hb
    have H1 := Lib.hid (apply_bad (ps := ps) hno)
    have H2 := Lib.hid (aok_bad (ps := ps) hno)
    clear hno
    go_enter Try.func29, Try.ntmps29
    go_wp2_with (go_at_call 11; refine (placesValid_spec hr hn).mono ?_; rintro e w' ⟨rfl, m0, rfl⟩)
    go_ret2
    exact NO.out (w.drewN m0) (below_drewN (Below.refl _ _) m0) H1.out H2.out
end Go.Proofs.Ytiodnicpecjagaa
