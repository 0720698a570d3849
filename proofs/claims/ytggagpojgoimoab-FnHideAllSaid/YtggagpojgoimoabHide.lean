/- Contracts of HideAll, the program's and the reference's. Condition: at most 2^20 values. -/
import Derived.Test.YtggagpojgoimoabInts
import Derived.Test.YtggagpojgoimoabList
namespace Go.Proofs.Ytggagpojgoimoab
open Go.ChangeShapes Go.WideShapes Go.ChangeAt Go.RowKit
set_option linter.unusedVariables false
set_option linter.unusedSimpArgs false

def HideOk (key place : Int) (xs : List Int) : Prop := 0 ≤ key ∧ key ≤ 9999 ∧ 0 ≤ place ∧ place ≤ 1000 ∧ xs.length ≤ 30 ∧ ∀ i, i < xs.length → 0 ≤ xs.getD i 0 ∧ xs.getD i 0 ≤ 9999
def hidTo (key place : Int) (xs : List Int) (k : Nat) : List Int := (List.range k).map fun (i : Nat) => hideValue key (place + (i : Int)) (xs.getD i 0)
theorem hidTo_len (key place : Int) (xs : List Int) (k : Nat) : (hidTo key place xs k).length = k := by simp [hidTo]
theorem hidTo_succ (key place : Int) (xs : List Int) (k : Nat) : hidTo key place xs (k + 1) = hidTo key place xs k ++ [hideValue key (place + (k : Int)) (xs.getD k 0)] := by simp [hidTo, List.range_succ]
theorem hidTo_getD (key place : Int) (xs : List Int) (k i : Nat) (h : i < k) : (hidTo key place xs k).getD i 0 = hideValue key (place + (i : Int)) (xs.getD i 0) := by
  simp [hidTo, List.getD_eq_getElem?_getD, h]
open Classical in
noncomputable def hideAll (key place : Int) (xs : List Int) : List Int := if HideOk key place xs then hidTo key place xs xs.length else []
theorem hideAll_ok {key place xs} (h : HideOk key place xs) : hideAll key place xs = hidTo key place xs xs.length := by unfold hideAll; rw [if_pos h]
theorem hideAll_no {key place xs} (h : ¬ HideOk key place xs) : hideAll key place xs = [] := by unfold hideAll; rw [if_neg h]
theorem hideAll_nil {key place} : hideAll key place [] = [] := by unfold hideAll; split <;> simp [hidTo]
theorem hideValue_ge {key place v : Int} : 0 ≤ hideValue key place v ↔ (0 ≤ key ∧ key ≤ 9999 ∧ 0 ≤ place ∧ place ≤ 1000000 ∧ 0 ≤ v ∧ v ≤ 9999) := by
  have hs : hideStream key place < 0 ↔ (key < 0 ∨ 9999 < key ∨ place < 0 ∨ 1000000 < place) := by
    unfold hideStream
    split <;> omega
  unfold hideValue
  split <;> omega

theorem hideAll_spec {A : Option Addr} {n c B : Nat} {key place : Int} {xs : List Int} {w : World} (hr : RdI .i64 w B A n xs) (hB : B ≤ w.heap.size) (hn : n ≤ 1048576) :
    Calls Try.prog 5 #[.int .i64 key, .int .i64 place, .slice A n c] w (OwnI w (hideAll key place xs)) := by
  have hl := hr.len
  go_enter Try.func5, Try.ntmps5
  go_wp2
  go_loopw [7, 8] (fun v i wr => ∃ (k : Nat) (A1 : Option Addr) (c1 : Nat), k ≤ n ∧ i = .int .i64 k ∧ v = .slice A1 k c1 ∧ wr.ownsRow w.heap.size 3 1 v k ((hidTo key place xs k).map (Value.int .i64)) ∧ Below w.heap.size w wr ∧ (0 < k → 0 ≤ key ∧ key ≤ 9999 ∧ 0 ≤ place ∧ place ≤ 1000 ∧ n ≤ 30) ∧ ∀ j, j < k → 0 ≤ xs.getD j 0 ∧ xs.getD j 0 ≤ 9999) (fun _ i _ => n - (intOf i).toNat)
  case atStart =>
    refine ⟨0, _, _, Nat.zero_le _, rfl, rfl, ?_, (Below.refl _ _).alloc (Nat.le_refl _) _, fun h => absurd h (Nat.lt_irrefl _), fun j h => absurd h (Nat.not_lt_zero _)⟩
    exact World.ownsRow_lit w #[] 0 (Nat.le_refl _) (by decide) rfl
  case round =>
    obtain ⟨k, A1, c1, hk, rfl, rfl, hown, hbel, hpos, hall⟩ := hrel
    by_cases hlt : k < n
    · obtain ⟨b, off, rfl, hbB, hc⟩ := hr.at_ (by omega)
      have hc1 : wr.cell? ⟨b, off + k, none⟩ = some (.int .i64 (xs.getD k 0)) := (hbel.cell (by exact Nat.lt_of_lt_of_le hbB hB)).trans (hc k hlt)
      obtain ⟨x, hx⟩ : ∃ x, xs.getD k 0 = x := ⟨_, rfl⟩
      rw [hx] at hc1
      have HX := Lib.hid hx
      have HL := Lib.hid hl
      have HP := Lib.hid hpos
      have HA := Lib.hid hall
      clear hx hl hpos hall hc hr
      have no : (¬ HideOk key place xs) → ∀ W, Below w.heap.size w W → OwnI w (hideAll key place xs) (.returned (.slice (some ⟨W.heap.size, 0, none⟩) 0 0)) (W.alloc (.cells #[] 3)) := by
        intro h W hW
        rw [hideAll_no h]
        exact ownI_of (ys := []) rfl (World.ownsRow_lit W #[] 0 hW.size (by decide) rfl) (hW.alloc hW.size _)
      by_cases hp : inB place 0 1000 = true
      · have hp' := inB_t.1 hp
        obtain ⟨hp1, hp2⟩ := hp'
        by_cases h30 : n ≤ 30
        · by_cases hy : hideValue key (place + (k : Int)) x < 0
          · have hno : ¬ HideOk key place xs := by
              rintro ⟨a1, a2, a3, a4, a5, a6⟩
              have := a6 k (by have := HL.out; omega)
              rw [HX.out] at this
              have := hideValue_ge (key := key) (place := place + (k : Int)) (v := x)
              omega
            have HN := Lib.hid (no hno)
            clear no hno
            go_wp2_with (first | (go_at_call 15; refine (l1In_c _ _ _ _).mono ?_; rintro e w' ⟨rfl, rfl⟩) | (go_at_call 16; refine (hideValue_spec _ _ _ _).mono ?_; rintro e w' ⟨rfl, rfl⟩))
            go_ret
            exact HN.out _ hbel
          · have hy' := hideValue_ge.1 (show 0 ≤ hideValue key (place + (k : Int)) x from by omega)
            have HB := Lib.hid hbel
            have hsz := hbel.size
            clear no
            go_wp2_with (first | (go_at_call 15; refine (l1In_c _ _ _ _).mono ?_; rintro e w' ⟨rfl, rfl⟩) | (go_at_call 16; refine (hideValue_spec _ _ _ _).mono ?_; rintro e w' ⟨rfl, rfl⟩) | (at_builtin; refine wpList_appI rfl rfl rfl hown rfl (by omega) hsz ?_; rintro g2 c2 w2 hown2 hg2 hge2))
            go_roundw
            case rel =>
              refine ⟨k + 1, _, _, by omega, by go_num, rfl, ?_, below_app HB.out hown HB.out.size hg2, fun _ => by omega, fun j hj => ?_⟩
              · rw [hidTo_succ, HX.out]; exact hown2
              · by_cases e : j = k
                · subst e; rw [HX.out]; omega
                · exact HA.out j (by omega)
            case measure => simp [intOf]; omega
        · have hno : ¬ HideOk key place xs := by
            rintro ⟨a1, a2, a3, a4, a5, a6⟩
            have := HL.out; omega
          have HN := Lib.hid (no hno)
          clear no hno
          go_wp2_with (go_at_call 15; refine (l1In_c _ _ _ _).mono ?_; rintro e w' ⟨rfl, rfl⟩)
          go_ret
          exact HN.out _ hbel
      · have hp : inB place 0 1000 = false := by simpa using hp
        have hp' := inB_f.1 hp
        have hno : ¬ HideOk key place xs := by
          rintro ⟨a1, a2, a3, a4, a5, a6⟩
          omega
        have HN := Lib.hid (no hno)
        clear no hno
        go_wp2_with (go_at_call 15; refine (l1In_c _ _ _ _).mono ?_; rintro e w' ⟨rfl, rfl⟩)
        go_ret
        exact HN.out _ hbel
    · have hkn : k = n := by omega
      subst hkn
      have hfin : hideAll key place xs = hidTo key place xs k := by
        by_cases h0 : 0 < k
        · have := hpos h0
          rw [hideAll_ok ⟨by omega, by omega, by omega, by omega, by omega, fun i hi => hall i (by omega)⟩, hl]
        · have h0' : k = 0 := by omega
          subst h0'
          rw [List.eq_nil_of_length_eq_zero hl, hideAll_nil]; rfl
      have HF := Lib.hid hfin
      clear hfin hpos hall
      go_wp2
      go_ret
      rw [HF.out]
      exact ownI_of (hidTo_len _ _ _ _) hown hbel
theorem hideAll_impl {A : Option Addr} {n c B : Nat} {key place : Int} {xs : List Int} {w : World} (hr : RdI .i64 w B A n xs) (hB : B ≤ w.heap.size) (hn : n ≤ 1048576) :
    Calls Try.prog 7 #[.int .i64 key, .int .i64 place, .slice A n c] w (OwnI w (hideAll key place xs)) := by
  have hl := hr.len
  by_cases hcond : 0 ≤ key ∧ key ≤ 9999 ∧ 0 ≤ place ∧ place ≤ 1000 ∧ n ≤ 30
  · obtain ⟨q1, q2, q3, q4, q5⟩ := hcond
    obtain ⟨i0, hi, hz0, hz1, hz2⟩ := info_parts infoInt
    have hmk : ∀ W : World, (Instr.makeSlice 22 (.int .i64 (n : Int)) (.int .i64 (n : Int))).run Try.prog W = .ok (.slice (some ⟨W.heap.size, 0, none⟩) n n) (W.alloc (.cells (cellsI (List.replicate n 0)) 3)) := by
      intro W
      have := run_make (P := Try.prog) W 22 3 i0 (.int .i64 0) Try.underlying22 hi hz0 .i64 .i64 n n (by omega) (by omega) (by rw [hz2]; omega) (by omega)
      rw [this, hz1]
      simp only [Int.toNat_natCast, Nat.mul_one]
      rw [← cellsI_zero]
      rfl
    go_enter Try.func7, Try.ntmps7
    go_wp2
    go_loopw [34] (fun i wr => ∃ k : Nat, k ≤ n ∧ i = .int .i64 k ∧ RowI wr w.heap.size (hidTo key place xs k ++ List.replicate (n - k) 0) ∧ Below w.heap.size w wr ∧ ∀ j, j < k → 0 ≤ xs.getD j 0 ∧ xs.getD j 0 ≤ 9999) (fun i _ => n - (intOf i).toNat)
    case atStart => exact ⟨0, Nat.zero_le _, rfl, Blk.new _ _ _, (Below.refl _ _).alloc (Nat.le_refl _) _, fun j h => absurd h (Nat.not_lt_zero _)⟩
    case round =>
      obtain ⟨k, hk, rfl, hrow, hbel, hall⟩ := hrel
      by_cases hlt : k < n
      · obtain ⟨b, off, rfl, hbB, hc⟩ := hr.at_ (by omega)
        have hc1 : wr.cell? ⟨b, off + k, none⟩ = some (.int .i64 (xs.getD k 0)) := (hbel.cell (by exact Nat.lt_of_lt_of_le hbB hB)).trans (hc k hlt)
        have hc2 := (Blk.cell hrow k).trans (cellsI_get _ k (by rw [List.length_append, hidTo_len, List.length_replicate]; omega))
        have hf := Blk.frozen hrow k
        obtain ⟨x, hx⟩ : ∃ x, xs.getD k 0 = x := ⟨_, rfl⟩
        rw [hx] at hc1
        have hset : RowI (wr.setCell ⟨w.heap.size, k, none⟩ (.int .i64 (hideValue key (place + (k : Int)) x))) w.heap.size (hidTo key place xs (k + 1) ++ List.replicate (n - (k + 1)) 0) := by
          have e : (hidTo key place xs k ++ List.replicate (n - k) 0).set k (hideValue key (place + (k : Int)) x) = hidTo key place xs (k + 1) ++ List.replicate (n - (k + 1)) 0 := by
            rw [List.set_append_right _ _ (by rw [hidTo_len]; omega), hidTo_len, Nat.sub_self, show n - k = (n - (k + 1)) + 1 from by omega, List.replicate_succ, List.set_cons_zero, hidTo_succ, hx, List.append_assoc]
            rfl
          rw [← e]
          unfold RowI
          rw [← cellsI_set]
          exact Blk.set_ hrow k _
        have hc3 : (wr.setCell ⟨w.heap.size, k, none⟩ (.int .i64 (hideValue key (place + (k : Int)) x))).cell? ⟨w.heap.size, k, none⟩ = some (.int .i64 (hideValue key (place + (k : Int)) x)) := by
          have hlen : k < (hidTo key place xs k ++ List.replicate (n - k) 0).length := by rw [List.length_append, hidTo_len, List.length_replicate]; omega
          rw [Blk.cell (Blk.set_ hrow k _) k, cellsI_set, cellsI_get _ k (by rw [List.length_set]; exact hlen), getD_set_eq _ _ _ hlen]
        have HS := Lib.hid hset
        have HX := Lib.hid hx
        have HL := Lib.hid hl
        have HA := Lib.hid hall
        have HB := Lib.hid hbel
        generalize (hidTo key place xs k ++ List.replicate (n - k) 0).getD k 0 = y0 at *
        clear hx hl hall hc hr hset hrow hmk hi hz0 hz1 hz2 hbel
        by_cases hy : hideValue key (place + (k : Int)) x < 0
        · have hno : hideAll key place xs = [] := by
            apply hideAll_no
            rintro ⟨a1, a2, a3, a4, a5, a6⟩
            have := a6 k (by have := HL.out; omega)
            rw [HX.out] at this
            have := hideValue_ge (key := key) (place := place + (k : Int)) (v := x)
            omega
          have HN := Lib.hid hno
          clear hno
          go_wp2_with (go_at_call 17; refine (hideValue_impl _ _ _ _).mono ?_; rintro e w' ⟨rfl, rfl⟩)
          go_ret
          rw [HN.out]
          exact ownI_of (ys := []) rfl (World.ownsRow_nil _ _ _ _) (HB.out.setCell (p := ⟨w.heap.size, k, none⟩) (Nat.le_refl _) _)
        · have hy' := hideValue_ge.1 (show 0 ≤ hideValue key (place + (k : Int)) x from by omega)
          go_wp2_with (go_at_call 17; refine (hideValue_impl _ _ _ _).mono ?_; rintro e w' ⟨rfl, rfl⟩)
          go_roundw
          case rel =>
            refine ⟨k + 1, by omega, by go_num, HS.out, HB.out.setCell (p := ⟨w.heap.size, k, none⟩) (Nat.le_refl _) _, fun j hj => ?_⟩
            by_cases e : j = k
            · subst e; rw [HX.out]; omega
            · exact HA.out j (by omega)
          case measure => simp [intOf]; omega
      · have hkn : k = n := by omega
        subst hkn
        have hfin : hideAll key place xs = hidTo key place xs k := by
          rw [hideAll_ok ⟨by omega, by omega, by omega, by omega, by omega, fun i hi => hall i (by omega)⟩, hl]
        rw [Nat.sub_self, List.replicate_zero, List.append_nil] at hrow
        have how := RowI.own (base := w.heap.size) hrow (Nat.le_refl _) (by rw [hidTo_len]; unfold maxLen; omega)
        rw [hidTo_len] at how
        have HF := Lib.hid hfin
        clear hfin hall hmk hi hz0 hz1 hz2 hrow
        go_wp2
        go_ret
        rw [HF.out]
        exact ownI_of (hidTo_len _ _ _ _) how hbel
  · have hno : hideAll key place xs = [] := hideAll_no (by rintro ⟨a1, a2, a3, a4, a5, a6⟩; omega)
    have HN := Lib.hid hno
    clear hno hl
    by_cases q1 : key < 0
    · go_enter Try.func7, Try.ntmps7
      go_wp2
      go_ret
      rw [HN.out]
      exact ownI_of (ys := []) rfl (World.ownsRow_nil _ _ _ _) (Below.refl _ _)
    by_cases q2 : 9999 < key
    · go_enter Try.func7, Try.ntmps7
      go_wp2
      go_ret
      rw [HN.out]
      exact ownI_of (ys := []) rfl (World.ownsRow_nil _ _ _ _) (Below.refl _ _)
    by_cases q3 : place < 0
    · go_enter Try.func7, Try.ntmps7
      go_wp2
      go_ret
      rw [HN.out]
      exact ownI_of (ys := []) rfl (World.ownsRow_nil _ _ _ _) (Below.refl _ _)
    by_cases q4 : 1000 < place
    · go_enter Try.func7, Try.ntmps7
      go_wp2
      go_ret
      rw [HN.out]
      exact ownI_of (ys := []) rfl (World.ownsRow_nil _ _ _ _) (Below.refl _ _)
    have q5 : 30 < n := by omega
    go_enter Try.func7, Try.ntmps7
    go_wp2
    go_ret
    rw [HN.out]
    exact ownI_of (ys := []) rfl (World.ownsRow_nil _ _ _ _) (Below.refl _ _)
end Go.Proofs.Ytggagpojgoimoab
