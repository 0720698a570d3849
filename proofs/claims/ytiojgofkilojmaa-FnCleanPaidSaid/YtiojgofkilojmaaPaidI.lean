/- Contract of the program's CleanPaid: slices.SortStableFunc at up to twelve blocks under the closure, and the loop behind it. Condition: at most 2^20 entries. -/
import Derived.Test.YtiojgofkilojmaaLay
import Derived.Test.YtiojgofkilojmaaPaidSort
import Derived.BigQuiet
namespace Go.Proofs.Ytiojgofkilojmaa
open Go.ChangeShapes Go.WideShapes Go.ChangeAt Go.RowKit Go.Shelf
set_option linter.unusedVariables false
set_option linter.unusedSimpArgs false

def cmpI (a b : Int) : Int := if a < b then -1 else if b < a then 1 else 0
theorem isNaN_c (x : Int) (w : World) : Calls Try.prog 31 #[.int .i64 x] w fun e w' => e = .returned (.bool false) ∧ w = w' := by
  go_enter Try.func31, Try.ntmps31
  go_wp2
  go_ret
  exact ⟨ret_bool (by simp), rfl⟩
theorem compare_c (x y : Int) (w : World) : Calls Try.prog 29 #[.int .i64 x, .int .i64 y] w fun e w' => e = .returned (.int .i64 (cmpI x y)) ∧ w = w' := by
  by_cases h1 : x < y
  · go_enter Try.func29, Try.ntmps29
    go_wp2_with (go_at_call 31; refine (isNaN_c _ _).mono ?_; rintro e w' ⟨rfl, rfl⟩)
    go_ret
    exact ⟨ret_int (by unfold cmpI; rw [if_pos h1]), rfl⟩
  · by_cases h2 : y < x
    · go_enter Try.func29, Try.ntmps29
      go_wp2_with (go_at_call 31; refine (isNaN_c _ _).mono ?_; rintro e w' ⟨rfl, rfl⟩)
      go_ret
      exact ⟨ret_int (by unfold cmpI; rw [if_neg (by omega), if_pos (by omega)]), rfl⟩
    · go_enter Try.func29, Try.ntmps29
      go_wp2_with (go_at_call 31; refine (isNaN_c _ _).mono ?_; rintro e w' ⟨rfl, rfl⟩)
      go_ret
      exact ⟨ret_int (by unfold cmpI; rw [if_neg (by omega), if_neg (by omega)]), rfl⟩
theorem closure_c {A : Option Addr} {n c B g0 x y : Nat} {us : List Int} {w : World} (hg : w.cell? ⟨g0, 0, none⟩ = some (.slice A n c)) (hr : RdI .i64 w B A n us) (hx : x < n) (hy : y < n) :
    Calls Try.prog 28 #[.int .i64 (x : Nat), .int .i64 (y : Nat), .pointer (some ⟨g0, 0, none⟩)] w fun e w' => e = .returned (.int .i64 (cmpI (us.getD x 0) (us.getD y 0))) ∧ ∃ q, w' = w.drewN q := by
  obtain ⟨b, off, rfl, hbB, hc⟩ := hr.at_ (by omega)
  have h1 := hc x hx
  have h2 := hc y hy
  generalize us.getD x 0 = p at *
  generalize us.getD y 0 = q at *
  clear hc hr
  go_enter Try.func28, Try.ntmps28
  go_wp2_with fail
  go_quiet ((go_at_call 29; first | exact quiet_left (compare_c _ _ _) | exact quiet_add_left (compare_c _ _ _)))
  go_wp2
  go_ret
  exact ⟨rfl, _, rfl⟩

def encF {m : Nat} (x : Fin (m + 1)) : Value := .int .i64 (x.val : Int)
theorem encF_one {m : Nat} : OneCell (encF (m := m)) := fun x => rfl
def listF {m : Nat} (d : Array (Fin (m + 1))) : List Int := d.toList.map fun x => (x.val : Int)
theorem rowI_put {w : World} {g m : Nat} {xs : List Int} (h : RowI w g xs) (d : Array (Fin (m + 1))) (hl : xs.length = d.size) (q : Nat) : RowI ((Go.Sort.putRow encF w g 0 d).drewN q) g (listF d) := by
  show (w.heap.modify g (Go.Sort.onCells (Go.Sort.putCells encF 0 d)))[g]? = _
  have hh : w.heap[g]? = some (.cells (cellsI xs) 3 (0, 0)) := h
  rw [Array.getElem?_modify, if_pos rfl, hh]
  show some (Obj.cells (Go.Sort.putCells encF 0 d (cellsI xs)) 3 (0, 0)) = _
  congr 2
  apply Array.ext
  · simp [Go.Sort.putCells, cellsI, listF, hl]
  · intro i h1 h2
    have h3 : i < d.size := by simpa [cellsI, listF] using h2
    simp [Go.Sort.putCells, cellsI, listF, h3, encF]
theorem put_grown {w : World} {g m : Nat} (d : Array (Fin (m + 1))) (q : Nat) : w.grownBy ((Go.Sort.putRow encF w g 0 d).drewN q) (some g) := by
  refine ⟨rfl, rfl, rfl, ?_, fun i hi hne => ?_⟩
  · show w.heap.size ≤ (w.heap.modify g (Go.Sort.onCells (Go.Sort.putCells encF 0 d))).size
    simp
  · show (w.heap.modify g (Go.Sort.onCells (Go.Sort.putCells encF 0 d)))[i]? = _
    rw [Array.getElem?_modify, if_neg (fun h => hne (by rw [h]))]
theorem holds_row {w : World} {g m : Nat} {d : Array (Fin (m + 1))} (h : RowI w g (listF d)) : Go.Sort.Holds encF w g 0 d := by
  intro j hj
  rw [Nat.zero_add]
  refine ⟨?_, Blk.frozen h j⟩
  rw [Blk.cell h j, cellsI_get _ j (by simpa [listF] using hj)]
  simp [listF, encF, hj, List.getD_eq_getElem?_getD]
def idI (n : Nat) : List Int := (List.range n).map fun (i : Nat) => (i : Int)
theorem idF_list (m : Nat) : listF (idF m) = idI (m + 1) := by
  apply List.ext_getElem
  · simp [listF, idF, idI]
  · intro i h1 h2
    simp only [listF, idI, idF, List.getElem_map, Array.getElem_toList, Array.getElem_ofFn, List.getElem_range]
def ordI (us : List Int) : List Int := (ordL us).map fun (i : Nat) => (i : Int)
theorem sortF_ordI {m : Nat} {us : List Int} (hl : us.length = m + 1) : listF (sortF (m := m) us) = ordI us := by
  unfold listF ordI
  rw [← sortF_list us hl, List.map_map]
  rfl
theorem ordI_len (us : List Int) : (ordI us).length = us.length := by simp [ordI, ordL_len]
theorem ordI_getD {us : List Int} {t : Nat} (h : t < us.length) : (ordI us).getD t 0 = (((ordL us).getD t 0 : Nat) : Int) := by
  unfold ordI
  rw [List.getD_eq_getElem?_getD, List.getElem?_map, List.getElem?_eq_getElem (by rw [ordL_len]; exact h), getD_ordL h]
  rfl
theorem ordI_nil : ordI [] = [] := by simp [ordI, ordL]
theorem ltOf_F {m : Nat} (us : List Int) : ltOf (fun x y : Fin (m + 1) => cmpI (us.getD x.val 0) (us.getD y.val 0)) = ltF us := by
  funext x y
  unfold ltOf ltF cmpI
  rw [decide_eq_decide]
  show (if us.getD x.val 0 < us.getD y.val 0 then (-1 : Int) else if us.getD y.val 0 < us.getD x.val 0 then 1 else 0) < 0 ↔ _
  split <;> rename_i h1
  · exact ⟨fun _ => h1, fun _ => by omega⟩
  · split <;> exact ⟨fun h => absurd h (by omega), fun h => absurd h h1⟩
theorem entersP (args : Array Value) (w : World) : (callFunc 28 args).run Try.prog w = .ok (.enter 28 args) w := enters_of Try.func28 (by kernel_rfl) rfl args w

theorem ins_c {A : Option Addr} {n c B g0 g : Nat} {us : List Int} {w : World} (hg : w.cell? ⟨g0, 0, none⟩ = some (.slice A n c)) (hr : RdI .i64 w B A n us) (hB : B ≤ g) (hlt : g0 < g) (hrow : RowI w g (idI n)) (hn : n ≤ 12) :
    Calls Try.prog 32 #[.slice (some ⟨g, 0, none⟩) n n, .int .i64 0, .int .i64 n, .func (.func 28) #[] #[.pointer (some ⟨g0, 0, none⟩)]] w fun e w' => e = .returned (.tuple #[]) ∧ RowI w' g (ordI us) ∧ w.grownBy w' (some g) := by
  have hl := hr.len
  rcases n with _ | m
  · obtain rfl : us = [] := List.eq_nil_of_length_eq_zero hl
    go_enter Try.func32, Try.ntmps32
    go_wp2
    refine wp_loop_rounds 1 ?_
    rw [rounds_succ]
    go_wp2
    go_end0
    exact ⟨rfl, by rw [ordI_nil]; exact hrow, World.grownBy.refl _ _⟩
  · have hrow' := hrow
    rw [← idF_list] at hrow'
    have hcmp : CmpReads Try.prog 28 #[.pointer (some ⟨g0, 0, none⟩)] encF (fun x y : Fin (m + 1) => cmpI (us.getD x.val 0) (us.getD y.val 0)) g 0 (idF m).size w := by
      intro k os dk hdk x y
      have hbl : Below g w (sortWorld encF w g 0 k dk os) := by
        refine ⟨rfl, rfl, rfl, ?_, fun i hi => ?_⟩
        · show w.heap.size ≤ ((w.heap.modify g (Go.Sort.onCells (Go.Sort.putCells encF 0 dk))) ++ os).size
          simp
        · show ((w.heap.modify g (Go.Sort.onCells (Go.Sort.putCells encF 0 dk))) ++ os)[i]? = _
          have : g < w.heap.size := Blk.lt hrow
          rw [Array.getElem?_append_left (by simp; omega), Array.getElem?_modify, if_neg (by omega)]
      exact closure_c ((hbl.cell hlt).trans hg) ((hr.mono hB).below hbl) x.isLt y.isLt
    have hcon := Any.insertionSortCmpFunc_one insLay encF encF_one _ 28 #[.pointer (some ⟨g0, 0, none⟩)] g 0 (m + 1) 0 (m + 1) (idF m) w entersP hcmp (holds_row hrow') (Nat.zero_le _) (by rw [idF_size]; exact Nat.le_refl _) (by rw [idF_size]; omega)
    rw [idF_size] at hcon
    change Calls Try.prog 32 _ _ _ at hcon
    refine hcon.mono ?_
    rintro e w' ⟨he, q, rfl⟩
    refine ⟨he, ?_, put_grown _ q⟩
    have e1 : Go.Sort.insertionSort (ltOf fun x y : Fin (m + 1) => cmpI (us.getD x.val 0) (us.getD y.val 0)) (idF m) 0 (m + 1) = sortF us := by rw [ltOf_F]; rfl
    rw [e1, ← sortF_ordI hl]
    exact rowI_put hrow' _ (by rw [sortF_size]; simp [listF, idF]) q
theorem stable_c {A : Option Addr} {n c B g0 g : Nat} {us : List Int} {w : World} (hg : w.cell? ⟨g0, 0, none⟩ = some (.slice A n c)) (hr : RdI .i64 w B A n us) (hB : B ≤ g) (hlt : g0 < g) (hrow : RowI w g (idI n)) (hn : n ≤ 12) :
    Calls Try.prog 30 #[.slice (some ⟨g, 0, none⟩) n n, .int .i64 n, .func (.func 28) #[] #[.pointer (some ⟨g0, 0, none⟩)]] w fun e w' => e = .returned (.tuple #[]) ∧ RowI w' g (ordI us) ∧ w.grownBy w' (some g) := by
  have h20 : ((n : Int) < 20) := by omega
  go_enter Try.func30, Try.ntmps30
  go_wp2_with fail
  refine wp_loop_rounds 1 ?_
  rw [rounds_succ]
  go_wp2_with fail
  refine (ins_c hg hr hB hlt hrow hn).mono ?_
  rintro e w' ⟨rfl, h1, h2⟩
  go_wp2_with fail
  refine wp_loop_rounds 1 ?_
  rw [rounds_succ]
  go_wp2_with fail
  go_end0
  exact ⟨rfl, h1, h2⟩
theorem sort_c {A : Option Addr} {n c B g0 g : Nat} {us : List Int} {w : World} (hg : w.cell? ⟨g0, 0, none⟩ = some (.slice A n c)) (hr : RdI .i64 w B A n us) (hB : B ≤ g) (hlt : g0 < g) (hrow : RowI w g (idI n)) (hn : n ≤ 12) :
    Calls Try.prog 27 #[.slice (some ⟨g, 0, none⟩) n n, .func (.func 28) #[] #[.pointer (some ⟨g0, 0, none⟩)]] w fun e w' => e = .returned (.tuple #[]) ∧ RowI w' g (ordI us) ∧ w.grownBy w' (some g) := by
  go_enter Try.func27, Try.ntmps27
  go_wp2_with fail
  refine (stable_c hg hr hB hlt hrow hn).mono ?_
  rintro e w' ⟨rfl, h1, h2⟩
  go_wp2_with fail
  go_end0
  exact ⟨rfl, h1, h2⟩

theorem ownsRow_base1 {w : World} {base base' e size n : Nat} {v : Value} {xs : List Value} (h : w.ownsRow base e size v n xs) (hb : base' ≤ base) : w.ownsRow base' e size v n xs := by
  refine ⟨h.1, ?_⟩
  rcases h.2 with h' | ⟨g, cap, cur, h1, h2, h3⟩
  · exact .inl h'
  · exact .inr ⟨g, cap, cur, h1, by omega, h3⟩
theorem ownIx_nil {w w' : World} {ys : List Int} {v : Value} (h : ys = []) (hb : Below w.heap.size w w') : OwnIx w ys v (.returned (.tuple #[.slice none 0 0, v])) w' := by
  subst h; exact ⟨none, 0, rfl, World.ownsRow_nil _ _ _ _, hb⟩
def UsedTo (us : List Int) (k : Nat) : Prop := ∀ i, i < k → 0 ≤ us.getD i 0 ∧ us.getD i 0 ≤ 4
/-- the first k filled with their own places, zeros behind -/
def fillTo (n k : Nat) : List Int := upTo (idI n) k
theorem idI_len (n : Nat) : (idI n).length = n := by simp [idI]
theorem idI_getD {n i : Nat} (h : i < n) : (idI n).getD i 0 = i := by simp [idI, List.getD_eq_getElem?_getD, h]
set_option maxHeartbeats 2000000 in
theorem cleanPaid_impl {A : Option Addr} {n c B : Nat} {us : List Int} {cr : Int} {w : World} (hr : RdI .i64 w B A n us) (hB : B ≤ w.heap.size) (hn : n ≤ 1048576) :
    Calls Try.prog 15 #[.slice A n c, .int .i64 cr] w (OwnIx w (cleanPaid us cr) (.int .i64 (paidLeft us cr))) := by
  have HL := Lib.hid hr.len
  by_cases h12 : 12 < n
  · have HE := Lib.hid (paid_no (us := us) (c := cr) (fun h => by have := h.1.1; have := HL.out; omega))
    go_enter Try.func15, Try.ntmps15
    go_wp2
    go_ret2
    rw [HE.out.2]
    exact ownIx_nil HE.out.1 ((Below.refl _ _).alloc (Nat.le_refl _) _)
  by_cases hc0 : cr < 0
  · have HE := Lib.hid (paid_no (us := us) (c := cr) (fun h => by have := h.2; omega))
    go_enter Try.func15, Try.ntmps15
    go_wp2
    go_ret2
    rw [HE.out.2]
    exact ownIx_nil HE.out.1 ((Below.refl _ _).alloc (Nat.le_refl _) _)
  by_cases hc1 : 100 < cr
  · have HE := Lib.hid (paid_no (us := us) (c := cr) (fun h => by have := h.2; omega))
    go_enter Try.func15, Try.ntmps15
    go_wp2
    go_ret2
    rw [HE.out.2]
    exact ownIx_nil HE.out.1 ((Below.refl _ _).alloc (Nat.le_refl _) _)
  have b1 : Below w.heap.size w (w.alloc (.cells #[.slice A n c] 22)) := (Below.refl _ _).alloc (Nat.le_refl _) _
  have k1 : (w.alloc (.cells #[.slice A n c] 22)).cell? ⟨w.heap.size, 0, none⟩ = some (.slice A n c) := (Blk.new w 22 #[.slice A n c]).cell 0
  have s1 : (w.alloc (.cells #[.slice A n c] 22)).heap.size = w.heap.size + 1 := by simp
  have hr1 := (hr.mono hB).below b1
  have B1 := Lib.hid b1
  have S1 := Lib.hid s1
  go_enter Try.func15, Try.ntmps15
  go_wp2_with fail
  clear b1 s1
  generalize w.alloc (.cells #[.slice A n c] 22) = w1 at *
  go_loop [26] (fun i => ∃ k : Nat, k ≤ n ∧ i = .int .i64 k ∧ UsedTo us k) (fun i => n - (intOf i).toNat)
  case atStart => exact ⟨0, Nat.zero_le _, rfl, fun i h => absurd h (Nat.not_lt_zero _)⟩
  case round =>
    obtain ⟨k, hk, rfl, hto⟩ := hrel
    have HT := Lib.hid hto
    clear hto
    by_cases hlt : k < n
    · obtain ⟨b, off, rfl, hbB, hc⟩ := hr1.at_ (by omega)
      have hc1 := hc k hlt
      obtain ⟨x, hx⟩ : ∃ x, us.getD k 0 = x := ⟨_, rfl⟩
      rw [hx] at hc1
      have HX := Lib.hid hx
      clear hx hc hr1 hr
      have HNO := Lib.hid (show ¬ (0 ≤ x ∧ x ≤ 4) → cleanPaid us cr = [] ∧ paidLeft us cr = -1 from fun h => paid_no (fun hok => h (by have := hok.1.2 k (by have := HL.out; omega); rw [HX.out] at this; exact this)))
      by_cases h1 : x < 0
      · have HE := Lib.hid (HNO.out (by omega))
        go_wp2
        go_ret2
        rw [HE.out.2]
        exact ownIx_nil HE.out.1 B1.out
      by_cases h2 : 4 < x
      · have HE := Lib.hid (HNO.out (by omega))
        go_wp2
        go_ret2
        rw [HE.out.2]
        exact ownIx_nil HE.out.1 B1.out
      go_wp2
      go_round
      case rel => exact ⟨k + 1, by omega, by go_num, fun i hi => by
        by_cases e : i = k
        · subst e; rw [HX.out]; omega
        · exact HT.out i (by omega)⟩
      case measure => simp [intOf]; omega
    · obtain rfl : k = n := by omega
      have hok : PaidOk us cr := ⟨⟨by have := HL.out; omega, by rw [HL.out]; exact HT.out⟩, by omega, by omega⟩
      have HOK := Lib.hid hok
      clear hok
      have hmk := make_ints k (by omega) w1
      have b2 : Below w1.heap.size w1 (w1.alloc (.cells (cellsI (List.replicate k 0)) 3)) := (Below.refl _ _).alloc (Nat.le_refl _) _
      have r2 : RowI (w1.alloc (.cells (cellsI (List.replicate k 0)) 3)) w1.heap.size (fillTo k 0) := by
        unfold fillTo; rw [upTo_zero, idI_len]; exact Blk.new _ _ _
      have s2 : (w1.alloc (.cells (cellsI (List.replicate k 0)) 3)).heap.size = w1.heap.size + 1 := by simp
      have B2 := Lib.hid b2
      have R2 := Lib.hid r2
      have S2 := Lib.hid s2
      clear b2 r2 s2
      go_wp2_with fail
      clear hmk
      generalize w1.alloc (.cells (cellsI (List.replicate k 0)) 3) = w2 at *
      go_loopw [42] (fun i wr => ∃ j : Nat, j ≤ k ∧ i = .int .i64 j ∧ RowI wr w1.heap.size (fillTo k j) ∧ Below w1.heap.size w1 wr ∧ wr.heap.size = w1.heap.size + 1) (fun i _ => k - (intOf i).toNat)
      case atStart => exact ⟨0, Nat.zero_le _, rfl, R2.out, B2.out, S2.out⟩
      case round =>
        obtain ⟨j, hj, rfl, hrow, hbel, hsz⟩ := hrel
        by_cases hlt2 : j < k
        · have hc2 := (Blk.cell hrow j).trans (cellsI_get _ j (by unfold fillTo; rw [upTo_len _ _ (by rw [idI_len]; omega), idI_len]; omega))
          have hf := Blk.frozen hrow j
          have hset : RowI (wr.setCell ⟨w1.heap.size, j, none⟩ (.int .i64 (j : Int))) w1.heap.size (fillTo k (j + 1)) := by
            unfold fillTo
            rw [← upTo_succ _ j (by rw [idI_len]; omega), idI_getD hlt2]
            unfold RowI
            rw [← cellsI_set]
            exact Blk.set_ hrow j _
          have HSET := Lib.hid hset
          have HBEL := Lib.hid hbel
          have HSZ := Lib.hid hsz
          generalize (fillTo k j).getD j 0 = y at *
          clear hrow hbel hsz hset hr1 hr k1
          go_wp2
          go_roundw
          case rel => exact ⟨j + 1, by omega, by go_num, HSET.out, HBEL.out.setCell (Nat.le_refl _) _, by simpa [World.setCell] using HSZ.out⟩
          case measure => simp [intOf]; omega
        · obtain rfl : j = k := by omega
          have hrow' : RowI wr w1.heap.size (idI j) := by
            have := hrow
            unfold fillTo at this
            rw [show upTo (idI j) j = idI j from by have := upTo_all (idI j); rw [idI_len] at this; exact this] at this
            exact this
          clear hrow
          have k2 : wr.cell? ⟨w.heap.size, 0, none⟩ = some (.slice A j c) := (hbel.cell (by have := S1.out; exact show w.heap.size < w1.heap.size by omega)).trans k1
          have hr2 := (hr1.mono (show w.heap.size ≤ w1.heap.size by have := S1.out; omega)).below hbel
          go_wp2_with fail
          refine (sort_c k2 hr2 (Nat.le_refl _) (by have := S1.out; omega) hrow' (by omega)).mono ?_
          rintro e w3 ⟨rfl, hrow3, hg3⟩
          have hbel3 : Below w1.heap.size w1 w3 := hbel.grown hg3 (by omega) (fun q hq => by injection hq with hq; omega)
          have hs3 : w1.heap.size + 1 ≤ w3.heap.size := by have := hg3.size; omega
          have k3 : w3.cell? ⟨w.heap.size, 0, none⟩ = some (.slice A j c) := (hbel3.cell (by have := S1.out; exact show w.heap.size < w1.heap.size by omega)).trans k1
          have hr3 := (hr1.mono (show w.heap.size ≤ w1.heap.size by have := S1.out; omega)).below hbel3
          have BW3 := Lib.hid (B1.out.trans (hbel3.mono (show w.heap.size ≤ w1.heap.size by have := S1.out; omega)))
          have S3 := Lib.hid hs3
          have G1 := Lib.hid (show w.heap.size < w1.heap.size by have := S1.out; omega)
          generalize w1.heap.size = g1 at *
          generalize hg0 : w.heap.size = g0 at k3 ⊢
          have HG0 := Lib.hid hg0
          clear k1 k2 hr1 hr2 hbel hbel3 hs3 hg3 hrow' hsz hg0
          go_wp2_with fail
          go_loopw [10, 1, 55] (fun o cc i wr => ∃ (t : Nat) (A' : Option Addr) (c' : Nat), t ≤ j ∧ i = .int .i64 t ∧ o = .slice A' t c' ∧ cc = .int .i64 (creditAt us cr t) ∧ (∀ s, s < t → CanPay us cr s) ∧ wr.ownsRow w3.heap.size 3 1 (.slice A' t c') t ((takeI us t).map (Value.int .i64)) ∧ Below w3.heap.size w3 wr) (fun _ _ i _ => j - (intOf i).toNat)
          case atStart => exact ⟨0, none, 0, Nat.zero_le _, rfl, rfl, rfl, fun s h => absurd h (Nat.not_lt_zero _), by rw [takeI_zero]; exact World.ownsRow_nil _ _ _ _, Below.refl _ _⟩
          case round =>
            obtain ⟨t, A', c', ht, rfl, rfl, rfl, hcan, hown, hbl⟩ := hrel
            have HCAN := Lib.hid hcan
            have HOWN := Lib.hid hown
            have HBL := Lib.hid hbl
            have hg0s : g0 < w3.heap.size := by have := G1.out; have := HG0.out; have := S3.out; omega
            have HBASE := Lib.hid (show w.heap.size ≤ w3.heap.size from BW3.out.size)
            have hsz := hbl.size
            have hrng := creditAt_range HOK.out hcan
            by_cases hlt3 : t < j
            · have k4 := (hbl.cell hg0s).trans k3
              have hgt := S3.out
              have c1 := ((hbl.cell (show g1 < w3.heap.size by omega)).trans (Blk.cell hrow3 t)).trans (cellsI_get _ t (by rw [ordI_len, HL.out]; exact hlt3))
              rw [ordI_getD (by rw [HL.out]; exact hlt3)] at c1
              obtain ⟨b, off, rfl, hbB, hc⟩ := hr3.at_ (by omega)
              have hbs : b < w3.heap.size := by omega
              have hql : (ordL us).getD t 0 < j := by have := ordL_in (us := us) (t := t) (by rw [HL.out]; exact hlt3); rw [HL.out] at this; exact this
              have k6 := hc _ hql
              have c2 := (hbl.cell hbs).trans k6
              have hx0 := HOK.out.1.2 _ (show (ordL us).getD t 0 < us.length by rw [HL.out]; exact hql)
              have HN := Lib.hid (show creditAt us cr (t + 1) = creditAt us cr t - us.getD ((ordL us).getD t 0) 0 from rfl)
              have HSTOP := Lib.hid (show creditAt us cr t < us.getD ((ordL us).getD t 0) 0 → cleanPaid us cr = takeI us t ∧ paidLeft us cr = creditAt us cr t from fun h => paid_at HOK.out hcan (fun h2 => by have := h2.2; unfold costAt at this; omega))
              have HGO := Lib.hid (show us.getD ((ordL us).getD t 0) 0 ≤ creditAt us cr t → CanPay us cr t from fun h => ⟨by rw [HL.out]; exact hlt3, h⟩)
              have HT1 := Lib.hid (takeI_succ (us := us) (t := t) (by rw [HL.out]; exact hlt3))
              have HTL := Lib.hid (takeI_len (us := us) (t := t) (by rw [HL.out]; exact ht))
              generalize us.getD ((ordL us).getD t 0) 0 = x at *
              generalize (ordL us).getD t 0 = q at *
              generalize hcu : creditAt us cr t = cu at *
              have HCU := Lib.hid hcu
              clear hc hr3 hr hrow3 hcan hcu
              by_cases hpay : cu < x
              · have HE := Lib.hid (HSTOP.out hpay)
                clear hown hbl
                go_wp2
                go_ret2
                rw [HE.out.1, HE.out.2]
                exact ownIx_of HTL.out (ownsRow_base1 HOWN.out HBASE.out) (BW3.out.trans (HBL.out.mono HBASE.out))
              · have HPAY := Lib.hid (HGO.out (by omega))
                go_wp2_with (at_builtin; refine wpList_appI (y := (q : Int)) rfl rfl rfl hown rfl (by omega) hsz ?_; rintro g' c'' w4 ho hg hbg; have hb4 := below_app hbl hown hsz hg; have k5 := (hb4.cell hg0s).trans k3; have k7 := (hb4.cell hbs).trans k6; have HO := Lib.hid ho; have HB4 := Lib.hid hb4; clear ho hg hb4 hbl hown c1 c2 k4 k3 k6)
                go_roundw
                case rel => exact ⟨t + 1, _, c'', by omega, by go_num, rfl, by rw [HN.out], fun s hs => by
                    by_cases e : s = t
                    · subst e; exact HPAY.out
                    · exact HCAN.out s (by omega), by rw [HT1.out]; exact HO.out, HB4.out⟩
                case measure => simp [intOf]; omega
            · obtain rfl : t = j := by omega
              have HE := Lib.hid (paid_at HOK.out hcan (fun h => by have := h.1; have := HL.out; omega))
              have HTL := Lib.hid (takeI_len (us := us) (t := t) (by rw [HL.out]; exact Nat.le_refl _))
              generalize hcu : creditAt us cr t = cu at *
              clear hown hbl hcan hcu hr3 hr
              go_wp2
              go_ret2
              rw [HE.out.1, HE.out.2]
              exact ownIx_of HTL.out (ownsRow_base1 HOWN.out HBASE.out) (BW3.out.trans (HBL.out.mono HBASE.out))
end Go.Proofs.Ytiojgofkilojmaa
