/- slices.SortFunc at the requests: the row holds them in order; the closure of SortAsks; slices.Clone at requests. Condition: a length below 2^20. -/
import Derived.Test.YtmkmobgmlhioaaaLay
import Derived.Test.YtmkmobgmlhioaaaAskS
import Derived.Shelf.SlSortCmp.NoneTotal
import Derived.Deep.RegionHeld3
import Derived.Laws.AppendOwnNone
import Derived.Lib.SliceRun
namespace Go.Proofs.Ytmkmobgmlhioaaa
open Go.ChangeShapes Go.WideShapes Go.ChangeAt Go.RowKit
set_option linter.unusedVariables false
set_option linter.unusedSimpArgs false

/-! ### the order of requests -/
def cmpI (a b : Int) : Int := if a < b then -1 else if b < a then 1 else 0
def orI (x y : Int) : Int := if x ≠ 0 then x else y
def cmpP (x y : Int × Int) : Int := orI (cmpI x.1 y.1) (cmpI x.2 y.2)
def ltP (x y : Int × Int) : Bool := decide (cmpP x y < 0)
theorem ltP_iff (x y : Int × Int) : ltP x y = true ↔ (x.1 < y.1 ∨ x.1 = y.1 ∧ x.2 < y.2) := by
  unfold ltP cmpP orI cmpI
  rw [decide_eq_true_iff]
  by_cases h1 : x.1 < y.1
  · simp [h1]
  · by_cases h2 : y.1 < x.1
    · simp [h1, h2]; omega
    · have e : x.1 = y.1 := by omega
      by_cases h3 : x.2 < y.2
      · simp [h1, h2, h3, e]
      · by_cases h4 : y.2 < x.2 <;> simp [h1, h2, h3, h4, e]
theorem ltP_no (x y : Int × Int) : ltP x y = false ↔ ¬ (x.1 < y.1 ∨ x.1 = y.1 ∧ x.2 < y.2) := by
  rw [← ltP_iff, Bool.not_eq_true]
theorem swoP : Go.Sort.SWO ltP where
  irrefl x := by rw [ltP_no]; omega
  trans x y z h1 h2 := by rw [ltP_iff] at *; omega
  ntrans x y z h1 h2 := by rw [ltP_no] at *; omega
theorem totP (x y : Int × Int) (h1 : ltP x y = false) (h2 : ltP y x = false) : x = y := by
  rw [ltP_no] at h1 h2
  exact Prod.ext (by omega) (by omega)
/-- the requests in order -/
def sortP (xs : List (Int × Int)) : List (Int × Int) := xs.mergeSort fun x y => !ltP y x
theorem sortP_perm (xs : List (Int × Int)) : (sortP xs).Perm xs := List.mergeSort_perm _ _
theorem sortP_len (xs : List (Int × Int)) : (sortP xs).length = xs.length := (sortP_perm xs).length_eq

/-! ### the closure -/
theorem isNaN_c (x : Int) (w : World) : Calls Try.prog 50 #[.int .i64 x] w fun e w' => e = .returned (.bool false) ∧ w = w' := by
  go_enter Try.func50, Try.ntmps50
  go_wp2
  go_ret
  exact ⟨ret_bool (by simp), rfl⟩
theorem compare_c (x y : Int) (w : World) : Calls Try.prog 45 #[.int .i64 x, .int .i64 y] w fun e w' => e = .returned (.int .i64 (cmpI x y)) ∧ w = w' := by
  by_cases h1 : x < y
  · go_enter Try.func45, Try.ntmps45
    go_wp2_with (go_at_call 50; refine (isNaN_c _ _).mono ?_; rintro e w' ⟨rfl, rfl⟩)
    go_ret
    exact ⟨ret_int (by unfold cmpI; rw [if_pos h1]), rfl⟩
  · by_cases h2 : y < x
    · go_enter Try.func45, Try.ntmps45
      go_wp2_with (go_at_call 50; refine (isNaN_c _ _).mono ?_; rintro e w' ⟨rfl, rfl⟩)
      go_ret
      exact ⟨ret_int (by unfold cmpI; rw [if_neg (by omega), if_pos (by omega)]), rfl⟩
    · go_enter Try.func45, Try.ntmps45
      go_wp2_with (go_at_call 50; refine (isNaN_c _ _).mono ?_; rintro e w' ⟨rfl, rfl⟩)
      go_ret
      exact ⟨ret_int (by unfold cmpI; rw [if_neg (by omega), if_neg (by omega)]), rfl⟩
theorem or_c (x y : Int) (b : Nat) (w : World) (h0 : w.cell? ⟨b, 0, none⟩ = some (.int .i64 x)) (h1 : w.cell? ⟨b, 1, none⟩ = some (.int .i64 y)) :
    Calls Try.prog 44 #[.slice (some ⟨b, 0, none⟩) 2 2] w fun e w' => e = .returned (.int .i64 (orI x y)) ∧ w = w' := by
  by_cases hx : x = 0
  · by_cases hy : y = 0
    · subst hx; subst hy
      go_enter Try.func44, Try.ntmps44
      go_wp2
      refine wp_loop_rounds 3 ?_
      rw [rounds_succ]
      go_wp2
      rw [rounds_succ]
      go_wp2
      rw [rounds_succ]
      go_wp2
      go_ret
      exact ⟨ret_int (by unfold orI; rfl), rfl⟩
    · have hq : (y == 0) = false := by simp [hy]
      subst hx
      go_enter Try.func44, Try.ntmps44
      go_wp2
      refine wp_loop_rounds 2 ?_
      rw [rounds_succ]
      go_wp2
      rw [rounds_succ]
      go_wp2
      go_ret
      exact ⟨ret_int (by unfold orI; rfl), rfl⟩
  · have hq : (x == 0) = false := by simp [hx]
    have HX := Lib.hid hx
    clear hx
    go_enter Try.func44, Try.ntmps44
    go_wp2
    refine wp_loop_rounds 1 ?_
    rw [rounds_succ]
    go_wp2
    go_ret
    exact ⟨ret_int (by unfold orI; rw [if_pos HX.out]), rfl⟩

theorem newAt (w : World) (t : TypeId) (cs : Array Value) (g : Nat) (hg : w.heap.size = g) : Blk (w.alloc (.cells cs t)) g t cs := by subst hg; exact Blk.new _ _ _
set_option maxHeartbeats 1000000 in
/-- the closure: it boxes both, and lays a slice of two -/
theorem closure_c (x y : Int × Int) (w : World) : Calls Try.prog 43 #[.agg #[.int .i64 x.1, .int .i64 x.2], .agg #[.int .i64 y.1, .int .i64 y.2]] w fun e w' => e = .returned (.int .i64 (cmpP x y)) ∧ ∃ q os', w' = Go.Sort.grow (w.drewN q) os' := by
  go_enter Try.func43, Try.ntmps43
  go_wp2_with fail
  have k1 : ((w.alloc (.cells #[.int .i64 x.1, .int .i64 x.2] 32)).alloc (.cells #[.int .i64 y.1, .int .i64 y.2] 32)).cell? ⟨w.heap.size, 0, none⟩ = some (.int .i64 x.1) := ((Blk.new w 32 #[.int .i64 x.1, .int .i64 x.2]).alloc _).cell 0
  have k2 : ((w.alloc (.cells #[.int .i64 x.1, .int .i64 x.2] 32)).alloc (.cells #[.int .i64 y.1, .int .i64 y.2] 32)).cell? ⟨w.heap.size, 1, none⟩ = some (.int .i64 x.2) := ((Blk.new w 32 #[.int .i64 x.1, .int .i64 x.2]).alloc _).cell 1
  have k3 : ((w.alloc (.cells #[.int .i64 x.1, .int .i64 x.2] 32)).alloc (.cells #[.int .i64 y.1, .int .i64 y.2] 32)).cell? ⟨w.heap.size + 1, 0, none⟩ = some (.int .i64 y.1) := (newAt (w.alloc _) 32 #[.int .i64 y.1, .int .i64 y.2] (w.heap.size + 1) (by simp)).cell 0
  have k4 : ((w.alloc (.cells #[.int .i64 x.1, .int .i64 x.2] 32)).alloc (.cells #[.int .i64 y.1, .int .i64 y.2] 32)).cell? ⟨w.heap.size + 1, 1, none⟩ = some (.int .i64 y.2) := (newAt (w.alloc _) 32 #[.int .i64 y.1, .int .i64 y.2] (w.heap.size + 1) (by simp)).cell 1
  go_region_held3 (fun w' => w'.cell? ⟨w.heap.size, 0, none⟩ = some (.int .i64 x.1) ∧ w'.cell? ⟨w.heap.size, 1, none⟩ = some (.int .i64 x.2) ∧ w'.cell? ⟨w.heap.size + 1, 0, none⟩ = some (.int .i64 y.1) ∧ w'.cell? ⟨w.heap.size + 1, 1, none⟩ = some (.int .i64 y.2))
    (first | exact ⟨k1, k2, k3, k4⟩ | go_keep)
    (first
      | (go_at_call 45; refine (compare_c _ _ _).mono ?_; rintro e w' ⟨rfl, rfl⟩)
      | (go_at_call 44; refine (or_c (cmpI x.1 y.1) (cmpI x.2 y.2) _ _ ((newAt _ 3 #[.int .i64 (cmpI x.1 y.1), .int .i64 (cmpI x.2 y.2)] (w.heap.size + 1 + 1) (by simp)).drew.cell 0) ((newAt _ 3 #[.int .i64 (cmpI x.1 y.1), .int .i64 (cmpI x.2 y.2)] (w.heap.size + 1 + 1) (by simp)).drew.cell 1)).mono ?_; rintro e w' ⟨rfl, rfl⟩))
  all_goals
    go_wp2_with fail
    go_ret
    exact ⟨rfl, 1, _, by rw [Go.Sort.alloc_eq_grow, Go.Sort.alloc_eq_grow, Go.Sort.alloc_eq_grow, Go.Sort.grow_grow, Go.Sort.grow_grow]; rfl⟩

/-! ### the world behind the sort -/
theorem flatK_get (ys : List (Int × Int)) (u : Nat) (hu : u < ys.length * 2) : (flatP ys)[u]? = some ((Go.Sort.flatK pc 2 ys.toArray)[u]!) := by
  rw [Go.Sort.get_flatK _ _ _ _ (by simpa using hu)]
  have h2 := flatP_get ys (u / 2) (by omega)
  have he : ys.toArray[u / 2]! = ys.getD (u / 2) (0, 0) := by
    rw [getElem!_pos ys.toArray (u / 2) (by simp; omega), List.getD_eq_getElem?_getD, List.getElem?_eq_getElem (by omega)]
    simp
  rw [he]
  rcases Nat.mod_two_eq_zero_or_one u with e0 | e0
  · have e1 : u / 2 * 2 = u := by omega
    rw [e1] at h2
    rw [e0, h2.1]; rfl
  · have e1 : u / 2 * 2 + 1 = u := by omega
    rw [e1] at h2
    rw [e0, h2.2]; rfl
theorem sort_own {w : World} {base e g n c m : Nat} {xs ys : List (Int × Int)} {os : Array Obj} (own : w.ownsRow base e 2 (.slice (some ⟨g, 0, none⟩) n c) n (flatP xs)) (hl : ys.length = xs.length) :
    (sortWorldK pc 2 w g 0 m ys.toArray os).ownsRow base e 2 (.slice (some ⟨g, 0, none⟩) n c) n (flatP ys) ∧ w.grownBy (sortWorldK pc 2 w g 0 m ys.toArray os) (some g) := by
  have hxl : xs.length = n := by have := own.1; rw [flatP_len] at this; omega
  have hlt := (own.lt g rfl).2
  have hhp : ∀ i, i < w.heap.size → (sortWorldK pc 2 w g 0 m ys.toArray os).heap[i]? = if g = i then w.heap[i]?.map (Go.Sort.onCells (Go.Sort.putCells id 0 (Go.Sort.flatK pc 2 ys.toArray))) else w.heap[i]? := by
    intro i hi
    show ((w.heap.modify g (Go.Sort.onCells (Go.Sort.putCells id 0 (Go.Sort.flatK pc 2 ys.toArray)))) ++ os)[i]? = _
    rw [Array.getElem?_append_left (by simpa using hi), Array.getElem?_modify]
  constructor
  · refine ⟨by rw [flatP_len]; omega, ?_⟩
    rcases own.2 with ⟨h1, h2⟩ | ⟨g', cap, cur, e1, hb, hh, hnc, hm, hsz, htk⟩
    · injection h1 with h1; cases h1
    · injection e1 with e1 e2 e3
      injection e1 with e1
      injection e1 with e1
      subst e1; subst e3
      refine .inr ⟨g, c, Go.Sort.putCells id 0 (Go.Sort.flatK pc 2 ys.toArray) cur, rfl, hb, ?_, hnc, hm, by simp [Go.Sort.putCells, hsz], ?_⟩
      · rw [hhp g hlt, if_pos rfl, hh]; rfl
      · apply List.ext_getElem?
        intro u
        rcases Nat.lt_or_ge u (n * 2) with hu | hu
        · rw [List.getElem?_take_of_lt hu, Array.getElem?_toList, flatK_get ys u (by omega)]
          have hs : u < cur.size := by rw [hsz]; omega
          unfold Go.Sort.putCells
          rw [Array.getElem?_mapIdx, Array.getElem?_eq_getElem hs]
          simp only [Option.map_some, Nat.zero_le, true_and, Nat.zero_add, Nat.sub_zero, Go.Sort.size_flatK, List.size_toArray]
          rw [if_pos (by omega)]
          rfl
        · rw [List.getElem?_eq_none (by simp [Go.Sort.putCells]; omega), List.getElem?_eq_none (by rw [flatP_len]; omega)]
  · refine ⟨rfl, rfl, rfl, ?_, fun i hi hne => ?_⟩
    · show w.heap.size ≤ ((w.heap.modify g (Go.Sort.onCells (Go.Sort.putCells id 0 (Go.Sort.flatK pc 2 ys.toArray)))) ++ os).size
      simp
    · rw [hhp i hi, if_neg (fun h => hne (by rw [h]))]
theorem holds_own {w : World} {base e g n c : Nat} {xs : List (Int × Int)} (own : w.ownsRow base e 2 (.slice (some ⟨g, 0, none⟩) n c) n (flatP xs)) : Go.Sort.HoldsK pc 2 w g 0 xs.toArray := by
  have hxl : xs.length = n := by have := own.1; rw [flatP_len] at this; omega
  intro u hu
  have hu' : u < xs.length * 2 := by simpa using hu
  rw [Nat.zero_add]
  refine ⟨?_, own.frozenAt (g := g) (cap := c) u⟩
  rw [own.cellAt (g := g) (cap := c) u (by omega), flatK_get xs u hu']
  rfl
theorem encl (x : Int × Int) : (pc x).length = 2 := rfl
theorem encone (x : Int × Int) : ∀ v ∈ pc x, v.oneCell' = true := by intro v hv; simp [pc] at hv; rcases hv with rfl | rfl <;> rfl
theorem entersSort (args : Array Value) (w : World) : (callFunc 43 args).run Try.prog w = .ok (.enter 43 args) w := enters_of Try.func43 (by kernel_rfl) rfl args w
theorem own_form2 {w : World} {base : Nat} {e : TypeId} {A : Option Addr} {n c : Nat} {xs : List Value} (h : w.ownsRow base e 2 (.slice A n c) n xs) (hn : 0 < n) : ∃ g, A = some ⟨g, 0, none⟩ ∧ base ≤ g ∧ g < w.heap.size := by
  rcases h.2 with ⟨_, h2⟩ | ⟨g, cap, cur, h1, _⟩
  · omega
  · injection h1 with h1 _ _
    subst h1
    exact ⟨g, rfl, h.lt g rfl⟩
theorem own_nil2 {w : World} {base e size n c : Nat} {A : Option Addr} {xs : List Value} (h : w.ownsRow base e size (.slice A n c) n xs) : A = none → c = 0 := by
  rintro rfl
  rcases h.2 with ⟨h1, h2⟩ | ⟨g, cap, cur, h1, _⟩
  · injection h1 with h1 h3 h4
  · injection h1 with h1; cases h1
theorem cmpLays_c (g size : Nat) (w : World) : CmpLays Try.prog 43 #[] pc 2 cmpP g 0 size w := by
  intro m os dk _ x y
  exact closure_c x y _
theorem sortFunc_c {w : World} {base n c : Nat} {A : Option Addr} {xs : List (Int × Int)} (own : w.ownsRow base 32 2 (.slice A n c) n (flatP xs)) (hn : n ≤ 1048576) :
    Calls Try.prog 42 #[.slice A n c, .func (.func 43) #[] #[]] w fun e w' => e = .returned (.tuple #[]) ∧ w'.ownsRow base 32 2 (.slice A n c) n (flatP (sortP xs)) ∧ w.grownBy w' (Value.slice A n c).ownBlock := by
  have hxl : xs.length = n := by have := own.1; rw [flatP_len] at this; omega
  rcases Nat.eq_zero_or_pos n with h0 | h0
  · subst h0
    have hx : xs = [] := List.eq_nil_of_length_eq_zero hxl
    subst hx
    have hcon := AnyF.slices_SortFunc_none sortLay A c (.func (.func 43) #[] #[]) w
    change Calls Try.prog 42 _ _ _ at hcon
    refine hcon.mono ?_
    rintro e w' ⟨he, rfl⟩
    exact ⟨he, by rw [show sortP [] = [] from by simp [sortP]]; exact own, World.grownBy.refl _ _⟩
  · obtain ⟨g, rfl, hb, hs⟩ := own_form2 own h0
    have hcon := AnyQ.slices_SortFunc_total sortLay 2 Try.isAgg32 Try.sizeOf32 pc encl encone cmpP swoP 43 #[] g 0 c xs.toArray w entersSort (cmpLays_c g _ w) (holds_own own) hs (by simp; omega) totP
    change Calls Try.prog 42 _ _ _ at hcon
    rw [List.size_toArray, hxl] at hcon
    refine hcon.mono ?_
    rintro e w' ⟨he, m, os, rfl⟩
    have := sort_own (m := m) (os := os) own (sortP_len xs)
    exact ⟨he, this.1, this.2⟩

/-! ### slices.Clone at requests -/
theorem flatP_getq (ps : List (Int × Int)) {u : Nat} {v : Value} (h : (flatP ps)[u]? = some v) : u < ps.length * 2 := by
  rcases Nat.lt_or_ge u (flatP ps).length with h1 | h1
  · rwa [flatP_len] at h1
  · rw [List.getElem?_eq_none h1] at h; cases h
theorem RdP.cells {w : World} {B n : Nat} {b off : Nat} {ps : List (Int × Int)} (h : RdP w B (some ⟨b, off, none⟩) n ps) : ∀ u v, (flatP ps)[u]? = some v → w.cell? ((⟨b, off, none⟩ : Addr).add u) = some v := by
  intro u v hv
  have hu := flatP_getq ps hv
  have hl := h.len
  obtain ⟨b', off', e, _, hc⟩ := h.at_ (by omega)
  injection e with e
  injection e with e1 e2
  subst e1; subst e2
  rw [add_none]
  have h1 := hc (u / 2) (by omega)
  have h2 := flatP_get ps (u / 2) (by omega)
  rcases Nat.mod_two_eq_zero_or_one u with e0 | e0
  · have e1 : u / 2 * 2 = u := by omega
    rw [e1] at h1 h2
    rw [h1.1, ← hv, h2.1]
  · have e1 : u / 2 * 2 + 1 = u := by omega
    rw [Nat.add_assoc, e1] at h1
    rw [e1] at h2
    rw [h1.2, ← hv, h2.2]
theorem infoAsk2 : (Try.prog.info? 32).map (fun i => (i.zero, i.size, i.bytes)) = some (some (.agg #[.int .i64 0, .int .i64 0]), 2, 16) := by kernel_rfl
/-- append(out, ys...), ys whatever list of requests -/
theorem wpList_appManyP {ops : Array Oper} {rest : List Oper} {o : Oper} {a : Act} {Q : Exit → Act → World → Prop} {w : World} {s x : Operand} {base B m c : Nat} {A : Option Addr} {A0 : Option Addr} {c0 n : Nat} {xs ys : List (Int × Int)} (hgd : o.guard = none)
    (ho : o.op = .call { callee := .builtin .append, args := #[s, x], argTypes := #[25, 25] })
    (hs : a.eval s = .slice A0 n c0) (hown : w.ownsRow base 32 2 (.slice A0 n c0) n (flatP xs)) (hx : a.eval x = .slice A m c) (hnil : A = none → c = 0)
    (hr : RdP w B A m ys) (hn : n + m ≤ 1000000000000) (hbase : base ≤ w.heap.size)
    (h : ∀ A' c' w', w'.ownsRow base 32 2 (.slice A' (n + m) c') (n + m) (flatP (xs ++ ys)) → w.grownBy w' (Value.slice A0 n c0).ownBlock → wpList Try.prog ops Q rest (a.put o.dst (.slice A' (n + m) c')) w') :
    wpList Try.prog ops Q (o :: rest) a w := by
  obtain ⟨i0, hi, hz0, hz1, hz2⟩ := info_parts infoAsk2
  rcases A with _ | ad
  · have hm : m = 0 := by
      rcases Nat.eq_zero_or_pos m with h0 | h0
      · exact h0
      · obtain ⟨b, off, e, _⟩ := hr.at_ h0; cases e
    subst hm
    have hy : ys = [] := List.eq_nil_of_length_eq_zero hr.len
    subst hy
    rw [hnil rfl] at hx
    refine wpList_append_own_none hgd s x 25 ho base 32 i0 2 Try.underlying25 hi (.slice A0 n c0) n _ hs hown hx ?_
    exact h A0 c0 w (by rw [List.append_nil]; exact hown) (World.grownBy.refl _ _)
  · have hl := hr.len
    refine wpList_append_own _ hgd s x 25 ho base 32 i0 _ 2 16 Try.underlying25 hi hz0 hz1 hz2 rfl (by decide) (.slice A0 n c0) n _ hs hown ad m c (flatP ys) hx (by rw [flatP_len, hl]) ?_ (flatP_one_cell _) (by unfold maxLen; omega) (by omega) hbase ?_
    · intro j u hj
      have hjl := flatP_getq ys hj
      obtain ⟨b, off, e, _⟩ := hr.at_ (by omega)
      injection e with e
      subst e
      exact hr.cells j u hj
    · intro v' w' hown' hg _
      have hform : ∃ A' c', v' = .slice A' (n + m) c' := by
        rcases hown'.2 with ⟨h1, h2⟩ | ⟨g, cap, cur, h1, _⟩
        · exact ⟨none, 0, by rw [h1, h2]⟩
        · exact ⟨_, _, h1⟩
      obtain ⟨A', c', rfl⟩ := hform
      exact h A' c' w' (by rw [flatP_append]; exact hown') hg
theorem cloneP_c {A : Option Addr} {n c B : Nat} {xs : List (Int × Int)} {w : World} (hr : RdP w B A n xs) (hB : B ≤ w.heap.size) (hn : n ≤ 1048576) :
    Calls Try.prog 41 #[.slice A n c] w fun e w' => ∃ A' c', e = .returned (.slice A' n c') ∧ w'.ownsRow w.heap.size 32 2 (.slice A' n c') n (flatP xs) ∧ Below w.heap.size w w' := by
  have hnil := fun (W : World) (a : Option Addr) (m k : Nat) => Lib.run_eql_slice_nil (P := Try.prog) W 25 32 a m k 0 0 Try.underlying25
  rcases A with _ | ad
  · have hm : n = 0 := by
      rcases Nat.eq_zero_or_pos n with h0 | h0
      · exact h0
      · obtain ⟨b, off, e, _⟩ := hr.at_ h0; cases e
    subst hm
    have hy : xs = [] := List.eq_nil_of_length_eq_zero hr.len
    subst hy
    go_enter Try.func41, Try.ntmps41
    go_wp2
    go_ret
    exact ⟨none, 0, rfl, World.ownsRow_nil _ _ _ _, Below.refl _ _⟩
  · have b0 : Below w.heap.size w (w.alloc (.cells #[] 32)) := (Below.refl _ _).alloc (Nat.le_refl _) _
    have o0 : (w.alloc (.cells #[] 32)).ownsRow w.heap.size 32 2 (.slice (some ⟨w.heap.size, 0, none⟩) 0 0) 0 (flatP []) := World.ownsRow_lit w #[] 0 (Nat.le_refl _) (by decide) rfl
    have hr1 := (hr.mono hB).below b0
    go_enter Try.func41, Try.ntmps41
    go_wp2_with (at_builtin; refine wpList_appManyP rfl rfl rfl o0 rfl (by intro h; cases h) hr1 (by omega) (by simp) ?_; rintro A' c' w' ho hg)
    go_ret
    rw [Nat.zero_add, List.nil_append] at ho
    exact ⟨A', c', rfl, ho, below_app b0 o0 (by simp) hg⟩
theorem ownsRow_base3 {w : World} {base base' e size n : Nat} {v : Value} {xs : List Value} (h : w.ownsRow base e size v n xs) (hb : base' ≤ base) : w.ownsRow base' e size v n xs := by
  refine ⟨h.1, ?_⟩
  rcases h.2 with h' | ⟨g, cap, cur, h1, h2, h3⟩
  · exact .inl h'
  · exact .inr ⟨g, cap, cur, h1, by omega, h3⟩
/-- append of a whole list, at a step of a region that draws its order -/
theorem step_appManyP {ops : Array Oper} {o : Oper} {a : Act} {K : Act → World → Prop} {Q : Exit → Act → World → Prop} {E : Prop} {w : World} {base B m c : Nat} {ad : Addr} {A0 : Option Addr} {c0 n : Nat} {xs ys : List (Int × Int)} (hgd : o.guard = none) (s x : Operand)
    (ho : o.op = .call { callee := .builtin .append, args := #[s, x], argTypes := #[25, 25] })
    (hs : a.eval s = .slice A0 n c0) (hown : w.ownsRow base 32 2 (.slice A0 n c0) n (flatP xs)) (hx : a.eval x = .slice (some ad) m c)
    (hr : RdP w B (some ad) m ys) (hn : n + m ≤ 1000000000000) (hbase : base ≤ w.heap.size)
    (h : ∀ A' c' w', w'.ownsRow base 32 2 (.slice A' (n + m) c') (n + m) (flatP (xs ++ ys)) → w.grownBy w' (Value.slice A0 n c0).ownBlock → K (a.put o.dst (.slice A' (n + m) c')) w') :
    if Region.wanted o (yielded ops a.tmps) = true then Oper.wp Try.prog o a w K Q else E := by
  obtain ⟨i0, hi, hz0, hz1, hz2⟩ := info_parts infoAsk2
  have hw : Region.wanted o (yielded ops a.tmps) = true := by simp [Region.wanted, hgd]
  rw [if_pos hw]
  have hl := hr.len
  refine wp_append_own w s x 25 ho base 32 i0 _ 2 16 Try.underlying25 hi hz0 hz1 hz2 rfl (by decide) (.slice A0 n c0) n _ hs hown ad m c (flatP ys) hx (by rw [flatP_len, hl]) ?_ (flatP_one_cell _) (by unfold maxLen; omega) (by omega) hbase ?_
  · intro j u hj
    have hjl := flatP_getq ys hj
    obtain ⟨b, off, e, _⟩ := hr.at_ (by omega)
    injection e with e
    subst e
    exact hr.cells j u hj
  · intro v' w' hown' hg _
    have hform : ∃ A' c', v' = .slice A' (n + m) c' := by
      rcases hown'.2 with ⟨h1, h2⟩ | ⟨g, cap, cur, h1, _⟩
      · exact ⟨none, 0, by rw [h1, h2]⟩
      · exact ⟨_, _, h1⟩
    obtain ⟨A', c', rfl⟩ := hform
    exact h A' c' w' (by rw [flatP_append]; exact hown') hg
end Go.Proofs.Ytmkmobgmlhioaaa
