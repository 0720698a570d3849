/- Parts of the proof, one after the other; each says what it proves. -/
import Derived.Test.YtjnpgdhpneifjaaG1
/- Contracts of the laws' helpers on lists of integers (copy, compare, mark, look), and lemmas on rows of the call's own. Conditions: lengths below 2^20 + a little. -/
namespace Go.Proofs.Ytjnpgdhpneifjaa
open Go.ChangeShapes Go.WideShapes Go.ChangeAt Go.RowKit
set_option linter.unusedVariables false
set_option linter.unusedSimpArgs false

noncomputable def bof (p : Prop) : Bool := @decide p (Classical.propDecidable p)
theorem bof_t {p : Prop} : bof p = true ↔ p := by unfold bof; exact @decide_eq_true_iff p (Classical.propDecidable p)
theorem bof_f {p : Prop} : bof p = false ↔ ¬ p := by unfold bof; exact @decide_eq_false_iff_not p (Classical.propDecidable p)
theorem ret_bof_t {p : Prop} (h : p) : Ending.returned (.bool true) = .returned (.bool (bof p)) := by rw [bof_t.2 h]
theorem ret_bof_f {p : Prop} (h : ¬ p) : Ending.returned (.bool false) = .returned (.bool (bof p)) := by rw [bof_f.2 h]
theorem ret_bof_iff {p : Prop} {b : Bool} (h : b = true ↔ p) : Ending.returned (.bool b) = .returned (.bool (bof p)) := by
  congr 2; rw [Bool.eq_iff_iff, bof_t]; exact h

/-! ### quiet calls whose contract says that the world stays (w = w') -/
theorem quiet_add_left {P : Program} {f : FuncId} {args : Array Value} {w : World} {a n : Nat} {v : Value}
    (h : Calls P f args (w.drewN (a + n)) fun e w' => e = .returned v ∧ w.drewN (a + n) = w') : Calls P f args (w.drewN (a + n)) fun e w'' => e = .returned v ∧ ∃ m, w'' = w.drewN (a + m) :=
  h.mono fun _ _ ⟨he, hm⟩ => ⟨he, n, hm.symm⟩
theorem quiet_left {P : Program} {f : FuncId} {args : Array Value} {w : World} {n : Nat} {v : Value}
    (h : Calls P f args (w.drewN n) fun e w' => e = .returned v ∧ w.drewN n = w') : Calls P f args (w.drewN n) fun e w'' => e = .returned v ∧ ∃ m, w'' = w.drewN m :=
  h.mono fun _ _ ⟨he, hm⟩ => ⟨he, n, hm.symm⟩
theorem infoInt : (Try.prog.info? 3).map (fun i => (i.zero, i.size, i.bytes)) = some (some (.int .i64 0), 1, 8) := by kernel_rfl

/-- the integers as cells -/
def cellsI (xs : List Int) : Array Value := (xs.map (Value.int .i64)).toArray
theorem cellsI_get (xs : List Int) (i : Nat) (h : i < xs.length) : (cellsI xs)[i]? = some (.int .i64 (xs.getD i 0)) := by
  unfold cellsI
  rw [List.getElem?_toArray, List.getElem?_map, List.getElem?_eq_getElem h, List.getD_eq_getElem?_getD, List.getElem?_eq_getElem h]
  rfl
theorem cellsI_set (xs : List Int) (i : Nat) (v : Int) : (cellsI xs).setIfInBounds i (.int .i64 v) = cellsI (xs.set i v) := by
  unfold cellsI
  simp [List.map_set]
theorem cellsI_zero (n : Nat) : (madeCells #[Value.int .i64 0] n) = cellsI (List.replicate n 0) := by
  apply Array.toList_inj.1
  rw [toList_madeCells_one]
  simp [cellsI]
theorem make_ints (n : Nat) (hn : n ≤ 1048576) (W : World) : (Instr.makeSlice 76 (.int .i64 (n : Int)) (.int .i64 (n : Int))).run Try.prog W = .ok (.slice (some ⟨W.heap.size, 0, none⟩) n n) (W.alloc (.cells (cellsI (List.replicate n 0)) 3)) := by
  obtain ⟨i0, hi, hz0, hz1, hz2⟩ := info_parts infoInt
  have := run_make (P := Try.prog) W 76 3 i0 (.int .i64 0) Try.underlying76 hi hz0 .i64 .i64 n n (by omega) (by omega) (by rw [hz2]; omega) (by omega)
  rw [this, hz1]
  simp only [Int.toNat_natCast, Nat.mul_one]
  rw [← cellsI_zero]
  rfl
/-- a block that holds just these integers -/
def RowI (w : World) (g : Nat) (xs : List Int) : Prop := Blk w g 3 (cellsI xs)
theorem RowI.rd {w g xs} (h : RowI w g xs) : RdI .i64 w w.heap.size (some ⟨g, 0, none⟩) xs.length xs :=
  ⟨rfl, fun hn => ⟨g, 0, rfl, Blk.lt h, fun i hi => by rw [Nat.zero_add, Blk.cell h, cellsI_get xs i hi]⟩⟩
theorem RowI.own {w g xs base} (h : RowI w g xs) (hb : base ≤ g) (hm : xs.length ≤ maxLen) : w.ownsRow base 3 1 (.slice (some ⟨g, 0, none⟩) xs.length xs.length) xs.length (xs.map (Value.int .i64)) :=
  ⟨by simp, .inr ⟨g, xs.length, cellsI xs, rfl, hb, h, Nat.le_refl _, hm, by simp [cellsI], by rw [Nat.mul_one]; unfold cellsI; simp only [List.toList_toArray]; exact List.take_of_length_le (by simp)⟩⟩

/-- append of ONE element (its cells news), which the walk has just laid in a block of its own, onto a row of the call's own -/
theorem wpList_app {P : Program} {ops : Array Oper} {rest : List Oper} {o : Oper} {a : Act} {Q : Exit → Act → World → Prop} {w : World} (hgd : o.guard = none) (s x : Operand) (t : TypeId)
    (ho : o.op = .call { callee := .builtin .append, args := #[s, x], argTypes := #[t, t] })
    (base : Nat) (e : TypeId) (i : TypeInfo) (z : Value) (size bytes : Nat) (ht : P.underlying t = some (.slice e)) (hi : P.info? e = some i) (hz : i.zero = some z)
    (hsize : i.size = size) (hby : i.bytes = bytes) (hzs : z.cells.size = size) (hsz : 0 < size)
    (v : Value) (n : Nat) (xs : List Value) (hs : a.eval s = v) (hown : w.ownsRow base e size v n xs)
    (news : List Value) (hx : a.eval x = .slice (some ⟨w.heap.size, 0, none⟩) 1 1) (hl : news.length = size) (h1 : ∀ u ∈ news, u.oneCell' = true)
    (h63 : n + 1 ≤ 9223372036854775807) (hbytes : (n + 1) * bytes ≤ 140737488355328) (hbase : base ≤ w.heap.size)
    (h : ∀ g c w', w'.ownsRow base e size (.slice (some ⟨g, 0, none⟩) (n + 1) c) (n + 1) (xs ++ news) → w.grownBy w' v.ownBlock → base ≤ g → wpList P ops Q rest (a.put o.dst (.slice (some ⟨g, 0, none⟩) (n + 1) c)) w') :
    wpList P ops Q (o :: rest) a (w.alloc (.cells news.toArray e)) := by
  refine wpList_append_own _ hgd s x t ho base e i z size bytes ht hi hz hsize hby hzs hsz v n xs hs (hown.alloc _) ⟨w.heap.size, 0, none⟩ 1 1 news hx (by rw [hl, Nat.one_mul]) ?_ h1 (by unfold maxLen; exact h63) hbytes (by simp; omega) ?_
  · intro j u hj
    rw [add_none, Nat.zero_add]
    have := (Blk.new w e news.toArray).cell j
    rw [this, List.getElem?_toArray]
    exact hj
  · intro v' w' hown' hg _
    rcases hown'.2 with ⟨h1, h2⟩ | ⟨g, cap, cur, h1, hb, _⟩
    · omega
    · subst h1
      refine h g cap w' hown' ⟨hg.os, hg.tape, hg.output, Nat.le_trans (by simp) hg.size, fun k hk hne => ?_⟩ hb
      rw [hg.block k (by simp; omega) hne]
      exact Below.heap_alloc w _ k hk
/-- the same for an integer -/
theorem wpList_appI {ops : Array Oper} {rest : List Oper} {o : Oper} {a : Act} {Q : Exit → Act → World → Prop} {w : World} {s x : Operand} {base : Nat} {A0 : Option Addr} {c0 n : Nat} {xs : List Int} {y : Int} (hgd : o.guard = none)
    (ho : o.op = .call { callee := .builtin .append, args := #[s, x], argTypes := #[76, 76] })
    (hs : a.eval s = .slice A0 n c0) (hown : w.ownsRow base 3 1 (.slice A0 n c0) n (xs.map (Value.int .i64)))
    (hx : a.eval x = .slice (some ⟨w.heap.size, 0, none⟩) 1 1) (hn : n ≤ 1000000000000) (hbase : base ≤ w.heap.size)
    (h : ∀ g c w', w'.ownsRow base 3 1 (.slice (some ⟨g, 0, none⟩) (n + 1) c) (n + 1) ((xs ++ [y]).map (Value.int .i64)) → w.grownBy w' (Value.slice A0 n c0).ownBlock → base ≤ g → wpList Try.prog ops Q rest (a.put o.dst (.slice (some ⟨g, 0, none⟩) (n + 1) c)) w') :
    wpList Try.prog ops Q (o :: rest) a (w.alloc (.cells #[.int .i64 y] 3)) := by
  obtain ⟨i0, hi, hz0, hz1, hz2⟩ := info_parts infoInt
  refine wpList_app hgd s x 76 ho base 3 i0 (.int .i64 0) 1 8 Try.underlying76 hi hz0 hz1 hz2 rfl (by decide) (.slice A0 n c0) n _ hs hown [.int .i64 y] hx rfl (by simp [Value.oneCell']) (by omega) (by omega) hbase ?_
  intro g c w' h1 h2 h3
  exact h g c w' (by rw [List.map_append]; exact h1) h2 h3
/-- what a call leaves that returns a list of integers in new memory -/
def OwnI (w0 : World) (ys : List Int) (e : Ending) (w' : World) : Prop :=
  ∃ A c, e = .returned (.slice A ys.length c) ∧ w'.ownsRow w0.heap.size 3 1 (.slice A ys.length c) ys.length (ys.map (Value.int .i64)) ∧ Below w0.heap.size w0 w'
/-- the same beside a second result -/
def OwnIx (w0 : World) (ys : List Int) (v2 : Value) (e : Ending) (w' : World) : Prop :=
  ∃ A c, e = .returned (.tuple #[.slice A ys.length c, v2]) ∧ w'.ownsRow w0.heap.size 3 1 (.slice A ys.length c) ys.length (ys.map (Value.int .i64)) ∧ Below w0.heap.size w0 w'
theorem ownI_of {w0 w' : World} {ys : List Int} {A : Option Addr} {m c : Nat} (hm : ys.length = m) (h : w'.ownsRow w0.heap.size 3 1 (.slice A m c) m (ys.map (Value.int .i64))) (hb : Below w0.heap.size w0 w') : OwnI w0 ys (.returned (.slice A m c)) w' := by
  subst hm; exact ⟨A, c, rfl, h, hb⟩
theorem ownIx_of {w0 w' : World} {ys : List Int} {A : Option Addr} {m c : Nat} {v2 : Value} (hm : ys.length = m) (h : w'.ownsRow w0.heap.size 3 1 (.slice A m c) m (ys.map (Value.int .i64))) (hb : Below w0.heap.size w0 w') : OwnIx w0 ys v2 (.returned (.tuple #[.slice A m c, v2])) w' := by
  subst hm; exact ⟨A, c, rfl, h, hb⟩
theorem own_below {w w' : World} {base e size n : Nat} {v : Value} {xs : List Value} (h : w.ownsRow base e size v n xs) (hb : Below w.heap.size w w') : w'.ownsRow base e size v n xs :=
  h.kept (gb_of_below hb none) (by rcases hv : v.ownBlock with _ | k <;> simp)
theorem own_other {w w' : World} {base e size n : Nat} {v : Value} {xs : List Value} {row : Option Nat} (h : w.ownsRow base e size v n xs) (hg : w.grownBy w' row) (hne : ∀ k, v.ownBlock = some k → row ≠ some k) : w'.ownsRow base e size v n xs :=
  h.kept hg (by
    rcases hv : v.ownBlock with _ | k
    · exact .inl rfl
    · exact .inr (fun e => hne k hv e.symm))
/-- an owned row of integers, read -/
theorem rdoI {w : World} {base : Nat} {e : TypeId} {k : IntKind} {A : Option Addr} {n c : Nat} {xs : List Int} (h : w.ownsRow base e 1 (.slice A n c) n (xs.map (Value.int k))) : RdI k w w.heap.size A n xs := by
  obtain ⟨A', c', hv, _, _, hr⟩ := rd_of_own h
  injection hv with h1 h2 h3
  subst h1
  exact hr
theorem own_cap {w : World} {base e size n c : Nat} {A : Option Addr} {xs : List Value} (h : w.ownsRow base e size (.slice A n c) n xs) : n ≤ c ∧ c ≤ 9223372036854775807 := by
  rcases h.2 with ⟨h1, h2⟩ | ⟨g, cap, cur, h1, hb, hh, hnc, hm, _⟩
  · injection h1 with h1 h3 h4; omega
  · injection h1 with h1 h3 h4; unfold maxLen at hm; omega
theorem same_below {w w' : World} (h : w = w') : Below w.heap.size w w' := by subst h; exact Below.refl _ _
theorem drew_below {w w' : World} (h : ∃ m, w' = w.drewN m) : Below w.heap.size w w' := by obtain ⟨m, rfl⟩ := h; exact below_drewN (Below.refl _ _) m
/-- an append keeps what lies below the base -/
theorem below_app {w0 w w' : World} {B e size n : Nat} {v : Value} {xs : List Value} (hb : Below B w0 w) (hown : w.ownsRow B e size v n xs) (hB : B ≤ w.heap.size) (hg : w.grownBy w' v.ownBlock) : Below B w0 w' :=
  hb.grown hg hB (fun k hk => (hown.lt k hk).1)

theorem getD_set_eq (xs : List Int) (i : Nat) (v : Int) (h : i < xs.length) : (xs.set i v).getD i 0 = v := by
  rw [List.getD_eq_getElem?_getD, List.getElem?_set_self h]; rfl
theorem getD_set_ne (xs : List Int) (i j : Nat) (v : Int) (h : i ≠ j) : (xs.set i v).getD j 0 = xs.getD j 0 := by
  rw [List.getD_eq_getElem?_getD, List.getD_eq_getElem?_getD, List.getElem?_set_ne h]
theorem ext_getD {xs ys : List Int} (h : xs.length = ys.length) (hd : ∀ i, i < xs.length → xs.getD i 0 = ys.getD i 0) : xs = ys := by
  apply List.ext_getElem h
  intro i h1 h2
  have := hd i h1
  rw [List.getD_eq_getElem?_getD, List.getD_eq_getElem?_getD, List.getElem?_eq_getElem h1, List.getElem?_eq_getElem h2] at this
  exact this

/-- the first k copied, zeros behind -/
def upTo (xs : List Int) (k : Nat) : List Int := xs.take k ++ List.replicate (xs.length - k) 0
theorem upTo_zero (xs : List Int) : upTo xs 0 = List.replicate xs.length 0 := by simp [upTo]
theorem upTo_all (xs : List Int) : upTo xs xs.length = xs := by simp [upTo]
theorem upTo_len (xs : List Int) (k : Nat) (h : k ≤ xs.length) : (upTo xs k).length = xs.length := by simp [upTo]; omega
theorem upTo_succ (xs : List Int) (k : Nat) (h : k < xs.length) : (upTo xs k).set k (xs.getD k 0) = upTo xs (k + 1) := by
  unfold upTo
  rw [List.set_append_right _ _ (by simp; omega)]
  have e : xs.length - k = (xs.length - (k + 1)) + 1 := by omega
  rw [e, List.replicate_succ]
  have : k - (List.take k xs).length = 0 := by simp; omega
  rw [this, List.set_cons_zero, List.take_succ_eq_append_getElem h, List.getD_eq_getElem?_getD, List.getElem?_eq_getElem h, List.append_assoc]
  rfl

theorem toIntS_c {A : Option Addr} {n c B : Nat} {xs : List Int} {w : World} (hr : RdI .i64 w B A n xs) (hB : B ≤ w.heap.size) (hn : n ≤ 1048576) :
    Calls Try.prog 128 #[.slice A n c] w fun e w' => e = .returned (.slice (some ⟨w.heap.size, 0, none⟩) n n) ∧ RowI w' w.heap.size xs ∧ Below w.heap.size w w' ∧ w'.heap.size = w.heap.size + 1 := by
  obtain ⟨i0, hi, hz0, hz1, hz2⟩ := info_parts infoInt
  have hl := hr.len
  have hmk : ∀ W : World, (Instr.makeSlice 76 (.int .i64 (n : Int)) (.int .i64 (n : Int))).run Try.prog W = .ok (.slice (some ⟨W.heap.size, 0, none⟩) n n) (W.alloc (.cells (cellsI (List.replicate n 0)) 3)) := by
    intro W
    have := run_make (P := Try.prog) W 76 3 i0 (.int .i64 0) Try.underlying76 hi hz0 .i64 .i64 n n (by omega) (by omega) (by rw [hz2]; omega) (by omega)
    rw [this, hz1]
    simp only [Int.toNat_natCast, Nat.mul_one]
    rw [← cellsI_zero]
    rfl
  go_enter Try.func128, Try.ntmps128
  go_wp2
  go_loopw [4] (fun i wr => ∃ k : Nat, k ≤ n ∧ i = .int .i64 k ∧ RowI wr w.heap.size (upTo xs k) ∧ Below w.heap.size w wr ∧ wr.heap.size = w.heap.size + 1) (fun i _ => n - (intOf i).toNat)
  case atStart => exact ⟨0, Nat.zero_le _, rfl, by rw [upTo_zero, hl]; exact Blk.new _ _ _, (Below.refl _ _).alloc (Nat.le_refl _) _, by simp⟩
  case round =>
    obtain ⟨k, hk, rfl, hrow, hbel, hsz⟩ := hrel
    by_cases hlt : k < n
    · obtain ⟨b, off, rfl, hbB, hc⟩ := hr.at_ (by omega)
      have hc1 : wr.cell? ⟨b, off + k, none⟩ = some (.int .i64 (xs.getD k 0)) := (hbel.cell (by exact Nat.lt_of_lt_of_le hbB hB)).trans (hc k hlt)
      have hc2 := (Blk.cell hrow k).trans (cellsI_get _ k (by rw [upTo_len _ _ (by omega)]; omega))
      have hf := Blk.frozen hrow k
      have hset : RowI (wr.setCell ⟨w.heap.size, k, none⟩ (.int .i64 (xs.getD k 0))) w.heap.size (upTo xs (k + 1)) := by
        rw [← upTo_succ xs k (by omega)]
        unfold RowI
        rw [← cellsI_set]
        exact Blk.set_ hrow k _
      have hset := Lib.hid hset
      have hbel2 := Lib.hid hbel
      have hsz2 := Lib.hid hsz
      generalize xs.getD k 0 = x at *
      generalize (upTo xs k).getD k 0 = y at *
      clear hc hmk hrow hbel hsz hr hi hz0 hz1 hz2 hl
      go_wp2
      go_roundw
      case rel => exact ⟨k + 1, by omega, by go_num, hset.out, hbel2.out.setCell (Nat.le_refl _) _, by simpa [World.setCell] using hsz2.out⟩
      case measure => simp [intOf]; omega
    · have hkn : k = n := by omega
      subst hkn
      have hrow' : RowI wr w.heap.size xs := by rw [← hl, upTo_all] at hrow; exact hrow
      clear hmk hrow
      go_wp2
      go_ret
      exact ⟨rfl, hrow', hbel, hsz⟩
theorem eqIntS_c {A A' : Option Addr} {n c n' c' B B' : Nat} {xs ys : List Int} {w : World} (hr : RdI .i64 w B A n xs) (hr' : RdI .i64 w B' A' n' ys) (hn : n ≤ 9000000000000) (hn' : n' ≤ 9000000000000) :
    Calls Try.prog 120 #[.slice A n c, .slice A' n' c'] w fun e w' => e = .returned (.bool (bof (xs = ys))) ∧ ∃ m, w' = w.drewN m := by
  have hl := hr.len
  have hl' := hr'.len
  by_cases hnn : n = n'
  · subst hnn
    have HL := Lib.hid hl
    have HL' := Lib.hid hl'
    clear hl hl'
    go_enter Try.func120, Try.ntmps120
    go_wp2
    go_loopw [5] (fun i wr => ∃ k : Nat, k ≤ n ∧ i = .int .i64 k ∧ (∀ j, j < k → xs.getD j 0 = ys.getD j 0) ∧ ∃ m, wr = w.drewN m) (fun i _ => n - (intOf i).toNat)
    case atStart => exact ⟨0, Nat.zero_le _, rfl, fun j hj => absurd hj (Nat.not_lt_zero _), 0, rfl⟩
    case round =>
      obtain ⟨k, hk, rfl, heq, m, rfl⟩ := hrel
      by_cases hlt : k < n
      · obtain ⟨b, off, rfl, hbB, hc⟩ := hr.at_ (by omega)
        obtain ⟨b', off', rfl, hbB', hc'⟩ := hr'.at_ (by omega)
        have hc1 := hc k hlt
        have hc2 := hc' k hlt
        have hx : ∃ x, xs.getD k 0 = x := ⟨_, rfl⟩
        obtain ⟨x, hx⟩ := hx
        have hy : ∃ y, ys.getD k 0 = y := ⟨_, rfl⟩
        obtain ⟨y, hy⟩ := hy
        rw [hx] at hc1
        rw [hy] at hc2
        have HX := Lib.hid hx
        have HY := Lib.hid hy
        have HE := Lib.hid heq
        clear hx hy heq hc hc' hr hr'
        by_cases hxy : x = y
        · subst hxy
          go_wp2
          go_quiet (fail)
          go_wp2
          go_roundw
          case rel =>
            refine ⟨k + 1, by omega, by go_num, fun j hj => ?_, m + nq, by first | rfl | rw [World.drewN_drewN]⟩
            by_cases e : j = k
            · subst e; rw [HX.out, HY.out]
            · exact HE.out j (by omega)
          case measure => simp [intOf]; omega
        · have hne : (x != y) = true := by simp [hxy]
          have hne2 : (x == y) = false := by simp [hxy]
          have hfin : ¬ xs = ys := fun e => hxy (by rw [← HX.out, ← HY.out, e])
          have HF := Lib.hid hfin
          clear hfin hxy
          go_wp2
          go_quiet (fail)
          go_wp2
          go_ret
          exact ⟨ret_bof_f HF.out, m + nq, by first | rfl | rw [World.drewN_drewN]⟩
      · have hkn : k = n := by omega
        subst hkn
        have hfin : xs = ys := ext_getD (by rw [HL.out, HL'.out]) (fun i hi => heq i (by have := HL.out; omega))
        have HF := Lib.hid hfin
        clear hfin heq
        go_wp2
        go_ret
        exact ⟨ret_bof_t HF.out, _, rfl⟩
  · have hfin : ¬ xs = ys := fun e => hnn (by rw [← hl, ← hl', e])
    have HF := Lib.hid hfin
    have hne : ((n : Int) != (n' : Int)) = true := by simp; omega
    clear hfin hl hl'
    go_enter Try.func120, Try.ntmps120
    go_wp2
    go_ret
    exact ⟨ret_bof_f HF.out, 0, rfl⟩
theorem sameInts_c {A A' : Option Addr} {n c n' c' B B' : Nat} {xs ys : List Int} {w : World} (hr : RdI .i64 w B A n xs) (hr' : RdI .i64 w B' A' n' ys) (hn : n ≤ 9000000000000) (hn' : n' ≤ 9000000000000) :
    Calls Try.prog 93 #[.slice A n c, .slice A' n' c'] w fun e w' => e = .returned (.bool (bof (xs = ys))) ∧ ∃ m, w' = w.drewN m := by
  have hl := hr.len
  have hl' := hr'.len
  by_cases hnn : n = n'
  · subst hnn
    have HL := Lib.hid hl
    have HL' := Lib.hid hl'
    clear hl hl'
    go_enter Try.func93, Try.ntmps93
    go_wp2
    go_loopw [5] (fun i wr => ∃ k : Nat, k ≤ n ∧ i = .int .i64 k ∧ (∀ j, j < k → xs.getD j 0 = ys.getD j 0) ∧ ∃ m, wr = w.drewN m) (fun i _ => n - (intOf i).toNat)
    case atStart => exact ⟨0, Nat.zero_le _, rfl, fun j hj => absurd hj (Nat.not_lt_zero _), 0, rfl⟩
    case round =>
      obtain ⟨k, hk, rfl, heq, m, rfl⟩ := hrel
      by_cases hlt : k < n
      · obtain ⟨b, off, rfl, hbB, hc⟩ := hr.at_ (by omega)
        obtain ⟨b', off', rfl, hbB', hc'⟩ := hr'.at_ (by omega)
        have hc1 := hc k hlt
        have hc2 := hc' k hlt
        have hx : ∃ x, xs.getD k 0 = x := ⟨_, rfl⟩
        obtain ⟨x, hx⟩ := hx
        have hy : ∃ y, ys.getD k 0 = y := ⟨_, rfl⟩
        obtain ⟨y, hy⟩ := hy
        rw [hx] at hc1
        rw [hy] at hc2
        have HX := Lib.hid hx
        have HY := Lib.hid hy
        have HE := Lib.hid heq
        clear hx hy heq hc hc' hr hr'
        by_cases hxy : x = y
        · subst hxy
          go_wp2
          go_quiet (fail)
          go_wp2
          go_roundw
          case rel =>
            refine ⟨k + 1, by omega, by go_num, fun j hj => ?_, m + nq, by first | rfl | rw [World.drewN_drewN]⟩
            by_cases e : j = k
            · subst e; rw [HX.out, HY.out]
            · exact HE.out j (by omega)
          case measure => simp [intOf]; omega
        · have hne : (x != y) = true := by simp [hxy]
          have hne2 : (x == y) = false := by simp [hxy]
          have hfin : ¬ xs = ys := fun e => hxy (by rw [← HX.out, ← HY.out, e])
          have HF := Lib.hid hfin
          clear hfin hxy
          go_wp2
          go_quiet (fail)
          go_wp2
          go_ret
          exact ⟨ret_bof_f HF.out, m + nq, by first | rfl | rw [World.drewN_drewN]⟩
      · have hkn : k = n := by omega
        subst hkn
        have hfin : xs = ys := ext_getD (by rw [HL.out, HL'.out]) (fun i hi => heq i (by have := HL.out; omega))
        have HF := Lib.hid hfin
        clear hfin heq
        go_wp2
        go_ret
        exact ⟨ret_bof_t HF.out, _, rfl⟩
  · have hfin : ¬ xs = ys := fun e => hnn (by rw [← hl, ← hl', e])
    have HF := Lib.hid hfin
    have hne : ((n : Int) != (n' : Int)) = true := by simp; omega
    clear hfin hl hl'
    go_enter Try.func93, Try.ntmps93
    go_wp2
    go_ret
    exact ⟨ret_bof_f HF.out, 0, rfl⟩

theorem own_len {w : World} {base : Nat} {e : TypeId} {v : Value} {n : Nat} {xs : List Int} (h : w.ownsRow base e 1 v n (xs.map (Value.int .i64))) : xs.length = n := by
  have := h.1; simpa using this
/-- an owned row that has an element lies in a block, from its head on -/
theorem own_form {w : World} {base : Nat} {e : TypeId} {A : Option Addr} {n c : Nat} {xs : List Value} (h : w.ownsRow base e 1 (.slice A n c) n xs) (hn : 0 < n) : ∃ g, A = some ⟨g, 0, none⟩ ∧ base ≤ g ∧ g < w.heap.size := by
  rcases h.2 with ⟨h1, h2⟩ | ⟨g, cap, cur, h1, hb, hh, _⟩
  · omega
  · injection h1 with h1 h2 h3
    refine ⟨g, h1, hb, ?_⟩
    rcases Nat.lt_or_ge g w.heap.size with hlt | hge
    · exact hlt
    · rw [Array.getElem?_eq_none hge] at hh; cases hh
theorem map_getElem? (xs : List Int) (i : Nat) (h : i < xs.length) : (xs.map (Value.int .i64))[i]? = some (.int .i64 (xs.getD i 0)) := by
  rw [List.getElem?_map, List.getElem?_eq_getElem h, List.getD_eq_getElem?_getD, List.getElem?_eq_getElem h]
  rfl

def marks (k : Int) (n : Nat) : List Int := (List.range n).map fun (i : Nat) => k + (i : Int)
theorem marks_len (k : Int) (n : Nat) : (marks k n).length = n := by simp [marks]
theorem marks_getD (k : Int) (n i : Nat) (h : i < n) : (marks k n).getD i 0 = k + (i : Int) := by
  simp [marks, List.getD_eq_getElem?_getD, h]
def markTo (k : Int) (j : Nat) (xs : List Int) : List Int := marks k j ++ xs.drop j
theorem markTo_zero (k : Int) (xs : List Int) : markTo k 0 xs = xs := by simp [markTo, marks]
theorem markTo_all (k : Int) (xs : List Int) : markTo k xs.length xs = marks k xs.length := by simp [markTo]
theorem markTo_len (k : Int) (j : Nat) (xs : List Int) (h : j ≤ xs.length) : (markTo k j xs).length = xs.length := by simp [markTo, marks_len]; omega
theorem markTo_succ (k : Int) (j : Nat) (xs : List Int) (h : j < xs.length) : (markTo k j xs).set j (k + (j : Int)) = markTo k (j + 1) xs := by
  unfold markTo
  rw [List.set_append_right _ _ (by rw [marks_len]; omega), marks_len, Nat.sub_self, List.drop_eq_getElem_cons h, List.set_cons_zero]
  have : marks k (j + 1) = marks k j ++ [k + (j : Int)] := by simp [marks, List.range_succ]
  rw [this, List.append_assoc]
  rfl
theorem toIntS_o {A : Option Addr} {c B : Nat} {xs : List Int} {w : World} (hr : RdI .i64 w B A xs.length xs) (hB : B ≤ w.heap.size) (hn : xs.length ≤ 1048576) :
    Calls Try.prog 128 #[.slice A xs.length c] w (OwnI w xs) := by
  refine (toIntS_c hr hB hn).mono ?_
  rintro e w' ⟨rfl, h1, h2, h3⟩
  exact ⟨_, _, rfl, RowI.own h1 (Nat.le_refl _) (by unfold maxLen; omega), h2⟩
theorem eqIntS_o {A A' : Option Addr} {n c c' B B' : Nat} {xs : List Int} {w : World} (hr : RdI .i64 w B A n xs) (hr' : RdI .i64 w B' A' n xs) (hn : n ≤ 9000000000000) :
    Calls Try.prog 120 #[.slice A n c, .slice A' n c'] w fun e w' => e = .returned (.bool true) ∧ Below w.heap.size w w' := by
  refine (eqIntS_c hr hr' hn hn).mono ?_
  rintro e w' ⟨rfl, m, rfl⟩
  exact ⟨by rw [bof_t.2 rfl], below_drewN (Below.refl _ _) m⟩
theorem sameInts_o {A A' : Option Addr} {n c c' B B' : Nat} {xs : List Int} {w : World} (hr : RdI .i64 w B A n xs) (hr' : RdI .i64 w B' A' n xs) (hn : n ≤ 9000000000000) :
    Calls Try.prog 93 #[.slice A n c, .slice A' n c'] w fun e w' => e = .returned (.bool true) ∧ Below w.heap.size w w' := by
  refine (sameInts_c hr hr' hn hn).mono ?_
  rintro e w' ⟨rfl, m, rfl⟩
  exact ⟨by rw [bof_t.2 rfl], below_drewN (Below.refl _ _) m⟩
theorem markIntS_c {A : Option Addr} {n c base : Nat} {xs : List Int} {w : World} {k0 : Int} (hown : w.ownsRow base 3 1 (.slice A n c) n (xs.map (Value.int .i64))) (hk0 : 0 ≤ k0) (hk1 : k0 ≤ 1000000000000000) (hn : n ≤ 1000000000000) :
    Calls Try.prog 121 #[.slice A n c, .int .i64 k0] w fun e w' => e = .returned (.int .i64 (k0 + n)) ∧ w'.ownsRow base 3 1 (.slice A n c) n ((marks k0 n).map (Value.int .i64)) ∧ w.grownBy w' (Value.slice A n c).ownBlock := by
  have hl := own_len hown
  go_enter Try.func121, Try.ntmps121
  go_wp2
  go_loopw [1, 5] (fun kk i wr => ∃ j : Nat, j ≤ n ∧ i = .int .i64 j ∧ kk = .int .i64 (k0 + j) ∧ wr.ownsRow base 3 1 (.slice A n c) n ((markTo k0 j xs).map (Value.int .i64)) ∧ w.grownBy wr (Value.slice A n c).ownBlock) (fun _ i _ => n - (intOf i).toNat)
  case atStart => exact ⟨0, Nat.zero_le _, rfl, by simp, by rw [markTo_zero]; exact hown, World.grownBy.refl _ _⟩
  case round =>
    obtain ⟨j, hj, rfl, rfl, howr, hg⟩ := hrel
    by_cases hlt : j < n
    · obtain ⟨g, rfl, hbg, hgs⟩ := own_form howr (by omega)
      have hc := (howr.cellAt (g := g) (cap := c) j (by omega)).trans (map_getElem? _ j (by rw [markTo_len _ _ _ (by omega)]; omega))
      have hf := howr.frozenAt (g := g) (cap := c) j
      have hst := howr.stored (g := g) (cap := c) j (.int .i64 (k0 + (j : Int)))
      rw [← List.map_set, markTo_succ k0 j xs (by omega)] at hst
      have HST := Lib.hid hst.1
      have HG := Lib.hid hg
      generalize (markTo k0 j xs).getD j 0 = y at *
      clear hst hg howr hown hl
      go_wp2
      go_roundw
      case rel => exact ⟨j + 1, by omega, by go_num, by go_num, HST.out, gb_setCell (g := g) (p := ⟨g, j, none⟩) HG.out (.inl rfl) _⟩
      case measure => simp [intOf]; omega
    · have hkn : j = n := by omega
      subst hkn
      have how : wr.ownsRow base 3 1 (.slice A j c) j ((marks k0 j).map (Value.int .i64)) := by rw [← hl, markTo_all, hl] at howr; exact howr
      clear howr hown
      go_wp2
      go_ret
      exact ⟨rfl, how, hg⟩
theorem heldIntS_c {A : Option Addr} {n c B : Nat} {w : World} {k0 : Int} (hr : RdI .i64 w B A n (marks k0 n)) (hk0 : 0 ≤ k0) (hk1 : k0 ≤ 1000000000000000) (hn : n ≤ 1000000000000) :
    Calls Try.prog 122 #[.slice A n c, .int .i64 k0] w fun e w' => e = .returned (.int .i64 (k0 + n)) ∧ w = w' := by
  go_enter Try.func122, Try.ntmps122
  go_wp2
  go_loop [1, 5] (fun kk i => ∃ j : Nat, j ≤ n ∧ i = .int .i64 j ∧ kk = .int .i64 (k0 + j)) (fun _ i => n - (intOf i).toNat)
  case atStart => exact ⟨0, Nat.zero_le _, rfl, by simp⟩
  case round =>
    obtain ⟨j, hj, rfl, rfl⟩ := hrel
    by_cases hlt : j < n
    · obtain ⟨b, off, rfl, hbB, hc⟩ := hr.at_ (by omega)
      have hc1 := hc j hlt
      rw [marks_getD _ _ _ hlt] at hc1
      clear hr hc
      go_wp2
      go_round
      case rel => exact ⟨j + 1, by omega, by go_num, by go_num⟩
      case measure => simp [intOf]; omega
    · have hkn : j = n := by omega
      subst hkn
      go_wp2
      go_ret
      exact ⟨rfl, rfl⟩
theorem markIntS_o {A : Option Addr} {n c base : Nat} {xs : List Int} {w : World} {k0 : Int} (hown : w.ownsRow base 3 1 (.slice A n c) n (xs.map (Value.int .i64))) (hk0 : 0 ≤ k0) (hk1 : k0 ≤ 1000000000000000) (hn : n ≤ 1000000000000) :
    Calls Try.prog 121 #[.slice A n c, .int .i64 k0] w fun e w' => e = .returned (.int .i64 (k0 + n)) ∧ w'.ownsRow base 3 1 (.slice A n c) n ((marks k0 n).map (Value.int .i64)) ∧ w.grownBy w' (Value.slice A n c).ownBlock :=
  markIntS_c hown hk0 hk1 hn
theorem heldIntS_o {A : Option Addr} {n c base : Nat} {w : World} {k0 : Int} (hown : w.ownsRow base 3 1 (.slice A n c) n ((marks k0 n).map (Value.int .i64))) (hk0 : 0 ≤ k0) (hk1 : k0 ≤ 1000000000000000) (hn : n ≤ 1000000000000) :
    Calls Try.prog 122 #[.slice A n c, .int .i64 k0] w fun e w' => e = .returned (.int .i64 (k0 + n)) ∧ w = w' :=
  heldIntS_c (rdoI hown) hk0 hk1 hn
end Go.Proofs.Ytjnpgdhpneifjaa

/- How tables and names read. No condition. -/
namespace Go.Proofs.Ytjnpgdhpneifjaa
open Go.ChangeShapes Go.WideShapes Go.ChangeAt Go.RowKit Go.Deep
set_option linter.unusedVariables false
set_option linter.unusedSimpArgs false

/-- a slice that reads as this table -/
structure RdT (w : World) (B : Nat) (A : Option Addr) (n : Nat) (ts : List (List Int)) : Prop where
  len : ts.length = n
  at_ : 0 < n → ∃ b off, A = some ⟨b, off, none⟩ ∧ b < B ∧ ∀ i, i < n → ∃ (A' : Option Addr) (n' c' : Nat),
    w.cell? ⟨b, off + i, none⟩ = some (.slice A' n' c') ∧ n' ≤ c' ∧ c' ≤ 9223372036854775807 ∧ RdI .i64 w B A' n' (ts.getD i [])
theorem RdT.mono {w B B' A n xs} (h : RdT w B A n xs) (hB : B ≤ B') : RdT w B' A n xs :=
  ⟨h.len, fun hn => by
    obtain ⟨b, off, e, hb, hc⟩ := h.at_ hn
    refine ⟨b, off, e, by omega, fun i hi => ?_⟩
    obtain ⟨A', n', c', h1, h2, h3, h4⟩ := hc i hi
    exact ⟨A', n', c', h1, h2, h3, h4.mono hB⟩⟩
theorem RdT.below {w w' B A n xs} (h : RdT w B A n xs) (hb : Below B w w') : RdT w' B A n xs :=
  ⟨h.len, fun hn => by
    obtain ⟨b, off, e, hb1, hc⟩ := h.at_ hn
    refine ⟨b, off, e, hb1, fun i hi => ?_⟩
    obtain ⟨A', n', c', h1, h2, h3, h4⟩ := hc i hi
    exact ⟨A', n', c', (hb.cell hb1).trans h1, h2, h3, h4.below hb⟩⟩
theorem RdT.drew {w B A n xs} (h : RdT w B A n xs) : RdT w.drew B A n xs := h.below ((Below.refl B w).drew)
theorem RdT.drewN {w B A n xs} (h : RdT w B A n xs) (m : Nat) : RdT (w.drewN m) B A n xs := h.below (below_drewN (Below.refl B w) m)
theorem RdT.nil {w B A} : RdT w B A 0 [] := ⟨rfl, fun h => absurd h (Nat.lt_irrefl _)⟩
abbrev NameV := ByteArray × Int
def noName : NameV := (ByteArray.empty, 0)
/-- a slice that reads as these names -/
structure RdN (w : World) (B : Nat) (A : Option Addr) (n : Nat) (ns : List NameV) : Prop where
  len : ns.length = n
  at_ : 0 < n → ∃ b off, A = some ⟨b, off, none⟩ ∧ b < B ∧ ∀ i, i < n → w.cell? ⟨b, off + i * 2, none⟩ = some (.string (ns.getD i noName).1) ∧ w.cell? ⟨b, off + i * 2 + 1, none⟩ = some (.int .i64 (ns.getD i noName).2)
theorem RdN.mono {w B B' A n xs} (h : RdN w B A n xs) (hB : B ≤ B') : RdN w B' A n xs :=
  ⟨h.len, fun hn => by obtain ⟨b, off, e, hb, hc⟩ := h.at_ hn; exact ⟨b, off, e, by omega, hc⟩⟩
theorem RdN.below {w w' B A n xs} (h : RdN w B A n xs) (hb : Below B w w') : RdN w' B A n xs :=
  ⟨h.len, fun hn => by obtain ⟨b, off, e, hb1, hc⟩ := h.at_ hn; exact ⟨b, off, e, hb1, fun i hi => ⟨(hb.cell hb1).trans (hc i hi).1, (hb.cell hb1).trans (hc i hi).2⟩⟩⟩
theorem RdN.drew {w B A n xs} (h : RdN w B A n xs) : RdN w.drew B A n xs := ⟨h.len, h.at_⟩
theorem RdN.drewN {w B A n xs} (h : RdN w B A n xs) (m : Nat) : RdN (w.drewN m) B A n xs := ⟨h.len, h.at_⟩
theorem RdN.nil {w B A} : RdN w B A 0 [] := ⟨rfl, fun h => absurd h (Nat.lt_irrefl _)⟩
end Go.Proofs.Ytjnpgdhpneifjaa

/- What a drawn list is: some integers in new memory, the reader a little further on; and how owned rows stay over picks. -/
namespace Go.Proofs.Ytjnpgdhpneifjaa
open Go.ChangeShapes Go.WideShapes Go.ChangeAt Go.RowKit
set_option linter.unusedVariables false
set_option linter.unusedSimpArgs false
/-- a drawn list of integers: its row lies in new memory; of what was there only the reader's block has turned -/
def DrawL (B g p : Nat) (w : World) (e : Ending) (w' : World) : Prop :=
  ∃ (ys : List Int) (A : Option Addr) (c : Nat), e = .returned (.slice A ys.length c) ∧ ys.length ≤ 100 ∧ w'.ownsRow w.heap.size 3 1 (.slice A ys.length c) ys.length (ys.map (Value.int .i64)) ∧ Rdr w' B g (p + 1000) ∧ w.grownBy w' (some g)
theorem drawL_of {B g p m c : Nat} {w w' : World} {A : Option Addr} {xs : List Int} (hm : xs.length = m) (h100 : m ≤ 100) (h : w'.ownsRow w.heap.size 3 1 (.slice A m c) m (xs.map (Value.int .i64))) (hr : Rdr w' B g (p + 1000)) (hg : w.grownBy w' (some g)) : DrawL B g p w (.returned (.slice A m c)) w' := by
  subst hm; exact ⟨xs, A, c, rfl, h100, h, hr, hg⟩
theorem own_pick {w w' : World} {base e size n g : Nat} {v : Value} {xs : List Value} (h : w.ownsRow base e size v n xs) (hg : w.grownBy w' (some g)) (hgb : g < base) : w'.ownsRow base e size v n xs :=
  own_other h hg (fun k hk e => by injection e with e; have := h.lt k hk; omega)
theorem gb_app {w0 w w' : World} {g e size n : Nat} {v : Value} {xs : List Value} (hb : w0.grownBy w (some g)) (hown : w.ownsRow w0.heap.size e size v n xs) (hg : w.grownBy w' v.ownBlock) : w0.grownBy w' (some g) :=
  ⟨hg.os.trans hb.os, hg.tape.trans hb.tape, hg.output.trans hb.output, Nat.le_trans hb.size hg.size, fun i hi hne => (hg.block i (Nat.lt_of_lt_of_le hi hb.size) (fun e => by have := hown.lt i e.symm; omega)).trans (hb.block i hi hne)⟩
theorem ownsRow_base {w : World} {base base' e size n : Nat} {v : Value} {xs : List Value} (h : w.ownsRow base e size v n xs) (hb : base' ≤ base) : w.ownsRow base' e size v n xs := by
  refine ⟨h.1, ?_⟩
  rcases h.2 with h' | ⟨g, cap, cur, h1, h2, h3⟩
  · exact .inl h'
  · exact .inr ⟨g, cap, cur, h1, by omega, h3⟩
theorem gb_step {w0 w w' : World} {g : Nat} {row : Option Nat} (hb : w0.grownBy w (some g)) (hg : w.grownBy w' row) (hr : ∀ k, row = some k → w0.heap.size ≤ k) : w0.grownBy w' (some g) :=
  ⟨hg.os.trans hb.os, hg.tape.trans hb.tape, hg.output.trans hb.output, Nat.le_trans hb.size hg.size, fun i hi hne => (hg.block i (Nat.lt_of_lt_of_le hi hb.size) (fun e => by have := hr i e.symm; omega)).trans (hb.block i hi hne)⟩
/-- a drawn list, at the law's level -/
def DrawnL (w : World) (e : Ending) (w' : World) : Prop :=
  ∃ (ys : List Int) (A : Option Addr) (c : Nat), e = .returned (.slice A ys.length c) ∧ ys.length ≤ 100 ∧ w'.ownsRow w.heap.size 3 1 (.slice A ys.length c) ys.length (ys.map (Value.int .i64)) ∧ Below w.heap.size w w'
theorem drawnL_of {w w1 w' : World} {B g p : Nat} {e : Ending} (hb : Below w.heap.size w w1) (hg : w.heap.size ≤ g) (h : DrawL B g p w1 e w') : DrawnL w e w' := by
  obtain ⟨ys, A, c, he, h100, ho, _, hgb⟩ := h
  exact ⟨ys, A, c, he, h100, ownsRow_base ho hb.size, below_of_gb hb hgb hb.size hg⟩
end Go.Proofs.Ytjnpgdhpneifjaa

/- Texts of names: TextValid, NameBucket, nameBefore, the program's and the reference's. No condition. -/
namespace Go.Proofs.Ytjnpgdhpneifjaa
open Go.ChangeShapes Go.WideShapes Go.ChangeAt Go.RowKit Go.Deep
set_option linter.unusedVariables false
set_option linter.unusedSimpArgs false

def byN (s : ByteArray) (i : Nat) : Nat := if h : i < s.size then s[i].toNat else 0
theorem byN_of {s : ByteArray} {i : Nat} (h : i < s.size) : byN s i = s[i].toNat := by unfold byN; rw [dif_pos h]
def LettersTo (s : ByteArray) (k : Nat) : Prop := ∀ i, i < k → 97 ≤ byN s i ∧ byN s i ≤ 122
theorem LettersTo.zero (s : ByteArray) : LettersTo s 0 := fun i h => absurd h (Nat.not_lt_zero _)
theorem LettersTo.succ {s : ByteArray} {k : Nat} (h : LettersTo s k) (h1 : 97 ≤ byN s k) (h2 : byN s k ≤ 122) : LettersTo s (k + 1) := by
  intro i hi
  by_cases e : i = k
  · subst e; exact ⟨h1, h2⟩
  · exact h i (by omega)
def TextOk (s : ByteArray) : Prop := (1 ≤ s.size ∧ s.size ≤ 8) ∧ LettersTo s s.size
theorem textValid_impl (s : ByteArray) (w : World) (hm : s.size ≤ 9223372036854775807) : Calls Try.prog 96 #[.string s] w fun e w' => e = .returned (.bool (bof (TextOk s))) ∧ w = w' := by
  by_cases h1 : s.size < 1
  · have hno := Lib.hid (show ¬ TextOk s from fun h => by have := h.1.1; omega)
    go_enter Try.func96, Try.ntmps96
    go_wp2
    go_ret
    exact ⟨ret_bof_f hno.out, rfl⟩
  by_cases h8 : 8 < s.size
  · have hno := Lib.hid (show ¬ TextOk s from fun h => by have := h.1.2; omega)
    go_enter Try.func96, Try.ntmps96
    go_wp2
    go_ret
    exact ⟨ret_bof_f hno.out, rfl⟩
  go_enter Try.func96, Try.ntmps96
  go_wp2
  go_loop [14] (fun i => ∃ k : Nat, k ≤ s.size ∧ i = .int .i64 k ∧ LettersTo s k) (fun i => s.size - (intOf i).toNat)
  case atStart => exact ⟨0, Nat.zero_le _, rfl, LettersTo.zero _⟩
  case round =>
    obtain ⟨k, hk, rfl, hto⟩ := hrel
    have HT := Lib.hid hto
    clear hto
    by_cases hlt : k < s.size
    · have HB := Lib.hid (byN_of hlt)
      have HNO := Lib.hid (show ¬ (97 ≤ byN s k ∧ byN s k ≤ 122) → ¬ TextOk s from fun h hh => h (hh.2 k hlt))
      by_cases ha : s[k].toNat < 97
      · have hno := Lib.hid (HNO.out (fun h => by rw [HB.out] at h; omega))
        go_wp2
        go_ret
        exact ⟨ret_bof_f hno.out, rfl⟩
      · by_cases hz : 122 < s[k].toNat
        · have hno := Lib.hid (HNO.out (fun h => by rw [HB.out] at h; omega))
          go_wp2
          go_ret
          exact ⟨ret_bof_f hno.out, rfl⟩
        · have HT2 := Lib.hid (HT.out.succ (by rw [HB.out]; omega) (by rw [HB.out]; omega))
          go_wp2
          go_round
          case rel => exact ⟨k + 1, by omega, by go_num, HT2.out⟩
          case measure => simp [intOf]; omega
    · obtain rfl : k = s.size := by omega
      have hyes := Lib.hid (show TextOk s from ⟨by omega, HT.out⟩)
      go_wp2
      go_ret
      exact ⟨ret_bof_t hyes.out, rfl⟩
theorem textValid_spec (s : ByteArray) (w : World) (hm : s.size ≤ 9223372036854775807) : Calls Try.prog 127 #[.string s] w fun e w' => e = .returned (.bool (bof (TextOk s))) ∧ w = w' := by
  go_enter Try.func127, Try.ntmps127
  go_wp2
  go_loop [3] (fun i => ∃ k : Nat, k ≤ s.size ∧ i = .int .i64 k ∧ LettersTo s k) (fun i => s.size - (intOf i).toNat)
  case atStart => exact ⟨0, Nat.zero_le _, rfl, LettersTo.zero _⟩
  case round =>
    obtain ⟨k, hk, rfl, hto⟩ := hrel
    have HT := Lib.hid hto
    clear hto
    by_cases hlt : k < s.size
    · have HB := Lib.hid (byN_of hlt)
      have HNO := Lib.hid (show ¬ (97 ≤ byN s k ∧ byN s k ≤ 122) → ¬ TextOk s from fun h hh => h (hh.2 k hlt))
      by_cases ha : s[k].toNat < 97
      · have hno := Lib.hid (HNO.out (fun h => by rw [HB.out] at h; omega))
        go_wp2
        go_ret
        exact ⟨ret_bof_f hno.out, rfl⟩
      · by_cases hz : 122 < s[k].toNat
        · have hno := Lib.hid (HNO.out (fun h => by rw [HB.out] at h; omega))
          go_wp2
          go_ret
          exact ⟨ret_bof_f hno.out, rfl⟩
        · have HT2 := Lib.hid (HT.out.succ (by rw [HB.out]; omega) (by rw [HB.out]; omega))
          go_wp2
          go_round
          case rel => exact ⟨k + 1, by omega, by go_num, HT2.out⟩
          case measure => simp [intOf]; omega
    · obtain rfl : k = s.size := by omega
      by_cases h1 : 1 ≤ s.size ∧ s.size ≤ 8
      · have hb : inB (s.size : Int) 1 8 = true := by rw [inB_t]; omega
        have hyes := Lib.hid (show TextOk s from ⟨h1, HT.out⟩)
        go_wp2_with (go_at_call 32; refine (l1In_c _ _ _ _).mono ?_; rw [hb]; rintro e w' ⟨rfl, rfl⟩)
        go_ret
        exact ⟨ret_bof_t hyes.out, rfl⟩
      · have hb : inB (s.size : Int) 1 8 = false := by rw [inB_f]; omega
        have hno := Lib.hid (show ¬ TextOk s from fun h => h1 h.1)
        go_wp2_with (go_at_call 32; refine (l1In_c _ _ _ _).mono ?_; rw [hb]; rintro e w' ⟨rfl, rfl⟩)
        go_ret
        exact ⟨ret_bof_f hno.out, rfl⟩
/-! ### buckets -/
def hashTo (s : ByteArray) : Nat → Nat
  | 0 => 7
  | k + 1 => (31 * hashTo s k + byN s k) % 1009
theorem hashTo_le (s : ByteArray) : ∀ k, hashTo s k ≤ 1008
  | 0 => by show 7 ≤ 1008; omega
  | k + 1 => by unfold hashTo; omega
open Classical in
noncomputable def bucket (s : ByteArray) : Int := if TextOk s then ((hashTo s s.size % 3 : Nat) : Int) else -1
theorem bucket_yes {s : ByteArray} (h : TextOk s) : bucket s = ((hashTo s s.size % 3 : Nat) : Int) := by unfold bucket; rw [if_pos h]
theorem bucket_no {s : ByteArray} (h : ¬ TextOk s) : bucket s = -1 := by unfold bucket; rw [if_neg h]
theorem bucket_range (s : ByteArray) : -1 ≤ bucket s ∧ bucket s ≤ 2 := by
  by_cases h : TextOk s
  · rw [bucket_yes h]; omega
  · rw [bucket_no h]; omega
theorem bucket_ok {s : ByteArray} : 0 ≤ bucket s ↔ TextOk s := by
  by_cases h : TextOk s
  · rw [bucket_yes h]; exact ⟨fun _ => h, fun _ => by omega⟩
  · rw [bucket_no h]; exact ⟨fun h => by omega, fun h' => absurd h' h⟩
theorem byN_le (s : ByteArray) (i : Nat) : byN s i ≤ 255 := by
  unfold byN
  split
  · next h => have := s[i].toNat_lt; omega
  · omega
theorem nameBucket_impl (s : ByteArray) (w : World) (hm : s.size ≤ 9223372036854775807) : Calls Try.prog 98 #[.string s] w fun e w' => e = .returned (.int .i64 (bucket s)) ∧ w = w' := by
  by_cases h : TextOk s
  · have hs8 := h.1.2
    have HE := Lib.hid (bucket_yes h)
    have hbt := bof_t.2 h
    clear h
    go_enter Try.func98, Try.ntmps98
    go_wp2_with (go_at_call 96; refine (textValid_impl s _ hm).mono ?_; rw [hbt]; rintro e w' ⟨rfl, rfl⟩)
    go_loop [3, 10] (fun v i => ∃ k : Nat, k ≤ s.size ∧ i = .int .i64 k ∧ v = .int .i64 (hashTo s k : Nat)) (fun _ i => s.size - (intOf i).toNat)
    case atStart => exact ⟨0, Nat.zero_le _, rfl, rfl⟩
    case round =>
      obtain ⟨k, hk, rfl, rfl⟩ := hrel
      have hq := hashTo_le s k
      by_cases hlt : k < s.size
      · have HB := Lib.hid (byN_of hlt)
        have HH := Lib.hid (show hashTo s (k + 1) = (31 * hashTo s k + byN s k) % 1009 from rfl)
        have hb := byN_le s k
        rw [byN_of hlt] at hb
        generalize hashTo s k = q at *
        go_wp2
        go_round
        case rel => exact ⟨k + 1, by omega, by go_num, by rw [HH.out, HB.out]; go_num⟩
        case measure => simp [intOf]; omega
      · obtain rfl : k = s.size := by omega
        go_wp2
        go_ret
        exact ⟨ret_int (by rw [HE.out]; omega), rfl⟩
  · have hbf := bof_f.2 h
    have HE := Lib.hid (bucket_no h)
    clear h
    go_enter Try.func98, Try.ntmps98
    go_wp2_with (go_at_call 96; refine (textValid_impl s _ hm).mono ?_; rw [hbf]; rintro e w' ⟨rfl, rfl⟩)
    go_ret
    exact ⟨ret_int HE.out.symm, rfl⟩
theorem nameBucket_spec (s : ByteArray) (w : World) (hm : s.size ≤ 9223372036854775807) : Calls Try.prog 101 #[.string s] w fun e w' => e = .returned (.int .i64 (bucket s)) ∧ w = w' := by
  by_cases h : TextOk s
  · have hs8 := h.1.2
    have HE := Lib.hid (bucket_yes h)
    have hbt := bof_t.2 h
    clear h
    go_enter Try.func101, Try.ntmps101
    go_wp2_with (go_at_call 127; refine (textValid_spec s _ hm).mono ?_; rw [hbt]; rintro e w' ⟨rfl, rfl⟩)
    go_loop [3, 4] (fun v i => ∃ k : Nat, k ≤ s.size ∧ i = .int .i64 k ∧ v = .int .i64 (hashTo s k : Nat)) (fun _ i => s.size - (intOf i).toNat)
    case atStart => exact ⟨0, Nat.zero_le _, rfl, rfl⟩
    case round =>
      obtain ⟨k, hk, rfl, rfl⟩ := hrel
      have hq := hashTo_le s k
      by_cases hlt : k < s.size
      · have HB := Lib.hid (byN_of hlt)
        have HH := Lib.hid (show hashTo s (k + 1) = (31 * hashTo s k + byN s k) % 1009 from rfl)
        have hb := byN_le s k
        rw [byN_of hlt] at hb
        generalize hashTo s k = q at *
        go_wp2
        go_round
        case rel => exact ⟨k + 1, by omega, by go_num, by rw [HH.out, HB.out]; go_num⟩
        case measure => simp [intOf]; omega
      · obtain rfl : k = s.size := by omega
        go_wp2
        go_ret
        exact ⟨ret_int (by rw [HE.out]; omega), rfl⟩
  · have hbf := bof_f.2 h
    have HE := Lib.hid (bucket_no h)
    clear h
    go_enter Try.func101, Try.ntmps101
    go_wp2_with (go_at_call 127; refine (textValid_spec s _ hm).mono ?_; rw [hbf]; rintro e w' ⟨rfl, rfl⟩)
    go_ret
    exact ⟨ret_int HE.out.symm, rfl⟩
/-! ### the order of texts -/
theorem bl_irrefl : ∀ x : List UInt8, Op.bytesLess x x = false
  | [] => by simp [Op.bytesLess]
  | a :: x => by simp [Op.bytesLess, bl_irrefl x]
theorem bl_total : ∀ x y : List UInt8, Op.bytesLess x y = true ∨ x = y ∨ Op.bytesLess y x = true
  | [], [] => .inr (.inl rfl)
  | [], _ :: _ => .inl (by simp [Op.bytesLess])
  | _ :: _, [] => .inr (.inr (by simp [Op.bytesLess]))
  | a :: x, b :: y => by
    simp only [Op.bytesLess, Bool.or_eq_true, Bool.and_eq_true, decide_eq_true_eq, beq_iff_eq, List.cons.injEq]
    rcases Nat.lt_trichotomy a.toNat b.toNat with h | h | h
    · exact .inl (.inl (UInt8.lt_iff_toNat_lt.2 h))
    · have e : a = b := UInt8.toNat_inj.1 h
      subst e
      rcases bl_total x y with h1 | h1 | h1
      · exact .inl (.inr ⟨rfl, h1⟩)
      · exact .inr (.inl ⟨rfl, h1⟩)
      · exact .inr (.inr (.inr ⟨rfl, h1⟩))
    · exact .inr (.inr (.inl (UInt8.lt_iff_toNat_lt.2 h)))
theorem bl_trans : ∀ {x y z : List UInt8}, Op.bytesLess x y = true → Op.bytesLess y z = true → Op.bytesLess x z = true
  | [], [], z, h, _ => by simp [Op.bytesLess] at h
  | [], _ :: _, [], _, h => by simp [Op.bytesLess] at h
  | [], _ :: _, _ :: _, _, _ => by simp [Op.bytesLess]
  | _ :: _, [], _, h, _ => by simp [Op.bytesLess] at h
  | _ :: _, _ :: _, [], _, h => by simp [Op.bytesLess] at h
  | a :: x, b :: y, c :: z, h1, h2 => by
    simp only [Op.bytesLess, Bool.or_eq_true, Bool.and_eq_true, decide_eq_true_eq, beq_iff_eq, UInt8.lt_iff_toNat_lt] at h1 h2 ⊢
    rcases h1 with h1 | ⟨e1, h1⟩
    · rcases h2 with h2 | ⟨e2, h2⟩
      · exact .inl (by omega)
      · subst e2; exact .inl h1
    · subst e1
      rcases h2 with h2 | ⟨e2, h2⟩
      · exact .inl h2
      · exact .inr ⟨e2, bl_trans h1 h2⟩
theorem toList_inj' {a b : ByteArray} (h : a.toList = b.toList) : a = b := by
  rw [ByteArray.toList_eq, ByteArray.toList_eq] at h
  cases a; cases b
  simp only at h
  congr 1
  exact Array.toList_inj.1 h
/-- one text comes before another -/
def sLt (a b : ByteArray) : Prop := Op.bytesLess a.toList b.toList = true
theorem sLt_irrefl (a : ByteArray) : ¬ sLt a a := by unfold sLt; rw [bl_irrefl]; simp
theorem sLt_trans {a b c : ByteArray} (h : sLt a b) (k : sLt b c) : sLt a c := bl_trans h k
theorem sLt_total (a b : ByteArray) : sLt a b ∨ a = b ∨ sLt b a := by
  rcases bl_total a.toList b.toList with h | h | h
  · exact .inl h
  · exact .inr (.inl (toList_inj' h))
  · exact .inr (.inr h)
theorem sLe_iff (a b : ByteArray) : (Op.bytesLess a.toList b.toList || a.toList == b.toList) = true ↔ ¬ sLt b a := by
  rw [Bool.or_eq_true, beq_iff_eq]
  constructor
  · rintro (h | h) k
    · exact sLt_irrefl a (sLt_trans h k)
    · rw [toList_inj' h] at k; exact sLt_irrefl _ k
  · intro h
    rcases sLt_total a b with k | k | k
    · exact .inl k
    · exact .inr (by rw [k])
    · exact absurd k h
/-- the order of names -/
def NBef (a b : ByteArray) : Prop := bucket a < bucket b ∨ (bucket a = bucket b ∧ sLt a b)
theorem NBef_irrefl (a : ByteArray) : ¬ NBef a a := by
  rintro (h | ⟨_, h⟩)
  · omega
  · exact sLt_irrefl a h
theorem NBef_trans {a b c : ByteArray} (h : NBef a b) (k : NBef b c) : NBef a c := by
  rcases h with h | ⟨h1, h2⟩
  · rcases k with k | ⟨k1, k2⟩
    · exact .inl (by omega)
    · exact .inl (by omega)
  · rcases k with k | ⟨k1, k2⟩
    · exact .inl (by omega)
    · exact .inr ⟨by omega, sLt_trans h2 k2⟩
theorem NBef_total (a b : ByteArray) : NBef a b ∨ a = b ∨ NBef b a := by
  rcases Int.lt_trichotomy (bucket a) (bucket b) with h | h | h
  · exact .inl (.inl h)
  · rcases sLt_total a b with k | k | k
    · exact .inl (.inr ⟨h, k⟩)
    · exact .inr (.inl k)
    · exact .inr (.inr (.inr ⟨h.symm, k⟩))
  · exact .inr (.inr (.inl h))
theorem nameBefore_c (a b : ByteArray) (w : World) (ha : a.size ≤ 9223372036854775807) (hb : b.size ≤ 9223372036854775807) : Calls Try.prog 97 #[.string a, .string b] w fun e w' => e = .returned (.bool (bof (NBef a b))) ∧ w = w' := by
  have r1 := bucket_range a
  have r2 := bucket_range b
  by_cases he : bucket a = bucket b
  · have hq : (bucket a == bucket b) = true := by simp [he]
    have HE := Lib.hid he
    clear he
    go_enter Try.func97, Try.ntmps97
    go_wp2_with (go_at_call 98; refine (nameBucket_impl _ _ (by assumption)).mono ?_; rintro e w' ⟨rfl, rfl⟩)
    go_ret
    exact ⟨ret_bof_iff ⟨fun h => .inr ⟨HE.out, h⟩, fun h => by
      rcases h with h | ⟨_, h⟩
      · have := HE.out; omega
      · exact h⟩, rfl⟩
  · have hq : (bucket a == bucket b) = false := by simp [he]
    have HE := Lib.hid he
    clear he
    go_enter Try.func97, Try.ntmps97
    go_wp2_with (go_at_call 98; refine (nameBucket_impl _ _ (by assumption)).mono ?_; rintro e w' ⟨rfl, rfl⟩)
    go_ret
    exact ⟨ret_bof_iff ⟨fun h => .inl (by simpa using h), fun h => by
      rcases h with h | ⟨h, _⟩
      · simpa using h
      · exact absurd h HE.out⟩, rfl⟩
end Go.Proofs.Ytjnpgdhpneifjaa
