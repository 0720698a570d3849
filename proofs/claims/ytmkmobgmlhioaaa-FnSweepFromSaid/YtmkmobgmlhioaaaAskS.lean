/- Contracts of the laws' helpers on slices of Ask (copy, compare, mark, look, size). Conditions: lengths below 2^20 + a little. -/
import Derived.Test.YtmkmobgmlhioaaaPairs
namespace Go.Proofs.Ytmkmobgmlhioaaa
open Go.ChangeShapes Go.WideShapes Go.ChangeAt Go.RowKit Go.Deep
set_option linter.unusedVariables false
set_option linter.unusedSimpArgs false

theorem infoAsk : (Try.prog.info? 32).map (fun i => (i.zero, i.size, i.bytes)) = some (some (.agg #[.int .i64 0, .int .i64 0]), 2, 16) := by kernel_rfl
def OwnAsk (w0 : World) (ys : List (Int × Int)) (e : Ending) (w' : World) : Prop :=
  ∃ A c, e = .returned (.slice A ys.length c) ∧ w'.ownsRow w0.heap.size 32 2 (.slice A ys.length c) ys.length (flatP ys) ∧ Below w0.heap.size w0 w'
def OwnAskx (w0 : World) (ys : List (Int × Int)) (v2 : Value) (e : Ending) (w' : World) : Prop :=
  ∃ A c, e = .returned (.tuple #[.slice A ys.length c, v2]) ∧ w'.ownsRow w0.heap.size 32 2 (.slice A ys.length c) ys.length (flatP ys) ∧ Below w0.heap.size w0 w'
theorem ownAsk_of {w0 w' : World} {ys : List (Int × Int)} {A : Option Addr} {m c : Nat} (hm : ys.length = m) (h : w'.ownsRow w0.heap.size 32 2 (.slice A m c) m (flatP ys)) (hb : Below w0.heap.size w0 w') : OwnAsk w0 ys (.returned (.slice A m c)) w' := by
  subst hm; exact ⟨A, c, rfl, h, hb⟩
theorem ownAskx_of {w0 w' : World} {ys : List (Int × Int)} {A : Option Addr} {m c : Nat} {v2 : Value} (hm : ys.length = m) (h : w'.ownsRow w0.heap.size 32 2 (.slice A m c) m (flatP ys)) (hb : Below w0.heap.size w0 w') : OwnAskx w0 ys v2 (.returned (.tuple #[.slice A m c, v2])) w' := by
  subst hm; exact ⟨A, c, rfl, h, hb⟩
theorem rdoAsk {w : World} {base : Nat} {e : TypeId} {A : Option Addr} {n c : Nat} {xs : List (Int × Int)} (h : w.ownsRow base e 2 (.slice A n c) n (flatP xs)) : RdP w w.heap.size A n xs := rdoP h
/-- append of one -/
theorem wpList_appAsk {ops : Array Oper} {rest : List Oper} {o : Oper} {a : Act} {Q : Exit → Act → World → Prop} {w : World} {s x : Operand} {base : Nat} {A0 : Option Addr} {c0 n : Nat} {xs : List (Int × Int)} {y z : Int} (hgd : o.guard = none)
    (ho : o.op = .call { callee := .builtin .append, args := #[s, x], argTypes := #[25, 25] })
    (hs : a.eval s = .slice A0 n c0) (hown : w.ownsRow base 32 2 (.slice A0 n c0) n (flatP xs))
    (hx : a.eval x = .slice (some ⟨w.heap.size, 0, none⟩) 1 1) (hn : n ≤ 1000000000000) (hbase : base ≤ w.heap.size)
    (h : ∀ g c w', w'.ownsRow base 32 2 (.slice (some ⟨g, 0, none⟩) (n + 1) c) (n + 1) (flatP (xs ++ [(y, z)])) → w.grownBy w' (Value.slice A0 n c0).ownBlock → base ≤ g → wpList Try.prog ops Q rest (a.put o.dst (.slice (some ⟨g, 0, none⟩) (n + 1) c)) w') :
    wpList Try.prog ops Q (o :: rest) a (w.alloc (.cells #[.int .i64 y, .int .i64 z] 32)) := by
  obtain ⟨i0, hi, hz0, hz1, hz2⟩ := info_parts infoAsk
  refine wpList_app hgd s x 25 ho base 32 i0 _ 2 16 Try.underlying25 hi hz0 hz1 hz2 rfl (by decide) (.slice A0 n c0) n _ hs hown [.int .i64 y, .int .i64 z] hx rfl (by simp [Value.oneCell']) (by omega) (by omega) hbase ?_
  intro g c w' h1 h2 h3
  exact h g c w' (by rw [flatP_append, flatP_one]; exact h1) h2 h3
theorem makeAsk (n : Nat) (hn : n ≤ 1048576) (W : World) : (Instr.makeSlice 25 (.int .i64 (n : Int)) (.int .i64 (n : Int))).run Try.prog W = .ok (.slice (some ⟨W.heap.size, 0, none⟩) n n) (W.alloc (.cells (madeCells #[.int .i64 0, .int .i64 0] (n * 2)) 32)) := by
  obtain ⟨i0, hi, hz0, hz1, hz2⟩ := info_parts infoAsk
  have := run_make (P := Try.prog) W 25 32 i0 _ Try.underlying25 hi hz0 .i64 .i64 n n (by omega) (by omega) (by rw [hz2]; omega) (by omega)
  rw [this, hz1]
  simp only [Int.toNat_natCast]
  rfl
theorem openArg_AskS {H : Type} {enc : TypeId × Value → H} {W : World} {len cap : Nat} {a : Option Addr} {d : DataW H} {p : List MemPlace}
    (h : DataW.Trod enc Try.prog W 0 (fun _ => true) true 22 (.slice a len cap) d p) (lt : ∀ x ∈ p, x.block < W.heap.size) : ∃ zs, IsRowP W a len cap zs :=
  openArg_pairs Try.underlying22 Try.underlying44 (by kernel_rfl) rfl rfl rfl rfl h
def IsRowAsk (k : World) (a : Option Addr) (len cap : Nat) (zs : List (Int × Int)) : Prop := IsRowP k a len cap zs
theorem isRowAsk_rd {w a len cap zs} (h : IsRowAsk w a len cap zs) : len ≤ cap ∧ cap ≤ maxLen ∧ RdP w w.heap.size a len (zs.take len) := isRowP_rd h
theorem toAsk_c (x y : Int) (w : World) :
    Calls Try.prog 36 #[.agg #[.int .i64 x, .int .i64 y]] w fun e w' => e = .returned (.agg #[.int .i64 x, .int .i64 y]) ∧ Below w.heap.size w w' := by
  go_enter Try.func36, Try.ntmps36
  go_wp2
  go_returns
  exact ⟨rfl, (((Below.refl _ _).alloc (Nat.le_refl _) _).alloc (by simp) _).alloc (by simp; omega) _⟩
/-- a block of pairs that is filled up to k -/
def FilledP (cs : Array Value) (ps : List (Int × Int)) (k : Nat) : Prop := ∀ t, t < k → cs[t * 2]? = some (.int .i64 (ps.getD t (0, 0)).1) ∧ cs[t * 2 + 1]? = some (.int .i64 (ps.getD t (0, 0)).2)
theorem FilledP.set {cs : Array Value} {ps : List (Int × Int)} {k : Nat} (h : FilledP cs ps k) (hk : k * 2 + 1 < cs.size) {u v : Int} (hu : ps.getD k (0, 0) = (u, v)) : FilledP ((cs.setIfInBounds (k * 2) (.int .i64 u)).setIfInBounds (k * 2 + 1) (.int .i64 v)) ps (k + 1) := by
  intro t ht
  by_cases e : t = k
  · subst e
    rw [hu]
    constructor
    · rw [Array.getElem?_setIfInBounds_ne (by omega), Array.getElem?_setIfInBounds_self_of_lt (by omega)]
    · rw [Array.getElem?_setIfInBounds_self_of_lt (by simp; omega)]
  · have := h t (by omega)
    constructor
    · rw [Array.getElem?_setIfInBounds_ne (by omega), Array.getElem?_setIfInBounds_ne (by omega)]; exact this.1
    · rw [Array.getElem?_setIfInBounds_ne (by omega), Array.getElem?_setIfInBounds_ne (by omega)]; exact this.2
theorem own_filledP {w : World} {base g e n : Nat} {cs : Array Value} {ps : List (Int × Int)} (h : Blk w g e cs) (hs : cs.size = n * 2) (hl : ps.length = n) (hf : FilledP cs ps n) (hb : base ≤ g) (hm : n ≤ maxLen) :
    w.ownsRow base e 2 (.slice (some ⟨g, 0, none⟩) n n) n (flatP ps) := by
  refine ⟨by rw [flatP_len, hl], .inr ⟨g, n, cs, rfl, hb, h, Nat.le_refl _, hm, hs, ?_⟩⟩
  apply List.ext_getElem?
  intro u
  rcases Nat.lt_or_ge u (n * 2) with hu | hu
  · rw [List.getElem?_take_of_lt hu, Array.getElem?_toList]
    have h1 := hf (u / 2) (by omega)
    have h2 := flatP_get ps (u / 2) (by omega)
    rcases Nat.mod_two_eq_zero_or_one u with e0 | e0
    · have e1 : u = u / 2 * 2 := by omega
      rw [e1, h1.1, h2.1]
    · have e1 : u = u / 2 * 2 + 1 := by omega
      rw [e1, h1.2, h2.2]
  · rw [List.getElem?_eq_none (by simp; omega), List.getElem?_eq_none (by rw [flatP_len]; omega)]
theorem toAskS_o {A : Option Addr} {c B : Nat} {xs : List (Int × Int)} {w : World} (hr : RdP w B A xs.length xs) (hB : B ≤ w.heap.size) (hn : xs.length ≤ 1048576) :
    Calls Try.prog 15 #[.slice A xs.length c] w (OwnAsk w xs) := by
  have hmk := makeAsk xs.length hn
  generalize hl : xs.length = n at *
  have HL := Lib.hid hl
  clear hl
  go_enter Try.func15, Try.ntmps15
  go_wp2
  go_loopw [4] (fun i wr => ∃ (k : Nat) (cs : Array Value), k ≤ n ∧ i = .int .i64 k ∧ Blk wr w.heap.size 32 cs ∧ cs.size = n * 2 ∧ FilledP cs xs k ∧ Below w.heap.size w wr) (fun i _ => n - (intOf i).toNat)
  case atStart => exact ⟨0, _, Nat.zero_le _, rfl, Blk.new _ _ _, by rw [size_madeCells], fun t ht => absurd ht (Nat.not_lt_zero _), (Below.refl _ _).alloc (Nat.le_refl _) _⟩
  case round =>
    obtain ⟨k, cs, hk, rfl, hblk, hcs, hfill, hbel⟩ := hrel
    by_cases hlt : k < n
    · obtain ⟨b, off, rfl, hbB, hc⟩ := hr.at_ (by omega)
      have e0 := (hbel.cell (p := ⟨b, off + k * 2, none⟩) (by exact Nat.lt_of_lt_of_le hbB hB)).trans (hc k hlt).1
      have e1 := (hbel.cell (p := ⟨b, off + k * 2 + 1, none⟩) (by exact Nat.lt_of_lt_of_le hbB hB)).trans (hc k hlt).2
      obtain ⟨u, v, huv⟩ : ∃ u v, xs.getD k (0, 0) = (u, v) := ⟨_, _, rfl⟩
      rw [huv] at e0 e1
      have HF := Lib.hid (hfill.set (by omega) huv)
      have hs1 := hblk.lt
      have HB := Lib.hid hbel
      clear hc hr hfill huv hbel hmk
      go_wp2_with fail
      refine (toAsk_c _ _ _).mono ?_
      rintro e w2 ⟨rfl, hb2⟩
      have hblk2 := hblk.below hb2 hblk.lt
      have hbel2 := HB.out.trans (hb2.mono HB.out.size)
      have f0 := (hblk2.cell (k * 2)).trans (Array.getElem?_eq_getElem (by omega))
      have f1 := (hblk2.cell (k * 2 + 1)).trans (Array.getElem?_eq_getElem (by omega))
      have z0 := hblk2.frozen (k * 2)
      have z1 := hblk2.frozen (k * 2 + 1)
      have HBK := Lib.hid ((hblk2.set_ (k * 2) (.int .i64 u)).set_ (k * 2 + 1) (.int .i64 v))
      have HC := Lib.hid hcs
      have HB2 := Lib.hid hbel2
      generalize cs[k * 2] = y0 at *
      generalize cs[k * 2 + 1] = y1 at *
      clear hblk2 hblk hb2 hcs hbel2 e0 e1
      go_wp2_with fail
      go_roundw
      case rel => exact ⟨k + 1, _, by omega, by go_num, HBK.out, by simp; exact HC.out, HF.out, (HB2.out.setCell (p := ⟨w.heap.size, k * 2, none⟩) (Nat.le_refl _) _).setCell (p := ⟨w.heap.size, k * 2 + 1, none⟩) (Nat.le_refl _) _⟩
      case measure => simp [intOf]; omega
    · have hkn : k = n := by omega
      subst hkn
      have how := own_filledP (base := w.heap.size) hblk hcs HL.out hfill (Nat.le_refl _) (by unfold maxLen; omega)
      clear hmk hblk hcs hfill
      go_wp2
      go_ret
      exact ownAsk_of HL.out how hbel
theorem eqAsk_same (x y : Int) (w : World) :
    Calls Try.prog 37 #[.agg #[.int .i64 x, .int .i64 y], .agg #[.int .i64 x, .int .i64 y]] w fun e w' => e = .returned (.bool true) ∧ Below w.heap.size w w' := by
  go_enter Try.func37, Try.ntmps37
  go_wp2
  go_ret
  exact ⟨rfl, ((Below.refl _ _).alloc (Nat.le_refl _) _).alloc (by simp) _⟩
theorem eqAskS_o {A A' : Option Addr} {n c c' B B' : Nat} {xs : List (Int × Int)} {w : World} (hr : RdP w B A n xs) (hr' : RdP w B' A' n xs) (hn : n ≤ 9000000000000) :
    Calls Try.prog 17 #[.slice A n c, .slice A' n c'] w fun e w' => e = .returned (.bool true) ∧ Below w.heap.size w w' := by
  go_enter Try.func17, Try.ntmps17
  go_wp2
  go_loopw [5] (fun i wr => ∃ k : Nat, k ≤ n ∧ i = .int .i64 k ∧ Below w.heap.size w wr) (fun i _ => n - (intOf i).toNat)
  case atStart => exact ⟨0, Nat.zero_le _, rfl, Below.refl _ _⟩
  case round =>
    obtain ⟨k, hk, rfl, hbel⟩ := hrel
    by_cases hlt : k < n
    · obtain ⟨b, off, rfl, hbB, hc⟩ := hr.at_ (by omega)
      obtain ⟨b', off', rfl, hbB', hc'⟩ := hr'.at_ (by omega)
      have l0 := block_lt_of_cell (hc k hlt).1
      have l1 := block_lt_of_cell (hc' k hlt).1
      have e0 := (hbel.cell (p := ⟨b, off + k * 2, none⟩) l0).trans (hc k hlt).1
      have e1 := (hbel.cell (p := ⟨b, off + k * 2 + 1, none⟩) l0).trans (hc k hlt).2
      have e2 := (hbel.cell (p := ⟨b', off' + k * 2, none⟩) l1).trans (hc' k hlt).1
      have e3 := (hbel.cell (p := ⟨b', off' + k * 2 + 1, none⟩) l1).trans (hc' k hlt).2
      obtain ⟨u, v, huv⟩ : ∃ u v, xs.getD k (0, 0) = (u, v) := ⟨_, _, rfl⟩
      rw [huv] at e0 e1 e2 e3
      have HB := Lib.hid hbel
      clear hc hr hc' hr' huv hbel
      go_wp2_with fail
      go_region_with (go_at_call 37; refine (eqAsk_same _ _ _).mono ?_; rintro e w2 ⟨rfl, hb2⟩)
      all_goals
        go_wp2_with fail
        go_roundw
        case rel => exact ⟨k + 1, by omega, by go_num, HB.out.drew.trans (hb2.mono HB.out.size)⟩
        case measure => simp [intOf]; omega
    · have hkn : k = n := by omega
      subst hkn
      go_wp2
      go_ret
      exact ⟨rfl, hbel⟩
theorem markAskS_o {A : Option Addr} {n c base : Nat} {xs : List (Int × Int)} {w : World} {k0 : Int} (hown : w.ownsRow base 32 2 (.slice A n c) n (flatP xs)) (hk0 : 0 ≤ k0) (hk1 : k0 ≤ 1000000000000) (hn : n ≤ 1000000000000) :
    Calls Try.prog 24 #[.slice A n c, .int .i64 k0] w fun e w' => e = .returned (.int .i64 (k0 + 2 * n)) ∧ w'.ownsRow base 32 2 (.slice A n c) n (flatP (marksP k0 n)) ∧ w.grownBy w' (Value.slice A n c).ownBlock := by
  have hl : xs.length = n := by have := hown.1; rw [flatP_len] at this; omega
  go_enter Try.func24, Try.ntmps24
  go_wp2
  go_loopw [1, 5] (fun kk i wr => ∃ j : Nat, j ≤ n ∧ i = .int .i64 j ∧ kk = .int .i64 (k0 + 2 * j) ∧ wr.ownsRow base 32 2 (.slice A n c) n (flatP (markToP k0 j xs)) ∧ w.grownBy wr (Value.slice A n c).ownBlock) (fun _ i _ => n - (intOf i).toNat)
  case atStart => exact ⟨0, Nat.zero_le _, rfl, by simp, by rw [markToP_zero]; exact hown, World.grownBy.refl _ _⟩
  case round =>
    obtain ⟨j, hj, rfl, rfl, howr, hg⟩ := hrel
    by_cases hlt : j < n
    · have hform : ∃ g, A = some ⟨g, 0, none⟩ := by
        rcases howr.2 with ⟨h1, h2⟩ | ⟨g, cap, cur, h1, _⟩
        · omega
        · injection h1 with h1; exact ⟨g, h1⟩
      obtain ⟨g, rfl⟩ := hform
      have hml : (markToP k0 j xs).length = n := by rw [markToP_len _ _ _ (by omega)]; exact hl
      have f0 := (howr.cellAt (g := g) (cap := c) (j * 2) (by omega)).trans (flatP_get _ j (by omega)).1
      have f1 := (howr.cellAt (g := g) (cap := c) (j * 2 + 1) (by omega)).trans (flatP_get _ j (by omega)).2
      have z0 := howr.frozenAt (g := g) (cap := c) (j * 2)
      have z1 := howr.frozenAt (g := g) (cap := c) (j * 2 + 1)
      have hst := own_storedP howr j hlt (k0 + 2 * (j : Int)) (k0 + 2 * (j : Int) + 1)
      rw [markToP_succ k0 j xs (by omega)] at hst
      have HST := Lib.hid hst
      have HG := Lib.hid hg
      generalize (markToP k0 j xs).getD j (0, 0) = y at *
      clear hst hg howr hown hl hml
      go_wp2
      go_roundw
      case rel => exact ⟨j + 1, by omega, by go_num, by go_num, HST.out, gb_setCell (g := g) (p := ⟨g, j * 2 + 1, none⟩) (gb_setCell (g := g) (p := ⟨g, j * 2, none⟩) HG.out (.inl rfl) _) (.inl rfl) _⟩
      case measure => simp [intOf]; omega
    · have hkn : j = n := by omega
      subst hkn
      have how : wr.ownsRow base 32 2 (.slice A j c) j (flatP (marksP k0 j)) := by rw [← hl, markToP_all, hl] at howr; exact howr
      clear howr hown
      go_wp2
      go_ret
      exact ⟨rfl, how, hg⟩
theorem heldAskS_o {A : Option Addr} {n c base : Nat} {w : World} {k0 : Int} (hown : w.ownsRow base 32 2 (.slice A n c) n (flatP (marksP k0 n))) (hk0 : 0 ≤ k0) (hk1 : k0 ≤ 1000000000000) (hn : n ≤ 1000000000000) :
    Calls Try.prog 25 #[.slice A n c, .int .i64 k0] w fun e w' => e = .returned (.int .i64 (k0 + 2 * n)) ∧ w = w' := by
  have hr := rdoP hown
  clear hown
  go_enter Try.func25, Try.ntmps25
  go_wp2
  go_loop [1, 5] (fun kk i => ∃ j : Nat, j ≤ n ∧ i = .int .i64 j ∧ kk = .int .i64 (k0 + 2 * j)) (fun _ i => n - (intOf i).toNat)
  case atStart => exact ⟨0, Nat.zero_le _, rfl, by simp⟩
  case round =>
    obtain ⟨j, hj, rfl, rfl⟩ := hrel
    by_cases hlt : j < n
    · obtain ⟨b, off, rfl, hbB, hc⟩ := hr.at_ (by omega)
      obtain ⟨hc1, hc2⟩ := hc j hlt
      rw [marksP_getD _ _ _ hlt] at hc1 hc2
      simp only at hc1 hc2
      clear hr hc
      go_wp2
      go_round
      case rel => exact ⟨j + 1, by omega, by go_num, by go_num⟩
      case measure => simp [intOf]; omega
    · have hkn : j = n := by omega
      subst hkn
      go_wp2
      go_ret
      exact ⟨rfl, rfl⟩
theorem szAskS_yes {A : Option Addr} {n c : Nat} {w : World} (hn : n ≤ 1048576) :
    Calls Try.prog 13 #[.slice A n c, .int .i64 1048576] w fun e w' => e = .returned (.int .i64 (1048576 - n)) ∧ w = w' := by
  go_enter Try.func13, Try.ntmps13
  go_wp2
  all_goals (go_ret; exact ⟨rfl, rfl⟩)
theorem szAskS_no {A : Option Addr} {n c : Nat} {w : World} (hn : 1048576 < n) (hm : n ≤ 9223372036854775807) :
    Calls Try.prog 13 #[.slice A n c, .int .i64 1048576] w fun e w' => e = .returned (.int .i64 (-1)) ∧ w = w' := by
  go_enter Try.func13, Try.ntmps13
  go_wp2
  all_goals (go_ret; exact ⟨rfl, rfl⟩)
end Go.Proofs.Ytmkmobgmlhioaaa
