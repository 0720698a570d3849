/- The reader of a law's code: l20Open, pick, odd: whatever the bytes, pick n gives a number in 0..n-1 (0 if n is less than 1) and turns the reader's own block alone. No condition. -/
import Derived.Test.YtjnpgdhpneifjaaInts
namespace Go.Proofs.Ytjnpgdhpneifjaa
open Go.ChangeShapes Go.WideShapes Go.ChangeAt Go.RowKit
set_option linter.unusedVariables false

/-- block g is a reader whose bytes lie below block B, and that has read at most p of them -/
def Rdr (w : World) (B g p : Nat) : Prop := B ≤ g ∧ ∃ (A : Option Addr) (n c q : Nat) (xs : List Int), q ≤ p ∧ Blk w g 108 #[.slice A n c, .int .i64 q] ∧ RdI .u8 w B A n xs ∧ (∀ i, 0 ≤ xs.getD i 0 ∧ xs.getD i 0 ≤ 255) ∧ n ≤ 2000
theorem Rdr.mono {w B g p p'} (h : Rdr w B g p) (hp : p ≤ p') : Rdr w B g p' := by
  obtain ⟨h0, A, n, c, q, xs, hq, h⟩ := h
  exact ⟨h0, A, n, c, q, xs, by omega, h⟩
theorem Rdr.grown {w w' B g p} {row : Option Nat} (h : Rdr w B g p) (hg : w.grownBy w' row) (hne : ∀ k, row = some k → B ≤ k ∧ k ≠ g) : Rdr w' B g p := by
  obtain ⟨h0, A, n, c, q, xs, hq, hb, hr, h⟩ := h
  have hlt := hb.lt
  exact ⟨h0, A, n, c, q, xs, hq, hb.grown hg (fun e => (hne g e.symm).2 rfl), hr.below ((Below.refl _ _).grown hg (by omega) (fun k hk => (hne k hk).1)), h⟩
theorem Rdr.alloc {w B g p} (h : Rdr w B g p) (o : Obj) : Rdr (w.alloc o) B g p :=
  h.grown (row := none) (gb_alloc (World.grownBy.refl _ _) o) (fun k e => by cases e)
theorem Rdr.drew {w B g p} (h : Rdr w B g p) : Rdr w.drew B g p :=
  h.grown (row := none) (gb_drew (World.grownBy.refl _ _)) (fun k e => by cases e)
theorem Rdr.drewN {w B g p} (h : Rdr w B g p) (n : Nat) : Rdr (w.drewN n) B g p :=
  h.grown (row := none) (gb_drewN (World.grownBy.refl _ _) n) (fun k e => by cases e)
theorem Rdr.lt {w B g p} (h : Rdr w B g p) : B ≤ g ∧ g < w.heap.size := by
  obtain ⟨h0, A, n, c, q, xs, hq, hb, _⟩ := h
  exact ⟨h0, hb.lt⟩

/-- what a call leaves that turned block g alone -/
def PickPost (B g p : Nat) (m : Int) (w : World) (e : Ending) (w' : World) : Prop :=
  ∃ v : Int, e = .returned (.int .i64 v) ∧ 0 ≤ v ∧ (v < m ∨ v = 0) ∧ Rdr w' B g (p + 1) ∧ w.grownBy w' (some g)

theorem xor_tmod (X m : Int) (h0 : 0 ≤ X) (h1 : X < 1000000000) (hm : 1 ≤ m) : 0 ≤ (bits BinOp.xor IntKind.i64 X (X / 64)).tmod m ∧ (bits BinOp.xor IntKind.i64 X (X / 64)).tmod m < m := by
  obtain ⟨a, rfl⟩ := Int.eq_ofNat_of_zero_le h0
  have e : ((a : Int) / 64) = ((a / 64 : Nat) : Int) := by omega
  rw [e, i64_xor_nat _ _ (by omega) (by omega)]
  exact ⟨Int.tmod_nonneg _ (by omega), Int.tmod_lt_of_pos _ (by omega)⟩
theorem rdr_step {w B g p} {A : Option Addr} {n c q : Nat} {xs : List Int} (h0 : B ≤ g) (hq : q ≤ p) (hb : Blk w g 108 #[.slice A n c, .int .i64 q]) (hr : RdI .u8 w B A n xs) (hx : ∀ i, 0 ≤ xs.getD i 0 ∧ xs.getD i 0 ≤ 255) (hn : n ≤ 2000) (nq : Nat) :
    Rdr ((w.setCell ⟨g, 1, none⟩ (.int .i64 (↑q + 1))).drewN nq) B g (p + 1) ∧ w.grownBy ((w.setCell ⟨g, 1, none⟩ (.int .i64 (↑q + 1))).drewN nq) (some g) := by
  have hlt := hb.lt
  refine ⟨⟨h0, A, n, c, q + 1, xs, by omega, ?_, ?_, hx, hn⟩, gb_drewN (gb_setCell (World.grownBy.refl _ _) (.inl rfl) _) _⟩
  · exact (hb.set_ 1 _).drewN nq
  · exact hr.below (below_drewN ((Below.refl _ _).setCell (p := ⟨g, 1, none⟩) h0 _) _)

/-- what pick gives: the bytes xs, q of them read, n = m -/
def pv (xs : List Int) (q : Nat) (m : Int) : Int :=
  if m < 1 ∨ xs.length = 0 then 0
  else if q < xs.length then xs.getD q 0 % m
  else (bits BinOp.xor IntKind.i64 (xs.getD (q % xs.length) 0 * 131 + xs.getD ((q * 7 + 3) % xs.length) 0 * 1117 + ↑q * 29 + ↑q / ↑xs.length * 53)
    ((xs.getD (q % xs.length) 0 * 131 + xs.getD ((q * 7 + 3) % xs.length) 0 * 1117 + ↑q * 29 + ↑q / ↑xs.length * 53) / 64)).tmod m
theorem pv_range (xs : List Int) (q : Nat) (m : Int) (hq : q < 1000000) (hx : ∀ i, 0 ≤ xs.getD i 0 ∧ xs.getD i 0 ≤ 255) : 0 ≤ pv xs q m ∧ (pv xs q m < m ∨ pv xs q m = 0) := by
  unfold pv
  split
  · omega
  · split
    · exact ⟨Int.emod_nonneg _ (by omega), .inl (Int.emod_lt_of_pos _ (by omega))⟩
    · have d1 : 0 ≤ (q : Int) / (xs.length : Int) := Int.ediv_nonneg (by omega) (by omega)
      have d2 : (q : Int) / (xs.length : Int) ≤ q := Int.ediv_le_self _ (by omega)
      have h1 := hx (q % xs.length)
      have h2 := hx ((q * 7 + 3) % xs.length)
      have := xor_tmod (xs.getD (q % xs.length) 0 * 131 + xs.getD ((q * 7 + 3) % xs.length) 0 * 1117 + ↑q * 29 + ↑q / ↑xs.length * 53) m (by omega) (by omega) (by omega)
      exact ⟨this.1, .inl this.2⟩

theorem pick_mix (g p n c : Nat) (b off : Nat) (m : Int) (xs : List Int) (w : World) (hb : Blk w g 108 #[.slice (some ⟨b, off, none⟩) n c, .int .i64 p]) (hp : p < 1000000) (hl : xs.length = n) (hn0 : 0 < n) (hn : n ≤ 2000) (hnp : n ≤ p) (hm : 1 ≤ m)
   (c1 : ∀ i, i < n → w.cell? ⟨b, off + i, none⟩ = some (.int .u8 (xs.getD i 0))) (hx : ∀ i, 0 ≤ xs.getD i 0 ∧ xs.getD i 0 ≤ 255) (hgb : b ≠ g) :
   Calls Try.prog 40 #[.pointer (some ⟨g, 0, none⟩), .int .i64 m] w fun e w' => e = .returned (.int .i64 (pv xs p m)) ∧ ∃ nq, w' = (w.setCell ⟨g, 1, none⟩ (.int .i64 (↑p + 1))).drewN nq := by
  have h0 := hb.cell 0
  have h1 := hb.cell 1
  have hf := hb.frozen 1
  simp at h0 h1
  have h0' : (w.setCell ⟨g, 1, none⟩ (.int .i64 (↑p + 1))).cell? ⟨g, 0, none⟩ = some (.slice (some ⟨b, off, none⟩) n c) := by
    rw [(hb.set_ 1 _).cell 0]; rfl
  have h1' : (w.setCell ⟨g, 1, none⟩ (.int .i64 (↑p + 1))).cell? ⟨g, 1, none⟩ = some (.int .i64 (↑p + 1)) := by
    rw [(hb.set_ 1 _).cell 1]; rfl
  have hz : ((n : Int) == 0) = false := by simp; omega
  have hn1 : ¬ n = 0 := by omega
  have q1 : 0 ≤ (p : Int) % (n : Int) := Int.emod_nonneg _ (by omega)
  have q2 : (p : Int) % (n : Int) < n := Int.emod_lt_of_pos _ (by omega)
  have r1 : 0 ≤ ((p : Int) * 7 + 3) % (n : Int) := Int.emod_nonneg _ (by omega)
  have r2 : ((p : Int) * 7 + 3) % (n : Int) < n := Int.emod_lt_of_pos _ (by omega)
  have c2 := c1 (p % n) (Nat.mod_lt _ hn0)
  have c3 := c1 ((p * 7 + 3) % n) (Nat.mod_lt _ hn0)
  obtain ⟨x1l, x1h⟩ := hx (p % n)
  obtain ⟨x2l, x2h⟩ := hx ((p * 7 + 3) % n)
  have HV : pv xs p m = (bits BinOp.xor IntKind.i64 (xs.getD (p % n) 0 * 131 + xs.getD ((p * 7 + 3) % n) 0 * 1117 + ↑p * 29 + ↑p / ↑n * 53)
    ((xs.getD (p % n) 0 * 131 + xs.getD ((p * 7 + 3) % n) 0 * 1117 + ↑p * 29 + ↑p / ↑n * 53) / 64)).tmod m := by
    unfold pv; rw [if_neg (by omega), if_neg (by omega), hl]
  have HV := Lib.hid HV
  have HL := Lib.hid hl
  clear hl
  generalize xs.getD (p % n) 0 = x1 at *
  generalize xs.getD ((p * 7 + 3) % n) 0 = x2 at *
  have d1 : 0 ≤ (p : Int) / (n : Int) := Int.ediv_nonneg (by omega) (by omega)
  have d2 : (p : Int) / (n : Int) ≤ p := Int.ediv_le_self _ (by omega)
  clear c1 hx
  go_enter Try.func40, Try.ntmps40
  go_wp2
  go_quiet (fail)
  go_wp2
  go_ret
  exact ⟨ret_int HV.out.symm, nq, rfl⟩

theorem pick_low (g p n c : Nat) (b off : Nat) (m : Int) (xs : List Int) (w : World) (hb : Blk w g 108 #[.slice (some ⟨b, off, none⟩) n c, .int .i64 p]) (hp : p < 1000000) (hl : xs.length = n) (hn : n ≤ 2000) (hnp : p < n) (hm : 1 ≤ m)
   (c1 : ∀ i, i < n → w.cell? ⟨b, off + i, none⟩ = some (.int .u8 (xs.getD i 0))) (hx : ∀ i, 0 ≤ xs.getD i 0 ∧ xs.getD i 0 ≤ 255) (hgb : b ≠ g) :
   Calls Try.prog 40 #[.pointer (some ⟨g, 0, none⟩), .int .i64 m] w fun e w' => e = .returned (.int .i64 (pv xs p m)) ∧ ∃ nq, w' = (w.setCell ⟨g, 1, none⟩ (.int .i64 (↑p + 1))).drewN nq := by
  have h0 := hb.cell 0
  have h1 := hb.cell 1
  have hf := hb.frozen 1
  simp at h0 h1
  have h0' : (w.setCell ⟨g, 1, none⟩ (.int .i64 (↑p + 1))).cell? ⟨g, 0, none⟩ = some (.slice (some ⟨b, off, none⟩) n c) := by
    rw [(hb.set_ 1 _).cell 0]; rfl
  have h1' : (w.setCell ⟨g, 1, none⟩ (.int .i64 (↑p + 1))).cell? ⟨g, 1, none⟩ = some (.int .i64 (↑p + 1)) := by
    rw [(hb.set_ 1 _).cell 1]; rfl
  have hz : ((n : Int) == 0) = false := by simp; omega
  have c2 := c1 p hnp
  obtain ⟨x1l, x1h⟩ := hx p
  have HV : pv xs p m = xs.getD p 0 % m := by
    unfold pv; rw [if_neg (by omega), if_pos (by omega)]
  have HV := Lib.hid HV
  clear hl
  generalize xs.getD p 0 = x1 at *
  clear c1 hx
  go_enter Try.func40, Try.ntmps40
  go_wp2
  go_ret
  exact ⟨ret_int HV.out.symm, 0, rfl⟩

theorem pick_zero (g p n c : Nat) (A : Option Addr) (m : Int) (xs : List Int) (w : World) (hl : xs.length = n) (hb : Blk w g 108 #[.slice A n c, .int .i64 p]) (hp : p < 1000000) (hm : m < 1 ∨ n = 0) :
   Calls Try.prog 40 #[.pointer (some ⟨g, 0, none⟩), .int .i64 m] w fun e w' => e = .returned (.int .i64 (pv xs p m)) ∧ ∃ nq, w' = (w.setCell ⟨g, 1, none⟩ (.int .i64 (↑p + 1))).drewN nq := by
  have h0 := hb.cell 0
  have h1 := hb.cell 1
  have hf := hb.frozen 1
  simp at h0 h1
  have h0' : (w.setCell ⟨g, 1, none⟩ (.int .i64 (↑p + 1))).cell? ⟨g, 0, none⟩ = some (.slice A n c) := by
    rw [(hb.set_ 1 _).cell 0]; rfl
  by_cases hm1 : m < 1
  · go_enter Try.func40, Try.ntmps40
    go_wp2
    go_ret
    exact ⟨ret_int (by unfold pv; rw [if_pos (.inl hm1)]), 0, rfl⟩
  · obtain rfl : n = 0 := by omega
    have HL := Lib.hid hl
    clear hl
    go_enter Try.func40, Try.ntmps40
    go_wp2
    go_ret
    exact ⟨ret_int (by unfold pv; rw [if_pos (.inr HL.out)]), 0, rfl⟩

theorem pick_x {B g q n c : Nat} {A : Option Addr} {m : Int} {xs : List Int} {w : World} (h0 : B ≤ g) (hb : Blk w g 108 #[.slice A n c, .int .i64 q]) (hr : RdI .u8 w B A n xs) (hx : ∀ i, 0 ≤ xs.getD i 0 ∧ xs.getD i 0 ≤ 255) (hn : n ≤ 2000) (hp : q < 1000000) :
    Calls Try.prog 40 #[.pointer (some ⟨g, 0, none⟩), .int .i64 m] w fun e w' => e = .returned (.int .i64 (pv xs q m)) ∧ ∃ nq, w' = (w.setCell ⟨g, 1, none⟩ (.int .i64 (↑q + 1))).drewN nq := by
  by_cases hz : m < 1 ∨ n = 0
  · exact pick_zero g q n c A m xs w hr.len hb (by omega) hz
  · obtain ⟨b, off, rfl, hbB, hc⟩ := hr.at_ (by omega)
    by_cases hl : q < n
    · exact pick_low g q n c b off m xs w hb (by omega) hr.len hn hl (by omega) hc hx (by omega)
    · exact pick_mix g q n c b off m xs w hb (by omega) hr.len (by omega) hn (by omega) (by omega) hc hx (by omega)

theorem pick_c {B g p : Nat} {m : Int} {w : World} (h : Rdr w B g p) (hp : p < 1000000) :
    Calls Try.prog 40 #[.pointer (some ⟨g, 0, none⟩), .int .i64 m] w (PickPost B g p m w) := by
  obtain ⟨h0, A, n, c, q, xs, hq, hb, hr, hx, hn⟩ := h
  refine (pick_x h0 hb hr hx hn (by omega)).mono ?_
  rintro e w' ⟨he, nq, rfl⟩
  have := rdr_step h0 hq hb hr hx hn nq
  have hv := pv_range xs q m (by omega) hx
  exact ⟨_, he, hv.1, hv.2, this.1, this.2⟩

/-- the same, with what has become of the world since w0 -/
theorem pick_b {B g p : Nat} {m : Int} {w0 w : World} (h : Rdr w B g p) (bel : Below B w0 w) (hp : p < 1000000) :
    Calls Try.prog 40 #[.pointer (some ⟨g, 0, none⟩), .int .i64 m] w fun e w' => ∃ v : Int, e = .returned (.int .i64 v) ∧ 0 ≤ v ∧ (v < m ∨ v = 0) ∧ Rdr w' B g (p + 1) ∧ Below B w0 w' ∧ w.grownBy w' (some g) := by
  refine (pick_c h hp).mono ?_
  rintro e w' ⟨v, he, h1, h2, h3, h4⟩
  exact ⟨v, he, h1, h2, h3, below_of_gb bel h4 (by have := h.lt; omega) h.1, h4⟩
def OddPost (B g p : Nat) (w : World) (e : Ending) (w' : World) : Prop :=
  ∃ b : Bool, e = .returned (.bool b) ∧ Rdr w' B g (p + 1) ∧ w.grownBy w' (some g)
theorem odd_c {B g p : Nat} {m : Int} {w : World} (h : Rdr w B g p) (hp : p < 1000000) (hm1 : 0 < m) (hm2 : m < 1000000) :
    Calls Try.prog 82 #[.pointer (some ⟨g, 0, none⟩), .int .i64 m] w (OddPost B g p w) := by
  go_enter Try.func82, Try.ntmps82
  go_wp2_with (go_at_call 40; refine (pick_c h hp).mono ?_; rintro e w' ⟨v, rfl, hv1, hv2, hr, hg⟩)
  go_ret
  exact ⟨_, rfl, hr, hg⟩

theorem tab_at {w : World} {g : Nat} {t : TypeId} (l : List Int) (hb : Blk w g t (l.map (Value.int .i64)).toArray) (lo up : Int) (hall : ∀ x ∈ l, lo ≤ x ∧ x ≤ up) {i : Int} (h0 : 0 ≤ i) (hi : i < l.length) :
    ∃ x, lo ≤ x ∧ x ≤ up ∧ w.cell? ⟨g, i.toNat, none⟩ = some (.int .i64 x) := by
  have hlt : i.toNat < l.length := by omega
  refine ⟨l[i.toNat], (hall _ (List.getElem_mem hlt)).1, (hall _ (List.getElem_mem hlt)).2, ?_⟩
  rw [hb.cell]
  simp [hlt]
theorem tab_in (ls : List Value) (l : List Int) (hl : ls = l.map (Value.int .i64)) (lo up : Int) (hall : ∀ x ∈ l, lo ≤ x ∧ x ≤ up) {i : Int} (h0 : 0 ≤ i) (hi : i < l.length) :
    ∃ x, lo ≤ x ∧ x ≤ up ∧ ls.toArray[i.toNat]? = some (.int .i64 x) ∧ ∀ h, ls[i.toNat]'h = .int .i64 x := by
  subst hl
  have hlt : i.toNat < l.length := by omega
  exact ⟨l[i.toNat], (hall _ (List.getElem_mem hlt)).1, (hall _ (List.getElem_mem hlt)).2, by simp [hlt], by simp⟩
theorem Blk.new1 (w : World) (o : Obj) (t : TypeId) (cs : Array Value) : Blk ((w.alloc o).alloc (.cells cs t)) (w.heap.size + 1) t cs := by
  have := Blk.new (w.alloc o) t cs; rwa [World.size_alloc] at this
theorem Blk.picked {w : World} {g : Nat} {t : TypeId} {A : Option Addr} {n c q : Nat} (hb : Blk w g t #[.slice A n c, .int .i64 q]) :
    Blk (w.setCell ⟨g, 1, none⟩ (.int .i64 (↑q + 1))) g t #[.slice A n c, .int .i64 ((q + 1 : Nat) : Int)] := (hb.set_ 1 _)
def Int1 (w : World) (e : Ending) (w' : World) : Prop := ∃ a : Int, e = .returned (.int .i64 a) ∧ Below w.heap.size w w'
def Int2 (w : World) (e : Ending) (w' : World) : Prop := ∃ a b : Int, e = .returned (.tuple #[.int .i64 a, .int .i64 b]) ∧ Below w.heap.size w w'
def Int3 (w : World) (e : Ending) (w' : World) : Prop := ∃ a b c : Int, e = .returned (.tuple #[.int .i64 a, .int .i64 b, .int .i64 c]) ∧ Below w.heap.size w w'

theorem open_c {A : Option Addr} {n c : Nat} {xs : List Int} {w : World} (hr : RdI .u8 w w.heap.size A n xs) (hx : ∀ x ∈ xs, 0 ≤ x ∧ x ≤ 255) (hnc : n ≤ c) (hcm : c ≤ 9223372036854775807) :
    Calls Try.prog 38 #[.slice A n c] w fun e w' => e = .returned (.pointer (some ⟨w.heap.size, 0, none⟩)) ∧ Rdr w' w.heap.size w.heap.size 0 ∧ Below w.heap.size w w' := by
  have hxx : ∀ i, 0 ≤ xs.getD i 0 ∧ xs.getD i 0 ≤ 255 := by
    intro i
    rw [List.getD_eq_getElem?_getD]
    rcases Nat.lt_or_ge i xs.length with h | h
    · rw [List.getElem?_eq_getElem h]; exact hx _ (List.getElem_mem h)
    · rw [List.getElem?_eq_none h]; simp
  by_cases hl : n ≤ 2000
  · go_enter Try.func38, Try.ntmps38
    go_wp2
    go_ret
    have hb := (Below.refl w.heap.size w).alloc (Nat.le_refl _) (Obj.cells #[Value.slice A n c, Value.int IntKind.i64 0] 108)
    exact ⟨rfl, ⟨Nat.le_refl _, A, n, c, 0, xs, Nat.le_refl _, Blk.new _ _ _, hr.below hb, hxx, hl⟩, hb⟩
  · obtain ⟨b, off, rfl, hbB, hc⟩ := hr.at_ (by omega)
    have hlen := hr.len
    go_enter Try.func38, Try.ntmps38
    go_wp2
    go_ret
    have hb := (Below.refl w.heap.size w).alloc (Nat.le_refl _) (Obj.cells #[Value.slice (some ⟨b, off, none⟩) 2000 c, Value.int IntKind.i64 0] 108)
    have hr' : RdI .u8 w w.heap.size (some ⟨b, off, none⟩) 2000 (xs.take 2000) := ⟨by simp; omega, fun _ => ⟨b, off, rfl, hbB, fun i hi => by
      rw [hc i (by omega), List.getD_eq_getElem?_getD, List.getD_eq_getElem?_getD, List.getElem?_take_of_lt hi]⟩⟩
    refine ⟨rfl, ⟨Nat.le_refl _, _, 2000, c, 0, xs.take 2000, Nat.le_refl _, Blk.new _ _ _, hr'.below hb, fun i => ?_, Nat.le_refl _⟩, hb⟩
    rw [List.getD_eq_getElem?_getD]
    rcases Nat.lt_or_ge i 2000 with h | h
    · rw [List.getElem?_take_of_lt h, ← List.getD_eq_getElem?_getD]; exact hxx i
    · rw [List.getElem?_eq_none (by simp; omega)]; simp
end Go.Proofs.Ytjnpgdhpneifjaa
