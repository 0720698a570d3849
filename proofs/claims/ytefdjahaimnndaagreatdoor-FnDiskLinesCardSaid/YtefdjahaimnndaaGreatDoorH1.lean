/- Parts of the proof, one after the other. -/
import Derived.Test.YtefdjahaimnndaaGreatDoorC18
namespace Go.Proofs.YtefdjahaimnndaaGreatDoor
open Go.ChangeShapes Go.WideShapes Go.ChangeAt Go.RowKit Go.Deep
open Go.Lib (hid)
set_option linter.unusedVariables false
set_option linter.unusedSimpArgs false
theorem laidOut : laidOutB Tryz.prog = true := by kernel_rfl
def IsRow (k : IntKind) (w : World) (a : Option Addr) (len cap : Nat) (zs : List Int) : Prop :=
 (a = none ∧ len = 0 ∧ cap = 0 ∧ zs = []) ∨
 ∃ x, a = some x ∧ len ≤ cap ∧ cap ≤ maxLen ∧ zs.length = cap ∧ (∀ i, i < zs.length → w.cell? (x.add i) = some (.int k (zs.getD i 0))) ∧ ∀ n ∈ zs, (Lit.int k n).wf = true
theorem isRow_rd {k w a len cap zs} (h : IsRow k w a len cap zs) : len ≤ cap ∧ cap ≤ maxLen ∧ RdI k w w.heap.size a len (zs.take len) ∧ ∀ n ∈ zs.take len, (Lit.int k n).wf = true := by
 rcases h with ⟨rfl, rfl, rfl, rfl⟩ | ⟨x, rfl, hl, hm, hz, hc, hw⟩
 · exact ⟨Nat.le_refl _, by decide, ⟨rfl, fun h => absurd h (Nat.lt_irrefl _)⟩, by simp⟩
 · refine ⟨hl, hm, ⟨by simp; omega, fun hn => ?_⟩, fun n hn => hw n (List.mem_of_mem_take hn)⟩; obtain ⟨b, off, spot⟩ := x; have hc0 := hc 0 (by omega); have hspot : spot = none := by simpa [Addr.add] using World.cell?_spot hc0
   subst hspot; refine ⟨b, off, rfl, by simpa [Addr.add] using block_lt_of_cell hc0, fun i hi => ?_⟩; have := hc i (by omega); rw [add_none] at this; rw [this, List.getD_eq_getElem?_getD, List.getD_eq_getElem?_getD, List.getElem?_take_of_lt hi]
theorem gb_drewN {a w : World} {row : Option Nat} (h : a.grownBy w row) (n : Nat) : a.grownBy (w.drewN n) row := ⟨h.os, h.tape, h.output, h.size, h.block⟩
theorem gb_alloc {a w : World} {row : Option Nat} (h : a.grownBy w row) (o : Obj) : a.grownBy (w.alloc o) row :=
 ⟨h.os, h.tape, h.output, Nat.le_trans h.size (by simp), fun i hi hne => (Below.heap_alloc w o i (Nat.lt_of_lt_of_le hi h.size)).trans (h.block i hi hne)⟩
theorem ofInt_i64 (a : Nat) (ha : a < 9223372036854775808) : (BitVec.ofInt 64 (a : Int)).toNat = a := by
 rw [BitVec.ofInt_natCast, BitVec.toNat_ofNat]; exact Nat.mod_eq_of_lt (by omega)
theorem i64_xor_nat (a b : Nat) (ha : a < 9223372036854775808) (hb : b < 9223372036854775808) : bits .xor .i64 (a : Int) (b : Int) = ((a ^^^ b : Nat) : Int) := by
 have hx : a ^^^ b < 2 ^ 63 := Nat.xor_lt_two_pow (by omega) (by omega); show IntKind.i64.wrap ((BitVec.ofInt 64 (a : Int) ^^^ BitVec.ofInt 64 (b : Int)).toNat : Int) = _
 rw [BitVec.toNat_xor, ofInt_i64 a ha, ofInt_i64 b hb, IntKind.wrap_i64]; omega
def Rdr (w : World) (B g p : Nat) : Prop := B ≤ g ∧ ∃ (A : Option Addr) (n c q : Nat) (xs : List Int), q ≤ p ∧ Blk w g 118 #[.slice A n c, .int .i64 q] ∧ RdI .u8 w B A n xs ∧ (∀ i, 0 ≤ xs.getD i 0 ∧ xs.getD i 0 ≤ 255) ∧ n ≤ 2000
theorem Rdr.mono {w B g p p'} (h : Rdr w B g p) (hp : p ≤ p') : Rdr w B g p' := by
 obtain ⟨h0, A, n, c, q, xs, hq, h⟩ := h; exact ⟨h0, A, n, c, q, xs, by omega, h⟩
theorem Rdr.grown {w w' B g p} {row : Option Nat} (h : Rdr w B g p) (hg : w.grownBy w' row) (hne : ∀ k, row = some k → B ≤ k ∧ k ≠ g) : Rdr w' B g p := by
 obtain ⟨h0, A, n, c, q, xs, hq, hb, hr, h⟩ := h; have hlt := hb.lt; exact ⟨h0, A, n, c, q, xs, hq, hb.grown hg (fun e => (hne g e.symm).2 rfl), hr.below ((Below.refl _ _).grown hg (by omega) (fun k hk => (hne k hk).1)), h⟩
theorem Rdr.alloc {w B g p} (h : Rdr w B g p) (o : Obj) : Rdr (w.alloc o) B g p :=
 h.grown (row := none) (gb_alloc (World.grownBy.refl _ _) o) (fun k e => by cases e)
theorem Rdr.drew {w B g p} (h : Rdr w B g p) : Rdr w.drew B g p :=
 h.grown (row := none) (gb_drew (World.grownBy.refl _ _)) (fun k e => by cases e)
theorem Rdr.drewN {w B g p} (h : Rdr w B g p) (n : Nat) : Rdr (w.drewN n) B g p :=
 h.grown (row := none) (gb_drewN (World.grownBy.refl _ _) n) (fun k e => by cases e)
theorem Rdr.lt {w B g p} (h : Rdr w B g p) : B ≤ g ∧ g < w.heap.size := by
 obtain ⟨h0, A, n, c, q, xs, hq, hb, _⟩ := h; exact ⟨h0, hb.lt⟩
def PickPost (B g p : Nat) (m : Int) (w : World) (e : Ending) (w' : World) : Prop :=
 ∃ v : Int, e = .returned (.int .i64 v) ∧ 0 ≤ v ∧ (v < m ∨ v = 0) ∧ Rdr w' B g (p + 1) ∧ w.grownBy w' (some g)
theorem xor_tmod (X m : Int) (h0 : 0 ≤ X) (h1 : X < 1000000000) (hm : 1 ≤ m) : 0 ≤ (bits BinOp.xor IntKind.i64 X (X / 64)).tmod m ∧ (bits BinOp.xor IntKind.i64 X (X / 64)).tmod m < m := by
 obtain ⟨a, rfl⟩ := Int.eq_ofNat_of_zero_le h0; have e : ((a : Int) / 64) = ((a / 64 : Nat) : Int) := by omega
 rw [e, i64_xor_nat _ _ (by omega) (by omega)]; exact ⟨Int.tmod_nonneg _ (by omega), Int.tmod_lt_of_pos _ (by omega)⟩
theorem rdr_step {w B g p} {A : Option Addr} {n c q : Nat} {xs : List Int} (h0 : B ≤ g) (hq : q ≤ p) (hb : Blk w g 118 #[.slice A n c, .int .i64 q]) (hr : RdI .u8 w B A n xs) (hx : ∀ i, 0 ≤ xs.getD i 0 ∧ xs.getD i 0 ≤ 255) (hn : n ≤ 2000) (nq : Nat) :
 Rdr ((w.setCell ⟨g, 1, none⟩ (.int .i64 (↑q + 1))).drewN nq) B g (p + 1) ∧ w.grownBy ((w.setCell ⟨g, 1, none⟩ (.int .i64 (↑q + 1))).drewN nq) (some g) := by
 have hlt := hb.lt; refine ⟨⟨h0, A, n, c, q + 1, xs, by omega, ?_, ?_, hx, hn⟩, gb_drewN (gb_setCell (World.grownBy.refl _ _) (.inl rfl) _) _⟩
 · exact (hb.set_ 1 _).drewN nq
 · exact hr.below (below_drewN ((Below.refl _ _).setCell (p := ⟨g, 1, none⟩) h0 _) _)
def pv (xs : List Int) (q : Nat) (m : Int) : Int :=
 if m < 1 ∨ xs.length = 0 then 0
 else if q < xs.length then xs.getD q 0 % m
 else (bits BinOp.xor IntKind.i64 (xs.getD (q % xs.length) 0 * 131 + xs.getD ((q * 7 + 3) % xs.length) 0 * 1117 + ↑q * 29 + ↑q / ↑xs.length * 53)
  ((xs.getD (q % xs.length) 0 * 131 + xs.getD ((q * 7 + 3) % xs.length) 0 * 1117 + ↑q * 29 + ↑q / ↑xs.length * 53) / 64)).tmod m
theorem pv_range (xs : List Int) (q : Nat) (m : Int) (hq : q < 1000000) (hx : ∀ i, 0 ≤ xs.getD i 0 ∧ xs.getD i 0 ≤ 255) : 0 ≤ pv xs q m ∧ (pv xs q m < m ∨ pv xs q m = 0) := by
 unfold pv; split
 · omega
 · split
   · exact ⟨Int.emod_nonneg _ (by omega), .inl (Int.emod_lt_of_pos _ (by omega))⟩
   · have d1 : 0 ≤ (q : Int) / (xs.length : Int) := Int.ediv_nonneg (by omega) (by omega); have d2 : (q : Int) / (xs.length : Int) ≤ q := Int.ediv_le_self _ (by omega); have h1 := hx (q % xs.length); have h2 := hx ((q * 7 + 3) % xs.length); have := xor_tmod (xs.getD (q % xs.length) 0 * 131 + xs.getD ((q * 7 + 3) % xs.length) 0 * 1117 + ↑q * 29 + ↑q / ↑xs.length * 53) m (by omega) (by omega) (by omega); exact ⟨this.1, .inl this.2⟩
theorem pick_mix (g p n c : Nat) (b off : Nat) (m : Int) (xs : List Int) (w : World) (hb : Blk w g 118 #[.slice (some ⟨b, off, none⟩) n c, .int .i64 p]) (hp : p < 1000000) (hl : xs.length = n) (hn0 : 0 < n) (hn : n ≤ 2000) (hnp : n ≤ p) (hm : 1 ≤ m)
 (c1 : ∀ i, i < n → w.cell? ⟨b, off + i, none⟩ = some (.int .u8 (xs.getD i 0))) (hx : ∀ i, 0 ≤ xs.getD i 0 ∧ xs.getD i 0 ≤ 255) (hgb : b ≠ g) :
 Calls Tryz.prog 30 #[.pointer (some ⟨g, 0, none⟩), .int .i64 m] w fun e w' => e = .returned (.int .i64 (pv xs p m)) ∧ ∃ nq, w' = (w.setCell ⟨g, 1, none⟩ (.int .i64 (↑p + 1))).drewN nq := by
 have h0 := hb.cell 0; have h1 := hb.cell 1; have hf := hb.frozen 1; simp at h0 h1; have h0' : (w.setCell ⟨g, 1, none⟩ (.int .i64 (↑p + 1))).cell? ⟨g, 0, none⟩ = some (.slice (some ⟨b, off, none⟩) n c) := by
  rw [(hb.set_ 1 _).cell 0]; rfl
 have h1' : (w.setCell ⟨g, 1, none⟩ (.int .i64 (↑p + 1))).cell? ⟨g, 1, none⟩ = some (.int .i64 (↑p + 1)) := by
  rw [(hb.set_ 1 _).cell 1]; rfl
 have hz : ((n : Int) == 0) = false := by simp; omega
 have hn1 : ¬ n = 0 := by omega
 have q1 : 0 ≤ (p : Int) % (n : Int) := Int.emod_nonneg _ (by omega); have q2 : (p : Int) % (n : Int) < n := Int.emod_lt_of_pos _ (by omega); have r1 : 0 ≤ ((p : Int) * 7 + 3) % (n : Int) := Int.emod_nonneg _ (by omega); have r2 : ((p : Int) * 7 + 3) % (n : Int) < n := Int.emod_lt_of_pos _ (by omega); have c2 := c1 (p % n) (Nat.mod_lt _ hn0); have c3 := c1 ((p * 7 + 3) % n) (Nat.mod_lt _ hn0); obtain ⟨x1l, x1h⟩ := hx (p % n); obtain ⟨x2l, x2h⟩ := hx ((p * 7 + 3) % n); have HV : pv xs p m = (bits BinOp.xor IntKind.i64 (xs.getD (p % n) 0 * 131 + xs.getD ((p * 7 + 3) % n) 0 * 1117 + ↑p * 29 + ↑p / ↑n * 53)
  ((xs.getD (p % n) 0 * 131 + xs.getD ((p * 7 + 3) % n) 0 * 1117 + ↑p * 29 + ↑p / ↑n * 53) / 64)).tmod m := by
  unfold pv; rw [if_neg (by omega), if_neg (by omega), hl]
 have HV := hid HV; have HL := hid hl; clear hl; generalize xs.getD (p % n) 0 = x1 at *; generalize xs.getD ((p * 7 + 3) % n) 0 = x2 at *; have d1 : 0 ≤ (p : Int) / (n : Int) := Int.ediv_nonneg (by omega) (by omega); have d2 : (p : Int) / (n : Int) ≤ p := Int.ediv_le_self _ (by omega); clear c1 hx; go_enter Tryz.func30, Tryz.ntmps30
 go_wp2; go_quiet (fail)
 go_wp2; go_ret
 exact ⟨ret_int HV.out.symm, nq, rfl⟩
theorem pick_low (g p n c : Nat) (b off : Nat) (m : Int) (xs : List Int) (w : World) (hb : Blk w g 118 #[.slice (some ⟨b, off, none⟩) n c, .int .i64 p]) (hp : p < 1000000) (hl : xs.length = n) (hn : n ≤ 2000) (hnp : p < n) (hm : 1 ≤ m)
 (c1 : ∀ i, i < n → w.cell? ⟨b, off + i, none⟩ = some (.int .u8 (xs.getD i 0))) (hx : ∀ i, 0 ≤ xs.getD i 0 ∧ xs.getD i 0 ≤ 255) (hgb : b ≠ g) :
 Calls Tryz.prog 30 #[.pointer (some ⟨g, 0, none⟩), .int .i64 m] w fun e w' => e = .returned (.int .i64 (pv xs p m)) ∧ ∃ nq, w' = (w.setCell ⟨g, 1, none⟩ (.int .i64 (↑p + 1))).drewN nq := by
 have h0 := hb.cell 0; have h1 := hb.cell 1; have hf := hb.frozen 1; simp at h0 h1; have h0' : (w.setCell ⟨g, 1, none⟩ (.int .i64 (↑p + 1))).cell? ⟨g, 0, none⟩ = some (.slice (some ⟨b, off, none⟩) n c) := by
  rw [(hb.set_ 1 _).cell 0]; rfl
 have h1' : (w.setCell ⟨g, 1, none⟩ (.int .i64 (↑p + 1))).cell? ⟨g, 1, none⟩ = some (.int .i64 (↑p + 1)) := by
  rw [(hb.set_ 1 _).cell 1]; rfl
 have hz : ((n : Int) == 0) = false := by simp; omega
 have c2 := c1 p hnp; obtain ⟨x1l, x1h⟩ := hx p; have HV : pv xs p m = xs.getD p 0 % m := by
  unfold pv; rw [if_neg (by omega), if_pos (by omega)]
 have HV := hid HV; clear hl; generalize xs.getD p 0 = x1 at *; clear c1 hx; go_enter Tryz.func30, Tryz.ntmps30
 go_wp2; go_ret
 exact ⟨ret_int HV.out.symm, 0, rfl⟩
theorem pick_zero (g p n c : Nat) (A : Option Addr) (m : Int) (xs : List Int) (w : World) (hl : xs.length = n) (hb : Blk w g 118 #[.slice A n c, .int .i64 p]) (hp : p < 1000000) (hm : m < 1 ∨ n = 0) :
 Calls Tryz.prog 30 #[.pointer (some ⟨g, 0, none⟩), .int .i64 m] w fun e w' => e = .returned (.int .i64 (pv xs p m)) ∧ ∃ nq, w' = (w.setCell ⟨g, 1, none⟩ (.int .i64 (↑p + 1))).drewN nq := by
 have h0 := hb.cell 0; have h1 := hb.cell 1; have hf := hb.frozen 1; simp at h0 h1; have h0' : (w.setCell ⟨g, 1, none⟩ (.int .i64 (↑p + 1))).cell? ⟨g, 0, none⟩ = some (.slice A n c) := by
  rw [(hb.set_ 1 _).cell 0]; rfl
 by_cases hm1 : m < 1
 · go_enter Tryz.func30, Tryz.ntmps30
   go_wp2; go_ret
   exact ⟨ret_int (by unfold pv; rw [if_pos (.inl hm1)]), 0, rfl⟩
 · obtain rfl : n = 0 := by omega
   have HL := hid hl; clear hl; go_enter Tryz.func30, Tryz.ntmps30
   go_wp2; go_ret
   exact ⟨ret_int (by unfold pv; rw [if_pos (.inr HL.out)]), 0, rfl⟩
theorem pick_x {B g q n c : Nat} {A : Option Addr} {m : Int} {xs : List Int} {w : World} (h0 : B ≤ g) (hb : Blk w g 118 #[.slice A n c, .int .i64 q]) (hr : RdI .u8 w B A n xs) (hx : ∀ i, 0 ≤ xs.getD i 0 ∧ xs.getD i 0 ≤ 255) (hn : n ≤ 2000) (hp : q < 1000000) :
 Calls Tryz.prog 30 #[.pointer (some ⟨g, 0, none⟩), .int .i64 m] w fun e w' => e = .returned (.int .i64 (pv xs q m)) ∧ ∃ nq, w' = (w.setCell ⟨g, 1, none⟩ (.int .i64 (↑q + 1))).drewN nq := by
 by_cases hz : m < 1 ∨ n = 0
 · exact pick_zero g q n c A m xs w hr.len hb (by omega) hz
 · obtain ⟨b, off, rfl, hbB, hc⟩ := hr.at_ (by omega); by_cases hl : q < n
   · exact pick_low g q n c b off m xs w hb (by omega) hr.len hn hl (by omega) hc hx (by omega)
   · exact pick_mix g q n c b off m xs w hb (by omega) hr.len (by omega) hn (by omega) (by omega) hc hx (by omega)
theorem pick_c {B g p : Nat} {m : Int} {w : World} (h : Rdr w B g p) (hp : p < 1000000) :
 Calls Tryz.prog 30 #[.pointer (some ⟨g, 0, none⟩), .int .i64 m] w (PickPost B g p m w) := by
 obtain ⟨h0, A, n, c, q, xs, hq, hb, hr, hx, hn⟩ := h; refine (pick_x h0 hb hr hx hn (by omega)).mono ?_; rintro e w' ⟨he, nq, rfl⟩; have := rdr_step h0 hq hb hr hx hn nq; have hv := pv_range xs q m (by omega) hx; exact ⟨_, he, hv.1, hv.2, this.1, this.2⟩
def OddPost (B g p : Nat) (w : World) (e : Ending) (w' : World) : Prop :=
 ∃ b : Bool, e = .returned (.bool b) ∧ Rdr w' B g (p + 1) ∧ w.grownBy w' (some g)
theorem odd_c {B g p : Nat} {m : Int} {w : World} (h : Rdr w B g p) (hp : p < 1000000) (hm1 : 0 < m) (hm2 : m < 1000000) :
 Calls Tryz.prog 32 #[.pointer (some ⟨g, 0, none⟩), .int .i64 m] w (OddPost B g p w) := by
 go_enter Tryz.func32, Tryz.ntmps32
 go_wp2_with (go_at_call 30; refine (pick_c h hp).mono ?_; rintro e w' ⟨v, rfl, hv1, hv2, hr, hg⟩)
 go_ret; exact ⟨_, rfl, hr, hg⟩
theorem tab_at {w : World} {g : Nat} {t : TypeId} (l : List Int) (hb : Blk w g t (l.map (Value.int .i64)).toArray) (lo up : Int) (hall : ∀ x ∈ l, lo ≤ x ∧ x ≤ up) {i : Int} (h0 : 0 ≤ i) (hi : i < l.length) :
 ∃ x, lo ≤ x ∧ x ≤ up ∧ w.cell? ⟨g, i.toNat, none⟩ = some (.int .i64 x) := by
 have hlt : i.toNat < l.length := by omega
 refine ⟨l[i.toNat], (hall _ (List.getElem_mem hlt)).1, (hall _ (List.getElem_mem hlt)).2, ?_⟩; rw [hb.cell]; simp [hlt]
theorem Blk.new1 (w : World) (o : Obj) (t : TypeId) (cs : Array Value) : Blk ((w.alloc o).alloc (.cells cs t)) (w.heap.size + 1) t cs := by
 have := Blk.new (w.alloc o) t cs; rwa [World.size_alloc] at this
theorem open_c {A : Option Addr} {n c : Nat} {xs : List Int} {w : World} (hr : RdI .u8 w w.heap.size A n xs) (hx : ∀ x ∈ xs, 0 ≤ x ∧ x ≤ 255) (hnc : n ≤ c) (hcm : c ≤ 9223372036854775807) :
 Calls Tryz.prog 28 #[.slice A n c] w fun e w' => e = .returned (.pointer (some ⟨w.heap.size, 0, none⟩)) ∧ Rdr w' w.heap.size w.heap.size 0 ∧ Below w.heap.size w w' := by
 have hxx : ∀ i, 0 ≤ xs.getD i 0 ∧ xs.getD i 0 ≤ 255 := by
  intro i
  rw [List.getD_eq_getElem?_getD]; rcases Nat.lt_or_ge i xs.length with h | h
  · rw [List.getElem?_eq_getElem h]; exact hx _ (List.getElem_mem h)
  · rw [List.getElem?_eq_none h]; simp
 by_cases hl : n ≤ 2000
 · go_enter Tryz.func28, Tryz.ntmps28
   go_wp2; go_ret
   have hb := (Below.refl w.heap.size w).alloc (Nat.le_refl _) (Obj.cells #[Value.slice A n c, Value.int IntKind.i64 0] 118); exact ⟨rfl, ⟨Nat.le_refl _, A, n, c, 0, xs, Nat.le_refl _, Blk.new _ _ _, hr.below hb, hxx, hl⟩, hb⟩
 · obtain ⟨b, off, rfl, hbB, hc⟩ := hr.at_ (by omega); have hlen := hr.len; go_enter Tryz.func28, Tryz.ntmps28
   go_wp2; go_ret
   have hb := (Below.refl w.heap.size w).alloc (Nat.le_refl _) (Obj.cells #[Value.slice (some ⟨b, off, none⟩) 2000 c, Value.int IntKind.i64 0] 118); have hr' : RdI .u8 w w.heap.size (some ⟨b, off, none⟩) 2000 (xs.take 2000) := ⟨by simp; omega, fun _ => ⟨b, off, rfl, hbB, fun i hi => by
    rw [hc i (by omega), List.getD_eq_getElem?_getD, List.getD_eq_getElem?_getD, List.getElem?_take_of_lt hi]⟩⟩
   refine ⟨rfl, ⟨Nat.le_refl _, _, 2000, c, 0, xs.take 2000, Nat.le_refl _, Blk.new _ _ _, hr'.below hb, fun i => ?_, Nat.le_refl _⟩, hb⟩; rw [List.getD_eq_getElem?_getD]; rcases Nat.lt_or_ge i 2000 with h | h
   · rw [List.getElem?_take_of_lt h, ← List.getD_eq_getElem?_getD]; exact hxx i
   · rw [List.getElem?_eq_none (by simp; omega)]; simp
theorem ext_getD {xs ys : List Int} (h : xs.length = ys.length) (hd : ∀ i, i < xs.length → xs.getD i 0 = ys.getD i 0) : xs = ys := by
 apply List.ext_getElem h
 intro i h1 h2
 have := hd i h1; rw [List.getD_eq_getElem?_getD, List.getD_eq_getElem?_getD, List.getElem?_eq_getElem h1, List.getElem?_eq_getElem h2] at this; exact this
theorem sameInts_c {A A' : Option Addr} {n c n' c' B B' : Nat} {xs ys : List Int} {w : World} (hr : RdI .i64 w B A n xs) (hr' : RdI .i64 w B' A' n' ys) (hn : n ≤ 9000000000000) (hn' : n' ≤ 9000000000000) :
 Calls Tryz.prog 27 #[.slice A n c, .slice A' n' c'] w fun e w' => e = .returned (.bool (bof (xs = ys))) ∧ ∃ m, w' = w.drewN m := by
 have hl := hr.len; have hl' := hr'.len; by_cases hnn : n = n'
 · subst hnn; have HL := hid hl; have HL' := hid hl'; clear hl hl'; go_enter Tryz.func27, Tryz.ntmps27
   go_wp2; go_loopw [5] (fun i wr => ∃ k : Nat, k ≤ n ∧ i = .int .i64 k ∧ (∀ j, j < k → xs.getD j 0 = ys.getD j 0) ∧ ∃ m, wr = w.drewN m) (fun i _ => n - (intOf i).toNat)
   case atStart => exact ⟨0, Nat.zero_le _, rfl, fun j hj => absurd hj (Nat.not_lt_zero _), 0, rfl⟩
   case round =>
    obtain ⟨k, hk, rfl, heq, m, rfl⟩ := hrel; by_cases hlt : k < n
    · obtain ⟨b, off, rfl, hbB, hc⟩ := hr.at_ (by omega); obtain ⟨b', off', rfl, hbB', hc'⟩ := hr'.at_ (by omega); have hc1 := hc k hlt; have hc2 := hc' k hlt; have hx : ∃ x, xs.getD k 0 = x := ⟨_, rfl⟩; obtain ⟨x, hx⟩ := hx; have hy : ∃ y, ys.getD k 0 = y := ⟨_, rfl⟩; obtain ⟨y, hy⟩ := hy; rw [hx] at hc1; rw [hy] at hc2; have HX := hid hx; have HY := hid hy; have HE := hid heq; clear hx hy heq hc hc' hr hr'; by_cases hxy : x = y
      · subst hxy; go_wp2; go_quiet (fail)
        go_wp2; go_roundw
        case rel =>
         refine ⟨k + 1, by omega, by go_num, fun j hj => ?_, m + nq, by first | rfl | rw [World.drewN_drewN]⟩; by_cases e : j = k
         · subst e; rw [HX.out, HY.out]
         · exact HE.out j (by omega)
        case measure => simp [intOf]; omega
      · have hne : (x != y) = true := by simp [hxy]
        have hne2 : (x == y) = false := by simp [hxy]
        have hfin : ¬ xs = ys := fun e => hxy (by rw [← HX.out, ← HY.out, e])
        have HF := hid hfin; clear hfin hxy; go_wp2; go_quiet (fail)
        go_wp2; go_ret
        exact ⟨ret_bof_f HF.out, m + nq, by first | rfl | rw [World.drewN_drewN]⟩
    · have hkn : k = n := by omega
      subst hkn; have hfin : xs = ys := ext_getD (by rw [HL.out, HL'.out]) (fun i hi => heq i (by have := HL.out; omega)); have HF := hid hfin; clear hfin heq; go_wp2; go_ret; exact ⟨ret_bof_t HF.out, _, rfl⟩
 · have hfin : ¬ xs = ys := fun e => hnn (by rw [← hl, ← hl', e])
   have HF := hid hfin; have hne : ((n : Int) != (n' : Int)) = true := by simp; omega
   clear hfin hl hl'; go_enter Tryz.func27, Tryz.ntmps27
   go_wp2; go_ret
   exact ⟨ret_bof_f HF.out, 0, rfl⟩
theorem own_form {w : World} {base : Nat} {e : TypeId} {A : Option Addr} {n c : Nat} {xs : List Value} (h : w.ownsRow base e 1 (.slice A n c) n xs) (hn : 0 < n) : ∃ g, A = some ⟨g, 0, none⟩ ∧ base ≤ g ∧ g < w.heap.size := by
 rcases h.2 with ⟨h1, h2⟩ | ⟨g, cap, cur, h1, hb, hh, _⟩
 · omega
 · injection h1 with h1 h2 h3; refine ⟨g, h1, hb, ?_⟩; rcases Nat.lt_or_ge g w.heap.size with hlt | hge
   · exact hlt
   · rw [Array.getElem?_eq_none hge] at hh; cases hh
theorem sameInts_o {A A' : Option Addr} {n c c' B B' : Nat} {xs : List Int} {w : World} (hr : RdI .i64 w B A n xs) (hr' : RdI .i64 w B' A' n xs) (hn : n ≤ 9000000000000) :
 Calls Tryz.prog 27 #[.slice A n c, .slice A' n c'] w fun e w' => e = .returned (.bool true) ∧ Below w.heap.size w w' := by
 refine (sameInts_c hr hr' hn hn).mono ?_; rintro e w' ⟨rfl, m, rfl⟩; exact ⟨by rw [bof_t.2 rfl], below_drewN (Below.refl _ _) m⟩
theorem gb_step {w0 w w' : World} {g : Nat} {row : Option Nat} (hb : w0.grownBy w (some g)) (hg : w.grownBy w' row) (hr : ∀ k, row = some k → w0.heap.size ≤ k) : w0.grownBy w' (some g) :=
 ⟨hg.os.trans hb.os, hg.tape.trans hb.tape, hg.output.trans hb.output, Nat.le_trans hb.size hg.size, fun i hi hne => (hg.block i (Nat.lt_of_lt_of_le hi hb.size) (fun e => by have := hr i e.symm; omega)).trans (hb.block i hi hne)⟩
theorem odd_z {B g p : Nat} {w : World} (h : Rdr w B g p) :
 Calls Tryz.prog 32 #[.pointer (some ⟨g, 0, none⟩), .int .i64 0] w fun e w' => e = .returned (.bool false) ∧ w' = w := by
 go_enter Tryz.func32, Tryz.ntmps32
 go_wp2_with fail; go_ret
 exact ⟨rfl, rfl⟩
theorem tabS_at {w : World} {g : Nat} {t : TypeId} (l : List ByteArray) (hb : Blk w g t (l.map Value.string).toArray) (m : Nat) (hall : ∀ x ∈ l, x.size ≤ m) {i : Int} (h0 : 0 ≤ i) (hi : i < l.length) :
 ∃ x, x.size ≤ m ∧ w.cell? ⟨g, i.toNat, none⟩ = some (.string x) := by
 have hlt : i.toNat < l.length := by omega
 refine ⟨l[i.toNat], hall _ (List.getElem_mem hlt), ?_⟩; rw [hb.cell]; simp [hlt]
def DrawS (B g p q m : Nat) (w : World) (e : Ending) (w' : World) : Prop := ∃ t : ByteArray, e = .returned (.string t) ∧ t.size ≤ m ∧ Rdr w' B g (p + q) ∧ w.grownBy w' (some g)
def tT1 : List ByteArray := [⟨#[]⟩, ⟨#[65]⟩, ⟨#[97, 49]⟩, ⟨#[97, 98, 99, 100, 101, 102, 103, 104, 105]⟩]
def tT2 : List ByteArray := [⟨#[97]⟩, ⟨#[98]⟩, ⟨#[99]⟩, ⟨#[100]⟩, ⟨#[101]⟩, ⟨#[102]⟩, ⟨#[103]⟩, ⟨#[108, 111, 103]⟩]
theorem l20Text_c {B g p : Nat} {n : Int} {w : World} (h : Rdr w B g p) (hp : p < 990000) (hn : 0 ≤ n) (hn2 : n < 1000000) :
 Calls Tryz.prog 86 #[.pointer (some ⟨g, 0, none⟩), .int .i64 n] w (DrawS B g p 2 9 w) := by
 have hlt := h.lt; go_enter Tryz.func86, Tryz.ntmps86
 go_wp2_with fail; by_cases hz : n = 0
 · subst hz; refine (odd_z h).mono ?_; rintro e w' ⟨rfl, rfl⟩; go_wp2_with fail; refine (pick_c (h.alloc _) (by omega)).mono ?_; rintro e w3 ⟨v3, rfl, hv3, hv3', h3, q3⟩; have k3 : Blk w3 w'.heap.size 9 _ := (Blk.new w' 9 (tT2.map Value.string).toArray).grown q3 (by intro e; injection e with e; omega); have G3 : w'.grownBy w3 (some g) := gb_trans (gb_alloc (World.grownBy.refl _ _) _) q3; obtain ⟨x, hx, hc⟩ := tabS_at tT2 k3 9 (by decide) hv3 (by simp [tT2]; omega); have hv4 : v3 < 8 := by omega
   clear q3 k3; go_wp2_with fail; go_ret; exact ⟨x, rfl, hx, h3.mono (by omega), G3⟩
 · refine (odd_c h (by omega) (by omega) hn2).mono ?_; rintro e w2 ⟨b, rfl, h2, q2⟩; have hlt2 := h2.lt; cases b
   · go_wp2_with fail; refine (pick_c (h2.alloc _) (by omega)).mono ?_
     rintro e w3 ⟨v3, rfl, hv3, hv3', h3, q3⟩; have k3 : Blk w3 w2.heap.size 9 _ := (Blk.new w2 9 (tT2.map Value.string).toArray).grown q3 (by intro e; injection e with e; omega); have G3 := gb_trans (gb_alloc q2 _) q3; obtain ⟨x, hx, hc⟩ := tabS_at tT2 k3 9 (by decide) hv3 (by simp [tT2]; omega); have hv4 : v3 < 8 := by omega
     clear q3 k3 q2 h2; go_wp2_with fail; go_ret; exact ⟨x, rfl, hx, h3.mono (by omega), G3⟩
   · go_wp2_with fail; refine (pick_c (h2.alloc _) (by omega)).mono ?_
     rintro e w3 ⟨v3, rfl, hv3, hv3', h3, q3⟩; have k3 : Blk w3 w2.heap.size 9 _ := (Blk.new w2 9 (tT1.map Value.string).toArray).grown q3 (by intro e; injection e with e; omega); have G3 := gb_trans (gb_alloc q2 _) q3; obtain ⟨x, hx, hc⟩ := tabS_at tT1 k3 9 (by decide) hv3 (by simp [tT1]; omega); have hv4 : v3 < 4 := by omega
     clear q3 k3 q2 h2; go_wp2_with fail; go_ret; exact ⟨x, rfl, hx, h3.mono (by omega), G3⟩
def tT3 : List ByteArray := [⟨#[48]⟩, ⟨#[49]⟩, ⟨#[50]⟩, ⟨#[54]⟩, ⟨#[48, 49]⟩, ⟨#[120]⟩]
def tI3 : List Int := [0, 0, 0, 1, 1, 2, 2, 3, 4, 5]
def tT4 : List ByteArray := [⟨#[53]⟩, ⟨#[55, 55]⟩, ⟨#[57, 57, 57, 57]⟩, ⟨#[49, 48, 48, 48, 48]⟩]
def tT5 : List ByteArray := [⟨#[]⟩, ⟨#[119, 114, 105, 116, 101, 32, 97]⟩, ⟨#[100, 97, 110, 99, 101]⟩, ⟨#[99, 108, 101, 97, 110, 32, 110, 111, 119]⟩, ⟨#[114, 101, 97, 100, 32, 97]⟩]
theorem cat_le {a b : ByteArray} {m n : Nat} (ha : a.size ≤ m) (hb : b.size ≤ n) : (a ++ b).size ≤ m + n := by rw [ByteArray.size_append]; omega
set_option maxRecDepth 8000 in
set_option maxHeartbeats 4000000 in
theorem l20Line_c {B g p : Nat} {w : World} (h : Rdr w B g p) (hp : p < 980000) :
 Calls Tryz.prog 31 #[.pointer (some ⟨g, 0, none⟩)] w (DrawS B g p 10 100 w) := by
 go_enter Tryz.func31, Tryz.ntmps31
 go_wp2_with fail; refine (l20Text_c h (by omega) (by omega) (by omega)).mono ?_
 rintro e w2 ⟨nm, rfl, hnm, h2, G2⟩; have hlt2 := h2.lt; clear h; go_wp2_with fail; refine (pick_c ((h2.alloc _).alloc _) (by omega)).mono ?_; rintro e w3 ⟨v3, rfl, hv3, hv3', h3, q3⟩; have k3 : Blk w3 (w2.heap.size + 1) 3 _ := (Blk.new1 w2 _ 3 (tI3.map (Value.int .i64)).toArray).grown q3 (by intro e; injection e with e; omega); have j3 : Blk w3 w2.heap.size 9 _ := ((Blk.new w2 9 (tT3.map Value.string).toArray).alloc (.cells (tI3.map (Value.int .i64)).toArray 3)).grown q3 (by intro e; injection e with e; omega); have G3 := gb_trans (gb_alloc (gb_alloc G2 _) _) q3; obtain ⟨i3, hi0, hi5, hci⟩ := tab_at tI3 k3 0 5 (by decide) hv3 (by simp [tI3]; omega); obtain ⟨pl, hpl, hcp⟩ := tabS_at tT3 j3 2 (by decide) hi0 (by simp [tT3]; omega); have hv4 : v3 < 10 := by omega
 have hi6 : i3 < 6 := by omega
 clear q3 k3 j3 G2 h2; go_upto_region 3 with (fail)
 clear hci hcp; go_wp2_with fail; refine (pick_c h3 (by omega)).mono ?_; rintro e w4 ⟨v4, rfl, hk0, hk9, h4, q4⟩; have G4 := gb_trans G3 q4; have hlt4 := h4.lt; clear q4 G3 h3; have hk : v4 = 0 ∨ v4 = 1 ∨ v4 = 2 ∨ v4 = 3 ∨ v4 = 4 ∨ v4 = 5 ∨ v4 = 6 ∨ v4 = 7 ∨ v4 = 8 := by omega
 clear hk0 hk9; rcases hk with rfl | rfl | rfl | rfl | rfl | rfl | rfl | rfl | rfl
 · go_wp2_with fail; go_ret
   exact ⟨_, rfl, Nat.le_trans (cat_le (m := 5) (n := 9) (by decide) hnm) (by omega), h4.mono (by omega), G4⟩
 · go_wp2_with fail; go_ret
   exact ⟨_, rfl, Nat.le_trans (cat_le (m := 5) (n := 9) (by decide) hnm) (by omega), h4.mono (by omega), G4⟩
 · go_wp2_with fail; refine (pick_c (h4.alloc _) (by omega)).mono ?_
   rintro e w5 ⟨v5, rfl, hv5, hv5', h5, q5⟩; have k5 : Blk w5 w4.heap.size 9 _ := (Blk.new w4 9 (tT4.map Value.string).toArray).grown q5 (by intro e; injection e with e; omega); have G5 := gb_trans (gb_alloc G4 _) q5; obtain ⟨x, hx, hc⟩ := tabS_at tT4 k5 5 (by decide) hv5 (by simp [tT4]; omega); have hv6 : v5 < 4 := by omega
   clear q5 k5 G4 h4; go_wp2_with fail; go_ret; exact ⟨_, rfl, Nat.le_trans (cat_le (cat_le (cat_le (cat_le (cat_le (m := 6) (by decide) hnm) (n := 1) (by decide)) hpl) (n := 1) (by decide)) hx) (by omega), h5.mono (by omega), G5⟩
 · go_wp2_with fail; refine (pick_c (h4.alloc _) (by omega)).mono ?_
   rintro e w5 ⟨v5, rfl, hv5, hv5', h5, q5⟩; have k5 : Blk w5 w4.heap.size 9 _ := (Blk.new w4 9 (tT4.map Value.string).toArray).grown q5 (by intro e; injection e with e; omega); have G5 := gb_trans (gb_alloc G4 _) q5; obtain ⟨x, hx, hc⟩ := tabS_at tT4 k5 5 (by decide) hv5 (by simp [tT4]; omega); have hv6 : v5 < 4 := by omega
   clear q5 k5 G4 h4; go_wp2_with fail; go_ret; exact ⟨_, rfl, Nat.le_trans (cat_le (cat_le (cat_le (cat_le (cat_le (m := 6) (by decide) hnm) (n := 1) (by decide)) hpl) (n := 1) (by decide)) hx) (by omega), h5.mono (by omega), G5⟩
 · go_wp2_with fail; refine (pick_c (h4.alloc _) (by omega)).mono ?_
   rintro e w5 ⟨v5, rfl, hv5, hv5', h5, q5⟩; have k5 : Blk w5 w4.heap.size 9 _ := (Blk.new w4 9 (tT4.map Value.string).toArray).grown q5 (by intro e; injection e with e; omega); have G5 := gb_trans (gb_alloc G4 _) q5; obtain ⟨x, hx, hc⟩ := tabS_at tT4 k5 5 (by decide) hv5 (by simp [tT4]; omega); have hv6 : v5 < 4 := by omega
   clear q5 k5 G4 h4; go_wp2_with fail; go_ret; exact ⟨_, rfl, Nat.le_trans (cat_le (cat_le (cat_le (cat_le (cat_le (m := 6) (by decide) hnm) (n := 1) (by decide)) hpl) (n := 1) (by decide)) hx) (by omega), h5.mono (by omega), G5⟩
 · go_wp2_with fail; go_ret
   exact ⟨_, rfl, Nat.le_trans (cat_le (cat_le (cat_le (m := 5) (by decide) hnm) (n := 1) (by decide)) hpl) (by omega), h4.mono (by omega), G4⟩
 · go_wp2_with fail; go_ret
   exact ⟨_, rfl, Nat.le_trans (cat_le (m := 5) (n := 9) (by decide) hnm) (by omega), h4.mono (by omega), G4⟩
 · go_wp2_with fail; go_ret
   exact ⟨_, rfl, by decide, h4.mono (by omega), G4⟩
 · go_wp2_with fail; refine (pick_c (h4.alloc _) (by omega)).mono ?_
   rintro e w5 ⟨v5, rfl, hv5, hv5', h5, q5⟩; have k5 : Blk w5 w4.heap.size 9 _ := (Blk.new w4 9 (tT5.map Value.string).toArray).grown q5 (by intro e; injection e with e; omega); have G5 := gb_trans (gb_alloc G4 _) q5; obtain ⟨x, hx, hc⟩ := tabS_at tT5 k5 9 (by decide) hv5 (by simp [tT5]; omega); have hv6 : v5 < 5 := by omega
   clear q5 k5 G4 h4; go_wp2_with fail; go_ret; exact ⟨x, rfl, by omega, h5.mono (by omega), G5⟩
def newBlockV (we : Int) : BlockV := ⟨we, newPages⟩
def newDev (n : Nat) : List BlockV := List.replicate n (newBlockV 0)
theorem newDev_len (n : Nat) : (newDev n).length = n := by simp [newDev]
theorem newDev_get {n i : Nat} (h : i < n) : (newDev n).getD i noBlock = newBlockV 0 := by unfold newDev; rw [List.getD_eq_getElem?_getD, List.getElem?_replicate, if_pos h]; rfl
theorem newDevice_spec (n : Nat) (w : World) (h0 : 1 ≤ n) (h1 : n ≤ 12) : Calls Tryz.prog 141 #[.int .i64 (n : Nat)] w (OwnB w (newDev n)) := by
 have hin : inB (n : Int) 1 12 = true := by rw [inB_t]; omega
 have HIN := hid hin; have hst := hid (show OwB (w.alloc (.cells #[] 127)) w.heap.size (some ⟨w.heap.size, 0, none⟩) 0 0 [] from ⟨[], rfl, rfl, fun _ h => absurd h (Nat.not_lt_zero _), World.ownsRow_lit w #[] 0 (Nat.le_refl _) (by decide) rfl, fun _ h => absurd h (Nat.not_lt_zero _), fun _ _ h => absurd h (Nat.not_lt_zero _)⟩); clear hin; go_enter Tryz.func141, Tryz.ntmps141
 go_wp2; go_loopw [3, 4] (fun v i wr => ∃ (k : Nat) (A : Option Addr) (c : Nat), k ≤ n ∧ i = .int .i64 k ∧ v = .slice A k c ∧ OwB wr w.heap.size A k c (newDev k) ∧ Below w.heap.size w wr) (fun _ i _ => n - (intOf i).toNat)
 case atStart => exact ⟨0, _, _, Nat.zero_le _, rfl, rfl, hst.out, (Below.refl _ _).alloc (Nat.le_refl _) _⟩
 case round =>
  obtain ⟨k, A, c, hk, rfl, rfl, hown, hbel⟩ := hrel; have HO := hid hown; have HB := hid hbel; have hsz := hbel.size; clear hown hbel; by_cases hlt : k < n
  · have hd : decide (k < n) = true := decide_eq_true hlt; go_wp2_with (go_at_call 53; refine (l1In_c _ _ _ _).mono ?_; rw [HIN.out]; rintro e w' ⟨rfl, rfl⟩)
    refine (newBlock_spec 0 _ (by omega) (by omega)).mono ?_; rintro e w2 ⟨A2, c2, rfl, ho2, hb2⟩; go_wp2_with (at_builtin; refine wpList_appBlock rfl rfl rfl HO.out hb2 ho2 rfl (by omega) hsz ?_; rintro g3 c3 w3 o3 b3 t3 hg3)
    have HO3 := hid (show OwB w3 w.heap.size (some ⟨g3, 0, none⟩) (k + 1) c3 (newDev (k + 1)) from by
     have e : newDev (k + 1) = newDev k ++ [⟨0, newPages⟩] := by unfold newDev; rw [List.replicate_succ']; rfl
     rw [e]; exact o3)
    have HB3 := hid (HB.out.trans b3); clear o3 b3 t3 ho2 hb2; go_wp2; go_roundw
    case rel => exact ⟨k + 1, _, _, by omega, by go_num, rfl, HO3.out, HB3.out⟩
    case measure => simp [intOf]; omega
  · obtain rfl : k = n := by omega
    go_wp2; go_ret
    exact ownB_of (newDev_len _) HO.out HB.out
theorem wpList_appRow {ops : Array Oper} {rest : List Oper} {o : Oper} {a : Act} {Q : Exit → Act → World → Prop} {w w1 : World} {s x : Operand} {base : Nat} {A0 : Option Addr} {c0 n : Nat} {ts : List (List Int)} {A' : Option Addr} {n' c' : Nat} {xs : List Int} (hgd : o.guard = none)
 (ho : o.op = .call { callee := .builtin .append, args := #[s, x], argTypes := #[24, 24] })
 (hs : a.eval s = .slice A0 n c0) (hown : OwT w1 base A0 n c0 ts) (hb : Below w1.heap.size w1 w) (hr : w.ownsRow w1.heap.size 3 1 (.slice A' n' c') n' (xs.map (Value.int .i64)))
 (hx : a.eval x = .slice (some ⟨w.heap.size, 0, none⟩) 1 1) (hn : n ≤ 1000000000000) (hbase : base ≤ w1.heap.size)
 (h : ∀ g c w', OwT w' base (some ⟨g, 0, none⟩) (n + 1) c (ts ++ [xs]) → Below base w1 w' → ChgT [57] w w' → base ≤ g → wpList Tryz.prog ops Q rest (a.put o.dst (.slice (some ⟨g, 0, none⟩) (n + 1) c)) w') :
 wpList Tryz.prog ops Q (o :: rest) a (w.alloc (.cells #[.slice A' n' c'] 57)) := by
 obtain ⟨i0, hi, hz0, hz1, hz2⟩ := info_parts infoInts; obtain ⟨hs', h2⟩ := hown; have h3 := h2.below hb; have hpl := own_len hr; have hsz := hb.size; refine wpList_app hgd s x 24 ho base 57 i0 _ 1 24 Tryz.underlying24 hi hz0 hz1 hz2 rfl (by decide) (.slice A0 n c0) n _ hs h3.main [.slice A' n' c'] hx rfl (by simp [Value.oneCell']) (by omega) (by omega) (by omega) ?_; intro g c w' g1 g2 g3
 have hA := h2.append (e := elT xs) (h := .slice A' n' c') (by decide) hb (by unfold elT; simp only; rw [hpl]; exact hr) rfl hbase g1 g2; refine h g c w' ⟨_, by rw [List.map_append]; exact hA⟩ ?_ (ChgT.grown h3.main (by simp) g2) g3; exact (hb.mono hbase).grown g2 (by omega) (fun k hk => (own_lt h3.main hk).1)
def emptyT : List (List Int) := List.replicate 8 emptyRow
theorem l7New_c (w : World) : Calls Tryz.prog 142 #[] w (OwnT w emptyT) := by
 have e1 : (w.alloc (.cells #[.slice none 0 0] 26)).heap.size = w.heap.size + 1 := by simp
 have K1 := (Blk.new w 26 #[.slice none 0 0]).alloc (.cells #[.slice none 0 0] 26); have K2 := Blk.new (w.alloc (.cells #[.slice none 0 0] 26)) 26 #[.slice none 0 0]; rw [e1] at K2; have b1 : Below w.heap.size w ((w.alloc (.cells #[.slice none 0 0] 26)).alloc (.cells #[.slice none 0 0] 26)) := ((Below.refl _ _).alloc (Nat.le_refl _) _).alloc (by simp) _; have HK1 := hid K1; have HK2 := hid K2; have HB1 := hid b1; clear e1 K1 K2 b1; go_enter Tryz.func142, Tryz.ntmps142
 go_wp2; generalize (w.alloc (.cells #[.slice none 0 0] 26)).alloc (.cells #[.slice none 0 0] 26) = w1 at *
 go_loopw [2] (fun i wr => ∃ (k : Nat) (A : Option Addr) (c : Nat), k ≤ 8 ∧ i = .int .i64 k ∧ OwT wr w.heap.size A k c (List.replicate k emptyRow) ∧ Blk wr w.heap.size 26 #[.slice none 0 0] ∧ Blk wr (w.heap.size + 1) 26 #[.slice A k c] ∧ Below w.heap.size w wr) (fun i _ => 8 - (intOf i).toNat)
 case atStart => exact ⟨0, none, 0, Nat.zero_le _, rfl, OwT.nil _ _, HK1.out, HK2.out, HB1.out⟩
 case round =>
  obtain ⟨k, A, c, hk, rfl, hown, k1, k2, hbel⟩ := hrel; have HO := hid hown; have HB := hid hbel; have hsz := hbel.size; have G1 := hid k1; have G2 := hid k2; by_cases hlt : k < 8
  · have hlit : (wr.alloc (.cells #[] 3)).ownsRow wr.heap.size 3 1 (.slice (some ⟨wr.heap.size, 0, none⟩) 0 0) 0 (([] : List Int).map (Value.int .i64)) := World.ownsRow_lit wr #[] 0 (Nat.le_refl _) (by decide) rfl; have HL := hid hlit; have hd : decide ((k : Int) < 8) = true := decide_eq_true (by omega); clear hlit hown hbel k1 k2; obtain ⟨wo, rfl⟩ : ∃ wo : World, wo = wr := ⟨_, rfl⟩; go_wp2; go_loopw [3, 4] (fun v i ws => ∃ (j : Nat) (A : Option Addr) (c : Nat), j ≤ 6 ∧ i = .int .i64 j ∧ v = .slice A j c ∧ ws.ownsRow wo.heap.size 3 1 (.slice A j c) j ((List.replicate j (-1 : Int)).map (Value.int .i64)) ∧ Below wo.heap.size wo ws) (fun _ i _ => 6 - (intOf i).toNat)
    case atStart => exact ⟨0, _, _, Nat.zero_le _, rfl, rfl, HL.out, (Below.refl _ _).alloc (Nat.le_refl _) _⟩
    case round =>
     obtain ⟨j, A2, c2, hj, rfl, rfl, hrow, hb2⟩ := hrel; have HR := hid hrow; have HB2 := hid hb2; have hs2 := hb2.size; clear hrow hb2; by_cases hl6 : j < 6
     · go_wp2_with (at_builtin; refine wpList_appI rfl rfl rfl HR.out rfl (by omega) hs2 ?_; rintro g3 c3 w3 o3 gr3 hg3)
       have HR3 := hid (show w3.ownsRow wo.heap.size 3 1 (.slice (some ⟨g3, 0, none⟩) (j + 1) c3) (j + 1) ((List.replicate (j + 1) (-1 : Int)).map (Value.int .i64)) from by rw [List.replicate_succ']; exact o3); have HB3 := hid (below_app HB2.out HR.out hs2 gr3); clear o3 gr3; go_wp2; go_roundw
       case rel => exact ⟨j + 1, _, _, by omega, by go_num, rfl, HR3.out, HB3.out⟩
       case measure => simp [intOf]; omega
     · obtain rfl : j = 6 := by omega
       have g2 := (G2.out.below HB2.out (G2.out.lt)).cell 0; have z2 := (G2.out.below HB2.out (G2.out.lt)).frozen 0; simp at g2; have KA := G1.out.below HB2.out G1.out.lt; have KB := G2.out.below HB2.out G2.out.lt; have ka := hid KA; have kb := hid KB; clear KA KB; go_wp2_with (at_builtin; refine wpList_appRow rfl rfl rfl HO.out HB2.out HR.out rfl (by omega) hsz ?_; rintro g3 c3 w3 o3 b3 t3 hg3; have k3 := hid (kb.out.typed t3 (by decide)); have h0 : w3.cell? ⟨w.heap.size + 1, 0, none⟩ = some (.slice A k c) := k3.out.cell 0; have y0 := k3.out.frozen 0)
       have k4 := ka.out.typed t3 (by decide); replace k3 := k3.out; have HO3 := hid (show OwT (w3.setCell ⟨w.heap.size + 1, 0, none⟩ (.slice (some ⟨g3, 0, none⟩) (k + 1) c3)) w.heap.size (some ⟨g3, 0, none⟩) (k + 1) c3 (List.replicate (k + 1) emptyRow) from by
        rw [List.replicate_succ']; exact o3.typed (ChgT.blk k3 0 _) (by decide) (by decide))
       have K3 := hid (k3.set_ 0 (.slice (some ⟨g3, 0, none⟩) (k + 1) c3)); have K4 := hid (k4.far (p := ⟨w.heap.size + 1, 0, none⟩) (by show w.heap.size ≠ w.heap.size + 1; omega) (.slice (some ⟨g3, 0, none⟩) (k + 1) c3)); have HB3 := hid ((HB.out.trans b3).setCell (p := ⟨w.heap.size + 1, 0, none⟩) (by show w.heap.size ≤ w.heap.size + 1; omega) (.slice (some ⟨g3, 0, none⟩) (k + 1) c3)); clear k3 k4 o3 b3 t3 g2 z2; go_roundw
       case rel => exact ⟨k + 1, _, _, by omega, by go_num, HO3.out, K4.out, K3.out, HB3.out⟩
       case measure => simp [intOf]; omega
  · obtain rfl : k = 8 := by omega
    have h0 := k2.cell 0; have y0 := k2.frozen 0; have q0 := k1.cell 0; have r0 := k1.frozen 0; simp at h0 q0; have P := hid (k1.set_ 0 (.slice A 8 c)); have HO3 := hid (hown.typed (ChgT.blk k1 0 (.slice A 8 c)) (by decide) (by decide)); have HB3 := hid (hbel.setCell (p := ⟨w.heap.size, 0, none⟩) (Nat.le_refl _) (.slice A 8 c)); clear k1 k2 hown hbel; go_wp2; generalize wr.setCell ⟨w.heap.size, 0, none⟩ (.slice A 8 c) = wz at *; have p0 := P.out.cell 0; simp at p0; refine bodyPost_ret (by simp [results, Tryz.results142, go_sem, p0]; try rfl) rfl ?_; exact ownT_of rfl HO3.out HB3.out
def newDiskV (n : Nat) : DiskV := ⟨newDev n, emptyT, -1, -1, -1, 0, []⟩
def newDiskF (m : Int) : DiskV := if 1 ≤ m ∧ m ≤ 12 then newDiskV m.toNat else zeroDisk
theorem newDisk_spec (m : Int) (w : World) : Calls Tryz.prog 85 #[.int .i64 m] w (OwnD w (newDiskF m)) := by
 have b1 : Below w.heap.size w (w.alloc (.cells Zd 31)) := (Below.refl _ _).alloc (Nat.le_refl _) _; have K1 := Blk.new w 31 Zd; have s1 : w.heap.size < (w.alloc (.cells Zd 31)).heap.size := by simp
 by_cases hm : 1 ≤ m ∧ m ≤ 12
 · have HE := hid (show newDiskF m = newDiskV m.toNat by unfold newDiskF; rw [if_pos hm]); obtain ⟨n, rfl⟩ := Int.eq_ofNat_of_zero_le (show 0 ≤ m by omega); rw [Int.toNat_natCast] at HE; have n1 : 1 ≤ n := by omega
   have n2 : n ≤ 12 := by omega
   have B1 := hid b1; have K1' := hid K1; have hin : inB (n : Int) 1 12 = true := by rw [inB_t]; omega
   clear hm b1 K1; go_enter Tryz.func85, Tryz.ntmps85
   go_wp2_with (go_at_call 53; refine (l1In_c _ _ _ _).mono ?_; rw [hin]; rintro e w' ⟨rfl, rfl⟩)
   generalize w.alloc (.cells Zd 31) = w1 at *; refine (newDevice_spec n _ n1 n2).mono ?_; rintro e w2 ⟨A2, c2, rfl, o2, b2⟩; have K2 := hid (K1'.out.below b2 s1); have B2 := hid (B1.out.trans (b2.mono B1.out.size)); have s2 : w.heap.size < w2.heap.size := by have := b2.size; omega
   have q1 := B1.out.size; clear b2 K1' B1; go_wp2_with fail; refine (l7New_c _).mono ?_; rintro e w3 ⟨A3, c3, rfl, o3, b3⟩; have K3 := K2.out.below b3 s2; have B3 := hid (B2.out.trans (b3.mono B2.out.size)); have o2' := o2.below b3; have q2 := B2.out.size; have OD : OwD w3 w.heap.size ⟨A2, (newDev n).length, c2, A3, emptyT.length, c3, none, 0, 0⟩ (newDiskV n) := ⟨o2'.lower (by omega), o3.lower (by omega), OwN.nil _ _⟩; have OP := OD.put K3 ⟨A2, (newDev n).length, c2, A3, emptyT.length, c3, none, 0, 0⟩ (newDiskV n); have KP := (blk_putDisk K3 ⟨A2, (newDev n).length, c2, A3, emptyT.length, c3, none, 0, 0⟩ (newDiskV n)).1; have BP' := (below_putDisk B3.out (Nat.le_refl _) ⟨A2, (newDev n).length, c2, A3, emptyT.length, c3, none, 0, 0⟩ (newDiskV n)); obtain ⟨t0, t1, t2, t3, t4, t5, t6⟩ := K3.all7; obtain ⟨z0, z1, z2, z3, z4, z5, z6⟩ := K3.free7; unfold newDiskV at OP KP BP'; dsimp only [putDisk, BoxD] at OP KP BP'; have BP := hid BP'; have HO := hid OP; have HK := hid KP; clear b3 K2 B2 o2 o2' o3 OD OP KP K3 BP'; go_wp2; generalize (((((((w3.setCell ⟨w.heap.size, 0, none⟩ (.slice A2 (newDev n).length c2)).setCell ⟨w.heap.size, 1, none⟩ (.slice A3 emptyT.length c3)).setCell ⟨w.heap.size, 2, none⟩ (.int .i64 (-1))).setCell ⟨w.heap.size, 3, none⟩ (.int .i64 (-1))).setCell ⟨w.heap.size, 4, none⟩ (.int .i64 (-1))).setCell ⟨w.heap.size, 5, none⟩ (.int .i64 0)).setCell ⟨w.heap.size, 6, none⟩ (.slice none 0 0)) = wz at *; obtain ⟨p0, p1, p2, p3, p4, p5, p6⟩ := HK.out.all7
   refine bodyPost_ret (by simp [results, Tryz.results85, go_sem, p0, p1, p2, p3, p4, p5, p6]; try rfl) rfl ?_; rw [HE.out]; exact ⟨_, rfl, HO.out, BP.out⟩
 · have HE := hid (show newDiskF m = zeroDisk by unfold newDiskF; rw [if_neg hm]); have B1 := hid b1; have K1' := hid K1; clear b1 K1; have hin : inB m 1 12 = false := by rw [inB_f]; omega
   · go_enter Tryz.func85, Tryz.ntmps85
     go_wp2_with (go_at_call 53; refine (l1In_c _ _ _ _).mono ?_; rw [hin]; rintro e w' ⟨rfl, rfl⟩)
     generalize w.alloc (.cells Zd 31) = w1 at *; obtain ⟨p0, p1, p2, p3, p4, p5, p6⟩ := K1'.out.all7; refine bodyPost_ret (by simp [results, Tryz.results85, go_sem, p0, p1, p2, p3, p4, p5, p6]; try rfl) rfl ?_; rw [HE.out]; exact ⟨⟨none, 0, 0, none, 0, 0, none, 0, 0⟩, rfl, ⟨OwB.nil _ _, OwT.nil _ _, OwN.nil _ _⟩, B1.out⟩
theorem lineO_ok {d : DiskV} (h : DiskOk d) (o : Option LineR) : DiskOk (lineO d o).d := by
 cases o with
 | none => exact h
 | some x =>
  by_cases hx : DiskOk x.d
  · rw [lineO_yes hx]; exact hx
  · rw [lineO_no hx]; exact h
theorem lineF_ok {d : DiskV} (s : ByteArray) (h : DiskOk d) : DiskOk (lineF d s).d := by rw [lineF_yes h]; exact lineO_ok h _
theorem newBlock_ok : BlockOk (newBlockV 0) := by
 refine ⟨by simp [newBlockV], rfl, fun i hi => ?_⟩; have hg : ∀ j, j < 4 → (newBlockV 0).pages.getD j noPage = noPage := by
  intro j hj
  have : j = 0 ∨ j = 1 ∨ j = 2 ∨ j = 3 := by omega
  rcases this with rfl | rfl | rfl | rfl <;> rfl
 rw [hg i hi]; exact ⟨by decide, fun _ h => by cases h⟩
theorem newDev_ok {n : Nat} (h1 : 1 ≤ n) (h2 : n ≤ 12) : DevOk (newDev n) := by
 refine ⟨by rw [newDev_len]; omega, fun i hi => ?_⟩; rw [newDev_len] at hi; rw [newDev_get hi]; exact newBlock_ok
theorem newDev_page (n k : Nat) : pageN (newDev n) k = noPage := by
 unfold pageN; by_cases h : k / 4 < n
 · rw [newDev_get h]; have : k % 4 = 0 ∨ k % 4 = 1 ∨ k % 4 = 2 ∨ k % 4 = 3 := by omega
   rcases this with e | e | e | e <;> rw [e] <;> rfl
 · have : (newDev n).getD (k / 4) noBlock = noBlock := by
    rw [List.getD_eq_getElem?_getD, List.getElem?_eq_none (by rw [newDev_len]; omega)]; rfl
   rw [this]; rfl
theorem newDev_last (n : Nat) : ∀ k, lastAt (newDev n) k = 0
 | 0 => rfl
 | k + 1 => by unfold lastAt; rw [newDev_last n k, newDev_page]; rfl
theorem emptyT_row {a : Nat} (h : a < 8) : emptyT.getD a [] = emptyRow := by unfold emptyT; rw [List.getD_eq_getElem?_getD, List.getElem?_replicate, if_pos h]; rfl
theorem emptyT_e {a b : Nat} (h : b < (emptyT.getD a []).length) : tE emptyT a b = -1 := by
 unfold tE; by_cases ha : a < 8
 · rw [emptyT_row ha] at h ⊢; unfold emptyRow at h ⊢; rw [List.getD_eq_getElem?_getD, List.getElem?_replicate]; rw [List.length_replicate] at h; rw [if_pos h]; rfl
 · rw [List.getD_eq_getElem?_getD, List.getElem?_eq_none (by show 8 ≤ a; omega)] at h; exact absurd h (Nat.not_lt_zero _)
theorem emptyT_ok : TableOk emptyT := by
 refine ⟨rfl, fun a ha => by rw [emptyT_row ha]; rfl, fun a b hb _ => ⟨by rw [emptyT_e hb]; omega, fun _ _ _ _ h0 => by rw [emptyT_e hb] at h0; omega⟩⟩
theorem newDiskV_ok {n : Nat} (h1 : 1 ≤ n) (h2 : n ≤ 12) : DiskOk (newDiskV n) := by
 refine ⟨⟨newDev_ok h1 h2, fun i hi => ?_⟩, emptyT_ok, fun f hf k hk => .inl ?_, ?_, fun i hi => absurd hi (Nat.not_lt_zero _), fun i j _ hi => absurd hi (Nat.not_lt_zero _)⟩
 · have hg : ([(newDiskV n).hot, (newDiskV n).warm, (newDiskV n).cold] : List Int).getD i 0 = -1 := by
    have : i = 0 ∨ i = 1 ∨ i = 2 := by omega
    rcases this with rfl | rfl | rfl <;> rfl
   rw [hg]; have := newDev_len n; exact ⟨⟨by omega, by show (-1 : Int) ≤ ((newDev n).length : Int) - 1; omega⟩, fun _ _ h => by omega⟩
 · show tE emptyT f k < 0
   rw [emptyT_e (by rw [emptyT_row hf]; exact hk)]; omega
 · show lastStamp (newDev n) ≤ 0 ∧ (0 : Int) ≤ 1000
   unfold lastStamp; rw [newDev_last]; omega
noncomputable def lineD (d : DiskV) (ss : List ByteArray) : Nat → DiskV
 | 0 => d
 | k + 1 => (lineF (lineD d ss k) (ss.getD k ByteArray.empty)).d
noncomputable def ansAt (d : DiskV) (ss : List ByteArray) (k : Nat) : ByteArray := (lineF (lineD d ss k) (ss.getD k ByteArray.empty)).a
noncomputable def lineA (d : DiskV) (ss : List ByteArray) (k : Nat) : List ByteArray := (List.range k).map (ansAt d ss)
structure LinesR where
 d : DiskV
 al : List ByteArray
def GoodL (d : DiskV) (ss : List ByteArray) : Prop := DiskOk d ∧ ss.length ≤ 20
open Classical in
noncomputable def linesF (d : DiskV) (ss : List ByteArray) : LinesR := if GoodL d ss then ⟨lineD d ss ss.length, lineA d ss ss.length⟩ else ⟨zeroDisk, []⟩
theorem linesF_yes {d : DiskV} {ss : List ByteArray} (h : GoodL d ss) : linesF d ss = ⟨lineD d ss ss.length, lineA d ss ss.length⟩ := by unfold linesF; rw [if_pos h]
theorem linesF_no {d : DiskV} {ss : List ByteArray} (h : ¬ GoodL d ss) : linesF d ss = ⟨zeroDisk, []⟩ := by unfold linesF; rw [if_neg h]
theorem lineA_len (d : DiskV) (ss : List ByteArray) (k : Nat) : (lineA d ss k).length = k := by simp [lineA]
theorem lineA_succ (d : DiskV) (ss : List ByteArray) (k : Nat) : lineA d ss (k + 1) = lineA d ss k ++ [ansAt d ss k] := by simp [lineA, List.range_succ]
theorem lineD_ok {d : DiskV} (ss : List ByteArray) (h : DiskOk d) : ∀ k, DiskOk (lineD d ss k)
 | 0 => h
 | k + 1 => lineF_ok _ (lineD_ok ss h k)
theorem linesF_small (d : DiskV) (ss : List ByteArray) : SmallDV (linesF d ss).d := by
 by_cases h : GoodL d ss
 · rw [linesF_yes h]; exact small_ok (lineD_ok ss h.1 _)
 · rw [linesF_no h]; exact ⟨by simp [zeroDisk], by simp [zeroDisk], by simp [zeroDisk], fun i hi => by simp [zeroDisk] at hi, fun i hi => by simp [zeroDisk] at hi, fun i hi => by simp [zeroDisk] at hi⟩
theorem linesF_many (d : DiskV) (ss : List ByteArray) : (linesF d ss).al.length ≤ 20 := by
 by_cases h : GoodL d ss
 · rw [linesF_yes h]; simp only [lineA_len]; exact h.2
 · rw [linesF_no h]; simp
theorem lineD_take {d : DiskV} {ss : List ByteArray} {h : Nat} : ∀ k, k ≤ h → lineD d (ss.take h) k = lineD d ss k
 | 0, _ => rfl
 | k + 1, hk => by
  unfold lineD; rw [lineD_take k (by omega), List.getD_eq_getElem?_getD, List.getD_eq_getElem?_getD, List.getElem?_take_of_lt (by omega)]
theorem lineD_drop {d : DiskV} {ss : List ByteArray} {h : Nat} : ∀ k, lineD (lineD d ss h) (ss.drop h) k = lineD d ss (h + k)
 | 0 => rfl
 | k + 1 => by
  show (lineF (lineD (lineD d ss h) (ss.drop h) k) ((ss.drop h).getD k ByteArray.empty)).d = (lineF (lineD d ss (h + k)) (ss.getD (h + k) ByteArray.empty)).d
  rw [lineD_drop k, List.getD_eq_getElem?_getD, List.getD_eq_getElem?_getD, List.getElem?_drop]
theorem ansAt_take {d : DiskV} {ss : List ByteArray} {h k : Nat} (hk : k < h) : ansAt d (ss.take h) k = ansAt d ss k := by
 unfold ansAt; rw [lineD_take k (by omega), List.getD_eq_getElem?_getD, List.getD_eq_getElem?_getD, List.getElem?_take_of_lt (by omega)]
theorem ansAt_drop {d : DiskV} {ss : List ByteArray} {h k : Nat} : ansAt (lineD d ss h) (ss.drop h) k = ansAt d ss (h + k) := by
 unfold ansAt; rw [lineD_drop k, List.getD_eq_getElem?_getD, List.getD_eq_getElem?_getD, List.getElem?_drop]
theorem lines_split {d : DiskV} {ss : List ByteArray} (h : Nat) (hh : h ≤ ss.length) (g : GoodL d ss) :
 linesF d (ss.take h) = ⟨lineD d ss h, lineA d ss h⟩ ∧ linesF (lineD d ss h) (ss.drop h) = ⟨lineD d ss ss.length, (List.range (ss.length - h)).map fun k => ansAt d ss (h + k)⟩ ∧
 lineA d ss h ++ ((List.range (ss.length - h)).map fun k => ansAt d ss (h + k)) = lineA d ss ss.length := by
 have l1 : (ss.take h).length = h := by rw [List.length_take]; omega
 have l2 : (ss.drop h).length = ss.length - h := List.length_drop; have g1 : GoodL d (ss.take h) := ⟨g.1, by rw [l1]; have := g.2; omega⟩; have g2 : GoodL (lineD d ss h) (ss.drop h) := ⟨lineD_ok ss g.1 h, by rw [l2]; have := g.2; omega⟩; refine ⟨?_, ?_, ?_⟩
 · rw [linesF_yes g1, l1, lineD_take h (Nat.le_refl _)]; congr 1
   unfold lineA; exact List.map_congr_left fun i hi => ansAt_take (List.mem_range.1 hi)
 · rw [linesF_yes g2, l2, lineD_drop]; congr 1
   · congr 1; omega
   · unfold lineA; exact List.map_congr_left fun i _ => ansAt_drop
 · unfold lineA; have e : ss.length = h + (ss.length - h) := by omega
   rw [e, List.range_add, List.map_append, List.map_map]; have e2 : h + (ss.length - h) - h = ss.length - h := by omega
   rw [e2]; rfl
def Abv (top : Nat) (w w' : World) : Prop := w.heap.size ≤ w'.heap.size ∧ ∀ k, top ≤ k → k < w.heap.size → w'.heap[k]? = w.heap[k]?
theorem Abv.refl (top : Nat) (w : World) : Abv top w w := ⟨Nat.le_refl _, fun _ _ _ => rfl⟩
theorem Abv.trans {top : Nat} {a b c : World} (h : Abv top a b) (k : Abv top b c) : Abv top a c := ⟨Nat.le_trans h.1 k.1, fun i h1 h2 => (k.2 i h1 (Nat.lt_of_lt_of_le h2 h.1)).trans (h.2 i h1 h2)⟩
theorem Abv.of_below {top : Nat} {w w' : World} (b : Below w.heap.size w w') : Abv top w w' := ⟨b.size, fun i _ h => b.block i h⟩
theorem Abv.grown {top : Nat} {w w' : World} {row : Option Nat} (g : w.grownBy w' row) (h : ∀ k, row = some k → k < top) : Abv top w w' := ⟨g.size, fun i h1 h2 => g.block i h2 (fun e => by have := h i e.symm; omega)⟩
theorem Abv.blk {top g t : Nat} {cs : Array Value} {w w' : World} (a : Abv top w w') (k : Blk w g t cs) (h : top ≤ g) : Blk w' g t cs := (a.2 g h k.lt).trans k
structure TopR (w : World) (top : Nat) (A : Option Addr) (n st of : Nat) : Prop where
 main : ∀ a, A = some a → a.block < top
 row : ∀ a i b m c, A = some a → i < n → w.cell? ⟨a.block, i * st + of, none⟩ = some (.slice (some b) m c) → b.block < top
theorem TopR.cell {w w' : World} {top : Nat} {A : Option Addr} {n st of : Nat} (h : TopR w top A n st of) (hc : ∀ a i, A = some a → i < n → w'.cell? ⟨a.block, i * st + of, none⟩ = w.cell? ⟨a.block, i * st + of, none⟩) : TopR w' top A n st of :=
 ⟨h.main, fun a i b m c e hi hh => h.row a i b m c e hi ((hc a i e hi).symm.trans hh)⟩
theorem TopR.below {w w' : World} {B top : Nat} {A : Option Addr} {n st of : Nat} (h : TopR w top A n st of) (b : Below B w w') (hB : top ≤ B) : TopR w' top A n st of :=
 h.cell fun a i e _ => b.cell (p := ⟨a.block, i * st + of, none⟩) (by have := h.main a e; show a.block < B; omega)
abbrev noTxt : ByteArray := ByteArray.empty
structure RdS (w : World) (B : Nat) (A : Option Addr) (n : Nat) (ss : List ByteArray) : Prop where
 len : ss.length = n
 at_ : 0 < n → ∃ b off, A = some ⟨b, off, none⟩ ∧ b < B ∧ ∀ i, i < n → w.cell? ⟨b, off + i, none⟩ = some (.string (ss.getD i noTxt))
theorem RdS.mono {w B B' A n xs} (h : RdS w B A n xs) (hB : B ≤ B') : RdS w B' A n xs :=
 ⟨h.len, fun hn => by obtain ⟨b, off, e, hb, hc⟩ := h.at_ hn; exact ⟨b, off, e, by omega, hc⟩⟩
theorem RdS.below {w w' B A n xs} (h : RdS w B A n xs) (hb : Below B w w') : RdS w' B A n xs :=
 ⟨h.len, fun hn => by obtain ⟨b, off, e, hb1, hc⟩ := h.at_ hn; exact ⟨b, off, e, hb1, fun i hi => (hb.cell hb1).trans (hc i hi)⟩⟩
theorem RdS.drew {w B A n xs} (h : RdS w B A n xs) : RdS w.drew B A n xs := ⟨h.len, h.at_⟩
def OwS (w : World) (base : Nat) (A : Option Addr) (n c : Nat) (ss : List ByteArray) : Prop := w.ownsRow base 9 1 (.slice A n c) n (ss.map Value.string)
theorem OwS.len {w base A n c ss} (h : OwS w base A n c ss) : ss.length = n := by have := h.1; simpa using this
theorem OwS.below {w w' base A n c ss} (h : OwS w base A n c ss) (hb : Below w.heap.size w w') : OwS w' base A n c ss := own_below h hb
theorem OwS.lower {w base base' A n c ss} (h : OwS w base A n c ss) (hb : base' ≤ base) : OwS w base' A n c ss := own_lower h hb
theorem OwS.typed {ts : List Nat} {w w' base A n c ss} (h : OwS w base A n c ss) (hc : ChgT ts w w') (h1 : 9 ∉ ts) : OwS w' base A n c ss := own_typed h hc h1
theorem OwS.cap {w base A n c ss} (h : OwS w base A n c ss) : n ≤ c ∧ c ≤ 9223372036854775807 := own_cap h
theorem OwS.nil (w : World) (base : Nat) : OwS w base none 0 0 [] := World.ownsRow_nil _ _ _ _
theorem OwS.form {w base A n c ss} (h : OwS w base A n c ss) (hn : 0 < n) : ∃ g, A = some ⟨g, 0, none⟩ ∧ base ≤ g ∧ g < w.heap.size := own_form h hn
theorem OwS.cells {w base g n c ss} (h : OwS w base (some ⟨g, 0, none⟩) n c ss) (i : Nat) (hi : i < n) : w.cell? ⟨g, i, none⟩ = some (.string (ss.getD i noTxt)) ∧ w.frozen? ⟨g, i, none⟩ = false :=
 ⟨own_strCell h i (by rw [h.len]; exact hi), World.ownsRow.frozenAt h (g := g) (cap := c) _⟩
theorem OwS.rd {w base A n c ss} (h : OwS w base A n c ss) : RdS w w.heap.size A n ss := by
 refine ⟨h.len, fun hn => ?_⟩; obtain ⟨g, rfl, hg1, hg2⟩ := h.form hn; exact ⟨g, 0, rfl, hg2, fun i hi => by rw [Nat.zero_add]; exact (h.cells i hi).1⟩
theorem OwS.lt {w base A n c ss} (h : OwS w base A n c ss) : ∀ a, A = some a → a.block < w.heap.size := by
 intro a e
 subst e; exact (own_lt h rfl).2
theorem OwS.put {w : World} {base g n c : Nat} {ss : List ByteArray} (h : OwS w base (some ⟨g, 0, none⟩) n c ss) (i : Nat) (x : ByteArray) :
 OwS (w.setCell ⟨g, i, none⟩ (.string x)) base (some ⟨g, 0, none⟩) n c (ss.set i x) ∧ w.grownBy (w.setCell ⟨g, i, none⟩ (.string x)) (some g) := by
 obtain ⟨o, q⟩ := World.ownsRow.stored h (g := g) (cap := c) i (.string x); rw [← List.map_set] at o; exact ⟨o, q⟩
theorem make_texts (n : Nat) (hn : n ≤ 1048576) (W : World) : (Instr.makeSlice 32 (.int .i64 (n : Int)) (.int .i64 (n : Int))).run Tryz.prog W = .ok (.slice (some ⟨W.heap.size, 0, none⟩) n n) (W.alloc (.cells (madeCells #[.string ByteArray.empty] n) 9)) := by
 obtain ⟨i0, hi, hz0, hz1, hz2⟩ := info_parts infoStr; have := run_make (P := Tryz.prog) W 32 9 i0 _ Tryz.underlying32 hi hz0 .i64 .i64 n n (by omega) (by omega) (by rw [hz2]; omega) (by omega); rw [this, hz1]; simp only [Int.toNat_natCast, Nat.mul_one]; rfl
theorem own_madeTexts (w : World) (base n : Nat) (ss : List ByteArray) (hn : ss.length = n) (hb : base ≤ w.heap.size) (hm : n ≤ 1048576) : OwS (w.alloc (.cells (madeCells #[.string ByteArray.empty] n) 9)) base (some ⟨w.heap.size, 0, none⟩) n n (fillTo noTxt ss 0) := by
 have h := World.ownsRow_lit (base := base) (e := 9) (size := 1) w (madeCells #[.string ByteArray.empty] n) n hb (by unfold maxLen; omega) (by rw [size_madeCells, Nat.mul_one]); rw [toList_madeCells_one] at h; rw [fillTo_zero, hn]; unfold OwS; rw [List.map_replicate]; exact h
def SmallS (ss : List ByteArray) (n : Nat) (left : Int) : Prop := ∀ i, i < n → ((ss.getD i noTxt).size : Int) ≤ left
theorem OwD.capN {w : World} {base : Nat} {h : DH} {d : DiskV} (o : OwD w base h d) : CapN h := by
 obtain ⟨bA, bn, bc, tA, tn, tc, nA, nn, nc⟩ := h; exact ⟨o.n.cap.1, o.n.cap.2, OwN.capN o.n⟩
def OwnLs (w0 : World) (R : LinesR) (e : Ending) (w' : World) : Prop := ∃ h A c, e = .returned (.tuple #[dkv h R.d, .slice A R.al.length c]) ∧ OwD w' w0.heap.size h R.d ∧ OwS w' w0.heap.size A R.al.length c R.al ∧ Below w0.heap.size w0 w'
theorem ownLs_of {w0 w ws : World} {R : LinesR} {h : DH} {d : DiskV} {A : Option Addr} {n c : Nat} {al : List ByteArray} (hR : R = ⟨d, al⟩) (hl : al.length = n) (ho : OwD ws w0.heap.size h d) (hs : OwS ws w0.heap.size A n c al) (hb : Below ws.heap.size ws w) (hr : Blk w (w0.heap.size + 1) 31 Zd) (hB : Below w0.heap.size w0 w) :
 OwnLs w0 R (.returned (.tuple #[dkv h d, .slice A n c])) (putDisk w (w0.heap.size + 1) h d) := by
 subst hR; subst hl; exact ⟨h, A, c, rfl, (ho.below hb).put hr h d, (hs.below hb).typed (blk_putDisk hr h d).2 (by decide), below_putDisk hB (by omega) h d⟩
theorem far_putDisk {w : World} {g b o : Nat} (hne : g ≠ b) (h : DH) (d : DiskV) : (putDisk w g h d).cell? ⟨b, o, none⟩ = w.cell? ⟨b, o, none⟩ :=
 (World.cell?_setCell_far _ ⟨g, 6, none⟩ ⟨b, o, none⟩ _ hne).trans ((World.cell?_setCell_far _ ⟨g, 5, none⟩ ⟨b, o, none⟩ _ hne).trans ((World.cell?_setCell_far _ ⟨g, 4, none⟩ ⟨b, o, none⟩ _ hne).trans ((World.cell?_setCell_far _ ⟨g, 3, none⟩ ⟨b, o, none⟩ _ hne).trans ((World.cell?_setCell_far _ ⟨g, 2, none⟩ ⟨b, o, none⟩ _ hne).trans ((World.cell?_setCell_far _ ⟨g, 1, none⟩ ⟨b, o, none⟩ _ hne).trans (World.cell?_setCell_far _ ⟨g, 0, none⟩ ⟨b, o, none⟩ _ hne))))))
theorem wpList_appS {ops : Array Oper} {rest : List Oper} {o : Oper} {a : Act} {Q : Exit → Act → World → Prop} {w : World} {s x : Operand} {base : Nat} {A0 : Option Addr} {c0 n : Nat} {xs : List ByteArray} {t : ByteArray} (hgd : o.guard = none)
 (ho : o.op = .call { callee := .builtin .append, args := #[s, x], argTypes := #[32, 32] })
 (hs : a.eval s = .slice A0 n c0) (hown : OwS w base A0 n c0 xs)
 (hx : a.eval x = .slice (some ⟨w.heap.size, 0, none⟩) 1 1) (hn : n ≤ 1000000000000) (hbase : base ≤ w.heap.size)
 (h : ∀ g c w', OwS w' base (some ⟨g, 0, none⟩) (n + 1) c (xs ++ [t]) → w.grownBy w' (Value.slice A0 n c0).ownBlock → wpList Tryz.prog ops Q rest (a.put o.dst (.slice (some ⟨g, 0, none⟩) (n + 1) c)) w') :
 wpList Tryz.prog ops Q (o :: rest) a (w.alloc (.cells #[.string t] 9)) := by
 obtain ⟨i0, hi, hz0, hz1, hz2⟩ := info_parts infoStr; refine wpList_app hgd s x 32 ho base 9 i0 _ 1 16 Tryz.underlying32 hi hz0 hz1 hz2 rfl (by decide) (.slice A0 n c0) n _ hs hown [.string t] hx rfl (by simp [Value.oneCell']) (by omega) (by omega) (by omega) ?_; intro g c w' g1 g2 g3
 exact h g c w' (by unfold OwS; rw [List.map_append]; exact g1) g2
end Go.Proofs.YtefdjahaimnndaaGreatDoor
