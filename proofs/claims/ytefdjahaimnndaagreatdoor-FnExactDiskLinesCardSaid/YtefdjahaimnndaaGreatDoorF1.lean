/- Parts. -/
import Derived.Test.YtefdjahaimnndaaGreatDoorC7
namespace Go.Proofs.YtefdjahaimnndaaGreatDoor
open Go.ChangeShapes Go.WideShapes Go.ChangeAt Go.RowKit Go.Deep
open Go.Lib (hid)
set_option linter.unusedVariables false
set_option linter.unusedSimpArgs false
theorem laidOut : laidOutB Tryz.prog = true := by kernel_rfl
theorem ext_getD {xs ys : List Int} (h : xs.length = ys.length) (hd : ∀ i, i < xs.length → xs.getD i 0 = ys.getD i 0) : xs = ys := by
 apply List.ext_getElem h
 intro i h1 h2
 have := hd i h1; rw [List.getD_eq_getElem?_getD, List.getD_eq_getElem?_getD, List.getElem?_eq_getElem h1, List.getElem?_eq_getElem h2] at this; exact this
def upTo (xs : List Int) (k : Nat) : List Int := xs.take k ++ List.replicate (xs.length - k) 0
theorem upTo_zero (xs : List Int) : upTo xs 0 = List.replicate xs.length 0 := by simp [upTo]
theorem upTo_all (xs : List Int) : upTo xs xs.length = xs := by simp [upTo]
theorem upTo_len (xs : List Int) (k : Nat) (h : k ≤ xs.length) : (upTo xs k).length = xs.length := by simp [upTo]; omega
theorem upTo_succ (xs : List Int) (k : Nat) (h : k < xs.length) : (upTo xs k).set k (xs.getD k 0) = upTo xs (k + 1) := by
 unfold upTo; rw [List.set_append_right _ _ (by simp; omega)]; have e : xs.length - k = (xs.length - (k + 1)) + 1 := by omega
 rw [e, List.replicate_succ]; have : k - (List.take k xs).length = 0 := by simp; omega
 rw [this, List.set_cons_zero, List.take_succ_eq_append_getElem h, List.getD_eq_getElem?_getD, List.getElem?_eq_getElem h, List.append_assoc]; rfl
theorem toIntS_c {A : Option Addr} {n c B : Nat} {xs : List Int} {w : World} (hr : RdI .i64 w B A n xs) (hB : B ≤ w.heap.size) (hn : n ≤ 1048576) :
 Calls Tryz.prog 155 #[.slice A n c] w fun e w' => e = .returned (.slice (some ⟨w.heap.size, 0, none⟩) n n) ∧ RowI w' w.heap.size xs ∧ Below w.heap.size w w' ∧ w'.heap.size = w.heap.size + 1 := by
 obtain ⟨i0, hi, hz0, hz1, hz2⟩ := info_parts infoInt; have hl := hr.len; have hmk : ∀ W : World, (Instr.makeSlice 57 (.int .i64 (n : Int)) (.int .i64 (n : Int))).run Tryz.prog W = .ok (.slice (some ⟨W.heap.size, 0, none⟩) n n) (W.alloc (.cells (cellsI (List.replicate n 0)) 3)) := by
  intro W
  have := run_make (P := Tryz.prog) W 57 3 i0 (.int .i64 0) Tryz.underlying57 hi hz0 .i64 .i64 n n (by omega) (by omega) (by rw [hz2]; omega) (by omega); rw [this, hz1]; simp only [Int.toNat_natCast, Nat.mul_one]; rw [← cellsI_zero]; rfl
 go_enter Tryz.func155, Tryz.ntmps155
 go_wp2; go_loopw [4] (fun i wr => ∃ k : Nat, k ≤ n ∧ i = .int .i64 k ∧ RowI wr w.heap.size (upTo xs k) ∧ Below w.heap.size w wr ∧ wr.heap.size = w.heap.size + 1) (fun i _ => n - (intOf i).toNat)
 case atStart => exact ⟨0, Nat.zero_le _, rfl, by rw [upTo_zero, hl]; exact Blk.new _ _ _, (Below.refl _ _).alloc (Nat.le_refl _) _, by simp⟩
 case round =>
  obtain ⟨k, hk, rfl, hrow, hbel, hsz⟩ := hrel; by_cases hlt : k < n
  · obtain ⟨b, off, rfl, hbB, hc⟩ := hr.at_ (by omega); have hc1 : wr.cell? ⟨b, off + k, none⟩ = some (.int .i64 (xs.getD k 0)) := (hbel.cell (by exact Nat.lt_of_lt_of_le hbB hB)).trans (hc k hlt); have hc2 := (Blk.cell hrow k).trans (cellsI_get _ k (by rw [upTo_len _ _ (by omega)]; omega)); have hf := Blk.frozen hrow k; have hset : RowI (wr.setCell ⟨w.heap.size, k, none⟩ (.int .i64 (xs.getD k 0))) w.heap.size (upTo xs (k + 1)) := by
     rw [← upTo_succ xs k (by omega)]; unfold RowI; rw [← cellsI_set]; exact Blk.set_ hrow k _
    have hset := hid hset; have hbel2 := hid hbel; have hsz2 := hid hsz; generalize xs.getD k 0 = x at *; generalize (upTo xs k).getD k 0 = y at *; clear hc hmk hrow hbel hsz hr hi hz0 hz1 hz2 hl; go_wp2; go_roundw
    case rel => exact ⟨k + 1, by omega, by go_num, hset.out, hbel2.out.setCell (Nat.le_refl _) _, by simpa [World.setCell] using hsz2.out⟩
    case measure => simp [intOf]; omega
  · have hkn : k = n := by omega
    subst hkn; have hrow' : RowI wr w.heap.size xs := by rw [← hl, upTo_all] at hrow; exact hrow
    clear hmk hrow; go_wp2; go_ret; exact ⟨rfl, hrow', hbel, hsz⟩
theorem eqIntS_c {A A' : Option Addr} {n c n' c' B B' : Nat} {xs ys : List Int} {w : World} (hr : RdI .i64 w B A n xs) (hr' : RdI .i64 w B' A' n' ys) (hn : n ≤ 9000000000000) (hn' : n' ≤ 9000000000000) :
 Calls Tryz.prog 171 #[.slice A n c, .slice A' n' c'] w fun e w' => e = .returned (.bool (bof (xs = ys))) ∧ ∃ m, w' = w.drewN m := by
 have hl := hr.len; have hl' := hr'.len; by_cases hnn : n = n'
 · subst hnn; have HL := hid hl; have HL' := hid hl'; clear hl hl'; go_enter Tryz.func171, Tryz.ntmps171
   go_wp2; go_loopw [5] (fun i wr => ∃ k : Nat, k ≤ n ∧ i = .int .i64 k ∧ (∀ j, j < k → xs.getD j 0 = ys.getD j 0) ∧ ∃ m, wr = w.drewN m) (fun i _ => n - (intOf i).toNat)
   case atStart => exact ⟨0, Nat.zero_le _, rfl, fun j hj => absurd hj (Nat.not_lt_zero _), 0, rfl⟩
   case round =>
    obtain ⟨k, hk, rfl, heq, m, rfl⟩ := hrel; by_cases hlt : k < n
    · obtain ⟨b, off, rfl, hbB, hc⟩ := hr.at_ (by omega); obtain ⟨b', off', rfl, hbB', hc'⟩ := hr'.at_ (by omega); have hc1 := hc k hlt; have hc2 := hc' k hlt; have hx : ∃ x, xs.getD k 0 = x := ⟨_, rfl⟩; obtain ⟨x, hx⟩ := hx; have hy : ∃ y, ys.getD k 0 = y := ⟨_, rfl⟩; obtain ⟨y, hy⟩ := hy; rw [hx] at hc1; rw [hy] at hc2; have HX := hid hx; have HY := hid hy; have HE := hid heq; clear hx hy heq hc hc' hr hr'; by_cases hxy : x = y
      · subst hxy; go_wp2; go_quiet (fail)
        go_wp2; go_roundw
        case rel =>
         refine ⟨k + 1, by omega, by go_num, fun j hj => ?_, m + nq, by first | rfl | rw [World.drewN_drewN]⟩; by_cases e : j = k
         · subst e; rw [HX.out, HY.out]
         · exact HE.out j (by omega)
        case measure => simp [intOf]; omega
      · have hne : (x != y) = true := by simp [hxy]
        have hne2 : (x == y) = false := by simp [hxy]
        have hfin : ¬ xs = ys := fun e => hxy (by rw [← HX.out, ← HY.out, e])
        have HF := hid hfin; clear hfin hxy; go_wp2; go_quiet (fail)
        go_wp2; go_ret
        exact ⟨ret_bof_f HF.out, m + nq, by first | rfl | rw [World.drewN_drewN]⟩
    · have hkn : k = n := by omega
      subst hkn; have hfin : xs = ys := ext_getD (by rw [HL.out, HL'.out]) (fun i hi => heq i (by have := HL.out; omega)); have HF := hid hfin; clear hfin heq; go_wp2; go_ret; exact ⟨ret_bof_t HF.out, _, rfl⟩
 · have hfin : ¬ xs = ys := fun e => hnn (by rw [← hl, ← hl', e])
   have HF := hid hfin; have hne : ((n : Int) != (n' : Int)) = true := by simp; omega
   clear hfin hl hl'; go_enter Tryz.func171, Tryz.ntmps171
   go_wp2; go_ret
   exact ⟨ret_bof_f HF.out, 0, rfl⟩
theorem own_form {w : World} {base : Nat} {e : TypeId} {A : Option Addr} {n c : Nat} {xs : List Value} (h : w.ownsRow base e 1 (.slice A n c) n xs) (hn : 0 < n) : ∃ g, A = some ⟨g, 0, none⟩ ∧ base ≤ g ∧ g < w.heap.size := by
 rcases h.2 with ⟨h1, h2⟩ | ⟨g, cap, cur, h1, hb, hh, _⟩
 · omega
 · injection h1 with h1 h2 h3; refine ⟨g, h1, hb, ?_⟩; rcases Nat.lt_or_ge g w.heap.size with hlt | hge
   · exact hlt
   · rw [Array.getElem?_eq_none hge] at hh; cases hh
def marks (k : Int) (n : Nat) : List Int := (List.range n).map fun (i : Nat) => k + (i : Int)
theorem marks_len (k : Int) (n : Nat) : (marks k n).length = n := by simp [marks]
theorem marks_getD (k : Int) (n i : Nat) (h : i < n) : (marks k n).getD i 0 = k + (i : Int) := by
 simp [marks, List.getD_eq_getElem?_getD, h]
def markTo (k : Int) (j : Nat) (xs : List Int) : List Int := marks k j ++ xs.drop j
theorem markTo_zero (k : Int) (xs : List Int) : markTo k 0 xs = xs := by simp [markTo, marks]
theorem markTo_all (k : Int) (xs : List Int) : markTo k xs.length xs = marks k xs.length := by simp [markTo]
theorem markTo_len (k : Int) (j : Nat) (xs : List Int) (h : j ≤ xs.length) : (markTo k j xs).length = xs.length := by simp [markTo, marks_len]; omega
theorem markTo_succ (k : Int) (j : Nat) (xs : List Int) (h : j < xs.length) : (markTo k j xs).set j (k + (j : Int)) = markTo k (j + 1) xs := by
 unfold markTo; rw [List.set_append_right _ _ (by rw [marks_len]; omega), marks_len, Nat.sub_self, List.drop_eq_getElem_cons h, List.set_cons_zero]; have : marks k (j + 1) = marks k j ++ [k + (j : Int)] := by simp [marks, List.range_succ]
 rw [this, List.append_assoc]; rfl
theorem toIntS_o {A : Option Addr} {c B : Nat} {xs : List Int} {w : World} (hr : RdI .i64 w B A xs.length xs) (hB : B ≤ w.heap.size) (hn : xs.length ≤ 1048576) :
 Calls Tryz.prog 155 #[.slice A xs.length c] w (OwnI w xs) := by
 refine (toIntS_c hr hB hn).mono ?_; rintro e w' ⟨rfl, h1, h2, h3⟩; exact ⟨_, _, rfl, RowI.own h1 (Nat.le_refl _) (by unfold maxLen; omega), h2⟩
theorem eqIntS_o {A A' : Option Addr} {n c c' B B' : Nat} {xs : List Int} {w : World} (hr : RdI .i64 w B A n xs) (hr' : RdI .i64 w B' A' n xs) (hn : n ≤ 9000000000000) :
 Calls Tryz.prog 171 #[.slice A n c, .slice A' n c'] w fun e w' => e = .returned (.bool true) ∧ Below w.heap.size w w' := by
 refine (eqIntS_c hr hr' hn hn).mono ?_; rintro e w' ⟨rfl, m, rfl⟩; exact ⟨by rw [bof_t.2 rfl], below_drewN (Below.refl _ _) m⟩
theorem markIntS_c {A : Option Addr} {n c base : Nat} {xs : List Int} {w : World} {k0 : Int} (hown : w.ownsRow base 3 1 (.slice A n c) n (xs.map (Value.int .i64))) (hk0 : 0 ≤ k0) (hk1 : k0 ≤ 1000000000000000) (hn : n ≤ 1000000000000) :
 Calls Tryz.prog 172 #[.slice A n c, .int .i64 k0] w fun e w' => e = .returned (.int .i64 (k0 + n)) ∧ w'.ownsRow base 3 1 (.slice A n c) n ((marks k0 n).map (Value.int .i64)) ∧ w.grownBy w' (Value.slice A n c).ownBlock := by
 have hl := own_len hown; go_enter Tryz.func172, Tryz.ntmps172
 go_wp2; go_loopw [1, 5] (fun kk i wr => ∃ j : Nat, j ≤ n ∧ i = .int .i64 j ∧ kk = .int .i64 (k0 + j) ∧ wr.ownsRow base 3 1 (.slice A n c) n ((markTo k0 j xs).map (Value.int .i64)) ∧ w.grownBy wr (Value.slice A n c).ownBlock) (fun _ i _ => n - (intOf i).toNat)
 case atStart => exact ⟨0, Nat.zero_le _, rfl, by simp, by rw [markTo_zero]; exact hown, World.grownBy.refl _ _⟩
 case round =>
  obtain ⟨j, hj, rfl, rfl, howr, hg⟩ := hrel; by_cases hlt : j < n
  · obtain ⟨g, rfl, hbg, hgs⟩ := own_form howr (by omega); have hc := (howr.cellAt (g := g) (cap := c) j (by omega)).trans (map_getElem? _ j (by rw [markTo_len _ _ _ (by omega)]; omega)); have hf := howr.frozenAt (g := g) (cap := c) j; have hst := howr.stored (g := g) (cap := c) j (.int .i64 (k0 + (j : Int))); rw [← List.map_set, markTo_succ k0 j xs (by omega)] at hst; have HST := hid hst.1; have HG := hid hg; generalize (markTo k0 j xs).getD j 0 = y at *; clear hst hg howr hown hl; go_wp2; go_roundw
    case rel => exact ⟨j + 1, by omega, by go_num, by go_num, HST.out, gb_setCell (g := g) (p := ⟨g, j, none⟩) HG.out (.inl rfl) _⟩
    case measure => simp [intOf]; omega
  · have hkn : j = n := by omega
    subst hkn; have how : wr.ownsRow base 3 1 (.slice A j c) j ((marks k0 j).map (Value.int .i64)) := by rw [← hl, markTo_all, hl] at howr; exact howr
    clear howr hown; go_wp2; go_ret; exact ⟨rfl, how, hg⟩
theorem heldIntS_c {A : Option Addr} {n c B : Nat} {w : World} {k0 : Int} (hr : RdI .i64 w B A n (marks k0 n)) (hk0 : 0 ≤ k0) (hk1 : k0 ≤ 1000000000000000) (hn : n ≤ 1000000000000) :
 Calls Tryz.prog 173 #[.slice A n c, .int .i64 k0] w fun e w' => e = .returned (.int .i64 (k0 + n)) ∧ w = w' := by
 go_enter Tryz.func173, Tryz.ntmps173
 go_wp2; go_loop [1, 5] (fun kk i => ∃ j : Nat, j ≤ n ∧ i = .int .i64 j ∧ kk = .int .i64 (k0 + j)) (fun _ i => n - (intOf i).toNat)
 case atStart => exact ⟨0, Nat.zero_le _, rfl, by simp⟩
 case round =>
  obtain ⟨j, hj, rfl, rfl⟩ := hrel; by_cases hlt : j < n
  · obtain ⟨b, off, rfl, hbB, hc⟩ := hr.at_ (by omega); have hc1 := hc j hlt; rw [marks_getD _ _ _ hlt] at hc1; clear hr hc; go_wp2; go_round
    case rel => exact ⟨j + 1, by omega, by go_num, by go_num⟩
    case measure => simp [intOf]; omega
  · have hkn : j = n := by omega
    subst hkn; go_wp2; go_ret; exact ⟨rfl, rfl⟩
theorem markIntS_o {A : Option Addr} {n c base : Nat} {xs : List Int} {w : World} {k0 : Int} (hown : w.ownsRow base 3 1 (.slice A n c) n (xs.map (Value.int .i64))) (hk0 : 0 ≤ k0) (hk1 : k0 ≤ 1000000000000000) (hn : n ≤ 1000000000000) :
 Calls Tryz.prog 172 #[.slice A n c, .int .i64 k0] w fun e w' => e = .returned (.int .i64 (k0 + n)) ∧ w'.ownsRow base 3 1 (.slice A n c) n ((marks k0 n).map (Value.int .i64)) ∧ w.grownBy w' (Value.slice A n c).ownBlock :=
 markIntS_c hown hk0 hk1 hn
theorem ChgT.wide {ts ts' a b} (h : ChgT ts a b) (hs : ∀ e ∈ ts, e ∈ ts') : ChgT ts' a b :=
 ⟨h.os, h.tape, h.output, h.size, fun i hi hne => h.block i hi (fun cur e fz he hm => hne cur e fz he (hs e hm))⟩
section
variable {w w' : World} {base t1 q t2 s2 n : Nat} {v : Value} {es : List El} {hs : List Value}
theorem Own2.typ (h : Own2 w base t1 q t2 s2 v n es hs) (hg : w.grownBy w' v.ownBlock) : ChgT [t1] w w' := ChgT.grown h.main (by simp) hg
end
theorem getD_mapRange {α : Type} (d : α) (f : Nat → α) {n i : Nat} (h : i < n) : ((List.range n).map f).getD i d = f i := by
 simp [List.getD_eq_getElem?_getD, h]
def SzOk (left : Int) (P : Prop) (e : Ending) : Prop := ∃ r : Int, e = .returned (.int .i64 r) ∧ -1 ≤ r ∧ r ≤ left ∧ (0 ≤ r → P)
theorem szPageS_c {A : Option Addr} {n c : Nat} {left : Int} {w : World} (h0 : 0 ≤ left) (h1 : left ≤ 1048576) (hm : n ≤ 9223372036854775807) :
 Calls Tryz.prog 147 #[.slice A n c, .int .i64 left] w fun e w' => SzOk left ((n : Int) ≤ left) e ∧ w = w' := by
 by_cases h : (n : Int) ≤ left
 · go_enter Tryz.func147, Tryz.ntmps147
   go_wp2; go_ret
   exact ⟨⟨_, rfl, by omega, by omega, fun _ => h⟩, rfl⟩
 · go_enter Tryz.func147, Tryz.ntmps147
   go_wp2; go_ret
   exact ⟨⟨_, rfl, by omega, by omega, fun h => by omega⟩, rfl⟩
theorem szBlock_c {A : Option Addr} {n c : Nat} {we left : Int} {w : World} (h0 : 0 ≤ left) (h1 : left ≤ 1048576) (hm : n ≤ 9223372036854775807) :
 Calls Tryz.prog 102 #[.agg #[.int .i64 we, .slice A n c], .int .i64 left] w fun e w' => SzOk left ((n : Int) ≤ left) e ∧ Below w.heap.size w w' := by
 go_enter Tryz.func102, Tryz.ntmps102
 go_wp2_with fail; refine (szPageS_c h0 h1 hm).mono ?_
 rintro e w' ⟨⟨r, rfl, r1, r2, r3⟩, rfl⟩; have HR := hid r3; clear r3; by_cases hr : r < 0
 · go_wp2; go_ret
   exact ⟨⟨_, rfl, by omega, by omega, fun h => by omega⟩, (Below.refl _ _).alloc (Nat.le_refl _) _⟩
 · go_wp2; go_ret
   exact ⟨⟨_, rfl, by omega, by omega, HR.out⟩, (Below.refl _ _).alloc (Nat.le_refl _) _⟩
theorem szBlockS_c {A : Option Addr} {n c B : Nat} {bs : List BlockV} {left : Int} {w : World} (hr : RdB w B A n bs) (hB : B ≤ w.heap.size) (h0 : 0 ≤ left) (h1 : left ≤ 1048576) (hm : n ≤ 9223372036854775807) :
 Calls Tryz.prog 45 #[.slice A n c, .int .i64 left] w fun e w' => SzOk left ((n : Int) ≤ left ∧ SmallB bs n left) e ∧ Below w.heap.size w w' := by
 by_cases h : (n : Int) ≤ left
 · go_enter Tryz.func45, Tryz.ntmps45
   go_wp2; go_loopw [1, 5] (fun s i wr => ∃ (k : Nat) (l : Int), k ≤ n ∧ i = .int .i64 k ∧ s = .int .i64 l ∧ 0 ≤ l ∧ l ≤ left ∧ SmallB bs k left ∧ Below w.heap.size w wr) (fun _ i _ => n - (intOf i).toNat)
   case atStart => exact ⟨0, left - n, Nat.zero_le _, rfl, rfl, by omega, by omega, fun i hi => absurd hi (Nat.not_lt_zero _), Below.refl _ _⟩
   case round =>
    obtain ⟨k, l, hk, rfl, rfl, hl0, hl1, hsm, hbl⟩ := hrel; have HS := hid hsm; have HB := hid hbl; by_cases hlt : k < n
    · obtain ⟨b, off, rfl, hbB, hc⟩ := hr.at_ (by omega); obtain ⟨A', n', c', e0, e1, hnc, hcm, hrg⟩ := hc k hlt; have hbs : b < w.heap.size := by omega
      replace e0 := (hbl.cell (p := ⟨b, off + k * 2, none⟩) hbs).trans e0; replace e1 := (hbl.cell (p := ⟨b, off + k * 2 + 1, none⟩) hbs).trans e1; have HL := hid hrg.len; generalize (bs.getD k noBlock).wear = we at *; clear hc hr hsm hbl hrg; go_wp2_with fail; refine (szBlock_c hl0 (by omega) (by omega)).mono ?_; rintro e w2 ⟨⟨r, rfl, r1, r2, r3⟩, hb2⟩; have HR := hid r3; have HB2 := hid (HB.out.trans (hb2.mono HB.out.size)); clear r3 hb2 e0 e1; by_cases hneg : r < 0
      · go_wp2; go_ret
        exact ⟨⟨_, rfl, by omega, by omega, fun h => by omega⟩, HB2.out⟩
      · have HS2 := hid (show SmallB bs (k + 1) left from fun i hi => by
         by_cases e : i = k
         · subst e; have := HR.out (by omega); have := HL.out; omega
         · exact HS.out i (by omega))
        go_wp2; go_roundw
        case rel => exact ⟨k + 1, r, by omega, by go_num, rfl, by omega, by omega, HS2.out, HB2.out⟩
        case measure => simp [intOf]; omega
    · obtain rfl : k = n := by omega
      clear hsm hbl; go_wp2; go_ret; exact ⟨⟨_, rfl, by omega, hl1, fun _ => ⟨h, HS.out⟩⟩, HB.out⟩
 · go_enter Tryz.func45, Tryz.ntmps45
   go_wp2; go_ret
   exact ⟨⟨_, rfl, by omega, by omega, fun h => by omega⟩, Below.refl _ _⟩
theorem toPage_c (p : PageV) (w : World) :
 Calls Tryz.prog 176 #[.agg #[.bool p.full, .int .i64 p.file, .int .i64 p.place, .int .i64 p.value, .int .i64 p.stamp]] w fun e w' => e = .returned (.agg #[.bool p.full, .int .i64 p.file, .int .i64 p.place, .int .i64 p.value, .int .i64 p.stamp]) ∧ Below w.heap.size w w' := by
 obtain ⟨f, x, y, z, s⟩ := p; simp only
 go_enter Tryz.func176, Tryz.ntmps176
 go_wp2; go_returns
 exact ⟨rfl, (((Below.refl _ _).alloc (Nat.le_refl _) _).alloc (by simp) _).alloc (by simp; omega) _⟩
theorem toPageS_c {A : Option Addr} {c B : Nat} {ps : List PageV} {w : World} (hr : RdG w B A ps.length ps) (hB : B ≤ w.heap.size) (hn : ps.length ≤ 1048576) :
 Calls Tryz.prog 154 #[.slice A ps.length c] w fun e w' => ∃ A' c', e = .returned (.slice A' ps.length c') ∧ w'.ownsRow w.heap.size 88 5 (.slice A' ps.length c') ps.length (flatG ps) ∧ Below w.heap.size w w' := by
 have hmk := makePage ps.length hn; have hst := hid (own_madePages w w.heap.size ps.length ps rfl (Nat.le_refl _) hn); generalize hl : ps.length = n at *; have HL := hid hl; clear hl; go_enter Tryz.func154, Tryz.ntmps154
 go_wp2; go_loopw [4] (fun i wr => ∃ k : Nat, k ≤ n ∧ i = .int .i64 k ∧ wr.ownsRow w.heap.size 88 5 (.slice (some ⟨w.heap.size, 0, none⟩) n n) n (flatG (fillTo noPage ps k)) ∧ Below w.heap.size w wr) (fun i _ => n - (intOf i).toNat)
 case atStart => exact ⟨0, Nat.zero_le _, rfl, hst.out, (Below.refl _ _).alloc (Nat.le_refl _) _⟩
 case round =>
  obtain ⟨k, hk, rfl, hown, hbel⟩ := hrel; by_cases hlt : k < n
  · obtain ⟨b, off, rfl, hbB, hc⟩ := hr.at_ (by omega); obtain ⟨c0, c1, c2, c3, c4⟩ := hc k hlt; have hbs : b < w.heap.size := by omega
    replace c0 := (hbel.cell (p := ⟨b, off + k * 5, none⟩) hbs).trans c0; replace c1 := (hbel.cell (p := ⟨b, off + k * 5 + 1, none⟩) hbs).trans c1; replace c2 := (hbel.cell (p := ⟨b, off + k * 5 + 2, none⟩) hbs).trans c2; replace c3 := (hbel.cell (p := ⟨b, off + k * 5 + 3, none⟩) hbs).trans c3; replace c4 := (hbel.cell (p := ⟨b, off + k * 5 + 4, none⟩) hbs).trans c4; have hfs := fillTo_set noPage ps (k := k) (by have := HL.out; omega); generalize ps.getD k noPage = P at *; have HF := hid hfs; have HO := hid hown; have HB := hid hbel; have HS := hid (own_lt hown (k := w.heap.size) rfl).2; clear hc hr hfs hown hbel hmk; go_wp2_with fail; refine (toPage_c P _).mono ?_; rintro e w2 ⟨rfl, hb2⟩; have ho2 := own_below HO.out hb2; have HB2 := hid (HB.out.trans (hb2.mono HB.out.size)); obtain ⟨f0, f1, f2, f3, f4⟩ := own_pageCells ho2 k hlt; have z0 := ho2.frozenAt (g := w.heap.size) (cap := n) (k * 5); have z1 := ho2.frozenAt (g := w.heap.size) (cap := n) (k * 5 + 1); have z2 := ho2.frozenAt (g := w.heap.size) (cap := n) (k * 5 + 2); have z3 := ho2.frozenAt (g := w.heap.size) (cap := n) (k * 5 + 3); have z4 := ho2.frozenAt (g := w.heap.size) (cap := n) (k * 5 + 4); have hput := own_putPage ho2 k hlt P; rw [HF.out] at hput; unfold putPage at hput; have HP := hid hput; generalize (fillTo noPage ps k).getD k noPage = Q at *; clear ho2 hb2 hput c0 c1 c2 c3 c4; go_wp2_with fail; go_roundw
    case rel => exact ⟨k + 1, by omega, by go_num, HP.out.1, ((((HB2.out.setCell (p := ⟨w.heap.size, k * 5, none⟩) (Nat.le_refl _) _).setCell (p := ⟨w.heap.size, k * 5 + 1, none⟩) (Nat.le_refl _) _).setCell (p := ⟨w.heap.size, k * 5 + 2, none⟩) (Nat.le_refl _) _).setCell (p := ⟨w.heap.size, k * 5 + 3, none⟩) (Nat.le_refl _) _).setCell (p := ⟨w.heap.size, k * 5 + 4, none⟩) (Nat.le_refl _) _⟩
    case measure => simp [intOf]; omega
  · obtain rfl : k = n := by omega
    have how : wr.ownsRow w.heap.size 88 5 (.slice (some ⟨w.heap.size, 0, none⟩) k k) k (flatG ps) := by rw [← HL.out, fillTo_all, HL.out] at hown; exact hown
    have HO := hid how; clear hmk hown how; go_wp2; go_ret; exact ⟨_, _, rfl, HO.out, hbel⟩
theorem toBlock_c {A : Option Addr} {n c B : Nat} {we : Int} {ps : List PageV} {w : World} (hr : RdG w B A n ps) (hB : B ≤ w.heap.size) (hn : n ≤ 1048576) :
 Calls Tryz.prog 116 #[.agg #[.int .i64 we, .slice A n c]] w fun e w' => ∃ A' c', e = .returned (.agg #[.int .i64 we, .slice A' n c']) ∧ w'.ownsRow w.heap.size 88 5 (.slice A' n c') n (flatG ps) ∧ Below w.heap.size w w' := by
 obtain rfl : ps.length = n := hr.len; have hr0 := hr.mono hB; clear hr; go_enter Tryz.func116, Tryz.ntmps116
 go_wp2_with fail; have e1 : (w.alloc (.cells #[.int .i64 we, .slice A ps.length c] 135)).heap.size = w.heap.size + 1 := by simp
 have e2 : ((w.alloc (.cells #[.int .i64 we, .slice A ps.length c] 135)).alloc (.cells #[.int .i64 0, .slice none 0 0] 127)).heap.size = w.heap.size + 1 + 1 := by simp
 have K2 := (Blk.new (w.alloc (.cells #[.int .i64 we, .slice A ps.length c] 135)) 127 #[.int .i64 0, .slice none 0 0]).alloc (.cells #[.int .i64 we, .slice none 0 0] 127); have K3 := Blk.new ((w.alloc (.cells #[.int .i64 we, .slice A ps.length c] 135)).alloc (.cells #[.int .i64 0, .slice none 0 0] 127)) 127 #[.int .i64 we, .slice none 0 0]; rw [e1] at K2; rw [e2] at K3; have b3 : Below w.heap.size w (((w.alloc (.cells #[.int .i64 we, .slice A ps.length c] 135)).alloc (.cells #[.int .i64 0, .slice none 0 0] 127)).alloc (.cells #[.int .i64 we, .slice none 0 0] 127)) := (((Below.refl _ _).alloc (Nat.le_refl _) _).alloc (by simp) _).alloc (by simp; omega) _; have s3 : w.heap.size + 1 + 1 < (((w.alloc (.cells #[.int .i64 we, .slice A ps.length c] 135)).alloc (.cells #[.int .i64 0, .slice none 0 0] 127)).alloc (.cells #[.int .i64 we, .slice none 0 0] 127)).heap.size := by simp
 generalize (((w.alloc (.cells #[.int .i64 we, .slice A ps.length c] 135)).alloc (.cells #[.int .i64 0, .slice none 0 0] 127)).alloc (.cells #[.int .i64 we, .slice none 0 0] 127)) = w3 at *; refine (toPageS_c (hr0.below b3) b3.size hn).mono ?_; rintro e w4 ⟨A4, c4, rfl, o4, b4⟩; have K4 := K2.below b4 (by omega); have K5 := K3.below b4 (by omega); have t0 := K4.cell 0; have t1 := K4.cell 1; have z0 := K4.frozen 0; have z1 := K4.frozen 1; have u0 := K5.cell 0; have u1 := K5.cell 1; have y0 := K5.frozen 0; have y1 := K5.frozen 1; simp at t0 t1 u0 u1; have B5 := b3.trans (b4.mono (by omega)); have KS := ((K4.far (p := ⟨w.heap.size + 1 + 1, 1, none⟩) (by simp) (.slice A4 ps.length c4)).set_ 0 (.int .i64 we)).set_ 1 (.slice A4 ps.length c4); have e0 := KS.cell 0; have e3 := KS.cell 1; have O5 := ownsRow_setCell_below (ownsRow_setCell_below (ownsRow_setCell_below o4 (a := ⟨w.heap.size + 1 + 1, 1, none⟩) (by show w.heap.size + 1 + 1 < w3.heap.size; omega) (.slice A4 ps.length c4)) (a := ⟨w.heap.size + 1, 0, none⟩) (by show w.heap.size + 1 < w3.heap.size; omega) (.int .i64 we)) (a := ⟨w.heap.size + 1, 1, none⟩) (by show w.heap.size + 1 < w3.heap.size; omega) (.slice A4 ps.length c4); have HO := hid (own_lower O5 b3.size); have HB5 := hid (((B5.setCell (p := ⟨w.heap.size + 1 + 1, 1, none⟩) (by show w.heap.size ≤ _ + 1 + 1; omega) (.slice A4 ps.length c4)).setCell (p := ⟨w.heap.size + 1, 0, none⟩) (by show w.heap.size ≤ _ + 1; omega) (.int .i64 we)).setCell (p := ⟨w.heap.size + 1, 1, none⟩) (by show w.heap.size ≤ _ + 1; omega) (.slice A4 ps.length c4))
 simp at e0 e3; have E0 := hid e0; have E3 := hid e3; clear K2 K3 K4 K5 b3 b4 o4 hr0 B5 KS O5 e0 e3; go_wp2; generalize ((w4.setCell ⟨w.heap.size + 1 + 1, 1, none⟩ (.slice A4 ps.length c4)).setCell ⟨w.heap.size + 1, 0, none⟩ (.int .i64 we)).setCell ⟨w.heap.size + 1, 1, none⟩ (.slice A4 ps.length c4) = w9 at *; have e0 := E0.out; have e3 := E3.out; refine bodyPost_ret (by simp [results, Tryz.results116, go_sem, e0, e3]; try rfl) rfl ?_; exact ⟨A4, c4, rfl, HO.out, HB5.out⟩
theorem toBlockS_c {A : Option Addr} {c B : Nat} {bs : List BlockV} {w : World} (hr : RdB w B A bs.length bs) (hB : B ≤ w.heap.size) (hn : bs.length ≤ 1048576) (hsm : SmallB bs bs.length 1048576) :
 Calls Tryz.prog 61 #[.slice A bs.length c] w fun e w' => ∃ A' c', e = .returned (.slice A' bs.length c') ∧ OwB w' w.heap.size A' bs.length c' bs ∧ Below w.heap.size w w' := by
 have hmk := makeBlock bs.length hn; have hst := hid (own_madeBlocks w w.heap.size bs.length bs rfl (Nat.le_refl _) hn); have HSM := hid hsm; clear hsm; generalize hl : bs.length = n at *; have HL := hid hl; clear hl; go_enter Tryz.func61, Tryz.ntmps61
 go_wp2; go_loopw [4] (fun i wr => ∃ k : Nat, k ≤ n ∧ i = .int .i64 k ∧ OwB wr w.heap.size (some ⟨w.heap.size, 0, none⟩) n n (fillTo noBlock bs k) ∧ Below w.heap.size w wr) (fun i _ => n - (intOf i).toNat)
 case atStart => exact ⟨0, Nat.zero_le _, rfl, hst.out, (Below.refl _ _).alloc (Nat.le_refl _) _⟩
 case round =>
  obtain ⟨k, hk, rfl, hown, hbel⟩ := hrel; by_cases hlt : k < n
  · obtain ⟨b, off, rfl, hbB, hc⟩ := hr.at_ (by omega); obtain ⟨A', n', c', c0, c1, hnc, hcm, hrg⟩ := hc k hlt; have hbs : b < w.heap.size := by omega
    replace c0 := (hbel.cell (p := ⟨b, off + k * 2, none⟩) hbs).trans c0; replace c1 := (hbel.cell (p := ⟨b, off + k * 2 + 1, none⟩) hbs).trans c1; have hrg2 := (hrg.mono hB).below hbel; have hn2 : n' ≤ 1048576 := by have := HSM.out k hlt; rw [hrg.len] at this; omega
    have hfs := fillTo_set noBlock bs (k := k) (by have := HL.out; omega); generalize bs.getD k noBlock = P at *; obtain ⟨we, ps⟩ := P; simp only at c0 hrg2; have HF := hid hfs; have HO := hid hown; have HB := hid hbel; have hsz := hbel.size; clear hc hr hfs hown hbel hmk hrg; go_wp2_with fail; refine (toBlock_c hrg2 hsz hn2).mono ?_; rintro e w2 ⟨A2, c2, rfl, ho2, hb2⟩; have oF := HO.out.setBlock (we := we) hb2 ho2 hsz hlt; obtain ⟨A3, n3, c3, f0, f1, z0, z1, _⟩ := (HO.out.below hb2).cells k hlt; rw [HF.out] at oF; have OF := hid oF; have HB2 := hid (HB.out.trans (hb2.mono hsz)); generalize ((fillTo noBlock bs k).getD k noBlock).wear = q at *; clear hb2 oF ho2 c0 c1 hrg2; go_wp2_with fail; go_roundw
    case rel => exact ⟨k + 1, by omega, by go_num, OF.out, (HB2.out.setCell (p := ⟨w.heap.size, k * 2, none⟩) (Nat.le_refl _) _).setCell (p := ⟨w.heap.size, k * 2 + 1, none⟩) (Nat.le_refl _) _⟩
    case measure => simp [intOf]; omega
  · obtain rfl : k = n := by omega
    have how : OwB wr w.heap.size (some ⟨w.heap.size, 0, none⟩) k k bs := by rw [← HL.out, fillTo_all, HL.out] at hown; exact hown
    have HO := hid how; clear hmk hown how; go_wp2; go_ret; exact ⟨_, _, rfl, HO.out, hbel⟩
theorem eqPage_same (p : PageV) (w : World) :
 Calls Tryz.prog 187 #[.agg #[.bool p.full, .int .i64 p.file, .int .i64 p.place, .int .i64 p.value, .int .i64 p.stamp], .agg #[.bool p.full, .int .i64 p.file, .int .i64 p.place, .int .i64 p.value, .int .i64 p.stamp]] w fun e w' => e = .returned (.bool true) ∧ Below w.heap.size w w' := by
 obtain ⟨f, x, y, z, s⟩ := p; simp only
 cases f
 all_goals
  go_enter Tryz.func187, Tryz.ntmps187
  go_wp2; go_ret
  exact ⟨rfl, ((Below.refl _ _).alloc (Nat.le_refl _) _).alloc (by simp) _⟩
theorem eqPageS_same {A A' : Option Addr} {n c c' B B' : Nat} {ps : List PageV} {w : World} (hr : RdG w B A n ps) (hr' : RdG w B' A' n ps) (hn : n ≤ 9000000000000) :
 Calls Tryz.prog 170 #[.slice A n c, .slice A' n c'] w fun e w' => e = .returned (.bool true) ∧ Below w.heap.size w w' := by
 go_enter Tryz.func170, Tryz.ntmps170
 go_wp2; go_loopw [5] (fun i wr => ∃ k : Nat, k ≤ n ∧ i = .int .i64 k ∧ Below w.heap.size w wr) (fun i _ => n - (intOf i).toNat)
 case atStart => exact ⟨0, Nat.zero_le _, rfl, Below.refl _ _⟩
 case round =>
  obtain ⟨k, hk, rfl, hbel⟩ := hrel; by_cases hlt : k < n
  · obtain ⟨b, off, rfl, hbB, hc⟩ := hr.at_ (by omega); obtain ⟨b', off', rfl, hbB', hc'⟩ := hr'.at_ (by omega); obtain ⟨c0, c1, c2, c3, c4⟩ := hc k hlt; obtain ⟨d0, d1, d2, d3, d4⟩ := hc' k hlt; have l0 := block_lt_of_cell c0; have l1 := block_lt_of_cell d0; replace c0 := (hbel.cell (p := ⟨b, off + k * 5, none⟩) l0).trans c0; replace c1 := (hbel.cell (p := ⟨b, off + k * 5 + 1, none⟩) l0).trans c1; replace c2 := (hbel.cell (p := ⟨b, off + k * 5 + 2, none⟩) l0).trans c2; replace c3 := (hbel.cell (p := ⟨b, off + k * 5 + 3, none⟩) l0).trans c3; replace c4 := (hbel.cell (p := ⟨b, off + k * 5 + 4, none⟩) l0).trans c4; replace d0 := (hbel.cell (p := ⟨b', off' + k * 5, none⟩) l1).trans d0; replace d1 := (hbel.cell (p := ⟨b', off' + k * 5 + 1, none⟩) l1).trans d1; replace d2 := (hbel.cell (p := ⟨b', off' + k * 5 + 2, none⟩) l1).trans d2; replace d3 := (hbel.cell (p := ⟨b', off' + k * 5 + 3, none⟩) l1).trans d3; replace d4 := (hbel.cell (p := ⟨b', off' + k * 5 + 4, none⟩) l1).trans d4; generalize ps.getD k noPage = P at *; have HB := hid hbel; clear hc hr hc' hr' hbel; go_wp2_with fail; go_region_with (go_at_call 187; refine (eqPage_same P _).mono ?_; rintro e w2 ⟨rfl, hb2⟩)
    all_goals
     go_wp2_with fail; go_roundw
     case rel => exact ⟨k + 1, by omega, by go_num, HB.out.drew.trans (hb2.mono HB.out.size)⟩
     case measure => simp [intOf]; omega
  · have hkn : k = n := by omega
    subst hkn; go_wp2; go_ret; exact ⟨rfl, hbel⟩
theorem eqBlock_same {A A' : Option Addr} {n c c' B B' : Nat} {we : Int} {ps : List PageV} {w : World} (hr : RdG w B A n ps) (hr' : RdG w B' A' n ps) (hB : B ≤ w.heap.size) (hB' : B' ≤ w.heap.size) (hn : n ≤ 9000000000000) :
 Calls Tryz.prog 133 #[.agg #[.int .i64 we, .slice A n c], .agg #[.int .i64 we, .slice A' n c']] w fun e w' => e = .returned (.bool true) ∧ Below w.heap.size w w' := by
 have hr0 := hr.mono hB; have hr0' := hr'.mono hB'; go_enter Tryz.func133, Tryz.ntmps133
 go_wp2_with fail; have b2 : Below w.heap.size w ((w.alloc (.cells #[.int .i64 we, .slice A n c] 127)).alloc (.cells #[.int .i64 we, .slice A' n c'] 127)) := ((Below.refl _ _).alloc (Nat.le_refl _) _).alloc (by simp) _
 refine (eqPageS_same (hr0.below b2) (hr0'.below b2) hn).mono ?_; rintro e w' ⟨rfl, hb⟩; go_wp2; go_ret; exact ⟨rfl, b2.trans (hb.mono b2.size)⟩
theorem eqBlockS_same {A A' : Option Addr} {n c c' B B' : Nat} {bs : List BlockV} {w : World} (hr : RdB w B A n bs) (hr' : RdB w B' A' n bs) (hB : B ≤ w.heap.size) (hB' : B' ≤ w.heap.size) (hn : n ≤ 9000000000000) (hsm : SmallB bs n 1048576) :
 Calls Tryz.prog 71 #[.slice A n c, .slice A' n c'] w fun e w' => e = .returned (.bool true) ∧ Below w.heap.size w w' := by
 have HSM := hid hsm; clear hsm; go_enter Tryz.func71, Tryz.ntmps71
 go_wp2; go_loopw [5] (fun i wr => ∃ k : Nat, k ≤ n ∧ i = .int .i64 k ∧ Below w.heap.size w wr) (fun i _ => n - (intOf i).toNat)
 case atStart => exact ⟨0, Nat.zero_le _, rfl, Below.refl _ _⟩
 case round =>
  obtain ⟨k, hk, rfl, hbel⟩ := hrel; by_cases hlt : k < n
  · obtain ⟨b, off, rfl, hbB, hc⟩ := hr.at_ (by omega); obtain ⟨b', off', rfl, hbB', hc'⟩ := hr'.at_ (by omega); obtain ⟨P, np, cp, c0, c1, hp1, hp2, hp⟩ := hc k hlt; obtain ⟨Q, nq, cq, d0, d1, hq1, hq2, hq⟩ := hc' k hlt; have hnq : nq = np := by rw [← hp.len, ← hq.len]
    subst hnq; have hns : nq ≤ 1048576 := by have := HSM.out k hlt; rw [hp.len] at this; omega
    have l0 : b < w.heap.size := by omega
    have l1 : b' < w.heap.size := by omega
    replace c0 := (hbel.cell (p := ⟨b, off + k * 2, none⟩) l0).trans c0; replace c1 := (hbel.cell (p := ⟨b, off + k * 2 + 1, none⟩) l0).trans c1; replace d0 := (hbel.cell (p := ⟨b', off' + k * 2, none⟩) l1).trans d0; replace d1 := (hbel.cell (p := ⟨b', off' + k * 2 + 1, none⟩) l1).trans d1; have HP := hid ((hp.mono hB).below hbel); have HQ := hid ((hq.mono hB').below hbel); generalize bs.getD k noBlock = X at *; obtain ⟨we, ps⟩ := X; simp only at c0 d0 HP HQ; have HB := hid hbel; clear hc hr hc' hr' hbel hp hq; go_wp2_with fail; go_region_with (go_at_call 133; refine (eqBlock_same HP.out.drew HQ.out.drew HB.out.size HB.out.size (by omega)).mono ?_; rintro e w2 ⟨rfl, hb2⟩)
    all_goals
     go_wp2_with fail; go_roundw
     case rel => exact ⟨k + 1, by omega, by go_num, HB.out.drew.trans (hb2.mono HB.out.size)⟩
     case measure => simp [intOf]; omega
  · have hkn : k = n := by omega
    subst hkn; go_wp2; go_ret; exact ⟨rfl, hbel⟩
theorem szIntS_c {A : Option Addr} {n c : Nat} {left : Int} {w : World} (h0 : 0 ≤ left) (h1 : left ≤ 1048576) (hm : n ≤ 9223372036854775807) :
 Calls Tryz.prog 148 #[.slice A n c, .int .i64 left] w fun e w' => SzOk left ((n : Int) ≤ left) e ∧ w = w' := by
 by_cases h : (n : Int) ≤ left
 · go_enter Tryz.func148, Tryz.ntmps148
   go_wp2; go_ret
   exact ⟨⟨_, rfl, by omega, by omega, fun _ => h⟩, rfl⟩
 · go_enter Tryz.func148, Tryz.ntmps148
   go_wp2; go_ret
   exact ⟨⟨_, rfl, by omega, by omega, fun h => by omega⟩, rfl⟩
theorem szIntSS_c {A : Option Addr} {n c B : Nat} {ts : List (List Int)} {left : Int} {w : World} (hr : RdT w B A n ts) (hB : B ≤ w.heap.size) (h0 : 0 ≤ left) (h1 : left ≤ 1048576) (hm : n ≤ 9223372036854775807) :
 Calls Tryz.prog 103 #[.slice A n c, .int .i64 left] w fun e w' => SzOk left ((n : Int) ≤ left ∧ SmallT ts n left) e ∧ w = w' := by
 by_cases h : (n : Int) ≤ left
 · go_enter Tryz.func103, Tryz.ntmps103
   go_wp2; go_loop [1, 5] (fun s i => ∃ (k : Nat) (l : Int), k ≤ n ∧ i = .int .i64 k ∧ s = .int .i64 l ∧ 0 ≤ l ∧ l ≤ left ∧ SmallT ts k left) (fun _ i => n - (intOf i).toNat)
   case atStart => exact ⟨0, left - n, Nat.zero_le _, rfl, rfl, by omega, by omega, fun i hi => absurd hi (Nat.not_lt_zero _)⟩
   case round =>
    obtain ⟨k, l, hk, rfl, rfl, hl0, hl1, hsm⟩ := hrel; have HS := hid hsm; by_cases hlt : k < n
    · obtain ⟨b, off, rfl, hbB, hc⟩ := hr.at_ (by omega); obtain ⟨A', n', c', e1, hnc, hcm, hrg⟩ := hc k hlt; have HL := hid hrg.len; clear hc hr hsm hrg; go_wp2_with fail; refine (szIntS_c hl0 (by omega) (by omega)).mono ?_; rintro e w2 ⟨⟨r, rfl, r1, r2, r3⟩, rfl⟩; have HR := hid r3; clear r3 e1; by_cases hneg : r < 0
      · go_wp2; go_ret
        exact ⟨⟨_, rfl, by omega, by omega, fun h => by omega⟩, rfl⟩
      · have HS2 := hid (show SmallT ts (k + 1) left from fun i hi => by
         by_cases e : i = k
         · subst e; have := HR.out (by omega); have := HL.out; omega
         · exact HS.out i (by omega))
        go_wp2; go_round
        case rel => exact ⟨k + 1, r, by omega, by go_num, rfl, by omega, by omega, HS2.out⟩
        case measure => simp [intOf]; omega
    · obtain rfl : k = n := by omega
      clear hsm; go_wp2; go_ret; exact ⟨⟨_, rfl, by omega, hl1, fun _ => by first | exact ⟨h, HS.out⟩ | exact HS.out⟩, rfl⟩
 · go_enter Tryz.func103, Tryz.ntmps103
   go_wp2; go_ret
   exact ⟨⟨_, rfl, by omega, by omega, fun h => by omega⟩, rfl⟩
theorem szTable_c {A : Option Addr} {n c B : Nat} {ts : List (List Int)} {left : Int} {w : World} (hr : RdT w B A n ts) (hB : B ≤ w.heap.size) (h0 : 0 ≤ left) (h1 : left ≤ 1048576) (hm : n ≤ 9223372036854775807) :
 Calls Tryz.prog 46 #[.agg #[.slice A n c], .int .i64 left] w fun e w' => SzOk left ((n : Int) ≤ left ∧ SmallT ts n left) e ∧ Below w.heap.size w w' := by
 have b1 : Below w.heap.size w (w.alloc (.cells #[.slice A n c] 41)) := (Below.refl _ _).alloc (Nat.le_refl _) _; go_enter Tryz.func46, Tryz.ntmps46
 go_wp2_with fail; refine (szIntSS_c ((hr.mono hB).below b1) b1.size h0 h1 hm).mono ?_
 rintro e w' ⟨⟨r, rfl, r1, r2, r3⟩, rfl⟩; have HR := hid r3; clear r3; by_cases hr : r < 0
 · go_wp2; go_ret
   exact ⟨⟨_, rfl, by omega, by omega, fun h => by omega⟩, b1⟩
 · go_wp2; go_ret
   exact ⟨⟨_, rfl, by omega, by omega, HR.out⟩, b1⟩
theorem toIntSS_c {A : Option Addr} {c B : Nat} {ts : List (List Int)} {w : World} (hr : RdT w B A ts.length ts) (hB : B ≤ w.heap.size) (hn : ts.length ≤ 1048576) (hsm : SmallT ts ts.length 1048576) :
 Calls Tryz.prog 117 #[.slice A ts.length c] w fun e w' => ∃ A' c', e = .returned (.slice A' ts.length c') ∧ OwT w' w.heap.size A' ts.length c' ts ∧ Below w.heap.size w w' := by
 have hmk := makeTab ts.length hn; have hst := hid (own_madeTab w w.heap.size ts.length ts rfl (Nat.le_refl _) hn); have HSM := hid hsm; clear hsm; generalize hl : ts.length = n at *; have HL := hid hl; clear hl; go_enter Tryz.func117, Tryz.ntmps117
 go_wp2; go_loopw [4] (fun i wr => ∃ k : Nat, k ≤ n ∧ i = .int .i64 k ∧ OwT wr w.heap.size (some ⟨w.heap.size, 0, none⟩) n n (fillTo [] ts k) ∧ Below w.heap.size w wr) (fun i _ => n - (intOf i).toNat)
 case atStart => exact ⟨0, Nat.zero_le _, rfl, hst.out, (Below.refl _ _).alloc (Nat.le_refl _) _⟩
 case round =>
  obtain ⟨k, hk, rfl, hown, hbel⟩ := hrel; by_cases hlt : k < n
  · obtain ⟨b, off, rfl, hbB, hc⟩ := hr.at_ (by omega); obtain ⟨A', n', c', c1, hnc, hcm, hrg⟩ := hc k hlt; have hbs : b < w.heap.size := by omega
    replace c1 := (hbel.cell (p := ⟨b, off + k, none⟩) hbs).trans c1; have hrg2 := (hrg.mono hB).below hbel; have hn2 : n' ≤ 1048576 := by have := HSM.out k hlt; rw [hrg.len] at this; omega
    have hfs := fillTo_set [] ts (k := k) (by have := HL.out; omega); generalize ts.getD k [] = xs at *; obtain rfl := hrg2.len; have HF := hid hfs; have HO := hid hown; have HB := hid hbel; have hsz := hbel.size; clear hc hr hfs hown hbel hmk hrg; go_wp2_with fail; refine (toIntS_o hrg2 hsz hn2).mono ?_; rintro e w2 ⟨A2, c2, rfl, ho2, hb2⟩; have oF := HO.out.setList hb2 ho2 hsz hlt; obtain ⟨A3, n3, c3, f1, z1, _⟩ := (HO.out.below hb2).cells k hlt; rw [HF.out] at oF; have OF := hid oF; have HB2 := hid (HB.out.trans (hb2.mono hsz)); clear hb2 oF ho2 c1 hrg2; go_wp2_with fail; go_roundw
    case rel => exact ⟨k + 1, by omega, by go_num, OF.out, HB2.out.setCell (p := ⟨w.heap.size, k, none⟩) (Nat.le_refl _) _⟩
    case measure => simp [intOf]; omega
  · obtain rfl : k = n := by omega
    have how : OwT wr w.heap.size (some ⟨w.heap.size, 0, none⟩) k k ts := by rw [← HL.out, fillTo_all, HL.out] at hown; exact hown
    have HO := hid how; clear hmk hown how; go_wp2; go_ret; exact ⟨_, _, rfl, HO.out, hbel⟩
theorem toTable_c {A : Option Addr} {c B : Nat} {ts : List (List Int)} {w : World} (hr : RdT w B A ts.length ts) (hB : B ≤ w.heap.size) (hn : ts.length ≤ 1048576) (hsm : SmallT ts ts.length 1048576) :
 Calls Tryz.prog 62 #[.agg #[.slice A ts.length c]] w fun e w' => ∃ A' c', e = .returned (.agg #[.slice A' ts.length c']) ∧ OwT w' w.heap.size A' ts.length c' ts ∧ Below w.heap.size w w' := by
 have hr0 := hr.mono hB; clear hr; go_enter Tryz.func62, Tryz.ntmps62
 go_wp2_with fail; have e1 : (w.alloc (.cells #[.slice A ts.length c] 41)).heap.size = w.heap.size + 1 := by simp
 have e2 : ((w.alloc (.cells #[.slice A ts.length c] 41)).alloc (.cells #[.slice none 0 0] 26)).heap.size = w.heap.size + 1 + 1 := by simp
 have K2 := (Blk.new (w.alloc (.cells #[.slice A ts.length c] 41)) 26 #[.slice none 0 0]).alloc (.cells #[.slice none 0 0] 26); have K3 := Blk.new ((w.alloc (.cells #[.slice A ts.length c] 41)).alloc (.cells #[.slice none 0 0] 26)) 26 #[.slice none 0 0]; rw [e1] at K2; rw [e2] at K3; have b3 : Below w.heap.size w (((w.alloc (.cells #[.slice A ts.length c] 41)).alloc (.cells #[.slice none 0 0] 26)).alloc (.cells #[.slice none 0 0] 26)) := (((Below.refl _ _).alloc (Nat.le_refl _) _).alloc (by simp) _).alloc (by simp; omega) _; have s3 : w.heap.size + 1 + 1 < (((w.alloc (.cells #[.slice A ts.length c] 41)).alloc (.cells #[.slice none 0 0] 26)).alloc (.cells #[.slice none 0 0] 26)).heap.size := by simp
 generalize (((w.alloc (.cells #[.slice A ts.length c] 41)).alloc (.cells #[.slice none 0 0] 26)).alloc (.cells #[.slice none 0 0] 26)) = w3 at *; refine (toIntSS_c (hr0.below b3) b3.size hn hsm).mono ?_; rintro e w4 ⟨A4, c4, rfl, o4, b4⟩; have K4 := K2.below b4 (by omega); have K5 := K3.below b4 (by omega); have t0 := K4.cell 0; have z0 := K4.frozen 0; have u0 := K5.cell 0; have y0 := K5.frozen 0; simp at t0 u0; have B5 := b3.trans (b4.mono (by omega)); have K6 := K4.far (p := ⟨w.heap.size + 1 + 1, 0, none⟩) (by simp) (.slice A4 ts.length c4); have KS := K6.set_ 0 (.slice A4 ts.length c4); have e0 := KS.cell 0; have O5 := (o4.typed (ChgT.blk K5 0 (.slice A4 ts.length c4)) (by decide) (by decide)).typed (ChgT.blk K6 0 (.slice A4 ts.length c4)) (by decide) (by decide); have HO := hid (O5.lower b3.size); have HB5 := hid ((B5.setCell (p := ⟨w.heap.size + 1 + 1, 0, none⟩) (by show w.heap.size ≤ _ + 1 + 1; omega) (.slice A4 ts.length c4)).setCell (p := ⟨w.heap.size + 1, 0, none⟩) (by show w.heap.size ≤ _ + 1; omega) (.slice A4 ts.length c4)); simp at e0; have E0 := hid e0; clear K2 K3 K4 K5 K6 b3 b4 o4 hr0 B5 KS O5 e0; go_wp2; generalize (w4.setCell ⟨w.heap.size + 1 + 1, 0, none⟩ (.slice A4 ts.length c4)).setCell ⟨w.heap.size + 1, 0, none⟩ (.slice A4 ts.length c4) = w9 at *; have e0 := E0.out; refine bodyPost_ret (by simp [results, Tryz.results62, go_sem, e0]; try rfl) rfl ?_; exact ⟨A4, c4, rfl, HO.out, HB5.out⟩
theorem eqIntSS_same {A A' : Option Addr} {n c c' B B' : Nat} {ts : List (List Int)} {w : World} (hr : RdT w B A n ts) (hr' : RdT w B' A' n ts) (hB : B ≤ w.heap.size) (hB' : B' ≤ w.heap.size) (hn : n ≤ 9000000000000) (hsm : SmallT ts n 1048576) :
 Calls Tryz.prog 134 #[.slice A n c, .slice A' n c'] w fun e w' => e = .returned (.bool true) ∧ Below w.heap.size w w' := by
 have HSM := hid hsm; clear hsm; go_enter Tryz.func134, Tryz.ntmps134
 go_wp2; go_loopw [5] (fun i wr => ∃ k : Nat, k ≤ n ∧ i = .int .i64 k ∧ Below w.heap.size w wr) (fun i _ => n - (intOf i).toNat)
 case atStart => exact ⟨0, Nat.zero_le _, rfl, Below.refl _ _⟩
 case round =>
  obtain ⟨k, hk, rfl, hbel⟩ := hrel; by_cases hlt : k < n
  · obtain ⟨b, off, rfl, hbB, hc⟩ := hr.at_ (by omega); obtain ⟨b', off', rfl, hbB', hc'⟩ := hr'.at_ (by omega); obtain ⟨P, np, cp, c1, hp1, hp2, hp⟩ := hc k hlt; obtain ⟨Q, nq, cq, d1, hq1, hq2, hq⟩ := hc' k hlt; have hnq : nq = np := by rw [← hp.len, ← hq.len]
    subst hnq; have hns : nq ≤ 1048576 := by have := HSM.out k hlt; rw [hp.len] at this; omega
    have l0 : b < w.heap.size := by omega
    have l1 : b' < w.heap.size := by omega
    replace c1 := (hbel.cell (p := ⟨b, off + k, none⟩) l0).trans c1; replace d1 := (hbel.cell (p := ⟨b', off' + k, none⟩) l1).trans d1; have HP := hid ((hp.mono hB).below hbel); have HQ := hid ((hq.mono hB').below hbel); generalize ts.getD k [] = xs at *; have HB := hid hbel; clear hc hr hc' hr' hbel hp hq; go_wp2_with fail; go_region_with (go_at_call 171; refine (eqIntS_o HP.out.drew HQ.out.drew (by omega)).mono ?_; rintro e w2 ⟨rfl, hb2⟩)
    all_goals
     go_wp2_with fail; go_roundw
     case rel => exact ⟨k + 1, by omega, by go_num, HB.out.drew.trans (hb2.mono HB.out.size)⟩
     case measure => simp [intOf]; omega
  · have hkn : k = n := by omega
    subst hkn; go_wp2; go_ret; exact ⟨rfl, hbel⟩
theorem eqTable_same {A A' : Option Addr} {n c c' B B' : Nat} {ts : List (List Int)} {w : World} (hr : RdT w B A n ts) (hr' : RdT w B' A' n ts) (hB : B ≤ w.heap.size) (hB' : B' ≤ w.heap.size) (hn : n ≤ 9000000000000) (hsm : SmallT ts n 1048576) :
 Calls Tryz.prog 72 #[.agg #[.slice A n c], .agg #[.slice A' n c']] w fun e w' => e = .returned (.bool true) ∧ Below w.heap.size w w' := by
 have b2 : Below w.heap.size w ((w.alloc (.cells #[.slice A n c] 26)).alloc (.cells #[.slice A' n c'] 26)) := ((Below.refl _ _).alloc (Nat.le_refl _) _).alloc (by simp) _; go_enter Tryz.func72, Tryz.ntmps72
 go_wp2_with fail; refine (eqIntSS_same ((hr.mono hB).below b2) ((hr'.mono hB').below b2) b2.size b2.size hn hsm).mono ?_
 rintro e w' ⟨rfl, hb⟩; go_wp2; go_ret; exact ⟨rfl, b2.trans (hb.mono b2.size)⟩
def markG (k : Int) : PageV := ⟨k % 3 == 0, k + 1, k + 1 + 1, k + 1 + 1 + 1, k + 1 + 1 + 1 + 1⟩
def marksG (k : Int) (n : Nat) : List PageV := (List.range n).map fun (i : Nat) => markG (k + 5 * (i : Int))
theorem marksG_len (k : Int) (n : Nat) : (marksG k n).length = n := by simp [marksG]
theorem markPageS_c {A : Option Addr} {n c base : Nat} {ps : List PageV} {w : World} {k0 : Int} (hown : w.ownsRow base 88 5 (.slice A n c) n (flatG ps)) (hk0 : 0 ≤ k0) (hk1 : k0 ≤ 1000000000000000) (hn : n ≤ 1048576) :
 Calls Tryz.prog 136 #[.slice A n c, .int .i64 k0] w fun e w' => e = .returned (.int .i64 (k0 + 5 * n)) ∧ w'.ownsRow base 88 5 (.slice A n c) n (flatG (marksG k0 n)) ∧ w.grownBy w' (Value.slice A n c).ownBlock := by
 have hl := own_pagesLen hown; have hml : (marksG k0 n).length = ps.length := by rw [marksG_len, hl]
 have HL := hid hl; have HML := hid hml; clear hl hml; go_enter Tryz.func136, Tryz.ntmps136
 go_wp2; go_loopw [1, 5] (fun kk i wr => ∃ j : Nat, j ≤ n ∧ i = .int .i64 j ∧ kk = .int .i64 (k0 + 5 * j) ∧ wr.ownsRow base 88 5 (.slice A n c) n (flatG (repTo (marksG k0 n) ps j)) ∧ w.grownBy wr (Value.slice A n c).ownBlock) (fun _ i _ => n - (intOf i).toNat)
 case atStart => exact ⟨0, Nat.zero_le _, rfl, by simp, by rw [repTo_zero]; exact hown, World.grownBy.refl _ _⟩
 case round =>
  obtain ⟨j, hj, rfl, rfl, howr, hg⟩ := hrel; by_cases hlt : j < n
  · obtain ⟨g, cap, ev, hg1, hg2⟩ := howr.form (by omega); injection ev with e1 e2 e3; subst e1; clear e2 e3; obtain ⟨f0, f1, f2, f3, f4⟩ := own_pageCells howr j hlt; have z0 := howr.frozenAt (g := g) (cap := c) (j * 5); have z1 := howr.frozenAt (g := g) (cap := c) (j * 5 + 1); have z2 := howr.frozenAt (g := g) (cap := c) (j * 5 + 2); have z3 := howr.frozenAt (g := g) (cap := c) (j * 5 + 3); have z4 := howr.frozenAt (g := g) (cap := c) (j * 5 + 4); have hput := own_putPage howr j hlt (markG (k0 + 5 * (j : Int))); have hset := repTo_set noPage (m := marksG k0 n) (xs := ps) (j := j) HML.out (by have := HL.out; omega); have hgm : (marksG k0 n).getD j noPage = markG (k0 + 5 * (j : Int)) := getD_mapRange noPage _ hlt; rw [hgm] at hset; rw [hset] at hput; unfold putPage markG at hput; simp only at hput; have HP := hid hput.1; have HG := hid (gb_trans hg hput.2); generalize (repTo (marksG k0 n) ps j).getD j noPage = Q at *; clear howr hown hput hset hgm hg; go_wp2; go_roundw
    case rel => exact ⟨j + 1, by omega, by go_num, by go_num, HP.out, HG.out⟩
    case measure => simp [intOf]; omega
  · obtain rfl : j = n := by omega
    have how : wr.ownsRow base 88 5 (.slice A j c) j (flatG (marksG k0 j)) := by
     have := repTo_all HML.out; rw [HL.out] at this; rw [this] at howr; exact howr
    have HO := hid how; clear howr hown how; go_wp2; go_ret; exact ⟨rfl, HO.out, hg⟩
theorem heldPageS_c {A : Option Addr} {n c B : Nat} {w : World} {k0 : Int} (hr : RdG w B A n (marksG k0 n)) (hk0 : 0 ≤ k0) (hk1 : k0 ≤ 1000000000000000) (hn : n ≤ 1048576) :
 Calls Tryz.prog 138 #[.slice A n c, .int .i64 k0] w fun e w' => e = .returned (.int .i64 (k0 + 5 * n)) ∧ w = w' := by
 go_enter Tryz.func138, Tryz.ntmps138
 go_wp2; go_loop [1, 5] (fun kk i => ∃ j : Nat, j ≤ n ∧ i = .int .i64 j ∧ kk = .int .i64 (k0 + 5 * j)) (fun _ i => n - (intOf i).toNat)
 case atStart => exact ⟨0, Nat.zero_le _, rfl, by simp⟩
 case round =>
  obtain ⟨j, hj, rfl, rfl⟩ := hrel; by_cases hlt : j < n
  · obtain ⟨b, off, rfl, hbB, hc⟩ := hr.at_ (by omega); obtain ⟨c0, c1, c2, c3, c4⟩ := hc j hlt; have hgm : (marksG k0 n).getD j noPage = markG (k0 + 5 * (j : Int)) := getD_mapRange noPage _ hlt; rw [hgm] at c0 c1 c2 c3 c4; unfold markG at c0 c1 c2 c3 c4; simp only at c0 c1 c2 c3 c4; have hnn : ((((k0 + 5 * (j : Int)) % 3 == 0)) != ((k0 + 5 * (j : Int)) % 3 == 0)) = false := by simp
    clear hr hc hgm; go_wp2; go_round
    case rel => exact ⟨j + 1, by omega, by go_num, by go_num⟩
    case measure => simp [intOf]; omega
  · obtain rfl : j = n := by omega
    go_wp2; go_ret
    exact ⟨rfl, rfl⟩
def kB (k0 : Int) (bs : List BlockV) : Nat → Int
 | 0 => k0
 | j + 1 => kB k0 bs j + 1 + 5 * (bs.getD j noBlock).pages.length
theorem kB_range {k0 : Int} {bs : List BlockV} (h0 : 0 ≤ k0) : ∀ {j : Nat}, SmallB bs j 1048576 → 0 ≤ kB k0 bs j ∧ kB k0 bs j ≤ k0 + 5242881 * j
 | 0, _ => by unfold kB; omega
 | j + 1, h => by
  have h1 := kB_range (k0 := k0) (bs := bs) h0 (j := j) (fun i hi => h i (by omega)); have h2 := h j (by omega); unfold kB; omega
def markB (k : Int) (b : BlockV) : BlockV := ⟨k, marksG (k + 1) b.pages.length⟩
def marksB (k0 : Int) (bs : List BlockV) : List BlockV := (List.range bs.length).map fun i => markB (kB k0 bs i) (bs.getD i noBlock)
theorem marksB_len (k0 : Int) (bs : List BlockV) : (marksB k0 bs).length = bs.length := by simp [marksB]
theorem OwB.setWear {w : World} {base g n c : Nat} {bs : List BlockV} (h : OwB w base (some ⟨g, 0, none⟩) n c bs) {i : Nat} (hi : i < n) (we : Int) :
 OwB (w.setCell ⟨g, i * 2, none⟩ (.int .i64 we)) base (some ⟨g, 0, none⟩) n c (bs.set i ⟨we, (bs.getD i noBlock).pages⟩) ∧ ChgT [127] w (w.setCell ⟨g, i * 2, none⟩ (.int .i64 we)) := by
 have hl := h.len; obtain ⟨hs, h⟩ := h; have h2 := h.setPre (by decide) hi (Nat.zero_lt_one) (.int .i64 we); have hst := h.main.stored (g := g) (cap := c) (i * (1 + 1) + 0) (.int .i64 we); refine ⟨⟨hs, ?_⟩, h.typ hst.2⟩; rw [List.map_set]; have e : elB ⟨we, (bs.getD i noBlock).pages⟩ = ⟨((bs.map elB).getD i nilEl).pre.set 0 (.int .i64 we), ((bs.map elB).getD i nilEl).m, ((bs.map elB).getD i nilEl).cells⟩ := by
  rw [elB_getD bs i (by omega)]; rfl
 rw [e]; exact h2
theorem heldBlockS_c {A : Option Addr} {n c B : Nat} {bs : List BlockV} {w : World} {k0 : Int} (hr : RdB w B A n (marksB k0 bs)) (hk0 : 0 ≤ k0) (hk1 : k0 ≤ 100000000000000) (hn : n ≤ 1048576) (hsm : SmallB bs n 1048576) :
 Calls Tryz.prog 78 #[.slice A n c, .int .i64 k0] w fun e w' => e = .returned (.int .i64 (kB k0 bs n)) ∧ w = w' := by
 have HL := hid (show bs.length = n by have := hr.len; rw [marksB_len] at this; exact this); have HSM := hid hsm; clear hsm; go_enter Tryz.func78, Tryz.ntmps78
 go_wp2; go_loop [1, 5] (fun kk i => ∃ j : Nat, j ≤ n ∧ i = .int .i64 j ∧ kk = .int .i64 (kB k0 bs j)) (fun _ i => n - (intOf i).toNat)
 case atStart => exact ⟨0, Nat.zero_le _, rfl, rfl⟩
 case round =>
  obtain ⟨j, hj, rfl, rfl⟩ := hrel; have hkr := kB_range hk0 (bs := bs) (j := j) (fun i hi => HSM.out i (by omega)); by_cases hlt : j < n
  · have hkr1 := kB_range hk0 (bs := bs) (j := j + 1) (fun i hi => HSM.out i (by omega)); obtain ⟨b, off, rfl, hbB, hc⟩ := hr.at_ (by omega); obtain ⟨A', n', c', c0, c1, hnc, hcm, hrp⟩ := hc j hlt; have hgm : (marksB k0 bs).getD j noBlock = markB (kB k0 bs j) (bs.getD j noBlock) := getD_mapRange noBlock _ (by have := HL.out; omega); rw [hgm] at c0 hrp; unfold markB at c0 hrp; simp only at c0 hrp; have hq := hrp.len; rw [marksG_len] at hq; have hn' : n' ≤ 1048576 := by have := HSM.out j hlt; omega
    rw [hq] at hrp; have hkk : kB k0 bs j + 1 + 5 * (n' : Int) = kB k0 bs (j + 1) := by rw [← hq]; rfl
    have HKK := hid hkk; have h0 : 0 ≤ kB k0 bs j + 1 + 5 * (n' : Int) := by omega
    clear hr hc hgm hq hkk; go_wp2_with fail; refine (heldPageS_c (k0 := kB k0 bs j + 1) hrp (by omega) (by omega) hn').mono ?_; rintro e w2 ⟨rfl, rfl⟩; clear hrp c0 c1; generalize kB k0 bs j = q at *; go_wp2; go_round
    case rel => exact ⟨j + 1, by omega, by go_num, by rw [HKK.out]⟩
    case measure => simp [intOf]; omega
  · obtain rfl : j = n := by omega
    go_wp2; go_ret
    exact ⟨rfl, rfl⟩
def kT (k0 : Int) (ts : List (List Int)) : Nat → Int
 | 0 => k0
 | j + 1 => kT k0 ts j + (ts.getD j []).length
theorem kT_range {k0 : Int} {ts : List (List Int)} (h0 : 0 ≤ k0) : ∀ {j : Nat}, SmallT ts j 1048576 → 0 ≤ kT k0 ts j ∧ kT k0 ts j ≤ k0 + 1048576 * j
 | 0, _ => by unfold kT; omega
 | j + 1, h => by
  have h1 := kT_range (k0 := k0) (ts := ts) h0 (j := j) (fun i hi => h i (by omega)); have h2 := h j (by omega); unfold kT; omega
def marksT (k0 : Int) (ts : List (List Int)) : List (List Int) := (List.range ts.length).map fun i => marks (kT k0 ts i) (ts.getD i []).length
theorem marksT_len (k0 : Int) (ts : List (List Int)) : (marksT k0 ts).length = ts.length := by simp [marksT]
theorem heldIntSS_c {A : Option Addr} {n c B : Nat} {ts : List (List Int)} {w : World} {k0 : Int} (hr : RdT w B A n (marksT k0 ts)) (hk0 : 0 ≤ k0) (hk1 : k0 ≤ 100000000000000) (hn : n ≤ 1048576) (hsm : SmallT ts n 1048576) :
 Calls Tryz.prog 139 #[.slice A n c, .int .i64 k0] w fun e w' => e = .returned (.int .i64 (kT k0 ts n)) ∧ w = w' := by
 have HL := hid (show ts.length = n by have := hr.len; rw [marksT_len] at this; exact this); have HSM := hid hsm; clear hsm; go_enter Tryz.func139, Tryz.ntmps139
 go_wp2; go_loop [1, 5] (fun kk i => ∃ j : Nat, j ≤ n ∧ i = .int .i64 j ∧ kk = .int .i64 (kT k0 ts j)) (fun _ i => n - (intOf i).toNat)
 case atStart => exact ⟨0, Nat.zero_le _, rfl, rfl⟩
 case round =>
  obtain ⟨j, hj, rfl, rfl⟩ := hrel; have hkr := kT_range hk0 (ts := ts) (j := j) (fun i hi => HSM.out i (by omega)); by_cases hlt : j < n
  · obtain ⟨b, off, rfl, hbB, hc⟩ := hr.at_ (by omega); obtain ⟨A', n', c', c1, hnc, hcm, hrp⟩ := hc j hlt; have hgm : (marksT k0 ts).getD j [] = marks (kT k0 ts j) (ts.getD j []).length := getD_mapRange [] _ (by have := HL.out; omega); rw [hgm] at hrp; have hq := hrp.len; rw [marks_len] at hq; have hn' : n' ≤ 1048576 := by have := HSM.out j hlt; omega
    rw [hq] at hrp; have HKK := hid (show kT k0 ts j + (n' : Int) = kT k0 ts (j + 1) by rw [← hq]; rfl); have h0 : 0 ≤ kT k0 ts j + (n' : Int) := by omega
    clear hr hc hgm hq; go_wp2_with fail; refine (heldIntS_c (k0 := kT k0 ts j) hrp (by omega) (by omega) (by omega)).mono ?_; rintro e w2 ⟨rfl, rfl⟩; clear hrp c1; generalize kT k0 ts j = q at *; go_wp2; go_round
    case rel => exact ⟨j + 1, by omega, by go_num, by rw [HKK.out]⟩
    case measure => simp [intOf]; omega
  · obtain rfl : j = n := by omega
    go_wp2; go_ret
    exact ⟨rfl, rfl⟩
theorem heldTable_c {A : Option Addr} {n c B : Nat} {ts : List (List Int)} {w : World} {k0 : Int} (hr : RdT w B A n (marksT k0 ts)) (hB : B ≤ w.heap.size) (hk0 : 0 ≤ k0) (hk1 : k0 ≤ 100000000000000) (hn : n ≤ 1048576) (hsm : SmallT ts n 1048576) :
 Calls Tryz.prog 79 #[.agg #[.slice A n c], .int .i64 k0] w fun e w' => e = .returned (.int .i64 (kT k0 ts n)) ∧ Below w.heap.size w w' := by
 have b1 : Below w.heap.size w (w.alloc (.cells #[.slice A n c] 26)) := (Below.refl _ _).alloc (Nat.le_refl _) _; have hkr := kT_range hk0 (ts := ts) (j := n) hsm; go_enter Tryz.func79, Tryz.ntmps79
 go_wp2_with fail; refine (heldIntSS_c ((hr.mono hB).below b1) hk0 hk1 hn hsm).mono ?_
 rintro e w2 ⟨rfl, rfl⟩; go_wp2; go_ret; exact ⟨rfl, b1⟩
theorem makeName (n : Nat) (hn : n ≤ 1048576) (W : World) : (Instr.makeSlice 29 (.int .i64 (n : Int)) (.int .i64 (n : Int))).run Tryz.prog W = .ok (.slice (some ⟨W.heap.size, 0, none⟩) n n) (W.alloc (.cells (madeCells #[.string ByteArray.empty, .int .i64 0] (n * 2)) 78)) := by
 obtain ⟨i0, hi, hz0, hz1, hz2⟩ := info_parts infoName; have := run_make (P := Tryz.prog) W 29 78 i0 _ Tryz.underlying29 hi hz0 .i64 .i64 n n (by omega) (by omega) (by rw [hz2]; omega) (by omega); rw [this, hz1]; simp only [Int.toNat_natCast]; rfl
theorem own_madeNames (w : World) (base n : Nat) (ns : List NameV) (hn : ns.length = n) (hb : base ≤ w.heap.size) (hm : n ≤ 1048576) : OwN (w.alloc (.cells (madeCells #[.string ByteArray.empty, .int .i64 0] (n * 2)) 78)) base (some ⟨w.heap.size, 0, none⟩) n n (fillTo noName ns 0) := by
 have h := World.ownsRow_lit (base := base) (e := 78) (size := 2) w (madeCells #[.string ByteArray.empty, .int .i64 0] (n * 2)) n hb (by unfold maxLen; omega) (by rw [size_madeCells]); rw [madeCells_list _ (k := 2) rfl (by omega)] at h; rw [fillTo_zero, hn]; have e : flatN (List.replicate n noName) = (List.replicate n (#[Value.string ByteArray.empty, .int .i64 0] : Array Value).toList).flatten := by
  unfold flatN; rw [List.flatMap_def, List.map_replicate]; rfl
 unfold OwN; rw [e]; exact h
end Go.Proofs.YtefdjahaimnndaaGreatDoor
