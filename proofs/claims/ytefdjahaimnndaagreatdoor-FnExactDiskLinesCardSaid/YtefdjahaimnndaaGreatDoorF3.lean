/- Parts. -/
import Derived.Test.YtefdjahaimnndaaGreatDoorF2
namespace Go.Proofs.YtefdjahaimnndaaGreatDoor
open Go.ChangeShapes Go.WideShapes Go.ChangeAt Go.RowKit Go.Deep
open Go.Lib (hid)
set_option linter.unusedVariables false
set_option linter.unusedSimpArgs false
def Abv (top : Nat) (w w' : World) : Prop := w.heap.size ≤ w'.heap.size ∧ ∀ k, top ≤ k → k < w.heap.size → w'.heap[k]? = w.heap[k]?
theorem Abv.refl (top : Nat) (w : World) : Abv top w w := ⟨Nat.le_refl _, fun _ _ _ => rfl⟩
theorem Abv.trans {top : Nat} {a b c : World} (h : Abv top a b) (k : Abv top b c) : Abv top a c := ⟨Nat.le_trans h.1 k.1, fun i h1 h2 => (k.2 i h1 (Nat.lt_of_lt_of_le h2 h.1)).trans (h.2 i h1 h2)⟩
theorem Abv.of_below {top : Nat} {w w' : World} (b : Below w.heap.size w w') : Abv top w w' := ⟨b.size, fun i _ h => b.block i h⟩
theorem Abv.grown {top : Nat} {w w' : World} {row : Option Nat} (g : w.grownBy w' row) (h : ∀ k, row = some k → k < top) : Abv top w w' := ⟨g.size, fun i h1 h2 => g.block i h2 (fun e => by have := h i e.symm; omega)⟩
theorem own_abv {w w' : World} {top base e s n : Nat} {v : Value} {xs : List Value} (h : w.ownsRow base e s v n xs) (a : Abv top w w') (ht : top ≤ base) : w'.ownsRow base e s v n xs := by
 refine ⟨h.1, ?_⟩; rcases h.2 with hn | ⟨g, cap, cur, rfl, hb, hgg, rest⟩
 · exact .inl hn
 · exact .inr ⟨g, cap, cur, rfl, hb, (a.2 g (by omega) (Array.getElem?_eq_some_iff.1 hgg).1).trans hgg, rest⟩
theorem OwD.abv {w w' : World} {top base : Nat} {h : DH} {d : DiskV} (o : OwD w base h d) (a : Abv top w w') (ht : top ≤ base) : OwD w' base h d := by
 obtain ⟨⟨hs, b⟩, ⟨ks, t⟩, n⟩ := o; exact ⟨⟨hs, b.hl, b.nl, b.pre, own_abv b.main a ht, fun i hi => own_abv (b.row i hi) a ht, b.apart⟩, ⟨ks, t.hl, t.nl, t.pre, own_abv t.main a ht, fun i hi => own_abv (t.row i hi) a ht, t.apart⟩, own_abv n a ht⟩
structure TopR (w : World) (top : Nat) (A : Option Addr) (n st of : Nat) : Prop where
 main : ∀ a, A = some a → a.block < top
 row : ∀ a i b m c, A = some a → i < n → w.cell? ⟨a.block, i * st + of, none⟩ = some (.slice (some b) m c) → b.block < top
theorem TopR.cell {w w' : World} {top : Nat} {A : Option Addr} {n st of : Nat} (h : TopR w top A n st of) (hc : ∀ a i, A = some a → i < n → w'.cell? ⟨a.block, i * st + of, none⟩ = w.cell? ⟨a.block, i * st + of, none⟩) : TopR w' top A n st of :=
 ⟨h.main, fun a i b m c e hi hh => h.row a i b m c e hi ((hc a i e hi).symm.trans hh)⟩
theorem TopR.below {w w' : World} {B top : Nat} {A : Option Addr} {n st of : Nat} (h : TopR w top A n st of) (b : Below B w w') (hB : top ≤ B) : TopR w' top A n st of :=
 h.cell fun a i e _ => b.cell (p := ⟨a.block, i * st + of, none⟩) (by have := h.main a e; show a.block < B; omega)
theorem topB_of {w : World} {base n c : Nat} {A : Option Addr} {bs : List BlockV} (h : OwB w base A n c bs) : TopR w w.heap.size A n 2 1 := by
 refine ⟨fun a e => ?_, fun a i b m c' e hi hc => ?_⟩
 · obtain ⟨hs, o⟩ := h; subst e; exact (own_lt o.main rfl).2
 · obtain ⟨g, e2, _, _⟩ := h.form (by omega); rw [e2] at e h; injection e with e; subst e; obtain ⟨A', n', c2, _, c1, _, _, _, _, _, o⟩ := h.cells i hi; rw [show (⟨g, i * 2 + 1, none⟩ : Addr) = ⟨g, i * 2 + 1, none⟩ from rfl] at c1; have hc' : w.cell? ⟨g, i * 2 + 1, none⟩ = some (.slice (some b) m c') := hc; rw [c1] at hc'; injection hc' with hc'; injection hc' with h1 h2 h3; subst h1; exact (own_lt o rfl).2
theorem topT_of {w : World} {base n c : Nat} {A : Option Addr} {ts : List (List Int)} (h : OwT w base A n c ts) : TopR w w.heap.size A n 1 0 := by
 refine ⟨fun a e => ?_, fun a i b m c' e hi hc => ?_⟩
 · obtain ⟨hs, o⟩ := h; subst e; exact (own_lt o.main rfl).2
 · obtain ⟨g, e2, _, _⟩ := h.form (by omega); rw [e2] at e h; injection e with e; subst e; obtain ⟨A', n', c2, c1, _, _, _, _, o⟩ := h.cells i hi; have hc' : w.cell? ⟨g, i * 1 + 0, none⟩ = some (.slice (some b) m c') := hc; rw [Nat.mul_one, Nat.add_zero, c1] at hc'; injection hc' with hc'; injection hc' with h1 h2 h3; subst h1; exact (own_lt o rfl).2
set_option maxHeartbeats 1000000 in
theorem markBlockS_t {A : Option Addr} {n c base : Nat} {bs : List BlockV} {w : World} {top : Nat} {k0 : Int} (hown : OwB w base A n c bs) (hbase : base ≤ w.heap.size) (hk0 : 0 ≤ k0) (hk1 : k0 ≤ 100000000000000) (hn : n ≤ 1048576) (hsm : SmallB bs n 1048576) (ht : TopR w top A n 2 1) :
 Calls Tryz.prog 75 #[.slice A n c, .int .i64 k0] w fun e w' => e = .returned (.int .i64 (kB k0 bs n)) ∧ OwB w' base A n c (marksB k0 bs) ∧ ChgT [127, 88] w w' ∧ Below base w w' ∧ Abv top w w' := by
 have HL := hid hown.len; have HML := hid (marksB_len k0 bs); have HSM := hid hsm; clear hsm; go_enter Tryz.func75, Tryz.ntmps75
 go_wp2; go_loopw [1, 5] (fun kk i wr => ∃ j : Nat, j ≤ n ∧ i = .int .i64 j ∧ kk = .int .i64 (kB k0 bs j) ∧ OwB wr base A n c (repTo (marksB k0 bs) bs j) ∧ ChgT [127, 88] w wr ∧ Below base w wr ∧ TopR wr top A n 2 1 ∧ Abv top w wr) (fun _ i _ => n - (intOf i).toNat)
 case atStart => exact ⟨0, Nat.zero_le _, rfl, rfl, by rw [repTo_zero]; exact hown, ChgT.refl _ _, Below.refl _ _, ht, Abv.refl _ _⟩
 case round =>
  obtain ⟨j, hj, rfl, rfl, howr, hg, hbl, htr, hav⟩ := hrel; have TR := hid htr; have AV := hid hav; clear htr hav; have hkr := kB_range hk0 (bs := bs) (j := j) (fun i hi => HSM.out i (by omega)); by_cases hlt : j < n
  · obtain ⟨g, rfl, hg1, hg2⟩ := howr.form (by omega); obtain ⟨A', n', c', f0, f1, z0, z1, q1, q2, q3, q4⟩ := howr.cells j hlt; have hrg : (repTo (marksB k0 bs) bs j).getD j noBlock = bs.getD j noBlock := repTo_get noBlock HML.out (Nat.le_refl _) (by have := HL.out; omega); rw [hrg] at q3 q4 f0; obtain ⟨o1, t1⟩ := howr.setWear hlt (kB k0 bs j); have hb1 : Below base wr (wr.setCell ⟨g, j * 2, none⟩ (.int .i64 (kB k0 bs j))) := (Below.refl _ _).setCell (p := ⟨g, j * 2, none⟩) hg1 _; have r1 := own_typed q4 t1 (by decide); have hn' : n' ≤ 1048576 := by have := HSM.out j hlt; omega
    have hset := repTo_set noBlock (m := marksB k0 bs) (xs := bs) (j := j) HML.out (by have := HL.out; omega); have hgm : (marksB k0 bs).getD j noBlock = markB (kB k0 bs j) (bs.getD j noBlock) := getD_mapRange noBlock _ (by have := HL.out; omega); rw [hgm] at hset; have HST := hid hset; have HK := hid (show kB k0 bs (j + 1) = kB k0 bs j + 1 + 5 * (bs.getD j noBlock).pages.length from rfl); have Q3 := hid q3; have O1 := hid o1; have HRG := hid hrg; have B1 := hid (hbl.trans hb1); have G1 := hid (hg.trans (t1.wide (ts' := [127, 88]) (by simp))); have hbz : base ≤ (wr.setCell ⟨g, j * 2, none⟩ (.int .i64 (kB k0 bs j))).heap.size := by have := hbl.size; have := hb1.size; omega
    have F1 := hid (show (wr.setCell ⟨g, j * 2, none⟩ (.int .i64 (kB k0 bs j))).cell? ⟨g, j * 2 + 1, none⟩ = some (.slice A' n' c') from (World.cell?_setCell_other _ _ _ _ (by simp)).trans f1); have GT : g < top := TR.out.main _ rfl; have A1 := hid (AV.out.trans (Abv.grown (gb_setCell (World.grownBy.refl wr (some g)) (p := ⟨g, j * 2, none⟩) (.inl rfl) (.int .i64 (kB k0 bs j))) (fun k e => by injection e with e; omega))); have T1 := hid (TR.out.cell (w' := wr.setCell ⟨g, j * 2, none⟩ (.int .i64 (kB k0 bs j))) (fun a i e _ => by
     injection e with e; subst e; exact World.cell?_setCell_other _ _ _ _ (by (try simp) <;> (try omega))))
    have R1 := hid r1; have O1g := hid (show ∀ k, (Value.slice A' n' c').ownBlock = some k → k < top from fun k hk => by
     cases A' with
     | none => cases hk
     | some b =>
      have := T1.out.row ⟨g, 0, none⟩ j b n' c' rfl hlt F1.out; have hk' : b.block = k := Option.some.inj hk; omega)
    clear o1 t1 hb1 hset hgm q3 q4 howr hrg hown hg hbl; go_wp2_with fail; refine (markPageS_c (k0 := kB k0 bs j + 1) r1 (by omega) (by omega) hn').mono ?_; rintro e w2 ⟨rfl, om, gm⟩; obtain ⟨o2, t2, b2⟩ := O1.out.turn (ps := marksG (kB k0 bs j + 1) n') hlt F1.out gm om (by
     rw [getD_setG _ _ _ _ (by rw [repTo_len HML.out (by have := HL.out; omega)]; have := HL.out; omega), HRG.out]; exact Q3.out) hbz
    have OF := hid (show OwB w2 base (some ⟨g, 0, none⟩) n c (repTo (marksB k0 bs) bs (j + 1)) from by
     rw [List.set_set] at o2; rw [← HST.out]; have e1 : ((repTo (marksB k0 bs) bs j).set j ⟨kB k0 bs j, ((repTo (marksB k0 bs) bs j).getD j noBlock).pages⟩).getD j noBlock = ⟨kB k0 bs j, (bs.getD j noBlock).pages⟩ := by
      rw [getD_setG _ _ _ _ (by rw [repTo_len HML.out (by have := HL.out; omega)]; have := HL.out; omega), HRG.out]
     rw [e1] at o2; unfold markB; rw [← Q3.out]; exact o2)
    have HT := hid (G1.out.trans (t2.wide (ts' := [127, 88]) (by simp))); have HB := hid (B1.out.trans b2); have A2 := hid (A1.out.trans (Abv.grown gm O1g.out)); have T2 := hid (T1.out.cell (w' := w2) (fun a i e _ => by
     injection e with e; subst e; exact World.grownBy.cell_far gm _ (show g < (wr.setCell ⟨g, j * 2, none⟩ (.int .i64 (kB k0 bs j))).heap.size from by simp [World.setCell]; omega) (by
      intro h
      obtain ⟨hs, o⟩ := O1.out; exact own_ne o.main R1.out (by decide) g rfl h.symm)))
    have hkk : kB k0 bs j + 1 + 5 * (n' : Int) = kB k0 bs (j + 1) := by rw [HK.out, Q3.out]
    rw [hkk]; clear hkk o2 t2 b2 om gm r1; go_wp2; go_roundw
    case rel => exact ⟨j + 1, by omega, by go_num, rfl, OF.out, HT.out, HB.out, T2.out, A2.out⟩
    case measure => simp [intOf]; omega
  · obtain rfl : j = n := by omega
    have how : OwB wr base A j c (marksB k0 bs) := by
     have := repTo_all HML.out; rw [HL.out] at this; rw [this] at howr; exact howr
    have HO := hid how; clear howr hown how; go_wp2; go_ret; exact ⟨rfl, HO.out, hg, hbl, AV.out⟩
set_option maxHeartbeats 1000000 in
theorem markIntSS_t {A : Option Addr} {n c base : Nat} {ts : List (List Int)} {w : World} {top : Nat} {k0 : Int} (hown : OwT w base A n c ts) (hbase : base ≤ w.heap.size) (hk0 : 0 ≤ k0) (hk1 : k0 ≤ 100000000000000) (hn : n ≤ 1048576) (hsm : SmallT ts n 1048576) (ht : TopR w top A n 1 0) :
 Calls Tryz.prog 137 #[.slice A n c, .int .i64 k0] w fun e w' => e = .returned (.int .i64 (kT k0 ts n)) ∧ OwT w' base A n c (marksT k0 ts) ∧ ChgT [3] w w' ∧ Below base w w' ∧ Abv top w w' := by
 have HL := hid hown.len; have HML := hid (marksT_len k0 ts); have HSM := hid hsm; clear hsm; go_enter Tryz.func137, Tryz.ntmps137
 go_wp2; go_loopw [1, 5] (fun kk i wr => ∃ j : Nat, j ≤ n ∧ i = .int .i64 j ∧ kk = .int .i64 (kT k0 ts j) ∧ OwT wr base A n c (repTo (marksT k0 ts) ts j) ∧ ChgT [3] w wr ∧ Below base w wr ∧ TopR wr top A n 1 0 ∧ Abv top w wr) (fun _ i _ => n - (intOf i).toNat)
 case atStart => exact ⟨0, Nat.zero_le _, rfl, rfl, by rw [repTo_zero]; exact hown, ChgT.refl _ _, Below.refl _ _, ht, Abv.refl _ _⟩
 case round =>
  obtain ⟨j, hj, rfl, rfl, howr, hg, hbl, htr, hav⟩ := hrel; have TR := hid htr; have AV := hid hav; clear htr hav; have hkr := kT_range hk0 (ts := ts) (j := j) (fun i hi => HSM.out i (by omega)); by_cases hlt : j < n
  · obtain ⟨g, rfl, hg1, hg2⟩ := howr.form (by omega); obtain ⟨A', n', c', f1, z1, q1, q2, q3, q4⟩ := howr.cells j hlt; have hrg : (repTo (marksT k0 ts) ts j).getD j [] = ts.getD j [] := repTo_get [] HML.out (Nat.le_refl _) (by have := HL.out; omega); rw [hrg] at q3 q4; have hn' : n' ≤ 1048576 := by have := HSM.out j hlt; omega
    have hset := repTo_set [] (m := marksT k0 ts) (xs := ts) (j := j) HML.out (by have := HL.out; omega); have hgm : (marksT k0 ts).getD j [] = marks (kT k0 ts j) (ts.getD j []).length := getD_mapRange [] _ (by have := HL.out; omega); rw [hgm] at hset; have HST := hid hset; have HK := hid (show kT k0 ts (j + 1) = kT k0 ts j + (ts.getD j []).length from rfl); have Q3 := hid q3; have O1 := hid howr; have HRG := hid hrg; have B1 := hid hbl; have G1 := hid hg; have hbz : base ≤ wr.heap.size := by omega
    have F1 := hid f1; have Q4 := hid q4; have GT : g < top := TR.out.main _ rfl; have O1g := hid (show ∀ k, (Value.slice A' n' c').ownBlock = some k → k < top from fun k hk => by
     cases A' with
     | none => cases hk
     | some b =>
      have := TR.out.row ⟨g, 0, none⟩ j b n' c' rfl hlt (by rw [Nat.mul_one, Nat.add_zero]; exact F1.out); have hk' : b.block = k := Option.some.inj hk; omega)
    clear hset hgm q3 howr hrg hown hg hbl; go_wp2_with fail; refine (markIntS_o (k0 := kT k0 ts j) q4 (by omega) (by omega) (by omega)).mono ?_; rintro e w2 ⟨rfl, om, gm⟩; have o2 := O1.out.turn (xs := marks (kT k0 ts j) n') hlt F1.out gm om (by rw [HRG.out]; exact Q3.out); obtain ⟨t2, b2⟩ := O1.out.chg hlt F1.out gm hbz; rw [Q3.out, HST.out] at o2; have OF := hid o2; have HT := hid (G1.out.trans t2); have HB := hid (B1.out.trans b2); have A2 := hid (AV.out.trans (Abv.grown gm O1g.out)); have T2 := hid (TR.out.cell (w' := w2) (fun a i e _ => by
     injection e with e; subst e; exact World.grownBy.cell_far gm _ (show g < wr.heap.size from hg2) (by
      intro h
      obtain ⟨hs, o⟩ := O1.out; exact own_ne o.main Q4.out (by decide) g rfl h.symm)))
    have hkk : kT k0 ts j + (n' : Int) = kT k0 ts (j + 1) := by rw [HK.out, Q3.out]
    rw [hkk]; clear hkk o2 t2 b2 om gm q4; go_wp2; go_roundw
    case rel => exact ⟨j + 1, by omega, by go_num, rfl, OF.out, HT.out, HB.out, T2.out, A2.out⟩
    case measure => simp [intOf]; omega
  · obtain rfl : j = n := by omega
    have how : OwT wr base A j c (marksT k0 ts) := by
     have := repTo_all HML.out; rw [HL.out] at this; rw [this] at howr; exact howr
    have HO := hid how; clear howr hown how; go_wp2; go_ret; exact ⟨rfl, HO.out, hg, hbl, AV.out⟩
theorem markTable_t {A : Option Addr} {n c base : Nat} {ts : List (List Int)} {w : World} {top : Nat} {k0 : Int} (hown : OwT w base A n c ts) (hbase : base ≤ w.heap.size) (hk0 : 0 ≤ k0) (hk1 : k0 ≤ 100000000000000) (hn : n ≤ 1048576) (hsm : SmallT ts n 1048576) (ht : TopR w top A n 1 0) (htp : top ≤ w.heap.size) :
 Calls Tryz.prog 76 #[.agg #[.slice A n c], .int .i64 k0] w fun e w' => e = .returned (.int .i64 (kT k0 ts n)) ∧ OwT w' base A n c (marksT k0 ts) ∧ ChgT [3] w w' ∧ Below base w w' ∧ Abv top w w' := by
 have b1 : Below w.heap.size w (w.alloc (.cells #[.slice A n c] 26)) := (Below.refl _ _).alloc (Nat.le_refl _) _; go_enter Tryz.func76, Tryz.ntmps76
 go_wp2_with fail; refine (markIntSS_t (hown.below b1) (by have := b1.size; omega) hk0 hk1 hn hsm (ht.below b1 htp)).mono ?_
 rintro e w2 ⟨rfl, o2, t2, b2, a2⟩; have OF := hid o2; have HT := hid ((ChgT.of_below b1).trans t2); have HB := hid ((b1.mono hbase).trans b2); have HA := hid ((Abv.of_below b1).trans a2); clear o2 t2 b2 b1 hown a2 ht; go_wp2; go_ret; exact ⟨rfl, OF.out, HT.out, HB.out, HA.out⟩
set_option maxHeartbeats 1000000 in
theorem markNameS_t {A : Option Addr} {n c base : Nat} {ns : List NameV} {w : World} {top : Nat} {k0 : Int} (hown : OwN w base A n c ns) (hbase : base ≤ w.heap.size) (hk0 : 0 ≤ k0) (hk1 : k0 ≤ 100000000000000) (hn : n ≤ 1048576) (ht : ∀ a, A = some a → a.block < top) (htp : top ≤ w.heap.size) :
 Calls Tryz.prog 77 #[.slice A n c, .int .i64 k0] w fun e w' => e = .returned (.int .i64 (k0 + 2 * n)) ∧ OwN w' base A n c (marksN k0 n) ∧ ChgT [78] w w' ∧ Below base w w' ∧ Abv top w w' := by
 have HL := hid hown.len; have HML := hid (show (marksN k0 n).length = ns.length by rw [marksN_len, hown.len]); go_enter Tryz.func77, Tryz.ntmps77
 go_wp2; go_loopw [1, 5] (fun kk i wr => ∃ j : Nat, j ≤ n ∧ i = .int .i64 j ∧ kk = .int .i64 (k0 + 2 * j) ∧ OwN wr base A n c (repTo (marksN k0 n) ns j) ∧ ChgT [78] w wr ∧ Below base w wr ∧ Abv top w wr) (fun _ i _ => n - (intOf i).toNat)
 case atStart => exact ⟨0, Nat.zero_le _, rfl, by simp, by rw [repTo_zero]; exact hown, ChgT.refl _ _, Below.refl _ _, Abv.refl _ _⟩
 case round =>
  obtain ⟨j, hj, rfl, rfl, howr, hg, hbl, hav⟩ := hrel; have AV := hid hav; clear hav; by_cases hlt : j < n
  · obtain ⟨g, rfl, hg1, hg2⟩ := howr.form (by omega); have O1 := hid howr; have B1 := hid hbl; have G1 := hid hg; have hbz : base ≤ wr.heap.size := by omega
    have GT : g < top := ht _ rfl; clear howr hown hg hbl; go_wp2_with fail; refine (markText_c (k0 + 2 * (j : Int)) _ (by omega)).mono ?_; rintro e w2 ⟨rfl, hb2⟩; have o2 := O1.out.below hb2; obtain ⟨f0, f1, z0, z1⟩ := o2.cells j hlt; have hput := o2.put j hlt (markN (k0 + 2 * (j : Int))); have hset := repTo_set noName (m := marksN k0 n) (xs := ns) (j := j) HML.out (by have := HL.out; omega); have hgm : (marksN k0 n).getD j noName = markN (k0 + 2 * (j : Int)) := getD_mapRange noName _ hlt; rw [hgm] at hset; rw [hset] at hput; have hbx := (hb2.mono hbz).trans (below_row o2 hput.2 (by have := hb2.size; omega)); have hgx := (ChgT.of_below (ts := [78]) hb2).trans (ChgT.grown o2 (by simp) hput.2); have hax := (AV.out.trans (Abv.of_below hb2)).trans (Abv.grown (top := top) hput.2 (fun k e => by injection e with e; omega)); unfold markN at hput hbx hgx hax; simp only at hput hbx hgx hax; have HA := hid hax; have HP := hid hput.1; have HB := hid (B1.out.trans hbx); have HG := hid (G1.out.trans hgx); generalize (repTo (marksN k0 n) ns j).getD j noName = Q at *; generalize mt (k0 + 2 * (j : Int)) = mm at *; clear hput hset hgm hbx hgx hax o2 hb2; go_wp2; go_roundw
    case rel => exact ⟨j + 1, by omega, by go_num, by go_num, HP.out, HG.out, HB.out, HA.out⟩
    case measure => simp [intOf]; omega
  · obtain rfl : j = n := by omega
    have how : OwN wr base A j c (marksN k0 j) := by
     have := repTo_all HML.out; rw [HL.out] at this; rw [this] at howr; exact howr
    have HO := hid how; clear howr hown how; go_wp2; go_ret; exact ⟨rfl, HO.out, hg, hbl, AV.out⟩
set_option maxHeartbeats 2000000 in
theorem markDisk_t {h : DH} {d : DiskV} {base : Nat} {w : World} {top : Nat} {k0 : Int} (ho : OwD w base h d) (hbase : base ≤ w.heap.size) (hs : SmallDV d) (hk0 : 0 ≤ k0) (hk1 : k0 ≤ 1000000) (tB : TopR w top h.bA h.bn 2 1) (tT : TopR w top h.tA h.tn 1 0) (tN : ∀ a, h.nA = some a → a.block < top) (htp : top ≤ w.heap.size) :
 Calls Tryz.prog 18 #[.agg (dc h.bA h.bn h.bc h.tA h.tn h.tc d.hot d.warm d.cold d.stamp h.nA h.nn h.nc), .int .i64 k0] w fun e w' => e = .returned (.int .i64 (kD k0 d)) ∧ OwD w' base h (marksD k0 d) ∧ Below base w w' ∧ ChgT [127, 88, 3, 78] w w' ∧ Abv top w w' := by
 have R1 := kD1_range hk0 hk1 hs; have R2 := kD2_range hk0 hk1 hs; obtain ⟨bs, ts, x, y, z, st, ns⟩ := d; obtain ⟨bA, bn, bc, tA, tn, tc, nA, nn, nc⟩ := h; obtain ⟨m1, m2, m3, m4, m5, m6⟩ := hs; simp only at m1 m2 m3 m4 m5 m6; simp only
 have hb := ho.b; have ht := ho.t; have hn := ho.n; simp only at hb ht hn; obtain rfl : bs.length = bn := hb.len; obtain rfl : ts.length = tn := ht.len; obtain rfl : ns.length = nn := hn.len; have M4 := hid m4; have M5 := hid m5; have K1 := Blk.new w 31 (dc bA bs.length bc tA ts.length tc x y z st nA ns.length nc); have b1 : Below w.heap.size w (w.alloc (.cells (dc bA bs.length bc tA ts.length tc x y z st nA ns.length nc) 31)) := (Below.refl _ _).alloc (Nat.le_refl _) _; have s1 : w.heap.size < (w.alloc (.cells (dc bA bs.length bc tA ts.length tc x y z st nA ns.length nc) 31)).heap.size := by simp
 simp only at tB tT tN; have TT := hid tT; have TN := hid tN; have TB := hid (tB.below b1 htp); have s1' := b1.size; have TT1 := hid (TT.out.below b1 htp); have A1 := hid (Abv.of_below (top := top) b1); clear m4 m5 m6 ho tB tT tN; go_enter Tryz.func18, Tryz.ntmps18
 go_wp2_with fail; have C1 := hid (ChgT.of_below (ts := [127, 88, 3, 78]) b1)
 have hb1 := hb.below b1; have ht1 := ht.below b1; have hn1 := hn.below b1; have bb1 := b1.mono hbase; generalize w.alloc (.cells (dc bA bs.length bc tA ts.length tc x y z st nA ns.length nc) 31) = w1 at *; refine (markBlockS_t hb1 (by omega) hk0 (by omega) (by omega) M4.out TB.out).mono ?_; rintro e w2 ⟨rfl, ob, tb, b2, a2⟩; have ht2 := ht1.typed tb (by decide) (by decide); have hn2 := hn1.typed tb (by decide); have K2 : Blk w2 w.heap.size 31 (dc bA bs.length bc tA ts.length tc x y z st nA ns.length nc) := (tb.block w.heap.size s1 (fun cur e fz he hm => by
  rw [show w1.heap[w.heap.size]? = _ from K1] at he; injection he with he; injection he with _ he; subst he; revert hm; decide)).trans K1
 have f1 := K2.cell 1; have f6 := K2.cell 6; simp at f1 f6; have B2 := hid (bb1.trans b2); have A2 := hid (A1.out.trans a2); have TT2 := hid (TT1.out.cell (w' := w2) (fun a i e hi => by
  obtain ⟨hs, o⟩ := ht1; obtain ⟨cur, hcur⟩ := own_kind o.main (g := a.block) (by rw [e]; rfl); refine World.cell?_of_block (tb.block a.block (Array.getElem?_eq_some_iff.1 hcur).1 (fun c' e' f' he hm => ?_)); rw [hcur] at he; injection he with he; injection he with _ he; subst he; revert hm; decide))
 clear a2; have C2 := hid (C1.out.trans (tb.wide (ts' := [127, 88, 3, 78]) (by simp))); have s2 : w.heap.size < w2.heap.size := by have := b2.size; omega
 have OB := hid ob; have KD1 := hid (show kB k0 bs bs.length = kD1 k0 ⟨bs, ts, x, y, z, st, ns⟩ from rfl); rw [KD1.out]; clear K1 hb hb1 ht ht1 hn hn1 bb1 b1 b2 tb ob s1; go_wp2_with fail; refine (markTable_t ht2 (by omega) R1.1 (by omega) m2 M5.out TT2.out (by omega)).mono ?_; rintro e w3 ⟨rfl, ot, tt, b3, a3⟩; have OB3 := hid (OB.out.typed tt (by decide) (by decide)); have hn3 := hn2.typed tt (by decide); have K3 : Blk w3 w.heap.size 31 (dc bA bs.length bc tA ts.length tc x y z st nA ns.length nc) := (tt.block w.heap.size s2 (fun cur e fz he hm => by
  rw [show w2.heap[w.heap.size]? = _ from K2] at he; injection he with he; injection he with _ he; subst he; revert hm; decide)).trans K2
 have g6 := K3.cell 6; simp at g6; have B3 := hid (B2.out.trans b3); have A3 := hid (A2.out.trans a3); clear a3; have C3 := hid (C2.out.trans (tt.wide (ts' := [127, 88, 3, 78]) (by simp))); have s3 : w.heap.size < w3.heap.size := by have := b3.size; omega
 have OT := hid ot; have KD2 := hid (show kT (kD1 k0 ⟨bs, ts, x, y, z, st, ns⟩) ts ts.length = kD2 k0 ⟨bs, ts, x, y, z, st, ns⟩ from rfl); rw [KD2.out]; clear K2 OB ht2 hn2 b3 tt ot s2 f1 f6; go_wp2_with fail; refine (markNameS_t hn3 (by omega) R2.1 (by omega) m3 TN.out (by omega)).mono ?_; rintro e w4 ⟨rfl, on, tn, b4, a4⟩; have FB := hid (OB3.out.typed tn (by decide) (by decide)); have FT := hid (OT.out.typed tn (by decide) (by decide)); have FN := hid on; have B4 := hid (B3.out.trans b4); have A4 := hid (A3.out.trans a4); clear a4; have C4 := hid (C3.out.trans (tn.wide (ts' := [127, 88, 3, 78]) (by simp))); clear K3 OB3 hn3 b4 tn on OT g6; go_wp2; go_ret; exact ⟨rfl, ⟨FB.out, FT.out, FN.out⟩, B4.out, C4.out, A4.out⟩
abbrev noTxt : ByteArray := ByteArray.empty
structure RdS (w : World) (B : Nat) (A : Option Addr) (n : Nat) (ss : List ByteArray) : Prop where
 len : ss.length = n
 at_ : 0 < n → ∃ b off, A = some ⟨b, off, none⟩ ∧ b < B ∧ ∀ i, i < n → w.cell? ⟨b, off + i, none⟩ = some (.string (ss.getD i noTxt))
theorem RdS.mono {w B B' A n xs} (h : RdS w B A n xs) (hB : B ≤ B') : RdS w B' A n xs :=
 ⟨h.len, fun hn => by obtain ⟨b, off, e, hb, hc⟩ := h.at_ hn; exact ⟨b, off, e, by omega, hc⟩⟩
theorem RdS.below {w w' B A n xs} (h : RdS w B A n xs) (hb : Below B w w') : RdS w' B A n xs :=
 ⟨h.len, fun hn => by obtain ⟨b, off, e, hb1, hc⟩ := h.at_ hn; exact ⟨b, off, e, hb1, fun i hi => (hb.cell hb1).trans (hc i hi)⟩⟩
def OwS (w : World) (base : Nat) (A : Option Addr) (n c : Nat) (ss : List ByteArray) : Prop := w.ownsRow base 9 1 (.slice A n c) n (ss.map Value.string)
theorem OwS.len {w base A n c ss} (h : OwS w base A n c ss) : ss.length = n := by have := h.1; simpa using this
theorem OwS.below {w w' base A n c ss} (h : OwS w base A n c ss) (hb : Below w.heap.size w w') : OwS w' base A n c ss := own_below h hb
theorem OwS.lower {w base base' A n c ss} (h : OwS w base A n c ss) (hb : base' ≤ base) : OwS w base' A n c ss := own_lower h hb
theorem OwS.typed {ts : List Nat} {w w' base A n c ss} (h : OwS w base A n c ss) (hc : ChgT ts w w') (h1 : 9 ∉ ts) : OwS w' base A n c ss := own_typed h hc h1
theorem OwS.abv {w w' : World} {top base A n c ss} (o : OwS w base A n c ss) (a : Abv top w w') (ht : top ≤ base) : OwS w' base A n c ss := own_abv o a ht
theorem OwS.cap {w base A n c ss} (h : OwS w base A n c ss) : n ≤ c ∧ c ≤ 9223372036854775807 := own_cap h
theorem OwS.nil (w : World) (base : Nat) : OwS w base none 0 0 [] := World.ownsRow_nil _ _ _ _
theorem OwS.form {w base A n c ss} (h : OwS w base A n c ss) (hn : 0 < n) : ∃ g, A = some ⟨g, 0, none⟩ ∧ base ≤ g ∧ g < w.heap.size := own_form h hn
theorem OwS.cells {w base g n c ss} (h : OwS w base (some ⟨g, 0, none⟩) n c ss) (i : Nat) (hi : i < n) : w.cell? ⟨g, i, none⟩ = some (.string (ss.getD i noTxt)) ∧ w.frozen? ⟨g, i, none⟩ = false :=
 ⟨own_strCell h i (by rw [h.len]; exact hi), World.ownsRow.frozenAt h (g := g) (cap := c) _⟩
theorem OwS.rd {w base A n c ss} (h : OwS w base A n c ss) : RdS w w.heap.size A n ss := by
 refine ⟨h.len, fun hn => ?_⟩; obtain ⟨g, rfl, hg1, hg2⟩ := h.form hn; exact ⟨g, 0, rfl, hg2, fun i hi => by rw [Nat.zero_add]; exact (h.cells i hi).1⟩
theorem OwS.lt {w base A n c ss} (h : OwS w base A n c ss) : ∀ a, A = some a → a.block < w.heap.size := by
 intro a e
 subst e; exact (own_lt h rfl).2
theorem OwS.put {w : World} {base g n c : Nat} {ss : List ByteArray} (h : OwS w base (some ⟨g, 0, none⟩) n c ss) (i : Nat) (x : ByteArray) :
 OwS (w.setCell ⟨g, i, none⟩ (.string x)) base (some ⟨g, 0, none⟩) n c (ss.set i x) ∧ w.grownBy (w.setCell ⟨g, i, none⟩ (.string x)) (some g) := by
 obtain ⟨o, q⟩ := World.ownsRow.stored h (g := g) (cap := c) i (.string x); rw [← List.map_set] at o; exact ⟨o, q⟩
theorem make_texts (n : Nat) (hn : n ≤ 1048576) (W : World) : (Instr.makeSlice 32 (.int .i64 (n : Int)) (.int .i64 (n : Int))).run Tryz.prog W = .ok (.slice (some ⟨W.heap.size, 0, none⟩) n n) (W.alloc (.cells (madeCells #[.string ByteArray.empty] n) 9)) := by
 obtain ⟨i0, hi, hz0, hz1, hz2⟩ := info_parts infoStr; have := run_make (P := Tryz.prog) W 32 9 i0 _ Tryz.underlying32 hi hz0 .i64 .i64 n n (by omega) (by omega) (by rw [hz2]; omega) (by omega); rw [this, hz1]; simp only [Int.toNat_natCast, Nat.mul_one]; rfl
theorem own_madeTexts (w : World) (base n : Nat) (ss : List ByteArray) (hn : ss.length = n) (hb : base ≤ w.heap.size) (hm : n ≤ 1048576) : OwS (w.alloc (.cells (madeCells #[.string ByteArray.empty] n) 9)) base (some ⟨w.heap.size, 0, none⟩) n n (fillTo noTxt ss 0) := by
 have h := World.ownsRow_lit (base := base) (e := 9) (size := 1) w (madeCells #[.string ByteArray.empty] n) n hb (by unfold maxLen; omega) (by rw [size_madeCells, Nat.mul_one]); rw [toList_madeCells_one] at h; rw [fillTo_zero, hn]; unfold OwS; rw [List.map_replicate]; exact h
def LimS (ss : List ByteArray) (n : Nat) : Prop := ∀ i, i < n → (ss.getD i noTxt).size ≤ 9223372036854775807
def SmallS (ss : List ByteArray) (n : Nat) (left : Int) : Prop := ∀ i, i < n → ((ss.getD i noTxt).size : Int) ≤ left
theorem szStringS_c {A : Option Addr} {n c B : Nat} {ss : List ByteArray} {left : Int} {w : World} (hr : RdS w B A n ss) (hB : B ≤ w.heap.size) (h0 : 0 ≤ left) (h1 : left ≤ 1048576) (hm : n ≤ 9223372036854775807) (hlim : LimS ss n) :
 Calls Tryz.prog 20 #[.slice A n c, .int .i64 left] w fun e w' => SzOk left ((n : Int) ≤ left ∧ SmallS ss n left) e ∧ Below w.heap.size w w' := by
 have HLM := hid hlim; clear hlim; by_cases h : (n : Int) ≤ left
 · go_enter Tryz.func20, Tryz.ntmps20
   go_wp2; go_loopw [1, 5] (fun s i wr => ∃ (k : Nat) (l : Int), k ≤ n ∧ i = .int .i64 k ∧ s = .int .i64 l ∧ 0 ≤ l ∧ l ≤ left ∧ SmallS ss k left ∧ Below w.heap.size w wr) (fun _ i _ => n - (intOf i).toNat)
   case atStart => exact ⟨0, left - n, Nat.zero_le _, rfl, rfl, by omega, by omega, fun i hi => absurd hi (Nat.not_lt_zero _), Below.refl _ _⟩
   case round =>
    obtain ⟨k, l, hk, rfl, rfl, hl0, hl1, hsm, hbl⟩ := hrel; have HS := hid hsm; have HB := hid hbl; by_cases hlt : k < n
    · obtain ⟨b, off, rfl, hbB, hc⟩ := hr.at_ (by omega); have e0 := hc k hlt; have hbs : b < w.heap.size := by omega
      replace e0 := (hbl.cell (p := ⟨b, off + k, none⟩) hbs).trans e0; have hlk := HLM.out k hlt; obtain ⟨s, hs⟩ : ∃ s, ss.getD k noTxt = s := ⟨_, rfl⟩; rw [hs] at e0 hlk; have HP := hid hs; clear hc hr hsm hbl hs; by_cases hneg : l - (s.size : Int) < 0
      · go_wp2; go_ret
        exact ⟨⟨_, rfl, by omega, by omega, fun h => by omega⟩, HB.out⟩
      · have HS2 := hid (show SmallS ss (k + 1) left from fun i hi => by
         by_cases e : i = k
         · subst e; rw [HP.out]; omega
         · exact HS.out i (by omega))
        go_wp2; go_roundw
        case rel => exact ⟨k + 1, l - (s.size : Int), by omega, by go_num, by go_num, by omega, by omega, HS2.out, HB.out⟩
        case measure => simp [intOf]; omega
    · obtain rfl : k = n := by omega
      clear hsm hbl; go_wp2; go_ret; exact ⟨⟨_, rfl, by omega, hl1, fun _ => ⟨h, HS.out⟩⟩, HB.out⟩
 · go_enter Tryz.func20, Tryz.ntmps20
   go_wp2; go_ret
   exact ⟨⟨_, rfl, by omega, by omega, fun h => by omega⟩, Below.refl _ _⟩
theorem toStringS_c {A : Option Addr} {n c B : Nat} {ss : List ByteArray} {w : World} (hr : RdS w B A n ss) (hB : B ≤ w.heap.size) (hn : n ≤ 1048576) :
 Calls Tryz.prog 21 #[.slice A n c] w fun e w' => ∃ A' c', e = .returned (.slice A' n c') ∧ OwS w' w.heap.size A' n c' ss ∧ Below w.heap.size w w' := by
 have hmk := make_texts n hn; have hst := hid (own_madeTexts w w.heap.size n ss hr.len (Nat.le_refl _) hn); have HL := hid hr.len; go_enter Tryz.func21, Tryz.ntmps21
 go_wp2; go_loopw [4] (fun i wr => ∃ k : Nat, k ≤ n ∧ i = .int .i64 k ∧ OwS wr w.heap.size (some ⟨w.heap.size, 0, none⟩) n n (fillTo noTxt ss k) ∧ Below w.heap.size w wr) (fun i _ => n - (intOf i).toNat)
 case atStart => exact ⟨0, Nat.zero_le _, rfl, hst.out, (Below.refl _ _).alloc (Nat.le_refl _) _⟩
 case round =>
  obtain ⟨k, hk, rfl, hown, hbel⟩ := hrel; by_cases hlt : k < n
  · obtain ⟨b, off, rfl, hbB, hc⟩ := hr.at_ (by omega); have c0 := hc k hlt; have hbs : b < w.heap.size := by omega
    replace c0 := (hbel.cell (p := ⟨b, off + k, none⟩) hbs).trans c0; have hfs := fillTo_set noTxt ss (k := k) (by have := HL.out; omega); generalize ss.getD k noTxt = s at *; have hput := (hown.put k s).1; rw [hfs] at hput; have HP := hid hput; obtain ⟨f0, z0⟩ := hown.cells k hlt; have HB := hid hbel; generalize (fillTo noTxt ss k).getD k noTxt = Q at *; clear hc hr hfs hown hbel hmk hput; go_wp2; go_roundw
    case rel => exact ⟨k + 1, by omega, by go_num, HP.out, HB.out.setCell (p := ⟨w.heap.size, k, none⟩) (Nat.le_refl _) _⟩
    case measure => simp [intOf]; omega
  · obtain rfl : k = n := by omega
    have how : OwS wr w.heap.size (some ⟨w.heap.size, 0, none⟩) k k ss := by
     have e := fillTo_all noTxt ss; rw [HL.out] at e; rw [e] at hown; exact hown
    have HO := hid how; clear hmk hown how; go_wp2; go_ret; exact ⟨_, _, rfl, HO.out, hbel⟩
theorem eqStringS_same {A A' : Option Addr} {n c c' B B' : Nat} {ss : List ByteArray} {w : World} (hr : RdS w B A n ss) (hr' : RdS w B' A' n ss) (hn : n ≤ 9000000000000) :
 Calls Tryz.prog 22 #[.slice A n c, .slice A' n c'] w fun e w' => e = .returned (.bool true) ∧ Below w.heap.size w w' := by
 go_enter Tryz.func22, Tryz.ntmps22
 go_wp2; go_loopw [5] (fun i wr => ∃ k : Nat, k ≤ n ∧ i = .int .i64 k ∧ Below w.heap.size w wr) (fun i _ => n - (intOf i).toNat)
 case atStart => exact ⟨0, Nat.zero_le _, rfl, Below.refl _ _⟩
 case round =>
  obtain ⟨k, hk, rfl, hbel⟩ := hrel; by_cases hlt : k < n
  · obtain ⟨b, off, rfl, hbB, hc⟩ := hr.at_ (by omega); obtain ⟨b', off', rfl, hbB', hc'⟩ := hr'.at_ (by omega); have c0 := hc k hlt; have d0 := hc' k hlt; have l0 := block_lt_of_cell c0; have l1 := block_lt_of_cell d0; replace c0 := (hbel.cell (p := ⟨b, off + k, none⟩) l0).trans c0; replace d0 := (hbel.cell (p := ⟨b', off' + k, none⟩) l1).trans d0; generalize ss.getD k noTxt = s at *; have HB := hid hbel; clear hc hr hc' hr' hbel; go_wp2; go_quiet (fail)
    go_wp2; go_roundw
    case rel => exact ⟨k + 1, by omega, by go_num, by first | exact HB.out.trans (below_drewN (Below.refl _ _) _) | exact below_drewN HB.out _⟩
    case measure => simp [intOf]; omega
  · have hkn : k = n := by omega
    subst hkn; go_wp2; go_ret; exact ⟨rfl, hbel⟩
def marksS (k : Int) (n : Nat) : List ByteArray := (List.range n).map fun (i : Nat) => mt (k + (i : Int))
theorem marksS_len (k : Int) (n : Nat) : (marksS k n).length = n := by simp [marksS]
theorem markStringS_t {A : Option Addr} {n c base : Nat} {ss : List ByteArray} {w : World} {top : Nat} {k0 : Int} (hown : OwS w base A n c ss) (hbase : base ≤ w.heap.size) (hk0 : 0 ≤ k0) (hk1 : k0 ≤ 100000000000000) (hn : n ≤ 1048576) (ht : ∀ a, A = some a → a.block < top) (htp : top ≤ w.heap.size) :
 Calls Tryz.prog 23 #[.slice A n c, .int .i64 k0] w fun e w' => e = .returned (.int .i64 (k0 + n)) ∧ OwS w' base A n c (marksS k0 n) ∧ ChgT [9] w w' ∧ Below base w w' ∧ Abv top w w' := by
 have HL := hid hown.len; have HML := hid (show (marksS k0 n).length = ss.length by rw [marksS_len, hown.len]); have HT := hid ht; clear ht; go_enter Tryz.func23, Tryz.ntmps23
 go_wp2; go_loopw [1, 5] (fun kk i wr => ∃ j : Nat, j ≤ n ∧ i = .int .i64 j ∧ kk = .int .i64 (k0 + j) ∧ OwS wr base A n c (repTo (marksS k0 n) ss j) ∧ ChgT [9] w wr ∧ Below base w wr ∧ Abv top w wr) (fun _ i _ => n - (intOf i).toNat)
 case atStart => exact ⟨0, Nat.zero_le _, rfl, by simp, by rw [repTo_zero]; exact hown, ChgT.refl _ _, Below.refl _ _, Abv.refl _ _⟩
 case round =>
  obtain ⟨j, hj, rfl, rfl, howr, hg, hbl, hav⟩ := hrel; by_cases hlt : j < n
  · obtain ⟨g, rfl, hg1, hg2⟩ := howr.form (by omega); have O1 := hid howr; have B1 := hid hbl; have G1 := hid hg; have A1 := hid hav; have hbz : base ≤ wr.heap.size := by omega
    have GT : g < top := HT.out _ rfl; clear howr hown hg hbl hav; go_wp2_with fail; refine (markText_c (k0 + (j : Int)) _ (by omega)).mono ?_; rintro e w2 ⟨rfl, hb2⟩; have o2 := O1.out.below hb2; obtain ⟨f0, z0⟩ := o2.cells j hlt; have hput := o2.put j (mt (k0 + (j : Int))); have hset := repTo_set noTxt (m := marksS k0 n) (xs := ss) (j := j) HML.out (by have := HL.out; omega); have hgm : (marksS k0 n).getD j noTxt = mt (k0 + (j : Int)) := getD_mapRange noTxt _ hlt; rw [hgm] at hset; rw [hset] at hput; have hbx := (hb2.mono hbz).trans (below_row o2 hput.2 (by have := hb2.size; omega)); have hgx := (ChgT.of_below (ts := [9]) hb2).trans (ChgT.grown o2 (by simp) hput.2); have hax := (Abv.of_below (top := top) hb2).trans (Abv.grown (top := top) hput.2 (fun k e => by injection e with e; omega)); have HP := hid hput.1; have HB := hid (B1.out.trans hbx); have HG := hid (G1.out.trans hgx); have HA := hid (A1.out.trans hax); generalize (repTo (marksS k0 n) ss j).getD j noTxt = Q at *; generalize mt (k0 + (j : Int)) = mm at *; clear hput hset hgm hbx hgx hax o2 hb2; go_wp2; go_roundw
    case rel => exact ⟨j + 1, by omega, by go_num, by go_num, HP.out, HG.out, HB.out, HA.out⟩
    case measure => simp [intOf]; omega
  · obtain rfl : j = n := by omega
    have how : OwS wr base A j c (marksS k0 j) := by
     have := repTo_all HML.out; rw [HL.out] at this; rw [this] at howr; exact howr
    have HO := hid how; clear howr hown how; go_wp2; go_ret; exact ⟨rfl, HO.out, hg, hbl, hav⟩
theorem heldStringS_c {A : Option Addr} {n c B : Nat} {w : World} {k0 : Int} (hr : RdS w B A n (marksS k0 n)) (hB : B ≤ w.heap.size) (hk0 : 0 ≤ k0) (hk1 : k0 ≤ 100000000000000) (hn : n ≤ 1048576) :
 Calls Tryz.prog 24 #[.slice A n c, .int .i64 k0] w fun e w' => e = .returned (.int .i64 (k0 + n)) ∧ Below w.heap.size w w' := by
 go_enter Tryz.func24, Tryz.ntmps24
 go_wp2; go_loopw [1, 5] (fun kk i wr => ∃ j : Nat, j ≤ n ∧ i = .int .i64 j ∧ kk = .int .i64 (k0 + j) ∧ Below w.heap.size w wr) (fun _ i _ => n - (intOf i).toNat)
 case atStart => exact ⟨0, Nat.zero_le _, rfl, by simp, Below.refl _ _⟩
 case round =>
  obtain ⟨j, hj, rfl, rfl, hbl⟩ := hrel; by_cases hlt : j < n
  · obtain ⟨b, off, rfl, hbB, hc⟩ := hr.at_ (by omega); have c0 := hc j hlt; have hbs : b < w.heap.size := by omega
    replace c0 := (hbl.cell (p := ⟨b, off + j, none⟩) hbs).trans c0; have hgm : (marksS k0 n).getD j noTxt = mt (k0 + (j : Int)) := getD_mapRange noTxt _ hlt; rw [hgm] at c0; have HB := hid hbl; have hsz := hbl.size; clear hr hc hgm hbl; go_wp2_with fail; have hbw : b < wr.heap.size := by omega
    have hmt := fun (W : World) => markText_c (k0 + (j : Int)) W (by omega)
    have HMT := hid hmt; clear hmt; generalize mt (k0 + (j : Int)) = mm at *; go_region_with (go_at_call 81; refine (HMT.out _).mono ?_; rintro e w2 ⟨rfl, hb2⟩; have c0' := (hb2.cell (p := ⟨b, off + j, none⟩) hbw).trans c0)
    all_goals
     have HB2 := hid (HB.out.drew.trans (hb2.mono hsz)); clear hb2 c0; go_wp2; go_roundw
     case rel => exact ⟨j + 1, by omega, by go_num, by go_num, HB2.out⟩
     case measure => simp [intOf]; omega
  · obtain rfl : j = n := by omega
    go_wp2; go_ret
    exact ⟨rfl, hbl⟩
structure OpenTexts (w : World) (A : Option Addr) (len cap : Nat) (ss : List ByteArray) : Prop where
 rd : RdS w w.heap.size A len ss
 lim : LimS ss len
 le : len ≤ cap
 max : cap ≤ 9223372036854775807
theorem openArg_StringS {H : Type} {enc : TypeId × Value → H} {W : World} {A : Option Addr} {len cap : Nat} {d : DataW H} {p : List MemPlace}
 (h : DataW.Trod enc Tryz.prog W 0 (fun _ => true) true 32 (.slice A len cap) d p) (lt : ∀ x ∈ p, x.block < W.heap.size) : ∃ ss, OpenTexts W A len cap ss := by
 obtain ⟨fuel, hf⟩ := h; rcases open_slice Tryz.underlying32 hf with ⟨hcs, _⟩ | ⟨a, len', cap', m, n, D, Pl, hcs, _, hl, hm, hmm, _, hi⟩
 · simp [Value.cells] at hcs
   obtain ⟨rfl, rfl, rfl⟩ := hcs; exact ⟨[], ⟨rfl, fun h => absurd h (Nat.lt_irrefl _)⟩, fun i hi => absurd hi (Nat.not_lt_zero _), Nat.le_refl _, by decide⟩
 · simp [Value.cells] at hcs
   obtain ⟨rfl, rfl, rfl⟩ := hcs; simp only [if_true] at hmm; subst hmm; have key : ∀ i, i < len → ∃ s : ByteArray, W.cell? (a.add i) = some (.string s) ∧ s.size ≤ 9223372036854775807 := by
    intro i hil
    obtain ⟨cs', hc, ht⟩ := hi i (by omega); rw [show Tryz.prog.cellsOf 9 = 1 by kernel_rfl, Nat.mul_one] at hc; obtain ⟨_, hcl, hat⟩ := World.cells?_some hc; obtain ⟨v, rfl⟩ : ∃ v, cs' = [v] := by
     match cs', hcl with
     | [v], _ => exact ⟨v, rfl⟩
    have hcell := hat 0 (by simp); obtain ⟨s, e0, _, hs⟩ := DataW.trod_string (P := Tryz.prog) (t := 9) Tryz.underlying9 ht; injection e0 with e0 _; subst e0; rw [Go.Deep.add_add, Nat.add_zero] at hcell; exact ⟨s, hcell, by unfold maxLen at hs; omega⟩
   obtain ⟨ss, hpl, hp⟩ := pick_list noTxt _ len key; refine ⟨ss, ⟨hpl, fun hn => ?_⟩, fun i hi => (hp i hi).2, hl, by unfold maxLen at hm; omega⟩; obtain ⟨b, off, rfl, hb⟩ := addr_form (hp 0 hn).1; refine ⟨b, off, rfl, hb, fun i hil => ?_⟩; have := (hp i hil).1; rw [add_none] at this; exact this
theorem OwD.capN {w : World} {base : Nat} {h : DH} {d : DiskV} (o : OwD w base h d) : CapN h := by
 obtain ⟨bA, bn, bc, tA, tn, tc, nA, nn, nc⟩ := h; exact ⟨o.n.cap.1, o.n.cap.2, OwN.capN o.n⟩
def OwnLs (w0 : World) (R : LinesR) (e : Ending) (w' : World) : Prop := ∃ h A c, e = .returned (.tuple #[dkv h R.d, .slice A R.al.length c]) ∧ OwD w' w0.heap.size h R.d ∧ OwS w' w0.heap.size A R.al.length c R.al ∧ Below w0.heap.size w0 w'
theorem ownLs_of {w0 w ws : World} {R : LinesR} {h : DH} {d : DiskV} {A : Option Addr} {n c : Nat} {al : List ByteArray} (hR : R = ⟨d, al⟩) (hl : al.length = n) (ho : OwD ws w0.heap.size h d) (hs : OwS ws w0.heap.size A n c al) (hb : Below ws.heap.size ws w) (hr : Blk w (w0.heap.size + 1) 31 Zd) (hB : Below w0.heap.size w0 w) :
 OwnLs w0 R (.returned (.tuple #[dkv h d, .slice A n c])) (putDisk w (w0.heap.size + 1) h d) := by
 subst hR; subst hl; exact ⟨h, A, c, rfl, (ho.below hb).put hr h d, (hs.below hb).typed (blk_putDisk hr h d).2 (by decide), below_putDisk hB (by omega) h d⟩
theorem far_putDisk {w : World} {g b o : Nat} (hne : g ≠ b) (h : DH) (d : DiskV) : (putDisk w g h d).cell? ⟨b, o, none⟩ = w.cell? ⟨b, o, none⟩ :=
 (World.cell?_setCell_far _ ⟨g, 6, none⟩ ⟨b, o, none⟩ _ hne).trans ((World.cell?_setCell_far _ ⟨g, 5, none⟩ ⟨b, o, none⟩ _ hne).trans ((World.cell?_setCell_far _ ⟨g, 4, none⟩ ⟨b, o, none⟩ _ hne).trans ((World.cell?_setCell_far _ ⟨g, 3, none⟩ ⟨b, o, none⟩ _ hne).trans ((World.cell?_setCell_far _ ⟨g, 2, none⟩ ⟨b, o, none⟩ _ hne).trans ((World.cell?_setCell_far _ ⟨g, 1, none⟩ ⟨b, o, none⟩ _ hne).trans (World.cell?_setCell_far _ ⟨g, 0, none⟩ ⟨b, o, none⟩ _ hne))))))
theorem wpList_appS {ops : Array Oper} {rest : List Oper} {o : Oper} {a : Act} {Q : Exit → Act → World → Prop} {w : World} {s x : Operand} {base : Nat} {A0 : Option Addr} {c0 n : Nat} {xs : List ByteArray} {t : ByteArray} (hgd : o.guard = none)
 (ho : o.op = .call { callee := .builtin .append, args := #[s, x], argTypes := #[32, 32] })
 (hs : a.eval s = .slice A0 n c0) (hown : OwS w base A0 n c0 xs)
 (hx : a.eval x = .slice (some ⟨w.heap.size, 0, none⟩) 1 1) (hn : n ≤ 1000000000000) (hbase : base ≤ w.heap.size)
 (h : ∀ g c w', OwS w' base (some ⟨g, 0, none⟩) (n + 1) c (xs ++ [t]) → w.grownBy w' (Value.slice A0 n c0).ownBlock → wpList Tryz.prog ops Q rest (a.put o.dst (.slice (some ⟨g, 0, none⟩) (n + 1) c)) w') :
 wpList Tryz.prog ops Q (o :: rest) a (w.alloc (.cells #[.string t] 9)) := by
 obtain ⟨i0, hi, hz0, hz1, hz2⟩ := info_parts infoStr; refine wpList_app hgd s x 32 ho base 9 i0 _ 1 16 Tryz.underlying32 hi hz0 hz1 hz2 rfl (by decide) (.slice A0 n c0) n _ hs hown [.string t] hx rfl (by simp [Value.oneCell']) (by omega) (by omega) (by omega) ?_; intro g c w' g1 g2 g3
 exact h g c w' (by unfold OwS; rw [List.map_append]; exact g1) g2
end Go.Proofs.YtefdjahaimnndaaGreatDoor
