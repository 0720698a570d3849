/- Parts of the proof, one after the other. -/
import Derived.Test.YtefdjahaimnndaaGreatDoorE2
namespace Go.Proofs.YtefdjahaimnndaaGreatDoor
open Go.ChangeShapes Go.WideShapes Go.ChangeAt Go.RowKit Go.Deep
open Go.Lib (hid)
set_option linter.unusedVariables false
set_option linter.unusedSimpArgs false
def Abv (top : Nat) (w w' : World) : Prop := w.heap.size ≤ w'.heap.size ∧ ∀ k, top ≤ k → k < w.heap.size → w'.heap[k]? = w.heap[k]?
theorem Abv.refl (top : Nat) (w : World) : Abv top w w := ⟨Nat.le_refl _, fun _ _ _ => rfl⟩
theorem Abv.trans {top : Nat} {a b c : World} (h : Abv top a b) (k : Abv top b c) : Abv top a c := ⟨Nat.le_trans h.1 k.1, fun i h1 h2 => (k.2 i h1 (Nat.lt_of_lt_of_le h2 h.1)).trans (h.2 i h1 h2)⟩
theorem Abv.of_below {top : Nat} {w w' : World} (b : Below w.heap.size w w') : Abv top w w' := ⟨b.size, fun i _ h => b.block i h⟩
theorem Abv.grown {top : Nat} {w w' : World} {row : Option Nat} (g : w.grownBy w' row) (h : ∀ k, row = some k → k < top) : Abv top w w' := ⟨g.size, fun i h1 h2 => g.block i h2 (fun e => by have := h i e.symm; omega)⟩
theorem Abv.blk {top g t : Nat} {cs : Array Value} {w w' : World} (a : Abv top w w') (k : Blk w g t cs) (h : top ≤ g) : Blk w' g t cs := (a.2 g h k.lt).trans k
theorem own_abv {w w' : World} {top base e s n : Nat} {v : Value} {xs : List Value} (h : w.ownsRow base e s v n xs) (a : Abv top w w') (ht : top ≤ base) : w'.ownsRow base e s v n xs := by
 refine ⟨h.1, ?_⟩; rcases h.2 with hn | ⟨g, cap, cur, rfl, hb, hgg, rest⟩
 · exact .inl hn
 · exact .inr ⟨g, cap, cur, rfl, hb, (a.2 g (by omega) (Array.getElem?_eq_some_iff.1 hgg).1).trans hgg, rest⟩
theorem OwD.abv {w w' : World} {top base : Nat} {h : DH} {d : DiskV} (o : OwD w base h d) (a : Abv top w w') (ht : top ≤ base) : OwD w' base h d := by
 obtain ⟨⟨hs, b⟩, ⟨ks, t⟩, n⟩ := o; exact ⟨⟨hs, b.hl, b.nl, b.pre, own_abv b.main a ht, fun i hi => own_abv (b.row i hi) a ht, b.apart⟩, ⟨ks, t.hl, t.nl, t.pre, own_abv t.main a ht, fun i hi => own_abv (t.row i hi) a ht, t.apart⟩, own_abv n a ht⟩
structure TopR (w : World) (top : Nat) (A : Option Addr) (n st of : Nat) : Prop where
 main : ∀ a, A = some a → a.block < top
 row : ∀ a i b m c, A = some a → i < n → w.cell? ⟨a.block, i * st + of, none⟩ = some (.slice (some b) m c) → b.block < top
theorem TopR.cell {w w' : World} {top : Nat} {A : Option Addr} {n st of : Nat} (h : TopR w top A n st of) (hc : ∀ a i, A = some a → i < n → w'.cell? ⟨a.block, i * st + of, none⟩ = w.cell? ⟨a.block, i * st + of, none⟩) : TopR w' top A n st of :=
 ⟨h.main, fun a i b m c e hi hh => h.row a i b m c e hi ((hc a i e hi).symm.trans hh)⟩
theorem TopR.below {w w' : World} {B top : Nat} {A : Option Addr} {n st of : Nat} (h : TopR w top A n st of) (b : Below B w w') (hB : top ≤ B) : TopR w' top A n st of :=
 h.cell fun a i e _ => b.cell (p := ⟨a.block, i * st + of, none⟩) (by have := h.main a e; show a.block < B; omega)
theorem topB_of {w : World} {base n c : Nat} {A : Option Addr} {bs : List BlockV} (h : OwB w base A n c bs) : TopR w w.heap.size A n 2 1 := by
 refine ⟨fun a e => ?_, fun a i b m c' e hi hc => ?_⟩
 · obtain ⟨hs, o⟩ := h; subst e; exact (own_lt o.main rfl).2
 · obtain ⟨g, e2, _, _⟩ := h.form (by omega); rw [e2] at e h; injection e with e; subst e; obtain ⟨A', n', c2, _, c1, _, _, _, _, _, o⟩ := h.cells i hi; rw [show (⟨g, i * 2 + 1, none⟩ : Addr) = ⟨g, i * 2 + 1, none⟩ from rfl] at c1; have hc' : w.cell? ⟨g, i * 2 + 1, none⟩ = some (.slice (some b) m c') := hc; rw [c1] at hc'; injection hc' with hc'; injection hc' with h1 h2 h3; subst h1; exact (own_lt o rfl).2
theorem topT_of {w : World} {base n c : Nat} {A : Option Addr} {ts : List (List Int)} (h : OwT w base A n c ts) : TopR w w.heap.size A n 1 0 := by
 refine ⟨fun a e => ?_, fun a i b m c' e hi hc => ?_⟩
 · obtain ⟨hs, o⟩ := h; subst e; exact (own_lt o.main rfl).2
 · obtain ⟨g, e2, _, _⟩ := h.form (by omega); rw [e2] at e h; injection e with e; subst e; obtain ⟨A', n', c2, c1, _, _, _, _, o⟩ := h.cells i hi; have hc' : w.cell? ⟨g, i * 1 + 0, none⟩ = some (.slice (some b) m c') := hc; rw [Nat.mul_one, Nat.add_zero, c1] at hc'; injection hc' with hc'; injection hc' with h1 h2 h3; subst h1; exact (own_lt o rfl).2
set_option maxHeartbeats 1000000 in
theorem markBlockS_t {A : Option Addr} {n c base : Nat} {bs : List BlockV} {w : World} {top : Nat} {k0 : Int} (hown : OwB w base A n c bs) (hbase : base ≤ w.heap.size) (hk0 : 0 ≤ k0) (hk1 : k0 ≤ 100000000000000) (hn : n ≤ 1048576) (hsm : SmallB bs n 1048576) (ht : TopR w top A n 2 1) :
 Calls Tryz.prog 75 #[.slice A n c, .int .i64 k0] w fun e w' => e = .returned (.int .i64 (kB k0 bs n)) ∧ OwB w' base A n c (marksB k0 bs) ∧ ChgT [127, 88] w w' ∧ Below base w w' ∧ Abv top w w' := by
 have HL := hid hown.len; have HML := hid (marksB_len k0 bs); have HSM := hid hsm; clear hsm; go_enter Tryz.func75, Tryz.ntmps75
 go_wp2; go_loopw [1, 5] (fun kk i wr => ∃ j : Nat, j ≤ n ∧ i = .int .i64 j ∧ kk = .int .i64 (kB k0 bs j) ∧ OwB wr base A n c (repTo (marksB k0 bs) bs j) ∧ ChgT [127, 88] w wr ∧ Below base w wr ∧ TopR wr top A n 2 1 ∧ Abv top w wr) (fun _ i _ => n - (intOf i).toNat)
 case atStart => exact ⟨0, Nat.zero_le _, rfl, rfl, by rw [repTo_zero]; exact hown, ChgT.refl _ _, Below.refl _ _, ht, Abv.refl _ _⟩
 case round =>
  obtain ⟨j, hj, rfl, rfl, howr, hg, hbl, htr, hav⟩ := hrel; have TR := hid htr; have AV := hid hav; clear htr hav; have hkr := kB_range hk0 (bs := bs) (j := j) (fun i hi => HSM.out i (by omega)); by_cases hlt : j < n
  · obtain ⟨g, rfl, hg1, hg2⟩ := howr.form (by omega); obtain ⟨A', n', c', f0, f1, z0, z1, q1, q2, q3, q4⟩ := howr.cells j hlt; have hrg : (repTo (marksB k0 bs) bs j).getD j noBlock = bs.getD j noBlock := repTo_get noBlock HML.out (Nat.le_refl _) (by have := HL.out; omega); rw [hrg] at q3 q4 f0; obtain ⟨o1, t1⟩ := howr.setWear hlt (kB k0 bs j); have hb1 : Below base wr (wr.setCell ⟨g, j * 2, none⟩ (.int .i64 (kB k0 bs j))) := (Below.refl _ _).setCell (p := ⟨g, j * 2, none⟩) hg1 _; have r1 := own_typed q4 t1 (by decide); have hn' : n' ≤ 1048576 := by have := HSM.out j hlt; omega
    have hset := repTo_set noBlock (m := marksB k0 bs) (xs := bs) (j := j) HML.out (by have := HL.out; omega); have hgm : (marksB k0 bs).getD j noBlock = markB (kB k0 bs j) (bs.getD j noBlock) := getD_mapRange noBlock _ (by have := HL.out; omega); rw [hgm] at hset; have HST := hid hset; have HK := hid (show kB k0 bs (j + 1) = kB k0 bs j + 1 + 5 * (bs.getD j noBlock).pages.length from rfl); have Q3 := hid q3; have O1 := hid o1; have HRG := hid hrg; have B1 := hid (hbl.trans hb1); have G1 := hid (hg.trans (t1.wide (ts' := [127, 88]) (by simp))); have hbz : base ≤ (wr.setCell ⟨g, j * 2, none⟩ (.int .i64 (kB k0 bs j))).heap.size := by have := hbl.size; have := hb1.size; omega
    have F1 := hid (show (wr.setCell ⟨g, j * 2, none⟩ (.int .i64 (kB k0 bs j))).cell? ⟨g, j * 2 + 1, none⟩ = some (.slice A' n' c') from (World.cell?_setCell_other _ _ _ _ (by simp)).trans f1); have GT : g < top := TR.out.main _ rfl; have A1 := hid (AV.out.trans (Abv.grown (gb_setCell (World.grownBy.refl wr (some g)) (p := ⟨g, j * 2, none⟩) (.inl rfl) (.int .i64 (kB k0 bs j))) (fun k e => by injection e with e; omega))); have T1 := hid (TR.out.cell (w' := wr.setCell ⟨g, j * 2, none⟩ (.int .i64 (kB k0 bs j))) (fun a i e _ => by
     injection e with e; subst e; exact World.cell?_setCell_other _ _ _ _ (by (try simp) <;> (try omega))))
    have R1 := hid r1; have O1g := hid (show ∀ k, (Value.slice A' n' c').ownBlock = some k → k < top from fun k hk => by
     cases A' with
     | none => cases hk
     | some b =>
      have := T1.out.row ⟨g, 0, none⟩ j b n' c' rfl hlt F1.out; have hk' : b.block = k := Option.some.inj hk; omega)
    clear o1 t1 hb1 hset hgm q3 q4 howr hrg hown hg hbl; go_wp2_with fail; refine (markPageS_c (k0 := kB k0 bs j + 1) r1 (by omega) (by omega) hn').mono ?_; rintro e w2 ⟨rfl, om, gm⟩; obtain ⟨o2, t2, b2⟩ := O1.out.turn (ps := marksG (kB k0 bs j + 1) n') hlt F1.out gm om (by
     rw [getD_setG _ _ _ _ (by rw [repTo_len HML.out (by have := HL.out; omega)]; have := HL.out; omega), HRG.out]; exact Q3.out) hbz
    have OF := hid (show OwB w2 base (some ⟨g, 0, none⟩) n c (repTo (marksB k0 bs) bs (j + 1)) from by
     rw [List.set_set] at o2; rw [← HST.out]; have e1 : ((repTo (marksB k0 bs) bs j).set j ⟨kB k0 bs j, ((repTo (marksB k0 bs) bs j).getD j noBlock).pages⟩).getD j noBlock = ⟨kB k0 bs j, (bs.getD j noBlock).pages⟩ := by
      rw [getD_setG _ _ _ _ (by rw [repTo_len HML.out (by have := HL.out; omega)]; have := HL.out; omega), HRG.out]
     rw [e1] at o2; unfold markB; rw [← Q3.out]; exact o2)
    have HT := hid (G1.out.trans (t2.wide (ts' := [127, 88]) (by simp))); have HB := hid (B1.out.trans b2); have A2 := hid (A1.out.trans (Abv.grown gm O1g.out)); have T2 := hid (T1.out.cell (w' := w2) (fun a i e _ => by
     injection e with e; subst e; exact World.grownBy.cell_far gm _ (show g < (wr.setCell ⟨g, j * 2, none⟩ (.int .i64 (kB k0 bs j))).heap.size from by simp [World.setCell]; omega) (by
      intro h
      obtain ⟨hs, o⟩ := O1.out; exact own_ne o.main R1.out (by decide) g rfl h.symm)))
    have hkk : kB k0 bs j + 1 + 5 * (n' : Int) = kB k0 bs (j + 1) := by rw [HK.out, Q3.out]
    rw [hkk]; clear hkk o2 t2 b2 om gm r1; go_wp2; go_roundw
    case rel => exact ⟨j + 1, by omega, by go_num, rfl, OF.out, HT.out, HB.out, T2.out, A2.out⟩
    case measure => simp [intOf]; omega
  · obtain rfl : j = n := by omega
    have how : OwB wr base A j c (marksB k0 bs) := by
     have := repTo_all HML.out; rw [HL.out] at this; rw [this] at howr; exact howr
    have HO := hid how; clear howr hown how; go_wp2; go_ret; exact ⟨rfl, HO.out, hg, hbl, AV.out⟩
set_option maxHeartbeats 1000000 in
theorem markIntSS_t {A : Option Addr} {n c base : Nat} {ts : List (List Int)} {w : World} {top : Nat} {k0 : Int} (hown : OwT w base A n c ts) (hbase : base ≤ w.heap.size) (hk0 : 0 ≤ k0) (hk1 : k0 ≤ 100000000000000) (hn : n ≤ 1048576) (hsm : SmallT ts n 1048576) (ht : TopR w top A n 1 0) :
 Calls Tryz.prog 137 #[.slice A n c, .int .i64 k0] w fun e w' => e = .returned (.int .i64 (kT k0 ts n)) ∧ OwT w' base A n c (marksT k0 ts) ∧ ChgT [3] w w' ∧ Below base w w' ∧ Abv top w w' := by
 have HL := hid hown.len; have HML := hid (marksT_len k0 ts); have HSM := hid hsm; clear hsm; go_enter Tryz.func137, Tryz.ntmps137
 go_wp2; go_loopw [1, 5] (fun kk i wr => ∃ j : Nat, j ≤ n ∧ i = .int .i64 j ∧ kk = .int .i64 (kT k0 ts j) ∧ OwT wr base A n c (repTo (marksT k0 ts) ts j) ∧ ChgT [3] w wr ∧ Below base w wr ∧ TopR wr top A n 1 0 ∧ Abv top w wr) (fun _ i _ => n - (intOf i).toNat)
 case atStart => exact ⟨0, Nat.zero_le _, rfl, rfl, by rw [repTo_zero]; exact hown, ChgT.refl _ _, Below.refl _ _, ht, Abv.refl _ _⟩
 case round =>
  obtain ⟨j, hj, rfl, rfl, howr, hg, hbl, htr, hav⟩ := hrel; have TR := hid htr; have AV := hid hav; clear htr hav; have hkr := kT_range hk0 (ts := ts) (j := j) (fun i hi => HSM.out i (by omega)); by_cases hlt : j < n
  · obtain ⟨g, rfl, hg1, hg2⟩ := howr.form (by omega); obtain ⟨A', n', c', f1, z1, q1, q2, q3, q4⟩ := howr.cells j hlt; have hrg : (repTo (marksT k0 ts) ts j).getD j [] = ts.getD j [] := repTo_get [] HML.out (Nat.le_refl _) (by have := HL.out; omega); rw [hrg] at q3 q4; have hn' : n' ≤ 1048576 := by have := HSM.out j hlt; omega
    have hset := repTo_set [] (m := marksT k0 ts) (xs := ts) (j := j) HML.out (by have := HL.out; omega); have hgm : (marksT k0 ts).getD j [] = marks (kT k0 ts j) (ts.getD j []).length := getD_mapRange [] _ (by have := HL.out; omega); rw [hgm] at hset; have HST := hid hset; have HK := hid (show kT k0 ts (j + 1) = kT k0 ts j + (ts.getD j []).length from rfl); have Q3 := hid q3; have O1 := hid howr; have HRG := hid hrg; have B1 := hid hbl; have G1 := hid hg; have hbz : base ≤ wr.heap.size := by omega
    have F1 := hid f1; have Q4 := hid q4; have GT : g < top := TR.out.main _ rfl; have O1g := hid (show ∀ k, (Value.slice A' n' c').ownBlock = some k → k < top from fun k hk => by
     cases A' with
     | none => cases hk
     | some b =>
      have := TR.out.row ⟨g, 0, none⟩ j b n' c' rfl hlt (by rw [Nat.mul_one, Nat.add_zero]; exact F1.out); have hk' : b.block = k := Option.some.inj hk; omega)
    clear hset hgm q3 howr hrg hown hg hbl; go_wp2_with fail; refine (markIntS_o (k0 := kT k0 ts j) q4 (by omega) (by omega) (by omega)).mono ?_; rintro e w2 ⟨rfl, om, gm⟩; have o2 := O1.out.turn (xs := marks (kT k0 ts j) n') hlt F1.out gm om (by rw [HRG.out]; exact Q3.out); obtain ⟨t2, b2⟩ := O1.out.chg hlt F1.out gm hbz; rw [Q3.out, HST.out] at o2; have OF := hid o2; have HT := hid (G1.out.trans t2); have HB := hid (B1.out.trans b2); have A2 := hid (AV.out.trans (Abv.grown gm O1g.out)); have T2 := hid (TR.out.cell (w' := w2) (fun a i e _ => by
     injection e with e; subst e; exact World.grownBy.cell_far gm _ (show g < wr.heap.size from hg2) (by
      intro h
      obtain ⟨hs, o⟩ := O1.out; exact own_ne o.main Q4.out (by decide) g rfl h.symm)))
    have hkk : kT k0 ts j + (n' : Int) = kT k0 ts (j + 1) := by rw [HK.out, Q3.out]
    rw [hkk]; clear hkk o2 t2 b2 om gm q4; go_wp2; go_roundw
    case rel => exact ⟨j + 1, by omega, by go_num, rfl, OF.out, HT.out, HB.out, T2.out, A2.out⟩
    case measure => simp [intOf]; omega
  · obtain rfl : j = n := by omega
    have how : OwT wr base A j c (marksT k0 ts) := by
     have := repTo_all HML.out; rw [HL.out] at this; rw [this] at howr; exact howr
    have HO := hid how; clear howr hown how; go_wp2; go_ret; exact ⟨rfl, HO.out, hg, hbl, AV.out⟩
theorem markTable_t {A : Option Addr} {n c base : Nat} {ts : List (List Int)} {w : World} {top : Nat} {k0 : Int} (hown : OwT w base A n c ts) (hbase : base ≤ w.heap.size) (hk0 : 0 ≤ k0) (hk1 : k0 ≤ 100000000000000) (hn : n ≤ 1048576) (hsm : SmallT ts n 1048576) (ht : TopR w top A n 1 0) (htp : top ≤ w.heap.size) :
 Calls Tryz.prog 76 #[.agg #[.slice A n c], .int .i64 k0] w fun e w' => e = .returned (.int .i64 (kT k0 ts n)) ∧ OwT w' base A n c (marksT k0 ts) ∧ ChgT [3] w w' ∧ Below base w w' ∧ Abv top w w' := by
 have b1 : Below w.heap.size w (w.alloc (.cells #[.slice A n c] 26)) := (Below.refl _ _).alloc (Nat.le_refl _) _; go_enter Tryz.func76, Tryz.ntmps76
 go_wp2_with fail; refine (markIntSS_t (hown.below b1) (by have := b1.size; omega) hk0 hk1 hn hsm (ht.below b1 htp)).mono ?_
 rintro e w2 ⟨rfl, o2, t2, b2, a2⟩; have OF := hid o2; have HT := hid ((ChgT.of_below b1).trans t2); have HB := hid ((b1.mono hbase).trans b2); have HA := hid ((Abv.of_below b1).trans a2); clear o2 t2 b2 b1 hown a2 ht; go_wp2; go_ret; exact ⟨rfl, OF.out, HT.out, HB.out, HA.out⟩
set_option maxHeartbeats 1000000 in
theorem markNameS_t {A : Option Addr} {n c base : Nat} {ns : List NameV} {w : World} {top : Nat} {k0 : Int} (hown : OwN w base A n c ns) (hbase : base ≤ w.heap.size) (hk0 : 0 ≤ k0) (hk1 : k0 ≤ 100000000000000) (hn : n ≤ 1048576) (ht : ∀ a, A = some a → a.block < top) (htp : top ≤ w.heap.size) :
 Calls Tryz.prog 77 #[.slice A n c, .int .i64 k0] w fun e w' => e = .returned (.int .i64 (k0 + 2 * n)) ∧ OwN w' base A n c (marksN k0 n) ∧ ChgT [78] w w' ∧ Below base w w' ∧ Abv top w w' := by
 have HL := hid hown.len; have HML := hid (show (marksN k0 n).length = ns.length by rw [marksN_len, hown.len]); go_enter Tryz.func77, Tryz.ntmps77
 go_wp2; go_loopw [1, 5] (fun kk i wr => ∃ j : Nat, j ≤ n ∧ i = .int .i64 j ∧ kk = .int .i64 (k0 + 2 * j) ∧ OwN wr base A n c (repTo (marksN k0 n) ns j) ∧ ChgT [78] w wr ∧ Below base w wr ∧ Abv top w wr) (fun _ i _ => n - (intOf i).toNat)
 case atStart => exact ⟨0, Nat.zero_le _, rfl, by simp, by rw [repTo_zero]; exact hown, ChgT.refl _ _, Below.refl _ _, Abv.refl _ _⟩
 case round =>
  obtain ⟨j, hj, rfl, rfl, howr, hg, hbl, hav⟩ := hrel; have AV := hid hav; clear hav; by_cases hlt : j < n
  · obtain ⟨g, rfl, hg1, hg2⟩ := howr.form (by omega); have O1 := hid howr; have B1 := hid hbl; have G1 := hid hg; have hbz : base ≤ wr.heap.size := by omega
    have GT : g < top := ht _ rfl; clear howr hown hg hbl; go_wp2_with fail; refine (markText_c (k0 + 2 * (j : Int)) _ (by omega)).mono ?_; rintro e w2 ⟨rfl, hb2⟩; have o2 := O1.out.below hb2; obtain ⟨f0, f1, z0, z1⟩ := o2.cells j hlt; have hput := o2.put j hlt (markN (k0 + 2 * (j : Int))); have hset := repTo_set noName (m := marksN k0 n) (xs := ns) (j := j) HML.out (by have := HL.out; omega); have hgm : (marksN k0 n).getD j noName = markN (k0 + 2 * (j : Int)) := getD_mapRange noName _ hlt; rw [hgm] at hset; rw [hset] at hput; have hbx := (hb2.mono hbz).trans (below_row o2 hput.2 (by have := hb2.size; omega)); have hgx := (ChgT.of_below (ts := [78]) hb2).trans (ChgT.grown o2 (by simp) hput.2); have hax := (AV.out.trans (Abv.of_below hb2)).trans (Abv.grown (top := top) hput.2 (fun k e => by injection e with e; omega)); unfold markN at hput hbx hgx hax; simp only at hput hbx hgx hax; have HA := hid hax; have HP := hid hput.1; have HB := hid (B1.out.trans hbx); have HG := hid (G1.out.trans hgx); generalize (repTo (marksN k0 n) ns j).getD j noName = Q at *; generalize mt (k0 + 2 * (j : Int)) = mm at *; clear hput hset hgm hbx hgx hax o2 hb2; go_wp2; go_roundw
    case rel => exact ⟨j + 1, by omega, by go_num, by go_num, HP.out, HG.out, HB.out, HA.out⟩
    case measure => simp [intOf]; omega
  · obtain rfl : j = n := by omega
    have how : OwN wr base A j c (marksN k0 j) := by
     have := repTo_all HML.out; rw [HL.out] at this; rw [this] at howr; exact howr
    have HO := hid how; clear howr hown how; go_wp2; go_ret; exact ⟨rfl, HO.out, hg, hbl, AV.out⟩
set_option maxHeartbeats 2000000 in
theorem markDisk_t {h : DH} {d : DiskV} {base : Nat} {w : World} {top : Nat} {k0 : Int} (ho : OwD w base h d) (hbase : base ≤ w.heap.size) (hs : SmallDV d) (hk0 : 0 ≤ k0) (hk1 : k0 ≤ 1000000) (tB : TopR w top h.bA h.bn 2 1) (tT : TopR w top h.tA h.tn 1 0) (tN : ∀ a, h.nA = some a → a.block < top) (htp : top ≤ w.heap.size) :
 Calls Tryz.prog 18 #[.agg (dc h.bA h.bn h.bc h.tA h.tn h.tc d.hot d.warm d.cold d.stamp h.nA h.nn h.nc), .int .i64 k0] w fun e w' => e = .returned (.int .i64 (kD k0 d)) ∧ OwD w' base h (marksD k0 d) ∧ Below base w w' ∧ ChgT [127, 88, 3, 78] w w' ∧ Abv top w w' := by
 have R1 := kD1_range hk0 hk1 hs; have R2 := kD2_range hk0 hk1 hs; obtain ⟨bs, ts, x, y, z, st, ns⟩ := d; obtain ⟨bA, bn, bc, tA, tn, tc, nA, nn, nc⟩ := h; obtain ⟨m1, m2, m3, m4, m5, m6⟩ := hs; simp only at m1 m2 m3 m4 m5 m6; simp only
 have hb := ho.b; have ht := ho.t; have hn := ho.n; simp only at hb ht hn; obtain rfl : bs.length = bn := hb.len; obtain rfl : ts.length = tn := ht.len; obtain rfl : ns.length = nn := hn.len; have M4 := hid m4; have M5 := hid m5; have K1 := Blk.new w 31 (dc bA bs.length bc tA ts.length tc x y z st nA ns.length nc); have b1 : Below w.heap.size w (w.alloc (.cells (dc bA bs.length bc tA ts.length tc x y z st nA ns.length nc) 31)) := (Below.refl _ _).alloc (Nat.le_refl _) _; have s1 : w.heap.size < (w.alloc (.cells (dc bA bs.length bc tA ts.length tc x y z st nA ns.length nc) 31)).heap.size := by simp
 simp only at tB tT tN; have TT := hid tT; have TN := hid tN; have TB := hid (tB.below b1 htp); have s1' := b1.size; have TT1 := hid (TT.out.below b1 htp); have A1 := hid (Abv.of_below (top := top) b1); clear m4 m5 m6 ho tB tT tN; go_enter Tryz.func18, Tryz.ntmps18
 go_wp2_with fail; have C1 := hid (ChgT.of_below (ts := [127, 88, 3, 78]) b1)
 have hb1 := hb.below b1; have ht1 := ht.below b1; have hn1 := hn.below b1; have bb1 := b1.mono hbase; generalize w.alloc (.cells (dc bA bs.length bc tA ts.length tc x y z st nA ns.length nc) 31) = w1 at *; refine (markBlockS_t hb1 (by omega) hk0 (by omega) (by omega) M4.out TB.out).mono ?_; rintro e w2 ⟨rfl, ob, tb, b2, a2⟩; have ht2 := ht1.typed tb (by decide) (by decide); have hn2 := hn1.typed tb (by decide); have K2 : Blk w2 w.heap.size 31 (dc bA bs.length bc tA ts.length tc x y z st nA ns.length nc) := (tb.block w.heap.size s1 (fun cur e fz he hm => by
  rw [show w1.heap[w.heap.size]? = _ from K1] at he; injection he with he; injection he with _ he; subst he; revert hm; decide)).trans K1
 have f1 := K2.cell 1; have f6 := K2.cell 6; simp at f1 f6; have B2 := hid (bb1.trans b2); have A2 := hid (A1.out.trans a2); have TT2 := hid (TT1.out.cell (w' := w2) (fun a i e hi => by
  obtain ⟨hs, o⟩ := ht1; obtain ⟨cur, hcur⟩ := own_kind o.main (g := a.block) (by rw [e]; rfl); refine World.cell?_of_block (tb.block a.block (Array.getElem?_eq_some_iff.1 hcur).1 (fun c' e' f' he hm => ?_)); rw [hcur] at he; injection he with he; injection he with _ he; subst he; revert hm; decide))
 clear a2; have C2 := hid (C1.out.trans (tb.wide (ts' := [127, 88, 3, 78]) (by simp))); have s2 : w.heap.size < w2.heap.size := by have := b2.size; omega
 have OB := hid ob; have KD1 := hid (show kB k0 bs bs.length = kD1 k0 ⟨bs, ts, x, y, z, st, ns⟩ from rfl); rw [KD1.out]; clear K1 hb hb1 ht ht1 hn hn1 bb1 b1 b2 tb ob s1; go_wp2_with fail; refine (markTable_t ht2 (by omega) R1.1 (by omega) m2 M5.out TT2.out (by omega)).mono ?_; rintro e w3 ⟨rfl, ot, tt, b3, a3⟩; have OB3 := hid (OB.out.typed tt (by decide) (by decide)); have hn3 := hn2.typed tt (by decide); have K3 : Blk w3 w.heap.size 31 (dc bA bs.length bc tA ts.length tc x y z st nA ns.length nc) := (tt.block w.heap.size s2 (fun cur e fz he hm => by
  rw [show w2.heap[w.heap.size]? = _ from K2] at he; injection he with he; injection he with _ he; subst he; revert hm; decide)).trans K2
 have g6 := K3.cell 6; simp at g6; have B3 := hid (B2.out.trans b3); have A3 := hid (A2.out.trans a3); clear a3; have C3 := hid (C2.out.trans (tt.wide (ts' := [127, 88, 3, 78]) (by simp))); have s3 : w.heap.size < w3.heap.size := by have := b3.size; omega
 have OT := hid ot; have KD2 := hid (show kT (kD1 k0 ⟨bs, ts, x, y, z, st, ns⟩) ts ts.length = kD2 k0 ⟨bs, ts, x, y, z, st, ns⟩ from rfl); rw [KD2.out]; clear K2 OB ht2 hn2 b3 tt ot s2 f1 f6; go_wp2_with fail; refine (markNameS_t hn3 (by omega) R2.1 (by omega) m3 TN.out (by omega)).mono ?_; rintro e w4 ⟨rfl, on, tn, b4, a4⟩; have FB := hid (OB3.out.typed tn (by decide) (by decide)); have FT := hid (OT.out.typed tn (by decide) (by decide)); have FN := hid on; have B4 := hid (B3.out.trans b4); have A4 := hid (A3.out.trans a4); clear a4; have C4 := hid (C3.out.trans (tn.wide (ts' := [127, 88, 3, 78]) (by simp))); clear K3 OB3 hn3 b4 tn on OT g6; go_wp2; go_ret; exact ⟨rfl, ⟨FB.out, FT.out, FN.out⟩, B4.out, C4.out, A4.out⟩
theorem OwD.tops {w : World} {base : Nat} {h : DH} {d : DiskV} (o : OwD w base h d) : TopR w w.heap.size h.bA h.bn 2 1 ∧ TopR w w.heap.size h.tA h.tn 1 0 ∧ (∀ a, h.nA = some a → a.block < w.heap.size) := by
 refine ⟨topB_of o.b, topT_of o.t, fun a e => ?_⟩; have hn := o.n; rw [e] at hn; exact (own_lt hn rfl).2
theorem Abv.cellB {w w' : World} {top base n c : Nat} {A : Option Addr} {bs : List BlockV} (a : Abv top w w') (o : OwB w base A n c bs) (ht : top ≤ base) (x : Addr) (i : Nat) (e : A = some x) : w'.cell? ⟨x.block, i, none⟩ = w.cell? ⟨x.block, i, none⟩ := by
 subst e; obtain ⟨hs, o⟩ := o; have l := own_lt o.main rfl; exact World.cell?_of_block (a.2 x.block (Nat.le_trans ht l.1) l.2)
theorem Abv.cellT {w w' : World} {top base n c : Nat} {A : Option Addr} {ts : List (List Int)} (a : Abv top w w') (o : OwT w base A n c ts) (ht : top ≤ base) (x : Addr) (i : Nat) (e : A = some x) : w'.cell? ⟨x.block, i, none⟩ = w.cell? ⟨x.block, i, none⟩ := by
 subst e; obtain ⟨hs, o⟩ := o; have l := own_lt o.main rfl; exact World.cell?_of_block (a.2 x.block (Nat.le_trans ht l.1) l.2)
theorem bt {w0 w w' : World} (h : Hid (Below w0.heap.size w0 w)) (b : Below w.heap.size w w') : Below w0.heap.size w0 w' := h.out.trans (b.mono h.out.size)
theorem kb {w w' : World} {g t : Nat} {cs : Array Value} (k : Blk w g t cs) (b : Below w.heap.size w w') : Blk w' g t cs := k.below b k.lt
def T2 (w : World) (top : Nat) (h : DH) : Prop := TopR w top h.bA h.bn 2 1 ∧ TopR w top h.tA h.tn 1 0
section
variable {H : Type} {enc : TypeId × Value → H} {P : Program} {w : World} {base : Nat} {spare : Nat → Bool} {held : Bool}
theorem open_slice_fields {t e : TypeId} {fs : Array Field} {fuel : Nat} {cs : List Value} {x : DataW H × List MemPlace} (ht : P.underlying t = some (.slice e)) (he : P.underlying e = some (.struct fs))
 (hone : oneCellFields P fs = true) (hC : P.cellsOf e = fs.size) (h : DataW.trod enc P w base spare held fuel t cs = some x) :
 (cs = [.slice none 0 0] ∧ x = (.nil, [])) ∨
 ∃ (a : Addr) (len cap m : Nat), cs = [.slice (some a) len cap] ∧ len ≤ cap ∧ cap ≤ maxLen ∧ m = (if spare a.block then cap else len) ∧
  ∀ i, i < m → ∃ (n : Nat),
   ∀ (j : Nat) (f : Field), fs[j]? = some f → ∃ (v : Value) (y : DataW H × List MemPlace), w.cell? (a.add (i * fs.size + j)) = some v ∧ DataW.trod enc P w base spare held n f.type [v] = some y := by
 rcases open_slice ht h with h0 | ⟨a, len, cap, m, n, D, Pl, hcs, hb, hl, hm, hmm, hx, hi⟩
 · exact .inl h0
 · refine .inr ⟨a, len, cap, m, hcs, hl, hm, hmm, fun i him => ?_⟩; obtain ⟨cs', hc, ht'⟩ := hi i him; rw [hC] at hc; obtain ⟨ys, n', hn', hy, hlen, hyl, hf⟩ := DataW.trod_struct he ht'; obtain ⟨_, hcl, hat⟩ := World.cells?_some hc; refine ⟨n', fun j f hj => ?_⟩; obtain ⟨ho, hk⟩ := hone_of hone j f hj; have hjl : j < fs.size := (Array.getElem?_eq_some_iff.1 hj).1; have hcell := hat j hjl; have hv : cs'[j]? = some (cs'[j]'(by omega)) := List.getElem?_eq_getElem (by omega); have h1 := hf j f hj; rw [ho, hk] at h1; have hone' : (cs'.drop j).take 1 = [cs'[j]'(by omega)] := by
    rw [List.drop_eq_getElem_cons (by omega)]; rfl
   rw [hone'] at h1; have hys : ys[j]? = some (ys[j]'(by omega)) := List.getElem?_eq_getElem (by omega); refine ⟨_, _, ?_, h1.trans hys⟩; rw [← Go.Deep.add_add, hcell, hv]
end
theorem pick_list {α : Type} (d : α) (P : Nat → α → Prop) : ∀ n : Nat, (∀ i, i < n → ∃ x, P i x) → ∃ xs : List α, xs.length = n ∧ ∀ i, i < n → P i (xs.getD i d)
 | 0, _ => ⟨[], rfl, fun i h => absurd h (Nat.not_lt_zero _)⟩
 | n + 1, h => by
  obtain ⟨xs, hl, hp⟩ := pick_list d P n (fun i hi => h i (by omega)); obtain ⟨x, hx⟩ := h n (by omega); refine ⟨xs ++ [x], by simp [hl], fun i hi => ?_⟩; rw [List.getD_eq_getElem?_getD]; by_cases e : i = n
  · subst e; rw [List.getElem?_append_right (by omega), hl, Nat.sub_self]; exact hx
  · rw [List.getElem?_append_left (by omega), ← List.getD_eq_getElem?_getD]; exact hp i (by omega)
theorem addr_form {W : World} {x : Addr} {v : Value} (h : W.cell? (x.add 0) = some v) : ∃ b off, x = ⟨b, off, none⟩ ∧ b < W.heap.size := by
 obtain ⟨b, off, spot⟩ := x; have hspot : spot = none := by simpa [Addr.add] using World.cell?_spot h
 subst hspot; rw [add_none] at h; exact ⟨b, off, rfl, block_lt_of_cell h⟩
section
variable {H : Type} {enc : TypeId × Value → H} {W : World} {fuel : Nat} {x : DataW H × List MemPlace}
theorem trodPages {v : Value} (h : DataW.trod enc Tryz.prog W 0 (fun _ => true) true fuel 133 [v] = some x) : ∃ A n c ps, v = .slice A n c ∧ n ≤ c ∧ c ≤ maxLen ∧ RdG W W.heap.size A n ps := by
 rcases open_slice_fields Tryz.underlying133 Tryz.underlying186 (by kernel_rfl) (by kernel_rfl) h with ⟨hcs, _⟩ | ⟨a, len, cap, m, hcs, hl, hm, hmm, hi⟩
 · injection hcs with hcs _; exact ⟨none, 0, 0, [], hcs, Nat.le_refl _, by decide, rfl, fun h => absurd h (Nat.lt_irrefl _)⟩
 · injection hcs with hcs _; simp only [if_true] at hmm; subst hmm; have key : ∀ i, i < len → ∃ p : PageV, W.cell? (a.add (i * 5)) = some (.bool p.full) ∧ W.cell? (a.add (i * 5 + 1)) = some (.int .i64 p.file) ∧ W.cell? (a.add (i * 5 + 2)) = some (.int .i64 p.place) ∧ W.cell? (a.add (i * 5 + 3)) = some (.int .i64 p.value) ∧ W.cell? (a.add (i * 5 + 4)) = some (.int .i64 p.stamp) := by
    intro i hil
    obtain ⟨n, hf⟩ := hi i (by omega); obtain ⟨v0, y0, c0, t0⟩ := hf 0 _ rfl; obtain ⟨v1, y1, c1, t1⟩ := hf 1 _ rfl; obtain ⟨v2, y2, c2, t2⟩ := hf 2 _ rfl; obtain ⟨v3, y3, c3, t3⟩ := hf 3 _ rfl; obtain ⟨v4, y4, c4, t4⟩ := hf 4 _ rfl; obtain ⟨b, e0, _⟩ := DataW.trod_bool (P := Tryz.prog) (t := 4) Tryz.underlying4 t0; obtain ⟨n1, e1, _, _⟩ := DataW.trod_int (P := Tryz.prog) (t := 3) Tryz.underlying3 t1; obtain ⟨n2, e2, _, _⟩ := DataW.trod_int (P := Tryz.prog) (t := 3) Tryz.underlying3 t2; obtain ⟨n3, e3, _, _⟩ := DataW.trod_int (P := Tryz.prog) (t := 3) Tryz.underlying3 t3; obtain ⟨n4, e4, _, _⟩ := DataW.trod_int (P := Tryz.prog) (t := 3) Tryz.underlying3 t4; injection e0 with e0 _; injection e1 with e1 _; injection e2 with e2 _; injection e3 with e3 _; injection e4 with e4 _; subst e0 e1 e2 e3 e4; exact ⟨⟨b, n1, n2, n3, n4⟩, c0, c1, c2, c3, c4⟩
   obtain ⟨ps, hpl, hp⟩ := pick_list noPage _ len key; refine ⟨_, _, _, ps, hcs, hl, hm, hpl, fun hn => ?_⟩; obtain ⟨b, off, rfl, hb⟩ := addr_form (by simpa using (hp 0 hn).1); refine ⟨b, off, rfl, hb, fun i hil => ?_⟩; have := hp i hil; simp only [add_none, ← Nat.add_assoc] at this; exact this
theorem trodBlocks {v : Value} (h : DataW.trod enc Tryz.prog W 0 (fun _ => true) true fuel 40 [v] = some x) : ∃ A n c bs, v = .slice A n c ∧ n ≤ c ∧ c ≤ maxLen ∧ RdB W W.heap.size A n bs := by
 rcases open_slice_fields Tryz.underlying40 Tryz.underlying135 (by kernel_rfl) (by kernel_rfl) h with ⟨hcs, _⟩ | ⟨a, len, cap, m, hcs, hl, hm, hmm, hi⟩
 · injection hcs with hcs _; exact ⟨none, 0, 0, [], hcs, Nat.le_refl _, by decide, rfl, fun h => absurd h (Nat.lt_irrefl _)⟩
 · injection hcs with hcs _; simp only [if_true] at hmm; subst hmm; have key : ∀ i, i < len → ∃ b : BlockV, ∃ A' n' c', W.cell? (a.add (i * 2)) = some (.int .i64 b.wear) ∧ W.cell? (a.add (i * 2 + 1)) = some (.slice A' n' c') ∧ n' ≤ c' ∧ c' ≤ 9223372036854775807 ∧ RdG W W.heap.size A' n' b.pages := by
    intro i hil
    obtain ⟨n, hf⟩ := hi i (by omega); obtain ⟨v0, y0, c0, t0⟩ := hf 0 _ rfl; obtain ⟨v1, y1, c1, t1⟩ := hf 1 _ rfl; obtain ⟨n0, e0, _, _⟩ := DataW.trod_int (P := Tryz.prog) (t := 3) Tryz.underlying3 t0; obtain ⟨A', n', c', ps, rfl, h1, h2, h3⟩ := trodPages t1; injection e0 with e0 _; subst e0; exact ⟨⟨n0, ps⟩, A', n', c', c0, c1, h1, by unfold maxLen at h2; omega, h3⟩
   obtain ⟨bs, hpl, hp⟩ := pick_list noBlock _ len key; refine ⟨_, _, _, bs, hcs, hl, hm, hpl, fun hn => ?_⟩; obtain ⟨_, _, _, h0, _⟩ := hp 0 hn; obtain ⟨b, off, rfl, hb⟩ := addr_form (by simpa using h0); refine ⟨b, off, rfl, hb, fun i hil => ?_⟩; obtain ⟨A', n', c', h0, h1, h2⟩ := hp i hil; rw [add_none] at h0 h1; exact ⟨A', n', c', h0, by rw [Nat.add_assoc]; exact h1, h2⟩
end
section
variable {H : Type} {enc : TypeId × Value → H} {P : Program} {w : World} {base : Nat} {spare : Nat → Bool} {held : Bool}
theorem open_fields {t : TypeId} {fs : Array Field} {fuel : Nat} {cs : List Value} {x : DataW H × List MemPlace} (ht : P.underlying t = some (.struct fs)) (h : DataW.trod enc P w base spare held fuel t cs = some x) :
 cs.length = P.cellsOf t ∧ ∃ n : Nat, ∀ (i : Nat) (f : Field) (k : Nat), fs[i]? = some f → P.cellsOf f.type = k → ∃ y, DataW.trod enc P w base spare held n f.type ((cs.drop f.offset).take k) = some y := by
 obtain ⟨xs, n, hn, hx, hlen, hxl, hf⟩ := DataW.trod_struct ht h; refine ⟨hlen, n, fun i f k hi hk => ?_⟩; have h1 := hf i f hi; have hil : i < fs.size := (Array.getElem?_eq_some_iff.1 hi).1; rw [hk] at h1; exact ⟨_, h1.trans (List.getElem?_eq_getElem (by omega))⟩
end
section
variable {H : Type} {enc : TypeId × Value → H} {W : World} {fuel : Nat} {x : DataW H × List MemPlace}
theorem trodInts {v : Value} (h : DataW.trod enc Tryz.prog W 0 (fun _ => true) true fuel 57 [v] = some x) : ∃ A n c xs, v = .slice A n c ∧ n ≤ c ∧ c ≤ maxLen ∧ RdI .i64 W W.heap.size A n xs := by
 rcases open_ints Tryz.underlying57 Tryz.underlying3 (by kernel_rfl) h with ⟨hcs, _⟩ | ⟨a, len, cap, zs, hcs, _, hl, hm, hz, _, hcell, _⟩
 · injection hcs with hcs _; exact ⟨none, 0, 0, [], hcs, Nat.le_refl _, by decide, rfl, fun h => absurd h (Nat.lt_irrefl _)⟩
 · injection hcs with hcs _; simp only [if_true] at hz; refine ⟨_, _, _, zs.take len, hcs, hl, hm, by simp; omega, fun hn => ?_⟩; obtain ⟨b, off, rfl, hb⟩ := addr_form (hcell 0 (by omega)); refine ⟨b, off, rfl, hb, fun i hil => ?_⟩; have := hcell i (by omega); rw [add_none] at this; rw [this, List.getD_eq_getElem?_getD, List.getD_eq_getElem?_getD, List.getElem?_take_of_lt hil]
theorem trodIntSS {v : Value} (h : DataW.trod enc Tryz.prog W 0 (fun _ => true) true fuel 24 [v] = some x) : ∃ A n c ts, v = .slice A n c ∧ n ≤ c ∧ c ≤ maxLen ∧ RdT W W.heap.size A n ts := by
 rcases open_slice Tryz.underlying24 h with ⟨hcs, _⟩ | ⟨a, len, cap, m, n, D, Pl, hcs, _, hl, hm, hmm, _, hi⟩
 · injection hcs with hcs _; exact ⟨none, 0, 0, [], hcs, Nat.le_refl _, by decide, rfl, fun h => absurd h (Nat.lt_irrefl _)⟩
 · injection hcs with hcs _; simp only [if_true] at hmm; subst hmm; have key : ∀ i, i < len → ∃ r : List Int, ∃ A' n' c', W.cell? (a.add i) = some (.slice A' n' c') ∧ n' ≤ c' ∧ c' ≤ 9223372036854775807 ∧ RdI .i64 W W.heap.size A' n' r := by
    intro i hil
    obtain ⟨cs', hc, ht⟩ := hi i (by omega); rw [show Tryz.prog.cellsOf 57 = 1 by kernel_rfl, Nat.mul_one] at hc; obtain ⟨_, hcl, hat⟩ := World.cells?_some hc; obtain ⟨v, rfl⟩ : ∃ v, cs' = [v] := by
     match cs', hcl with
     | [v], _ => exact ⟨v, rfl⟩
    have hcell := hat 0 (by simp); obtain ⟨A', n', c', xs, rfl, h1, h2, h3⟩ := trodInts ht; refine ⟨xs, A', n', c', ?_, h1, by unfold maxLen at h2; omega, h3⟩; rw [Go.Deep.add_add, Nat.add_zero] at hcell; exact hcell
   obtain ⟨ts, hpl, hp⟩ := pick_list [] _ len key; refine ⟨_, _, _, ts, hcs, hl, hm, hpl, fun hn => ?_⟩; obtain ⟨_, _, _, h0, _⟩ := hp 0 hn; obtain ⟨b, off, rfl, hb⟩ := addr_form h0; refine ⟨b, off, rfl, hb, fun i hil => ?_⟩; obtain ⟨A', n', c', h0, h2⟩ := hp i hil; rw [add_none] at h0; exact ⟨A', n', c', h0, h2⟩
theorem trodNames {v : Value} (h : DataW.trod enc Tryz.prog W 0 (fun _ => true) true fuel 43 [v] = some x) : ∃ A n c ns, v = .slice A n c ∧ n ≤ c ∧ c ≤ maxLen ∧ RdN W W.heap.size A n ns ∧ LimN ns n := by
 rcases open_slice_fields Tryz.underlying43 Tryz.underlying138 (by kernel_rfl) (by kernel_rfl) h with ⟨hcs, _⟩ | ⟨a, len, cap, m, hcs, hl, hm, hmm, hi⟩
 · injection hcs with hcs _; exact ⟨none, 0, 0, [], hcs, Nat.le_refl _, by decide, ⟨rfl, fun h => absurd h (Nat.lt_irrefl _)⟩, fun i h => absurd h (Nat.not_lt_zero _)⟩
 · injection hcs with hcs _; simp only [if_true] at hmm; subst hmm; have key : ∀ i, i < len → ∃ p : NameV, W.cell? (a.add (i * 2)) = some (.string p.1) ∧ W.cell? (a.add (i * 2 + 1)) = some (.int .i64 p.2) ∧ p.1.size ≤ 9223372036854775807 := by
    intro i hil
    obtain ⟨n, hf⟩ := hi i (by omega); obtain ⟨v0, y0, c0, t0⟩ := hf 0 _ rfl; obtain ⟨v1, y1, c1, t1⟩ := hf 1 _ rfl; obtain ⟨s, e0, _, hs⟩ := DataW.trod_string (P := Tryz.prog) (t := 9) Tryz.underlying9 t0; obtain ⟨n1, e1, _, _⟩ := DataW.trod_int (P := Tryz.prog) (t := 3) Tryz.underlying3 t1; injection e0 with e0 _; injection e1 with e1 _; subst e0 e1; exact ⟨(s, n1), c0, c1, by unfold maxLen at hs; simp only; omega⟩
   obtain ⟨ns, hpl, hp⟩ := pick_list noName _ len key; refine ⟨_, _, _, ns, hcs, hl, hm, ⟨hpl, fun hn => ?_⟩, fun i hil => (hp i hil).2.2⟩; obtain ⟨b, off, rfl, hb⟩ := addr_form (by simpa using (hp 0 hn).1); refine ⟨b, off, rfl, hb, fun i hil => ?_⟩; have := hp i hil; simp only [add_none, ← Nat.add_assoc] at this; exact ⟨this.1, this.2.1⟩
end
structure OpenDisk (w : World) (z : DH × DiskV) : Prop where
 rd : RdD w w.heap.size z.1 z.2
 lim : LimD z.1 z.2
set_option maxRecDepth 8000 in
theorem openArg_Disk {b0 : Nat} {H : Type} {enc : TypeId × Value → H} {W : World} {v : Value} {d : DataW H} {p : List MemPlace} (hv : Value.okWide Tryz.prog W .any b0 45 v)
 (h : DataW.Trod enc Tryz.prog W 0 (fun _ => true) true 45 v d p) (lt : ∀ x ∈ p, x.block < W.heap.size) : ∃ z : DH × DiskV, v = dkv z.1 z.2 ∧ OpenDisk W z := by
 obtain ⟨cs, rfl, hsz⟩ := okWide_struct Tryz.underlying45 hv; obtain ⟨fuel, hf⟩ := h; rw [show Tryz.prog.cellsOf 45 = 7 by kernel_rfl] at hsz; obtain ⟨c0, c1, c2, c3, c4, c5, c6, rfl⟩ : ∃ c0 c1 c2 c3 c4 c5 c6, cs = #[c0, c1, c2, c3, c4, c5, c6] := by
  obtain ⟨l⟩ := cs; match l, hsz with
  | [c0, c1, c2, c3, c4, c5, c6], _ => exact ⟨c0, c1, c2, c3, c4, c5, c6, rfl⟩
 have hf' : DataW.trod enc Tryz.prog W 0 (fun _ => true) true fuel 45 [c0, c1, c2, c3, c4, c5, c6] = some (d, p) := hf; obtain ⟨_, n, hn⟩ := open_fields Tryz.underlying45 hf'; obtain ⟨y0, f0⟩ := hn 0 _ 1 rfl (by kernel_rfl); obtain ⟨y1, f1⟩ := hn 1 _ 1 rfl (by kernel_rfl); obtain ⟨y2, f2⟩ := hn 2 _ 3 rfl (by kernel_rfl); obtain ⟨y3, f3⟩ := hn 3 _ 1 rfl (by kernel_rfl); obtain ⟨y4, f4⟩ := hn 4 _ 1 rfl (by kernel_rfl); replace f0 : DataW.trod enc Tryz.prog W 0 (fun _ => true) true n 40 [c0] = some y0 := f0; replace f1 : DataW.trod enc Tryz.prog W 0 (fun _ => true) true n 41 [c1] = some y1 := f1; replace f2 : DataW.trod enc Tryz.prog W 0 (fun _ => true) true n 42 [c2, c3, c4] = some y2 := f2; replace f3 : DataW.trod enc Tryz.prog W 0 (fun _ => true) true n 3 [c5] = some y3 := f3; replace f4 : DataW.trod enc Tryz.prog W 0 (fun _ => true) true n 43 [c6] = some y4 := f4; obtain ⟨_, n1, hn1⟩ := open_fields Tryz.underlying41 f1; obtain ⟨y5, f5⟩ := hn1 0 _ 1 rfl (by kernel_rfl); replace f5 : DataW.trod enc Tryz.prog W 0 (fun _ => true) true n1 24 [c1] = some y5 := f5; obtain ⟨_, n2, hn2⟩ := open_fields Tryz.underlying42 f2; obtain ⟨y6, f6⟩ := hn2 0 _ 1 rfl (by kernel_rfl); obtain ⟨y7, f7⟩ := hn2 1 _ 1 rfl (by kernel_rfl); obtain ⟨y8, f8⟩ := hn2 2 _ 1 rfl (by kernel_rfl); replace f6 : DataW.trod enc Tryz.prog W 0 (fun _ => true) true n2 3 [c2] = some y6 := f6; replace f7 : DataW.trod enc Tryz.prog W 0 (fun _ => true) true n2 3 [c3] = some y7 := f7; replace f8 : DataW.trod enc Tryz.prog W 0 (fun _ => true) true n2 3 [c4] = some y8 := f8
 obtain ⟨bA, bn, bc, bs, rfl, b1, b2, b3⟩ := trodBlocks f0; obtain ⟨tA, tn, tc, ts, rfl, t1, t2, t3⟩ := trodIntSS f5; obtain ⟨nA, nn, nc, ns, rfl, n1, n2, n3, n4⟩ := trodNames f4; obtain ⟨x, e2, _, _⟩ := DataW.trod_int (P := Tryz.prog) (t := 3) Tryz.underlying3 f6; obtain ⟨y, e3, _, _⟩ := DataW.trod_int (P := Tryz.prog) (t := 3) Tryz.underlying3 f7; obtain ⟨z, e4, _, _⟩ := DataW.trod_int (P := Tryz.prog) (t := 3) Tryz.underlying3 f8; obtain ⟨st, e5, _, _⟩ := DataW.trod_int (P := Tryz.prog) (t := 3) Tryz.underlying3 f3; injection e2 with e2 _; injection e3 with e3 _; injection e4 with e4 _; injection e5 with e5 _; subst e2 e3 e4 e5; unfold maxLen at *; exact ⟨(⟨bA, bn, bc, tA, tn, tc, nA, nn, nc⟩, ⟨bs, ts, x, y, z, st, ns⟩), rfl, ⟨b3, t3, n3⟩, ⟨by simp only; omega, by simp only; omega, by simp only; omega, n4⟩⟩
abbrev noTxt : ByteArray := ByteArray.empty
structure RdS (w : World) (B : Nat) (A : Option Addr) (n : Nat) (ss : List ByteArray) : Prop where
 len : ss.length = n
 at_ : 0 < n → ∃ b off, A = some ⟨b, off, none⟩ ∧ b < B ∧ ∀ i, i < n → w.cell? ⟨b, off + i, none⟩ = some (.string (ss.getD i noTxt))
theorem RdS.mono {w B B' A n xs} (h : RdS w B A n xs) (hB : B ≤ B') : RdS w B' A n xs :=
 ⟨h.len, fun hn => by obtain ⟨b, off, e, hb, hc⟩ := h.at_ hn; exact ⟨b, off, e, by omega, hc⟩⟩
theorem RdS.below {w w' B A n xs} (h : RdS w B A n xs) (hb : Below B w w') : RdS w' B A n xs :=
 ⟨h.len, fun hn => by obtain ⟨b, off, e, hb1, hc⟩ := h.at_ hn; exact ⟨b, off, e, hb1, fun i hi => (hb.cell hb1).trans (hc i hi)⟩⟩
theorem RdS.drew {w B A n xs} (h : RdS w B A n xs) : RdS w.drew B A n xs := ⟨h.len, h.at_⟩
def OwS (w : World) (base : Nat) (A : Option Addr) (n c : Nat) (ss : List ByteArray) : Prop := w.ownsRow base 9 1 (.slice A n c) n (ss.map Value.string)
theorem OwS.len {w base A n c ss} (h : OwS w base A n c ss) : ss.length = n := by have := h.1; simpa using this
theorem OwS.below {w w' base A n c ss} (h : OwS w base A n c ss) (hb : Below w.heap.size w w') : OwS w' base A n c ss := own_below h hb
theorem OwS.lower {w base base' A n c ss} (h : OwS w base A n c ss) (hb : base' ≤ base) : OwS w base' A n c ss := own_lower h hb
theorem OwS.typed {ts : List Nat} {w w' base A n c ss} (h : OwS w base A n c ss) (hc : ChgT ts w w') (h1 : 9 ∉ ts) : OwS w' base A n c ss := own_typed h hc h1
theorem OwS.abv {w w' : World} {top base A n c ss} (o : OwS w base A n c ss) (a : Abv top w w') (ht : top ≤ base) : OwS w' base A n c ss := own_abv o a ht
theorem OwS.cap {w base A n c ss} (h : OwS w base A n c ss) : n ≤ c ∧ c ≤ 9223372036854775807 := own_cap h
theorem OwS.nil (w : World) (base : Nat) : OwS w base none 0 0 [] := World.ownsRow_nil _ _ _ _
theorem OwS.form {w base A n c ss} (h : OwS w base A n c ss) (hn : 0 < n) : ∃ g, A = some ⟨g, 0, none⟩ ∧ base ≤ g ∧ g < w.heap.size := own_form h hn
theorem OwS.cells {w base g n c ss} (h : OwS w base (some ⟨g, 0, none⟩) n c ss) (i : Nat) (hi : i < n) : w.cell? ⟨g, i, none⟩ = some (.string (ss.getD i noTxt)) ∧ w.frozen? ⟨g, i, none⟩ = false :=
 ⟨own_strCell h i (by rw [h.len]; exact hi), World.ownsRow.frozenAt h (g := g) (cap := c) _⟩
theorem OwS.rd {w base A n c ss} (h : OwS w base A n c ss) : RdS w w.heap.size A n ss := by
 refine ⟨h.len, fun hn => ?_⟩; obtain ⟨g, rfl, hg1, hg2⟩ := h.form hn; exact ⟨g, 0, rfl, hg2, fun i hi => by rw [Nat.zero_add]; exact (h.cells i hi).1⟩
theorem OwS.lt {w base A n c ss} (h : OwS w base A n c ss) : ∀ a, A = some a → a.block < w.heap.size := by
 intro a e
 subst e; exact (own_lt h rfl).2
theorem OwS.put {w : World} {base g n c : Nat} {ss : List ByteArray} (h : OwS w base (some ⟨g, 0, none⟩) n c ss) (i : Nat) (x : ByteArray) :
 OwS (w.setCell ⟨g, i, none⟩ (.string x)) base (some ⟨g, 0, none⟩) n c (ss.set i x) ∧ w.grownBy (w.setCell ⟨g, i, none⟩ (.string x)) (some g) := by
 obtain ⟨o, q⟩ := World.ownsRow.stored h (g := g) (cap := c) i (.string x); rw [← List.map_set] at o; exact ⟨o, q⟩
theorem OwD.capN {w : World} {base : Nat} {h : DH} {d : DiskV} (o : OwD w base h d) : CapN h := by
 obtain ⟨bA, bn, bc, tA, tn, tc, nA, nn, nc⟩ := h; exact ⟨o.n.cap.1, o.n.cap.2, OwN.capN o.n⟩
end Go.Proofs.YtefdjahaimnndaaGreatDoor
