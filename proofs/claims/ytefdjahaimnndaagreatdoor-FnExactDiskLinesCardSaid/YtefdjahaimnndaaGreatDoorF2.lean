/- Parts. -/
import Derived.Test.YtefdjahaimnndaaGreatDoorF1
import Derived.Test.YtefdjahaimnndaaGreatDoorC18
namespace Go.Proofs.YtefdjahaimnndaaGreatDoor
open Go.ChangeShapes Go.WideShapes Go.ChangeAt Go.RowKit Go.Deep
open Go.Lib (hid)
set_option linter.unusedVariables false
set_option linter.unusedSimpArgs false
def LimN (ns : List NameV) (n : Nat) : Prop := ∀ i, i < n → (ns.getD i noName).1.size ≤ 9223372036854775807
theorem szName_c {s : ByteArray} {f left : Int} {w : World} (h0 : 0 ≤ left) (h1 : left ≤ 1048576) (hm : s.size ≤ 9223372036854775807) :
 Calls Tryz.prog 104 #[.agg #[.string s, .int .i64 f], .int .i64 left] w fun e w' => SzOk left ((s.size : Int) ≤ left) e ∧ Below w.heap.size w w' := by
 by_cases h : (s.size : Int) ≤ left
 · go_enter Tryz.func104, Tryz.ntmps104
   go_wp2; go_ret
   exact ⟨⟨_, rfl, by omega, by omega, fun _ => h⟩, (Below.refl _ _).alloc (Nat.le_refl _) _⟩
 · go_enter Tryz.func104, Tryz.ntmps104
   go_wp2; go_ret
   exact ⟨⟨_, rfl, by omega, by omega, fun h => by omega⟩, (Below.refl _ _).alloc (Nat.le_refl _) _⟩
theorem szNameS_c {A : Option Addr} {n c B : Nat} {ns : List NameV} {left : Int} {w : World} (hr : RdN w B A n ns) (hB : B ≤ w.heap.size) (h0 : 0 ≤ left) (h1 : left ≤ 1048576) (hm : n ≤ 9223372036854775807) (hlim : LimN ns n) :
 Calls Tryz.prog 47 #[.slice A n c, .int .i64 left] w fun e w' => SzOk left ((n : Int) ≤ left ∧ SmallN ns n left) e ∧ Below w.heap.size w w' := by
 have HLM := hid hlim; clear hlim; by_cases h : (n : Int) ≤ left
 · go_enter Tryz.func47, Tryz.ntmps47
   go_wp2; go_loopw [1, 5] (fun s i wr => ∃ (k : Nat) (l : Int), k ≤ n ∧ i = .int .i64 k ∧ s = .int .i64 l ∧ 0 ≤ l ∧ l ≤ left ∧ SmallN ns k left ∧ Below w.heap.size w wr) (fun _ i _ => n - (intOf i).toNat)
   case atStart => exact ⟨0, left - n, Nat.zero_le _, rfl, rfl, by omega, by omega, fun i hi => absurd hi (Nat.not_lt_zero _), Below.refl _ _⟩
   case round =>
    obtain ⟨k, l, hk, rfl, rfl, hl0, hl1, hsm, hbl⟩ := hrel; have HS := hid hsm; have HB := hid hbl; by_cases hlt : k < n
    · obtain ⟨b, off, rfl, hbB, hc⟩ := hr.at_ (by omega); obtain ⟨e0, e1⟩ := hc k hlt; have hbs : b < w.heap.size := by omega
      replace e0 := (hbl.cell (p := ⟨b, off + k * 2, none⟩) hbs).trans e0; replace e1 := (hbl.cell (p := ⟨b, off + k * 2 + 1, none⟩) hbs).trans e1; have hlk := HLM.out k hlt; obtain ⟨P, hP⟩ : ∃ P, ns.getD k noName = P := ⟨_, rfl⟩; rw [hP] at e0 e1 hlk; have HP := hid hP; obtain ⟨s, f⟩ := P; simp only at e0 e1 hlk; clear hc hr hsm hbl hP; go_wp2_with fail; refine (szName_c hl0 (by omega) hlk).mono ?_; rintro e w2 ⟨⟨r, rfl, r1, r2, r3⟩, hb2⟩; have HR := hid r3; have HB2 := hid (HB.out.trans (hb2.mono HB.out.size)); clear r3 hb2 e0 e1; by_cases hneg : r < 0
      · go_wp2; go_ret
        exact ⟨⟨_, rfl, by omega, by omega, fun h => by omega⟩, HB2.out⟩
      · have HS2 := hid (show SmallN ns (k + 1) left from fun i hi => by
         by_cases e : i = k
         · subst e; rw [HP.out]; have := HR.out (by omega); simp only; omega
         · exact HS.out i (by omega))
        go_wp2; go_roundw
        case rel => exact ⟨k + 1, r, by omega, by go_num, rfl, by omega, by omega, HS2.out, HB2.out⟩
        case measure => simp [intOf]; omega
    · obtain rfl : k = n := by omega
      clear hsm hbl; go_wp2; go_ret; exact ⟨⟨_, rfl, by omega, hl1, fun _ => by first | exact ⟨h, HS.out⟩ | exact HS.out⟩, HB.out⟩
 · go_enter Tryz.func47, Tryz.ntmps47
   go_wp2; go_ret
   exact ⟨⟨_, rfl, by omega, by omega, fun h => by omega⟩, Below.refl _ _⟩
theorem toName_c (s : ByteArray) (f : Int) (w : World) :
 Calls Tryz.prog 118 #[.agg #[.string s, .int .i64 f]] w fun e w' => e = .returned (.agg #[.string s, .int .i64 f]) ∧ Below w.heap.size w w' := by
 go_enter Tryz.func118, Tryz.ntmps118
 go_wp2; go_returns
 exact ⟨rfl, (((Below.refl _ _).alloc (Nat.le_refl _) _).alloc (by simp) _).alloc (by simp; omega) _⟩
theorem toNameS_c {A : Option Addr} {c B : Nat} {ns : List NameV} {w : World} (hr : RdN w B A ns.length ns) (hB : B ≤ w.heap.size) (hn : ns.length ≤ 1048576) :
 Calls Tryz.prog 64 #[.slice A ns.length c] w fun e w' => ∃ A' c', e = .returned (.slice A' ns.length c') ∧ OwN w' w.heap.size A' ns.length c' ns ∧ Below w.heap.size w w' := by
 have hmk := makeName ns.length hn; have hst := hid (own_madeNames w w.heap.size ns.length ns rfl (Nat.le_refl _) hn); generalize hl : ns.length = n at *; have HL := hid hl; clear hl; go_enter Tryz.func64, Tryz.ntmps64
 go_wp2; go_loopw [4] (fun i wr => ∃ k : Nat, k ≤ n ∧ i = .int .i64 k ∧ OwN wr w.heap.size (some ⟨w.heap.size, 0, none⟩) n n (fillTo noName ns k) ∧ Below w.heap.size w wr) (fun i _ => n - (intOf i).toNat)
 case atStart => exact ⟨0, Nat.zero_le _, rfl, hst.out, (Below.refl _ _).alloc (Nat.le_refl _) _⟩
 case round =>
  obtain ⟨k, hk, rfl, hown, hbel⟩ := hrel; by_cases hlt : k < n
  · obtain ⟨b, off, rfl, hbB, hc⟩ := hr.at_ (by omega); obtain ⟨c0, c1⟩ := hc k hlt; have hbs : b < w.heap.size := by omega
    replace c0 := (hbel.cell (p := ⟨b, off + k * 2, none⟩) hbs).trans c0; replace c1 := (hbel.cell (p := ⟨b, off + k * 2 + 1, none⟩) hbs).trans c1; have hfs := fillTo_set noName ns (k := k) (by have := HL.out; omega); generalize ns.getD k noName = P at *; obtain ⟨s, f⟩ := P; simp only at c0 c1; have HF := hid hfs; have HO := hid hown; have HB := hid hbel; clear hc hr hfs hown hbel hmk; go_wp2_with fail; refine (toName_c s f _).mono ?_; rintro e w2 ⟨rfl, hb2⟩; have ho2 := HO.out.below hb2; have HB2 := hid (HB.out.trans (hb2.mono HB.out.size)); obtain ⟨f0, f1, z0, z1⟩ := ho2.cells k hlt; have hput := (ho2.put k hlt (s, f)).1; rw [HF.out] at hput; have HP := hid hput; generalize (fillTo noName ns k).getD k noName = Q at *; clear ho2 hb2 hput c0 c1; go_wp2_with fail; go_roundw
    case rel => exact ⟨k + 1, by omega, by go_num, HP.out, (HB2.out.setCell (p := ⟨w.heap.size, k * 2, none⟩) (Nat.le_refl _) _).setCell (p := ⟨w.heap.size, k * 2 + 1, none⟩) (Nat.le_refl _) _⟩
    case measure => simp [intOf]; omega
  · obtain rfl : k = n := by omega
    have how : OwN wr w.heap.size (some ⟨w.heap.size, 0, none⟩) k k ns := by rw [← HL.out, fillTo_all, HL.out] at hown; exact hown
    have HO := hid how; clear hmk hown how; go_wp2; go_ret; exact ⟨_, _, rfl, HO.out, hbel⟩
theorem eqName_same (s : ByteArray) (f : Int) (w : World) :
 Calls Tryz.prog 135 #[.agg #[.string s, .int .i64 f], .agg #[.string s, .int .i64 f]] w fun e w' => e = .returned (.bool true) ∧ Below w.heap.size w w' := by
 go_enter Tryz.func135, Tryz.ntmps135
 go_wp2; go_ret
 exact ⟨rfl, ((Below.refl _ _).alloc (Nat.le_refl _) _).alloc (by simp) _⟩
theorem eqNameS_same {A A' : Option Addr} {n c c' B B' : Nat} {ns : List NameV} {w : World} (hr : RdN w B A n ns) (hr' : RdN w B' A' n ns) (hn : n ≤ 9000000000000) :
 Calls Tryz.prog 74 #[.slice A n c, .slice A' n c'] w fun e w' => e = .returned (.bool true) ∧ Below w.heap.size w w' := by
 go_enter Tryz.func74, Tryz.ntmps74
 go_wp2; go_loopw [5] (fun i wr => ∃ k : Nat, k ≤ n ∧ i = .int .i64 k ∧ Below w.heap.size w wr) (fun i _ => n - (intOf i).toNat)
 case atStart => exact ⟨0, Nat.zero_le _, rfl, Below.refl _ _⟩
 case round =>
  obtain ⟨k, hk, rfl, hbel⟩ := hrel; by_cases hlt : k < n
  · obtain ⟨b, off, rfl, hbB, hc⟩ := hr.at_ (by omega); obtain ⟨b', off', rfl, hbB', hc'⟩ := hr'.at_ (by omega); obtain ⟨c0, c1⟩ := hc k hlt; obtain ⟨d0, d1⟩ := hc' k hlt; have l0 := block_lt_of_cell c0; have l1 := block_lt_of_cell d0; replace c0 := (hbel.cell (p := ⟨b, off + k * 2, none⟩) l0).trans c0; replace c1 := (hbel.cell (p := ⟨b, off + k * 2 + 1, none⟩) l0).trans c1; replace d0 := (hbel.cell (p := ⟨b', off' + k * 2, none⟩) l1).trans d0; replace d1 := (hbel.cell (p := ⟨b', off' + k * 2 + 1, none⟩) l1).trans d1; generalize ns.getD k noName = P at *; obtain ⟨s, f⟩ := P; have HB := hid hbel; clear hc hr hc' hr' hbel; go_wp2_with fail; go_region_with (go_at_call 135; refine (eqName_same s f _).mono ?_; rintro e w2 ⟨rfl, hb2⟩)
    all_goals
     go_wp2_with fail; go_roundw
     case rel => exact ⟨k + 1, by omega, by go_num, HB.out.drew.trans (hb2.mono HB.out.size)⟩
     case measure => simp [intOf]; omega
  · have hkn : k = n := by omega
    subst hkn; go_wp2; go_ret; exact ⟨rfl, hbel⟩
theorem ret_str {a b : ByteArray} (h : a = b) : Ending.returned (.string a) = .returned (.string b) := by rw [h]
theorem strOne (x : Int) : (strOfNums [x]).size = 1 := by simp [strOfNums, ByteArray.size]
theorem pow_size {q s : Nat} (hq : 1 ≤ q) (h : q * 10 ^ s ≤ 1000000000000000) : s ≤ 15 := by
 rcases Nat.lt_or_ge s 16 with h1 | h1
 · omega
 · have h2 : 10 ^ 16 ≤ 10 ^ s := Nat.pow_le_pow_right (by omega) h1; have h3 : 10 ^ s ≤ q * 10 ^ s := Nat.le_mul_of_pos_left _ (by omega); have h4 : (10 : Nat) ^ 16 = 10000000000000000 := by decide
   omega
theorem pow_step {q s : Nat} (h : q * 10 ^ s ≤ 1000000000000000) : q / 10 * 10 ^ (1 + s) ≤ 1000000000000000 := by
 have e : q / 10 * 10 ^ (1 + s) = (q / 10 * 10) * 10 ^ s := by rw [Nat.pow_add, Nat.pow_one, Nat.mul_assoc]
 have h2 : q / 10 * 10 ≤ q := by omega
 rw [e]; exact Nat.le_trans (Nat.mul_le_mul_right _ h2) h
theorem markText_c (k : Int) (w : World) (h1 : k ≤ 1000000000000000) :
 Calls Tryz.prog 81 #[.int .i64 k] w fun e w' => e = .returned (.string (mt k)) ∧ Below w.heap.size w w' := by
 by_cases h : k ≤ 0
 · have HM := hid (show mt k = ⟨#[109, 48]⟩ by unfold mt; rw [if_pos h]); go_enter Tryz.func81, Tryz.ntmps81
   go_wp2; go_ret
   exact ⟨ret_str HM.out.symm, Below.refl _ _⟩
 · obtain ⟨n, rfl⟩ := Int.eq_ofNat_of_zero_le (show 0 ≤ k by omega); have HM := hid (show mt (n : Int) = (⟨#[109]⟩ : ByteArray) ++ mtGo n noStr by unfold mt; rw [if_neg h]; rfl); go_enter Tryz.func81, Tryz.ntmps81
   go_wp2; go_loopw [0, 3] (fun kk o wr => ∃ (q : Nat) (s : ByteArray), q ≤ 1000000000000000 ∧ kk = .int .i64 q ∧ o = .string s ∧ mtGo q s = mtGo n noStr ∧ q * 10 ^ s.size ≤ 1000000000000000 ∧ s.size ≤ 16 ∧ Below w.heap.size w wr) (fun kk _ _ => (intOf kk).toNat)
   case atStart => exact ⟨n, noStr, by omega, rfl, rfl, rfl, by show n * 10 ^ 0 ≤ _; omega, by show 0 ≤ 16; omega, Below.refl _ _⟩
   case round =>
    obtain ⟨q, s, hq, rfl, rfl, hmq, hpw, hs16, hbl⟩ := hrel; have HMQ := hid hmq; have HB := hid hbl; have HPW := hid hpw; clear hmq hpw; by_cases h0 : q = 0
    · subst h0; have hz : mtGo 0 s = s := by rw [mtGo]; rfl
      rw [hz] at HMQ; have hone : (⟨#[109]⟩ : ByteArray).size = 1 := rfl; clear hz; go_wp2; go_ret; exact ⟨ret_str (by rw [HM.out, ← HMQ.out]), HB.out⟩
    · have hq1 : (1 : Int) ≤ q := by omega
      have hs15 : s.size ≤ 15 := pow_size (by omega) HPW.out; have HN := hid (show mtGo q s = mtGo (q / 10) (strOfNums [48 + (q : Int) % 10] ++ s) by rw [mtGo, dif_neg h0]); have hso := strOne (48 + (q : Int) % 10); have hcv : ∀ (W : World) (x : Int), (convert 22 9 (.slice (some ⟨W.heap.size, 0, none⟩) 1 1)).run Tryz.prog (W.alloc (.cells #[.int .u8 x] 5)) = .ok (.string (strOfNums [x])) (W.alloc (.cells #[.int .u8 x] 5)) := fun W x =>
       run_convert_bytes_arg _ 22 5 Tryz.underlying22 Tryz.underlying5 _ _ 1 1 [x] rfl (fun i hi => by
        obtain rfl : i = 0 := by omega
        exact (Blk.new W 5 #[.int .u8 x]).cell 0) 9 Tryz.underlying9
      have hbs := hbl.size; clear hbl; go_wp2; go_roundw
      case rel => exact ⟨q / 10, _, by omega, by go_num, rfl, by rw [← HN.out]; exact HMQ.out, by rw [ByteArray.size_append, strOne]; exact pow_step HPW.out, by rw [ByteArray.size_append, strOne]; omega, HB.out.alloc hbs _⟩
      case measure => simp [intOf]; omega
def markN (k : Int) : NameV := (mt k, k + 1)
def marksN (k : Int) (n : Nat) : List NameV := (List.range n).map fun (i : Nat) => markN (k + 2 * (i : Int))
theorem marksN_len (k : Int) (n : Nat) : (marksN k n).length = n := by simp [marksN]
theorem heldNameS_c {A : Option Addr} {n c B : Nat} {w : World} {k0 : Int} (hr : RdN w B A n (marksN k0 n)) (hB : B ≤ w.heap.size) (hk0 : 0 ≤ k0) (hk1 : k0 ≤ 100000000000000) (hn : n ≤ 1048576) :
 Calls Tryz.prog 80 #[.slice A n c, .int .i64 k0] w fun e w' => e = .returned (.int .i64 (k0 + 2 * n)) ∧ Below w.heap.size w w' := by
 go_enter Tryz.func80, Tryz.ntmps80
 go_wp2; go_loopw [1, 5] (fun kk i wr => ∃ j : Nat, j ≤ n ∧ i = .int .i64 j ∧ kk = .int .i64 (k0 + 2 * j) ∧ Below w.heap.size w wr) (fun _ i _ => n - (intOf i).toNat)
 case atStart => exact ⟨0, Nat.zero_le _, rfl, by simp, Below.refl _ _⟩
 case round =>
  obtain ⟨j, hj, rfl, rfl, hbl⟩ := hrel; by_cases hlt : j < n
  · obtain ⟨b, off, rfl, hbB, hc⟩ := hr.at_ (by omega); obtain ⟨c0, c1⟩ := hc j hlt; have hbs : b < w.heap.size := by omega
    replace c0 := (hbl.cell (p := ⟨b, off + j * 2, none⟩) hbs).trans c0; have hgm : (marksN k0 n).getD j noName = markN (k0 + 2 * (j : Int)) := getD_mapRange noName _ hlt; rw [hgm] at c0 c1; unfold markN at c0 c1; simp only at c0 c1; have HB := hid hbl; have hsz := hbl.size; clear hr hc hgm hbl; go_wp2_with fail; have hbw : b < wr.heap.size := by omega
    have C1 := hid c1; have hmt := fun (W : World) => markText_c (k0 + 2 * (j : Int)) W (by omega)
    have HMT := hid hmt; clear c1 hmt; generalize mt (k0 + 2 * (j : Int)) = mm at *; go_region_with (go_at_call 81; refine (HMT.out _).mono ?_; rintro e w2 ⟨rfl, hb2⟩; have c0' := (hb2.cell (p := ⟨b, off + j * 2, none⟩) hbw).trans c0)
    all_goals
     have d1 := ((HB.out.drew.trans (hb2.mono hsz)).cell (p := ⟨b, off + j * 2 + 1, none⟩) hbs).trans C1.out; have HB2 := hid (HB.out.drew.trans (hb2.mono hsz)); clear hb2 c0; go_wp2; go_roundw
     case rel => exact ⟨j + 1, by omega, by go_num, by go_num, HB2.out⟩
     case measure => simp [intOf]; omega
  · obtain rfl : j = n := by omega
    go_wp2; go_ret
    exact ⟨rfl, hbl⟩
theorem lineO_ok {d : DiskV} (h : DiskOk d) (o : Option LineR) : DiskOk (lineO d o).d := by
 cases o with
 | none => exact h
 | some x =>
  by_cases hx : DiskOk x.d
  · rw [lineO_yes hx]; exact hx
  · rw [lineO_no hx]; exact h
theorem lineF_ok {d : DiskV} (s : ByteArray) (h : DiskOk d) : DiskOk (lineF d s).d := by rw [lineF_yes h]; exact lineO_ok h _
noncomputable def lineD (d : DiskV) (ss : List ByteArray) : Nat → DiskV
 | 0 => d
 | k + 1 => (lineF (lineD d ss k) (ss.getD k ByteArray.empty)).d
noncomputable def ansAt (d : DiskV) (ss : List ByteArray) (k : Nat) : ByteArray := (lineF (lineD d ss k) (ss.getD k ByteArray.empty)).a
noncomputable def lineA (d : DiskV) (ss : List ByteArray) (k : Nat) : List ByteArray := (List.range k).map (ansAt d ss)
structure LinesR where
 d : DiskV
 al : List ByteArray
def GoodL (d : DiskV) (ss : List ByteArray) : Prop := DiskOk d ∧ ss.length ≤ 20
open Classical in
noncomputable def linesF (d : DiskV) (ss : List ByteArray) : LinesR := if GoodL d ss then ⟨lineD d ss ss.length, lineA d ss ss.length⟩ else ⟨zeroDisk, []⟩
theorem linesF_yes {d : DiskV} {ss : List ByteArray} (h : GoodL d ss) : linesF d ss = ⟨lineD d ss ss.length, lineA d ss ss.length⟩ := by unfold linesF; rw [if_pos h]
theorem linesF_no {d : DiskV} {ss : List ByteArray} (h : ¬ GoodL d ss) : linesF d ss = ⟨zeroDisk, []⟩ := by unfold linesF; rw [if_neg h]
theorem lineA_len (d : DiskV) (ss : List ByteArray) (k : Nat) : (lineA d ss k).length = k := by simp [lineA]
theorem lineA_succ (d : DiskV) (ss : List ByteArray) (k : Nat) : lineA d ss (k + 1) = lineA d ss k ++ [ansAt d ss k] := by simp [lineA, List.range_succ]
theorem lineD_ok {d : DiskV} (ss : List ByteArray) (h : DiskOk d) : ∀ k, DiskOk (lineD d ss k)
 | 0 => h
 | k + 1 => lineF_ok _ (lineD_ok ss h k)
theorem linesF_small (d : DiskV) (ss : List ByteArray) : SmallDV (linesF d ss).d := by
 by_cases h : GoodL d ss
 · rw [linesF_yes h]; exact small_ok (lineD_ok ss h.1 _)
 · rw [linesF_no h]; exact ⟨by simp [zeroDisk], by simp [zeroDisk], by simp [zeroDisk], fun i hi => by simp [zeroDisk] at hi, fun i hi => by simp [zeroDisk] at hi, fun i hi => by simp [zeroDisk] at hi⟩
theorem linesF_many (d : DiskV) (ss : List ByteArray) : (linesF d ss).al.length ≤ 20 := by
 by_cases h : GoodL d ss
 · rw [linesF_yes h]; simp only [lineA_len]; exact h.2
 · rw [linesF_no h]; simp
section
variable {H : Type} {enc : TypeId × Value → H} {P : Program} {w : World} {base : Nat} {spare : Nat → Bool} {held : Bool}
theorem open_slice_fields {t e : TypeId} {fs : Array Field} {fuel : Nat} {cs : List Value} {x : DataW H × List MemPlace} (ht : P.underlying t = some (.slice e)) (he : P.underlying e = some (.struct fs))
 (hone : oneCellFields P fs = true) (hC : P.cellsOf e = fs.size) (h : DataW.trod enc P w base spare held fuel t cs = some x) :
 (cs = [.slice none 0 0] ∧ x = (.nil, [])) ∨
 ∃ (a : Addr) (len cap m : Nat), cs = [.slice (some a) len cap] ∧ len ≤ cap ∧ cap ≤ maxLen ∧ m = (if spare a.block then cap else len) ∧
  ∀ i, i < m → ∃ (n : Nat),
   ∀ (j : Nat) (f : Field), fs[j]? = some f → ∃ (v : Value) (y : DataW H × List MemPlace), w.cell? (a.add (i * fs.size + j)) = some v ∧ DataW.trod enc P w base spare held n f.type [v] = some y := by
 rcases open_slice ht h with h0 | ⟨a, len, cap, m, n, D, Pl, hcs, hb, hl, hm, hmm, hx, hi⟩
 · exact .inl h0
 · refine .inr ⟨a, len, cap, m, hcs, hl, hm, hmm, fun i him => ?_⟩; obtain ⟨cs', hc, ht'⟩ := hi i him; rw [hC] at hc; obtain ⟨ys, n', hn', hy, hlen, hyl, hf⟩ := DataW.trod_struct he ht'; obtain ⟨_, hcl, hat⟩ := World.cells?_some hc; refine ⟨n', fun j f hj => ?_⟩; obtain ⟨ho, hk⟩ := hone_of hone j f hj; have hjl : j < fs.size := (Array.getElem?_eq_some_iff.1 hj).1; have hcell := hat j hjl; have hv : cs'[j]? = some (cs'[j]'(by omega)) := List.getElem?_eq_getElem (by omega); have h1 := hf j f hj; rw [ho, hk] at h1; have hone' : (cs'.drop j).take 1 = [cs'[j]'(by omega)] := by
    rw [List.drop_eq_getElem_cons (by omega)]; rfl
   rw [hone'] at h1; have hys : ys[j]? = some (ys[j]'(by omega)) := List.getElem?_eq_getElem (by omega); refine ⟨_, _, ?_, h1.trans hys⟩; rw [← Go.Deep.add_add, hcell, hv]
end
theorem pick_list {α : Type} (d : α) (P : Nat → α → Prop) : ∀ n : Nat, (∀ i, i < n → ∃ x, P i x) → ∃ xs : List α, xs.length = n ∧ ∀ i, i < n → P i (xs.getD i d)
 | 0, _ => ⟨[], rfl, fun i h => absurd h (Nat.not_lt_zero _)⟩
 | n + 1, h => by
  obtain ⟨xs, hl, hp⟩ := pick_list d P n (fun i hi => h i (by omega)); obtain ⟨x, hx⟩ := h n (by omega); refine ⟨xs ++ [x], by simp [hl], fun i hi => ?_⟩; rw [List.getD_eq_getElem?_getD]; by_cases e : i = n
  · subst e; rw [List.getElem?_append_right (by omega), hl, Nat.sub_self]; exact hx
  · rw [List.getElem?_append_left (by omega), ← List.getD_eq_getElem?_getD]; exact hp i (by omega)
theorem addr_form {W : World} {x : Addr} {v : Value} (h : W.cell? (x.add 0) = some v) : ∃ b off, x = ⟨b, off, none⟩ ∧ b < W.heap.size := by
 obtain ⟨b, off, spot⟩ := x; have hspot : spot = none := by simpa [Addr.add] using World.cell?_spot h
 subst hspot; rw [add_none] at h; exact ⟨b, off, rfl, block_lt_of_cell h⟩
section
variable {H : Type} {enc : TypeId × Value → H} {W : World} {fuel : Nat} {x : DataW H × List MemPlace}
theorem trodPages {v : Value} (h : DataW.trod enc Tryz.prog W 0 (fun _ => true) true fuel 133 [v] = some x) : ∃ A n c ps, v = .slice A n c ∧ n ≤ c ∧ c ≤ maxLen ∧ RdG W W.heap.size A n ps := by
 rcases open_slice_fields Tryz.underlying133 Tryz.underlying186 (by kernel_rfl) (by kernel_rfl) h with ⟨hcs, _⟩ | ⟨a, len, cap, m, hcs, hl, hm, hmm, hi⟩
 · injection hcs with hcs _; exact ⟨none, 0, 0, [], hcs, Nat.le_refl _, by decide, rfl, fun h => absurd h (Nat.lt_irrefl _)⟩
 · injection hcs with hcs _; simp only [if_true] at hmm; subst hmm; have key : ∀ i, i < len → ∃ p : PageV, W.cell? (a.add (i * 5)) = some (.bool p.full) ∧ W.cell? (a.add (i * 5 + 1)) = some (.int .i64 p.file) ∧ W.cell? (a.add (i * 5 + 2)) = some (.int .i64 p.place) ∧ W.cell? (a.add (i * 5 + 3)) = some (.int .i64 p.value) ∧ W.cell? (a.add (i * 5 + 4)) = some (.int .i64 p.stamp) := by
    intro i hil
    obtain ⟨n, hf⟩ := hi i (by omega); obtain ⟨v0, y0, c0, t0⟩ := hf 0 _ rfl; obtain ⟨v1, y1, c1, t1⟩ := hf 1 _ rfl; obtain ⟨v2, y2, c2, t2⟩ := hf 2 _ rfl; obtain ⟨v3, y3, c3, t3⟩ := hf 3 _ rfl; obtain ⟨v4, y4, c4, t4⟩ := hf 4 _ rfl; obtain ⟨b, e0, _⟩ := DataW.trod_bool (P := Tryz.prog) (t := 4) Tryz.underlying4 t0; obtain ⟨n1, e1, _, _⟩ := DataW.trod_int (P := Tryz.prog) (t := 3) Tryz.underlying3 t1; obtain ⟨n2, e2, _, _⟩ := DataW.trod_int (P := Tryz.prog) (t := 3) Tryz.underlying3 t2; obtain ⟨n3, e3, _, _⟩ := DataW.trod_int (P := Tryz.prog) (t := 3) Tryz.underlying3 t3; obtain ⟨n4, e4, _, _⟩ := DataW.trod_int (P := Tryz.prog) (t := 3) Tryz.underlying3 t4; injection e0 with e0 _; injection e1 with e1 _; injection e2 with e2 _; injection e3 with e3 _; injection e4 with e4 _; subst e0 e1 e2 e3 e4; exact ⟨⟨b, n1, n2, n3, n4⟩, c0, c1, c2, c3, c4⟩
   obtain ⟨ps, hpl, hp⟩ := pick_list noPage _ len key; refine ⟨_, _, _, ps, hcs, hl, hm, hpl, fun hn => ?_⟩; obtain ⟨b, off, rfl, hb⟩ := addr_form (by simpa using (hp 0 hn).1); refine ⟨b, off, rfl, hb, fun i hil => ?_⟩; have := hp i hil; simp only [add_none, ← Nat.add_assoc] at this; exact this
theorem trodBlocks {v : Value} (h : DataW.trod enc Tryz.prog W 0 (fun _ => true) true fuel 40 [v] = some x) : ∃ A n c bs, v = .slice A n c ∧ n ≤ c ∧ c ≤ maxLen ∧ RdB W W.heap.size A n bs := by
 rcases open_slice_fields Tryz.underlying40 Tryz.underlying135 (by kernel_rfl) (by kernel_rfl) h with ⟨hcs, _⟩ | ⟨a, len, cap, m, hcs, hl, hm, hmm, hi⟩
 · injection hcs with hcs _; exact ⟨none, 0, 0, [], hcs, Nat.le_refl _, by decide, rfl, fun h => absurd h (Nat.lt_irrefl _)⟩
 · injection hcs with hcs _; simp only [if_true] at hmm; subst hmm; have key : ∀ i, i < len → ∃ b : BlockV, ∃ A' n' c', W.cell? (a.add (i * 2)) = some (.int .i64 b.wear) ∧ W.cell? (a.add (i * 2 + 1)) = some (.slice A' n' c') ∧ n' ≤ c' ∧ c' ≤ 9223372036854775807 ∧ RdG W W.heap.size A' n' b.pages := by
    intro i hil
    obtain ⟨n, hf⟩ := hi i (by omega); obtain ⟨v0, y0, c0, t0⟩ := hf 0 _ rfl; obtain ⟨v1, y1, c1, t1⟩ := hf 1 _ rfl; obtain ⟨n0, e0, _, _⟩ := DataW.trod_int (P := Tryz.prog) (t := 3) Tryz.underlying3 t0; obtain ⟨A', n', c', ps, rfl, h1, h2, h3⟩ := trodPages t1; injection e0 with e0 _; subst e0; exact ⟨⟨n0, ps⟩, A', n', c', c0, c1, h1, by unfold maxLen at h2; omega, h3⟩
   obtain ⟨bs, hpl, hp⟩ := pick_list noBlock _ len key; refine ⟨_, _, _, bs, hcs, hl, hm, hpl, fun hn => ?_⟩; obtain ⟨_, _, _, h0, _⟩ := hp 0 hn; obtain ⟨b, off, rfl, hb⟩ := addr_form (by simpa using h0); refine ⟨b, off, rfl, hb, fun i hil => ?_⟩; obtain ⟨A', n', c', h0, h1, h2⟩ := hp i hil; rw [add_none] at h0 h1; exact ⟨A', n', c', h0, by rw [Nat.add_assoc]; exact h1, h2⟩
end
theorem toHeads_c (x y z : Int) (w : World) :
 Calls Tryz.prog 63 #[.agg #[.int .i64 x, .int .i64 y, .int .i64 z]] w fun e w' => e = .returned (.agg #[.int .i64 x, .int .i64 y, .int .i64 z]) ∧ Below w.heap.size w w' := by
 go_enter Tryz.func63, Tryz.ntmps63
 go_wp2; go_returns
 exact ⟨rfl, (((Below.refl _ _).alloc (Nat.le_refl _) _).alloc (by simp) _).alloc (by simp; omega) _⟩
theorem toDisk_c {h : DH} {d : DiskV} {B : Nat} {w : World} (hr : RdD w B h d) (hB : B ≤ w.heap.size) (hs : SmallD h d) :
 Calls Tryz.prog 15 #[dkv h d] w fun e w' => ∃ h', e = .returned (dkv h' d) ∧ OwD w' w.heap.size h' d ∧ Below w.heap.size w w' := by
 obtain ⟨bs, ts, x, y, z, st, ns⟩ := d; obtain ⟨bA, bn, bc, tA, tn, tc, nA, nn, nc⟩ := h; have hr0 := hr.mono hB; obtain ⟨s1, s2, s3, s4, s5, s6⟩ := hs; simp only at s1 s2 s3 s4 s5 s6; obtain rfl : bs.length = bn := hr0.b.len; obtain rfl : ts.length = tn := hr0.t.len; obtain rfl : ns.length = nn := hr0.n.len; clear hr; have SB := hid s4; have ST := hid s5; have e1 : (w.alloc (.cells (dc bA bs.length bc tA ts.length tc x y z st nA ns.length nc) 45)).heap.size = w.heap.size + 1 := by simp
 have e2 : ((w.alloc (.cells (dc bA bs.length bc tA ts.length tc x y z st nA ns.length nc) 45)).alloc (.cells Zd 31)).heap.size = w.heap.size + 1 + 1 := by simp
 have K1 := ((Blk.new w 45 (dc bA bs.length bc tA ts.length tc x y z st nA ns.length nc)).alloc (.cells Zd 31)).alloc (.cells Zd 31); have K2 := (Blk.new (w.alloc (.cells (dc bA bs.length bc tA ts.length tc x y z st nA ns.length nc) 45)) 31 Zd).alloc (.cells Zd 31); have K3 := Blk.new ((w.alloc (.cells (dc bA bs.length bc tA ts.length tc x y z st nA ns.length nc) 45)).alloc (.cells Zd 31)) 31 Zd; have b3 : Below w.heap.size w (((w.alloc (.cells (dc bA bs.length bc tA ts.length tc x y z st nA ns.length nc) 45)).alloc (.cells Zd 31)).alloc (.cells Zd 31)) := (((Below.refl _ _).alloc (Nat.le_refl _) _).alloc (by simp) _).alloc (by simp; omega) _
 rw [e1] at K2; rw [e2] at K3; have s3' : w.heap.size + 1 + 1 < (((w.alloc (.cells (dc bA bs.length bc tA ts.length tc x y z st nA ns.length nc) 45)).alloc (.cells Zd 31)).alloc (.cells Zd 31)).heap.size := by simp
 go_enter Tryz.func15, Tryz.ntmps15
 go_wp2_with fail; clear e1 e2
 generalize (((w.alloc (.cells (dc bA bs.length bc tA ts.length tc x y z st nA ns.length nc) 45)).alloc (.cells Zd 31)).alloc (.cells Zd 31)) = w3 at *; have hr3 := hr0.below b3; have q3 : w.heap.size ≤ w3.heap.size := b3.size; refine (toBlockS_c hr3.b b3.size s1 SB.out).mono ?_; rintro e w4 ⟨A4, c4, rfl, o4, b4⟩; have K1a := K1.below b4 (by omega); have K2a := K2.below b4 (by omega); have K3a := K3.below b4 (by omega); have hr4 := hr3.below (b4.mono b3.size); have b4' := b3.trans (b4.mono b3.size); have f := K1a.cell 1; have u := K3a.cell 0; have v := K3a.frozen 0; simp at f u; have o5 := o4.typed (ChgT.blk K3a 0 (.slice A4 bs.length c4)) (by decide) (by decide); have K1b := K1a.far (p := ⟨w.heap.size + 1 + 1, 0, none⟩) (by show w.heap.size ≠ w.heap.size + 1 + 1; omega) (.slice A4 bs.length c4); have K2b := K2a.far (p := ⟨w.heap.size + 1 + 1, 0, none⟩) (by show w.heap.size + 1 ≠ w.heap.size + 1 + 1; omega) (.slice A4 bs.length c4); have K3b := K3a.set_ 0 (.slice A4 bs.length c4); have b5 := b4'.setCell (p := ⟨w.heap.size + 1 + 1, 0, none⟩) (by show w.heap.size ≤ _ + 1 + 1; omega) (.slice A4 bs.length c4); have hr5 := hr0.below b5; have s5' : w.heap.size + 1 + 1 < (w4.setCell ⟨w.heap.size + 1 + 1, 0, none⟩ (.slice A4 bs.length c4)).heap.size := by have := b4.size; simp; omega
 clear K1 K2 K3 K1a K2a K3a b4 o4 hr3 hr4 b3 b4' s3'; go_wp2_with fail; generalize w4.setCell ⟨w.heap.size + 1 + 1, 0, none⟩ (.slice A4 bs.length c4) = w5 at *; clear f u v; refine (toTable_c hr5.t b5.size s2 ST.out).mono ?_; rintro e w6 ⟨A6, c6, rfl, o6, b6⟩; have K1 := K1b.below b6 (by omega); have K2 := K2b.below b6 (by omega); have K3 := K3b.below b6 (by omega); have ob := o5.below b6; have f2 := K1.cell 2; have f3 := K1.cell 3; have f4 := K1.cell 4; have u := K3.cell 1; have v := K3.frozen 1; simp at f2 f3 f4 u; have o7 := o6.typed (ChgT.blk K3 1 (.slice A6 ts.length c6)) (by decide) (by decide); have ob7 := ob.typed (ChgT.blk K3 1 (.slice A6 ts.length c6)) (by decide) (by decide); have b7 := (b5.trans (b6.mono b5.size)).setCell (p := ⟨w.heap.size + 1 + 1, 1, none⟩) (by show w.heap.size ≤ _ + 1 + 1; omega) (.slice A6 ts.length c6); have s7 : w.heap.size + 1 + 1 < (w6.setCell ⟨w.heap.size + 1 + 1, 1, none⟩ (.slice A6 ts.length c6)).heap.size := by have := b6.size; simp; omega
 have L1 := K1.far (p := ⟨w.heap.size + 1 + 1, 1, none⟩) (by show w.heap.size ≠ w.heap.size + 1 + 1; omega) (.slice A6 ts.length c6); have L2 := K2.far (p := ⟨w.heap.size + 1 + 1, 1, none⟩) (by show w.heap.size + 1 ≠ w.heap.size + 1 + 1; omega) (.slice A6 ts.length c6); have L3 := K3.set_ 1 (.slice A6 ts.length c6); have q5 : w.heap.size ≤ w5.heap.size := b5.size; have qb := hid (ob7.lower (base' := w.heap.size) (by omega)); have qt := hid (o7.lower (base' := w.heap.size) (by omega)); clear K1 K2 K3 K1b K2b K3b ob ob7 o5 o6 o7 b6 hr5; go_wp2_with fail; generalize w6.setCell ⟨w.heap.size + 1 + 1, 1, none⟩ (.slice A6 ts.length c6) = w7 at *; clear f2 f3 f4 u v; refine (toHeads_c x y z _).mono ?_; rintro e w8 ⟨rfl, b8⟩; have K1 := L1.below b8 (by omega); have K2 := L2.below b8 (by omega); have K3 := L3.below b8 (by omega); have ob := qb.out.below b8; have ot := qt.out.below b8; have f5 := K1.cell 5; have f6 := K1.cell 6; have u2 := K3.cell 2; have u3 := K3.cell 3; have u4 := K3.cell 4; have u5 := K3.cell 5; have v2 := K3.frozen 2; have v3 := K3.frozen 3; have v4 := K3.frozen 4; have v5 := K3.frozen 5; simp at f5 f6 u2 u3 u4 u5; have M1 := (((K1.far (p := ⟨w.heap.size + 1 + 1, 2, none⟩) (by show w.heap.size ≠ w.heap.size + 1 + 1; omega) (.int .i64 x)).far (p := ⟨w.heap.size + 1 + 1, 3, none⟩) (by show w.heap.size ≠ w.heap.size + 1 + 1; omega) (.int .i64 y)).far (p := ⟨w.heap.size + 1 + 1, 4, none⟩) (by show w.heap.size ≠ w.heap.size + 1 + 1; omega) (.int .i64 z)).far (p := ⟨w.heap.size + 1 + 1, 5, none⟩) (by show w.heap.size ≠ w.heap.size + 1 + 1; omega) (.int .i64 st)
 have M2 := (((K2.far (p := ⟨w.heap.size + 1 + 1, 2, none⟩) (by show w.heap.size + 1 ≠ w.heap.size + 1 + 1; omega) (.int .i64 x)).far (p := ⟨w.heap.size + 1 + 1, 3, none⟩) (by show w.heap.size + 1 ≠ w.heap.size + 1 + 1; omega) (.int .i64 y)).far (p := ⟨w.heap.size + 1 + 1, 4, none⟩) (by show w.heap.size + 1 ≠ w.heap.size + 1 + 1; omega) (.int .i64 z)).far (p := ⟨w.heap.size + 1 + 1, 5, none⟩) (by show w.heap.size + 1 ≠ w.heap.size + 1 + 1; omega) (.int .i64 st); have N2 := K3.set_ 2 (.int .i64 x); have N3 := N2.set_ 3 (.int .i64 y); have N4 := N3.set_ 4 (.int .i64 z); have M3 := N4.set_ 5 (.int .i64 st); have tt := (((ChgT.blk K3 2 (.int .i64 x)).trans (ChgT.blk N2 3 (.int .i64 y))).trans (ChgT.blk N3 4 (.int .i64 z))).trans (ChgT.blk N4 5 (.int .i64 st)); have b9 := ((((b7.trans (b8.mono b7.size)).setCell (p := ⟨w.heap.size + 1 + 1, 2, none⟩) (by show w.heap.size ≤ _ + 1 + 1; omega) (.int .i64 x)).setCell (p := ⟨w.heap.size + 1 + 1, 3, none⟩) (by show w.heap.size ≤ _ + 1 + 1; omega) (.int .i64 y)).setCell (p := ⟨w.heap.size + 1 + 1, 4, none⟩) (by show w.heap.size ≤ _ + 1 + 1; omega) (.int .i64 z)).setCell (p := ⟨w.heap.size + 1 + 1, 5, none⟩) (by show w.heap.size ≤ _ + 1 + 1; omega) (.int .i64 st); have rb := hid (ob.typed tt (by decide) (by decide)); have rt := hid (ot.typed tt (by decide) (by decide)); have hr9 := hr0.below b9; have s9 : w.heap.size + 1 + 1 < ((((w8.setCell ⟨w.heap.size + 1 + 1, 2, none⟩ (.int .i64 x)).setCell ⟨w.heap.size + 1 + 1, 3, none⟩ (.int .i64 y)).setCell ⟨w.heap.size + 1 + 1, 4, none⟩ (.int .i64 z)).setCell ⟨w.heap.size + 1 + 1, 5, none⟩ (.int .i64 st)).heap.size := by have := b8.size; simp; omega
 clear K1 K2 K3 L1 L2 L3 N2 N3 N4 tt ob ot b7 b8 qb qt s7; go_wp2_with fail; generalize (((w8.setCell ⟨w.heap.size + 1 + 1, 2, none⟩ (.int .i64 x)).setCell ⟨w.heap.size + 1 + 1, 3, none⟩ (.int .i64 y)).setCell ⟨w.heap.size + 1 + 1, 4, none⟩ (.int .i64 z)).setCell ⟨w.heap.size + 1 + 1, 5, none⟩ (.int .i64 st) = w9 at *; clear f5 f6 u2 u3 u4 u5 v2 v3 v4 v5; refine (toNameS_c hr9.n b9.size s3).mono ?_; rintro e w10 ⟨A10, c10, rfl, o10, b10⟩; have K1 := M1.below b10 (by omega); have K2 := M2.below b10 (by omega); have K3 := M3.below b10 (by omega); have ob := rb.out.below b10; have ot := rt.out.below b10; have u0 := K3.cell 0; have u1 := K3.cell 1; have u2 := K3.cell 2; have u3 := K3.cell 3; have u4 := K3.cell 4; have u5 := K3.cell 5; have u6 := K3.cell 6; have v6 := K3.frozen 6; have t0 := K2.cell 0; have t1 := K2.cell 1; have t2 := K2.cell 2; have t3 := K2.cell 3; have t4 := K2.cell 4; have t5 := K2.cell 5; have t6 := K2.cell 6; have z0 := K2.frozen 0; have z1 := K2.frozen 1; have z2 := K2.frozen 2; have z3 := K2.frozen 3; have z4 := K2.frozen 4; have z5 := K2.frozen 5; have z6 := K2.frozen 6; simp at u0 u1 u2 u3 u4 u5 u6 t0 t1 t2 t3 t4 t5 t6; have P2 := K2.far (p := ⟨w.heap.size + 1 + 1, 6, none⟩) (by show w.heap.size + 1 ≠ w.heap.size + 1 + 1; omega) (.slice A10 ns.length c10); have P3 := P2.set_ 0 (.slice A4 bs.length c4); have P4 := P3.set_ 1 (.slice A6 ts.length c6); have P5 := P4.set_ 2 (.int .i64 x); have P6 := P5.set_ 3 (.int .i64 y); have P7 := P6.set_ 4 (.int .i64 z); have P8 := P7.set_ 5 (.int .i64 st)
 have P9 := P8.set_ 6 (.slice A10 ns.length c10); have tt := (((((((ChgT.blk K3 6 (.slice A10 ns.length c10)).trans (ChgT.blk P2 0 (.slice A4 bs.length c4))).trans (ChgT.blk P3 1 (.slice A6 ts.length c6))).trans (ChgT.blk P4 2 (.int .i64 x))).trans (ChgT.blk P5 3 (.int .i64 y))).trans (ChgT.blk P6 4 (.int .i64 z))).trans (ChgT.blk P7 5 (.int .i64 st))).trans (ChgT.blk P8 6 (.slice A10 ns.length c10)); have hg1 : w.heap.size ≤ w.heap.size + 1 := by omega
 have b11 := ((((((((b9.trans (b10.mono b9.size)).setCell (p := ⟨w.heap.size + 1 + 1, 6, none⟩) (by show w.heap.size ≤ _ + 1 + 1; omega) (.slice A10 ns.length c10)).setCell (p := ⟨w.heap.size + 1, 0, none⟩) hg1 (.slice A4 bs.length c4)).setCell (p := ⟨w.heap.size + 1, 1, none⟩) hg1 (.slice A6 ts.length c6)).setCell (p := ⟨w.heap.size + 1, 2, none⟩) hg1 (.int .i64 x)).setCell (p := ⟨w.heap.size + 1, 3, none⟩) hg1 (.int .i64 y)).setCell (p := ⟨w.heap.size + 1, 4, none⟩) hg1 (.int .i64 z)).setCell (p := ⟨w.heap.size + 1, 5, none⟩) hg1 (.int .i64 st)).setCell (p := ⟨w.heap.size + 1, 6, none⟩) hg1 (.slice A10 ns.length c10); have FB := hid (ob.typed tt (by decide) (by decide)); have FT := hid (ot.typed tt (by decide) (by decide)); have FN := hid ((o10.typed tt (by decide)).lower b9.size); have FP := hid P9; have B11 := hid b11; clear K1 K2 K3 M1 M2 M3 P2 P3 P4 P5 P6 P7 P8 P9 tt ob ot b9 b10 b11 o10 rb rt s9 hr9; go_wp2; generalize (((((((w10.setCell ⟨w.heap.size + 1 + 1, 6, none⟩ (.slice A10 ns.length c10)).setCell ⟨w.heap.size + 1, 0, none⟩ (.slice A4 bs.length c4)).setCell ⟨w.heap.size + 1, 1, none⟩ (.slice A6 ts.length c6)).setCell ⟨w.heap.size + 1, 2, none⟩ (.int .i64 x)).setCell ⟨w.heap.size + 1, 3, none⟩ (.int .i64 y)).setCell ⟨w.heap.size + 1, 4, none⟩ (.int .i64 z)).setCell ⟨w.heap.size + 1, 5, none⟩ (.int .i64 st)).setCell ⟨w.heap.size + 1, 6, none⟩ (.slice A10 ns.length c10) = wz at *; have p0 := FP.out.cell 0; have p1 := FP.out.cell 1; have p2 := FP.out.cell 2
 have p3 := FP.out.cell 3; have p4 := FP.out.cell 4; have p5 := FP.out.cell 5; have p6 := FP.out.cell 6; simp at p0 p1 p2 p3 p4 p5 p6; refine bodyPost_ret (by simp [results, Tryz.results15, go_sem, p0, p1, p2, p3, p4, p5, p6]; try rfl) rfl ?_; exact ⟨⟨A4, bs.length, c4, A6, ts.length, c6, A10, ns.length, c10⟩, rfl, ⟨FB.out, FT.out, FN.out⟩, B11.out⟩
theorem small_leT {ts : List (List Int)} {n : Nat} {l : Int} (h : SmallT ts n l) (hl : l ≤ 1048576) : SmallT ts n 1048576 := fun i hi => by have := h i hi; omega
theorem small_leN {ns : List NameV} {n : Nat} {l : Int} (h : SmallN ns n l) (hl : l ≤ 1048576) : SmallN ns n 1048576 := fun i hi => by have := h i hi; omega
structure LimD (h : DH) (d : DiskV) : Prop where
 b : h.bn ≤ 9223372036854775807
 t : h.tn ≤ 9223372036854775807
 n : h.nn ≤ 9223372036854775807
 ns : LimN d.ns h.nn
theorem szDisk_c {h : DH} {d : DiskV} {B : Nat} {w : World} (hr : RdD w B h d) (hB : B ≤ w.heap.size) (hlim : LimD h d) :
 Calls Tryz.prog 13 #[.agg (dc h.bA h.bn h.bc h.tA h.tn h.tc d.hot d.warm d.cold d.stamp h.nA h.nn h.nc), .int .i64 1048576] w fun e w' => SzOk 1048576 (SmallD h d) e ∧ Below w.heap.size w w' := by
 obtain ⟨bs, ts, x, y, z, st, ns⟩ := d; obtain ⟨bA, bn, bc, tA, tn, tc, nA, nn, nc⟩ := h; obtain ⟨m1, m2, m3, m4⟩ := hlim; simp only at m1 m2 m3 m4; have M4 := hid m4; clear m4; simp only
 have K1 := Blk.new w 45 (dc bA bn bc tA tn tc x y z st nA nn nc); have b1 : Below w.heap.size w (w.alloc (.cells (dc bA bn bc tA tn tc x y z st nA nn nc) 45)) := (Below.refl _ _).alloc (Nat.le_refl _) _; have s1 : w.heap.size < (w.alloc (.cells (dc bA bn bc tA tn tc x y z st nA nn nc) 45)).heap.size := by simp
 go_enter Tryz.func13, Tryz.ntmps13
 go_wp2_with fail; generalize w.alloc (.cells (dc bA bn bc tA tn tc x y z st nA nn nc) 45) = w1 at *
 have hr1 := (hr.mono hB).below b1; refine (szBlockS_c hr1.b b1.size (by omega) (by omega) (by omega)).mono ?_; rintro e w2 ⟨⟨r, rfl, r1, r2, r3⟩, b2⟩; have HR := hid r3; have K2 := K1.below b2 s1; have f1 := K2.cell 1; have f6 := K2.cell 6; simp at f1 f6; have B2 := hid (b1.trans (b2.mono b1.size)); have hr2 := hr1.below (b2.mono b1.size); have hs2 := B2.out.size; have s2 : w.heap.size < w2.heap.size := by have := b2.size; omega
 clear r3 K1 hr1 b1 b2 hr; by_cases hneg : r < 0
 · go_wp2; go_ret
   exact ⟨⟨_, rfl, by omega, by omega, fun h => by omega⟩, B2.out⟩
 · go_wp2_with fail; refine (szTable_c hr2.t hs2 (left := r) (by omega) (by omega) (by omega)).mono ?_
   rintro e w3 ⟨⟨q, rfl, q1, q2, q3⟩, b3⟩; have HQ := hid q3; have K3 := K2.below b3 s2; have g6 := K3.cell 6; simp at g6; have B3 := hid (B2.out.trans (b3.mono hs2)); have hr3 := hr2.below (b3.mono hs2); have hs3 := B3.out.size; clear q3 K2 hr2 b3; by_cases hneg : q < 0
   · go_wp2; go_ret
     exact ⟨⟨_, rfl, by omega, by omega, fun h => by omega⟩, B3.out⟩
   · go_wp2_with fail; refine (szNameS_c hr3.n hs3 (left := q) (by omega) (by omega) (by omega) M4.out).mono ?_
     rintro e w4 ⟨⟨p, rfl, p1, p2, p3⟩, b4⟩; have HP := hid p3; have B4 := hid (B3.out.trans (b4.mono hs3)); clear p3 K3 hr3 b4; by_cases hneg : p < 0
     · go_wp2; go_ret
       exact ⟨⟨_, rfl, by omega, by omega, fun h => by omega⟩, B4.out⟩
     · have HS := hid (show SmallD ⟨bA, bn, bc, tA, tn, tc, nA, nn, nc⟩ ⟨bs, ts, x, y, z, st, ns⟩ from by
        obtain ⟨a1, a2⟩ := HR.out (by omega); obtain ⟨a3, a4⟩ := HQ.out (by omega); obtain ⟨a5, a6⟩ := HP.out (by omega); have a1' : (bn : Int) ≤ 1048576 := a1; have a3' : (tn : Int) ≤ r := a3; have a5' : (nn : Int) ≤ q := a5; exact ⟨by show bn ≤ _; omega, by show tn ≤ _; omega, by show nn ≤ _; omega, a2, small_leT a4 (by omega), small_leN a6 (by omega)⟩)
       go_wp2; go_ret
       exact ⟨⟨_, rfl, by omega, by omega, fun _ => HS.out⟩, B4.out⟩
theorem eqHeads_same (x y z : Int) (w : World) :
 Calls Tryz.prog 73 #[.agg #[.int .i64 x, .int .i64 y, .int .i64 z], .agg #[.int .i64 x, .int .i64 y, .int .i64 z]] w fun e w' => e = .returned (.bool true) ∧ Below w.heap.size w w' := by
 go_enter Tryz.func73, Tryz.ntmps73
 go_wp2; go_ret
 exact ⟨rfl, ((Below.refl _ _).alloc (Nat.le_refl _) _).alloc (by simp) _⟩
theorem eqDisk_same {h h' : DH} {d : DiskV} {B B' : Nat} {w : World} (hr : RdD w B h d) (hr' : RdD w B' h' d) (hB : B ≤ w.heap.size) (hB' : B' ≤ w.heap.size) (hs : SmallDV d) :
 Calls Tryz.prog 17 #[.agg (dc h.bA h.bn h.bc h.tA h.tn h.tc d.hot d.warm d.cold d.stamp h.nA h.nn h.nc), .agg (dc h'.bA h'.bn h'.bc h'.tA h'.tn h'.tc d.hot d.warm d.cold d.stamp h'.nA h'.nn h'.nc)] w fun e w' => e = .returned (.bool true) ∧ Below w.heap.size w w' := by
 obtain ⟨bs, ts, x, y, z, st, ns⟩ := d; obtain ⟨bA, bn, bc, tA, tn, tc, nA, nn, nc⟩ := h; obtain ⟨bA', bn', bc', tA', tn', tc', nA', nn', nc'⟩ := h'; obtain ⟨m1, m2, m3, m4, m5, m6⟩ := hs; simp only at m1 m2 m3 m4 m5 m6; simp only
 obtain rfl : bs.length = bn := hr.b.len; obtain rfl : ts.length = tn := hr.t.len; obtain rfl : ns.length = nn := hr.n.len; obtain rfl : bs.length = bn' := hr'.b.len; obtain rfl : ts.length = tn' := hr'.t.len; obtain rfl : ns.length = nn' := hr'.n.len; have M4 := hid m4; have M5 := hid m5; clear m4 m5 m6; have e1 : (w.alloc (.cells (dc bA bs.length bc tA ts.length tc x y z st nA ns.length nc) 31)).heap.size = w.heap.size + 1 := by simp
 have K1 := (Blk.new w 31 (dc bA bs.length bc tA ts.length tc x y z st nA ns.length nc)).alloc (.cells (dc bA' bs.length bc' tA' ts.length tc' x y z st nA' ns.length nc') 31); have K2 := Blk.new (w.alloc (.cells (dc bA bs.length bc tA ts.length tc x y z st nA ns.length nc) 31)) 31 (dc bA' bs.length bc' tA' ts.length tc' x y z st nA' ns.length nc'); rw [e1] at K2; have b1 : Below w.heap.size w ((w.alloc (.cells (dc bA bs.length bc tA ts.length tc x y z st nA ns.length nc) 31)).alloc (.cells (dc bA' bs.length bc' tA' ts.length tc' x y z st nA' ns.length nc') 31)) := ((Below.refl _ _).alloc (Nat.le_refl _) _).alloc (by simp) _; have s1 : w.heap.size + 1 < ((w.alloc (.cells (dc bA bs.length bc tA ts.length tc x y z st nA ns.length nc) 31)).alloc (.cells (dc bA' bs.length bc' tA' ts.length tc' x y z st nA' ns.length nc') 31)).heap.size := by simp
 go_enter Tryz.func17, Tryz.ntmps17
 go_wp2_with fail; clear e1
 generalize (w.alloc (.cells (dc bA bs.length bc tA ts.length tc x y z st nA ns.length nc) 31)).alloc (.cells (dc bA' bs.length bc' tA' ts.length tc' x y z st nA' ns.length nc') 31) = w1 at *; have hr1 := (hr.mono hB).below b1; have hr1' := (hr'.mono hB').below b1; refine (eqBlockS_same (n := bs.length) hr1.b hr1'.b b1.size b1.size (by omega) M4.out).mono ?_; rintro e w2 ⟨rfl, b2⟩; have K3 := K1.below b2 (by omega); have K4 := K2.below b2 (by omega); have f1 := K3.cell 1; have g1 := K4.cell 1; simp at f1 g1; have B2 := hid (b1.trans (b2.mono b1.size)); have hr2 := hr1.below (b2.mono b1.size); have hr2' := hr1'.below (b2.mono b1.size); have hs2 := B2.out.size; have s2 : w.heap.size + 1 < w2.heap.size := by have := b2.size; omega
 clear K1 K2 hr1 hr1' b1 b2 hr hr' s1; go_wp2_with fail; refine (eqTable_same (n := ts.length) hr2.t hr2'.t hs2 hs2 (by omega) M5.out).mono ?_; rintro e w3 ⟨rfl, b3⟩; have K1 := K3.below b3 (by omega); have K2 := K4.below b3 (by omega); have f2 := K1.cell 2; have f3 := K1.cell 3; have f4 := K1.cell 4; have g2 := K2.cell 2; have g3 := K2.cell 3; have g4 := K2.cell 4; simp at f2 f3 f4 g2 g3 g4; have B3 := hid (B2.out.trans (b3.mono hs2)); have hr3 := hr2.below (b3.mono hs2); have hr3' := hr2'.below (b3.mono hs2); have hs3 := B3.out.size; have s3 : w.heap.size + 1 < w3.heap.size := by have := b3.size; omega
 clear K3 K4 hr2 hr2' b3 f1 g1 s2; go_wp2_with fail; refine (eqHeads_same x y z _).mono ?_; rintro e w4 ⟨rfl, b4⟩; have K3 := K1.below b4 (by omega); have K4 := K2.below b4 (by omega); have f5 := K3.cell 5; have f6 := K3.cell 6; have g5 := K4.cell 5; have g6 := K4.cell 6; simp at f5 f6 g5 g6; have B4 := hid (B3.out.trans (b4.mono hs3)); have hr4 := hr3.below (b4.mono hs3); have hr4' := hr3'.below (b4.mono hs3); have hs4 := B4.out.size; clear K1 K2 hr3 hr3' b4 f2 f3 f4 g2 g3 g4 s3; go_wp2_with fail; try go_quiet (fail)
 go_wp2_with fail; refine (eqNameS_same (n := ns.length) hr4.n hr4'.n (by omega)).mono ?_
 rintro e w5 ⟨rfl, b5⟩; have B5 := hid (B4.out.trans (b5.mono hs4)); clear b5 hr4 hr4'; go_wp2; go_ret; exact ⟨rfl, B5.out⟩
def kD1 (k0 : Int) (d : DiskV) : Int := kB k0 d.bs d.bs.length
def kD2 (k0 : Int) (d : DiskV) : Int := kT (kD1 k0 d) d.ts d.ts.length
def kD (k0 : Int) (d : DiskV) : Int := kD2 k0 d + 2 * d.ns.length
def marksD (k0 : Int) (d : DiskV) : DiskV := ⟨marksB k0 d.bs, marksT (kD1 k0 d) d.ts, d.hot, d.warm, d.cold, d.stamp, marksN (kD2 k0 d) d.ns.length⟩
theorem kD1_range {k0 : Int} {d : DiskV} (h0 : 0 ≤ k0) (h1 : k0 ≤ 1000000) (hs : SmallDV d) : 0 ≤ kD1 k0 d ∧ kD1 k0 d ≤ 6000000000000 := by
 have := kB_range h0 hs.bs; have := hs.b; unfold kD1; omega
theorem kD2_range {k0 : Int} {d : DiskV} (h0 : 0 ≤ k0) (h1 : k0 ≤ 1000000) (hs : SmallDV d) : 0 ≤ kD2 k0 d ∧ kD2 k0 d ≤ 8000000000000 := by
 have h2 := kD1_range h0 h1 hs; have := kT_range h2.1 hs.ts; have := hs.t; unfold kD2; omega
theorem kD_range {k0 : Int} {d : DiskV} (h0 : 0 ≤ k0) (h1 : k0 ≤ 1000000) (hs : SmallDV d) : 0 ≤ kD k0 d ∧ kD k0 d ≤ 9000000000000 := by
 have h2 := kD2_range h0 h1 hs; have := hs.n; unfold kD; omega
theorem heldDisk_c {h : DH} {d : DiskV} {B : Nat} {w : World} {k0 : Int} (hr : RdD w B h (marksD k0 d)) (hB : B ≤ w.heap.size) (hs : SmallDV d) (hk0 : 0 ≤ k0) (hk1 : k0 ≤ 1000000) :
 Calls Tryz.prog 19 #[.agg (dc h.bA h.bn h.bc h.tA h.tn h.tc d.hot d.warm d.cold d.stamp h.nA h.nn h.nc), .int .i64 k0] w fun e w' => e = .returned (.int .i64 (kD k0 d)) ∧ Below w.heap.size w w' := by
 have R1 := kD1_range hk0 hk1 hs; have R2 := kD2_range hk0 hk1 hs; obtain ⟨bs, ts, x, y, z, st, ns⟩ := d; obtain ⟨bA, bn, bc, tA, tn, tc, nA, nn, nc⟩ := h; obtain ⟨m1, m2, m3, m4, m5, m6⟩ := hs; simp only at m1 m2 m3 m4 m5 m6; simp only
 have hr0 := hr.mono hB; obtain rfl : bs.length = bn := by have := hr0.b.len; simp only [marksD, marksB_len] at this; exact this
 obtain rfl : ts.length = tn := by have := hr0.t.len; simp only [marksD, marksT_len] at this; exact this
 obtain rfl : ns.length = nn := by have := hr0.n.len; simp only [marksD, marksN_len] at this; exact this
 have M4 := hid m4; have M5 := hid m5; have K1 := Blk.new w 31 (dc bA bs.length bc tA ts.length tc x y z st nA ns.length nc); have b1 : Below w.heap.size w (w.alloc (.cells (dc bA bs.length bc tA ts.length tc x y z st nA ns.length nc) 31)) := (Below.refl _ _).alloc (Nat.le_refl _) _; have s1 : w.heap.size < (w.alloc (.cells (dc bA bs.length bc tA ts.length tc x y z st nA ns.length nc) 31)).heap.size := by simp
 have hr1 := hr0.below b1; clear m4 m5 m6 hr hr0; go_enter Tryz.func19, Tryz.ntmps19
 go_wp2_with fail; generalize w.alloc (.cells (dc bA bs.length bc tA ts.length tc x y z st nA ns.length nc) 31) = w1 at *
 have hrb := hr1.b; have hrt := hr1.t; have hrn := hr1.n; simp only [marksD] at hrb hrt hrn; refine (heldBlockS_c hrb hk0 (by omega) (by omega) M4.out).mono ?_; rintro e w2 ⟨rfl, rfl⟩; have f1 := K1.cell 1; have f6 := K1.cell 6; simp at f1 f6; have KD1 := hid (show kB k0 bs bs.length = kD1 k0 ⟨bs, ts, x, y, z, st, ns⟩ from rfl); rw [KD1.out]; have q1 := R1.1; clear hrb hr1; go_wp2_with fail; refine (heldTable_c hrt b1.size R1.1 (by omega) m2 M5.out).mono ?_; rintro e w3 ⟨rfl, b3⟩; have K3 := K1.below b3 s1; have g6 := K3.cell 6; simp at g6; have B3 := hid (b1.trans (b3.mono b1.size)); have hrn3 := hrn.below (b3.mono b1.size); have KD2 := hid (show kT (kD1 k0 ⟨bs, ts, x, y, z, st, ns⟩) ts ts.length = kD2 k0 ⟨bs, ts, x, y, z, st, ns⟩ from rfl); rw [KD2.out]; have q2 := R2.1; have hs3 := B3.out.size; clear K1 hrn hrt b3 b1 f1 f6; go_wp2_with fail; refine (heldNameS_c hrn3 hs3 R2.1 (by omega) m3).mono ?_; rintro e w4 ⟨rfl, b4⟩; have q3 : 0 ≤ kD2 k0 ⟨bs, ts, x, y, z, st, ns⟩ + 2 * (ns.length : Int) := by omega
 have B4 := hid (B3.out.trans (b4.mono hs3)); clear K3 hrn3 b4 g6; go_wp2; go_ret; exact ⟨rfl, B4.out⟩
section
variable {H : Type} {enc : TypeId × Value → H} {P : Program} {w : World} {base : Nat} {spare : Nat → Bool} {held : Bool}
theorem open_fields {t : TypeId} {fs : Array Field} {fuel : Nat} {cs : List Value} {x : DataW H × List MemPlace} (ht : P.underlying t = some (.struct fs)) (h : DataW.trod enc P w base spare held fuel t cs = some x) :
 cs.length = P.cellsOf t ∧ ∃ n : Nat, ∀ (i : Nat) (f : Field) (k : Nat), fs[i]? = some f → P.cellsOf f.type = k → ∃ y, DataW.trod enc P w base spare held n f.type ((cs.drop f.offset).take k) = some y := by
 obtain ⟨xs, n, hn, hx, hlen, hxl, hf⟩ := DataW.trod_struct ht h; refine ⟨hlen, n, fun i f k hi hk => ?_⟩; have h1 := hf i f hi; have hil : i < fs.size := (Array.getElem?_eq_some_iff.1 hi).1; rw [hk] at h1; exact ⟨_, h1.trans (List.getElem?_eq_getElem (by omega))⟩
end
section
variable {H : Type} {enc : TypeId × Value → H} {W : World} {fuel : Nat} {x : DataW H × List MemPlace}
theorem trodInts {v : Value} (h : DataW.trod enc Tryz.prog W 0 (fun _ => true) true fuel 57 [v] = some x) : ∃ A n c xs, v = .slice A n c ∧ n ≤ c ∧ c ≤ maxLen ∧ RdI .i64 W W.heap.size A n xs := by
 rcases open_ints Tryz.underlying57 Tryz.underlying3 (by kernel_rfl) h with ⟨hcs, _⟩ | ⟨a, len, cap, zs, hcs, _, hl, hm, hz, _, hcell, _⟩
 · injection hcs with hcs _; exact ⟨none, 0, 0, [], hcs, Nat.le_refl _, by decide, rfl, fun h => absurd h (Nat.lt_irrefl _)⟩
 · injection hcs with hcs _; simp only [if_true] at hz; refine ⟨_, _, _, zs.take len, hcs, hl, hm, by simp; omega, fun hn => ?_⟩; obtain ⟨b, off, rfl, hb⟩ := addr_form (hcell 0 (by omega)); refine ⟨b, off, rfl, hb, fun i hil => ?_⟩; have := hcell i (by omega); rw [add_none] at this; rw [this, List.getD_eq_getElem?_getD, List.getD_eq_getElem?_getD, List.getElem?_take_of_lt hil]
theorem trodIntSS {v : Value} (h : DataW.trod enc Tryz.prog W 0 (fun _ => true) true fuel 24 [v] = some x) : ∃ A n c ts, v = .slice A n c ∧ n ≤ c ∧ c ≤ maxLen ∧ RdT W W.heap.size A n ts := by
 rcases open_slice Tryz.underlying24 h with ⟨hcs, _⟩ | ⟨a, len, cap, m, n, D, Pl, hcs, _, hl, hm, hmm, _, hi⟩
 · injection hcs with hcs _; exact ⟨none, 0, 0, [], hcs, Nat.le_refl _, by decide, rfl, fun h => absurd h (Nat.lt_irrefl _)⟩
 · injection hcs with hcs _; simp only [if_true] at hmm; subst hmm; have key : ∀ i, i < len → ∃ r : List Int, ∃ A' n' c', W.cell? (a.add i) = some (.slice A' n' c') ∧ n' ≤ c' ∧ c' ≤ 9223372036854775807 ∧ RdI .i64 W W.heap.size A' n' r := by
    intro i hil
    obtain ⟨cs', hc, ht⟩ := hi i (by omega); rw [show Tryz.prog.cellsOf 57 = 1 by kernel_rfl, Nat.mul_one] at hc; obtain ⟨_, hcl, hat⟩ := World.cells?_some hc; obtain ⟨v, rfl⟩ : ∃ v, cs' = [v] := by
     match cs', hcl with
     | [v], _ => exact ⟨v, rfl⟩
    have hcell := hat 0 (by simp); obtain ⟨A', n', c', xs, rfl, h1, h2, h3⟩ := trodInts ht; refine ⟨xs, A', n', c', ?_, h1, by unfold maxLen at h2; omega, h3⟩; rw [Go.Deep.add_add, Nat.add_zero] at hcell; exact hcell
   obtain ⟨ts, hpl, hp⟩ := pick_list [] _ len key; refine ⟨_, _, _, ts, hcs, hl, hm, hpl, fun hn => ?_⟩; obtain ⟨_, _, _, h0, _⟩ := hp 0 hn; obtain ⟨b, off, rfl, hb⟩ := addr_form h0; refine ⟨b, off, rfl, hb, fun i hil => ?_⟩; obtain ⟨A', n', c', h0, h2⟩ := hp i hil; rw [add_none] at h0; exact ⟨A', n', c', h0, h2⟩
theorem trodNames {v : Value} (h : DataW.trod enc Tryz.prog W 0 (fun _ => true) true fuel 43 [v] = some x) : ∃ A n c ns, v = .slice A n c ∧ n ≤ c ∧ c ≤ maxLen ∧ RdN W W.heap.size A n ns ∧ LimN ns n := by
 rcases open_slice_fields Tryz.underlying43 Tryz.underlying138 (by kernel_rfl) (by kernel_rfl) h with ⟨hcs, _⟩ | ⟨a, len, cap, m, hcs, hl, hm, hmm, hi⟩
 · injection hcs with hcs _; exact ⟨none, 0, 0, [], hcs, Nat.le_refl _, by decide, ⟨rfl, fun h => absurd h (Nat.lt_irrefl _)⟩, fun i h => absurd h (Nat.not_lt_zero _)⟩
 · injection hcs with hcs _; simp only [if_true] at hmm; subst hmm; have key : ∀ i, i < len → ∃ p : NameV, W.cell? (a.add (i * 2)) = some (.string p.1) ∧ W.cell? (a.add (i * 2 + 1)) = some (.int .i64 p.2) ∧ p.1.size ≤ 9223372036854775807 := by
    intro i hil
    obtain ⟨n, hf⟩ := hi i (by omega); obtain ⟨v0, y0, c0, t0⟩ := hf 0 _ rfl; obtain ⟨v1, y1, c1, t1⟩ := hf 1 _ rfl; obtain ⟨s, e0, _, hs⟩ := DataW.trod_string (P := Tryz.prog) (t := 9) Tryz.underlying9 t0; obtain ⟨n1, e1, _, _⟩ := DataW.trod_int (P := Tryz.prog) (t := 3) Tryz.underlying3 t1; injection e0 with e0 _; injection e1 with e1 _; subst e0 e1; exact ⟨(s, n1), c0, c1, by unfold maxLen at hs; simp only; omega⟩
   obtain ⟨ns, hpl, hp⟩ := pick_list noName _ len key; refine ⟨_, _, _, ns, hcs, hl, hm, ⟨hpl, fun hn => ?_⟩, fun i hil => (hp i hil).2.2⟩; obtain ⟨b, off, rfl, hb⟩ := addr_form (by simpa using (hp 0 hn).1); refine ⟨b, off, rfl, hb, fun i hil => ?_⟩; have := hp i hil; simp only [add_none, ← Nat.add_assoc] at this; exact ⟨this.1, this.2.1⟩
end
structure OpenDisk (w : World) (z : DH × DiskV) : Prop where
 rd : RdD w w.heap.size z.1 z.2
 lim : LimD z.1 z.2
set_option maxRecDepth 8000 in
theorem openArg_Disk {b0 : Nat} {H : Type} {enc : TypeId × Value → H} {W : World} {v : Value} {d : DataW H} {p : List MemPlace} (hv : Value.okWide Tryz.prog W .any b0 45 v)
 (h : DataW.Trod enc Tryz.prog W 0 (fun _ => true) true 45 v d p) (lt : ∀ x ∈ p, x.block < W.heap.size) : ∃ z : DH × DiskV, v = dkv z.1 z.2 ∧ OpenDisk W z := by
 obtain ⟨cs, rfl, hsz⟩ := okWide_struct Tryz.underlying45 hv; obtain ⟨fuel, hf⟩ := h; rw [show Tryz.prog.cellsOf 45 = 7 by kernel_rfl] at hsz; obtain ⟨c0, c1, c2, c3, c4, c5, c6, rfl⟩ : ∃ c0 c1 c2 c3 c4 c5 c6, cs = #[c0, c1, c2, c3, c4, c5, c6] := by
  obtain ⟨l⟩ := cs; match l, hsz with
  | [c0, c1, c2, c3, c4, c5, c6], _ => exact ⟨c0, c1, c2, c3, c4, c5, c6, rfl⟩
 have hf' : DataW.trod enc Tryz.prog W 0 (fun _ => true) true fuel 45 [c0, c1, c2, c3, c4, c5, c6] = some (d, p) := hf; obtain ⟨_, n, hn⟩ := open_fields Tryz.underlying45 hf'; obtain ⟨y0, f0⟩ := hn 0 _ 1 rfl (by kernel_rfl); obtain ⟨y1, f1⟩ := hn 1 _ 1 rfl (by kernel_rfl); obtain ⟨y2, f2⟩ := hn 2 _ 3 rfl (by kernel_rfl); obtain ⟨y3, f3⟩ := hn 3 _ 1 rfl (by kernel_rfl); obtain ⟨y4, f4⟩ := hn 4 _ 1 rfl (by kernel_rfl); replace f0 : DataW.trod enc Tryz.prog W 0 (fun _ => true) true n 40 [c0] = some y0 := f0; replace f1 : DataW.trod enc Tryz.prog W 0 (fun _ => true) true n 41 [c1] = some y1 := f1; replace f2 : DataW.trod enc Tryz.prog W 0 (fun _ => true) true n 42 [c2, c3, c4] = some y2 := f2; replace f3 : DataW.trod enc Tryz.prog W 0 (fun _ => true) true n 3 [c5] = some y3 := f3; replace f4 : DataW.trod enc Tryz.prog W 0 (fun _ => true) true n 43 [c6] = some y4 := f4; obtain ⟨_, n1, hn1⟩ := open_fields Tryz.underlying41 f1; obtain ⟨y5, f5⟩ := hn1 0 _ 1 rfl (by kernel_rfl); replace f5 : DataW.trod enc Tryz.prog W 0 (fun _ => true) true n1 24 [c1] = some y5 := f5; obtain ⟨_, n2, hn2⟩ := open_fields Tryz.underlying42 f2; obtain ⟨y6, f6⟩ := hn2 0 _ 1 rfl (by kernel_rfl); obtain ⟨y7, f7⟩ := hn2 1 _ 1 rfl (by kernel_rfl); obtain ⟨y8, f8⟩ := hn2 2 _ 1 rfl (by kernel_rfl); replace f6 : DataW.trod enc Tryz.prog W 0 (fun _ => true) true n2 3 [c2] = some y6 := f6; replace f7 : DataW.trod enc Tryz.prog W 0 (fun _ => true) true n2 3 [c3] = some y7 := f7; replace f8 : DataW.trod enc Tryz.prog W 0 (fun _ => true) true n2 3 [c4] = some y8 := f8
 obtain ⟨bA, bn, bc, bs, rfl, b1, b2, b3⟩ := trodBlocks f0; obtain ⟨tA, tn, tc, ts, rfl, t1, t2, t3⟩ := trodIntSS f5; obtain ⟨nA, nn, nc, ns, rfl, n1, n2, n3, n4⟩ := trodNames f4; obtain ⟨x, e2, _, _⟩ := DataW.trod_int (P := Tryz.prog) (t := 3) Tryz.underlying3 f6; obtain ⟨y, e3, _, _⟩ := DataW.trod_int (P := Tryz.prog) (t := 3) Tryz.underlying3 f7; obtain ⟨z, e4, _, _⟩ := DataW.trod_int (P := Tryz.prog) (t := 3) Tryz.underlying3 f8; obtain ⟨st, e5, _, _⟩ := DataW.trod_int (P := Tryz.prog) (t := 3) Tryz.underlying3 f3; injection e2 with e2 _; injection e3 with e3 _; injection e4 with e4 _; injection e5 with e5 _; subst e2 e3 e4 e5; unfold maxLen at *; exact ⟨(⟨bA, bn, bc, tA, tn, tc, nA, nn, nc⟩, ⟨bs, ts, x, y, z, st, ns⟩), rfl, ⟨b3, t3, n3⟩, ⟨by simp only; omega, by simp only; omega, by simp only; omega, n4⟩⟩
end Go.Proofs.YtefdjahaimnndaaGreatDoor
