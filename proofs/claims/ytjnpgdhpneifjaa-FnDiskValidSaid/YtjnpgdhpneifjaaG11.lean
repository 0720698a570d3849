/- Parts of the proof, one after the other; each says what it proves. -/
import Derived.Test.YtjnpgdhpneifjaaG6
import Derived.Test.YtjnpgdhpneifjaaG10
import Derived.Laws.BytesArg
import Derived.Test.YtjnpgdhpneifjaaG8
/- The laws' helpers on names: size, copy, compare, mark, look. Conditions: lengths of at most 2^20. -/
namespace Go.Proofs.Ytjnpgdhpneifjaa
open Go.ChangeShapes Go.WideShapes Go.ChangeAt Go.RowKit Go.Deep
set_option linter.unusedVariables false
set_option linter.unusedSimpArgs false

def LimN (ns : List NameV) (n : Nat) : Prop := ∀ i, i < n → (ns.getD i noName).1.size ≤ 9223372036854775807
def SmallN (ns : List NameV) (n : Nat) (left : Int) : Prop := ∀ i, i < n → ((ns.getD i noName).1.size : Int) ≤ left
theorem szName_c {s : ByteArray} {f left : Int} {w : World} (h0 : 0 ≤ left) (h1 : left ≤ 1048576) (hm : s.size ≤ 9223372036854775807) :
    Calls Try.prog 100 #[.agg #[.string s, .int .i64 f], .int .i64 left] w fun e w' => SzOk left ((s.size : Int) ≤ left) e ∧ Below w.heap.size w w' := by
  by_cases h : (s.size : Int) ≤ left
  · go_enter Try.func100, Try.ntmps100
    go_wp2
    go_ret
    exact ⟨⟨_, rfl, by omega, by omega, fun _ => h⟩, (Below.refl _ _).alloc (Nat.le_refl _) _⟩
  · go_enter Try.func100, Try.ntmps100
    go_wp2
    go_ret
    exact ⟨⟨_, rfl, by omega, by omega, fun h => by omega⟩, (Below.refl _ _).alloc (Nat.le_refl _) _⟩
theorem szNameS_c {A : Option Addr} {n c B : Nat} {ns : List NameV} {left : Int} {w : World} (hr : RdN w B A n ns) (hB : B ≤ w.heap.size) (h0 : 0 ≤ left) (h1 : left ≤ 1048576) (hm : n ≤ 9223372036854775807) (hlim : LimN ns n) :
    Calls Try.prog 64 #[.slice A n c, .int .i64 left] w fun e w' => SzOk left ((n : Int) ≤ left ∧ SmallN ns n left) e ∧ Below w.heap.size w w' := by
  have HLM := Lib.hid hlim
  clear hlim
  by_cases h : (n : Int) ≤ left
  · go_enter Try.func64, Try.ntmps64
    go_wp2
    go_loopw [1, 5] (fun s i wr => ∃ (k : Nat) (l : Int), k ≤ n ∧ i = .int .i64 k ∧ s = .int .i64 l ∧ 0 ≤ l ∧ l ≤ left ∧ SmallN ns k left ∧ Below w.heap.size w wr) (fun _ i _ => n - (intOf i).toNat)
    case atStart => exact ⟨0, left - n, Nat.zero_le _, rfl, rfl, by omega, by omega, fun i hi => absurd hi (Nat.not_lt_zero _), Below.refl _ _⟩
    case round =>
      obtain ⟨k, l, hk, rfl, rfl, hl0, hl1, hsm, hbl⟩ := hrel
      have HS := Lib.hid hsm
      have HB := Lib.hid hbl
      by_cases hlt : k < n
      · obtain ⟨b, off, rfl, hbB, hc⟩ := hr.at_ (by omega)
        obtain ⟨e0, e1⟩ := hc k hlt
        have hbs : b < w.heap.size := by omega
        replace e0 := (hbl.cell (p := ⟨b, off + k * 2, none⟩) hbs).trans e0
        replace e1 := (hbl.cell (p := ⟨b, off + k * 2 + 1, none⟩) hbs).trans e1
        have hlk := HLM.out k hlt
        obtain ⟨P, hP⟩ : ∃ P, ns.getD k noName = P := ⟨_, rfl⟩
        rw [hP] at e0 e1 hlk
        have HP := Lib.hid hP
        obtain ⟨s, f⟩ := P
        simp only at e0 e1 hlk
        clear hc hr hsm hbl hP
        go_wp2_with fail
        refine (szName_c hl0 (by omega) hlk).mono ?_
        rintro e w2 ⟨⟨r, rfl, r1, r2, r3⟩, hb2⟩
        have HR := Lib.hid r3
        have HB2 := Lib.hid (HB.out.trans (hb2.mono HB.out.size))
        clear r3 hb2 e0 e1
        by_cases hneg : r < 0
        · go_wp2
          go_ret
          exact ⟨⟨_, rfl, by omega, by omega, fun h => by omega⟩, HB2.out⟩
        · have HS2 := Lib.hid (show SmallN ns (k + 1) left from fun i hi => by
            by_cases e : i = k
            · subst e; rw [HP.out]; have := HR.out (by omega); simp only; omega
            · exact HS.out i (by omega))
          go_wp2
          go_roundw
          case rel => exact ⟨k + 1, r, by omega, by go_num, rfl, by omega, by omega, HS2.out, HB2.out⟩
          case measure => simp [intOf]; omega
      · obtain rfl : k = n := by omega
        clear hsm hbl
        go_wp2
        go_ret
        exact ⟨⟨_, rfl, by omega, hl1, fun _ => by first | exact ⟨h, HS.out⟩ | exact HS.out⟩, HB.out⟩
  · go_enter Try.func64, Try.ntmps64
    go_wp2
    go_ret
    exact ⟨⟨_, rfl, by omega, by omega, fun h => by omega⟩, Below.refl _ _⟩
theorem toName_c (s : ByteArray) (f : Int) (w : World) :
    Calls Try.prog 104 #[.agg #[.string s, .int .i64 f]] w fun e w' => e = .returned (.agg #[.string s, .int .i64 f]) ∧ Below w.heap.size w w' := by
  go_enter Try.func104, Try.ntmps104
  go_wp2
  go_returns
  exact ⟨rfl, (((Below.refl _ _).alloc (Nat.le_refl _) _).alloc (by simp) _).alloc (by simp; omega) _⟩
theorem toNameS_c {A : Option Addr} {c B : Nat} {ns : List NameV} {w : World} (hr : RdN w B A ns.length ns) (hB : B ≤ w.heap.size) (hn : ns.length ≤ 1048576) :
    Calls Try.prog 72 #[.slice A ns.length c] w fun e w' => ∃ A' c', e = .returned (.slice A' ns.length c') ∧ OwN w' w.heap.size A' ns.length c' ns ∧ Below w.heap.size w w' := by
  have hmk := makeName ns.length hn
  have hst := Lib.hid (own_madeNames w w.heap.size ns.length ns rfl (Nat.le_refl _) hn)
  generalize hl : ns.length = n at *
  have HL := Lib.hid hl
  clear hl
  go_enter Try.func72, Try.ntmps72
  go_wp2
  go_loopw [4] (fun i wr => ∃ k : Nat, k ≤ n ∧ i = .int .i64 k ∧ OwN wr w.heap.size (some ⟨w.heap.size, 0, none⟩) n n (fillTo noName ns k) ∧ Below w.heap.size w wr) (fun i _ => n - (intOf i).toNat)
  case atStart => exact ⟨0, Nat.zero_le _, rfl, hst.out, (Below.refl _ _).alloc (Nat.le_refl _) _⟩
  case round =>
    obtain ⟨k, hk, rfl, hown, hbel⟩ := hrel
    by_cases hlt : k < n
    · obtain ⟨b, off, rfl, hbB, hc⟩ := hr.at_ (by omega)
      obtain ⟨c0, c1⟩ := hc k hlt
      have hbs : b < w.heap.size := by omega
      replace c0 := (hbel.cell (p := ⟨b, off + k * 2, none⟩) hbs).trans c0
      replace c1 := (hbel.cell (p := ⟨b, off + k * 2 + 1, none⟩) hbs).trans c1
      have hfs := fillTo_set noName ns (k := k) (by have := HL.out; omega)
      generalize ns.getD k noName = P at *
      obtain ⟨s, f⟩ := P
      simp only at c0 c1
      have HF := Lib.hid hfs
      have HO := Lib.hid hown
      have HB := Lib.hid hbel
      clear hc hr hfs hown hbel hmk
      go_wp2_with fail
      refine (toName_c s f _).mono ?_
      rintro e w2 ⟨rfl, hb2⟩
      have ho2 := HO.out.below hb2
      have HB2 := Lib.hid (HB.out.trans (hb2.mono HB.out.size))
      obtain ⟨f0, f1, z0, z1⟩ := ho2.cells k hlt
      have hput := (ho2.put k hlt (s, f)).1
      rw [HF.out] at hput
      have HP := Lib.hid hput
      generalize (fillTo noName ns k).getD k noName = Q at *
      clear ho2 hb2 hput c0 c1
      go_wp2_with fail
      go_roundw
      case rel => exact ⟨k + 1, by omega, by go_num, HP.out, (HB2.out.setCell (p := ⟨w.heap.size, k * 2, none⟩) (Nat.le_refl _) _).setCell (p := ⟨w.heap.size, k * 2 + 1, none⟩) (Nat.le_refl _) _⟩
      case measure => simp [intOf]; omega
    · obtain rfl : k = n := by omega
      have how : OwN wr w.heap.size (some ⟨w.heap.size, 0, none⟩) k k ns := by rw [← HL.out, fillTo_all, HL.out] at hown; exact hown
      have HO := Lib.hid how
      clear hmk hown how
      go_wp2
      go_ret
      exact ⟨_, _, rfl, HO.out, hbel⟩
theorem eqName_same (s : ByteArray) (f : Int) (w : World) :
    Calls Try.prog 86 #[.agg #[.string s, .int .i64 f], .agg #[.string s, .int .i64 f]] w fun e w' => e = .returned (.bool true) ∧ Below w.heap.size w w' := by
  go_enter Try.func86, Try.ntmps86
  go_wp2
  go_ret
  exact ⟨rfl, ((Below.refl _ _).alloc (Nat.le_refl _) _).alloc (by simp) _⟩
theorem eqNameS_same {A A' : Option Addr} {n c c' B B' : Nat} {ns : List NameV} {w : World} (hr : RdN w B A n ns) (hr' : RdN w B' A' n ns) (hn : n ≤ 9000000000000) :
    Calls Try.prog 48 #[.slice A n c, .slice A' n c'] w fun e w' => e = .returned (.bool true) ∧ Below w.heap.size w w' := by
  go_enter Try.func48, Try.ntmps48
  go_wp2
  go_loopw [5] (fun i wr => ∃ k : Nat, k ≤ n ∧ i = .int .i64 k ∧ Below w.heap.size w wr) (fun i _ => n - (intOf i).toNat)
  case atStart => exact ⟨0, Nat.zero_le _, rfl, Below.refl _ _⟩
  case round =>
    obtain ⟨k, hk, rfl, hbel⟩ := hrel
    by_cases hlt : k < n
    · obtain ⟨b, off, rfl, hbB, hc⟩ := hr.at_ (by omega)
      obtain ⟨b', off', rfl, hbB', hc'⟩ := hr'.at_ (by omega)
      obtain ⟨c0, c1⟩ := hc k hlt
      obtain ⟨d0, d1⟩ := hc' k hlt
      have l0 := block_lt_of_cell c0
      have l1 := block_lt_of_cell d0
      replace c0 := (hbel.cell (p := ⟨b, off + k * 2, none⟩) l0).trans c0
      replace c1 := (hbel.cell (p := ⟨b, off + k * 2 + 1, none⟩) l0).trans c1
      replace d0 := (hbel.cell (p := ⟨b', off' + k * 2, none⟩) l1).trans d0
      replace d1 := (hbel.cell (p := ⟨b', off' + k * 2 + 1, none⟩) l1).trans d1
      generalize ns.getD k noName = P at *
      obtain ⟨s, f⟩ := P
      have HB := Lib.hid hbel
      clear hc hr hc' hr' hbel
      go_wp2_with fail
      go_region_with (go_at_call 86; refine (eqName_same s f _).mono ?_; rintro e w2 ⟨rfl, hb2⟩)
      all_goals
        go_wp2_with fail
        go_roundw
        case rel => exact ⟨k + 1, by omega, by go_num, HB.out.drew.trans (hb2.mono HB.out.size)⟩
        case measure => simp [intOf]; omega
    · have hkn : k = n := by omega
      subst hkn
      go_wp2
      go_ret
      exact ⟨rfl, hbel⟩

/-! ### the text of a mark -/
def mtGo (k : Nat) (out : ByteArray) : ByteArray := if h : k = 0 then out else mtGo (k / 10) (strOfNums [48 + (k : Int) % 10] ++ out)
termination_by k
decreasing_by omega
def noStr : ByteArray := ⟨#[]⟩
def mt (k : Int) : ByteArray := if k ≤ 0 then ⟨#[109, 48]⟩ else (⟨#[109]⟩ : ByteArray) ++ mtGo k.toNat noStr
theorem ret_str {a b : ByteArray} (h : a = b) : Ending.returned (.string a) = .returned (.string b) := by rw [h]
theorem strOne (x : Int) : (strOfNums [x]).size = 1 := by simp [strOfNums, ByteArray.size]
theorem pow_size {q s : Nat} (hq : 1 ≤ q) (h : q * 10 ^ s ≤ 1000000000000000) : s ≤ 15 := by
  rcases Nat.lt_or_ge s 16 with h1 | h1
  · omega
  · have h2 : 10 ^ 16 ≤ 10 ^ s := Nat.pow_le_pow_right (by omega) h1
    have h3 : 10 ^ s ≤ q * 10 ^ s := Nat.le_mul_of_pos_left _ (by omega)
    have h4 : (10 : Nat) ^ 16 = 10000000000000000 := by decide
    omega
theorem pow_step {q s : Nat} (h : q * 10 ^ s ≤ 1000000000000000) : q / 10 * 10 ^ (1 + s) ≤ 1000000000000000 := by
  have e : q / 10 * 10 ^ (1 + s) = (q / 10 * 10) * 10 ^ s := by rw [Nat.pow_add, Nat.pow_one, Nat.mul_assoc]
  have h2 : q / 10 * 10 ≤ q := by omega
  rw [e]
  exact Nat.le_trans (Nat.mul_le_mul_right _ h2) h
theorem markText_c (k : Int) (w : World) (h1 : k ≤ 1000000000000000) :
    Calls Try.prog 89 #[.int .i64 k] w fun e w' => e = .returned (.string (mt k)) ∧ Below w.heap.size w w' := by
  by_cases h : k ≤ 0
  · have HM := Lib.hid (show mt k = ⟨#[109, 48]⟩ by unfold mt; rw [if_pos h])
    go_enter Try.func89, Try.ntmps89
    go_wp2
    go_ret
    exact ⟨ret_str HM.out.symm, Below.refl _ _⟩
  · obtain ⟨n, rfl⟩ := Int.eq_ofNat_of_zero_le (show 0 ≤ k by omega)
    have HM := Lib.hid (show mt (n : Int) = (⟨#[109]⟩ : ByteArray) ++ mtGo n noStr by unfold mt; rw [if_neg h]; rfl)
    go_enter Try.func89, Try.ntmps89
    go_wp2
    go_loopw [0, 3] (fun kk o wr => ∃ (q : Nat) (s : ByteArray), q ≤ 1000000000000000 ∧ kk = .int .i64 q ∧ o = .string s ∧ mtGo q s = mtGo n noStr ∧ q * 10 ^ s.size ≤ 1000000000000000 ∧ s.size ≤ 16 ∧ Below w.heap.size w wr) (fun kk _ _ => (intOf kk).toNat)
    case atStart => exact ⟨n, noStr, by omega, rfl, rfl, rfl, by show n * 10 ^ 0 ≤ _; omega, by show 0 ≤ 16; omega, Below.refl _ _⟩
    case round =>
      obtain ⟨q, s, hq, rfl, rfl, hmq, hpw, hs16, hbl⟩ := hrel
      have HMQ := Lib.hid hmq
      have HB := Lib.hid hbl
      have HPW := Lib.hid hpw
      clear hmq hpw
      by_cases h0 : q = 0
      · subst h0
        have hz : mtGo 0 s = s := by rw [mtGo]; rfl
        rw [hz] at HMQ
        have hone : (⟨#[109]⟩ : ByteArray).size = 1 := rfl
        clear hz
        go_wp2
        go_ret
        exact ⟨ret_str (by rw [HM.out, ← HMQ.out]), HB.out⟩
      · have hq1 : (1 : Int) ≤ q := by omega
        have hs15 : s.size ≤ 15 := pow_size (by omega) HPW.out
        have HN := Lib.hid (show mtGo q s = mtGo (q / 10) (strOfNums [48 + (q : Int) % 10] ++ s) by rw [mtGo, dif_neg h0])
        have hso := strOne (48 + (q : Int) % 10)
        have hcv : ∀ (W : World) (x : Int), (convert 29 9 (.slice (some ⟨W.heap.size, 0, none⟩) 1 1)).run Try.prog (W.alloc (.cells #[.int .u8 x] 5)) = .ok (.string (strOfNums [x])) (W.alloc (.cells #[.int .u8 x] 5)) := fun W x =>
          run_convert_bytes_arg _ 29 5 Try.underlying29 Try.underlying5 _ _ 1 1 [x] rfl (fun i hi => by
            obtain rfl : i = 0 := by omega
            exact (Blk.new W 5 #[.int .u8 x]).cell 0) 9 Try.underlying9
        have hbs := hbl.size
        clear hbl
        go_wp2
        go_roundw
        case rel => exact ⟨q / 10, _, by omega, by go_num, rfl, by rw [← HN.out]; exact HMQ.out, by rw [ByteArray.size_append, strOne]; exact pow_step HPW.out, by rw [ByteArray.size_append, strOne]; omega, HB.out.alloc hbs _⟩
        case measure => simp [intOf]; omega

def markN (k : Int) : NameV := (mt k, k + 1)
def marksN (k : Int) (n : Nat) : List NameV := (List.range n).map fun (i : Nat) => markN (k + 2 * (i : Int))
theorem marksN_len (k : Int) (n : Nat) : (marksN k n).length = n := by simp [marksN]
theorem markNameS_c {A : Option Addr} {n c base : Nat} {ns : List NameV} {w : World} {k0 : Int} (hown : OwN w base A n c ns) (hbase : base ≤ w.heap.size) (hk0 : 0 ≤ k0) (hk1 : k0 ≤ 100000000000000) (hn : n ≤ 1048576) :
    Calls Try.prog 51 #[.slice A n c, .int .i64 k0] w fun e w' => e = .returned (.int .i64 (k0 + 2 * n)) ∧ OwN w' base A n c (marksN k0 n) ∧ ChgT [90] w w' ∧ Below base w w' := by
  have HL := Lib.hid hown.len
  have HML := Lib.hid (show (marksN k0 n).length = ns.length by rw [marksN_len, hown.len])
  go_enter Try.func51, Try.ntmps51
  go_wp2
  go_loopw [1, 5] (fun kk i wr => ∃ j : Nat, j ≤ n ∧ i = .int .i64 j ∧ kk = .int .i64 (k0 + 2 * j) ∧ OwN wr base A n c (repTo (marksN k0 n) ns j) ∧ ChgT [90] w wr ∧ Below base w wr) (fun _ i _ => n - (intOf i).toNat)
  case atStart => exact ⟨0, Nat.zero_le _, rfl, by simp, by rw [repTo_zero]; exact hown, ChgT.refl _ _, Below.refl _ _⟩
  case round =>
    obtain ⟨j, hj, rfl, rfl, howr, hg, hbl⟩ := hrel
    by_cases hlt : j < n
    · obtain ⟨g, rfl, hg1, hg2⟩ := howr.form (by omega)
      have O1 := Lib.hid howr
      have B1 := Lib.hid hbl
      have G1 := Lib.hid hg
      have hbz : base ≤ wr.heap.size := by omega
      clear howr hown hg hbl
      go_wp2_with fail
      refine (markText_c (k0 + 2 * (j : Int)) _ (by omega)).mono ?_
      rintro e w2 ⟨rfl, hb2⟩
      have o2 := O1.out.below hb2
      obtain ⟨f0, f1, z0, z1⟩ := o2.cells j hlt
      have hput := o2.put j hlt (markN (k0 + 2 * (j : Int)))
      have hset := repTo_set noName (m := marksN k0 n) (xs := ns) (j := j) HML.out (by have := HL.out; omega)
      have hgm : (marksN k0 n).getD j noName = markN (k0 + 2 * (j : Int)) := getD_mapRange noName _ hlt
      rw [hgm] at hset
      rw [hset] at hput
      have hbx := (hb2.mono hbz).trans (below_row o2 hput.2 (by have := hb2.size; omega))
      have hgx := (ChgT.of_below (ts := [90]) hb2).trans (ChgT.grown o2 (by simp) hput.2)
      unfold markN at hput hbx hgx
      simp only at hput hbx hgx
      have HP := Lib.hid hput.1
      have HB := Lib.hid (B1.out.trans hbx)
      have HG := Lib.hid (G1.out.trans hgx)
      generalize (repTo (marksN k0 n) ns j).getD j noName = Q at *
      generalize mt (k0 + 2 * (j : Int)) = mm at *
      clear hput hset hgm hbx hgx o2 hb2
      go_wp2
      go_roundw
      case rel => exact ⟨j + 1, by omega, by go_num, by go_num, HP.out, HG.out, HB.out⟩
      case measure => simp [intOf]; omega
    · obtain rfl : j = n := by omega
      have how : OwN wr base A j c (marksN k0 j) := by
        have := repTo_all HML.out
        rw [HL.out] at this
        rw [this] at howr
        exact howr
      have HO := Lib.hid how
      clear howr hown how
      go_wp2
      go_ret
      exact ⟨rfl, HO.out, hg, hbl⟩
theorem heldNameS_c {A : Option Addr} {n c B : Nat} {w : World} {k0 : Int} (hr : RdN w B A n (marksN k0 n)) (hB : B ≤ w.heap.size) (hk0 : 0 ≤ k0) (hk1 : k0 ≤ 100000000000000) (hn : n ≤ 1048576) :
    Calls Try.prog 54 #[.slice A n c, .int .i64 k0] w fun e w' => e = .returned (.int .i64 (k0 + 2 * n)) ∧ Below w.heap.size w w' := by
  go_enter Try.func54, Try.ntmps54
  go_wp2
  go_loopw [1, 5] (fun kk i wr => ∃ j : Nat, j ≤ n ∧ i = .int .i64 j ∧ kk = .int .i64 (k0 + 2 * j) ∧ Below w.heap.size w wr) (fun _ i _ => n - (intOf i).toNat)
  case atStart => exact ⟨0, Nat.zero_le _, rfl, by simp, Below.refl _ _⟩
  case round =>
    obtain ⟨j, hj, rfl, rfl, hbl⟩ := hrel
    by_cases hlt : j < n
    · obtain ⟨b, off, rfl, hbB, hc⟩ := hr.at_ (by omega)
      obtain ⟨c0, c1⟩ := hc j hlt
      have hbs : b < w.heap.size := by omega
      replace c0 := (hbl.cell (p := ⟨b, off + j * 2, none⟩) hbs).trans c0
      have hgm : (marksN k0 n).getD j noName = markN (k0 + 2 * (j : Int)) := getD_mapRange noName _ hlt
      rw [hgm] at c0 c1
      unfold markN at c0 c1
      simp only at c0 c1
      have HB := Lib.hid hbl
      have hsz := hbl.size
      clear hr hc hgm hbl
      go_wp2_with fail
      have hbw : b < wr.heap.size := by omega
      have C1 := Lib.hid c1
      have hmt := fun (W : World) => markText_c (k0 + 2 * (j : Int)) W (by omega)
      have HMT := Lib.hid hmt
      clear c1 hmt
      generalize mt (k0 + 2 * (j : Int)) = mm at *
      go_region_with (go_at_call 89; refine (HMT.out _).mono ?_; rintro e w2 ⟨rfl, hb2⟩; have c0' := (hb2.cell (p := ⟨b, off + j * 2, none⟩) hbw).trans c0)
      all_goals
        have d1 := ((HB.out.drew.trans (hb2.mono hsz)).cell (p := ⟨b, off + j * 2 + 1, none⟩) hbs).trans C1.out
        have HB2 := Lib.hid (HB.out.drew.trans (hb2.mono hsz))
        clear hb2 c0
        go_wp2
        go_roundw
        case rel => exact ⟨j + 1, by omega, by go_num, by go_num, HB2.out⟩
        case measure => simp [intOf]; omega
    · obtain rfl : j = n := by omega
      go_wp2
      go_ret
      exact ⟨rfl, hbl⟩
end Go.Proofs.Ytjnpgdhpneifjaa

/- Disks: how they read, how they are owned. No condition. -/
namespace Go.Proofs.Ytjnpgdhpneifjaa
open Go.ChangeShapes Go.WideShapes Go.ChangeAt Go.RowKit Go.Deep
set_option linter.unusedVariables false
set_option linter.unusedSimpArgs false

structure DiskV where
  bs : List BlockV
  ts : List (List Int)
  hot : Int
  warm : Int
  cold : Int
  stamp : Int
  ns : List NameV
/-- where the three slices of a disk lie -/
structure DH where
  bA : Option Addr
  bn : Nat
  bc : Nat
  tA : Option Addr
  tn : Nat
  tc : Nat
  nA : Option Addr
  nn : Nat
  nc : Nat
abbrev dkv (h : DH) (d : DiskV) : Value := .agg #[.slice h.bA h.bn h.bc, .slice h.tA h.tn h.tc, .int .i64 d.hot, .int .i64 d.warm, .int .i64 d.cold, .int .i64 d.stamp, .slice h.nA h.nn h.nc]
structure RdD (w : World) (B : Nat) (h : DH) (d : DiskV) : Prop where
  b : RdB w B h.bA h.bn d.bs
  t : RdT w B h.tA h.tn d.ts
  n : RdN w B h.nA h.nn d.ns
theorem RdD.mono {w B B' h d} (r : RdD w B h d) (hB : B ≤ B') : RdD w B' h d := ⟨r.b.mono hB, r.t.mono hB, r.n.mono hB⟩
theorem RdD.below {w w' B h d} (r : RdD w B h d) (hb : Below B w w') : RdD w' B h d := ⟨r.b.below hb, r.t.below hb, r.n.below hb⟩
theorem RdD.drew {w B h d} (r : RdD w B h d) : RdD w.drew B h d := ⟨r.b.drew, r.t.drew, r.n.drew⟩
structure OwD (w : World) (base : Nat) (h : DH) (d : DiskV) : Prop where
  b : OwB w base h.bA h.bn h.bc d.bs
  t : OwT w base h.tA h.tn h.tc d.ts
  n : OwN w base h.nA h.nn h.nc d.ns
theorem OwD.below {w w' base h d} (r : OwD w base h d) (hb : Below w.heap.size w w') : OwD w' base h d := ⟨r.b.below hb, r.t.below hb, r.n.below hb⟩
theorem OwD.lower {w base base' h d} (r : OwD w base h d) (hb : base' ≤ base) : OwD w base' h d := ⟨r.b.lower hb, r.t.lower hb, r.n.lower hb⟩
theorem OwD.rd {w base h d} (r : OwD w base h d) : RdD w w.heap.size h d := ⟨r.b.rd, r.t.rd, r.n.rd⟩
theorem OwD.typed {ts : List Nat} {w w' base h d} (r : OwD w base h d) (hc : ChgT ts w w') (h1 : 67 ∉ ts) (h2 : 102 ∉ ts) (h3 : 76 ∉ ts) (h4 : 3 ∉ ts) (h5 : 90 ∉ ts) : OwD w' base h d :=
  ⟨r.b.typed hc h1 h2, r.t.typed hc h3 h4, r.n.typed hc h5⟩
/-- sizes of a disk that the laws let in -/
structure SmallD (h : DH) (d : DiskV) : Prop where
  b : h.bn ≤ 1048576
  t : h.tn ≤ 1048576
  n : h.nn ≤ 1048576
  bs : SmallB d.bs h.bn 1048576
  ts : SmallT d.ts h.tn 1048576
  ns : SmallN d.ns h.nn 1048576
/-- the same sizes, said of the disk alone -/
structure SmallDV (d : DiskV) : Prop where
  b : d.bs.length ≤ 1048576
  t : d.ts.length ≤ 1048576
  n : d.ns.length ≤ 1048576
  bs : SmallB d.bs d.bs.length 1048576
  ts : SmallT d.ts d.ts.length 1048576
  ns : SmallN d.ns d.ns.length 1048576
theorem SmallD.v {w B h d} (s : SmallD h d) (r : RdD w B h d) : SmallDV d := by
  have e1 := r.b.len
  have e2 := r.t.len
  have e3 := r.n.len
  exact ⟨by rw [e1]; exact s.b, by rw [e2]; exact s.t, by rw [e3]; exact s.n, by rw [e1]; exact s.bs, by rw [e2]; exact s.ts, by rw [e3]; exact s.ns⟩
theorem SmallDV.h {w B h d} (s : SmallDV d) (r : RdD w B h d) : SmallD h d := by
  have e1 := r.b.len
  have e2 := r.t.len
  have e3 := r.n.len
  exact ⟨by rw [← e1]; exact s.b, by rw [← e2]; exact s.t, by rw [← e3]; exact s.n, by rw [← e1]; exact s.bs, by rw [← e2]; exact s.ts, by rw [← e3]; exact s.ns⟩
/-- the seven cells of a disk stored -/
abbrev putDisk (w : World) (g : Nat) (h : DH) (d : DiskV) : World :=
  ((((((w.setCell ⟨g, 0, none⟩ (.slice h.bA h.bn h.bc)).setCell ⟨g, 1, none⟩ (.slice h.tA h.tn h.tc)).setCell ⟨g, 2, none⟩ (.int .i64 d.hot)).setCell ⟨g, 3, none⟩ (.int .i64 d.warm)).setCell ⟨g, 4, none⟩ (.int .i64 d.cold)).setCell ⟨g, 5, none⟩ (.int .i64 d.stamp)).setCell ⟨g, 6, none⟩ (.slice h.nA h.nn h.nc)
/-- a box of a disk known whole -/
abbrev BoxD (w : World) (g : Nat) (h : DH) (d : DiskV) : Prop := Blk w g 42 #[.slice h.bA h.bn h.bc, .slice h.tA h.tn h.tc, .int .i64 d.hot, .int .i64 d.warm, .int .i64 d.cold, .int .i64 d.stamp, .slice h.nA h.nn h.nc]
theorem blk_putDisk {w : World} {g : Nat} {v0 v1 v2 v3 v4 v5 v6 : Value} (k : Blk w g 42 #[v0, v1, v2, v3, v4, v5, v6]) (h : DH) (d : DiskV) : BoxD (putDisk w g h d) g h d ∧ ChgT [42] w (putDisk w g h d) := by
  have k0 := k.set_ 0 (.slice h.bA h.bn h.bc)
  have k1 := k0.set_ 1 (.slice h.tA h.tn h.tc)
  have k2 := k1.set_ 2 (.int .i64 d.hot)
  have k3 := k2.set_ 3 (.int .i64 d.warm)
  have k4 := k3.set_ 4 (.int .i64 d.cold)
  have k5 := k4.set_ 5 (.int .i64 d.stamp)
  have k6 := k5.set_ 6 (.slice h.nA h.nn h.nc)
  exact ⟨by simpa using k6, ((((((ChgT.blk k 0 _).trans (ChgT.blk k0 1 _)).trans (ChgT.blk k1 2 _)).trans (ChgT.blk k2 3 _)).trans (ChgT.blk k3 4 _)).trans (ChgT.blk k4 5 _)).trans (ChgT.blk k5 6 _)⟩
theorem below_putDisk {w0 w : World} {B g : Nat} (hb : Below B w0 w) (hg : B ≤ g) (h : DH) (d : DiskV) : Below B w0 (putDisk w g h d) :=
  ((((((hb.setCell (p := ⟨g, 0, none⟩) hg _).setCell (p := ⟨g, 1, none⟩) hg _).setCell (p := ⟨g, 2, none⟩) hg _).setCell (p := ⟨g, 3, none⟩) hg _).setCell (p := ⟨g, 4, none⟩) hg _).setCell (p := ⟨g, 5, none⟩) hg _).setCell (p := ⟨g, 6, none⟩) hg _
/-- the cells of a disk's box -/
theorem BoxD.all {w g h d} (k : BoxD w g h d) : w.cell? ⟨g, 0, none⟩ = some (.slice h.bA h.bn h.bc) ∧ w.cell? ⟨g, 1, none⟩ = some (.slice h.tA h.tn h.tc) ∧ w.cell? ⟨g, 2, none⟩ = some (.int .i64 d.hot) ∧ w.cell? ⟨g, 3, none⟩ = some (.int .i64 d.warm) ∧ w.cell? ⟨g, 4, none⟩ = some (.int .i64 d.cold) ∧ w.cell? ⟨g, 5, none⟩ = some (.int .i64 d.stamp) ∧ w.cell? ⟨g, 6, none⟩ = some (.slice h.nA h.nn h.nc) :=
  ⟨Blk.cell k 0, Blk.cell k 1, Blk.cell k 2, Blk.cell k 3, Blk.cell k 4, Blk.cell k 5, Blk.cell k 6⟩
theorem Blk.free7 {w g t cs} (k : Blk w g t cs) : w.frozen? ⟨g, 0, none⟩ = false ∧ w.frozen? ⟨g, 1, none⟩ = false ∧ w.frozen? ⟨g, 2, none⟩ = false ∧ w.frozen? ⟨g, 3, none⟩ = false ∧ w.frozen? ⟨g, 4, none⟩ = false ∧ w.frozen? ⟨g, 5, none⟩ = false ∧ w.frozen? ⟨g, 6, none⟩ = false :=
  ⟨k.frozen 0, k.frozen 1, k.frozen 2, k.frozen 3, k.frozen 4, k.frozen 5, k.frozen 6⟩
/-- the cells of a block of seven known whole -/
theorem Blk.all7 {w g t} {v0 v1 v2 v3 v4 v5 v6 : Value} (k : Blk w g t #[v0, v1, v2, v3, v4, v5, v6]) : w.cell? ⟨g, 0, none⟩ = some v0 ∧ w.cell? ⟨g, 1, none⟩ = some v1 ∧ w.cell? ⟨g, 2, none⟩ = some v2 ∧ w.cell? ⟨g, 3, none⟩ = some v3 ∧ w.cell? ⟨g, 4, none⟩ = some v4 ∧ w.cell? ⟨g, 5, none⟩ = some v5 ∧ w.cell? ⟨g, 6, none⟩ = some v6 :=
  ⟨k.cell 0, k.cell 1, k.cell 2, k.cell 3, k.cell 4, k.cell 5, k.cell 6⟩
theorem OwD.put {w base h d g} {v0 v1 v2 v3 v4 v5 v6 : Value} (o : OwD w base h d) (k : Blk w g 42 #[v0, v1, v2, v3, v4, v5, v6]) (h' : DH) (d' : DiskV) : OwD (putDisk w g h' d') base h d :=
  o.typed (blk_putDisk k h' d').2 (by decide) (by decide) (by decide) (by decide) (by decide)
end Go.Proofs.Ytjnpgdhpneifjaa

/- New disks, the program's and the reference's. No condition. -/
namespace Go.Proofs.Ytjnpgdhpneifjaa
open Go.ChangeShapes Go.WideShapes Go.ChangeAt Go.RowKit Go.Deep
set_option linter.unusedVariables false
set_option linter.unusedSimpArgs false

/-- a disk in new memory, returned -/
def OwnD (w0 : World) (d : DiskV) (e : Ending) (w' : World) : Prop := ∃ h, e = .returned (dkv h d) ∧ OwD w' w0.heap.size h d ∧ Below w0.heap.size w0 w'
def zeroDisk : DiskV := ⟨[], [], 0, 0, 0, 0, []⟩
def newDiskV (n : Nat) : DiskV := ⟨newDev n, emptyT, -1, -1, -1, 0, []⟩
def newDiskF (m : Int) : DiskV := if 1 ≤ m ∧ m ≤ 12 then newDiskV m.toNat else zeroDisk
theorem newDisk_small (m : Int) : SmallDV (newDiskF m) := by
  unfold newDiskF
  split
  · refine ⟨?_, ?_, ?_, fun i hi => ?_, fun i hi => ?_, fun i hi => absurd hi (Nat.not_lt_zero _)⟩
    · simp only [newDiskV, newDev_len]; omega
    · show 8 ≤ _; omega
    · show 0 ≤ _; omega
    · simp only [newDiskV, newDev_len] at hi
      simp only [newDiskV]
      rw [newDev_get hi]
      show (4 : Int) ≤ _
      omega
    · have hi8 : i < 8 := hi
      simp only [newDiskV, emptyT]
      rw [List.getD_eq_getElem?_getD, List.getElem?_replicate, if_pos hi8]
      show (6 : Int) ≤ _
      omega
  · exact ⟨by show 0 ≤ _; omega, by show 0 ≤ _; omega, by show 0 ≤ _; omega, fun i hi => absurd hi (Nat.not_lt_zero _), fun i hi => absurd hi (Nat.not_lt_zero _), fun i hi => absurd hi (Nat.not_lt_zero _)⟩
theorem newDisk_impl (m : Int) (w : World) : Calls Try.prog 18 #[.int .i64 m] w (OwnD w (newDiskF m)) := by
  have b1 : Below w.heap.size w (w.alloc (.cells #[.slice none 0 0, .slice none 0 0, .int .i64 0, .int .i64 0, .int .i64 0, .int .i64 0, .slice none 0 0] 42)) := (Below.refl _ _).alloc (Nat.le_refl _) _
  have K1 := Blk.new w 42 #[.slice none 0 0, .slice none 0 0, .int .i64 0, .int .i64 0, .int .i64 0, .int .i64 0, .slice none 0 0]
  have s1 : w.heap.size < (w.alloc (.cells #[.slice none 0 0, .slice none 0 0, .int .i64 0, .int .i64 0, .int .i64 0, .int .i64 0, .slice none 0 0] 42)).heap.size := by simp
  by_cases hm : 1 ≤ m ∧ m ≤ 12
  · have HE := Lib.hid (show newDiskF m = newDiskV m.toNat by unfold newDiskF; rw [if_pos hm])
    obtain ⟨n, rfl⟩ := Int.eq_ofNat_of_zero_le (show 0 ≤ m by omega)
    rw [Int.toNat_natCast] at HE
    have n1 : 1 ≤ n := by omega
    have n2 : n ≤ 12 := by omega
    have B1 := Lib.hid b1
    have K1' := Lib.hid K1
    clear hm b1 K1
    go_enter Try.func18, Try.ntmps18
    go_wp2_with fail
    generalize w.alloc (.cells #[.slice none 0 0, .slice none 0 0, .int .i64 0, .int .i64 0, .int .i64 0, .int .i64 0, .slice none 0 0] 42) = w1 at *
    refine (newDevice_impl n _ n1 n2).mono ?_
    rintro e w2 ⟨A2, c2, rfl, o2, b2⟩
    have K2 := Lib.hid (K1'.out.below b2 s1)
    have B2 := Lib.hid (B1.out.trans (b2.mono B1.out.size))
    have s2 : w.heap.size < w2.heap.size := by have := b2.size; omega
    have q1 := B1.out.size
    clear b2 K1' B1
    go_wp2_with fail
    refine (emptyTable_c _).mono ?_
    rintro e w3 ⟨A3, c3, rfl, o3, b3⟩
    have K3 := K2.out.below b3 s2
    have B3 := Lib.hid (B2.out.trans (b3.mono B2.out.size))
    have o2' := o2.below b3
    have q2 := B2.out.size
    have OD : OwD w3 w.heap.size ⟨A2, (newDev n).length, c2, A3, emptyT.length, c3, none, 0, 0⟩ (newDiskV n) := ⟨o2'.lower (by omega), o3.lower (by omega), OwN.nil _ _⟩
    have OP := OD.put K3 ⟨A2, (newDev n).length, c2, A3, emptyT.length, c3, none, 0, 0⟩ (newDiskV n)
    have KP := (blk_putDisk K3 ⟨A2, (newDev n).length, c2, A3, emptyT.length, c3, none, 0, 0⟩ (newDiskV n)).1
    have BP' := (below_putDisk B3.out (Nat.le_refl _) ⟨A2, (newDev n).length, c2, A3, emptyT.length, c3, none, 0, 0⟩ (newDiskV n))
    obtain ⟨t0, t1, t2, t3, t4, t5, t6⟩ := K3.all7
    obtain ⟨z0, z1, z2, z3, z4, z5, z6⟩ := K3.free7
    unfold newDiskV at OP KP BP'
    dsimp only [putDisk, BoxD] at OP KP BP'
    have BP := Lib.hid BP'
    have HO := Lib.hid OP
    have HK := Lib.hid KP
    clear b3 K2 B2 o2 o2' o3 OD OP KP K3 BP'
    go_wp2
    generalize (((((((w3.setCell ⟨w.heap.size, 0, none⟩ (.slice A2 (newDev n).length c2)).setCell ⟨w.heap.size, 1, none⟩ (.slice A3 emptyT.length c3)).setCell ⟨w.heap.size, 2, none⟩ (.int .i64 (-1))).setCell ⟨w.heap.size, 3, none⟩ (.int .i64 (-1))).setCell ⟨w.heap.size, 4, none⟩ (.int .i64 (-1))).setCell ⟨w.heap.size, 5, none⟩ (.int .i64 0)).setCell ⟨w.heap.size, 6, none⟩ (.slice none 0 0)) = wz at *
    obtain ⟨p0, p1, p2, p3, p4, p5, p6⟩ := HK.out.all7
    refine bodyPost_ret (by simp [results, Try.results18, go_sem, p0, p1, p2, p3, p4, p5, p6]; try rfl) rfl ?_
    rw [HE.out]
    exact ⟨_, rfl, HO.out, BP.out⟩
  · have HE := Lib.hid (show newDiskF m = zeroDisk by unfold newDiskF; rw [if_neg hm])
    have B1 := Lib.hid b1
    have K1' := Lib.hid K1
    clear b1 K1
    by_cases h1 : m < 1
    · go_enter Try.func18, Try.ntmps18
      go_wp2
      generalize w.alloc (.cells #[.slice none 0 0, .slice none 0 0, .int .i64 0, .int .i64 0, .int .i64 0, .int .i64 0, .slice none 0 0] 42) = w1 at *
      obtain ⟨p0, p1, p2, p3, p4, p5, p6⟩ := K1'.out.all7
      refine bodyPost_ret (by simp [results, Try.results18, go_sem, p0, p1, p2, p3, p4, p5, p6]; try rfl) rfl ?_
      rw [HE.out]
      exact ⟨⟨none, 0, 0, none, 0, 0, none, 0, 0⟩, rfl, ⟨OwB.nil _ _, OwT.nil _ _, OwN.nil _ _⟩, B1.out⟩
    · have h2 : 12 < m := by omega
      go_enter Try.func18, Try.ntmps18
      go_wp2
      generalize w.alloc (.cells #[.slice none 0 0, .slice none 0 0, .int .i64 0, .int .i64 0, .int .i64 0, .int .i64 0, .slice none 0 0] 42) = w1 at *
      obtain ⟨p0, p1, p2, p3, p4, p5, p6⟩ := K1'.out.all7
      refine bodyPost_ret (by simp [results, Try.results18, go_sem, p0, p1, p2, p3, p4, p5, p6]; try rfl) rfl ?_
      rw [HE.out]
      exact ⟨⟨none, 0, 0, none, 0, 0, none, 0, 0⟩, rfl, ⟨OwB.nil _ _, OwT.nil _ _, OwN.nil _ _⟩, B1.out⟩
theorem newDisk_spec (m : Int) (w : World) : Calls Try.prog 17 #[.int .i64 m] w (OwnD w (newDiskF m)) := by
  have b1 : Below w.heap.size w (w.alloc (.cells #[.slice none 0 0, .slice none 0 0, .int .i64 0, .int .i64 0, .int .i64 0, .int .i64 0, .slice none 0 0] 42)) := (Below.refl _ _).alloc (Nat.le_refl _) _
  have K1 := Blk.new w 42 #[.slice none 0 0, .slice none 0 0, .int .i64 0, .int .i64 0, .int .i64 0, .int .i64 0, .slice none 0 0]
  have s1 : w.heap.size < (w.alloc (.cells #[.slice none 0 0, .slice none 0 0, .int .i64 0, .int .i64 0, .int .i64 0, .int .i64 0, .slice none 0 0] 42)).heap.size := by simp
  by_cases hm : 1 ≤ m ∧ m ≤ 12
  · have HE := Lib.hid (show newDiskF m = newDiskV m.toNat by unfold newDiskF; rw [if_pos hm])
    obtain ⟨n, rfl⟩ := Int.eq_ofNat_of_zero_le (show 0 ≤ m by omega)
    rw [Int.toNat_natCast] at HE
    have n1 : 1 ≤ n := by omega
    have n2 : n ≤ 12 := by omega
    have B1 := Lib.hid b1
    have K1' := Lib.hid K1
    have hin : inB (n : Int) 1 12 = true := by rw [inB_t]; omega
    clear hm b1 K1
    go_enter Try.func17, Try.ntmps17
    go_wp2_with (go_at_call 32; refine (l1In_c _ _ _ _).mono ?_; rw [hin]; rintro e w' ⟨rfl, rfl⟩)
    generalize w.alloc (.cells #[.slice none 0 0, .slice none 0 0, .int .i64 0, .int .i64 0, .int .i64 0, .int .i64 0, .slice none 0 0] 42) = w1 at *
    refine (newDevice_spec n _ n1 n2).mono ?_
    rintro e w2 ⟨A2, c2, rfl, o2, b2⟩
    have K2 := Lib.hid (K1'.out.below b2 s1)
    have B2 := Lib.hid (B1.out.trans (b2.mono B1.out.size))
    have s2 : w.heap.size < w2.heap.size := by have := b2.size; omega
    have q1 := B1.out.size
    clear b2 K1' B1
    go_wp2_with fail
    refine (l7New_c _).mono ?_
    rintro e w3 ⟨A3, c3, rfl, o3, b3⟩
    have K3 := K2.out.below b3 s2
    have B3 := Lib.hid (B2.out.trans (b3.mono B2.out.size))
    have o2' := o2.below b3
    have q2 := B2.out.size
    have OD : OwD w3 w.heap.size ⟨A2, (newDev n).length, c2, A3, emptyT.length, c3, none, 0, 0⟩ (newDiskV n) := ⟨o2'.lower (by omega), o3.lower (by omega), OwN.nil _ _⟩
    have OP := OD.put K3 ⟨A2, (newDev n).length, c2, A3, emptyT.length, c3, none, 0, 0⟩ (newDiskV n)
    have KP := (blk_putDisk K3 ⟨A2, (newDev n).length, c2, A3, emptyT.length, c3, none, 0, 0⟩ (newDiskV n)).1
    have BP' := (below_putDisk B3.out (Nat.le_refl _) ⟨A2, (newDev n).length, c2, A3, emptyT.length, c3, none, 0, 0⟩ (newDiskV n))
    obtain ⟨t0, t1, t2, t3, t4, t5, t6⟩ := K3.all7
    obtain ⟨z0, z1, z2, z3, z4, z5, z6⟩ := K3.free7
    unfold newDiskV at OP KP BP'
    dsimp only [putDisk, BoxD] at OP KP BP'
    have BP := Lib.hid BP'
    have HO := Lib.hid OP
    have HK := Lib.hid KP
    clear b3 K2 B2 o2 o2' o3 OD OP KP K3 BP'
    go_wp2
    generalize (((((((w3.setCell ⟨w.heap.size, 0, none⟩ (.slice A2 (newDev n).length c2)).setCell ⟨w.heap.size, 1, none⟩ (.slice A3 emptyT.length c3)).setCell ⟨w.heap.size, 2, none⟩ (.int .i64 (-1))).setCell ⟨w.heap.size, 3, none⟩ (.int .i64 (-1))).setCell ⟨w.heap.size, 4, none⟩ (.int .i64 (-1))).setCell ⟨w.heap.size, 5, none⟩ (.int .i64 0)).setCell ⟨w.heap.size, 6, none⟩ (.slice none 0 0)) = wz at *
    obtain ⟨p0, p1, p2, p3, p4, p5, p6⟩ := HK.out.all7
    refine bodyPost_ret (by simp [results, Try.results17, go_sem, p0, p1, p2, p3, p4, p5, p6]; try rfl) rfl ?_
    rw [HE.out]
    exact ⟨_, rfl, HO.out, BP.out⟩
  · have HE := Lib.hid (show newDiskF m = zeroDisk by unfold newDiskF; rw [if_neg hm])
    have B1 := Lib.hid b1
    have K1' := Lib.hid K1
    clear b1 K1
    have hin : inB m 1 12 = false := by rw [inB_f]; omega
    · go_enter Try.func17, Try.ntmps17
      go_wp2_with (go_at_call 32; refine (l1In_c _ _ _ _).mono ?_; rw [hin]; rintro e w' ⟨rfl, rfl⟩)
      generalize w.alloc (.cells #[.slice none 0 0, .slice none 0 0, .int .i64 0, .int .i64 0, .int .i64 0, .int .i64 0, .slice none 0 0] 42) = w1 at *
      obtain ⟨p0, p1, p2, p3, p4, p5, p6⟩ := K1'.out.all7
      refine bodyPost_ret (by simp [results, Try.results17, go_sem, p0, p1, p2, p3, p4, p5, p6]; try rfl) rfl ?_
      rw [HE.out]
      exact ⟨⟨none, 0, 0, none, 0, 0, none, 0, 0⟩, rfl, ⟨OwB.nil _ _, OwT.nil _ _, OwN.nil _ _⟩, B1.out⟩
end Go.Proofs.Ytjnpgdhpneifjaa
