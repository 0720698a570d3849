/- Parts of the proof, one after the other; each says what it proves. -/
import Derived.Test.YtjnpgdhpneifjaaG6
import Derived.Test.YtjnpgdhpneifjaaG7
import Derived.Test.YtjnpgdhpneifjaaG1
import Derived.Test.YtjnpgdhpneifjaaG8
/- The laws' helpers on tables: size, copy, compare, mark, look. Conditions: lengths of at most 2^20. -/
namespace Go.Proofs.Ytjnpgdhpneifjaa
open Go.ChangeShapes Go.WideShapes Go.ChangeAt Go.RowKit Go.Deep
set_option linter.unusedVariables false
set_option linter.unusedSimpArgs false

def SmallT (ts : List (List Int)) (n : Nat) (left : Int) : Prop := ∀ i, i < n → ((ts.getD i []).length : Int) ≤ left
theorem szIntS_c {A : Option Addr} {n c : Nat} {left : Int} {w : World} (h0 : 0 ≤ left) (h1 : left ≤ 1048576) (hm : n ≤ 9223372036854775807) :
    Calls Try.prog 126 #[.slice A n c, .int .i64 left] w fun e w' => SzOk left ((n : Int) ≤ left) e ∧ w = w' := by
  by_cases h : (n : Int) ≤ left
  · go_enter Try.func126, Try.ntmps126
    go_wp2
    go_ret
    exact ⟨⟨_, rfl, by omega, by omega, fun _ => h⟩, rfl⟩
  · go_enter Try.func126, Try.ntmps126
    go_wp2
    go_ret
    exact ⟨⟨_, rfl, by omega, by omega, fun h => by omega⟩, rfl⟩
theorem szIntSS_c {A : Option Addr} {n c B : Nat} {ts : List (List Int)} {left : Int} {w : World} (hr : RdT w B A n ts) (hB : B ≤ w.heap.size) (h0 : 0 ≤ left) (h1 : left ≤ 1048576) (hm : n ≤ 9223372036854775807) :
    Calls Try.prog 99 #[.slice A n c, .int .i64 left] w fun e w' => SzOk left ((n : Int) ≤ left ∧ SmallT ts n left) e ∧ w = w' := by
  by_cases h : (n : Int) ≤ left
  · go_enter Try.func99, Try.ntmps99
    go_wp2
    go_loop [1, 5] (fun s i => ∃ (k : Nat) (l : Int), k ≤ n ∧ i = .int .i64 k ∧ s = .int .i64 l ∧ 0 ≤ l ∧ l ≤ left ∧ SmallT ts k left) (fun _ i => n - (intOf i).toNat)
    case atStart => exact ⟨0, left - n, Nat.zero_le _, rfl, rfl, by omega, by omega, fun i hi => absurd hi (Nat.not_lt_zero _)⟩
    case round =>
      obtain ⟨k, l, hk, rfl, rfl, hl0, hl1, hsm⟩ := hrel
      have HS := Lib.hid hsm
      by_cases hlt : k < n
      · obtain ⟨b, off, rfl, hbB, hc⟩ := hr.at_ (by omega)
        obtain ⟨A', n', c', e1, hnc, hcm, hrg⟩ := hc k hlt
        have HL := Lib.hid hrg.len
        clear hc hr hsm hrg
        go_wp2_with fail
        refine (szIntS_c hl0 (by omega) (by omega)).mono ?_
        rintro e w2 ⟨⟨r, rfl, r1, r2, r3⟩, rfl⟩
        have HR := Lib.hid r3
        clear r3 e1
        by_cases hneg : r < 0
        · go_wp2
          go_ret
          exact ⟨⟨_, rfl, by omega, by omega, fun h => by omega⟩, rfl⟩
        · have HS2 := Lib.hid (show SmallT ts (k + 1) left from fun i hi => by
            by_cases e : i = k
            · subst e; have := HR.out (by omega); have := HL.out; omega
            · exact HS.out i (by omega))
          go_wp2
          go_round
          case rel => exact ⟨k + 1, r, by omega, by go_num, rfl, by omega, by omega, HS2.out⟩
          case measure => simp [intOf]; omega
      · obtain rfl : k = n := by omega
        clear hsm
        go_wp2
        go_ret
        exact ⟨⟨_, rfl, by omega, hl1, fun _ => by first | exact ⟨h, HS.out⟩ | exact HS.out⟩, rfl⟩
  · go_enter Try.func99, Try.ntmps99
    go_wp2
    go_ret
    exact ⟨⟨_, rfl, by omega, by omega, fun h => by omega⟩, rfl⟩
theorem szTable_c {A : Option Addr} {n c B : Nat} {ts : List (List Int)} {left : Int} {w : World} (hr : RdT w B A n ts) (hB : B ≤ w.heap.size) (h0 : 0 ≤ left) (h1 : left ≤ 1048576) (hm : n ≤ 9223372036854775807) :
    Calls Try.prog 63 #[.agg #[.slice A n c], .int .i64 left] w fun e w' => SzOk left ((n : Int) ≤ left ∧ SmallT ts n left) e ∧ Below w.heap.size w w' := by
  have b1 : Below w.heap.size w (w.alloc (.cells #[.slice A n c] 50)) := (Below.refl _ _).alloc (Nat.le_refl _) _
  go_enter Try.func63, Try.ntmps63
  go_wp2_with fail
  refine (szIntSS_c ((hr.mono hB).below b1) b1.size h0 h1 hm).mono ?_
  rintro e w' ⟨⟨r, rfl, r1, r2, r3⟩, rfl⟩
  have HR := Lib.hid r3
  clear r3
  by_cases hr : r < 0
  · go_wp2
    go_ret
    exact ⟨⟨_, rfl, by omega, by omega, fun h => by omega⟩, b1⟩
  · go_wp2
    go_ret
    exact ⟨⟨_, rfl, by omega, by omega, HR.out⟩, b1⟩
theorem toIntSS_c {A : Option Addr} {c B : Nat} {ts : List (List Int)} {w : World} (hr : RdT w B A ts.length ts) (hB : B ≤ w.heap.size) (hn : ts.length ≤ 1048576) (hsm : SmallT ts ts.length 1048576) :
    Calls Try.prog 103 #[.slice A ts.length c] w fun e w' => ∃ A' c', e = .returned (.slice A' ts.length c') ∧ OwT w' w.heap.size A' ts.length c' ts ∧ Below w.heap.size w w' := by
  have hmk := makeTab ts.length hn
  have hst := Lib.hid (own_madeTab w w.heap.size ts.length ts rfl (Nat.le_refl _) hn)
  have HSM := Lib.hid hsm
  clear hsm
  generalize hl : ts.length = n at *
  have HL := Lib.hid hl
  clear hl
  go_enter Try.func103, Try.ntmps103
  go_wp2
  go_loopw [4] (fun i wr => ∃ k : Nat, k ≤ n ∧ i = .int .i64 k ∧ OwT wr w.heap.size (some ⟨w.heap.size, 0, none⟩) n n (fillTo [] ts k) ∧ Below w.heap.size w wr) (fun i _ => n - (intOf i).toNat)
  case atStart => exact ⟨0, Nat.zero_le _, rfl, hst.out, (Below.refl _ _).alloc (Nat.le_refl _) _⟩
  case round =>
    obtain ⟨k, hk, rfl, hown, hbel⟩ := hrel
    by_cases hlt : k < n
    · obtain ⟨b, off, rfl, hbB, hc⟩ := hr.at_ (by omega)
      obtain ⟨A', n', c', c1, hnc, hcm, hrg⟩ := hc k hlt
      have hbs : b < w.heap.size := by omega
      replace c1 := (hbel.cell (p := ⟨b, off + k, none⟩) hbs).trans c1
      have hrg2 := (hrg.mono hB).below hbel
      have hn2 : n' ≤ 1048576 := by have := HSM.out k hlt; rw [hrg.len] at this; omega
      have hfs := fillTo_set [] ts (k := k) (by have := HL.out; omega)
      generalize ts.getD k [] = xs at *
      obtain rfl := hrg2.len
      have HF := Lib.hid hfs
      have HO := Lib.hid hown
      have HB := Lib.hid hbel
      have hsz := hbel.size
      clear hc hr hfs hown hbel hmk hrg
      go_wp2_with fail
      refine (toIntS_o hrg2 hsz hn2).mono ?_
      rintro e w2 ⟨A2, c2, rfl, ho2, hb2⟩
      have oF := HO.out.setList hb2 ho2 hsz hlt
      obtain ⟨A3, n3, c3, f1, z1, _⟩ := (HO.out.below hb2).cells k hlt
      rw [HF.out] at oF
      have OF := Lib.hid oF
      have HB2 := Lib.hid (HB.out.trans (hb2.mono hsz))
      clear hb2 oF ho2 c1 hrg2
      go_wp2_with fail
      go_roundw
      case rel => exact ⟨k + 1, by omega, by go_num, OF.out, HB2.out.setCell (p := ⟨w.heap.size, k, none⟩) (Nat.le_refl _) _⟩
      case measure => simp [intOf]; omega
    · obtain rfl : k = n := by omega
      have how : OwT wr w.heap.size (some ⟨w.heap.size, 0, none⟩) k k ts := by rw [← HL.out, fillTo_all, HL.out] at hown; exact hown
      have HO := Lib.hid how
      clear hmk hown how
      go_wp2
      go_ret
      exact ⟨_, _, rfl, HO.out, hbel⟩
theorem toTable_c {A : Option Addr} {c B : Nat} {ts : List (List Int)} {w : World} (hr : RdT w B A ts.length ts) (hB : B ≤ w.heap.size) (hn : ts.length ≤ 1048576) (hsm : SmallT ts ts.length 1048576) :
    Calls Try.prog 70 #[.agg #[.slice A ts.length c]] w fun e w' => ∃ A' c', e = .returned (.agg #[.slice A' ts.length c']) ∧ OwT w' w.heap.size A' ts.length c' ts ∧ Below w.heap.size w w' := by
  have hr0 := hr.mono hB
  clear hr
  go_enter Try.func70, Try.ntmps70
  go_wp2_with fail
  have e1 : (w.alloc (.cells #[.slice A ts.length c] 50)).heap.size = w.heap.size + 1 := by simp
  have e2 : ((w.alloc (.cells #[.slice A ts.length c] 50)).alloc (.cells #[.slice none 0 0] 37)).heap.size = w.heap.size + 1 + 1 := by simp
  have K2 := (Blk.new (w.alloc (.cells #[.slice A ts.length c] 50)) 37 #[.slice none 0 0]).alloc (.cells #[.slice none 0 0] 37)
  have K3 := Blk.new ((w.alloc (.cells #[.slice A ts.length c] 50)).alloc (.cells #[.slice none 0 0] 37)) 37 #[.slice none 0 0]
  rw [e1] at K2
  rw [e2] at K3
  have b3 : Below w.heap.size w (((w.alloc (.cells #[.slice A ts.length c] 50)).alloc (.cells #[.slice none 0 0] 37)).alloc (.cells #[.slice none 0 0] 37)) := (((Below.refl _ _).alloc (Nat.le_refl _) _).alloc (by simp) _).alloc (by simp; omega) _
  have s3 : w.heap.size + 1 + 1 < (((w.alloc (.cells #[.slice A ts.length c] 50)).alloc (.cells #[.slice none 0 0] 37)).alloc (.cells #[.slice none 0 0] 37)).heap.size := by simp
  generalize (((w.alloc (.cells #[.slice A ts.length c] 50)).alloc (.cells #[.slice none 0 0] 37)).alloc (.cells #[.slice none 0 0] 37)) = w3 at *
  refine (toIntSS_c (hr0.below b3) b3.size hn hsm).mono ?_
  rintro e w4 ⟨A4, c4, rfl, o4, b4⟩
  have K4 := K2.below b4 (by omega)
  have K5 := K3.below b4 (by omega)
  have t0 := K4.cell 0
  have z0 := K4.frozen 0
  have u0 := K5.cell 0
  have y0 := K5.frozen 0
  simp at t0 u0
  have B5 := b3.trans (b4.mono (by omega))
  have K6 := K4.far (p := ⟨w.heap.size + 1 + 1, 0, none⟩) (by simp) (.slice A4 ts.length c4)
  have KS := K6.set_ 0 (.slice A4 ts.length c4)
  have e0 := KS.cell 0
  have O5 := (o4.typed (ChgT.blk K5 0 (.slice A4 ts.length c4)) (by decide) (by decide)).typed (ChgT.blk K6 0 (.slice A4 ts.length c4)) (by decide) (by decide)
  have HO := Lib.hid (O5.lower b3.size)
  have HB5 := Lib.hid ((B5.setCell (p := ⟨w.heap.size + 1 + 1, 0, none⟩) (by show w.heap.size ≤ _ + 1 + 1; omega) (.slice A4 ts.length c4)).setCell (p := ⟨w.heap.size + 1, 0, none⟩) (by show w.heap.size ≤ _ + 1; omega) (.slice A4 ts.length c4))
  simp at e0
  have E0 := Lib.hid e0
  clear K2 K3 K4 K5 K6 b3 b4 o4 hr0 B5 KS O5 e0
  go_wp2
  generalize (w4.setCell ⟨w.heap.size + 1 + 1, 0, none⟩ (.slice A4 ts.length c4)).setCell ⟨w.heap.size + 1, 0, none⟩ (.slice A4 ts.length c4) = w9 at *
  have e0 := E0.out
  refine bodyPost_ret (by simp [results, Try.results70, go_sem, e0]; try rfl) rfl ?_
  exact ⟨A4, c4, rfl, HO.out, HB5.out⟩
theorem eqIntSS_same {A A' : Option Addr} {n c c' B B' : Nat} {ts : List (List Int)} {w : World} (hr : RdT w B A n ts) (hr' : RdT w B' A' n ts) (hB : B ≤ w.heap.size) (hB' : B' ≤ w.heap.size) (hn : n ≤ 9000000000000) (hsm : SmallT ts n 1048576) :
    Calls Try.prog 85 #[.slice A n c, .slice A' n c'] w fun e w' => e = .returned (.bool true) ∧ Below w.heap.size w w' := by
  have HSM := Lib.hid hsm
  clear hsm
  go_enter Try.func85, Try.ntmps85
  go_wp2
  go_loopw [5] (fun i wr => ∃ k : Nat, k ≤ n ∧ i = .int .i64 k ∧ Below w.heap.size w wr) (fun i _ => n - (intOf i).toNat)
  case atStart => exact ⟨0, Nat.zero_le _, rfl, Below.refl _ _⟩
  case round =>
    obtain ⟨k, hk, rfl, hbel⟩ := hrel
    by_cases hlt : k < n
    · obtain ⟨b, off, rfl, hbB, hc⟩ := hr.at_ (by omega)
      obtain ⟨b', off', rfl, hbB', hc'⟩ := hr'.at_ (by omega)
      obtain ⟨P, np, cp, c1, hp1, hp2, hp⟩ := hc k hlt
      obtain ⟨Q, nq, cq, d1, hq1, hq2, hq⟩ := hc' k hlt
      have hnq : nq = np := by rw [← hp.len, ← hq.len]
      subst hnq
      have hns : nq ≤ 1048576 := by have := HSM.out k hlt; rw [hp.len] at this; omega
      have l0 : b < w.heap.size := by omega
      have l1 : b' < w.heap.size := by omega
      replace c1 := (hbel.cell (p := ⟨b, off + k, none⟩) l0).trans c1
      replace d1 := (hbel.cell (p := ⟨b', off' + k, none⟩) l1).trans d1
      have HP := Lib.hid ((hp.mono hB).below hbel)
      have HQ := Lib.hid ((hq.mono hB').below hbel)
      generalize ts.getD k [] = xs at *
      have HB := Lib.hid hbel
      clear hc hr hc' hr' hbel hp hq
      go_wp2_with fail
      go_region_with (go_at_call 120; refine (eqIntS_o HP.out.drew HQ.out.drew (by omega)).mono ?_; rintro e w2 ⟨rfl, hb2⟩)
      all_goals
        go_wp2_with fail
        go_roundw
        case rel => exact ⟨k + 1, by omega, by go_num, HB.out.drew.trans (hb2.mono HB.out.size)⟩
        case measure => simp [intOf]; omega
    · have hkn : k = n := by omega
      subst hkn
      go_wp2
      go_ret
      exact ⟨rfl, hbel⟩
theorem eqTable_same {A A' : Option Addr} {n c c' B B' : Nat} {ts : List (List Int)} {w : World} (hr : RdT w B A n ts) (hr' : RdT w B' A' n ts) (hB : B ≤ w.heap.size) (hB' : B' ≤ w.heap.size) (hn : n ≤ 9000000000000) (hsm : SmallT ts n 1048576) :
    Calls Try.prog 46 #[.agg #[.slice A n c], .agg #[.slice A' n c']] w fun e w' => e = .returned (.bool true) ∧ Below w.heap.size w w' := by
  have b2 : Below w.heap.size w ((w.alloc (.cells #[.slice A n c] 37)).alloc (.cells #[.slice A' n c'] 37)) := ((Below.refl _ _).alloc (Nat.le_refl _) _).alloc (by simp) _
  go_enter Try.func46, Try.ntmps46
  go_wp2_with fail
  refine (eqIntSS_same ((hr.mono hB).below b2) ((hr'.mono hB').below b2) b2.size b2.size hn hsm).mono ?_
  rintro e w' ⟨rfl, hb⟩
  go_wp2
  go_ret
  exact ⟨rfl, b2.trans (hb.mono b2.size)⟩
end Go.Proofs.Ytjnpgdhpneifjaa

/- Program by the reference, at a valid device, block and full page. -/
namespace Go.Proofs.Ytjnpgdhpneifjaa
open Go.ChangeShapes Go.WideShapes Go.ChangeAt Go.RowKit
set_option linter.unusedVariables false
set_option linter.unusedSimpArgs false

def OwnP (w0 : World) (bs : List BlockV) (n : Nat) (p : PageV) (e : Ending) (w' : World) : Prop := ∃ A c, e = .returned (.tuple #[.slice A bs.length c, .int .i64 (progAt bs n)]) ∧ OwB w' w0.heap.size A bs.length c (progB bs n p) ∧ Below w0.heap.size w0 w'
set_option maxRecDepth 8000 in
set_option maxHeartbeats 2000000 in
theorem program_spec {A : Option Addr} {m c B n : Nat} {bs : List BlockV} {x y z s : Int} {w : World} (hr : RdB w B A m bs) (hB : B ≤ w.heap.size) (hok : DevOk bs) (hnl : n < bs.length) (hp : PageOk ⟨true, x, y, z, s⟩) :
    Calls Try.prog 117 #[.slice A m c, .int .i64 n, .agg #[.bool true, .int .i64 x, .int .i64 y, .int .i64 z, .int .i64 s]] w (OwnP w bs n ⟨true, x, y, z, s⟩) := by
  obtain rfl : bs.length = m := hr.len
  have hm12 : bs.length ≤ 12 := hok.1.2
  have hdt := Lib.hid (bof_t.2 hok)
  have hpt := Lib.hid (show decide (PageOk ⟨true, x, y, z, s⟩) = true from decide_eq_true hp)
  have HIN := Lib.hid (show inB (n : Int) 0 ((bs.length : Int) - 1) = true from by rw [inB_t]; omega)
  have v1 : IntKind.i64.wrap ((bs.length : Int) - 1) = (bs.length : Int) - 1 := IntWalk.i64_in _ (by omega)
  have HOK := Lib.hid hok
  have HP := Lib.hid hp
  have HBK := Lib.hid (hok.2 n hnl)
  have hp4 := Lib.hid (show ∀ i, i < bs.length → 0 < (bs.getD i noBlock).pages.length ∧ (bs.getD i noBlock).pages.length ≤ 1048576 from fun i hi => by have := (hok.2 i hi).2.1; omega)
  have b1 : Below w.heap.size w (w.alloc (.cells #[.bool true, .int .i64 x, .int .i64 y, .int .i64 z, .int .i64 s] 102)) := (Below.refl _ _).alloc (Nat.le_refl _) _
  have k1 := Blk.new w 102 #[.bool true, .int .i64 x, .int .i64 y, .int .i64 z, .int .i64 s]
  have l1 := k1.lt
  have r1 := (hr.mono hB).below b1
  have B1 := Lib.hid b1
  clear hr hok hp b1
  go_enter Try.func117, Try.ntmps117
  go_upto_region 1 with (fail)
  generalize w.alloc (.cells #[.bool true, .int .i64 x, .int .i64 y, .int .i64 z, .int .i64 s] 102) = w1 at *
  go_wp2_with fail
  refine (deviceValid_spec r1 B1.out.size (by omega)).mono ?_
  rw [hdt.out]
  rintro e w2 ⟨rfl, b2⟩
  have k2 := k1.below b2 l1
  have l2 := k2.lt
  have r2 := r1.below (b2.mono B1.out.size)
  have B2 := Lib.hid (B1.out.trans (b2.mono B1.out.size))
  clear k1 l1 r1 b2 B1
  have u0 := k2.cell 0
  have u1 := k2.cell 1
  have u2 := k2.cell 2
  have u3 := k2.cell 3
  have u4 := k2.cell 4
  simp at u0 u1 u2 u3 u4
  go_wp2_with (go_at_call 32; refine (l1In_c _ _ _ _).mono ?_; rw [HIN.out]; rintro e w' ⟨rfl, rfl⟩)
  refine (pageValid_spec true x y z s _).mono ?_
  rw [hpt.out]
  rintro e w3 ⟨rfl, b3⟩
  have k3 := k2.below b3 l2
  have l3 := k3.lt
  have r3 := r2.below (b3.mono B2.out.size)
  have B3 := Lib.hid (B2.out.trans (b3.mono B2.out.size))
  clear k2 l2 r2 b3 B2 u0 u1 u2 u3 u4
  have u0 := k3.cell 0
  simp at u0
  go_wp2_with fail
  refine (l5Copy_c r3 B3.out.size (by omega) hp4.out).mono ?_
  rintro e w4 ⟨A4, c4, rfl, o4, b4⟩
  have k4 := k3.below b4 l3
  have l4 := k4.lt
  have r4 := r3.below (b4.mono B3.out.size)
  have B4 := Lib.hid (B3.out.trans (b4.mono B3.out.size))
  have O4 := Lib.hid (o4.lower (base' := w.heap.size) B3.out.size)
  have hg4 := Lib.hid (o4.form (by omega))
  clear k3 l3 r3 b4 B3 u0 o4
  obtain ⟨b, off, rfl, hbB, hc⟩ := r4.at_ (by omega)
  obtain ⟨A', n', c', d0, d1, hnc, hcm, hrg⟩ := hc n hnl
  have lb : b < w4.heap.size := by have := B4.out.size; omega
  have hrp := hrg.drew
  have HWE := Lib.hid (show progAt bs n = if nextP (bs.getD n noBlock).pages < 0 then -1 else n * 4 + nextP (bs.getD n noBlock).pages from rfl)
  have HPB := Lib.hid (show progB bs n ⟨true, x, y, z, s⟩ = bs.set n (writeF (bs.getD n noBlock) ⟨true, x, y, z, s⟩) from rfl)
  have hn4 := HBK.out.2.1
  generalize hP : bs.getD n noBlock = P at *
  obtain ⟨we, ps⟩ := P
  simp only at d0 hrp hn4
  have hnn : n' = 4 := by rw [← hrp.len, hn4]
  subst hnn
  clear hc hrg hP r4
  go_upto_region 4 with (fail)
  refine wp_region_held_drew (S := fun w' => (w'.cell? ⟨b, off + n * 2, none⟩ = some (.int .i64 we) ∧ w'.cell? ⟨b, off + n * 2 + 1, none⟩ = some (.slice A' 4 c')) ∧ w'.cell? ⟨w.heap.size, 0, none⟩ = some (.bool true) ∧ w'.cell? ⟨w.heap.size, 1, none⟩ = some (.int .i64 x) ∧ w'.cell? ⟨w.heap.size, 2, none⟩ = some (.int .i64 y) ∧ w'.cell? ⟨w.heap.size, 3, none⟩ = some (.int .i64 z) ∧ w'.cell? ⟨w.heap.size, 4, none⟩ = some (.int .i64 s)) (by kernel_rfl) ?_ (fun hHeld => ?_)
  · exact ⟨⟨d0, d1⟩, k4.cell 0, k4.cell 1, k4.cell 2, k4.cell 3, k4.cell 4⟩
  refine tk 0 ?_
  refine tk 1 ?_
  refine tk 2 ?_
  refine tk 3 ?_
  refine tk 4 ?_
  have ka : Blk w4.drew w.heap.size 102 #[.bool true, .int .i64 x, .int .i64 y, .int .i64 z, .int .i64 s] := k4
  have d0a : w4.drew.cell? ⟨b, off + n * 2, none⟩ = some (.int .i64 we) := d0
  have d1a : w4.drew.cell? ⟨b, off + n * 2 + 1, none⟩ = some (.slice A' 4 c') := d1
  have Za : w.heap.size ≤ w4.drew.heap.size := B4.out.size
  have Ya : w.heap.size < w4.drew.heap.size ∧ b < w4.drew.heap.size := ⟨l4, lb⟩
  have hrpa := hrp
  have ba : Below w4.heap.size w4 w4.drew := (Below.refl _ _).drew
  have bb : Below w4.heap.size w4 (w4.drew.alloc (.cells #[.int .i64 0, .slice none 0 0] 67)) := ba.alloc (Nat.le_refl _) _
  have bb1 : Below w4.drew.heap.size w4.drew (w4.drew.alloc (.cells #[.int .i64 0, .slice none 0 0] 67)) := (Below.refl _ _).alloc (Nat.le_refl _) _
  have kb : Blk (w4.drew.alloc (.cells #[.int .i64 0, .slice none 0 0] 67)) w.heap.size 102 _ := ka.below bb1 l4
  have nb : Blk (w4.drew.alloc (.cells #[.int .i64 0, .slice none 0 0] 67)) w4.heap.size 67 #[.int .i64 0, .slice none 0 0] := Blk.new w4.drew _ _
  have d0b := (bb1.cell (p := ⟨b, off + n * 2, none⟩) lb).trans d0a
  have d1b := (bb1.cell (p := ⟨b, off + n * 2 + 1, none⟩) lb).trans d1a
  have hrpb := hrpa.below (bb1.mono Za)
  have Zb : w.heap.size ≤ (w4.drew.alloc (.cells #[.int .i64 0, .slice none 0 0] 67)).heap.size := Nat.le_trans Za bb1.size
  have Yb : (w.heap.size < (w4.drew.alloc (.cells #[.int .i64 0, .slice none 0 0] 67)).heap.size ∧ b < (w4.drew.alloc (.cells #[.int .i64 0, .slice none 0 0] 67)).heap.size) ∧ w4.heap.size < (w4.drew.alloc (.cells #[.int .i64 0, .slice none 0 0] 67)).heap.size := ⟨⟨Nat.lt_of_lt_of_le l4 bb1.size, Nat.lt_of_lt_of_le lb bb1.size⟩, by simp⟩
  clear hrp k4
  refine rd2 5 9 (fun K hK => ?_) (fun K hK => ?_)
  · go_simp
    refine (writeBlock_spec hrpa Za hnc hcm HBK.out HP.out).mono ?_; rintro e w5 ⟨A5, c5, rfl, o5, b5⟩; simp only at o5 ⊢; rw [hn4] at o5; have k5 := ka.below b5 Ya.1; have d0' := (b5.cell (p := ⟨b, off + n * 2, none⟩) Ya.2).trans d0a; have d1' := (b5.cell (p := ⟨b, off + n * 2 + 1, none⟩) Ya.2).trans d1a
    go_wp2_with fail
    refine hK.out _ _ ?_ (fun hHeld => ?_)
    · exact ⟨⟨d0', d1'⟩, k5.cell 0, k5.cell 1, k5.cell 2, k5.cell 3, k5.cell 4⟩
    clear hK K
    refine pt ?_
    refine tk 6 ?_
    refine tk 7 ?_
    refine tk 8 ?_
    have bz : Below w5.heap.size w5 (w5.alloc (.cells #[.int .i64 0, .slice none 0 0] 67)) := (Below.refl _ _).alloc (Nat.le_refl _) _
    have bw : Below w5.heap.size w5 (w5.alloc (.cells #[.int .i64 we, .slice A5 4 c5] 67)) := (Below.refl _ _).alloc (Nat.le_refl _) _
    refine rd1 9 (fun K hK => ?_)
    go_simp
    refine hK.out _ _ ?_ (fun hHeld => ?_)
    · exact ⟨⟨(bz.cell (p := ⟨b, off + n * 2, none⟩) (block_lt_of_cell d0')).trans d0', (bz.cell (p := ⟨b, off + n * 2 + 1, none⟩) (block_lt_of_cell d1')).trans d1'⟩, (k5.below bz k5.lt).cell 0, (k5.below bz k5.lt).cell 1, (k5.below bz k5.lt).cell 2, (k5.below bz k5.lt).cell 3, (k5.below bz k5.lt).cell 4⟩
    clear hK K
    refine pt ?_
    refine rd1 10 (fun K hK => ?_)
    go_simp
    refine hK.out _ _ ?_ (fun hHeld => ?_)
    · exact ⟨⟨(bw.cell (p := ⟨b, off + n * 2, none⟩) (block_lt_of_cell d0')).trans d0', (bw.cell (p := ⟨b, off + n * 2 + 1, none⟩) (block_lt_of_cell d1')).trans d1'⟩, (k5.below bw k5.lt).cell 0, (k5.below bw k5.lt).cell 1, (k5.below bw k5.lt).cell 2, (k5.below bw k5.lt).cell 3, (k5.below bw k5.lt).cell 4⟩
    clear hK K
    refine pt ?_
    have ke := Blk.new w5 67 #[.int .i64 we, .slice A5 4 c5]
    have be := (ba.trans (show Below w4.heap.size w4.drew w5 from b5)).alloc (show w4.heap.size ≤ w5.heap.size from b5.size) (.cells #[.int .i64 we, .slice A5 4 c5] 67)
    have oe := own_below o5 bw
    refine tk 11 ?_
    refine wpAnyH_done (by kernel_rfl) ?_ _
    go_upto_region 5 with (fail)
    obtain ⟨g, rfl, hg1, hg2⟩ := O4.out.form (by omega)
    have e0 : (w5.alloc (.cells #[.int .i64 we, .slice A5 4 c5] 67)).cell? ⟨w5.heap.size, 0, none⟩ = some (.int .i64 we) := ke.cell 0
    have e1 : (w5.alloc (.cells #[.int .i64 we, .slice A5 4 c5] 67)).cell? ⟨w5.heap.size, 1, none⟩ = some (.slice A5 4 c5) := ke.cell 1
    have oF := O4.out.setBlock (we := we) be oe B4.out.size (i := n) hnl
    obtain ⟨A3, n3, c3, f0, f1, z0, z1, _⟩ := (O4.out.below be).cells n hnl
    have OF := Lib.hid oF
    have BE := Lib.hid (((B4.out.trans (be.mono B4.out.size)).setCell (p := ⟨g, n * 2, none⟩) hg1 (.int .i64 we)).setCell (p := ⟨g, n * 2 + 1, none⟩) hg1 (.slice A5 4 c5))
    have HPB2 := Lib.hid (show progB bs n ⟨true, x, y, z, s⟩ = bs.set n ⟨we, (writeF ⟨we, ps⟩ ⟨true, x, y, z, s⟩).pages⟩ from by
      rw [HPB.out]
      congr 1
      have := writeF_wear ⟨we, ps⟩ ⟨true, x, y, z, s⟩
      generalize writeF ⟨we, ps⟩ ⟨true, x, y, z, s⟩ = X at *
      obtain ⟨a1, a2⟩ := X
      simp only at this
      rw [this])
    have hqr : -1 ≤ nextP ps ∧ nextP ps ≤ 3 := by
      rcases nextP_or ps with ⟨h1, _⟩ | ⟨j, h1, h2, _⟩ <;> omega
    generalize (bs.getD n noBlock).wear = q0 at *
    generalize w5.alloc (.cells #[.int .i64 we, .slice A5 4 c5] 67) = wE at *
    generalize nextP ps = q at *
    have v2 : IntKind.i64.wrap ((n : Int) * 4) = (n : Int) * 4 := IntWalk.i64_in _ (by omega)
    have v3 : IntKind.i64.wrap ((n : Int) * 4 + q) = (n : Int) * 4 + q := IntWalk.i64_in _ (by omega)
    clear oF be oe ke hHeld
    by_cases hq : q < 0
    · have HQ := Lib.hid (show progAt bs n = -1 from by rw [HWE.out, if_pos hq])
      go_wp2
      go_returns
      exact ⟨_, _, by first | (rw [HQ.out]; done) | (rw [HQ.out]; rfl), by rw [HPB2.out]; exact OF.out, BE.out⟩
    · have HQ := Lib.hid (show progAt bs n = (n : Int) * 4 + q from by rw [HWE.out, if_neg hq])
      go_wp2
      go_returns
      exact ⟨_, _, by first | (rw [HQ.out]; done) | (rw [HQ.out]; rfl), by rw [HPB2.out]; exact OF.out, BE.out⟩
  · go_simp
    refine hK.out _ _ ?_ (fun hHeld => ?_)
    · exact ⟨⟨d0b, d1b⟩, kb.cell 0, kb.cell 1, kb.cell 2, kb.cell 3, kb.cell 4⟩
    clear hK K
    refine pt ?_
    refine rd1 5 (fun K hK => ?_)
    go_simp
    refine (writeBlock_spec hrpb Zb hnc hcm HBK.out HP.out).mono ?_; rintro e w5 ⟨A5, c5, rfl, o5, b5⟩; simp only at o5 ⊢; rw [hn4] at o5; have k5 := kb.below b5 Yb.1.1; have d0' := (b5.cell (p := ⟨b, off + n * 2, none⟩) Yb.1.2).trans d0b; have d1' := (b5.cell (p := ⟨b, off + n * 2 + 1, none⟩) Yb.1.2).trans d1b
    go_wp2_with fail
    refine hK.out _ _ ?_ (fun hHeld => ?_)
    · exact ⟨⟨d0', d1'⟩, k5.cell 0, k5.cell 1, k5.cell 2, k5.cell 3, k5.cell 4⟩
    clear hK K
    refine pt ?_
    refine tk 6 ?_
    refine tk 7 ?_
    refine tk 8 ?_
    have nb5 := nb.below b5 Yb.2
    have hbw : b < w4.heap.size := lb
    have hww : w.heap.size < w4.heap.size := l4
    have hge : w4.heap.size ≤ w4.heap.size := Nat.le_refl _
    have be5 := bb.trans (b5.mono (Nat.le_of_lt Yb.2))
    have hne : (Value.slice A5 4 c5).ownBlock ≠ some w4.heap.size := fun e => by have := (own_lt o5 e).1; have := Yb.2; omega
    have o5e := own_lower o5 (base' := w4.heap.size) (Nat.le_of_lt Yb.2)
    have n6 := nb5.frozen 0
    have n7 := nb5.frozen 1
    have n8 := nb5.cell 0
    have n9 := nb5.cell 1
    simp at n8 n9
    refine rd1 10 (fun K hK => ?_)
    go_simp
    have ke := (nb5.set_ 0 (.int .i64 we)).set_ 1 (.slice A5 4 c5)
    have kp := (k5.far (p := ⟨w4.heap.size, 0, none⟩) (by first | omega | (simp; omega)) (.int .i64 we)).far (p := ⟨w4.heap.size, 1, none⟩) (by first | omega | (simp; omega)) (.slice A5 4 c5)
    have be := (be5.setCell (p := ⟨w4.heap.size, 0, none⟩) (by first | exact Nat.le_refl _ | exact hge) (.int .i64 we)).setCell (p := ⟨w4.heap.size, 1, none⟩) (by first | exact Nat.le_refl _ | exact hge) (.slice A5 4 c5)
    have d0e := (World.cell?_setCell_far _ ⟨w4.heap.size, 1, none⟩ ⟨b, off + n * 2, none⟩ (.slice A5 4 c5) (by show w4.heap.size ≠ b; omega)).trans ((World.cell?_setCell_far _ ⟨w4.heap.size, 0, none⟩ ⟨b, off + n * 2, none⟩ (.int .i64 we) (by show w4.heap.size ≠ b; omega)).trans d0')
    have d1e := (World.cell?_setCell_far _ ⟨w4.heap.size, 1, none⟩ ⟨b, off + n * 2 + 1, none⟩ (.slice A5 4 c5) (by show w4.heap.size ≠ b; omega)).trans ((World.cell?_setCell_far _ ⟨w4.heap.size, 0, none⟩ ⟨b, off + n * 2 + 1, none⟩ (.int .i64 we) (by show w4.heap.size ≠ b; omega)).trans d1')
    have oe := ownsRow_setCell_other (ownsRow_setCell_other o5e (a := ⟨w4.heap.size, 0, none⟩) hne (.int .i64 we)) (a := ⟨w4.heap.size, 1, none⟩) hne (.slice A5 4 c5)
    refine hK.out _ _ ?_ (fun hHeld => ?_)
    · exact ⟨⟨d0e, d1e⟩, kp.cell 0, kp.cell 1, kp.cell 2, kp.cell 3, kp.cell 4⟩
    clear hK K
    refine pt ?_
    refine tk 11 ?_
    refine wpAnyH_done (by kernel_rfl) ?_ _
    go_upto_region 5 with (fail)
    obtain ⟨g, rfl, hg1, hg2⟩ := O4.out.form (by omega)
    have e0 : ((w5.setCell ⟨w4.heap.size, 0, none⟩ (.int .i64 we)).setCell ⟨w4.heap.size, 1, none⟩ (.slice A5 4 c5)).cell? ⟨w4.heap.size, 0, none⟩ = some (.int .i64 we) := ke.cell 0
    have e1 : ((w5.setCell ⟨w4.heap.size, 0, none⟩ (.int .i64 we)).setCell ⟨w4.heap.size, 1, none⟩ (.slice A5 4 c5)).cell? ⟨w4.heap.size, 1, none⟩ = some (.slice A5 4 c5) := ke.cell 1
    have oF := O4.out.setBlock (we := we) be oe B4.out.size (i := n) hnl
    obtain ⟨A3, n3, c3, f0, f1, z0, z1, _⟩ := (O4.out.below be).cells n hnl
    have OF := Lib.hid oF
    have BE := Lib.hid (((B4.out.trans (be.mono B4.out.size)).setCell (p := ⟨g, n * 2, none⟩) hg1 (.int .i64 we)).setCell (p := ⟨g, n * 2 + 1, none⟩) hg1 (.slice A5 4 c5))
    have HPB2 := Lib.hid (show progB bs n ⟨true, x, y, z, s⟩ = bs.set n ⟨we, (writeF ⟨we, ps⟩ ⟨true, x, y, z, s⟩).pages⟩ from by
      rw [HPB.out]
      congr 1
      have := writeF_wear ⟨we, ps⟩ ⟨true, x, y, z, s⟩
      generalize writeF ⟨we, ps⟩ ⟨true, x, y, z, s⟩ = X at *
      obtain ⟨a1, a2⟩ := X
      simp only at this
      rw [this])
    have hqr : -1 ≤ nextP ps ∧ nextP ps ≤ 3 := by
      rcases nextP_or ps with ⟨h1, _⟩ | ⟨j, h1, h2, _⟩ <;> omega
    generalize (bs.getD n noBlock).wear = q0 at *
    generalize (w5.setCell ⟨w4.heap.size, 0, none⟩ (.int .i64 we)).setCell ⟨w4.heap.size, 1, none⟩ (.slice A5 4 c5) = wE at *
    generalize nextP ps = q at *
    have v2 : IntKind.i64.wrap ((n : Int) * 4) = (n : Int) * 4 := IntWalk.i64_in _ (by omega)
    have v3 : IntKind.i64.wrap ((n : Int) * 4 + q) = (n : Int) * 4 + q := IntWalk.i64_in _ (by omega)
    clear oF be oe ke hHeld
    by_cases hq : q < 0
    · have HQ := Lib.hid (show progAt bs n = -1 from by rw [HWE.out, if_pos hq])
      go_wp2
      go_returns
      exact ⟨_, _, by first | (rw [HQ.out]; done) | (rw [HQ.out]; rfl), by rw [HPB2.out]; exact OF.out, BE.out⟩
    · have HQ := Lib.hid (show progAt bs n = (n : Int) * 4 + q from by rw [HWE.out, if_neg hq])
      go_wp2
      go_returns
      exact ⟨_, _, by first | (rw [HQ.out]; done) | (rw [HQ.out]; rfl), by rw [HPB2.out]; exact OF.out, BE.out⟩
end Go.Proofs.Ytjnpgdhpneifjaa

/- EraseAt by the reference, at a valid device and a block of it. -/
namespace Go.Proofs.Ytjnpgdhpneifjaa
open Go.ChangeShapes Go.WideShapes Go.ChangeAt Go.RowKit
set_option linter.unusedVariables false
set_option linter.unusedSimpArgs false

def OwnEA (w0 : World) (bs : List BlockV) (n : Nat) (e : Ending) (w' : World) : Prop := ∃ A c, e = .returned (.tuple #[.slice A bs.length c, .bool (!((bs.getD n noBlock).wear == 100))]) ∧ OwB w' w0.heap.size A bs.length c (eraseB bs n) ∧ Below w0.heap.size w0 w'
set_option maxRecDepth 8000 in
set_option maxHeartbeats 2000000 in
theorem eraseAt_spec {A : Option Addr} {m c B n : Nat} {bs : List BlockV} {w : World} (hr : RdB w B A m bs) (hB : B ≤ w.heap.size) (hok : DevOk bs) (hnl : n < bs.length) :
    Calls Try.prog 144 #[.slice A m c, .int .i64 n] w (OwnEA w bs n) := by
  obtain rfl : bs.length = m := hr.len
  have hm12 : bs.length ≤ 12 := hok.1.2
  have hdt := Lib.hid (bof_t.2 hok)
  have HIN := Lib.hid (show inB (n : Int) 0 ((bs.length : Int) - 1) = true from by rw [inB_t]; omega)
  have v1 : IntKind.i64.wrap ((bs.length : Int) - 1) = (bs.length : Int) - 1 := IntWalk.i64_in _ (by omega)
  have HBK := Lib.hid (hok.2 n hnl)
  have hp4 := Lib.hid (show ∀ i, i < bs.length → 0 < (bs.getD i noBlock).pages.length ∧ (bs.getD i noBlock).pages.length ≤ 1048576 from fun i hi => by have := (hok.2 i hi).2.1; omega)
  have r1 := hr.mono hB
  clear hr hok
  go_enter Try.func144, Try.ntmps144
  go_wp2_with fail
  refine (deviceValid_spec r1 (Nat.le_refl _) (by omega)).mono ?_
  rw [hdt.out]
  rintro e w3 ⟨rfl, b2⟩
  have r3 := r1.below b2
  have B3 := Lib.hid b2
  clear r1 b2
  go_wp2_with (go_at_call 32; refine (l1In_c _ _ _ _).mono ?_; rw [HIN.out]; rintro e w' ⟨rfl, rfl⟩)
  refine (l5Copy_c r3 B3.out.size (by omega) hp4.out).mono ?_
  rintro e w4 ⟨A4, c4, rfl, o4, b4⟩
  have r4 := r3.below (b4.mono B3.out.size)
  have B4 := Lib.hid (B3.out.trans (b4.mono B3.out.size))
  have O4 := Lib.hid (o4.lower (base' := w.heap.size) B3.out.size)
  clear r3 b4 B3 o4
  obtain ⟨b, off, rfl, hbB, hc⟩ := r4.at_ (by omega)
  obtain ⟨A', n', c', d0, d1, hnc, hcm, hrg⟩ := hc n hnl
  obtain ⟨g, rfl, hg1, hg2⟩ := O4.out.form (by omega)
  have HEB := Lib.hid (show eraseB bs n = bs.set n (eraseF (bs.getD n noBlock)) from rfl)
  have HQ := Lib.hid (show (bs.getD n noBlock).wear = (bs.getD n noBlock).wear from rfl)
  generalize hP : bs.getD n noBlock = P at *
  have HP := Lib.hid hP
  obtain ⟨we, ps⟩ := P
  simp only at d0 hrg
  clear hc hP r4
  go_wp2_with fail
  refine (eraseBlock_spec hrg B4.out.size hnc hcm HBK.out).mono ?_
  rintro e w5 ⟨A5, c5, rfl, o5, b5⟩
  simp only at o5 ⊢
  go_upto_region 5 with (fail)
  have be : Below w4.heap.size w4 (w5.alloc (.cells #[.int .i64 (eraseF ⟨we, ps⟩).wear, .slice A5 4 c5] 67)) := b5.alloc b5.size _
  have oe := own_below o5 ((Below.refl w5.heap.size w5).alloc (Nat.le_refl _) (.cells #[.int .i64 (eraseF ⟨we, ps⟩).wear, .slice A5 4 c5] 67))
  have e0 : (w5.alloc (.cells #[.int .i64 (eraseF ⟨we, ps⟩).wear, .slice A5 4 c5] 67)).cell? ⟨w5.heap.size, 0, none⟩ = some (.int .i64 (eraseF ⟨we, ps⟩).wear) := (Blk.new w5 67 #[.int .i64 (eraseF ⟨we, ps⟩).wear, .slice A5 4 c5]).cell 0
  have e1 : (w5.alloc (.cells #[.int .i64 (eraseF ⟨we, ps⟩).wear, .slice A5 4 c5] 67)).cell? ⟨w5.heap.size, 1, none⟩ = some (.slice A5 4 c5) := (Blk.new w5 67 #[.int .i64 (eraseF ⟨we, ps⟩).wear, .slice A5 4 c5]).cell 1
  have oF := O4.out.setBlock (we := (eraseF ⟨we, ps⟩).wear) be oe B4.out.size (i := n) hnl
  obtain ⟨A3, n3, c3, f0, f1, z0, z1, _⟩ := (O4.out.below be).cells n hnl
  have BE := Lib.hid (((B4.out.trans (be.mono B4.out.size)).setCell (p := ⟨g, n * 2, none⟩) hg1 (.int .i64 (eraseF ⟨we, ps⟩).wear)).setCell (p := ⟨g, n * 2 + 1, none⟩) hg1 (.slice A5 4 c5))
  have oF2 : OwB _ w.heap.size (some ⟨g, 0, none⟩) bs.length c4 (bs.set n (eraseF ⟨we, ps⟩)) := oF
  have OF := Lib.hid oF2
  rw [HP.out] at f0
  generalize w5.alloc (.cells #[.int .i64 (eraseF ⟨we, ps⟩).wear, .slice A5 4 c5] 67) = wE at *
  clear oF oF2 be oe o5 b5 d0 d1 hrg
  generalize (eraseF ⟨we, ps⟩).wear = q1 at *
  go_wp2
  go_returns
  exact ⟨some ⟨g, 0, none⟩, c4, by first | (rw [HP.out]; done) | (rw [HP.out]; rfl), by rw [HEB.out]; exact OF.out, BE.out⟩
end Go.Proofs.Ytjnpgdhpneifjaa
