/- The laws' helpers on tables: size, copy, compare, mark, look. Conditions: lengths of at most 2^20. -/
import Derived.Test.YtjnpgdhpneifjaaTabOwn
import Derived.Test.YtjnpgdhpneifjaaDevLaw
namespace Go.Proofs.Ytjnpgdhpneifjaa
open Go.ChangeShapes Go.WideShapes Go.ChangeAt Go.RowKit Go.Deep
set_option linter.unusedVariables false
set_option linter.unusedSimpArgs false

def SmallT (ts : List (List Int)) (n : Nat) (left : Int) : Prop := ∀ i, i < n → ((ts.getD i []).length : Int) ≤ left
theorem szIntS_c {A : Option Addr} {n c : Nat} {left : Int} {w : World} (h0 : 0 ≤ left) (h1 : left ≤ 1048576) (hm : n ≤ 9223372036854775807) :
    Calls Try.prog 126 #[.slice A n c, .int .i64 left] w fun e w' => SzOk left ((n : Int) ≤ left) e ∧ w = w' := by
  by_cases h : (n : Int) ≤ left
  · go_enter Try.func126, Try.ntmps126
    go_wp2
    go_ret
    exact ⟨⟨_, rfl, by omega, by omega, fun _ => h⟩, rfl⟩
  · go_enter Try.func126, Try.ntmps126
    go_wp2
    go_ret
    exact ⟨⟨_, rfl, by omega, by omega, fun h => by omega⟩, rfl⟩
theorem szIntSS_c {A : Option Addr} {n c B : Nat} {ts : List (List Int)} {left : Int} {w : World} (hr : RdT w B A n ts) (hB : B ≤ w.heap.size) (h0 : 0 ≤ left) (h1 : left ≤ 1048576) (hm : n ≤ 9223372036854775807) :
    Calls Try.prog 99 #[.slice A n c, .int .i64 left] w fun e w' => SzOk left ((n : Int) ≤ left ∧ SmallT ts n left) e ∧ w = w' := by
  by_cases h : (n : Int) ≤ left
  · go_enter Try.func99, Try.ntmps99
    go_wp2
    go_loop [1, 5] (fun s i => ∃ (k : Nat) (l : Int), k ≤ n ∧ i = .int .i64 k ∧ s = .int .i64 l ∧ 0 ≤ l ∧ l ≤ left ∧ SmallT ts k left) (fun _ i => n - (intOf i).toNat)
    case atStart => exact ⟨0, left - n, Nat.zero_le _, rfl, rfl, by omega, by omega, fun i hi => absurd hi (Nat.not_lt_zero _)⟩
    case round =>
      obtain ⟨k, l, hk, rfl, rfl, hl0, hl1, hsm⟩ := hrel
      have HS := Lib.hid hsm
      by_cases hlt : k < n
      · obtain ⟨b, off, rfl, hbB, hc⟩ := hr.at_ (by omega)
        obtain ⟨A', n', c', e1, hnc, hcm, hrg⟩ := hc k hlt
        have HL := Lib.hid hrg.len
        clear hc hr hsm hrg
        go_wp2_with fail
        refine (szIntS_c hl0 (by omega) (by omega)).mono ?_
        rintro e w2 ⟨⟨r, rfl, r1, r2, r3⟩, rfl⟩
        have HR := Lib.hid r3
        clear r3 e1
        by_cases hneg : r < 0
        · go_wp2
          go_ret
          exact ⟨⟨_, rfl, by omega, by omega, fun h => by omega⟩, rfl⟩
        · have HS2 := Lib.hid (show SmallT ts (k + 1) left from fun i hi => by
            by_cases e : i = k
            · subst e; have := HR.out (by omega); have := HL.out; omega
            · exact HS.out i (by omega))
          go_wp2
          go_round
          case rel => exact ⟨k + 1, r, by omega, by go_num, rfl, by omega, by omega, HS2.out⟩
          case measure => simp [intOf]; omega
      · obtain rfl : k = n := by omega
        clear hsm
        go_wp2
        go_ret
        exact ⟨⟨_, rfl, by omega, hl1, fun _ => by first | exact ⟨h, HS.out⟩ | exact HS.out⟩, rfl⟩
  · go_enter Try.func99, Try.ntmps99
    go_wp2
    go_ret
    exact ⟨⟨_, rfl, by omega, by omega, fun h => by omega⟩, rfl⟩
theorem szTable_c {A : Option Addr} {n c B : Nat} {ts : List (List Int)} {left : Int} {w : World} (hr : RdT w B A n ts) (hB : B ≤ w.heap.size) (h0 : 0 ≤ left) (h1 : left ≤ 1048576) (hm : n ≤ 9223372036854775807) :
    Calls Try.prog 63 #[.agg #[.slice A n c], .int .i64 left] w fun e w' => SzOk left ((n : Int) ≤ left ∧ SmallT ts n left) e ∧ Below w.heap.size w w' := by
  have b1 : Below w.heap.size w (w.alloc (.cells #[.slice A n c] 50)) := (Below.refl _ _).alloc (Nat.le_refl _) _
  go_enter Try.func63, Try.ntmps63
  go_wp2_with fail
  refine (szIntSS_c ((hr.mono hB).below b1) b1.size h0 h1 hm).mono ?_
  rintro e w' ⟨⟨r, rfl, r1, r2, r3⟩, rfl⟩
  have HR := Lib.hid r3
  clear r3
  by_cases hr : r < 0
  · go_wp2
    go_ret
    exact ⟨⟨_, rfl, by omega, by omega, fun h => by omega⟩, b1⟩
  · go_wp2
    go_ret
    exact ⟨⟨_, rfl, by omega, by omega, HR.out⟩, b1⟩
theorem toIntSS_c {A : Option Addr} {c B : Nat} {ts : List (List Int)} {w : World} (hr : RdT w B A ts.length ts) (hB : B ≤ w.heap.size) (hn : ts.length ≤ 1048576) (hsm : SmallT ts ts.length 1048576) :
    Calls Try.prog 103 #[.slice A ts.length c] w fun e w' => ∃ A' c', e = .returned (.slice A' ts.length c') ∧ OwT w' w.heap.size A' ts.length c' ts ∧ Below w.heap.size w w' := by
  have hmk := makeTab ts.length hn
  have hst := Lib.hid (own_madeTab w w.heap.size ts.length ts rfl (Nat.le_refl _) hn)
  have HSM := Lib.hid hsm
  clear hsm
  generalize hl : ts.length = n at *
  have HL := Lib.hid hl
  clear hl
  go_enter Try.func103, Try.ntmps103
  go_wp2
  go_loopw [4] (fun i wr => ∃ k : Nat, k ≤ n ∧ i = .int .i64 k ∧ OwT wr w.heap.size (some ⟨w.heap.size, 0, none⟩) n n (fillTo [] ts k) ∧ Below w.heap.size w wr) (fun i _ => n - (intOf i).toNat)
  case atStart => exact ⟨0, Nat.zero_le _, rfl, hst.out, (Below.refl _ _).alloc (Nat.le_refl _) _⟩
  case round =>
    obtain ⟨k, hk, rfl, hown, hbel⟩ := hrel
    by_cases hlt : k < n
    · obtain ⟨b, off, rfl, hbB, hc⟩ := hr.at_ (by omega)
      obtain ⟨A', n', c', c1, hnc, hcm, hrg⟩ := hc k hlt
      have hbs : b < w.heap.size := by omega
      replace c1 := (hbel.cell (p := ⟨b, off + k, none⟩) hbs).trans c1
      have hrg2 := (hrg.mono hB).below hbel
      have hn2 : n' ≤ 1048576 := by have := HSM.out k hlt; rw [hrg.len] at this; omega
      have hfs := fillTo_set [] ts (k := k) (by have := HL.out; omega)
      generalize ts.getD k [] = xs at *
      obtain rfl := hrg2.len
      have HF := Lib.hid hfs
      have HO := Lib.hid hown
      have HB := Lib.hid hbel
      have hsz := hbel.size
      clear hc hr hfs hown hbel hmk hrg
      go_wp2_with fail
      refine (toIntS_o hrg2 hsz hn2).mono ?_
      rintro e w2 ⟨A2, c2, rfl, ho2, hb2⟩
      have oF := HO.out.setList hb2 ho2 hsz hlt
      obtain ⟨A3, n3, c3, f1, z1, _⟩ := (HO.out.below hb2).cells k hlt
      rw [HF.out] at oF
      have OF := Lib.hid oF
      have HB2 := Lib.hid (HB.out.trans (hb2.mono hsz))
      clear hb2 oF ho2 c1 hrg2
      go_wp2_with fail
      go_roundw
      case rel => exact ⟨k + 1, by omega, by go_num, OF.out, HB2.out.setCell (p := ⟨w.heap.size, k, none⟩) (Nat.le_refl _) _⟩
      case measure => simp [intOf]; omega
    · obtain rfl : k = n := by omega
      have how : OwT wr w.heap.size (some ⟨w.heap.size, 0, none⟩) k k ts := by rw [← HL.out, fillTo_all, HL.out] at hown; exact hown
      have HO := Lib.hid how
      clear hmk hown how
      go_wp2
      go_ret
      exact ⟨_, _, rfl, HO.out, hbel⟩
theorem toTable_c {A : Option Addr} {c B : Nat} {ts : List (List Int)} {w : World} (hr : RdT w B A ts.length ts) (hB : B ≤ w.heap.size) (hn : ts.length ≤ 1048576) (hsm : SmallT ts ts.length 1048576) :
    Calls Try.prog 70 #[.agg #[.slice A ts.length c]] w fun e w' => ∃ A' c', e = .returned (.agg #[.slice A' ts.length c']) ∧ OwT w' w.heap.size A' ts.length c' ts ∧ Below w.heap.size w w' := by
  have hr0 := hr.mono hB
  clear hr
  go_enter Try.func70, Try.ntmps70
  go_wp2_with fail
  have e1 : (w.alloc (.cells #[.slice A ts.length c] 50)).heap.size = w.heap.size + 1 := by simp
  have e2 : ((w.alloc (.cells #[.slice A ts.length c] 50)).alloc (.cells #[.slice none 0 0] 37)).heap.size = w.heap.size + 1 + 1 := by simp
  have K2 := (Blk.new (w.alloc (.cells #[.slice A ts.length c] 50)) 37 #[.slice none 0 0]).alloc (.cells #[.slice none 0 0] 37)
  have K3 := Blk.new ((w.alloc (.cells #[.slice A ts.length c] 50)).alloc (.cells #[.slice none 0 0] 37)) 37 #[.slice none 0 0]
  rw [e1] at K2
  rw [e2] at K3
  have b3 : Below w.heap.size w (((w.alloc (.cells #[.slice A ts.length c] 50)).alloc (.cells #[.slice none 0 0] 37)).alloc (.cells #[.slice none 0 0] 37)) := (((Below.refl _ _).alloc (Nat.le_refl _) _).alloc (by simp) _).alloc (by simp; omega) _
  have s3 : w.heap.size + 1 + 1 < (((w.alloc (.cells #[.slice A ts.length c] 50)).alloc (.cells #[.slice none 0 0] 37)).alloc (.cells #[.slice none 0 0] 37)).heap.size := by simp
  generalize (((w.alloc (.cells #[.slice A ts.length c] 50)).alloc (.cells #[.slice none 0 0] 37)).alloc (.cells #[.slice none 0 0] 37)) = w3 at *
  refine (toIntSS_c (hr0.below b3) b3.size hn hsm).mono ?_
  rintro e w4 ⟨A4, c4, rfl, o4, b4⟩
  have K4 := K2.below b4 (by omega)
  have K5 := K3.below b4 (by omega)
  have t0 := K4.cell 0
  have z0 := K4.frozen 0
  have u0 := K5.cell 0
  have y0 := K5.frozen 0
  simp at t0 u0
  have B5 := b3.trans (b4.mono (by omega))
  have K6 := K4.far (p := ⟨w.heap.size + 1 + 1, 0, none⟩) (by simp) (.slice A4 ts.length c4)
  have KS := K6.set_ 0 (.slice A4 ts.length c4)
  have e0 := KS.cell 0
  have O5 := (o4.typed (ChgT.blk K5 0 (.slice A4 ts.length c4)) (by decide) (by decide)).typed (ChgT.blk K6 0 (.slice A4 ts.length c4)) (by decide) (by decide)
  have HO := Lib.hid (O5.lower b3.size)
  have HB5 := Lib.hid ((B5.setCell (p := ⟨w.heap.size + 1 + 1, 0, none⟩) (by show w.heap.size ≤ _ + 1 + 1; omega) (.slice A4 ts.length c4)).setCell (p := ⟨w.heap.size + 1, 0, none⟩) (by show w.heap.size ≤ _ + 1; omega) (.slice A4 ts.length c4))
  simp at e0
  have E0 := Lib.hid e0
  clear K2 K3 K4 K5 K6 b3 b4 o4 hr0 B5 KS O5 e0
  go_wp2
  generalize (w4.setCell ⟨w.heap.size + 1 + 1, 0, none⟩ (.slice A4 ts.length c4)).setCell ⟨w.heap.size + 1, 0, none⟩ (.slice A4 ts.length c4) = w9 at *
  have e0 := E0.out
  refine bodyPost_ret (by simp [results, Try.results70, go_sem, e0]; try rfl) rfl ?_
  exact ⟨A4, c4, rfl, HO.out, HB5.out⟩
theorem eqIntSS_same {A A' : Option Addr} {n c c' B B' : Nat} {ts : List (List Int)} {w : World} (hr : RdT w B A n ts) (hr' : RdT w B' A' n ts) (hB : B ≤ w.heap.size) (hB' : B' ≤ w.heap.size) (hn : n ≤ 9000000000000) (hsm : SmallT ts n 1048576) :
    Calls Try.prog 85 #[.slice A n c, .slice A' n c'] w fun e w' => e = .returned (.bool true) ∧ Below w.heap.size w w' := by
  have HSM := Lib.hid hsm
  clear hsm
  go_enter Try.func85, Try.ntmps85
  go_wp2
  go_loopw [5] (fun i wr => ∃ k : Nat, k ≤ n ∧ i = .int .i64 k ∧ Below w.heap.size w wr) (fun i _ => n - (intOf i).toNat)
  case atStart => exact ⟨0, Nat.zero_le _, rfl, Below.refl _ _⟩
  case round =>
    obtain ⟨k, hk, rfl, hbel⟩ := hrel
    by_cases hlt : k < n
    · obtain ⟨b, off, rfl, hbB, hc⟩ := hr.at_ (by omega)
      obtain ⟨b', off', rfl, hbB', hc'⟩ := hr'.at_ (by omega)
      obtain ⟨P, np, cp, c1, hp1, hp2, hp⟩ := hc k hlt
      obtain ⟨Q, nq, cq, d1, hq1, hq2, hq⟩ := hc' k hlt
      have hnq : nq = np := by rw [← hp.len, ← hq.len]
      subst hnq
      have hns : nq ≤ 1048576 := by have := HSM.out k hlt; rw [hp.len] at this; omega
      have l0 : b < w.heap.size := by omega
      have l1 : b' < w.heap.size := by omega
      replace c1 := (hbel.cell (p := ⟨b, off + k, none⟩) l0).trans c1
      replace d1 := (hbel.cell (p := ⟨b', off' + k, none⟩) l1).trans d1
      have HP := Lib.hid ((hp.mono hB).below hbel)
      have HQ := Lib.hid ((hq.mono hB').below hbel)
      generalize ts.getD k [] = xs at *
      have HB := Lib.hid hbel
      clear hc hr hc' hr' hbel hp hq
      go_wp2_with fail
      go_region_with (go_at_call 120; refine (eqIntS_o HP.out.drew HQ.out.drew (by omega)).mono ?_; rintro e w2 ⟨rfl, hb2⟩)
      all_goals
        go_wp2_with fail
        go_roundw
        case rel => exact ⟨k + 1, by omega, by go_num, HB.out.drew.trans (hb2.mono HB.out.size)⟩
        case measure => simp [intOf]; omega
    · have hkn : k = n := by omega
      subst hkn
      go_wp2
      go_ret
      exact ⟨rfl, hbel⟩
theorem eqTable_same {A A' : Option Addr} {n c c' B B' : Nat} {ts : List (List Int)} {w : World} (hr : RdT w B A n ts) (hr' : RdT w B' A' n ts) (hB : B ≤ w.heap.size) (hB' : B' ≤ w.heap.size) (hn : n ≤ 9000000000000) (hsm : SmallT ts n 1048576) :
    Calls Try.prog 46 #[.agg #[.slice A n c], .agg #[.slice A' n c']] w fun e w' => e = .returned (.bool true) ∧ Below w.heap.size w w' := by
  have b2 : Below w.heap.size w ((w.alloc (.cells #[.slice A n c] 37)).alloc (.cells #[.slice A' n c'] 37)) := ((Below.refl _ _).alloc (Nat.le_refl _) _).alloc (by simp) _
  go_enter Try.func46, Try.ntmps46
  go_wp2_with fail
  refine (eqIntSS_same ((hr.mono hB).below b2) ((hr'.mono hB').below b2) b2.size b2.size hn hsm).mono ?_
  rintro e w' ⟨rfl, hb⟩
  go_wp2
  go_ret
  exact ⟨rfl, b2.trans (hb.mono b2.size)⟩
end Go.Proofs.Ytjnpgdhpneifjaa
