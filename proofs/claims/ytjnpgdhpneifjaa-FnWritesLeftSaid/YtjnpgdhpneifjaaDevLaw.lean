/- The laws' helpers on pages and blocks: size, copy, compare. Conditions: lengths of at most 2^20. -/
import Derived.Test.YtjnpgdhpneifjaaDevOwn
namespace Go.Proofs.Ytjnpgdhpneifjaa
open Go.ChangeShapes Go.WideShapes Go.ChangeAt Go.RowKit Go.Deep
set_option linter.unusedVariables false
set_option linter.unusedSimpArgs false

/-- what a size function answers: what is left, or -1; if something is left, P -/
def SzOk (left : Int) (P : Prop) (e : Ending) : Prop := ∃ r : Int, e = .returned (.int .i64 r) ∧ -1 ≤ r ∧ r ≤ left ∧ (0 ≤ r → P)
theorem szPageS_c {A : Option Addr} {n c : Nat} {left : Int} {w : World} (h0 : 0 ≤ left) (h1 : left ≤ 1048576) (hm : n ≤ 9223372036854775807) :
    Calls Try.prog 74 #[.slice A n c, .int .i64 left] w fun e w' => SzOk left ((n : Int) ≤ left) e ∧ w = w' := by
  by_cases h : (n : Int) ≤ left
  · go_enter Try.func74, Try.ntmps74
    go_wp2
    go_ret
    exact ⟨⟨_, rfl, by omega, by omega, fun _ => h⟩, rfl⟩
  · go_enter Try.func74, Try.ntmps74
    go_wp2
    go_ret
    exact ⟨⟨_, rfl, by omega, by omega, fun h => by omega⟩, rfl⟩
theorem szBlock_c {A : Option Addr} {n c : Nat} {we left : Int} {w : World} (h0 : 0 ≤ left) (h1 : left ≤ 1048576) (hm : n ≤ 9223372036854775807) :
    Calls Try.prog 30 #[.agg #[.int .i64 we, .slice A n c], .int .i64 left] w fun e w' => SzOk left ((n : Int) ≤ left) e ∧ Below w.heap.size w w' := by
  go_enter Try.func30, Try.ntmps30
  go_wp2_with fail
  refine (szPageS_c h0 h1 hm).mono ?_
  rintro e w' ⟨⟨r, rfl, r1, r2, r3⟩, rfl⟩
  have HR := Lib.hid r3
  clear r3
  by_cases hr : r < 0
  · go_wp2
    go_ret
    exact ⟨⟨_, rfl, by omega, by omega, fun h => by omega⟩, (Below.refl _ _).alloc (Nat.le_refl _) _⟩
  · go_wp2
    go_ret
    exact ⟨⟨_, rfl, by omega, by omega, HR.out⟩, (Below.refl _ _).alloc (Nat.le_refl _) _⟩
def SmallB (bs : List BlockV) (n : Nat) (left : Int) : Prop := ∀ i, i < n → ((bs.getD i noBlock).pages.length : Int) ≤ left
theorem szBlockS_c {A : Option Addr} {n c B : Nat} {bs : List BlockV} {left : Int} {w : World} (hr : RdB w B A n bs) (hB : B ≤ w.heap.size) (h0 : 0 ≤ left) (h1 : left ≤ 1048576) (hm : n ≤ 9223372036854775807) :
    Calls Try.prog 9 #[.slice A n c, .int .i64 left] w fun e w' => SzOk left ((n : Int) ≤ left ∧ SmallB bs n left) e ∧ Below w.heap.size w w' := by
  by_cases h : (n : Int) ≤ left
  · go_enter Try.func9, Try.ntmps9
    go_wp2
    go_loopw [1, 5] (fun s i wr => ∃ (k : Nat) (l : Int), k ≤ n ∧ i = .int .i64 k ∧ s = .int .i64 l ∧ 0 ≤ l ∧ l ≤ left ∧ SmallB bs k left ∧ Below w.heap.size w wr) (fun _ i _ => n - (intOf i).toNat)
    case atStart => exact ⟨0, left - n, Nat.zero_le _, rfl, rfl, by omega, by omega, fun i hi => absurd hi (Nat.not_lt_zero _), Below.refl _ _⟩
    case round =>
      obtain ⟨k, l, hk, rfl, rfl, hl0, hl1, hsm, hbl⟩ := hrel
      have HS := Lib.hid hsm
      have HB := Lib.hid hbl
      by_cases hlt : k < n
      · obtain ⟨b, off, rfl, hbB, hc⟩ := hr.at_ (by omega)
        obtain ⟨A', n', c', e0, e1, hnc, hcm, hrg⟩ := hc k hlt
        have hbs : b < w.heap.size := by omega
        replace e0 := (hbl.cell (p := ⟨b, off + k * 2, none⟩) hbs).trans e0
        replace e1 := (hbl.cell (p := ⟨b, off + k * 2 + 1, none⟩) hbs).trans e1
        have HL := Lib.hid hrg.len
        generalize (bs.getD k noBlock).wear = we at *
        clear hc hr hsm hbl hrg
        go_wp2_with fail
        refine (szBlock_c hl0 (by omega) (by omega)).mono ?_
        rintro e w2 ⟨⟨r, rfl, r1, r2, r3⟩, hb2⟩
        have HR := Lib.hid r3
        have HB2 := Lib.hid (HB.out.trans (hb2.mono HB.out.size))
        clear r3 hb2 e0 e1
        by_cases hneg : r < 0
        · go_wp2
          go_ret
          exact ⟨⟨_, rfl, by omega, by omega, fun h => by omega⟩, HB2.out⟩
        · have HS2 := Lib.hid (show SmallB bs (k + 1) left from fun i hi => by
            by_cases e : i = k
            · subst e; have := HR.out (by omega); have := HL.out; omega
            · exact HS.out i (by omega))
          go_wp2
          go_roundw
          case rel => exact ⟨k + 1, r, by omega, by go_num, rfl, by omega, by omega, HS2.out, HB2.out⟩
          case measure => simp [intOf]; omega
      · obtain rfl : k = n := by omega
        clear hsm hbl
        go_wp2
        go_ret
        exact ⟨⟨_, rfl, by omega, hl1, fun _ => ⟨h, HS.out⟩⟩, HB.out⟩
  · go_enter Try.func9, Try.ntmps9
    go_wp2
    go_ret
    exact ⟨⟨_, rfl, by omega, by omega, fun h => by omega⟩, Below.refl _ _⟩

theorem toPage_c (p : PageV) (w : World) :
    Calls Try.prog 109 #[.agg #[.bool p.full, .int .i64 p.file, .int .i64 p.place, .int .i64 p.value, .int .i64 p.stamp]] w fun e w' => e = .returned (.agg #[.bool p.full, .int .i64 p.file, .int .i64 p.place, .int .i64 p.value, .int .i64 p.stamp]) ∧ Below w.heap.size w w' := by
  obtain ⟨f, x, y, z, s⟩ := p
  simp only
  go_enter Try.func109, Try.ntmps109
  go_wp2
  go_returns
  exact ⟨rfl, (((Below.refl _ _).alloc (Nat.le_refl _) _).alloc (by simp) _).alloc (by simp; omega) _⟩
theorem toPageS_c {A : Option Addr} {c B : Nat} {ps : List PageV} {w : World} (hr : RdG w B A ps.length ps) (hB : B ≤ w.heap.size) (hn : ps.length ≤ 1048576) :
    Calls Try.prog 77 #[.slice A ps.length c] w fun e w' => ∃ A' c', e = .returned (.slice A' ps.length c') ∧ w'.ownsRow w.heap.size 102 5 (.slice A' ps.length c') ps.length (flatG ps) ∧ Below w.heap.size w w' := by
  have hmk := makePage ps.length hn
  have hst := Lib.hid (own_madePages w w.heap.size ps.length ps rfl (Nat.le_refl _) hn)
  generalize hl : ps.length = n at *
  have HL := Lib.hid hl
  clear hl
  go_enter Try.func77, Try.ntmps77
  go_wp2
  go_loopw [4] (fun i wr => ∃ k : Nat, k ≤ n ∧ i = .int .i64 k ∧ wr.ownsRow w.heap.size 102 5 (.slice (some ⟨w.heap.size, 0, none⟩) n n) n (flatG (fillTo noPage ps k)) ∧ Below w.heap.size w wr) (fun i _ => n - (intOf i).toNat)
  case atStart => exact ⟨0, Nat.zero_le _, rfl, hst.out, (Below.refl _ _).alloc (Nat.le_refl _) _⟩
  case round =>
    obtain ⟨k, hk, rfl, hown, hbel⟩ := hrel
    by_cases hlt : k < n
    · obtain ⟨b, off, rfl, hbB, hc⟩ := hr.at_ (by omega)
      obtain ⟨c0, c1, c2, c3, c4⟩ := hc k hlt
      have hbs : b < w.heap.size := by omega
      replace c0 := (hbel.cell (p := ⟨b, off + k * 5, none⟩) hbs).trans c0
      replace c1 := (hbel.cell (p := ⟨b, off + k * 5 + 1, none⟩) hbs).trans c1
      replace c2 := (hbel.cell (p := ⟨b, off + k * 5 + 2, none⟩) hbs).trans c2
      replace c3 := (hbel.cell (p := ⟨b, off + k * 5 + 3, none⟩) hbs).trans c3
      replace c4 := (hbel.cell (p := ⟨b, off + k * 5 + 4, none⟩) hbs).trans c4
      have hfs := fillTo_set noPage ps (k := k) (by have := HL.out; omega)
      generalize ps.getD k noPage = P at *
      have HF := Lib.hid hfs
      have HO := Lib.hid hown
      have HB := Lib.hid hbel
      have HS := Lib.hid (own_lt hown (k := w.heap.size) rfl).2
      clear hc hr hfs hown hbel hmk
      go_wp2_with fail
      refine (toPage_c P _).mono ?_
      rintro e w2 ⟨rfl, hb2⟩
      have ho2 := own_below HO.out hb2
      have HB2 := Lib.hid (HB.out.trans (hb2.mono HB.out.size))
      obtain ⟨f0, f1, f2, f3, f4⟩ := own_pageCells ho2 k hlt
      have z0 := ho2.frozenAt (g := w.heap.size) (cap := n) (k * 5)
      have z1 := ho2.frozenAt (g := w.heap.size) (cap := n) (k * 5 + 1)
      have z2 := ho2.frozenAt (g := w.heap.size) (cap := n) (k * 5 + 2)
      have z3 := ho2.frozenAt (g := w.heap.size) (cap := n) (k * 5 + 3)
      have z4 := ho2.frozenAt (g := w.heap.size) (cap := n) (k * 5 + 4)
      have hput := own_putPage ho2 k hlt P
      rw [HF.out] at hput
      unfold putPage at hput
      have HP := Lib.hid hput
      generalize (fillTo noPage ps k).getD k noPage = Q at *
      clear ho2 hb2 hput c0 c1 c2 c3 c4
      go_wp2_with fail
      go_roundw
      case rel => exact ⟨k + 1, by omega, by go_num, HP.out.1, ((((HB2.out.setCell (p := ⟨w.heap.size, k * 5, none⟩) (Nat.le_refl _) _).setCell (p := ⟨w.heap.size, k * 5 + 1, none⟩) (Nat.le_refl _) _).setCell (p := ⟨w.heap.size, k * 5 + 2, none⟩) (Nat.le_refl _) _).setCell (p := ⟨w.heap.size, k * 5 + 3, none⟩) (Nat.le_refl _) _).setCell (p := ⟨w.heap.size, k * 5 + 4, none⟩) (Nat.le_refl _) _⟩
      case measure => simp [intOf]; omega
    · obtain rfl : k = n := by omega
      have how : wr.ownsRow w.heap.size 102 5 (.slice (some ⟨w.heap.size, 0, none⟩) k k) k (flatG ps) := by rw [← HL.out, fillTo_all, HL.out] at hown; exact hown
      have HO := Lib.hid how
      clear hmk hown how
      go_wp2
      go_ret
      exact ⟨_, _, rfl, HO.out, hbel⟩
theorem toBlock_c {A : Option Addr} {n c B : Nat} {we : Int} {ps : List PageV} {w : World} (hr : RdG w B A n ps) (hB : B ≤ w.heap.size) (hn : n ≤ 1048576) :
    Calls Try.prog 34 #[.agg #[.int .i64 we, .slice A n c]] w fun e w' => ∃ A' c', e = .returned (.agg #[.int .i64 we, .slice A' n c']) ∧ w'.ownsRow w.heap.size 102 5 (.slice A' n c') n (flatG ps) ∧ Below w.heap.size w w' := by
  obtain rfl : ps.length = n := hr.len
  have hr0 := hr.mono hB
  clear hr
  go_enter Try.func34, Try.ntmps34
  go_wp2_with fail
  have e1 : (w.alloc (.cells #[.int .i64 we, .slice A ps.length c] 62)).heap.size = w.heap.size + 1 := by simp
  have e2 : ((w.alloc (.cells #[.int .i64 we, .slice A ps.length c] 62)).alloc (.cells #[.int .i64 0, .slice none 0 0] 67)).heap.size = w.heap.size + 1 + 1 := by simp
  have K2 := (Blk.new (w.alloc (.cells #[.int .i64 we, .slice A ps.length c] 62)) 67 #[.int .i64 0, .slice none 0 0]).alloc (.cells #[.int .i64 we, .slice none 0 0] 67)
  have K3 := Blk.new ((w.alloc (.cells #[.int .i64 we, .slice A ps.length c] 62)).alloc (.cells #[.int .i64 0, .slice none 0 0] 67)) 67 #[.int .i64 we, .slice none 0 0]
  rw [e1] at K2
  rw [e2] at K3
  have b3 : Below w.heap.size w (((w.alloc (.cells #[.int .i64 we, .slice A ps.length c] 62)).alloc (.cells #[.int .i64 0, .slice none 0 0] 67)).alloc (.cells #[.int .i64 we, .slice none 0 0] 67)) := (((Below.refl _ _).alloc (Nat.le_refl _) _).alloc (by simp) _).alloc (by simp; omega) _
  have s3 : w.heap.size + 1 + 1 < (((w.alloc (.cells #[.int .i64 we, .slice A ps.length c] 62)).alloc (.cells #[.int .i64 0, .slice none 0 0] 67)).alloc (.cells #[.int .i64 we, .slice none 0 0] 67)).heap.size := by simp
  generalize (((w.alloc (.cells #[.int .i64 we, .slice A ps.length c] 62)).alloc (.cells #[.int .i64 0, .slice none 0 0] 67)).alloc (.cells #[.int .i64 we, .slice none 0 0] 67)) = w3 at *
  refine (toPageS_c (hr0.below b3) b3.size hn).mono ?_
  rintro e w4 ⟨A4, c4, rfl, o4, b4⟩
  have K4 := K2.below b4 (by omega)
  have K5 := K3.below b4 (by omega)
  have t0 := K4.cell 0
  have t1 := K4.cell 1
  have z0 := K4.frozen 0
  have z1 := K4.frozen 1
  have u0 := K5.cell 0
  have u1 := K5.cell 1
  have y0 := K5.frozen 0
  have y1 := K5.frozen 1
  simp at t0 t1 u0 u1
  have B5 := b3.trans (b4.mono (by omega))
  have KS := ((K4.far (p := ⟨w.heap.size + 1 + 1, 1, none⟩) (by simp) (.slice A4 ps.length c4)).set_ 0 (.int .i64 we)).set_ 1 (.slice A4 ps.length c4)
  have e0 := KS.cell 0
  have e3 := KS.cell 1
  have O5 := ownsRow_setCell_below (ownsRow_setCell_below (ownsRow_setCell_below o4 (a := ⟨w.heap.size + 1 + 1, 1, none⟩) (by show w.heap.size + 1 + 1 < w3.heap.size; omega) (.slice A4 ps.length c4)) (a := ⟨w.heap.size + 1, 0, none⟩) (by show w.heap.size + 1 < w3.heap.size; omega) (.int .i64 we)) (a := ⟨w.heap.size + 1, 1, none⟩) (by show w.heap.size + 1 < w3.heap.size; omega) (.slice A4 ps.length c4)
  have HO := Lib.hid (own_lower O5 b3.size)
  have HB5 := Lib.hid (((B5.setCell (p := ⟨w.heap.size + 1 + 1, 1, none⟩) (by show w.heap.size ≤ _ + 1 + 1; omega) (.slice A4 ps.length c4)).setCell (p := ⟨w.heap.size + 1, 0, none⟩) (by show w.heap.size ≤ _ + 1; omega) (.int .i64 we)).setCell (p := ⟨w.heap.size + 1, 1, none⟩) (by show w.heap.size ≤ _ + 1; omega) (.slice A4 ps.length c4))
  simp at e0 e3
  have E0 := Lib.hid e0
  have E3 := Lib.hid e3
  clear K2 K3 K4 K5 b3 b4 o4 hr0 B5 KS O5 e0 e3
  go_wp2
  generalize ((w4.setCell ⟨w.heap.size + 1 + 1, 1, none⟩ (.slice A4 ps.length c4)).setCell ⟨w.heap.size + 1, 0, none⟩ (.int .i64 we)).setCell ⟨w.heap.size + 1, 1, none⟩ (.slice A4 ps.length c4) = w9 at *
  have e0 := E0.out
  have e3 := E3.out
  refine bodyPost_ret (by simp [results, Try.results34, go_sem, e0, e3]; try rfl) rfl ?_
  exact ⟨A4, c4, rfl, HO.out, HB5.out⟩
theorem toBlockS_c {A : Option Addr} {c B : Nat} {bs : List BlockV} {w : World} (hr : RdB w B A bs.length bs) (hB : B ≤ w.heap.size) (hn : bs.length ≤ 1048576) (hsm : SmallB bs bs.length 1048576) :
    Calls Try.prog 11 #[.slice A bs.length c] w fun e w' => ∃ A' c', e = .returned (.slice A' bs.length c') ∧ OwB w' w.heap.size A' bs.length c' bs ∧ Below w.heap.size w w' := by
  have hmk := makeBlock bs.length hn
  have hst := Lib.hid (own_madeBlocks w w.heap.size bs.length bs rfl (Nat.le_refl _) hn)
  have HSM := Lib.hid hsm
  clear hsm
  generalize hl : bs.length = n at *
  have HL := Lib.hid hl
  clear hl
  go_enter Try.func11, Try.ntmps11
  go_wp2
  go_loopw [4] (fun i wr => ∃ k : Nat, k ≤ n ∧ i = .int .i64 k ∧ OwB wr w.heap.size (some ⟨w.heap.size, 0, none⟩) n n (fillTo noBlock bs k) ∧ Below w.heap.size w wr) (fun i _ => n - (intOf i).toNat)
  case atStart => exact ⟨0, Nat.zero_le _, rfl, hst.out, (Below.refl _ _).alloc (Nat.le_refl _) _⟩
  case round =>
    obtain ⟨k, hk, rfl, hown, hbel⟩ := hrel
    by_cases hlt : k < n
    · obtain ⟨b, off, rfl, hbB, hc⟩ := hr.at_ (by omega)
      obtain ⟨A', n', c', c0, c1, hnc, hcm, hrg⟩ := hc k hlt
      have hbs : b < w.heap.size := by omega
      replace c0 := (hbel.cell (p := ⟨b, off + k * 2, none⟩) hbs).trans c0
      replace c1 := (hbel.cell (p := ⟨b, off + k * 2 + 1, none⟩) hbs).trans c1
      have hrg2 := (hrg.mono hB).below hbel
      have hn2 : n' ≤ 1048576 := by have := HSM.out k hlt; rw [hrg.len] at this; omega
      have hfs := fillTo_set noBlock bs (k := k) (by have := HL.out; omega)
      generalize bs.getD k noBlock = P at *
      obtain ⟨we, ps⟩ := P
      simp only at c0 hrg2
      have HF := Lib.hid hfs
      have HO := Lib.hid hown
      have HB := Lib.hid hbel
      have hsz := hbel.size
      clear hc hr hfs hown hbel hmk hrg
      go_wp2_with fail
      refine (toBlock_c hrg2 hsz hn2).mono ?_
      rintro e w2 ⟨A2, c2, rfl, ho2, hb2⟩
      have oF := HO.out.setBlock (we := we) hb2 ho2 hsz hlt
      obtain ⟨A3, n3, c3, f0, f1, z0, z1, _⟩ := (HO.out.below hb2).cells k hlt
      rw [HF.out] at oF
      have OF := Lib.hid oF
      have HB2 := Lib.hid (HB.out.trans (hb2.mono hsz))
      generalize ((fillTo noBlock bs k).getD k noBlock).wear = q at *
      clear hb2 oF ho2 c0 c1 hrg2
      go_wp2_with fail
      go_roundw
      case rel => exact ⟨k + 1, by omega, by go_num, OF.out, (HB2.out.setCell (p := ⟨w.heap.size, k * 2, none⟩) (Nat.le_refl _) _).setCell (p := ⟨w.heap.size, k * 2 + 1, none⟩) (Nat.le_refl _) _⟩
      case measure => simp [intOf]; omega
    · obtain rfl : k = n := by omega
      have how : OwB wr w.heap.size (some ⟨w.heap.size, 0, none⟩) k k bs := by rw [← HL.out, fillTo_all, HL.out] at hown; exact hown
      have HO := Lib.hid how
      clear hmk hown how
      go_wp2
      go_ret
      exact ⟨_, _, rfl, HO.out, hbel⟩
/-! ### equal pages, blocks -/
theorem eqPage_same (p : PageV) (w : World) :
    Calls Try.prog 111 #[.agg #[.bool p.full, .int .i64 p.file, .int .i64 p.place, .int .i64 p.value, .int .i64 p.stamp], .agg #[.bool p.full, .int .i64 p.file, .int .i64 p.place, .int .i64 p.value, .int .i64 p.stamp]] w fun e w' => e = .returned (.bool true) ∧ Below w.heap.size w w' := by
  obtain ⟨f, x, y, z, s⟩ := p
  simp only
  cases f
  all_goals
    go_enter Try.func111, Try.ntmps111
    go_wp2
    go_ret
    exact ⟨rfl, ((Below.refl _ _).alloc (Nat.le_refl _) _).alloc (by simp) _⟩
theorem eqPageS_same {A A' : Option Addr} {n c c' B B' : Nat} {ps : List PageV} {w : World} (hr : RdG w B A n ps) (hr' : RdG w B' A' n ps) (hn : n ≤ 9000000000000) :
    Calls Try.prog 79 #[.slice A n c, .slice A' n c'] w fun e w' => e = .returned (.bool true) ∧ Below w.heap.size w w' := by
  go_enter Try.func79, Try.ntmps79
  go_wp2
  go_loopw [5] (fun i wr => ∃ k : Nat, k ≤ n ∧ i = .int .i64 k ∧ Below w.heap.size w wr) (fun i _ => n - (intOf i).toNat)
  case atStart => exact ⟨0, Nat.zero_le _, rfl, Below.refl _ _⟩
  case round =>
    obtain ⟨k, hk, rfl, hbel⟩ := hrel
    by_cases hlt : k < n
    · obtain ⟨b, off, rfl, hbB, hc⟩ := hr.at_ (by omega)
      obtain ⟨b', off', rfl, hbB', hc'⟩ := hr'.at_ (by omega)
      obtain ⟨c0, c1, c2, c3, c4⟩ := hc k hlt
      obtain ⟨d0, d1, d2, d3, d4⟩ := hc' k hlt
      have l0 := block_lt_of_cell c0
      have l1 := block_lt_of_cell d0
      replace c0 := (hbel.cell (p := ⟨b, off + k * 5, none⟩) l0).trans c0
      replace c1 := (hbel.cell (p := ⟨b, off + k * 5 + 1, none⟩) l0).trans c1
      replace c2 := (hbel.cell (p := ⟨b, off + k * 5 + 2, none⟩) l0).trans c2
      replace c3 := (hbel.cell (p := ⟨b, off + k * 5 + 3, none⟩) l0).trans c3
      replace c4 := (hbel.cell (p := ⟨b, off + k * 5 + 4, none⟩) l0).trans c4
      replace d0 := (hbel.cell (p := ⟨b', off' + k * 5, none⟩) l1).trans d0
      replace d1 := (hbel.cell (p := ⟨b', off' + k * 5 + 1, none⟩) l1).trans d1
      replace d2 := (hbel.cell (p := ⟨b', off' + k * 5 + 2, none⟩) l1).trans d2
      replace d3 := (hbel.cell (p := ⟨b', off' + k * 5 + 3, none⟩) l1).trans d3
      replace d4 := (hbel.cell (p := ⟨b', off' + k * 5 + 4, none⟩) l1).trans d4
      generalize ps.getD k noPage = P at *
      have HB := Lib.hid hbel
      clear hc hr hc' hr' hbel
      go_wp2_with fail
      go_region_with (go_at_call 111; refine (eqPage_same P _).mono ?_; rintro e w2 ⟨rfl, hb2⟩)
      all_goals
        go_wp2_with fail
        go_roundw
        case rel => exact ⟨k + 1, by omega, by go_num, HB.out.drew.trans (hb2.mono HB.out.size)⟩
        case measure => simp [intOf]; omega
    · have hkn : k = n := by omega
      subst hkn
      go_wp2
      go_ret
      exact ⟨rfl, hbel⟩
theorem eqBlock_same {A A' : Option Addr} {n c c' B B' : Nat} {we : Int} {ps : List PageV} {w : World} (hr : RdG w B A n ps) (hr' : RdG w B' A' n ps) (hB : B ≤ w.heap.size) (hB' : B' ≤ w.heap.size) (hn : n ≤ 9000000000000) :
    Calls Try.prog 37 #[.agg #[.int .i64 we, .slice A n c], .agg #[.int .i64 we, .slice A' n c']] w fun e w' => e = .returned (.bool true) ∧ Below w.heap.size w w' := by
  have hr0 := hr.mono hB
  have hr0' := hr'.mono hB'
  go_enter Try.func37, Try.ntmps37
  go_wp2_with fail
  have b2 : Below w.heap.size w ((w.alloc (.cells #[.int .i64 we, .slice A n c] 67)).alloc (.cells #[.int .i64 we, .slice A' n c'] 67)) := ((Below.refl _ _).alloc (Nat.le_refl _) _).alloc (by simp) _
  refine (eqPageS_same (hr0.below b2) (hr0'.below b2) hn).mono ?_
  rintro e w' ⟨rfl, hb⟩
  go_wp2
  go_ret
  exact ⟨rfl, b2.trans (hb.mono b2.size)⟩
theorem eqBlockS_same {A A' : Option Addr} {n c c' B B' : Nat} {bs : List BlockV} {w : World} (hr : RdB w B A n bs) (hr' : RdB w B' A' n bs) (hB : B ≤ w.heap.size) (hB' : B' ≤ w.heap.size) (hn : n ≤ 9000000000000) (hsm : SmallB bs n 1048576) :
    Calls Try.prog 13 #[.slice A n c, .slice A' n c'] w fun e w' => e = .returned (.bool true) ∧ Below w.heap.size w w' := by
  have HSM := Lib.hid hsm
  clear hsm
  go_enter Try.func13, Try.ntmps13
  go_wp2
  go_loopw [5] (fun i wr => ∃ k : Nat, k ≤ n ∧ i = .int .i64 k ∧ Below w.heap.size w wr) (fun i _ => n - (intOf i).toNat)
  case atStart => exact ⟨0, Nat.zero_le _, rfl, Below.refl _ _⟩
  case round =>
    obtain ⟨k, hk, rfl, hbel⟩ := hrel
    by_cases hlt : k < n
    · obtain ⟨b, off, rfl, hbB, hc⟩ := hr.at_ (by omega)
      obtain ⟨b', off', rfl, hbB', hc'⟩ := hr'.at_ (by omega)
      obtain ⟨P, np, cp, c0, c1, hp1, hp2, hp⟩ := hc k hlt
      obtain ⟨Q, nq, cq, d0, d1, hq1, hq2, hq⟩ := hc' k hlt
      have hnq : nq = np := by rw [← hp.len, ← hq.len]
      subst hnq
      have hns : nq ≤ 1048576 := by have := HSM.out k hlt; rw [hp.len] at this; omega
      have l0 : b < w.heap.size := by omega
      have l1 : b' < w.heap.size := by omega
      replace c0 := (hbel.cell (p := ⟨b, off + k * 2, none⟩) l0).trans c0
      replace c1 := (hbel.cell (p := ⟨b, off + k * 2 + 1, none⟩) l0).trans c1
      replace d0 := (hbel.cell (p := ⟨b', off' + k * 2, none⟩) l1).trans d0
      replace d1 := (hbel.cell (p := ⟨b', off' + k * 2 + 1, none⟩) l1).trans d1
      have HP := Lib.hid ((hp.mono hB).below hbel)
      have HQ := Lib.hid ((hq.mono hB').below hbel)
      generalize bs.getD k noBlock = X at *
      obtain ⟨we, ps⟩ := X
      simp only at c0 d0 HP HQ
      have HB := Lib.hid hbel
      clear hc hr hc' hr' hbel hp hq
      go_wp2_with fail
      go_region_with (go_at_call 37; refine (eqBlock_same HP.out.drew HQ.out.drew HB.out.size HB.out.size (by omega)).mono ?_; rintro e w2 ⟨rfl, hb2⟩)
      all_goals
        go_wp2_with fail
        go_roundw
        case rel => exact ⟨k + 1, by omega, by go_num, HB.out.drew.trans (hb2.mono HB.out.size)⟩
        case measure => simp [intOf]; omega
    · have hkn : k = n := by omega
      subst hkn
      go_wp2
      go_ret
      exact ⟨rfl, hbel⟩
end Go.Proofs.Ytjnpgdhpneifjaa
