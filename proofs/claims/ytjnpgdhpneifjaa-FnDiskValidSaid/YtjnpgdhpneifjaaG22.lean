/- CleanBlock by the reference, for a block of a valid disk that is none of the heads and has all pages written. -/
import Derived.Test.YtjnpgdhpneifjaaG1
import Derived.Test.YtjnpgdhpneifjaaG21
namespace Go.Proofs.Ytjnpgdhpneifjaa
open Go.ChangeShapes Go.WideShapes Go.ChangeAt Go.RowKit Go.Deep
set_option linter.unusedVariables false
set_option linter.unusedSimpArgs false

set_option maxRecDepth 8000 in
set_option maxHeartbeats 16000000 in
theorem cleanBlock_spec {A tA : Option Addr} {m c tn tc B n : Nat} {bs : List BlockV} {ts : List (List Int)} {h : HeadV} {st : Int} {w : World} (hr : RdB w B A m bs) (hB : B ≤ w.heap.size) (hok : HeadsOk bs h.x h.y h.z) (ht : RdT w B tA tn ts) (hokt : TableOk ts) (hfit : ∀ f, f < 8 → FitsF bs ts f)
    (hn : n < bs.length) (hnh : h.has n = false) (hfull : ∀ k, k < 4 → ((bs.getD n noBlock).pages.getD k noPage).full = true) (hs1 : 1 ≤ st) (hs2 : st ≤ 999990)
    (hne : ((n : Int) == h.x) = false ∧ ((n : Int) == h.y) = false ∧ ((n : Int) == h.z) = false) :
    Calls Try.prog 139 #[.slice A m c, .agg #[.slice tA tn tc], hdv h, .int .i64 n, .int .i64 st] w (OwnC w (cleanF bs ts h n st)) := by
  obtain rfl : bs.length = m := hr.len
  obtain rfl : tn = 8 := by rw [← ht.len, hokt.1]
  have hm12 : bs.length ≤ 12 := hok.1.1.2
  obtain ⟨x, y, z⟩ := h
  simp only at hok
  have HBT := Lib.hid (bof_t.2 hok)
  have HBK := Lib.hid (bof_t.2 hokt)
  have HOK := Lib.hid hok
  have HDV := Lib.hid hok.1
  have HOT := Lib.hid hokt
  have HTL := Lib.hid hokt.1
  have HFT := Lib.hid hfit
  have HNH := Lib.hid hnh
  have HR := Lib.hid (hr.mono hB)
  have HT := Lib.hid (ht.mono hB)
  have HP4 := Lib.hid (show ∀ i, i < bs.length → 0 < (bs.getD i noBlock).pages.length ∧ (bs.getD i noBlock).pages.length ≤ 1048576 from fun i hi => by have := (hok.1.2 i hi).2.1; omega)
  have HRW := Lib.hid (show ∀ i, i < 8 → 0 < (ts.getD i []).length ∧ (ts.getD i []).length ≤ 1048576 from fun i hi => by rw [hokt.2.1 i hi]; omega)
  have i1 := Lib.hid (show inB (n : Int) 0 ((bs.length : Int) - 1) = true from by rw [inB_t]; omega)
  have i2 := Lib.hid (show inB st 1 1000000 = true from by rw [inB_t]; omega)
  have v1 : IntKind.i64.wrap ((bs.length : Int) - 1) = (bs.length : Int) - 1 := IntWalk.i64_in _ (by omega)
  have HFU := Lib.hid hfull
  have b4 : Below w.heap.size w ((((w.alloc (.cells #[.slice tA 8 tc] 37)).alloc (.cells #[.int .i64 x, .int .i64 y, .int .i64 z] 39)).alloc (.cells #[.slice none 0 0] 37)).alloc (.cells #[.int .i64 0, .int .i64 0, .int .i64 0] 39)) := ((((Below.refl _ _).alloc (Nat.le_refl _) _).alloc (by simp) _).alloc (by simp; omega) _).alloc (by simp; omega) _
  have T4 := (((Blk.new w 37 #[.slice tA 8 tc]).alloc (.cells #[.int .i64 x, .int .i64 y, .int .i64 z] 39)).alloc (.cells #[.slice none 0 0] 37)).alloc (.cells #[.int .i64 0, .int .i64 0, .int .i64 0] 39)
  have H4 := ((Blk.new (w.alloc (.cells #[.slice tA 8 tc] 37)) 39 #[.int .i64 x, .int .i64 y, .int .i64 z]).alloc (.cells #[.slice none 0 0] 37)).alloc (.cells #[.int .i64 0, .int .i64 0, .int .i64 0] 39)
  have P4 := (Blk.new ((w.alloc (.cells #[.slice tA 8 tc] 37)).alloc (.cells #[.int .i64 x, .int .i64 y, .int .i64 z] 39)) 37 #[.slice none 0 0]).alloc (.cells #[.int .i64 0, .int .i64 0, .int .i64 0] 39)
  have Q4 := Blk.new (((w.alloc (.cells #[.slice tA 8 tc] 37)).alloc (.cells #[.int .i64 x, .int .i64 y, .int .i64 z] 39)).alloc (.cells #[.slice none 0 0] 37)) 39 #[.int .i64 0, .int .i64 0, .int .i64 0]
  rw [show (w.alloc (.cells #[.slice tA 8 tc] 37)).heap.size = w.heap.size + 1 by simp] at H4
  rw [show ((w.alloc (.cells #[.slice tA 8 tc] 37)).alloc (.cells #[.int .i64 x, .int .i64 y, .int .i64 z] 39)).heap.size = w.heap.size + 1 + 1 by simp] at P4
  rw [show (((w.alloc (.cells #[.slice tA 8 tc] 37)).alloc (.cells #[.int .i64 x, .int .i64 y, .int .i64 z] 39)).alloc (.cells #[.slice none 0 0] 37)).heap.size = w.heap.size + 1 + 1 + 1 by simp] at Q4
  have B4 := Lib.hid b4
  clear hr ht hok hokt b4 hfit hnh hfull
  go_enter Try.func139, Try.ntmps139
  go_upto_region 1 with (fail)
  generalize (((w.alloc (.cells #[.slice tA 8 tc] 37)).alloc (.cells #[.int .i64 x, .int .i64 y, .int .i64 z] 39)).alloc (.cells #[.slice none 0 0] 37)).alloc (.cells #[.int .i64 0, .int .i64 0, .int .i64 0] 39) = w4 at *
  have u0 := H4.cell 0
  have u1 := H4.cell 1
  have u2 := H4.cell 2
  simp at u0 u1 u2
  go_wp2_with fail
  refine (headsValid_spec (HR.out.below B4.out) B4.out.size (by omega)).mono ?_
  rw [HBT.out]
  rintro e w5 ⟨rfl, b5⟩
  have T5 := T4.below b5 T4.lt
  have H5 := H4.below b5 H4.lt
  have P5 := P4.below b5 P4.lt
  have Q5 := Q4.below b5 Q4.lt
  have B5 := Lib.hid (B4.out.trans (b5.mono B4.out.size))
  clear T4 H4 P4 Q4 B4 b5
  clear u0 u1 u2
  have t0 := T5.cell 0
  simp at t0
  go_wp2_with fail
  refine (tableValid_spec (HT.out.below B5.out) B5.out.size (by omega)).mono ?_
  rw [HBK.out]
  rintro e w6 ⟨rfl, b6⟩
  have T6 := T5.below b6 T5.lt
  have H6 := H5.below b6 H5.lt
  have P6 := P5.below b6 P5.lt
  have Q6 := Q5.below b6 Q5.lt
  have B6 := Lib.hid (B5.out.trans (b6.mono B5.out.size))
  clear T5 H5 P5 Q5 B5 b6
  clear t0
  go_wp2_with (go_at_call 32; refine (l1In_c _ _ _ _).mono ?_; (first | rw [i1.out] | rw [i2.out]); rintro e w' ⟨rfl, rfl⟩)
  go_loopw [15] (fun i wr => ∃ f : Nat, f ≤ 8 ∧ i = .int .i64 f ∧ Blk wr w.heap.size 37 #[.slice tA 8 tc] ∧ Blk wr (w.heap.size + 1) 39 #[.int .i64 x, .int .i64 y, .int .i64 z] ∧ Blk wr (w.heap.size + 1 + 1) 37 #[.slice none 0 0] ∧ Blk wr (w.heap.size + 1 + 1 + 1) 39 #[.int .i64 0, .int .i64 0, .int .i64 0] ∧ Below w.heap.size w wr) (fun i _ => 8 - (intOf i).toNat)
  case atStart => exact ⟨0, Nat.zero_le _, rfl, T6, H6, P6, Q6, B6.out⟩
  case round =>
    obtain ⟨f, hf, rfl, T7, H7, P7, Q7, b7⟩ := hrel
    clear T6 H6 P6 Q6 B6
    have B7 := Lib.hid b7
    clear b7
    by_cases hf8 : f < 8
    · have fI : (f : Int) < 8 := by omega
      have HFF := Lib.hid (bof_t.2 (HFT.out f hf8))
      have t0 := T7.cell 0
      simp at t0
      go_wp2_with fail
      refine (fileValues_spec (HR.out.below B7.out) B7.out.size (by omega) HDV.out (HT.out.below B7.out) B7.out.size HOT.out hf8).mono ?_
      rw [HFF.out]
      rintro e w8 ⟨A8, c8, rfl, o8, b8⟩
      clear o8
      have T8 := T7.below b8 T7.lt
      have H8 := H7.below b8 H7.lt
      have P8 := P7.below b8 P7.lt
      have Q8 := Q7.below b8 Q7.lt
      have B8 := Lib.hid (B7.out.trans (b8.mono B7.out.size))
      clear T7 H7 P7 Q7 B7 b8
      clear t0
      go_wp2
      go_roundw
      case rel => exact ⟨f + 1, by omega, by go_num, T8, H8, P8, Q8, B8.out⟩
      case measure => simp [intOf]; omega
    · obtain rfl : f = 8 := by omega
      go_wp2_with fail
      refine (l5Copy_c (HR.out.below B7.out) B7.out.size (by omega) HP4.out).mono ?_
      rintro e w8 ⟨A8, c8, rfl, o8, b8⟩
      have D8 := o8.lower (base' := w.heap.size) B7.out.size
      clear o8
      have T8 := T7.below b8 T7.lt
      have H8 := H7.below b8 H7.lt
      have P8 := P7.below b8 P7.lt
      have Q8 := Q7.below b8 Q7.lt
      have B8 := Lib.hid (B7.out.trans (b8.mono B7.out.size))
      clear T7 H7 P7 Q7 B7 b8
      have t0 := T8.cell 0
      simp at t0
      go_wp2_with fail
      refine (l7Copy_c (HT.out.below B8.out) B8.out.size (by omega) HRW.out).mono ?_
      rintro e w9 ⟨gA, gc, rfl, o9, b9⟩
      rw [HTL.out] at o9 ⊢
      have E9 := o9.lower (base' := w.heap.size) B8.out.size
      have D9 := D8.below b9
      clear o9 D8
      have T9 := T8.below b9 T8.lt
      have H9 := H8.below b9 H8.lt
      have P9 := P8.below b9 P8.lt
      have Q9 := Q8.below b9 Q8.lt
      have B9 := Lib.hid (B8.out.trans (b9.mono B8.out.size))
      clear T8 H8 P8 Q8 B8 b9
      clear t0
      obtain ⟨gy, rfl, hgy1, hgy2⟩ := E9.form (by omega)
      go_upto_region 11 with (fail)
      have bb : Below w9.heap.size w9 (w9.alloc (.cells #[.slice (some ⟨gy, 0, none⟩) 8 gc] 37)) := (Below.refl _ _).alloc (Nat.le_refl _) _
      have szz := B9.out.size
      have Y10 := Blk.new w9 37 #[.slice (some ⟨gy, 0, none⟩) 8 gc]
      have Tl := T9.lt
      have Hl := H9.lt
      have Pl := P9.lt
      have Ql := Q9.lt
      have T10 := T9.below bb T9.lt
      have H10 := H9.below bb H9.lt
      have P10 := P9.below bb P9.lt
      have Q10 := Q9.below bb Q9.lt
      have D10 := D9.below bb
      have E10 := E9.below bb
      have B10 := Lib.hid (B9.out.trans (bb.mono B9.out.size))
      clear T9 H9 P9 Q9 B9 bb D9 E9
      generalize w9.alloc (.cells #[.slice (some ⟨gy, 0, none⟩) 8 gc] 37) = w10 at *
      generalize hgg : w9.heap.size = yb at *
      clear hgg
      have u0 := H10.cell 0
      have u1 := H10.cell 1
      have u2 := H10.cell 2
      simp at u0 u1 u2
      go_upto_region 12 with (fail)
      have hzb0 := B10.out.size
      have bb : Below w10.heap.size w10 (w10.alloc (.cells #[.int .i64 x, .int .i64 y, .int .i64 z] 39)) := (Below.refl _ _).alloc (Nat.le_refl _) _
      have szz := B10.out.size
      have Z11 := Blk.new w10 39 #[.int .i64 x, .int .i64 y, .int .i64 z]
      have Tl := T10.lt
      have Hl := H10.lt
      have Pl := P10.lt
      have Ql := Q10.lt
      have Yl := Y10.lt
      have T11 := T10.below bb T10.lt
      have H11 := H10.below bb H10.lt
      have P11 := P10.below bb P10.lt
      have Q11 := Q10.below bb Q10.lt
      have Y11 := Y10.below bb Y10.lt
      have D11 := D10.below bb
      have E11 := E10.below bb
      have B11 := Lib.hid (B10.out.trans (bb.mono B10.out.size))
      clear T10 H10 P10 Q10 Y10 B10 bb D10 E10
      generalize w10.alloc (.cells #[.int .i64 x, .int .i64 y, .int .i64 z] 39) = w11 at *
      generalize hgg : w10.heap.size = zb at *
      clear hgg
      have hzbw : w.heap.size ≤ zb := hzb0
      clear u0 u1 u2
      have u0 := H11.cell 0
      have u1 := H11.cell 1
      have u2 := H11.cell 2
      simp at u0 u1 u2
      obtain ⟨g3, g4, g5⟩ := hne
      go_wp2_with fail
      clear u0 u1 u2 g3 g4 g5
      go_loopw [18, 21, 22] (fun xx mm kk wr => ∃ (k : Nat) (s : CleanV) (A : Option Addr) (c : Nat), k ≤ 4 ∧ kk = .int .i64 k ∧ mm = .int .i64 s.many ∧ xx = .slice A bs.length c ∧ cleanTo bs ts ⟨x, y, z⟩ n st k = some s ∧ s.many ≤ k ∧ s.bs.length = bs.length ∧ HeadsOk s.bs s.h.x s.h.y s.h.z ∧ ShapeT s.ts ∧ OwB wr w.heap.size A bs.length c s.bs ∧ OwT wr w.heap.size (some ⟨gy, 0, none⟩) 8 gc s.ts ∧ Blk wr w.heap.size 37 #[.slice tA 8 tc] ∧ Blk wr (w.heap.size + 1) 39 #[.int .i64 x, .int .i64 y, .int .i64 z] ∧ Blk wr (w.heap.size + 1 + 1) 37 #[.slice none 0 0] ∧ Blk wr (w.heap.size + 1 + 1 + 1) 39 #[.int .i64 0, .int .i64 0, .int .i64 0] ∧ Blk wr yb 37 #[.slice (some ⟨gy, 0, none⟩) 8 gc] ∧ Blk wr zb 39 #[.int .i64 s.h.x, .int .i64 s.h.y, .int .i64 s.h.z] ∧ Below w.heap.size w wr) (fun _ _ kk _ => 4 - (intOf kk).toNat)
      case atStart => exact ⟨0, ⟨bs, ts, ⟨x, y, z⟩, 0⟩, A8, c8, Nat.zero_le _, rfl, rfl, rfl, rfl, Nat.le_refl _, rfl, HOK.out, shapeT_of HOT.out, D11, E11, T11, H11, P11, Q11, Y11, Z11, B11.out⟩
      case round =>
        obtain ⟨k, s, A1, c1, hk, rfl, rfl, rfl, hs, hmk, hsl, hsok, hsh, D12, E12, T12, H12, P12, Q12, Y12, Z12, b12⟩ := hrel
        clear D11 E11 T11 H11 P11 Q11 Y11 Z11 B11
        have B12 := Lib.hid b12
        have HS := Lib.hid hs
        have HSL := Lib.hid hsl
        have HSO := Lib.hid hsok
        have HSH := Lib.hid hsh
        clear b12 hs hsl hsok hsh
        obtain ⟨sb, stt, ⟨sx, sy, sz⟩, sm⟩ := s
        simp only at hmk HSL HSO HSH D12 E12 Z12 ⊢
        by_cases hk4 : k < 4
        · have kI : (k : Int) < 4 := by omega
          have nI : (n : Int) < bs.length := by omega
          obtain ⟨b0, off, hA0, hbB, hc⟩ := (HR.out.below B12.out).at_ (by omega)
          obtain ⟨A', n', c', d0, d1, hnc, hcm, hrg⟩ := hc n hn
          have hbk := HDV.out.2 n hn
          have hpk := hbk.2.2 k hk4
          have hfk := HFU.out k hk4
          have hn4 : n' = 4 := by rw [← hrg.len]; exact hbk.2.1
          subst hn4
          obtain ⟨pb, po, rfl, hpb, hpc⟩ := hrg.at_ (by omega)
          obtain ⟨c0, c1', c2, c3, c4⟩ := hpc k hk4
          have HCT := Lib.hid (cleanTo_step (bs := bs) (ts := ts) (h := ⟨x, y, z⟩) (n := n) (st := st) HS.out)
          generalize (bs.getD n noBlock).pages.getD k noPage = PG at *
          obtain ⟨pf, pfi, ppi, pv, pst⟩ := PG
          simp only at hfk c0 c1' c2 c3 c4 hpk HCT
          subst hfk
          have hpo := pageOk_yes.1 hpk.1
          obtain ⟨pfl, rfl⟩ := Int.eq_ofNat_of_zero_le hpo.1.1
          obtain ⟨ppl, rfl⟩ := Int.eq_ofNat_of_zero_le hpo.2.1.1
          have hf8 : pfl < 8 := by omega
          have hp6 : ppl < 6 := by omega
          have hpv := hpo.2.2.1
          rw [Int.toNat_natCast, Int.toNat_natCast] at HCT
          subst hA0
          clear hc hpc hrg hbk hpk hpo
          go_upto_region 19 with (fail)
          have bb13 : Below wr.heap.size wr (wr.alloc (.cells #[.bool true, .int .i64 ↑pfl, .int .i64 ↑ppl, .int .i64 pv, .int .i64 pst] 102)) := (Below.refl _ _).alloc (Nat.le_refl _) _
          have G13 := Blk.new wr 102 #[.bool true, .int .i64 ↑pfl, .int .i64 ↑ppl, .int .i64 pv, .int .i64 pst]
          have spg := B12.out.size
          have T13 := T12.below bb13 T12.lt
          have BB13 := B12.out.trans (bb13.mono spg)
          generalize wr.alloc (.cells #[.bool true, .int .i64 ↑pfl, .int .i64 ↑ppl, .int .i64 pv, .int .i64 pst] 102) = w13 at *
          obtain ⟨pgb, hpgb⟩ : ∃ pgb, wr.heap.size = pgb := ⟨_, rfl⟩
          have hpg : wr.heap.size ≤ pgb := Nat.le_of_eq hpgb
          have hpw : w.heap.size ≤ pgb := by omega
          rw [hpgb] at G13 ⊢
          clear hpgb d0 d1 c0 c1' c2 c3 c4
          obtain ⟨tb, toff, hA0, htb, htc⟩ := (HT.out.below BB13).at_ (by omega)
          obtain ⟨A'', n'', c'', e0, hnc2, hcm2, hrow⟩ := htc pfl hf8
          have h6 := HOT.out.2.1 pfl hf8
          obtain rfl : n'' = 6 := by rw [← hrow.len, h6]
          obtain ⟨rb, ro, rfl, hrb, hrc⟩ := hrow.at_ (by omega)
          have e1 := hrc ppl hp6
          rw [show (ts.getD pfl []).getD ppl 0 = tE ts pfl ppl from rfl] at e1
          have t0 := T13.cell 0
          simp at t0
          rw [hA0] at t0
          clear htc hrc hrow h6 BB13
          generalize tE ts pfl ppl = EE at *
          have w4n : IntKind.i64.wrap ((n : Int) * 4) = (n : Int) * 4 := IntWalk.i64_in _ (by omega)
          have w4k : IntKind.i64.wrap ((n : Int) * 4 + (k : Int)) = (n : Int) * 4 + (k : Int) := IntWalk.i64_in _ (by omega)
          have flI : (pfl : Int) < 8 := by omega
          have plI : (ppl : Int) < 6 := by omega
          by_cases hee : EE = (n : Int) * 4 + (k : Int)
          · have hb19 : (EE != (n : Int) * 4 + (k : Int)) = false := by simpa using hee
            refine wp_region_held_drew (S := fun w' => (w'.cell? ⟨pgb, 0, none⟩ = some (.bool true) ∧ w'.cell? ⟨pgb, 1, none⟩ = some (.int .i64 (pfl : Int)) ∧ w'.cell? ⟨pgb, 2, none⟩ = some (.int .i64 (ppl : Int))) ∧ w'.cell? ⟨w.heap.size, 0, none⟩ = some (.slice (some ⟨tb, toff, none⟩) 8 tc) ∧ w'.cell? ⟨tb, toff + pfl, none⟩ = some (.slice (some ⟨rb, ro, none⟩) 6 c'') ∧ w'.cell? ⟨rb, ro + ppl, none⟩ = some (.int .i64 EE)) (by kernel_rfl) ?_ (fun hHeld => ?_)
            · exact ⟨⟨G13.cell 0, G13.cell 1, G13.cell 2⟩, t0, e0, e1⟩
            refine tk 0 ?_
            refine tk 1 ?_
            refine tk 2 ?_
            refine tk 3 ?_
            refine tk 4 ?_
            refine tk 5 ?_
            refine tk 6 ?_
            refine tk 7 ?_
            refine tk 8 ?_
            refine tk 9 ?_
            refine tk 10 ?_
            refine tk 11 ?_
            refine tk 12 ?_
            refine tk 13 ?_
            refine tk 14 ?_
            refine tk 15 ?_
            refine tk 16 ?_
            refine tk 17 ?_
            refine tk 18 ?_
            refine tk 19 ?_
            refine wpAnyH_done (by kernel_rfl) ?_ _
            clear hHeld t0 e0 e1 hA0 T13
            have HC1 := Lib.hid (HCT.out.2 hee)
            clear hee
            have wst : IntKind.i64.wrap (st + (sm : Int)) = st + (sm : Int) := IntWalk.i64_in _ (by omega)
            have G14 : Blk w13.drew pgb 102 _ := G13
            have z4 := G14.frozen 4
            have y0 := G14.cell 0
            have y1 := G14.cell 1
            have y2 := G14.cell 2
            have y3 := G14.cell 3
            have y4 := G14.cell 4
            simp at y0 y1 y2 y3 y4
            go_upto_region 21 with (fail)
            have bb15 := (bb13.drew).setCell (p := ⟨pgb, 4, none⟩) hpg (.int .i64 (st + ↑sm))
            have G15 := G14.set_ 4 (.int .i64 (st + ↑sm))
            simp at G15
            have T15 := T12.below bb15 T12.lt
            have H15 := H12.below bb15 H12.lt
            have P15 := P12.below bb15 P12.lt
            have Q15 := Q12.below bb15 Q12.lt
            have Y15 := Y12.below bb15 Y12.lt
            have Z15 := Z12.below bb15 Z12.lt
            have D15 := D12.below bb15
            have E15 := E12.below bb15
            have B15 := Lib.hid (B12.out.trans (bb15.mono spg))
            clear T12 H12 P12 Q12 Y12 Z12 D12 E12 B12 bb13 bb15 G13 G14 z4 y0 y1 y2 y3 y4
            skip
            have hw15 : w13.drew.setCell ⟨pgb, 4, none⟩ (.int .i64 (st + ↑sm)) = (w13.setCell ⟨pgb, 4, none⟩ (.int .i64 (st + ↑sm))).drew := rfl
            skip
            clear hw15
            have T15 : Blk ((w13.setCell ⟨pgb, 4, none⟩ (.int .i64 (st + ↑sm))).drew) w.heap.size 37 _ := T15
            have H15 : Blk ((w13.setCell ⟨pgb, 4, none⟩ (.int .i64 (st + ↑sm))).drew) (w.heap.size + 1) 39 _ := H15
            have P15 : Blk ((w13.setCell ⟨pgb, 4, none⟩ (.int .i64 (st + ↑sm))).drew) (w.heap.size + 1 + 1) 37 _ := P15
            have Q15 : Blk ((w13.setCell ⟨pgb, 4, none⟩ (.int .i64 (st + ↑sm))).drew) (w.heap.size + 1 + 1 + 1) 39 _ := Q15
            have Y15 : Blk ((w13.setCell ⟨pgb, 4, none⟩ (.int .i64 (st + ↑sm))).drew) yb 37 _ := Y15
            have Z15 : Blk ((w13.setCell ⟨pgb, 4, none⟩ (.int .i64 (st + ↑sm))).drew) zb 39 _ := Z15
            have G15 : Blk ((w13.setCell ⟨pgb, 4, none⟩ (.int .i64 (st + ↑sm))).drew) pgb 102 _ := G15
            have D15 : OwB ((w13.setCell ⟨pgb, 4, none⟩ (.int .i64 (st + ↑sm))).drew) w.heap.size _ _ _ _ := D15
            have E15 : OwT ((w13.setCell ⟨pgb, 4, none⟩ (.int .i64 (st + ↑sm))).drew) w.heap.size _ _ _ _ := E15
            have B15 := Lib.hid (show Below w.heap.size w ((w13.setCell ⟨pgb, 4, none⟩ (.int .i64 (st + ↑sm))).drew) from B15.out)
            generalize (w13.setCell ⟨pgb, 4, none⟩ (.int .i64 (st + ↑sm))).drew = w15 at *
            have u0 := Z15.cell 0
            have u1 := Z15.cell 1
            have u2 := Z15.cell 2
            simp at u0 u1 u2
            have y0 := G15.cell 0
            have y1 := G15.cell 1
            have y2 := G15.cell 2
            have y3 := G15.cell 3
            have y4 := G15.cell 4
            simp at y0 y1 y2 y3 y4
            go_wp2_with fail
            have HPK := Lib.hid (show PageOk ⟨true, (pfl : Int), (ppl : Int), pv, st + (sm : Int)⟩ from by rw [pageOk_yes]; omega)
            refine (appendPage_spec (h := ⟨sx, sy, sz⟩) (p := ⟨true, (pfl : Int), (ppl : Int), pv, st + (sm : Int)⟩) (heat := 2) D15.rd (Nat.le_refl _) HSO.out (by omega)).mono ?_
            rintro e w16 ⟨A16, c16, rfl, o16, b16⟩
            have HAO := Lib.hid (appendF_ok (h := ⟨sx, sy, sz⟩) (heat := 2) HSO.out (by omega) HPK.out rfl)
            have HAL := Lib.hid ((appendF_len (bs := sb) (h := ⟨sx, sy, sz⟩) (heat := 2) ⟨HPK.out, rfl⟩).trans HSL.out)
            generalize appendF sb ⟨sx, sy, sz⟩ 2 ⟨true, (pfl : Int), (ppl : Int), pv, st + (sm : Int)⟩ = RR at *
            obtain ⟨rbs, ⟨rx, ry, rz⟩, rat⟩ := RR
            simp only at o16 HAO HAL HC1 ⊢
            rw [HAL.out] at o16 ⊢
            have D16 := o16.lower (base' := w.heap.size) B15.out.size
            have E16 := E15.below b16
            clear o16 D15 E15 u0 u1 u2 y0 y1 y2 y3 y4
            have T16 := T15.below b16 T15.lt
            have H16 := H15.below b16 H15.lt
            have P16 := P15.below b16 P15.lt
            have Q16 := Q15.below b16 Q15.lt
            have Y16 := Y15.below b16 Y15.lt
            have Z16 := Z15.below b16 Z15.lt
            have G16 := G15.below b16 G15.lt
            have B16 := Lib.hid (B15.out.trans (b16.mono B15.out.size))
            clear T15 H15 P15 Q15 Y15 Z15 G15 B15 b16
            go_upto_region 22 with (fail)
            have bb : Below w16.heap.size w16 (w16.alloc (.cells #[.int .i64 rx, .int .i64 ry, .int .i64 rz] 39)) := (Below.refl _ _).alloc (Nat.le_refl _) _
            have szz := B16.out.size
            have V17 := Blk.new w16 39 #[.int .i64 rx, .int .i64 ry, .int .i64 rz]
            have Tl := T16.lt
            have Hl := H16.lt
            have Pl := P16.lt
            have Ql := Q16.lt
            have Yl := Y16.lt
            have Zl := Z16.lt
            have Gl := G16.lt
            have T17 := T16.below bb T16.lt
            have H17 := H16.below bb H16.lt
            have P17 := P16.below bb P16.lt
            have Q17 := Q16.below bb Q16.lt
            have Y17 := Y16.below bb Y16.lt
            have Z17 := Z16.below bb Z16.lt
            have G17 := G16.below bb G16.lt
            have D17 := D16.below bb
            have E17 := E16.below bb
            have B17 := Lib.hid (B16.out.trans (bb.mono B16.out.size))
            clear T16 H16 P16 Q16 Y16 Z16 G16 B16 bb D16 E16
            generalize w16.alloc (.cells #[.int .i64 rx, .int .i64 ry, .int .i64 rz] 39) = w17 at *
            generalize hgg : w16.heap.size = vb at *
            clear hgg
            by_cases hat : rat < 0
            · have hda : decide (rat < 0) = true := decide_eq_true hat
              have HX := Lib.hid (cleanF_none (cleanTo_none (k := k + 1) (by rw [HC1.out, if_pos hat]) (by omega)))
              clear Y17 Z17 G17 V17 D17 E17
              go_upto_region 23 with (fail)
              have t0 := T17.cell 0
              simp at t0
              have u0 := H17.cell 0
              have u1 := H17.cell 1
              have u2 := H17.cell 2
              simp at u0 u1 u2
              have szz := B17.out.size
              refine wp_region_held_drew (S := fun w' => w'.cell? ⟨w.heap.size, 0, none⟩ = some (.slice tA 8 tc) ∧ w'.cell? ⟨w.heap.size + 1, 0, none⟩ = some (.int .i64 x) ∧ w'.cell? ⟨w.heap.size + 1, 1, none⟩ = some (.int .i64 y) ∧ w'.cell? ⟨w.heap.size + 1, 2, none⟩ = some (.int .i64 z)) (by kernel_rfl) ?_ (fun hHeld => ?_)
              · exact ⟨t0, u0, u1, u2⟩
              refine tk 0 ?_
              refine tk 2 ?_
              refine tk 4 ?_
              have T40 : Blk w17.drew (w.heap.size) 37 _ := T17
              have H40 : Blk w17.drew (w.heap.size + 1) 39 _ := H17
              have P40 : Blk w17.drew (w.heap.size + 1 + 1) 37 _ := P17
              have Q40 : Blk w17.drew (w.heap.size + 1 + 1 + 1) 39 _ := Q17
              have B40 := Lib.hid B17.out.drew
              clear T17 H17 P17 Q17 B17 t0 u0 u1 u2
              refine rd1 1 (fun K hK => ?_)
              go_simp
              refine (l5Copy_c (HR.out.below B40.out) B40.out.size (by omega) HP4.out).mono ?_
              rintro e w41 ⟨A41, c41, rfl, o41, b41⟩
              have D41 := o41.lower (base' := w.heap.size) B40.out.size
              clear o41
              have T41 := T40.below b41 T40.lt
              have H41 := H40.below b41 H40.lt
              have P41 := P40.below b41 P40.lt
              have Q41 := Q40.below b41 Q40.lt
              have B41 := Lib.hid (B40.out.trans (b41.mono B40.out.size))
              clear T40 H40 P40 Q40 B40 b41
              go_wp2_with fail
              refine hK.out _ _ ?_ (fun hHeld => ?_)
              · exact ⟨T41.cell 0, H41.cell 0, H41.cell 1, H41.cell 2⟩
              clear hK K
              refine pt ?_
              refine rd1 3 (fun K hK => ?_)
              go_simp
              refine (l7Copy_c (HT.out.below B41.out) B41.out.size (by omega) HRW.out).mono ?_
              rintro e w42 ⟨tA42, tc42, rfl, o42, b42⟩
              rw [HTL.out] at o42 ⊢
              have E42 := o42.lower (base' := w.heap.size) B41.out.size
              have D42 := D41.below b42
              clear o42 D41
              have T42 := T41.below b42 T41.lt
              have H42 := H41.below b42 H41.lt
              have P42 := P41.below b42 P41.lt
              have Q42 := Q41.below b42 Q41.lt
              have B42 := Lib.hid (B41.out.trans (b42.mono B41.out.size))
              clear T41 H41 P41 Q41 B41 b42
              go_wp2_with fail
              refine hK.out _ _ ?_ (fun hHeld => ?_)
              · exact ⟨T42.cell 0, H42.cell 0, H42.cell 1, H42.cell 2⟩
              clear hK K
              refine pt ?_
              refine tk 5 ?_
              have zz0 := P42.frozen 0
              have yy0 := P42.cell 0
              simp at yy0
              refine rd1 6 (fun K hK => ?_)
              go_simp
              have P43 := P42.set_ 0 (.slice tA42 8 tc42)
              have T43 := T42.far (p := ⟨w.heap.size + 1 + 1, 0, none⟩) (by show _ ≠ w.heap.size + 1 + 1; omega) (.slice tA42 8 tc42)
              have H43 := H42.far (p := ⟨w.heap.size + 1 + 1, 0, none⟩) (by show _ ≠ w.heap.size + 1 + 1; omega) (.slice tA42 8 tc42)
              have Q43 := Q42.far (p := ⟨w.heap.size + 1 + 1, 0, none⟩) (by show _ ≠ w.heap.size + 1 + 1; omega) (.slice tA42 8 tc42)
              have B43 := Lib.hid (B42.out.setCell (p := ⟨w.heap.size + 1 + 1, 0, none⟩) (by show w.heap.size ≤ w.heap.size + 1 + 1; omega) (.slice tA42 8 tc42))
              have D43 := D42.typed (ChgT.blk P42 0 (.slice tA42 8 tc42)) (by decide) (by decide)
              have E43 := E42.typed (ChgT.blk P42 0 (.slice tA42 8 tc42)) (by decide) (by decide)
              simp at P43
              clear P42 T42 H42 Q42 B42 D42 E42 zz0 yy0
              refine hK.out _ _ ?_ (fun hHeld => ?_)
              · exact ⟨T43.cell 0, H43.cell 0, H43.cell 1, H43.cell 2⟩
              clear hK K
              refine pt ?_
              have zz0 := Q43.frozen 0
              have zz1 := Q43.frozen 1
              have zz2 := Q43.frozen 2
              have yy0 := Q43.cell 0
              have yy1 := Q43.cell 1
              have yy2 := Q43.cell 2
              simp at yy0 yy1 yy2
              refine rd1 7 (fun K hK => ?_)
              go_simp
              have Q44 := ((Q43.set_ 0 (.int .i64 x)).set_ 1 (.int .i64 y)).set_ 2 (.int .i64 z)
              have T44 := ((T43.far (p := ⟨w.heap.size + 1 + 1 + 1, 0, none⟩) (by show _ ≠ w.heap.size + 1 + 1 + 1; omega) (.int .i64 x)).far (p := ⟨w.heap.size + 1 + 1 + 1, 1, none⟩) (by show _ ≠ w.heap.size + 1 + 1 + 1; omega) (.int .i64 y)).far (p := ⟨w.heap.size + 1 + 1 + 1, 2, none⟩) (by show _ ≠ w.heap.size + 1 + 1 + 1; omega) (.int .i64 z)
              have H44 := ((H43.far (p := ⟨w.heap.size + 1 + 1 + 1, 0, none⟩) (by show _ ≠ w.heap.size + 1 + 1 + 1; omega) (.int .i64 x)).far (p := ⟨w.heap.size + 1 + 1 + 1, 1, none⟩) (by show _ ≠ w.heap.size + 1 + 1 + 1; omega) (.int .i64 y)).far (p := ⟨w.heap.size + 1 + 1 + 1, 2, none⟩) (by show _ ≠ w.heap.size + 1 + 1 + 1; omega) (.int .i64 z)
              have P44 := ((P43.far (p := ⟨w.heap.size + 1 + 1 + 1, 0, none⟩) (by show _ ≠ w.heap.size + 1 + 1 + 1; omega) (.int .i64 x)).far (p := ⟨w.heap.size + 1 + 1 + 1, 1, none⟩) (by show _ ≠ w.heap.size + 1 + 1 + 1; omega) (.int .i64 y)).far (p := ⟨w.heap.size + 1 + 1 + 1, 2, none⟩) (by show _ ≠ w.heap.size + 1 + 1 + 1; omega) (.int .i64 z)
              have B44 := Lib.hid (((B43.out.setCell (p := ⟨w.heap.size + 1 + 1 + 1, 0, none⟩) (by show w.heap.size ≤ w.heap.size + 1 + 1 + 1; omega) (.int .i64 x)).setCell (p := ⟨w.heap.size + 1 + 1 + 1, 1, none⟩) (by show w.heap.size ≤ w.heap.size + 1 + 1 + 1; omega) (.int .i64 y)).setCell (p := ⟨w.heap.size + 1 + 1 + 1, 2, none⟩) (by show w.heap.size ≤ w.heap.size + 1 + 1 + 1; omega) (.int .i64 z))
              have D44 := owB_set3 D43 Q43 (.int .i64 x) (.int .i64 y) (.int .i64 z)
              have E44 := owT_set3 E43 Q43 (.int .i64 x) (.int .i64 y) (.int .i64 z)
              simp at Q44
              clear Q43 T43 H43 P43 B43 D43 E43 zz0 zz1 zz2 yy0 yy1 yy2
              refine hK.out _ _ ?_ (fun hHeld => ?_)
              · exact ⟨T44.cell 0, H44.cell 0, H44.cell 1, H44.cell 2⟩
              clear hK K
              refine pt ?_
              refine tk 8 ?_
              refine tk 9 ?_
              refine wpAnyH_done (by kernel_rfl) ?_ _
              clear hHeld
              generalize (((w42.setCell ⟨w.heap.size + 1 + 1, 0, none⟩ (.slice tA42 8 tc42)).setCell ⟨w.heap.size + 1 + 1 + 1, 0, none⟩ (.int .i64 x)).setCell ⟨w.heap.size + 1 + 1 + 1, 1, none⟩ (.int .i64 y)).setCell ⟨w.heap.size + 1 + 1 + 1, 2, none⟩ (.int .i64 z) = wz at *
              have e0 := P44.cell 0
              have e1 := Q44.cell 0
              have e2 := Q44.cell 1
              have e3 := Q44.cell 2
              simp at e0 e1 e2 e3
              go_wp2
              refine bodyPost_ret (by simp [results, Try.results139, go_sem, e0, e1, e2, e3]; try rfl) rfl ?_
              rw [HX.out]
              exact ownC_of (R := ⟨bs, ts, ⟨x, y, z⟩, 0, false⟩) rfl HTL.out D44 E44 B44.out
            · have hda : decide (rat < 0) = false := decide_eq_false hat
              have HC2 := Lib.hid (show cleanTo bs ts ⟨x, y, z⟩ n st (k + 1) = some ⟨rbs, setE stt pfl ppl rat, ⟨rx, ry, rz⟩, sm + 1⟩ from by rw [HC1.out, if_neg hat])
              clear hat
              have u0 := V17.cell 0
              have u1 := V17.cell 1
              have u2 := V17.cell 2
              simp at u0 u1 u2
              have y0 := Z17.cell 0
              have y1 := Z17.cell 1
              have y2 := Z17.cell 2
              simp at y0 y1 y2
              have z0 := Z17.frozen 0
              have z1 := Z17.frozen 1
              have z2 := Z17.frozen 2
              go_upto_region 26 with (fail)
              have cz := ((ChgT.blk Z17 0 (.int .i64 rx)).trans (ChgT.blk (Z17.set_ 0 (.int .i64 rx)) 1 (.int .i64 ry))).trans (ChgT.blk ((Z17.set_ 0 (.int .i64 rx)).set_ 1 (.int .i64 ry)) 2 (.int .i64 rz))
              have Z18 := ((Z17.set_ 0 (.int .i64 rx)).set_ 1 (.int .i64 ry)).set_ 2 (.int .i64 rz)
              simp at Z18
              have T18 := T17.typed cz (by decide)
              have P18 := P17.typed cz (by decide)
              have Y18 := Y17.typed cz (by decide)
              have G18 := G17.typed cz (by decide)
              have H18 := ((H17.far (p := ⟨zb, 0, none⟩) (by show _ ≠ zb; omega) (.int .i64 rx)).far (p := ⟨zb, 1, none⟩) (by show _ ≠ zb; omega) (.int .i64 ry)).far (p := ⟨zb, 2, none⟩) (by show _ ≠ zb; omega) (.int .i64 rz)
              have Q18 := ((Q17.far (p := ⟨zb, 0, none⟩) (by show _ ≠ zb; omega) (.int .i64 rx)).far (p := ⟨zb, 1, none⟩) (by show _ ≠ zb; omega) (.int .i64 ry)).far (p := ⟨zb, 2, none⟩) (by show _ ≠ zb; omega) (.int .i64 rz)
              have D18 := owB_set3 D17 Z17 (.int .i64 rx) (.int .i64 ry) (.int .i64 rz)
              have E18 := owT_set3 E17 Z17 (.int .i64 rx) (.int .i64 ry) (.int .i64 rz)
              have hzw : w.heap.size ≤ zb := hzbw
              have B18 := Lib.hid (((B17.out.setCell (p := ⟨zb, 0, none⟩) hzw (.int .i64 rx)).setCell (p := ⟨zb, 1, none⟩) hzw (.int .i64 ry)).setCell (p := ⟨zb, 2, none⟩) hzw (.int .i64 rz))
              clear T17 H17 P17 Q17 Y17 Z17 G17 V17 D17 E17 B17 cz u0 u1 u2 y0 y1 y2 z0 z1 z2
              generalize ((w17.setCell ⟨zb, 0, none⟩ (.int .i64 rx)).setCell ⟨zb, 1, none⟩ (.int .i64 ry)).setCell ⟨zb, 2, none⟩ (.int .i64 rz) = w18 at *
              obtain ⟨A3, n3, c3, f0, z0, hnc3, hcm3, hnl3, hrow3⟩ := E18.cells pfl hf8
              have hl6 : n3 = 6 := by rw [hnl3]; exact HSH.out.2 pfl hf8
              clear hnl3
              subst hl6
              obtain ⟨gr, cap3, e3, hg3, hg4⟩ := hrow3.form (by omega)
              injection e3 with e3 _ _
              subst e3
              have hlen3 : ppl < (stt.getD pfl []).length := by rw [HSH.out.2 pfl hf8]; exact hp6
              have f1 := own_cellI hrow3 ppl hlen3
              have z1 := hrow3.frozenAt (g := gr) (cap := c3) ppl
              have hst := hrow3.stored (g := gr) (cap := c3) ppl (.int .i64 rat)
              rw [← List.map_set] at hst
              have HNE := Lib.hid (E18.row_ne hf8 f0)
              have S18 := B18.out.size
              refine wp_region_held_drew (S := fun w' => w'.cell? ⟨yb, 0, none⟩ = some (.slice (some ⟨gy, 0, none⟩) 8 gc) ∧ w'.cell? ⟨gy, pfl, none⟩ = some (.slice (some ⟨gr, 0, none⟩) 6 c3) ∧ w'.cell? ⟨pgb, 1, none⟩ = some (.int .i64 (pfl : Int)) ∧ w'.cell? ⟨pgb, 2, none⟩ = some (.int .i64 (ppl : Int))) (by kernel_rfl) ?_ (fun hHeld => ?_)
              · exact ⟨Y18.cell 0, f0, G18.cell 1, G18.cell 2⟩
              refine tk 0 ?_
              refine tk 1 ?_
              refine tk 2 ?_
              refine tk 3 ?_
              refine tk 4 ?_
              refine tk 5 ?_
              refine tk 6 ?_
              refine tk 7 ?_
              refine tk 8 ?_
              refine tk 9 ?_
              have E18d := E18.below ((Below.refl _ _).drew)
              have hrd := own_below hrow3 ((Below.refl _ _).drew)
              have hstd := hrd.stored (g := gr) (cap := c3) ppl (.int .i64 rat)
              rw [← List.map_set] at hstd
              have f0d : w18.drew.cell? ⟨gy, pfl, none⟩ = some (.slice (some ⟨gr, 0, none⟩) 6 c3) := f0
              have E19 := E18d.turn hf8 f0d hstd.2 hstd.1 (by rw [HSH.out.2 pfl hf8])
              have hch := E18d.chg hf8 f0d hstd.2 (show w.heap.size ≤ w18.drew.heap.size from S18)
              have T19 := (show Blk w18.drew (w.heap.size) _ _ from T18).typed hch.1 (by decide)
              have H19 := (show Blk w18.drew (w.heap.size + 1) _ _ from H18).typed hch.1 (by decide)
              have P19 := (show Blk w18.drew (w.heap.size + 1 + 1) _ _ from P18).typed hch.1 (by decide)
              have Q19 := (show Blk w18.drew (w.heap.size + 1 + 1 + 1) _ _ from Q18).typed hch.1 (by decide)
              have Y19 := (show Blk w18.drew (yb) _ _ from Y18).typed hch.1 (by decide)
              have Z19 := (show Blk w18.drew (zb) _ _ from Z18).typed hch.1 (by decide)
              have G19 := (show Blk w18.drew (pgb) _ _ from G18).typed hch.1 (by decide)
              have D19 := (D18.below ((Below.refl _ _).drew)).typed hch.1 (by decide) (by decide)
              have B19 := Lib.hid (B18.out.drew.trans hch.2)
              have f9 := (World.cell?_setCell_far w18.drew ⟨gr, ppl, none⟩ ⟨gy, pfl, none⟩ (.int .i64 rat) (by show gr ≠ gy; exact HNE.out)).trans f0d
              refine rd1 10 (fun K hK => ?_)
              go_simp
              refine hK.out _ _ ?_ (fun hHeld => ?_)
              · exact ⟨Y19.cell 0, f9, G19.cell 1, G19.cell 2⟩
              clear hK K
              refine pt ?_
              refine wpAnyH_done (by kernel_rfl) ?_ _
              clear hHeld f0 f1 z0 z1 hst hstd hrow3 hrd hch f0d f9 T18 H18 P18 Q18 Y18 Z18 G18 D18 E18 E18d B18
              have HAO2 := HAO
              have HSH2 := Lib.hid (shapeT_set HSH.out hf8 (v := rat) (k := ppl))
              have wsm : IntKind.i64.wrap ((sm : Int) + 1) = ((sm + 1 : Nat) : Int) := (IntWalk.i64_in _ (by omega)).trans (by omega)
              go_wp2
              go_roundw
              case rel => exact ⟨k + 1, ⟨rbs, setE stt pfl ppl rat, ⟨rx, ry, rz⟩, sm + 1⟩, A16, c16, by omega, by go_num, by first | rfl | (rw [wsm]) | simp, rfl, HC2.out, by simp only; omega, HAL.out, HAO.out, HSH2.out, D19, E19, T19, H19, P19, Q19, Y19, Z19, B19.out⟩
              case measure => simp [intOf]; omega
          · have he := hee
            clear hee
            have hb19 : (EE != (n : Int) * 4 + (k : Int)) = true := by simpa using he
            refine wp_region_held_drew (S := fun w' => (w'.cell? ⟨pgb, 0, none⟩ = some (.bool true) ∧ w'.cell? ⟨pgb, 1, none⟩ = some (.int .i64 (pfl : Int)) ∧ w'.cell? ⟨pgb, 2, none⟩ = some (.int .i64 (ppl : Int))) ∧ w'.cell? ⟨w.heap.size, 0, none⟩ = some (.slice (some ⟨tb, toff, none⟩) 8 tc) ∧ w'.cell? ⟨tb, toff + pfl, none⟩ = some (.slice (some ⟨rb, ro, none⟩) 6 c'') ∧ w'.cell? ⟨rb, ro + ppl, none⟩ = some (.int .i64 EE)) (by kernel_rfl) ?_ (fun hHeld => ?_)
            · exact ⟨⟨G13.cell 0, G13.cell 1, G13.cell 2⟩, t0, e0, e1⟩
            refine tk 0 ?_
            refine tk 1 ?_
            refine tk 2 ?_
            refine tk 3 ?_
            refine tk 4 ?_
            refine tk 5 ?_
            refine tk 6 ?_
            refine tk 7 ?_
            refine tk 8 ?_
            refine tk 9 ?_
            refine tk 10 ?_
            refine tk 11 ?_
            refine tk 12 ?_
            refine tk 13 ?_
            refine tk 14 ?_
            refine tk 15 ?_
            refine tk 16 ?_
            refine tk 17 ?_
            refine tk 18 ?_
            refine tk 19 ?_
            refine wpAnyH_done (by kernel_rfl) ?_ _
            clear hHeld t0 e0 e1 hA0 T13
            have bb14 := bb13.drew
            have T14 := T12.below bb14 T12.lt
            have H14 := H12.below bb14 H12.lt
            have P14 := P12.below bb14 P12.lt
            have Q14 := Q12.below bb14 Q12.lt
            have Y14 := Y12.below bb14 Y12.lt
            have Z14 := Z12.below bb14 Z12.lt
            have D14 := D12.below bb14
            have E14 := E12.below bb14
            have B14 := Lib.hid (B12.out.trans (bb14.mono spg))
            clear T12 H12 P12 Q12 Y12 Z12 D12 E12 B12 bb13 bb14 G13
            have HC1 := Lib.hid (HCT.out.1 he)
            go_wp2
            go_roundw
            case rel => exact ⟨k + 1, ⟨sb, stt, ⟨sx, sy, sz⟩, sm⟩, A1, c1, by omega, by go_num, rfl, rfl, HC1.out, by simp only; omega, HSL.out, HSO.out, HSH.out, D14, E14, T14, H14, P14, Q14, Y14, Z14, B14.out⟩
            case measure => simp [intOf]; omega
        · obtain rfl : k = 4 := by omega
          go_wp2_with fail
          refine (eraseAt_spec D12.rd (Nat.le_refl _) HSO.out.1 (by rw [HSL.out]; exact hn)).mono ?_
          rintro e w13 ⟨A13, c13, rfl, o13, b13⟩
          rw [HSL.out] at o13 ⊢
          have D13 := o13.lower (base' := w.heap.size) B12.out.size
          have E13 := E12.below b13
          clear o13 D12 E12
          have T13 := T12.below b13 T12.lt
          have H13 := H12.below b13 H12.lt
          have P13 := P12.below b13 P12.lt
          have Q13 := Q12.below b13 Q12.lt
          have Y13 := Y12.below b13 Y12.lt
          have Z13 := Z12.below b13 Z12.lt
          have B13 := Lib.hid (B12.out.trans (b13.mono B12.out.size))
          clear T12 H12 P12 Q12 Y12 Z12 B12 b13
          by_cases hw : (sb.getD n noBlock).wear = 100
          · have hbw : ((sb.getD n noBlock).wear == 100) = true := by simpa using hw
            rw [hbw]
            have HX := Lib.hid (cleanF_worn HS.out hw)
            clear Y13 Z13 D13 E13 hw hbw
            go_upto_region 30 with (fail)
            have t0 := T13.cell 0
            simp at t0
            have u0 := H13.cell 0
            have u1 := H13.cell 1
            have u2 := H13.cell 2
            simp at u0 u1 u2
            have szz := B13.out.size
            refine wp_region_held_drew (S := fun w' => w'.cell? ⟨w.heap.size, 0, none⟩ = some (.slice tA 8 tc) ∧ w'.cell? ⟨w.heap.size + 1, 0, none⟩ = some (.int .i64 x) ∧ w'.cell? ⟨w.heap.size + 1, 1, none⟩ = some (.int .i64 y) ∧ w'.cell? ⟨w.heap.size + 1, 2, none⟩ = some (.int .i64 z)) (by kernel_rfl) ?_ (fun hHeld => ?_)
            · exact ⟨t0, u0, u1, u2⟩
            refine tk 0 ?_
            refine tk 2 ?_
            refine tk 4 ?_
            have T40 : Blk w13.drew (w.heap.size) 37 _ := T13
            have H40 : Blk w13.drew (w.heap.size + 1) 39 _ := H13
            have P40 : Blk w13.drew (w.heap.size + 1 + 1) 37 _ := P13
            have Q40 : Blk w13.drew (w.heap.size + 1 + 1 + 1) 39 _ := Q13
            have B40 := Lib.hid B13.out.drew
            clear T13 H13 P13 Q13 B13 t0 u0 u1 u2
            refine rd1 1 (fun K hK => ?_)
            go_simp
            refine (l5Copy_c (HR.out.below B40.out) B40.out.size (by omega) HP4.out).mono ?_
            rintro e w41 ⟨A41, c41, rfl, o41, b41⟩
            have D41 := o41.lower (base' := w.heap.size) B40.out.size
            clear o41
            have T41 := T40.below b41 T40.lt
            have H41 := H40.below b41 H40.lt
            have P41 := P40.below b41 P40.lt
            have Q41 := Q40.below b41 Q40.lt
            have B41 := Lib.hid (B40.out.trans (b41.mono B40.out.size))
            clear T40 H40 P40 Q40 B40 b41
            go_wp2_with fail
            refine hK.out _ _ ?_ (fun hHeld => ?_)
            · exact ⟨T41.cell 0, H41.cell 0, H41.cell 1, H41.cell 2⟩
            clear hK K
            refine pt ?_
            refine rd1 3 (fun K hK => ?_)
            go_simp
            refine (l7Copy_c (HT.out.below B41.out) B41.out.size (by omega) HRW.out).mono ?_
            rintro e w42 ⟨tA42, tc42, rfl, o42, b42⟩
            rw [HTL.out] at o42 ⊢
            have E42 := o42.lower (base' := w.heap.size) B41.out.size
            have D42 := D41.below b42
            clear o42 D41
            have T42 := T41.below b42 T41.lt
            have H42 := H41.below b42 H41.lt
            have P42 := P41.below b42 P41.lt
            have Q42 := Q41.below b42 Q41.lt
            have B42 := Lib.hid (B41.out.trans (b42.mono B41.out.size))
            clear T41 H41 P41 Q41 B41 b42
            go_wp2_with fail
            refine hK.out _ _ ?_ (fun hHeld => ?_)
            · exact ⟨T42.cell 0, H42.cell 0, H42.cell 1, H42.cell 2⟩
            clear hK K
            refine pt ?_
            refine tk 5 ?_
            have zz0 := P42.frozen 0
            have yy0 := P42.cell 0
            simp at yy0
            refine rd1 6 (fun K hK => ?_)
            go_simp
            have P43 := P42.set_ 0 (.slice tA42 8 tc42)
            have T43 := T42.far (p := ⟨w.heap.size + 1 + 1, 0, none⟩) (by show _ ≠ w.heap.size + 1 + 1; omega) (.slice tA42 8 tc42)
            have H43 := H42.far (p := ⟨w.heap.size + 1 + 1, 0, none⟩) (by show _ ≠ w.heap.size + 1 + 1; omega) (.slice tA42 8 tc42)
            have Q43 := Q42.far (p := ⟨w.heap.size + 1 + 1, 0, none⟩) (by show _ ≠ w.heap.size + 1 + 1; omega) (.slice tA42 8 tc42)
            have B43 := Lib.hid (B42.out.setCell (p := ⟨w.heap.size + 1 + 1, 0, none⟩) (by show w.heap.size ≤ w.heap.size + 1 + 1; omega) (.slice tA42 8 tc42))
            have D43 := D42.typed (ChgT.blk P42 0 (.slice tA42 8 tc42)) (by decide) (by decide)
            have E43 := E42.typed (ChgT.blk P42 0 (.slice tA42 8 tc42)) (by decide) (by decide)
            simp at P43
            clear P42 T42 H42 Q42 B42 D42 E42 zz0 yy0
            refine hK.out _ _ ?_ (fun hHeld => ?_)
            · exact ⟨T43.cell 0, H43.cell 0, H43.cell 1, H43.cell 2⟩
            clear hK K
            refine pt ?_
            have zz0 := Q43.frozen 0
            have zz1 := Q43.frozen 1
            have zz2 := Q43.frozen 2
            have yy0 := Q43.cell 0
            have yy1 := Q43.cell 1
            have yy2 := Q43.cell 2
            simp at yy0 yy1 yy2
            refine rd1 7 (fun K hK => ?_)
            go_simp
            have Q44 := ((Q43.set_ 0 (.int .i64 x)).set_ 1 (.int .i64 y)).set_ 2 (.int .i64 z)
            have T44 := ((T43.far (p := ⟨w.heap.size + 1 + 1 + 1, 0, none⟩) (by show _ ≠ w.heap.size + 1 + 1 + 1; omega) (.int .i64 x)).far (p := ⟨w.heap.size + 1 + 1 + 1, 1, none⟩) (by show _ ≠ w.heap.size + 1 + 1 + 1; omega) (.int .i64 y)).far (p := ⟨w.heap.size + 1 + 1 + 1, 2, none⟩) (by show _ ≠ w.heap.size + 1 + 1 + 1; omega) (.int .i64 z)
            have H44 := ((H43.far (p := ⟨w.heap.size + 1 + 1 + 1, 0, none⟩) (by show _ ≠ w.heap.size + 1 + 1 + 1; omega) (.int .i64 x)).far (p := ⟨w.heap.size + 1 + 1 + 1, 1, none⟩) (by show _ ≠ w.heap.size + 1 + 1 + 1; omega) (.int .i64 y)).far (p := ⟨w.heap.size + 1 + 1 + 1, 2, none⟩) (by show _ ≠ w.heap.size + 1 + 1 + 1; omega) (.int .i64 z)
            have P44 := ((P43.far (p := ⟨w.heap.size + 1 + 1 + 1, 0, none⟩) (by show _ ≠ w.heap.size + 1 + 1 + 1; omega) (.int .i64 x)).far (p := ⟨w.heap.size + 1 + 1 + 1, 1, none⟩) (by show _ ≠ w.heap.size + 1 + 1 + 1; omega) (.int .i64 y)).far (p := ⟨w.heap.size + 1 + 1 + 1, 2, none⟩) (by show _ ≠ w.heap.size + 1 + 1 + 1; omega) (.int .i64 z)
            have B44 := Lib.hid (((B43.out.setCell (p := ⟨w.heap.size + 1 + 1 + 1, 0, none⟩) (by show w.heap.size ≤ w.heap.size + 1 + 1 + 1; omega) (.int .i64 x)).setCell (p := ⟨w.heap.size + 1 + 1 + 1, 1, none⟩) (by show w.heap.size ≤ w.heap.size + 1 + 1 + 1; omega) (.int .i64 y)).setCell (p := ⟨w.heap.size + 1 + 1 + 1, 2, none⟩) (by show w.heap.size ≤ w.heap.size + 1 + 1 + 1; omega) (.int .i64 z))
            have D44 := owB_set3 D43 Q43 (.int .i64 x) (.int .i64 y) (.int .i64 z)
            have E44 := owT_set3 E43 Q43 (.int .i64 x) (.int .i64 y) (.int .i64 z)
            simp at Q44
            clear Q43 T43 H43 P43 B43 D43 E43 zz0 zz1 zz2 yy0 yy1 yy2
            refine hK.out _ _ ?_ (fun hHeld => ?_)
            · exact ⟨T44.cell 0, H44.cell 0, H44.cell 1, H44.cell 2⟩
            clear hK K
            refine pt ?_
            refine tk 8 ?_
            refine tk 9 ?_
            refine wpAnyH_done (by kernel_rfl) ?_ _
            clear hHeld
            generalize (((w42.setCell ⟨w.heap.size + 1 + 1, 0, none⟩ (.slice tA42 8 tc42)).setCell ⟨w.heap.size + 1 + 1 + 1, 0, none⟩ (.int .i64 x)).setCell ⟨w.heap.size + 1 + 1 + 1, 1, none⟩ (.int .i64 y)).setCell ⟨w.heap.size + 1 + 1 + 1, 2, none⟩ (.int .i64 z) = wz at *
            have e0 := P44.cell 0
            have e1 := Q44.cell 0
            have e2 := Q44.cell 1
            have e3 := Q44.cell 2
            simp at e0 e1 e2 e3
            go_wp2
            refine bodyPost_ret (by simp [results, Try.results139, go_sem, e0, e1, e2, e3]; try rfl) rfl ?_
            rw [HX.out]
            exact ownC_of (R := ⟨bs, ts, ⟨x, y, z⟩, 0, false⟩) rfl HTL.out D44 E44 B44.out
          · have hbw : ((sb.getD n noBlock).wear == 100) = false := by simpa using hw
            rw [hbw]
            have HX := Lib.hid (cleanF_some HS.out hw)
            clear hw hbw
            go_upto_region 31 with (fail)
            refine wp_region_held_drew (S := fun w' => w'.cell? ⟨yb, 0, none⟩ = some (.slice (some ⟨gy, 0, none⟩) 8 gc) ∧ w'.cell? ⟨zb, 0, none⟩ = some (.int .i64 sx) ∧ w'.cell? ⟨zb, 1, none⟩ = some (.int .i64 sy) ∧ w'.cell? ⟨zb, 2, none⟩ = some (.int .i64 sz)) (by kernel_rfl) ?_ (fun hHeld => ?_)
            · exact ⟨Y13.cell 0, Z13.cell 0, Z13.cell 1, Z13.cell 2⟩
            refine tk 0 ?_
            refine tk 1 ?_
            refine tk 2 ?_
            refine tk 3 ?_
            refine tk 4 ?_
            have P14 : Blk w13.drew (w.heap.size + 1 + 1) 37 _ := P13
            have Q14 : Blk w13.drew (w.heap.size + 1 + 1 + 1) 39 _ := Q13
            have Y14 : Blk w13.drew yb 37 _ := Y13
            have Z14 : Blk w13.drew zb 39 _ := Z13
            have D14 := D13.below ((Below.refl _ _).drew)
            have E14 := E13.below ((Below.refl _ _).drew)
            have B14 := Lib.hid B13.out.drew
            have szz := B13.out.size
            clear T13 H13 P13 Q13 Y13 Z13 D13 E13 B13
            generalize w13.drew = w14 at *
            have zz0 := P14.frozen 0
            have yy0 := P14.cell 0
            simp at yy0
            refine rd1 5 (fun K hK => ?_)
            go_simp
            have P15 := P14.set_ 0 (.slice (some ⟨gy, 0, none⟩) 8 gc)
            have Q15 := Q14.far (p := ⟨w.heap.size + 1 + 1, 0, none⟩) (by show _ ≠ w.heap.size + 1 + 1; omega) (.slice (some ⟨gy, 0, none⟩) 8 gc)
            have Y15 := Y14.far (p := ⟨w.heap.size + 1 + 1, 0, none⟩) (by show _ ≠ w.heap.size + 1 + 1; omega) (.slice (some ⟨gy, 0, none⟩) 8 gc)
            have Z15 := Z14.far (p := ⟨w.heap.size + 1 + 1, 0, none⟩) (by show _ ≠ w.heap.size + 1 + 1; omega) (.slice (some ⟨gy, 0, none⟩) 8 gc)
            have B15 := Lib.hid (B14.out.setCell (p := ⟨w.heap.size + 1 + 1, 0, none⟩) (by show w.heap.size ≤ w.heap.size + 1 + 1; omega) (.slice (some ⟨gy, 0, none⟩) 8 gc))
            have D15 := D14.typed (ChgT.blk P14 0 (.slice (some ⟨gy, 0, none⟩) 8 gc)) (by decide) (by decide)
            have E15 := E14.typed (ChgT.blk P14 0 (.slice (some ⟨gy, 0, none⟩) 8 gc)) (by decide) (by decide)
            simp at P15
            clear P14 Q14 Y14 Z14 B14 D14 E14 zz0 yy0
            refine hK.out _ _ ?_ (fun hHeld => ?_)
            · exact ⟨Y15.cell 0, Z15.cell 0, Z15.cell 1, Z15.cell 2⟩
            clear hK K
            refine pt ?_
            have zz0 := Q15.frozen 0
            have zz1 := Q15.frozen 1
            have zz2 := Q15.frozen 2
            have yy0 := Q15.cell 0
            have yy1 := Q15.cell 1
            have yy2 := Q15.cell 2
            simp at yy0 yy1 yy2
            refine rd1 6 (fun K hK => ?_)
            go_simp
            have Q16 := ((Q15.set_ 0 (.int .i64 sx)).set_ 1 (.int .i64 sy)).set_ 2 (.int .i64 sz)
            have P16 := ((P15.far (p := ⟨w.heap.size + 1 + 1 + 1, 0, none⟩) (by show _ ≠ w.heap.size + 1 + 1 + 1; omega) (.int .i64 sx)).far (p := ⟨w.heap.size + 1 + 1 + 1, 1, none⟩) (by show _ ≠ w.heap.size + 1 + 1 + 1; omega) (.int .i64 sy)).far (p := ⟨w.heap.size + 1 + 1 + 1, 2, none⟩) (by show _ ≠ w.heap.size + 1 + 1 + 1; omega) (.int .i64 sz)
            have Y16 := ((Y15.far (p := ⟨w.heap.size + 1 + 1 + 1, 0, none⟩) (by show _ ≠ w.heap.size + 1 + 1 + 1; omega) (.int .i64 sx)).far (p := ⟨w.heap.size + 1 + 1 + 1, 1, none⟩) (by show _ ≠ w.heap.size + 1 + 1 + 1; omega) (.int .i64 sy)).far (p := ⟨w.heap.size + 1 + 1 + 1, 2, none⟩) (by show _ ≠ w.heap.size + 1 + 1 + 1; omega) (.int .i64 sz)
            have Z16 := ((Z15.far (p := ⟨w.heap.size + 1 + 1 + 1, 0, none⟩) (by show _ ≠ w.heap.size + 1 + 1 + 1; omega) (.int .i64 sx)).far (p := ⟨w.heap.size + 1 + 1 + 1, 1, none⟩) (by show _ ≠ w.heap.size + 1 + 1 + 1; omega) (.int .i64 sy)).far (p := ⟨w.heap.size + 1 + 1 + 1, 2, none⟩) (by show _ ≠ w.heap.size + 1 + 1 + 1; omega) (.int .i64 sz)
            have B16 := Lib.hid (((B15.out.setCell (p := ⟨w.heap.size + 1 + 1 + 1, 0, none⟩) (by show w.heap.size ≤ w.heap.size + 1 + 1 + 1; omega) (.int .i64 sx)).setCell (p := ⟨w.heap.size + 1 + 1 + 1, 1, none⟩) (by show w.heap.size ≤ w.heap.size + 1 + 1 + 1; omega) (.int .i64 sy)).setCell (p := ⟨w.heap.size + 1 + 1 + 1, 2, none⟩) (by show w.heap.size ≤ w.heap.size + 1 + 1 + 1; omega) (.int .i64 sz))
            have D16 := owB_set3 D15 Q15 (.int .i64 sx) (.int .i64 sy) (.int .i64 sz)
            have E16 := owT_set3 E15 Q15 (.int .i64 sx) (.int .i64 sy) (.int .i64 sz)
            simp at Q16
            clear Q15 P15 Y15 Z15 B15 D15 E15 zz0 zz1 zz2 yy0 yy1 yy2
            refine hK.out _ _ ?_ (fun hHeld => ?_)
            · exact ⟨Y16.cell 0, Z16.cell 0, Z16.cell 1, Z16.cell 2⟩
            clear hK K
            refine pt ?_
            refine tk 7 ?_
            refine tk 8 ?_
            refine wpAnyH_done (by kernel_rfl) ?_ _
            clear hHeld
            skip
            have e0 := P16.cell 0
            have e1 := Q16.cell 0
            have e2 := Q16.cell 1
            have e3 := Q16.cell 2
            simp at e0 e1 e2 e3
            go_wp2
            refine bodyPost_ret (by simp [results, Try.results139, go_sem, e0, e1, e2, e3]; try rfl) rfl ?_
            rw [HX.out]
            exact ownC_of (R := ⟨eraseB sb n, stt, ⟨sx, sy, sz⟩, sm, true⟩) (by rw [eraseB_len]; exact HSL.out) HSH.out.1 D16 E16 B16.out
end Go.Proofs.Ytjnpgdhpneifjaa
