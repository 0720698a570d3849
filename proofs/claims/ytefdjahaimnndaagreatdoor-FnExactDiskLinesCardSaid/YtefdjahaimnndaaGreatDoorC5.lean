/- Parts of the proof, one after the other. -/
import Derived.Test.YtefdjahaimnndaaGreatDoorC4
namespace Go.Proofs.YtefdjahaimnndaaGreatDoor
open Go.ChangeShapes Go.WideShapes Go.ChangeAt Go.RowKit Go.Deep
open Go.Lib (hid)
set_option linter.unusedVariables false
set_option linter.unusedSimpArgs false
def tE (ts : List (List Int)) (f k : Nat) : Int := (ts.getD f []).getD k 0
def Bef (a b f k : Nat) : Prop := a < f ∨ (a = f ∧ b < k)
def EntOk (ts : List (List Int)) (a b : Nat) : Prop := (-1 ≤ tE ts a b ∧ tE ts a b ≤ 47) ∧ ∀ a' b', b' < (ts.getD a' []).length → Bef a' b' a b → 0 ≤ tE ts a b → tE ts a' b' ≠ tE ts a b
def PreT (ts : List (List Int)) (f k : Nat) : Prop := ∀ a b, b < (ts.getD a []).length → Bef a b f k → EntOk ts a b
theorem PreT.zero (ts : List (List Int)) : PreT ts 0 0 := fun a b _ h => by rcases h with h | ⟨_, h⟩ <;> exact absurd h (Nat.not_lt_zero _)
theorem PreT.step {ts : List (List Int)} {f k : Nat} (h : PreT ts f k) (h1 : EntOk ts f k) : PreT ts f (k + 1) := by
 intro a b hb hbef
 by_cases e : a = f ∧ b = k
 · obtain ⟨rfl, rfl⟩ := e; exact h1
 · exact h a b hb (by rcases hbef with h2 | ⟨h2, h3⟩; exact .inl h2; exact .inr ⟨h2, by omega⟩)
theorem PreT.row {ts : List (List Int)} {f : Nat} (h : PreT ts f (ts.getD f []).length) : PreT ts (f + 1) 0 := by
 intro a b hb hbef
 refine h a b hb ?_; rcases hbef with h2 | ⟨_, h3⟩
 · by_cases e : a = f
   · subst e; exact .inr ⟨rfl, hb⟩
   · exact .inl (by omega)
 · exact absurd h3 (Nat.not_lt_zero _)
def RowsOk (ts : List (List Int)) (f : Nat) : Prop := ∀ a, a < f → (ts.getD a []).length = 6
def TableOk (ts : List (List Int)) : Prop := ts.length = 8 ∧ RowsOk ts 8 ∧ PreT ts 8 0
def SeenT (ts : List (List Int)) (f k v : Nat) : Prop := ∃ a b, b < (ts.getD a []).length ∧ Bef a b f k ∧ tE ts a b = (v : Int)
theorem SeenT.zero (ts : List (List Int)) (v : Nat) : ¬ SeenT ts 0 0 v := by
 rintro ⟨a, b, _, h | ⟨_, h⟩, _⟩ <;> exact absurd h (Nat.not_lt_zero _)
theorem SeenT.step {ts : List (List Int)} {f k : Nat} (hk : k < (ts.getD f []).length) (v : Nat) : SeenT ts f (k + 1) v ↔ SeenT ts f k v ∨ tE ts f k = (v : Int) := by
 constructor
 · rintro ⟨a, b, hb, hbef, he⟩; by_cases e : a = f ∧ b = k
   · obtain ⟨rfl, rfl⟩ := e; exact .inr he
   · exact .inl ⟨a, b, hb, by rcases hbef with h2 | ⟨h2, h3⟩; exact .inl h2; exact .inr ⟨h2, by omega⟩, he⟩
 · rintro (⟨a, b, hb, hbef, he⟩ | he)
   · exact ⟨a, b, hb, by rcases hbef with h2 | ⟨h2, h3⟩; exact .inl h2; exact .inr ⟨h2, by omega⟩, he⟩
   · exact ⟨f, k, hk, .inr ⟨rfl, by omega⟩, he⟩
theorem SeenT.row {ts : List (List Int)} {f : Nat} (v : Nat) : SeenT ts f (ts.getD f []).length v ↔ SeenT ts (f + 1) 0 v := by
 constructor
 · rintro ⟨a, b, hb, hbef, he⟩; exact ⟨a, b, hb, .inl (by rcases hbef with h2 | ⟨h2, _⟩ <;> omega), he⟩
 · rintro ⟨a, b, hb, hbef, he⟩; refine ⟨a, b, hb, ?_, he⟩; rcases hbef with h2 | ⟨_, h3⟩
   · by_cases e : a = f
     · subst e; exact .inr ⟨rfl, hb⟩
     · exact .inl (by omega)
   · exact absurd h3 (Nat.not_lt_zero _)
theorem entOk_of {ts : List (List Int)} {f k : Nat} (h1 : -1 ≤ tE ts f k) (h2 : tE ts f k ≤ 47) (h3 : 0 ≤ tE ts f k → ¬ SeenT ts f k (tE ts f k).toNat) : EntOk ts f k :=
 ⟨⟨h1, h2⟩, fun a' b' hb hbef h0 e => h3 h0 ⟨a', b', hb, hbef, by omega⟩⟩
theorem entOk_seen {ts : List (List Int)} {f k : Nat} (h : EntOk ts f k) (h0 : 0 ≤ tE ts f k) : ¬ SeenT ts f k (tE ts f k).toNat := by
 rintro ⟨a, b, hb, hbef, he⟩; exact h.2 a b hb hbef h0 (by omega)
def SeenIs (cs : Array Value) (S : Nat → Prop) : Prop := cs.size = 48 ∧ ∀ v, v < 48 → cs[v]? = some (.bool (bof (S v)))
theorem SeenIs.congr {cs : Array Value} {S S' : Nat → Prop} (h : SeenIs cs S) (he : ∀ v, v < 48 → (S v ↔ S' v)) : SeenIs cs S' :=
 ⟨h.1, fun v hv => by rw [h.2 v hv, show bof (S v) = bof (S' v) by rw [Bool.eq_iff_iff, bof_t, bof_t]; exact he v hv]⟩
theorem SeenIs.set {cs : Array Value} {S : Nat → Prop} (h : SeenIs cs S) {u : Nat} (hu : u < 48) : SeenIs (cs.setIfInBounds u (.bool true)) (fun v => S v ∨ v = u) := by
 refine ⟨by simp [h.1], fun v hv => ?_⟩; by_cases e : u = v
 · subst e; rw [Array.getElem?_setIfInBounds_self_of_lt (by rw [h.1]; exact hu), bof_t.2 (Or.inr rfl)]
 · rw [Array.getElem?_setIfInBounds_ne e, h.2 v hv, show bof (S v) = bof (S v ∨ v = u) by rw [Bool.eq_iff_iff, bof_t, bof_t]; exact ⟨Or.inl, fun h => h.resolve_right (fun e' => e e'.symm)⟩]
theorem SeenIs.zero (S : Nat → Prop) (hS : ∀ v, ¬ S v) : SeenIs (madeCells #[.bool false] 48) S := by
 refine ⟨by simp [madeCells], fun v hv => ?_⟩; have hl := toList_madeCells_one (.bool false) 48; have : (madeCells #[Value.bool false] 48)[v]? = (madeCells #[Value.bool false] 48).toList[v]? := by rw [Array.getElem?_toList]
 rw [this, hl, List.getElem?_replicate, if_pos hv, bof_f.2 (hS v)]
theorem falses48 : madeCells #[Value.bool false] 48 = #[Value.bool false, .bool false, .bool false, .bool false, .bool false, .bool false, .bool false, .bool false, .bool false, .bool false, .bool false, .bool false, .bool false, .bool false, .bool false, .bool false, .bool false, .bool false, .bool false, .bool false, .bool false, .bool false, .bool false, .bool false, .bool false, .bool false, .bool false, .bool false, .bool false, .bool false, .bool false, .bool false, .bool false, .bool false, .bool false, .bool false, .bool false, .bool false, .bool false, .bool false, .bool false, .bool false, .bool false, .bool false, .bool false, .bool false, .bool false, .bool false] := by kernel_rfl
theorem pageNumber_c (v : Int) (w : World) : Calls Tryz.prog 98 #[.int .i64 v] w fun e w' => e = .returned (.bool (inB v (-1) 47)) ∧ w = w' := by
 by_cases h : -1 ≤ v
 · by_cases h2 : v < 48
   · have hb : inB v (-1) 47 = true := by rw [inB_t]; omega
     go_enter Tryz.func98, Tryz.ntmps98
     go_wp2; go_ret
     exact ⟨ret_bool (by first | exact hb.symm | rfl), rfl⟩
   · have hb : inB v (-1) 47 = false := by rw [inB_f]; omega
     go_enter Tryz.func98, Tryz.ntmps98
     go_wp2; go_ret
     exact ⟨ret_bool (by first | exact hb.symm | rfl), rfl⟩
 · have hb : inB v (-1) 47 = false := by rw [inB_f]; omega
   go_enter Tryz.func98, Tryz.ntmps98
   go_wp2; go_ret
   exact ⟨ret_bool (by first | exact hb.symm | rfl), rfl⟩
theorem tableValid_impl {A : Option Addr} {n c B : Nat} {ts : List (List Int)} {w : World} (hr : RdT w B A n ts) (hB : B ≤ w.heap.size) (hn : n ≤ 1048576) :
 Calls Tryz.prog 40 #[.agg #[.slice A n c]] w fun e w' => e = .returned (.bool (bof (TableOk ts))) ∧ Below w.heap.size w w' := by
 have HL := hid hr.len; have b1 : Below w.heap.size w (w.alloc (.cells #[.slice A n c] 26)) := (Below.refl _ _).alloc (Nat.le_refl _) _; by_cases h8 : n = 8
 · subst h8; have k1 := Blk.new w 26 #[.slice A 8 c]; have t0 := k1.cell 0; simp at t0; have hr1 := (hr.mono hB).below b1; have B1 := hid b1; have hsz := b1.size; clear k1 hr b1; go_enter Tryz.func40, Tryz.ntmps40
   go_wp2; have e1 : (w.alloc (.cells #[.slice A 8 c] 26)).heap.size = w.heap.size + 1 := by simp
   have ks := Blk.new (w.alloc (.cells #[.slice A 8 c] 26)) 129 #[.bool false, .bool false, .bool false, .bool false, .bool false, .bool false, .bool false, .bool false, .bool false, .bool false, .bool false, .bool false, .bool false, .bool false, .bool false, .bool false, .bool false, .bool false, .bool false, .bool false, .bool false, .bool false, .bool false, .bool false, .bool false, .bool false, .bool false, .bool false, .bool false, .bool false, .bool false, .bool false, .bool false, .bool false, .bool false, .bool false, .bool false, .bool false, .bool false, .bool false, .bool false, .bool false, .bool false, .bool false, .bool false, .bool false, .bool false, .bool false]; rw [e1] at ks; have bs := (B1.out).alloc hsz (.cells #[.bool false, .bool false, .bool false, .bool false, .bool false, .bool false, .bool false, .bool false, .bool false, .bool false, .bool false, .bool false, .bool false, .bool false, .bool false, .bool false, .bool false, .bool false, .bool false, .bool false, .bool false, .bool false, .bool false, .bool false, .bool false, .bool false, .bool false, .bool false, .bool false, .bool false, .bool false, .bool false, .bool false, .bool false, .bool false, .bool false, .bool false, .bool false, .bool false, .bool false, .bool false, .bool false, .bool false, .bool false, .bool false, .bool false, .bool false, .bool false] 129); have hrs := hr1.below ((Below.refl _ _).alloc hsz (.cells #[.bool false, .bool false, .bool false, .bool false, .bool false, .bool false, .bool false, .bool false, .bool false, .bool false, .bool false, .bool false, .bool false, .bool false, .bool false, .bool false, .bool false, .bool false, .bool false, .bool false, .bool false, .bool false, .bool false, .bool false, .bool false, .bool false, .bool false, .bool false, .bool false, .bool false, .bool false, .bool false, .bool false, .bool false, .bool false, .bool false, .bool false, .bool false, .bool false, .bool false, .bool false, .bool false, .bool false, .bool false, .bool false, .bool false, .bool false, .bool false] 129))
   have KS := hid ks; have BS := hid bs; have lw : w.heap.size + 1 < ((w.alloc (.cells #[.slice A 8 c] 26)).alloc (.cells #[.bool false, .bool false, .bool false, .bool false, .bool false, .bool false, .bool false, .bool false, .bool false, .bool false, .bool false, .bool false, .bool false, .bool false, .bool false, .bool false, .bool false, .bool false, .bool false, .bool false, .bool false, .bool false, .bool false, .bool false, .bool false, .bool false, .bool false, .bool false, .bool false, .bool false, .bool false, .bool false, .bool false, .bool false, .bool false, .bool false, .bool false, .bool false, .bool false, .bool false, .bool false, .bool false, .bool false, .bool false, .bool false, .bool false, .bool false, .bool false] 129)).heap.size := by simp
   clear ks bs hr1 e1 B1 hsz; generalize (w.alloc (.cells #[.slice A 8 c] 26)).alloc (.cells #[.bool false, .bool false, .bool false, .bool false, .bool false, .bool false, .bool false, .bool false, .bool false, .bool false, .bool false, .bool false, .bool false, .bool false, .bool false, .bool false, .bool false, .bool false, .bool false, .bool false, .bool false, .bool false, .bool false, .bool false, .bool false, .bool false, .bool false, .bool false, .bool false, .bool false, .bool false, .bool false, .bool false, .bool false, .bool false, .bool false, .bool false, .bool false, .bool false, .bool false, .bool false, .bool false, .bool false, .bool false, .bool false, .bool false, .bool false, .bool false] 129) = w1 at *; go_loopw [15] (fun i wr => ∃ (f : Nat) (cs : Array Value), f ≤ 8 ∧ i = .int .i64 f ∧ RowsOk ts f ∧ PreT ts f 0 ∧ SeenIs cs (SeenT ts f 0) ∧ Blk wr (w.heap.size + 1) 129 cs ∧ Below w.heap.size w wr ∧ Below w.heap.size w1 wr) (fun i _ => 8 - (intOf i).toNat)
   case atStart => exact ⟨0, _, Nat.zero_le _, rfl, fun a h => absurd h (Nat.not_lt_zero _), PreT.zero _, by rw [← falses48]; exact SeenIs.zero _ (SeenT.zero ts), KS.out, BS.out, Below.refl _ _⟩
   case round =>
    obtain ⟨f, cs, hf, rfl, hrows, hpre, hseen, hblk, hbel, hb1⟩ := hrel; have HR := hid hrows; have HP := hid hpre; have HS := hid hseen; have HK := hid hblk; have HB := hid hbel; have HB1 := hid hb1; clear hrows hpre hseen hblk hbel; by_cases hlt : f < 8
    · obtain ⟨b, off, rfl, hbB, hc⟩ := hrs.at_ (by omega); obtain ⟨A', n', c', c1, hnc, hcm, hrg⟩ := hc f hlt; replace c1 := (hb1.cell (p := ⟨b, off + f, none⟩) (show b < w.heap.size by omega)).trans c1; by_cases h6 : n' = 6
      · subst h6; have HRL := hid (show (ts.getD f []).length = 6 from hrg.len); have hd6 : decide ((f : Int) < 8) = true := decide_eq_true (by omega); have hrg1 := hrg.below hb1; clear hc hrs hb1 hrg; obtain ⟨wo, rfl⟩ : ∃ wo : World, wo = wr := ⟨_, rfl⟩; go_wp2; go_loopw [24] (fun i wr => ∃ (j : Nat) (cs : Array Value), j ≤ 6 ∧ i = .int .i64 j ∧ PreT ts f j ∧ SeenIs cs (SeenT ts f j) ∧ Blk wr (w.heap.size + 1) 129 cs ∧ Below w.heap.size wo wr) (fun i _ => 6 - (intOf i).toNat)
        case atStart => exact ⟨0, cs, Nat.zero_le _, rfl, HP.out, HS.out, HK.out, Below.refl _ _⟩
        case round =>
         obtain ⟨j, cs, hj, rfl, hpre, hseen, hblk, hb2⟩ := hrel; have HP := hid hpre; have HS := hid hseen; have HK := hid hblk; have HB2 := hid hb2; clear hpre hseen hblk; by_cases hl6 : j < 6
         · obtain ⟨b', off', rfl, hbB', hc'⟩ := hrg1.at_ (by omega); have d1 := (hb2.cell (p := ⟨b', off' + j, none⟩) (show b' < w.heap.size by omega)).trans (hc' j hl6); have HV := hid (show (ts.getD f []).getD j 0 = tE ts f j from rfl); rw [HV.out] at d1; have hNO := hid (show ¬ EntOk ts f j → ¬ TableOk ts from fun h hh => h (hh.2.2 f j (by rw [HRL.out]; exact hl6) (.inl (by omega)))); obtain ⟨v, hv⟩ : ∃ v, tE ts f j = v := ⟨_, rfl⟩; rw [hv] at d1; have HV2 := hid hv; clear hv hc' hrg1 hb2; by_cases hin : -1 ≤ v ∧ v ≤ 47
           · have hb : inB v (-1) 47 = true := by rw [inB_t]; exact hin
             by_cases hv0 : 0 ≤ v
             · obtain ⟨u, rfl⟩ := Int.eq_ofNat_of_zero_le hv0; have hu : u < 48 := by omega
               have cu := (HK.out.cell u).trans (HS.out.2 u hu); have zu := HK.out.frozen u; by_cases hsn : SeenT ts f j u
               · have hno := hid (hNO.out (fun h => entOk_seen h (by rw [HV2.out]; exact hv0) (by rw [HV2.out]; exact hsn))); rw [bof_t.2 hsn] at cu; go_wp2_with (go_at_call 98; refine (pageNumber_c _ _).mono ?_; rw [hb]; rintro e w' ⟨rfl, rfl⟩)
                 go_ret; exact ⟨ret_bof_f hno.out, HB.out.trans HB2.out⟩
               · rw [bof_f.2 hsn] at cu; have HP2 := hid (HP.out.step (entOk_of (by rw [HV2.out]; omega) (by rw [HV2.out]; omega) (fun _ => by rw [HV2.out]; exact hsn))); have HS2 := hid ((HS.out.set hu).congr (S' := SeenT ts f (j + 1)) (fun x hx => by rw [SeenT.step (by rw [HRL.out]; exact hl6), HV2.out]; exact or_congr Iff.rfl ⟨fun e => by rw [e], fun e => by omega⟩)); have HK2 := hid (HK.out.set_ u (.bool true)); have HB3 := hid (HB2.out.setCell (p := ⟨w.heap.size + 1, u, none⟩) (by show w.heap.size ≤ w.heap.size + 1; omega) (.bool true)); clear hsn; go_wp2_with (go_at_call 98; refine (pageNumber_c _ _).mono ?_; rw [hb]; rintro e w' ⟨rfl, rfl⟩)
                 go_roundw
                 case rel => exact ⟨j + 1, _, by omega, by go_num, HP2.out, HS2.out, HK2.out, HB3.out⟩
                 case measure => simp [intOf]; omega
             · obtain rfl : v = -1 := by omega
               have HP2 := hid (HP.out.step (entOk_of (by rw [HV2.out]; omega) (by rw [HV2.out]; omega) (fun h => by rw [HV2.out] at h; omega))); have HS2 := hid (HS.out.congr (S' := SeenT ts f (j + 1)) (fun x hx => by rw [SeenT.step (by rw [HRL.out]; exact hl6), HV2.out]; exact ⟨Or.inl, fun h => h.resolve_right (by omega)⟩)); go_wp2_with (go_at_call 98; refine (pageNumber_c _ _).mono ?_; rw [hb]; rintro e w' ⟨rfl, rfl⟩)
               go_roundw
               case rel => exact ⟨j + 1, cs, by omega, by go_num, HP2.out, HS2.out, HK.out, HB2.out⟩
               case measure => simp [intOf]; omega
           · have hb : inB v (-1) 47 = false := by rw [inB_f]; omega
             have hno := hid (hNO.out (fun h => hin (by have := h.1; rw [HV2.out] at this; exact this))); go_wp2_with (go_at_call 98; refine (pageNumber_c _ _).mono ?_; rw [hb]; rintro e w' ⟨rfl, rfl⟩)
             go_ret; exact ⟨ret_bof_f hno.out, HB.out.trans HB2.out⟩
         · obtain rfl : j = 6 := by omega
           have hp := HP.out; have hs := HS.out; have hrow := HRL.out; rw [← hrow] at hp hs; have HP2 := hid hp.row; have HS2 := hid (hs.congr (S' := SeenT ts (f + 1) 0) (fun x _ => SeenT.row x)); have HR2 := hid (show RowsOk ts (f + 1) from fun a ha => by
            by_cases e : a = f
            · subst e; exact HRL.out
            · exact HR.out a (by omega))
           clear hp hs hrow; go_wp2; go_roundw
           case rel => exact ⟨f + 1, cs, by omega, by go_num, HR2.out, HP2.out, HS2.out, HK.out, HB.out.trans HB2.out, HB1.out.trans HB2.out⟩
           case measure => simp [intOf]; omega
      · have hno := hid (show ¬ TableOk ts from fun h => h6 (by have := h.2.1 f hlt; rw [hrg.len] at this; exact this)); have hq : ((n' : Int) != 6) = true := by simp; omega
        have hq' : ((n' : Int) == 6) = false := by simp; omega
        clear h6 hc hrs hb1 hrg; go_wp2; go_ret; exact ⟨ret_bof_f hno.out, HB.out⟩
    · obtain rfl : f = 8 := by omega
      have hyes := hid (show TableOk ts from ⟨HL.out, HR.out, HP.out⟩); go_wp2; go_ret; exact ⟨ret_bof_t hyes.out, HB.out⟩
 · have hno := hid (show ¬ TableOk ts from fun h => h8 (by have := h.1; have := HL.out; omega)); have hq : ((n : Int) != 8) = true := by simp; omega
   have hq' : ((n : Int) == 8) = false := by simp; omega
   clear h8; go_enter Tryz.func40, Tryz.ntmps40
   go_wp2; go_ret
   exact ⟨ret_bof_f hno.out, b1⟩
theorem makeBools48 : ∀ W : World, (Instr.makeSlice 167 (.int .i64 48) (.int .i64 48)).run Tryz.prog W = .ok (.slice (some ⟨W.heap.size, 0, none⟩) 48 48) (W.alloc (.cells (madeCells #[.bool false] 48) 4)) := by
 have hinfo : (Tryz.prog.info? 4).map (fun i => (i.zero, i.size, i.bytes)) = some (some (.bool false), 1, 1) := by kernel_rfl
 intro W
 obtain ⟨i0, hi, hz0, hz1, hz2⟩ := info_parts hinfo; have := run_make (P := Tryz.prog) W 167 4 i0 _ Tryz.underlying167 hi hz0 .i64 .i64 48 48 (by omega) (by omega) (by rw [hz2]; omega) (by omega); rw [hz1] at this; exact this
theorem tableValid_spec {A : Option Addr} {n c B : Nat} {ts : List (List Int)} {w : World} (hr : RdT w B A n ts) (hB : B ≤ w.heap.size) (hn : n ≤ 1048576) :
 Calls Tryz.prog 91 #[.agg #[.slice A n c]] w fun e w' => e = .returned (.bool (bof (TableOk ts))) ∧ Below w.heap.size w w' := by
 have HL := hid hr.len; have hmk := makeBools48; have b1 : Below w.heap.size w (w.alloc (.cells #[.slice A n c] 26)) := (Below.refl _ _).alloc (Nat.le_refl _) _; have e1 : (w.alloc (.cells #[.slice A n c] 26)).heap.size = w.heap.size + 1 := by simp
 have k1 := (Blk.new w 26 #[.slice A n c]).alloc (.cells (madeCells #[.bool false] 48) 4); have ks := Blk.new (w.alloc (.cells #[.slice A n c] 26)) 4 (madeCells #[.bool false] 48); rw [e1] at ks; have bs := b1.alloc b1.size (.cells (madeCells #[.bool false] 48) 4); have hrs := (hr.mono hB).below bs; have KT := hid k1; have KS := hid ks; have BS := hid bs; have lw : w.heap.size + 1 < ((w.alloc (.cells #[.slice A n c] 26)).alloc (.cells (madeCells #[.bool false] 48) 4)).heap.size := by simp
 clear ks bs e1 b1 k1 hr; go_enter Tryz.func91, Tryz.ntmps91
 go_wp2; generalize (w.alloc (.cells #[.slice A n c] 26)).alloc (.cells (madeCells #[.bool false] 48) 4) = w1 at *
 clear hmk; go_loopw [4] (fun i wr => ∃ (f : Nat) (cs : Array Value), f ≤ n ∧ i = .int .i64 f ∧ RowsOk ts f ∧ PreT ts f 0 ∧ SeenIs cs (SeenT ts f 0) ∧ Blk wr (w.heap.size + 1) 4 cs ∧ Blk wr w.heap.size 26 #[.slice A n c] ∧ Below w.heap.size w wr ∧ Below w.heap.size w1 wr) (fun i _ => n - (intOf i).toNat)
 case atStart => exact ⟨0, _, Nat.zero_le _, rfl, fun a h => absurd h (Nat.not_lt_zero _), PreT.zero _, SeenIs.zero _ (SeenT.zero ts), KS.out, KT.out, BS.out, Below.refl _ _⟩
 case round =>
  obtain ⟨f, cs, hf, rfl, hrows, hpre, hseen, hblk, hkt, hbel, hb1⟩ := hrel; have HR := hid hrows; have HP := hid hpre; have HS := hid hseen; have HK := hid hblk; have HKT := hid hkt; have HB := hid hbel; have HB1 := hid hb1; have t0 := hkt.cell 0; simp at t0; clear hrows hpre hseen hblk hbel hkt; by_cases hlt : f < n
  · obtain ⟨b, off, rfl, hbB, hc⟩ := hrs.at_ (by omega); obtain ⟨A', n', c', c1, hnc, hcm, hrg⟩ := hc f hlt; replace c1 := (hb1.cell (p := ⟨b, off + f, none⟩) (show b < w.heap.size by omega)).trans c1; have HC1 := hid c1; have HRL := hid (show (ts.getD f []).length = n' from hrg.len); have hdn : decide (f < n) = true := decide_eq_true hlt; have hrg1 := hrg.below hb1; clear hc hrs hb1 hrg c1; obtain ⟨wo, rfl⟩ : ∃ wo : World, wo = wr := ⟨_, rfl⟩; go_wp2; clear t0; go_loopw [5] (fun i wr => ∃ (j : Nat) (cs : Array Value), j ≤ n' ∧ i = .int .i64 j ∧ PreT ts f j ∧ SeenIs cs (SeenT ts f j) ∧ Blk wr (w.heap.size + 1) 4 cs ∧ Blk wr w.heap.size 26 #[.slice (some ⟨b, off, none⟩) n c] ∧ Below w.heap.size wo wr) (fun i _ => n' - (intOf i).toNat)
    case atStart => exact ⟨0, cs, Nat.zero_le _, rfl, HP.out, HS.out, HK.out, HKT.out, Below.refl _ _⟩
    case round =>
     obtain ⟨j, cs, hj, rfl, hpre, hseen, hblk, hkt, hb2⟩ := hrel; have HP := hid hpre; have HS := hid hseen; have HK := hid hblk; have HKT := hid hkt; have HB2 := hid hb2; have t0 := hkt.cell 0; simp at t0; have c1 := (hb2.cell (p := ⟨b, off + f, none⟩) (show b < w.heap.size by omega)).trans HC1.out; clear hpre hseen hblk hkt; by_cases hl6 : j < n'
     · obtain ⟨b', off', rfl, hbB', hc'⟩ := hrg1.at_ (by omega); have d1 := (hb2.cell (p := ⟨b', off' + j, none⟩) (show b' < w.heap.size by omega)).trans (hc' j hl6); have HV := hid (show (ts.getD f []).getD j 0 = tE ts f j from rfl); rw [HV.out] at d1; have hNO := hid (show ¬ EntOk ts f j → ¬ TableOk ts from fun h hh => h (hh.2.2 f j (by rw [HRL.out]; exact hl6) (.inl (by have := hh.1; have := HL.out; omega)))); obtain ⟨v, hv⟩ : ∃ v, tE ts f j = v := ⟨_, rfl⟩; rw [hv] at d1; have HV2 := hid hv; clear hv hc' hrg1 hb2; by_cases hin : -1 ≤ v ∧ v ≤ 47
       · have hb : inB v (-1) 47 = true := by rw [inB_t]; exact hin
         by_cases hv0 : 0 ≤ v
         · obtain ⟨u, rfl⟩ := Int.eq_ofNat_of_zero_le hv0; have hu : u < 48 := by omega
           have cu := (HK.out.cell u).trans (HS.out.2 u hu); have zu := HK.out.frozen u; by_cases hsn : SeenT ts f j u
           · have hno := hid (hNO.out (fun h => entOk_seen h (by rw [HV2.out]; exact hv0) (by rw [HV2.out]; exact hsn))); rw [bof_t.2 hsn] at cu; go_wp2_with (go_at_call 53; refine (l1In_c _ _ _ _).mono ?_; rw [hb]; rintro e w' ⟨rfl, rfl⟩)
             go_ret; exact ⟨ret_bof_f hno.out, HB.out.trans HB2.out⟩
           · rw [bof_f.2 hsn] at cu; have HP2 := hid (HP.out.step (entOk_of (by rw [HV2.out]; omega) (by rw [HV2.out]; omega) (fun _ => by rw [HV2.out]; exact hsn))); have HS2 := hid ((HS.out.set hu).congr (S' := SeenT ts f (j + 1)) (fun x hx => by rw [SeenT.step (by rw [HRL.out]; exact hl6), HV2.out]; exact or_congr Iff.rfl ⟨fun e => by rw [e], fun e => by omega⟩)); have HK2 := hid (HK.out.set_ u (.bool true)); have HKT2 := hid (HKT.out.far (p := ⟨w.heap.size + 1, u, none⟩) (by show w.heap.size ≠ w.heap.size + 1; omega) (.bool true)); have HB3 := hid (HB2.out.setCell (p := ⟨w.heap.size + 1, u, none⟩) (by show w.heap.size ≤ w.heap.size + 1; omega) (.bool true)); clear hsn; go_wp2_with (go_at_call 53; refine (l1In_c _ _ _ _).mono ?_; rw [hb]; rintro e w' ⟨rfl, rfl⟩)
             go_roundw
             case rel => exact ⟨j + 1, _, by omega, by go_num, HP2.out, HS2.out, HK2.out, HKT2.out, HB3.out⟩
             case measure => simp [intOf]; omega
         · obtain rfl : v = -1 := by omega
           have HP2 := hid (HP.out.step (entOk_of (by rw [HV2.out]; omega) (by rw [HV2.out]; omega) (fun h => by rw [HV2.out] at h; omega))); have HS2 := hid (HS.out.congr (S' := SeenT ts f (j + 1)) (fun x hx => by rw [SeenT.step (by rw [HRL.out]; exact hl6), HV2.out]; exact ⟨Or.inl, fun h => h.resolve_right (by omega)⟩)); go_wp2_with (go_at_call 53; refine (l1In_c _ _ _ _).mono ?_; rw [hb]; rintro e w' ⟨rfl, rfl⟩)
           go_roundw
           case rel => exact ⟨j + 1, cs, by omega, by go_num, HP2.out, HS2.out, HK.out, HKT.out, HB2.out⟩
           case measure => simp [intOf]; omega
       · have hb : inB v (-1) 47 = false := by rw [inB_f]; omega
         have hno := hid (hNO.out (fun h => hin (by have := h.1; rw [HV2.out] at this; exact this))); go_wp2_with (go_at_call 53; refine (l1In_c _ _ _ _).mono ?_; rw [hb]; rintro e w' ⟨rfl, rfl⟩)
         go_ret; exact ⟨ret_bof_f hno.out, HB.out.trans HB2.out⟩
     · obtain rfl : j = n' := by omega
       by_cases h6 : j = 6
       · subst h6; have hp := HP.out; have hs := HS.out; have hrow := HRL.out; rw [← hrow] at hp hs; have HP2 := hid hp.row; have HS2 := hid (hs.congr (S' := SeenT ts (f + 1) 0) (fun x _ => SeenT.row x)); have HR2 := hid (show RowsOk ts (f + 1) from fun a ha => by
          by_cases e : a = f
          · subst e; exact HRL.out
          · exact HR.out a (by omega))
         clear hp hs hrow; go_wp2; go_roundw
         case rel => exact ⟨f + 1, cs, by omega, by go_num, HR2.out, HP2.out, HS2.out, HK.out, HKT.out, HB.out.trans HB2.out, HB1.out.trans HB2.out⟩
         case measure => simp [intOf]; omega
       · have hno := hid (show ¬ TableOk ts from fun h => h6 (by have := h.2.1 f (by have := h.1; have := HL.out; omega); rw [HRL.out] at this; exact this)); have hq : ((j : Int) != 6) = true := by simp; omega
         have hq' : ((j : Int) == 6) = false := by simp; omega
         clear h6; go_wp2; go_ret; exact ⟨ret_bof_f hno.out, HB.out.trans HB2.out⟩
  · obtain rfl : f = n := by omega
    by_cases h8 : f = 8
    · subst h8; have hyes := hid (show TableOk ts from ⟨HL.out, HR.out, HP.out⟩); go_wp2; go_ret; exact ⟨ret_bof_t hyes.out, HB.out⟩
    · have hno := hid (show ¬ TableOk ts from fun h => h8 (by have := h.1; have := HL.out; omega)); have hq : ((f : Int) != 8) = true := by simp; omega
      have hq' : ((f : Int) == 8) = false := by simp; omega
      clear h8; go_wp2; go_ret; exact ⟨ret_bof_f hno.out, HB.out⟩
def wroteTo (ps : List PageV) : Nat → Nat
 | 0 => 0
 | k + 1 => wroteTo ps k + if (ps.getD k noPage).full then 1 else 0
theorem wroteTo_le (ps : List PageV) : ∀ k, wroteTo ps k ≤ k
 | 0 => Nat.le_refl _
 | k + 1 => by have := wroteTo_le ps k; unfold wroteTo; split <;> omega
theorem writtenPages_c {we : Int} {A : Option Addr} {n c B : Nat} {ps : List PageV} {w : World} (hr : RdG w B A n ps) (hB : B ≤ w.heap.size) (hnc : n ≤ c) (hcm : c ≤ 9223372036854775807) :
 Calls Tryz.prog 185 #[.agg #[.int .i64 we, .slice A n c]] w fun e w' => e = .returned (.int .i64 (wroteTo ps n)) ∧ Below w.heap.size w w' := by
 have b1 : Below w.heap.size w (w.alloc (.cells #[.int .i64 we, .slice A n c] 127)) := (Below.refl _ _).alloc (Nat.le_refl _) _; go_enter Tryz.func185, Tryz.ntmps185
 go_wp2; have hr1 := (hr.mono hB).below b1
 have HB1 := hid b1; have hs1 := b1.size; clear b1 hr; generalize w.alloc (.cells #[.int .i64 we, .slice A n c] 127) = w1 at *; generalize hg0 : w.heap.size = g0 at hr1 hs1 hB ⊢; have HG0 := hid hg0; clear hg0; go_loopw [3, 9] (fun s kk wr => ∃ k : Nat, k ≤ n ∧ kk = .int .i64 k ∧ s = .int .i64 (wroteTo ps k) ∧ Below w1.heap.size w1 wr) (fun _ kk _ => n - (intOf kk).toNat)
 case atStart => exact ⟨0, Nat.zero_le _, rfl, rfl, Below.refl _ _⟩
 case round =>
  obtain ⟨k, hk, rfl, rfl, hbl⟩ := hrel; have HBL := hid hbl; have hwk := wroteTo_le ps k; by_cases hlt : k < n
  · obtain ⟨b, off, rfl, hbB, hc⟩ := hr1.at_ (by omega); have hb1 : b < w1.heap.size := by omega
    obtain ⟨c0, c1, c2, c3, c4⟩ := hc k hlt; replace c0 := (hbl.cell hb1).trans c0; replace c1 := (hbl.cell hb1).trans c1; replace c2 := (hbl.cell hb1).trans c2; replace c3 := (hbl.cell hb1).trans c3; replace c4 := (hbl.cell hb1).trans c4; have HW := hid (show wroteTo ps (k + 1) = wroteTo ps k + if (ps.getD k noPage).full then 1 else 0 from rfl); obtain ⟨P, hP⟩ : ∃ P, ps.getD k noPage = P := ⟨_, rfl⟩; rw [hP] at c0 c1 c2 c3 c4 HW; obtain ⟨f, x, y, z, s⟩ := P; simp only at c0 c1 c2 c3 c4; generalize wroteTo ps k = q at *; have hsz := hbl.size; clear hP hc hr1 hbl; cases f
    · go_wp2; go_roundw
      case rel => exact ⟨k + 1, by omega, by go_num, by rw [HW.out]; simp, HBL.out.alloc hsz _⟩
      case measure => simp [intOf]; omega
    · go_wp2; go_roundw
      case rel => exact ⟨k + 1, by omega, by go_num, by rw [HW.out]; simp, HBL.out.alloc hsz _⟩
      case measure => simp [intOf]; omega
  · obtain rfl : k = n := by omega
    go_wp2; go_ret
    exact ⟨rfl, HB1.out.trans (HBL.out.mono (by rw [HG0.out]; exact hs1))⟩
def pgv (p : PageV) : Value := .agg #[.bool p.full, .int .i64 p.file, .int .i64 p.place, .int .i64 p.value, .int .i64 p.stamp]
def pageN (bs : List BlockV) (at' : Nat) : PageV := (bs.getD (at' / 4) noBlock).pages.getD (at' % 4) noPage
set_option maxHeartbeats 2000000 in
theorem readPage_c {A : Option Addr} {n c B at' : Nat} {bs : List BlockV} {w : World} (hr : RdB w B A n bs) (hB : B ≤ w.heap.size) (hn : n ≤ 1048576) (hok : DevOk bs) (hat : at' < 4 * n) :
 Calls Tryz.prog 54 #[.slice A n c, .int .i64 (at' : Nat)] w fun e w' => e = .returned (.tuple #[pgv (pageN bs at'), .bool (pageN bs at').full]) ∧ Below w.heap.size w w' := by
 have HL := hid hr.len; have hn12 : n ≤ 12 := by have := hok.1.2; have := HL.out; omega
 have hbt := bof_t.2 hok; have hin : inB (at' : Int) 0 (4 * (n : Int) - 1) = true := by rw [inB_t]; omega
 have v1 : IntKind.i64.wrap (4 * (n : Int)) = 4 * (n : Int) := IntWalk.i64_in _ (by omega); have v2 : IntKind.i64.wrap (4 * (n : Int) - 1) = 4 * (n : Int) - 1 := IntWalk.i64_in _ (by omega); have b0 : Below w.heap.size w (w.alloc (.cells #[.bool false, .int .i64 0, .int .i64 0, .int .i64 0, .int .i64 0] 88)) := (Below.refl _ _).alloc (Nat.le_refl _) _; have s0 : w.heap.size < (w.alloc (.cells #[.bool false, .int .i64 0, .int .i64 0, .int .i64 0, .int .i64 0] 88)).heap.size := by simp
 have hr0 := (hr.mono hB).below b0; have B0 := hid b0; have K0 := hid (Blk.new w 88 #[.bool false, .int .i64 0, .int .i64 0, .int .i64 0, .int .i64 0]); clear hr b0; go_enter Tryz.func54, Tryz.ntmps54
 go_wp2_with fail; generalize w.alloc (.cells #[.bool false, .int .i64 0, .int .i64 0, .int .i64 0, .int .i64 0] 88) = w0 at *
 refine (deviceValid_spec hr0 (by omega) hn).mono ?_; rw [hbt]; rintro e w1 ⟨rfl, hb1⟩; have hr1 := hr0.below (hb1.mono (by omega)); have K1 := K0.out.below hb1 s0; have B1 := hid (B0.out.trans (hb1.mono (by omega))); have hs1 := hb1.size; generalize hg0 : w.heap.size = g0 at K1 hr1 s0 ⊢; have HG0 := hid hg0; clear hr0 hb1 hbt hg0; obtain ⟨b, off, rfl, hbB, hc⟩ := hr1.at_ (by omega); have hi : at' / 4 < n := by omega
 obtain ⟨A', n', c', c0, c1, hnc, hcm, hrg⟩ := hc (at' / 4) hi; have hbk := hok.2 (at' / 4) (by rw [HL.out]; exact hi); have hpl := hbk.2.1; have hn4 : n' = 4 := by rw [← hrg.len, hpl]
 subst hn4; obtain ⟨b', off', rfl, hbB', hc'⟩ := hrg.at_ (by omega); have hj : at' % 4 < 4 := by omega
 obtain ⟨d0, d1, d2, d3, d4⟩ := hc' (at' % 4) hj; have HP := hid (show pageN bs at' = (bs.getD (at' / 4) noBlock).pages.getD (at' % 4) noPage from rfl); obtain ⟨P, hP⟩ : ∃ P, (bs.getD (at' / 4) noBlock).pages.getD (at' % 4) noPage = P := ⟨_, rfl⟩; rw [hP] at d0 d1 d2 d3 d4 HP; obtain ⟨f, x, y, z, s⟩ := P; simp only at d0 d1 d2 d3 d4; have q1 : ((at' : Nat) : Int) / 4 = ((at' / 4 : Nat) : Int) := by omega
 have q2 : ((at' : Nat) : Int) % 4 = ((at' % 4 : Nat) : Int) := by omega
 generalize at' / 4 = i at *; generalize at' % 4 = j at *; clear hP hc hc' hrg hr1 hbk hpl; go_wp2_with (go_at_call 53; refine (l1In_c _ _ _ _).mono ?_; rw [hin]; rintro e w' ⟨rfl, rfl⟩)
 have K6 := Blk.new w1 88 #[.bool f, .int .i64 x, .int .i64 y, .int .i64 z, .int .i64 s]; have K4 := K1.alloc (.cells #[.bool f, .int .i64 x, .int .i64 y, .int .i64 z, .int .i64 s] 88); have B6 := hid (B1.out.alloc B1.out.size (.cells #[.bool f, .int .i64 x, .int .i64 y, .int .i64 z, .int .i64 s] 88)); have hne : g0 ≠ w1.heap.size := by omega
 generalize w1.alloc (.cells #[.bool f, .int .i64 x, .int .i64 y, .int .i64 z, .int .i64 s] 88) = wx at *; generalize w1.heap.size = g6 at *; have e0 := K6.cell 0; have e1 := K6.cell 1; have e2 := K6.cell 2; have e3 := K6.cell 3; have e4 := K6.cell 4; have t0 := K4.cell 0; have t1 := K4.cell 1; have t2 := K4.cell 2; have t3 := K4.cell 3; have t4 := K4.cell 4; have z0 := K4.frozen 0; have z1 := K4.frozen 1; have z2 := K4.frozen 2; have z3 := K4.frozen 3; have z4 := K4.frozen 4; simp at e0 e1 e2 e3 e4 t0 t1 t2 t3 t4; have S0 := K4.set_ 0 (.bool f); have S1 := S0.set_ 1 (.int .i64 x); have S2 := S1.set_ 2 (.int .i64 y); have S3 := S2.set_ 3 (.int .i64 z); have S4 := S3.set_ 4 (.int .i64 s); have hge : w.heap.size ≤ g0 := by rw [HG0.out]; exact Nat.le_refl _
 have KS := hid (show Blk _ g0 88 #[.bool f, .int .i64 x, .int .i64 y, .int .i64 z, .int .i64 s] from (by simpa using S4 : Blk (((((wx.setCell ⟨g0, 0, none⟩ (.bool f)).setCell ⟨g0, 1, none⟩ (.int .i64 x)).setCell ⟨g0, 2, none⟩ (.int .i64 y)).setCell ⟨g0, 3, none⟩ (.int .i64 z)).setCell ⟨g0, 4, none⟩ (.int .i64 s)) g0 88 #[.bool f, .int .i64 x, .int .i64 y, .int .i64 z, .int .i64 s]).drew); have BS := hid ((((((B6.out.setCell (p := ⟨g0, 0, none⟩) hge (.bool f)).setCell (p := ⟨g0, 1, none⟩) hge (.int .i64 x)).setCell (p := ⟨g0, 2, none⟩) hge (.int .i64 y)).setCell (p := ⟨g0, 3, none⟩) hge (.int .i64 z)).setCell (p := ⟨g0, 4, none⟩) hge (.int .i64 s)).drew); clear S0 S1 S2 S3 S4; clear K6 K4 K1 d0 d1 d2 d3 d4 c0 c1; go_region
 all_goals
  generalize (((((wx.setCell ⟨g0, 0, none⟩ (.bool f)).setCell ⟨g0, 1, none⟩ (.int .i64 x)).setCell ⟨g0, 2, none⟩ (.int .i64 y)).setCell ⟨g0, 3, none⟩ (.int .i64 z)).setCell ⟨g0, 4, none⟩ (.int .i64 s)).drew = ww at *; have e0 := KS.out.cell 0; have e1 := KS.out.cell 1; have e2 := KS.out.cell 2; have e3 := KS.out.cell 3; have e4 := KS.out.cell 4; simp at e0 e1 e2 e3 e4; go_wp2; refine bodyPost_ret (by simp [results, Tryz.results54, go_sem, e0, e1, e2, e3, e4]; try rfl) rfl ?_; exact ⟨by rw [HP.out]; rfl, BS.out⟩
set_option maxHeartbeats 2000000 in
theorem readPage_i {A : Option Addr} {n c B at' : Nat} {bs : List BlockV} {w : World} (hr : RdB w B A n bs) (hB : B ≤ w.heap.size) (hn : n ≤ 1048576) (hok : DevOk bs) (hat : at' < 4 * n) :
 Calls Tryz.prog 84 #[.slice A n c, .int .i64 (at' : Nat)] w fun e w' => e = .returned (.tuple #[pgv (pageN bs at'), .bool (pageN bs at').full]) ∧ Below w.heap.size w w' := by
 have HL := hid hr.len; have hn12 : n ≤ 12 := by have := hok.1.2; have := HL.out; omega
 have hbt := bof_t.2 hok; have hlt4 : ¬ (4 * (n : Int) ≤ (at' : Int)) := by omega
 have hlt5 : ¬ ((n : Int) * 4 ≤ (at' : Int)) := by omega
 have v1 : IntKind.i64.wrap (4 * (n : Int)) = 4 * (n : Int) := IntWalk.i64_in _ (by omega); have v2 : IntKind.i64.wrap (4 * (n : Int) - 1) = 4 * (n : Int) - 1 := IntWalk.i64_in _ (by omega); have b0 : Below w.heap.size w (w.alloc (.cells #[.bool false, .int .i64 0, .int .i64 0, .int .i64 0, .int .i64 0] 88)) := (Below.refl _ _).alloc (Nat.le_refl _) _; have s0 : w.heap.size < (w.alloc (.cells #[.bool false, .int .i64 0, .int .i64 0, .int .i64 0, .int .i64 0] 88)).heap.size := by simp
 have hr0 := (hr.mono hB).below b0; have B0 := hid b0; have K0 := hid (Blk.new w 88 #[.bool false, .int .i64 0, .int .i64 0, .int .i64 0, .int .i64 0]); clear hr b0; go_enter Tryz.func84, Tryz.ntmps84
 go_wp2_with fail; generalize w.alloc (.cells #[.bool false, .int .i64 0, .int .i64 0, .int .i64 0, .int .i64 0] 88) = w0 at *
 refine (deviceValid_impl hr0 (by omega) hn).mono ?_; rw [hbt]; rintro e w1 ⟨rfl, hb1⟩; have hr1 := hr0.below (hb1.mono (by omega)); have K1 := K0.out.below hb1 s0; have B1 := hid (B0.out.trans (hb1.mono (by omega))); have hs1 := hb1.size; generalize hg0 : w.heap.size = g0 at K1 hr1 s0 ⊢; have HG0 := hid hg0; clear hr0 hb1 hbt hg0; obtain ⟨b, off, rfl, hbB, hc⟩ := hr1.at_ (by omega); have hi : at' / 4 < n := by omega
 obtain ⟨A', n', c', c0, c1, hnc, hcm, hrg⟩ := hc (at' / 4) hi; have hbk := hok.2 (at' / 4) (by rw [HL.out]; exact hi); have hpl := hbk.2.1; have hn4 : n' = 4 := by rw [← hrg.len, hpl]
 subst hn4; obtain ⟨b', off', rfl, hbB', hc'⟩ := hrg.at_ (by omega); have hj : at' % 4 < 4 := by omega
 obtain ⟨d0, d1, d2, d3, d4⟩ := hc' (at' % 4) hj; have HP := hid (show pageN bs at' = (bs.getD (at' / 4) noBlock).pages.getD (at' % 4) noPage from rfl); obtain ⟨P, hP⟩ : ∃ P, (bs.getD (at' / 4) noBlock).pages.getD (at' % 4) noPage = P := ⟨_, rfl⟩; rw [hP] at d0 d1 d2 d3 d4 HP; obtain ⟨f, x, y, z, s⟩ := P; simp only at d0 d1 d2 d3 d4; have q1 : ((at' : Nat) : Int) / 4 = ((at' / 4 : Nat) : Int) := by omega
 have q2 : ((at' : Nat) : Int) % 4 = ((at' % 4 : Nat) : Int) := by omega
 generalize at' / 4 = i at *; generalize at' % 4 = j at *; clear hP hc hc' hrg hr1 hbk hpl; go_wp2; have K6 := Blk.new w1 88 #[.bool f, .int .i64 x, .int .i64 y, .int .i64 z, .int .i64 s]; have K4 := K1.alloc (.cells #[.bool f, .int .i64 x, .int .i64 y, .int .i64 z, .int .i64 s] 88); have B6 := hid (B1.out.alloc B1.out.size (.cells #[.bool f, .int .i64 x, .int .i64 y, .int .i64 z, .int .i64 s] 88)); have hne : g0 ≠ w1.heap.size := by omega
 generalize w1.alloc (.cells #[.bool f, .int .i64 x, .int .i64 y, .int .i64 z, .int .i64 s] 88) = wx at *; generalize w1.heap.size = g6 at *; have e0 := K6.cell 0; have e1 := K6.cell 1; have e2 := K6.cell 2; have e3 := K6.cell 3; have e4 := K6.cell 4; have t0 := K4.cell 0; have t1 := K4.cell 1; have t2 := K4.cell 2; have t3 := K4.cell 3; have t4 := K4.cell 4; have z0 := K4.frozen 0; have z1 := K4.frozen 1; have z2 := K4.frozen 2; have z3 := K4.frozen 3; have z4 := K4.frozen 4; simp at e0 e1 e2 e3 e4 t0 t1 t2 t3 t4; have S0 := K4.set_ 0 (.bool f); have S1 := S0.set_ 1 (.int .i64 x); have S2 := S1.set_ 2 (.int .i64 y); have S3 := S2.set_ 3 (.int .i64 z); have S4 := S3.set_ 4 (.int .i64 s); have hge : w.heap.size ≤ g0 := by rw [HG0.out]; exact Nat.le_refl _
 have KS := hid (show Blk _ g0 88 #[.bool f, .int .i64 x, .int .i64 y, .int .i64 z, .int .i64 s] from (by simpa using S4 : Blk (((((wx.setCell ⟨g0, 0, none⟩ (.bool f)).setCell ⟨g0, 1, none⟩ (.int .i64 x)).setCell ⟨g0, 2, none⟩ (.int .i64 y)).setCell ⟨g0, 3, none⟩ (.int .i64 z)).setCell ⟨g0, 4, none⟩ (.int .i64 s)) g0 88 #[.bool f, .int .i64 x, .int .i64 y, .int .i64 z, .int .i64 s]).drew); have BS := hid ((((((B6.out.setCell (p := ⟨g0, 0, none⟩) hge (.bool f)).setCell (p := ⟨g0, 1, none⟩) hge (.int .i64 x)).setCell (p := ⟨g0, 2, none⟩) hge (.int .i64 y)).setCell (p := ⟨g0, 3, none⟩) hge (.int .i64 z)).setCell (p := ⟨g0, 4, none⟩) hge (.int .i64 s)).drew); clear S0 S1 S2 S3 S4; clear K6 K4 K1 d0 d1 d2 d3 d4 c0 c1; go_region
 all_goals
  generalize (((((wx.setCell ⟨g0, 0, none⟩ (.bool f)).setCell ⟨g0, 1, none⟩ (.int .i64 x)).setCell ⟨g0, 2, none⟩ (.int .i64 y)).setCell ⟨g0, 3, none⟩ (.int .i64 z)).setCell ⟨g0, 4, none⟩ (.int .i64 s)).drew = ww at *; have e0 := KS.out.cell 0; have e1 := KS.out.cell 1; have e2 := KS.out.cell 2; have e3 := KS.out.cell 3; have e4 := KS.out.cell 4; simp at e0 e1 e2 e3 e4; go_wp2; refine bodyPost_ret (by simp [results, Tryz.results84, go_sem, e0, e1, e2, e3, e4]; try rfl) rfl ?_; exact ⟨by rw [HP.out]; rfl, BS.out⟩
noncomputable def pgAt (bs : List BlockV) (v : Int) : PageV := if 0 ≤ v ∧ v < 4 * (bs.length : Int) then pageN bs v.toNat else noPage
theorem pgAt_in {bs : List BlockV} {k : Nat} (h : k < 4 * bs.length) : pgAt bs k = pageN bs k := by unfold pgAt; rw [if_pos ⟨by omega, by omega⟩]; rfl
theorem pgAt_out {bs : List BlockV} {v : Int} (h : ¬ (0 ≤ v ∧ v < 4 * (bs.length : Int))) : pgAt bs v = noPage := by unfold pgAt; rw [if_neg h]
theorem readPage_sX {A : Option Addr} {n c B : Nat} {at' : Int} {bs : List BlockV} {w : World} (hr : RdB w B A n bs) (hB : B ≤ w.heap.size) (hn : n ≤ 1048576) (hok : DevOk bs) :
 Calls Tryz.prog 54 #[.slice A n c, .int .i64 at'] w fun e w' => e = .returned (.tuple #[pgv (pgAt bs at'), .bool (pgAt bs at').full]) ∧ Below w.heap.size w w' := by
 have hl := hr.len; by_cases hin : 0 ≤ at' ∧ at' < 4 * (n : Int)
 · obtain ⟨k, rfl⟩ := Int.eq_ofNat_of_zero_le hin.1; have hk : k < 4 * n := by omega
   have hp : pgAt bs (k : Int) = pageN bs k := pgAt_in (by omega); rw [hp]; exact readPage_c hr hB hn hok hk
 · have hp : pgAt bs at' = noPage := pgAt_out (by rw [hl]; exact hin); rw [hp]; have hn12 : n ≤ 12 := by have := hok.1.2; omega
   have hbt := bof_t.2 hok; have b0 : Below w.heap.size w (w.alloc (.cells #[.bool false, .int .i64 0, .int .i64 0, .int .i64 0, .int .i64 0] 88)) := (Below.refl _ _).alloc (Nat.le_refl _) _; have k0 := Blk.new w 88 #[.bool false, .int .i64 0, .int .i64 0, .int .i64 0, .int .i64 0]; have s0 := k0.lt; have hr0 := (hr.mono hB).below b0; clear hr hp hl; go_enter Tryz.func54, Tryz.ntmps54
   go_wp2_with fail; generalize w.alloc (.cells #[.bool false, .int .i64 0, .int .i64 0, .int .i64 0, .int .i64 0] 88) = w0 at *
   refine (deviceValid_spec hr0 b0.size hn).mono ?_; rw [hbt]; rintro e w1 ⟨rfl, hb1⟩; have k1 := k0.below hb1 s0; have B1 := hid (b0.trans (hb1.mono b0.size)); obtain ⟨t0, t1, t2, t3, t4⟩ : w1.cell? ⟨w.heap.size, 0, none⟩ = some (.bool false) ∧ w1.cell? ⟨w.heap.size, 1, none⟩ = some (.int .i64 0) ∧ w1.cell? ⟨w.heap.size, 2, none⟩ = some (.int .i64 0) ∧ w1.cell? ⟨w.heap.size, 3, none⟩ = some (.int .i64 0) ∧ w1.cell? ⟨w.heap.size, 4, none⟩ = some (.int .i64 0) := ⟨k1.cell 0, k1.cell 1, k1.cell 2, k1.cell 3, k1.cell 4⟩; have z0 := k1.frozen 0; have z1 := k1.frozen 1; have z2 := k1.frozen 2; have z3 := k1.frozen 3; have z4 := k1.frozen 4; have S4 := ((((k1.set_ 0 (.bool false)).set_ 1 (.int .i64 0)).set_ 2 (.int .i64 0)).set_ 3 (.int .i64 0)).set_ 4 (.int .i64 0); have KS := hid (show Blk (((((w1.setCell ⟨w.heap.size, 0, none⟩ (.bool false)).setCell ⟨w.heap.size, 1, none⟩ (.int .i64 0)).setCell ⟨w.heap.size, 2, none⟩ (.int .i64 0)).setCell ⟨w.heap.size, 3, none⟩ (.int .i64 0)).setCell ⟨w.heap.size, 4, none⟩ (.int .i64 0)) w.heap.size 88 #[.bool false, .int .i64 0, .int .i64 0, .int .i64 0, .int .i64 0] from by simpa using S4); have BS := hid (((((B1.out.setCell (p := ⟨w.heap.size, 0, none⟩) (Nat.le_refl _) (.bool false)).setCell (p := ⟨w.heap.size, 1, none⟩) (Nat.le_refl _) (.int .i64 0)).setCell (p := ⟨w.heap.size, 2, none⟩) (Nat.le_refl _) (.int .i64 0)).setCell (p := ⟨w.heap.size, 3, none⟩) (Nat.le_refl _) (.int .i64 0)).setCell (p := ⟨w.heap.size, 4, none⟩) (Nat.le_refl _) (.int .i64 0))
   clear k1 k0 b0 hb1 hr0 S4; have hin2 : inB at' 0 (4 * (n : Int) - 1) = false := by rw [inB_f]; omega
   have v1 : IntKind.i64.wrap (4 * (n : Int)) = 4 * (n : Int) := IntWalk.i64_in _ (by omega); have v2 : IntKind.i64.wrap (4 * (n : Int) - 1) = 4 * (n : Int) - 1 := IntWalk.i64_in _ (by omega); go_wp2_with (go_at_call 53; refine (l1In_c _ _ _ _).mono ?_; rw [hin2]; rintro e w' ⟨rfl, rfl⟩)
   generalize ((((w1.setCell ⟨w.heap.size, 0, none⟩ (.bool false)).setCell ⟨w.heap.size, 1, none⟩ (.int .i64 0)).setCell ⟨w.heap.size, 2, none⟩ (.int .i64 0)).setCell ⟨w.heap.size, 3, none⟩ (.int .i64 0)).setCell ⟨w.heap.size, 4, none⟩ (.int .i64 0) = ww at *; obtain ⟨p0, p1, p2, p3, p4⟩ : ww.cell? ⟨w.heap.size, 0, none⟩ = some (.bool false) ∧ ww.cell? ⟨w.heap.size, 1, none⟩ = some (.int .i64 0) ∧ ww.cell? ⟨w.heap.size, 2, none⟩ = some (.int .i64 0) ∧ ww.cell? ⟨w.heap.size, 3, none⟩ = some (.int .i64 0) ∧ ww.cell? ⟨w.heap.size, 4, none⟩ = some (.int .i64 0) := ⟨KS.out.cell 0, KS.out.cell 1, KS.out.cell 2, KS.out.cell 3, KS.out.cell 4⟩; refine bodyPost_ret (by simp [results, Tryz.results54, go_sem, p0, p1, p2, p3, p4]; try rfl) rfl ?_; exact ⟨rfl, BS.out⟩
theorem readPage_iX {A : Option Addr} {n c B : Nat} {at' : Int} {bs : List BlockV} {w : World} (hr : RdB w B A n bs) (hB : B ≤ w.heap.size) (hn : n ≤ 1048576) (hok : DevOk bs) :
 Calls Tryz.prog 84 #[.slice A n c, .int .i64 at'] w fun e w' => e = .returned (.tuple #[pgv (pgAt bs at'), .bool (pgAt bs at').full]) ∧ Below w.heap.size w w' := by
 have hl := hr.len; by_cases hin : 0 ≤ at' ∧ at' < 4 * (n : Int)
 · obtain ⟨k, rfl⟩ := Int.eq_ofNat_of_zero_le hin.1; have hk : k < 4 * n := by omega
   have hp : pgAt bs (k : Int) = pageN bs k := pgAt_in (by omega); rw [hp]; exact readPage_i hr hB hn hok hk
 · have hp : pgAt bs at' = noPage := pgAt_out (by rw [hl]; exact hin); rw [hp]; have hn12 : n ≤ 12 := by have := hok.1.2; omega
   have hbt := bof_t.2 hok; have b0 : Below w.heap.size w (w.alloc (.cells #[.bool false, .int .i64 0, .int .i64 0, .int .i64 0, .int .i64 0] 88)) := (Below.refl _ _).alloc (Nat.le_refl _) _; have k0 := Blk.new w 88 #[.bool false, .int .i64 0, .int .i64 0, .int .i64 0, .int .i64 0]; have s0 := k0.lt; have hr0 := (hr.mono hB).below b0; clear hr hp hl; go_enter Tryz.func84, Tryz.ntmps84
   go_wp2_with fail; generalize w.alloc (.cells #[.bool false, .int .i64 0, .int .i64 0, .int .i64 0, .int .i64 0] 88) = w0 at *
   refine (deviceValid_impl hr0 b0.size hn).mono ?_; rw [hbt]; rintro e w1 ⟨rfl, hb1⟩; have k1 := k0.below hb1 s0; have B1 := hid (b0.trans (hb1.mono b0.size)); obtain ⟨t0, t1, t2, t3, t4⟩ : w1.cell? ⟨w.heap.size, 0, none⟩ = some (.bool false) ∧ w1.cell? ⟨w.heap.size, 1, none⟩ = some (.int .i64 0) ∧ w1.cell? ⟨w.heap.size, 2, none⟩ = some (.int .i64 0) ∧ w1.cell? ⟨w.heap.size, 3, none⟩ = some (.int .i64 0) ∧ w1.cell? ⟨w.heap.size, 4, none⟩ = some (.int .i64 0) := ⟨k1.cell 0, k1.cell 1, k1.cell 2, k1.cell 3, k1.cell 4⟩; have z0 := k1.frozen 0; have z1 := k1.frozen 1; have z2 := k1.frozen 2; have z3 := k1.frozen 3; have z4 := k1.frozen 4; have S4 := ((((k1.set_ 0 (.bool false)).set_ 1 (.int .i64 0)).set_ 2 (.int .i64 0)).set_ 3 (.int .i64 0)).set_ 4 (.int .i64 0); have KS := hid (show Blk (((((w1.setCell ⟨w.heap.size, 0, none⟩ (.bool false)).setCell ⟨w.heap.size, 1, none⟩ (.int .i64 0)).setCell ⟨w.heap.size, 2, none⟩ (.int .i64 0)).setCell ⟨w.heap.size, 3, none⟩ (.int .i64 0)).setCell ⟨w.heap.size, 4, none⟩ (.int .i64 0)) w.heap.size 88 #[.bool false, .int .i64 0, .int .i64 0, .int .i64 0, .int .i64 0] from by simpa using S4); have BS := hid (((((B1.out.setCell (p := ⟨w.heap.size, 0, none⟩) (Nat.le_refl _) (.bool false)).setCell (p := ⟨w.heap.size, 1, none⟩) (Nat.le_refl _) (.int .i64 0)).setCell (p := ⟨w.heap.size, 2, none⟩) (Nat.le_refl _) (.int .i64 0)).setCell (p := ⟨w.heap.size, 3, none⟩) (Nat.le_refl _) (.int .i64 0)).setCell (p := ⟨w.heap.size, 4, none⟩) (Nat.le_refl _) (.int .i64 0))
   clear k1 k0 b0 hb1 hr0 S4; by_cases hneg : at' < 0
   · go_wp2; generalize ((((w1.setCell ⟨w.heap.size, 0, none⟩ (.bool false)).setCell ⟨w.heap.size, 1, none⟩ (.int .i64 0)).setCell ⟨w.heap.size, 2, none⟩ (.int .i64 0)).setCell ⟨w.heap.size, 3, none⟩ (.int .i64 0)).setCell ⟨w.heap.size, 4, none⟩ (.int .i64 0) = ww at *
     obtain ⟨p0, p1, p2, p3, p4⟩ : ww.cell? ⟨w.heap.size, 0, none⟩ = some (.bool false) ∧ ww.cell? ⟨w.heap.size, 1, none⟩ = some (.int .i64 0) ∧ ww.cell? ⟨w.heap.size, 2, none⟩ = some (.int .i64 0) ∧ ww.cell? ⟨w.heap.size, 3, none⟩ = some (.int .i64 0) ∧ ww.cell? ⟨w.heap.size, 4, none⟩ = some (.int .i64 0) := ⟨KS.out.cell 0, KS.out.cell 1, KS.out.cell 2, KS.out.cell 3, KS.out.cell 4⟩; refine bodyPost_ret (by simp [results, Tryz.results84, go_sem, p0, p1, p2, p3, p4]; try rfl) rfl ?_; exact ⟨rfl, BS.out⟩
   · have hge : (n : Int) * 4 ≤ at' := by omega
     go_wp2; generalize ((((w1.setCell ⟨w.heap.size, 0, none⟩ (.bool false)).setCell ⟨w.heap.size, 1, none⟩ (.int .i64 0)).setCell ⟨w.heap.size, 2, none⟩ (.int .i64 0)).setCell ⟨w.heap.size, 3, none⟩ (.int .i64 0)).setCell ⟨w.heap.size, 4, none⟩ (.int .i64 0) = ww at *
     obtain ⟨p0, p1, p2, p3, p4⟩ : ww.cell? ⟨w.heap.size, 0, none⟩ = some (.bool false) ∧ ww.cell? ⟨w.heap.size, 1, none⟩ = some (.int .i64 0) ∧ ww.cell? ⟨w.heap.size, 2, none⟩ = some (.int .i64 0) ∧ ww.cell? ⟨w.heap.size, 3, none⟩ = some (.int .i64 0) ∧ ww.cell? ⟨w.heap.size, 4, none⟩ = some (.int .i64 0) := ⟨KS.out.cell 0, KS.out.cell 1, KS.out.cell 2, KS.out.cell 3, KS.out.cell 4⟩; refine bodyPost_ret (by simp [results, Tryz.results84, go_sem, p0, p1, p2, p3, p4]; try rfl) rfl ?_; exact ⟨rfl, BS.out⟩
end Go.Proofs.YtefdjahaimnndaaGreatDoor
