/- TableValid, the program's and the reference's. Condition: lengths of at most 2^20. -/
import Derived.Test.YtjnpgdhpneifjaaG6
import Derived.Test.YtjnpgdhpneifjaaG1
namespace Go.Proofs.Ytjnpgdhpneifjaa
open Go.ChangeShapes Go.WideShapes Go.ChangeAt Go.RowKit Go.Deep
set_option linter.unusedVariables false
set_option linter.unusedSimpArgs false

/-- the entry of file f, place k -/
def tE (ts : List (List Int)) (f k : Nat) : Int := (ts.getD f []).getD k 0
/-- (a, b) comes before (f, k) -/
def Bef (a b f k : Nat) : Prop := a < f ∨ (a = f ∧ b < k)
/-- what a table wants of one entry -/
def EntOk (ts : List (List Int)) (a b : Nat) : Prop := (-1 ≤ tE ts a b ∧ tE ts a b ≤ 47) ∧ ∀ a' b', b' < (ts.getD a' []).length → Bef a' b' a b → 0 ≤ tE ts a b → tE ts a' b' ≠ tE ts a b
/-- the entries before (f, k) are right -/
def PreT (ts : List (List Int)) (f k : Nat) : Prop := ∀ a b, b < (ts.getD a []).length → Bef a b f k → EntOk ts a b
theorem PreT.zero (ts : List (List Int)) : PreT ts 0 0 := fun a b _ h => by rcases h with h | ⟨_, h⟩ <;> exact absurd h (Nat.not_lt_zero _)
theorem PreT.step {ts : List (List Int)} {f k : Nat} (h : PreT ts f k) (h1 : EntOk ts f k) : PreT ts f (k + 1) := by
  intro a b hb hbef
  by_cases e : a = f ∧ b = k
  · obtain ⟨rfl, rfl⟩ := e; exact h1
  · exact h a b hb (by rcases hbef with h2 | ⟨h2, h3⟩
                       · exact .inl h2
                       · exact .inr ⟨h2, by omega⟩)
theorem PreT.row {ts : List (List Int)} {f : Nat} (h : PreT ts f (ts.getD f []).length) : PreT ts (f + 1) 0 := by
  intro a b hb hbef
  refine h a b hb ?_
  rcases hbef with h2 | ⟨_, h3⟩
  · by_cases e : a = f
    · subst e; exact .inr ⟨rfl, hb⟩
    · exact .inl (by omega)
  · exact absurd h3 (Nat.not_lt_zero _)
def RowsOk (ts : List (List Int)) (f : Nat) : Prop := ∀ a, a < f → (ts.getD a []).length = 6
def TableOk (ts : List (List Int)) : Prop := ts.length = 8 ∧ RowsOk ts 8 ∧ PreT ts 8 0
/-- seen before (f, k) -/
def SeenT (ts : List (List Int)) (f k v : Nat) : Prop := ∃ a b, b < (ts.getD a []).length ∧ Bef a b f k ∧ tE ts a b = (v : Int)
theorem SeenT.zero (ts : List (List Int)) (v : Nat) : ¬ SeenT ts 0 0 v := by
  rintro ⟨a, b, _, h | ⟨_, h⟩, _⟩ <;> exact absurd h (Nat.not_lt_zero _)
theorem SeenT.step {ts : List (List Int)} {f k : Nat} (hk : k < (ts.getD f []).length) (v : Nat) : SeenT ts f (k + 1) v ↔ SeenT ts f k v ∨ tE ts f k = (v : Int) := by
  constructor
  · rintro ⟨a, b, hb, hbef, he⟩
    by_cases e : a = f ∧ b = k
    · obtain ⟨rfl, rfl⟩ := e; exact .inr he
    · exact .inl ⟨a, b, hb, by rcases hbef with h2 | ⟨h2, h3⟩
                               · exact .inl h2
                               · exact .inr ⟨h2, by omega⟩, he⟩
  · rintro (⟨a, b, hb, hbef, he⟩ | he)
    · exact ⟨a, b, hb, by rcases hbef with h2 | ⟨h2, h3⟩
                          · exact .inl h2
                          · exact .inr ⟨h2, by omega⟩, he⟩
    · exact ⟨f, k, hk, .inr ⟨rfl, by omega⟩, he⟩
theorem SeenT.row {ts : List (List Int)} {f : Nat} (v : Nat) : SeenT ts f (ts.getD f []).length v ↔ SeenT ts (f + 1) 0 v := by
  constructor
  · rintro ⟨a, b, hb, hbef, he⟩
    exact ⟨a, b, hb, .inl (by rcases hbef with h2 | ⟨h2, _⟩ <;> omega), he⟩
  · rintro ⟨a, b, hb, hbef, he⟩
    refine ⟨a, b, hb, ?_, he⟩
    rcases hbef with h2 | ⟨_, h3⟩
    · by_cases e : a = f
      · subst e; exact .inr ⟨rfl, hb⟩
      · exact .inl (by omega)
    · exact absurd h3 (Nat.not_lt_zero _)
theorem entOk_of {ts : List (List Int)} {f k : Nat} (h1 : -1 ≤ tE ts f k) (h2 : tE ts f k ≤ 47) (h3 : 0 ≤ tE ts f k → ¬ SeenT ts f k (tE ts f k).toNat) : EntOk ts f k :=
  ⟨⟨h1, h2⟩, fun a' b' hb hbef h0 e => h3 h0 ⟨a', b', hb, hbef, by omega⟩⟩
theorem entOk_seen {ts : List (List Int)} {f k : Nat} (h : EntOk ts f k) (h0 : 0 ≤ tE ts f k) : ¬ SeenT ts f k (tE ts f k).toNat := by
  rintro ⟨a, b, hb, hbef, he⟩
  exact h.2 a b hb hbef h0 (by omega)
/-- 48 cells that say what was seen -/
def SeenIs (cs : Array Value) (S : Nat → Prop) : Prop := cs.size = 48 ∧ ∀ v, v < 48 → cs[v]? = some (.bool (bof (S v)))
theorem SeenIs.congr {cs : Array Value} {S S' : Nat → Prop} (h : SeenIs cs S) (he : ∀ v, v < 48 → (S v ↔ S' v)) : SeenIs cs S' :=
  ⟨h.1, fun v hv => by rw [h.2 v hv, show bof (S v) = bof (S' v) by rw [Bool.eq_iff_iff, bof_t, bof_t]; exact he v hv]⟩
theorem SeenIs.set {cs : Array Value} {S : Nat → Prop} (h : SeenIs cs S) {u : Nat} (hu : u < 48) : SeenIs (cs.setIfInBounds u (.bool true)) (fun v => S v ∨ v = u) := by
  refine ⟨by simp [h.1], fun v hv => ?_⟩
  by_cases e : u = v
  · subst e
    rw [Array.getElem?_setIfInBounds_self_of_lt (by rw [h.1]; exact hu), bof_t.2 (Or.inr rfl)]
  · rw [Array.getElem?_setIfInBounds_ne e, h.2 v hv, show bof (S v) = bof (S v ∨ v = u) by rw [Bool.eq_iff_iff, bof_t, bof_t]; exact ⟨Or.inl, fun h => h.resolve_right (fun e' => e e'.symm)⟩]
theorem SeenIs.zero (S : Nat → Prop) (hS : ∀ v, ¬ S v) : SeenIs (madeCells #[.bool false] 48) S := by
  refine ⟨by simp [madeCells], fun v hv => ?_⟩
  have hl := toList_madeCells_one (.bool false) 48
  have : (madeCells #[Value.bool false] 48)[v]? = (madeCells #[Value.bool false] 48).toList[v]? := by rw [Array.getElem?_toList]
  rw [this, hl, List.getElem?_replicate, if_pos hv, bof_f.2 (hS v)]
theorem falses48 : madeCells #[Value.bool false] 48 = #[Value.bool false, .bool false, .bool false, .bool false, .bool false, .bool false, .bool false, .bool false, .bool false, .bool false, .bool false, .bool false, .bool false, .bool false, .bool false, .bool false, .bool false, .bool false, .bool false, .bool false, .bool false, .bool false, .bool false, .bool false, .bool false, .bool false, .bool false, .bool false, .bool false, .bool false, .bool false, .bool false, .bool false, .bool false, .bool false, .bool false, .bool false, .bool false, .bool false, .bool false, .bool false, .bool false, .bool false, .bool false, .bool false, .bool false, .bool false, .bool false] := by kernel_rfl
theorem pageNumber_c (v : Int) (w : World) : Calls Try.prog 94 #[.int .i64 v] w fun e w' => e = .returned (.bool (inB v (-1) 47)) ∧ w = w' := by
  by_cases h : -1 ≤ v
  · by_cases h2 : v < 48
    · have hb : inB v (-1) 47 = true := by rw [inB_t]; omega
      go_enter Try.func94, Try.ntmps94
      go_wp2
      go_ret
      exact ⟨ret_bool (by first | exact hb.symm | rfl), rfl⟩
    · have hb : inB v (-1) 47 = false := by rw [inB_f]; omega
      go_enter Try.func94, Try.ntmps94
      go_wp2
      go_ret
      exact ⟨ret_bool (by first | exact hb.symm | rfl), rfl⟩
  · have hb : inB v (-1) 47 = false := by rw [inB_f]; omega
    go_enter Try.func94, Try.ntmps94
    go_wp2
    go_ret
    exact ⟨ret_bool (by first | exact hb.symm | rfl), rfl⟩
theorem tableValid_impl {A : Option Addr} {n c B : Nat} {ts : List (List Int)} {w : World} (hr : RdT w B A n ts) (hB : B ≤ w.heap.size) (hn : n ≤ 1048576) :
    Calls Try.prog 59 #[.agg #[.slice A n c]] w fun e w' => e = .returned (.bool (bof (TableOk ts))) ∧ Below w.heap.size w w' := by
  have HL := Lib.hid hr.len
  have b1 : Below w.heap.size w (w.alloc (.cells #[.slice A n c] 37)) := (Below.refl _ _).alloc (Nat.le_refl _) _
  by_cases h8 : n = 8
  · subst h8
    have k1 := Blk.new w 37 #[.slice A 8 c]
    have t0 := k1.cell 0
    simp at t0
    have hr1 := (hr.mono hB).below b1
    have B1 := Lib.hid b1
    have hsz := b1.size
    clear k1 hr b1
    go_enter Try.func59, Try.ntmps59
    go_wp2
    have e1 : (w.alloc (.cells #[.slice A 8 c] 37)).heap.size = w.heap.size + 1 := by simp
    have ks := Blk.new (w.alloc (.cells #[.slice A 8 c] 37)) 120 #[.bool false, .bool false, .bool false, .bool false, .bool false, .bool false, .bool false, .bool false, .bool false, .bool false, .bool false, .bool false, .bool false, .bool false, .bool false, .bool false, .bool false, .bool false, .bool false, .bool false, .bool false, .bool false, .bool false, .bool false, .bool false, .bool false, .bool false, .bool false, .bool false, .bool false, .bool false, .bool false, .bool false, .bool false, .bool false, .bool false, .bool false, .bool false, .bool false, .bool false, .bool false, .bool false, .bool false, .bool false, .bool false, .bool false, .bool false, .bool false]
    rw [e1] at ks
    have bs := (B1.out).alloc hsz (.cells #[.bool false, .bool false, .bool false, .bool false, .bool false, .bool false, .bool false, .bool false, .bool false, .bool false, .bool false, .bool false, .bool false, .bool false, .bool false, .bool false, .bool false, .bool false, .bool false, .bool false, .bool false, .bool false, .bool false, .bool false, .bool false, .bool false, .bool false, .bool false, .bool false, .bool false, .bool false, .bool false, .bool false, .bool false, .bool false, .bool false, .bool false, .bool false, .bool false, .bool false, .bool false, .bool false, .bool false, .bool false, .bool false, .bool false, .bool false, .bool false] 120)
    have hrs := hr1.below ((Below.refl _ _).alloc hsz (.cells #[.bool false, .bool false, .bool false, .bool false, .bool false, .bool false, .bool false, .bool false, .bool false, .bool false, .bool false, .bool false, .bool false, .bool false, .bool false, .bool false, .bool false, .bool false, .bool false, .bool false, .bool false, .bool false, .bool false, .bool false, .bool false, .bool false, .bool false, .bool false, .bool false, .bool false, .bool false, .bool false, .bool false, .bool false, .bool false, .bool false, .bool false, .bool false, .bool false, .bool false, .bool false, .bool false, .bool false, .bool false, .bool false, .bool false, .bool false, .bool false] 120))
    have KS := Lib.hid ks
    have BS := Lib.hid bs
    have lw : w.heap.size + 1 < ((w.alloc (.cells #[.slice A 8 c] 37)).alloc (.cells #[.bool false, .bool false, .bool false, .bool false, .bool false, .bool false, .bool false, .bool false, .bool false, .bool false, .bool false, .bool false, .bool false, .bool false, .bool false, .bool false, .bool false, .bool false, .bool false, .bool false, .bool false, .bool false, .bool false, .bool false, .bool false, .bool false, .bool false, .bool false, .bool false, .bool false, .bool false, .bool false, .bool false, .bool false, .bool false, .bool false, .bool false, .bool false, .bool false, .bool false, .bool false, .bool false, .bool false, .bool false, .bool false, .bool false, .bool false, .bool false] 120)).heap.size := by simp
    clear ks bs hr1 e1 B1 hsz
    generalize (w.alloc (.cells #[.slice A 8 c] 37)).alloc (.cells #[.bool false, .bool false, .bool false, .bool false, .bool false, .bool false, .bool false, .bool false, .bool false, .bool false, .bool false, .bool false, .bool false, .bool false, .bool false, .bool false, .bool false, .bool false, .bool false, .bool false, .bool false, .bool false, .bool false, .bool false, .bool false, .bool false, .bool false, .bool false, .bool false, .bool false, .bool false, .bool false, .bool false, .bool false, .bool false, .bool false, .bool false, .bool false, .bool false, .bool false, .bool false, .bool false, .bool false, .bool false, .bool false, .bool false, .bool false, .bool false] 120) = w1 at *
    go_loopw [15] (fun i wr => ∃ (f : Nat) (cs : Array Value), f ≤ 8 ∧ i = .int .i64 f ∧ RowsOk ts f ∧ PreT ts f 0 ∧ SeenIs cs (SeenT ts f 0) ∧ Blk wr (w.heap.size + 1) 120 cs ∧ Below w.heap.size w wr ∧ Below w.heap.size w1 wr) (fun i _ => 8 - (intOf i).toNat)
    case atStart => exact ⟨0, _, Nat.zero_le _, rfl, fun a h => absurd h (Nat.not_lt_zero _), PreT.zero _, by rw [← falses48]; exact SeenIs.zero _ (SeenT.zero ts), KS.out, BS.out, Below.refl _ _⟩
    case round =>
      obtain ⟨f, cs, hf, rfl, hrows, hpre, hseen, hblk, hbel, hb1⟩ := hrel
      have HR := Lib.hid hrows
      have HP := Lib.hid hpre
      have HS := Lib.hid hseen
      have HK := Lib.hid hblk
      have HB := Lib.hid hbel
      have HB1 := Lib.hid hb1
      clear hrows hpre hseen hblk hbel
      by_cases hlt : f < 8
      · obtain ⟨b, off, rfl, hbB, hc⟩ := hrs.at_ (by omega)
        obtain ⟨A', n', c', c1, hnc, hcm, hrg⟩ := hc f hlt
        replace c1 := (hb1.cell (p := ⟨b, off + f, none⟩) (show b < w.heap.size by omega)).trans c1
        by_cases h6 : n' = 6
        · subst h6
          have HRL := Lib.hid (show (ts.getD f []).length = 6 from hrg.len)
          have hd6 : decide ((f : Int) < 8) = true := decide_eq_true (by omega)
          have hrg1 := hrg.below hb1
          clear hc hrs hb1 hrg
          obtain ⟨wo, rfl⟩ : ∃ wo : World, wo = wr := ⟨_, rfl⟩
          go_wp2
          go_loopw [24] (fun i wr => ∃ (j : Nat) (cs : Array Value), j ≤ 6 ∧ i = .int .i64 j ∧ PreT ts f j ∧ SeenIs cs (SeenT ts f j) ∧ Blk wr (w.heap.size + 1) 120 cs ∧ Below w.heap.size wo wr) (fun i _ => 6 - (intOf i).toNat)
          case atStart => exact ⟨0, cs, Nat.zero_le _, rfl, HP.out, HS.out, HK.out, Below.refl _ _⟩
          case round =>
            obtain ⟨j, cs, hj, rfl, hpre, hseen, hblk, hb2⟩ := hrel
            have HP := Lib.hid hpre
            have HS := Lib.hid hseen
            have HK := Lib.hid hblk
            have HB2 := Lib.hid hb2
            clear hpre hseen hblk
            by_cases hl6 : j < 6
            · obtain ⟨b', off', rfl, hbB', hc'⟩ := hrg1.at_ (by omega)
              have d1 := (hb2.cell (p := ⟨b', off' + j, none⟩) (show b' < w.heap.size by omega)).trans (hc' j hl6)
              have HV := Lib.hid (show (ts.getD f []).getD j 0 = tE ts f j from rfl)
              rw [HV.out] at d1
              have hNO := Lib.hid (show ¬ EntOk ts f j → ¬ TableOk ts from fun h hh => h (hh.2.2 f j (by rw [HRL.out]; exact hl6) (.inl (by omega))))
              obtain ⟨v, hv⟩ : ∃ v, tE ts f j = v := ⟨_, rfl⟩
              rw [hv] at d1
              have HV2 := Lib.hid hv
              clear hv hc' hrg1 hb2
              by_cases hin : -1 ≤ v ∧ v ≤ 47
              · have hb : inB v (-1) 47 = true := by rw [inB_t]; exact hin
                by_cases hv0 : 0 ≤ v
                · obtain ⟨u, rfl⟩ := Int.eq_ofNat_of_zero_le hv0
                  have hu : u < 48 := by omega
                  have cu := (HK.out.cell u).trans (HS.out.2 u hu)
                  have zu := HK.out.frozen u
                  by_cases hsn : SeenT ts f j u
                  · have hno := Lib.hid (hNO.out (fun h => entOk_seen h (by rw [HV2.out]; exact hv0) (by rw [HV2.out]; exact hsn)))
                    rw [bof_t.2 hsn] at cu
                    go_wp2_with (go_at_call 94; refine (pageNumber_c _ _).mono ?_; rw [hb]; rintro e w' ⟨rfl, rfl⟩)
                    go_ret
                    exact ⟨ret_bof_f hno.out, HB.out.trans HB2.out⟩
                  · rw [bof_f.2 hsn] at cu
                    have HP2 := Lib.hid (HP.out.step (entOk_of (by rw [HV2.out]; omega) (by rw [HV2.out]; omega) (fun _ => by rw [HV2.out]; exact hsn)))
                    have HS2 := Lib.hid ((HS.out.set hu).congr (S' := SeenT ts f (j + 1)) (fun x hx => by rw [SeenT.step (by rw [HRL.out]; exact hl6), HV2.out]; exact or_congr Iff.rfl ⟨fun e => by rw [e], fun e => by omega⟩))
                    have HK2 := Lib.hid (HK.out.set_ u (.bool true))
                    have HB3 := Lib.hid (HB2.out.setCell (p := ⟨w.heap.size + 1, u, none⟩) (by show w.heap.size ≤ w.heap.size + 1; omega) (.bool true))
                    clear hsn
                    go_wp2_with (go_at_call 94; refine (pageNumber_c _ _).mono ?_; rw [hb]; rintro e w' ⟨rfl, rfl⟩)
                    go_roundw
                    case rel => exact ⟨j + 1, _, by omega, by go_num, HP2.out, HS2.out, HK2.out, HB3.out⟩
                    case measure => simp [intOf]; omega
                · obtain rfl : v = -1 := by omega
                  have HP2 := Lib.hid (HP.out.step (entOk_of (by rw [HV2.out]; omega) (by rw [HV2.out]; omega) (fun h => by rw [HV2.out] at h; omega)))
                  have HS2 := Lib.hid (HS.out.congr (S' := SeenT ts f (j + 1)) (fun x hx => by rw [SeenT.step (by rw [HRL.out]; exact hl6), HV2.out]; exact ⟨Or.inl, fun h => h.resolve_right (by omega)⟩))
                  go_wp2_with (go_at_call 94; refine (pageNumber_c _ _).mono ?_; rw [hb]; rintro e w' ⟨rfl, rfl⟩)
                  go_roundw
                  case rel => exact ⟨j + 1, cs, by omega, by go_num, HP2.out, HS2.out, HK.out, HB2.out⟩
                  case measure => simp [intOf]; omega
              · have hb : inB v (-1) 47 = false := by rw [inB_f]; omega
                have hno := Lib.hid (hNO.out (fun h => hin (by have := h.1; rw [HV2.out] at this; exact this)))
                go_wp2_with (go_at_call 94; refine (pageNumber_c _ _).mono ?_; rw [hb]; rintro e w' ⟨rfl, rfl⟩)
                go_ret
                exact ⟨ret_bof_f hno.out, HB.out.trans HB2.out⟩
            · obtain rfl : j = 6 := by omega
              have hp := HP.out
              have hs := HS.out
              have hrow := HRL.out
              rw [← hrow] at hp hs
              have HP2 := Lib.hid hp.row
              have HS2 := Lib.hid (hs.congr (S' := SeenT ts (f + 1) 0) (fun x _ => SeenT.row x))
              have HR2 := Lib.hid (show RowsOk ts (f + 1) from fun a ha => by
                by_cases e : a = f
                · subst e; exact HRL.out
                · exact HR.out a (by omega))
              clear hp hs hrow
              go_wp2
              go_roundw
              case rel => exact ⟨f + 1, cs, by omega, by go_num, HR2.out, HP2.out, HS2.out, HK.out, HB.out.trans HB2.out, HB1.out.trans HB2.out⟩
              case measure => simp [intOf]; omega
        · have hno := Lib.hid (show ¬ TableOk ts from fun h => h6 (by have := h.2.1 f hlt; rw [hrg.len] at this; exact this))
          have hq : ((n' : Int) != 6) = true := by simp; omega
          have hq' : ((n' : Int) == 6) = false := by simp; omega
          clear h6 hc hrs hb1 hrg
          go_wp2
          go_ret
          exact ⟨ret_bof_f hno.out, HB.out⟩
      · obtain rfl : f = 8 := by omega
        have hyes := Lib.hid (show TableOk ts from ⟨HL.out, HR.out, HP.out⟩)
        go_wp2
        go_ret
        exact ⟨ret_bof_t hyes.out, HB.out⟩
  · have hno := Lib.hid (show ¬ TableOk ts from fun h => h8 (by have := h.1; have := HL.out; omega))
    have hq : ((n : Int) != 8) = true := by simp; omega
    have hq' : ((n : Int) == 8) = false := by simp; omega
    clear h8
    go_enter Try.func59, Try.ntmps59
    go_wp2
    go_ret
    exact ⟨ret_bof_f hno.out, b1⟩
theorem makeBools48 : ∀ W : World, (Instr.makeSlice 126 (.int .i64 48) (.int .i64 48)).run Try.prog W = .ok (.slice (some ⟨W.heap.size, 0, none⟩) 48 48) (W.alloc (.cells (madeCells #[.bool false] 48) 4)) := by
  have hinfo : (Try.prog.info? 4).map (fun i => (i.zero, i.size, i.bytes)) = some (some (.bool false), 1, 1) := by kernel_rfl
  intro W
  obtain ⟨i0, hi, hz0, hz1, hz2⟩ := info_parts hinfo
  have := run_make (P := Try.prog) W 126 4 i0 _ Try.underlying126 hi hz0 .i64 .i64 48 48 (by omega) (by omega) (by rw [hz2]; omega) (by omega)
  rw [hz1] at this
  exact this
theorem tableValid_spec {A : Option Addr} {n c B : Nat} {ts : List (List Int)} {w : World} (hr : RdT w B A n ts) (hB : B ≤ w.heap.size) (hn : n ≤ 1048576) :
    Calls Try.prog 66 #[.agg #[.slice A n c]] w fun e w' => e = .returned (.bool (bof (TableOk ts))) ∧ Below w.heap.size w w' := by
  have HL := Lib.hid hr.len
  have hmk := makeBools48
  have b1 : Below w.heap.size w (w.alloc (.cells #[.slice A n c] 37)) := (Below.refl _ _).alloc (Nat.le_refl _) _
  have e1 : (w.alloc (.cells #[.slice A n c] 37)).heap.size = w.heap.size + 1 := by simp
  have k1 := (Blk.new w 37 #[.slice A n c]).alloc (.cells (madeCells #[.bool false] 48) 4)
  have ks := Blk.new (w.alloc (.cells #[.slice A n c] 37)) 4 (madeCells #[.bool false] 48)
  rw [e1] at ks
  have bs := b1.alloc b1.size (.cells (madeCells #[.bool false] 48) 4)
  have hrs := (hr.mono hB).below bs
  have KT := Lib.hid k1
  have KS := Lib.hid ks
  have BS := Lib.hid bs
  have lw : w.heap.size + 1 < ((w.alloc (.cells #[.slice A n c] 37)).alloc (.cells (madeCells #[.bool false] 48) 4)).heap.size := by simp
  clear ks bs e1 b1 k1 hr
  go_enter Try.func66, Try.ntmps66
  go_wp2
  generalize (w.alloc (.cells #[.slice A n c] 37)).alloc (.cells (madeCells #[.bool false] 48) 4) = w1 at *
  clear hmk
  go_loopw [4] (fun i wr => ∃ (f : Nat) (cs : Array Value), f ≤ n ∧ i = .int .i64 f ∧ RowsOk ts f ∧ PreT ts f 0 ∧ SeenIs cs (SeenT ts f 0) ∧ Blk wr (w.heap.size + 1) 4 cs ∧ Blk wr w.heap.size 37 #[.slice A n c] ∧ Below w.heap.size w wr ∧ Below w.heap.size w1 wr) (fun i _ => n - (intOf i).toNat)
  case atStart => exact ⟨0, _, Nat.zero_le _, rfl, fun a h => absurd h (Nat.not_lt_zero _), PreT.zero _, SeenIs.zero _ (SeenT.zero ts), KS.out, KT.out, BS.out, Below.refl _ _⟩
  case round =>
    obtain ⟨f, cs, hf, rfl, hrows, hpre, hseen, hblk, hkt, hbel, hb1⟩ := hrel
    have HR := Lib.hid hrows
    have HP := Lib.hid hpre
    have HS := Lib.hid hseen
    have HK := Lib.hid hblk
    have HKT := Lib.hid hkt
    have HB := Lib.hid hbel
    have HB1 := Lib.hid hb1
    have t0 := hkt.cell 0
    simp at t0
    clear hrows hpre hseen hblk hbel hkt
    by_cases hlt : f < n
    · obtain ⟨b, off, rfl, hbB, hc⟩ := hrs.at_ (by omega)
      obtain ⟨A', n', c', c1, hnc, hcm, hrg⟩ := hc f hlt
      replace c1 := (hb1.cell (p := ⟨b, off + f, none⟩) (show b < w.heap.size by omega)).trans c1
      have HC1 := Lib.hid c1
      have HRL := Lib.hid (show (ts.getD f []).length = n' from hrg.len)
      have hdn : decide (f < n) = true := decide_eq_true hlt
      have hrg1 := hrg.below hb1
      clear hc hrs hb1 hrg c1
      obtain ⟨wo, rfl⟩ : ∃ wo : World, wo = wr := ⟨_, rfl⟩
      go_wp2
      clear t0
      go_loopw [5] (fun i wr => ∃ (j : Nat) (cs : Array Value), j ≤ n' ∧ i = .int .i64 j ∧ PreT ts f j ∧ SeenIs cs (SeenT ts f j) ∧ Blk wr (w.heap.size + 1) 4 cs ∧ Blk wr w.heap.size 37 #[.slice (some ⟨b, off, none⟩) n c] ∧ Below w.heap.size wo wr) (fun i _ => n' - (intOf i).toNat)
      case atStart => exact ⟨0, cs, Nat.zero_le _, rfl, HP.out, HS.out, HK.out, HKT.out, Below.refl _ _⟩
      case round =>
        obtain ⟨j, cs, hj, rfl, hpre, hseen, hblk, hkt, hb2⟩ := hrel
        have HP := Lib.hid hpre
        have HS := Lib.hid hseen
        have HK := Lib.hid hblk
        have HKT := Lib.hid hkt
        have HB2 := Lib.hid hb2
        have t0 := hkt.cell 0
        simp at t0
        have c1 := (hb2.cell (p := ⟨b, off + f, none⟩) (show b < w.heap.size by omega)).trans HC1.out
        clear hpre hseen hblk hkt
        by_cases hl6 : j < n'
        · obtain ⟨b', off', rfl, hbB', hc'⟩ := hrg1.at_ (by omega)
          have d1 := (hb2.cell (p := ⟨b', off' + j, none⟩) (show b' < w.heap.size by omega)).trans (hc' j hl6)
          have HV := Lib.hid (show (ts.getD f []).getD j 0 = tE ts f j from rfl)
          rw [HV.out] at d1
          have hNO := Lib.hid (show ¬ EntOk ts f j → ¬ TableOk ts from fun h hh => h (hh.2.2 f j (by rw [HRL.out]; exact hl6) (.inl (by have := hh.1; have := HL.out; omega))))
          obtain ⟨v, hv⟩ : ∃ v, tE ts f j = v := ⟨_, rfl⟩
          rw [hv] at d1
          have HV2 := Lib.hid hv
          clear hv hc' hrg1 hb2
          by_cases hin : -1 ≤ v ∧ v ≤ 47
          · have hb : inB v (-1) 47 = true := by rw [inB_t]; exact hin
            by_cases hv0 : 0 ≤ v
            · obtain ⟨u, rfl⟩ := Int.eq_ofNat_of_zero_le hv0
              have hu : u < 48 := by omega
              have cu := (HK.out.cell u).trans (HS.out.2 u hu)
              have zu := HK.out.frozen u
              by_cases hsn : SeenT ts f j u
              · have hno := Lib.hid (hNO.out (fun h => entOk_seen h (by rw [HV2.out]; exact hv0) (by rw [HV2.out]; exact hsn)))
                rw [bof_t.2 hsn] at cu
                go_wp2_with (go_at_call 32; refine (l1In_c _ _ _ _).mono ?_; rw [hb]; rintro e w' ⟨rfl, rfl⟩)
                go_ret
                exact ⟨ret_bof_f hno.out, HB.out.trans HB2.out⟩
              · rw [bof_f.2 hsn] at cu
                have HP2 := Lib.hid (HP.out.step (entOk_of (by rw [HV2.out]; omega) (by rw [HV2.out]; omega) (fun _ => by rw [HV2.out]; exact hsn)))
                have HS2 := Lib.hid ((HS.out.set hu).congr (S' := SeenT ts f (j + 1)) (fun x hx => by rw [SeenT.step (by rw [HRL.out]; exact hl6), HV2.out]; exact or_congr Iff.rfl ⟨fun e => by rw [e], fun e => by omega⟩))
                have HK2 := Lib.hid (HK.out.set_ u (.bool true))
                have HKT2 := Lib.hid (HKT.out.far (p := ⟨w.heap.size + 1, u, none⟩) (by show w.heap.size ≠ w.heap.size + 1; omega) (.bool true))
                have HB3 := Lib.hid (HB2.out.setCell (p := ⟨w.heap.size + 1, u, none⟩) (by show w.heap.size ≤ w.heap.size + 1; omega) (.bool true))
                clear hsn
                go_wp2_with (go_at_call 32; refine (l1In_c _ _ _ _).mono ?_; rw [hb]; rintro e w' ⟨rfl, rfl⟩)
                go_roundw
                case rel => exact ⟨j + 1, _, by omega, by go_num, HP2.out, HS2.out, HK2.out, HKT2.out, HB3.out⟩
                case measure => simp [intOf]; omega
            · obtain rfl : v = -1 := by omega
              have HP2 := Lib.hid (HP.out.step (entOk_of (by rw [HV2.out]; omega) (by rw [HV2.out]; omega) (fun h => by rw [HV2.out] at h; omega)))
              have HS2 := Lib.hid (HS.out.congr (S' := SeenT ts f (j + 1)) (fun x hx => by rw [SeenT.step (by rw [HRL.out]; exact hl6), HV2.out]; exact ⟨Or.inl, fun h => h.resolve_right (by omega)⟩))
              go_wp2_with (go_at_call 32; refine (l1In_c _ _ _ _).mono ?_; rw [hb]; rintro e w' ⟨rfl, rfl⟩)
              go_roundw
              case rel => exact ⟨j + 1, cs, by omega, by go_num, HP2.out, HS2.out, HK.out, HKT.out, HB2.out⟩
              case measure => simp [intOf]; omega
          · have hb : inB v (-1) 47 = false := by rw [inB_f]; omega
            have hno := Lib.hid (hNO.out (fun h => hin (by have := h.1; rw [HV2.out] at this; exact this)))
            go_wp2_with (go_at_call 32; refine (l1In_c _ _ _ _).mono ?_; rw [hb]; rintro e w' ⟨rfl, rfl⟩)
            go_ret
            exact ⟨ret_bof_f hno.out, HB.out.trans HB2.out⟩
        · obtain rfl : j = n' := by omega
          by_cases h6 : j = 6
          · subst h6
            have hp := HP.out
            have hs := HS.out
            have hrow := HRL.out
            rw [← hrow] at hp hs
            have HP2 := Lib.hid hp.row
            have HS2 := Lib.hid (hs.congr (S' := SeenT ts (f + 1) 0) (fun x _ => SeenT.row x))
            have HR2 := Lib.hid (show RowsOk ts (f + 1) from fun a ha => by
              by_cases e : a = f
              · subst e; exact HRL.out
              · exact HR.out a (by omega))
            clear hp hs hrow
            go_wp2
            go_roundw
            case rel => exact ⟨f + 1, cs, by omega, by go_num, HR2.out, HP2.out, HS2.out, HK.out, HKT.out, HB.out.trans HB2.out, HB1.out.trans HB2.out⟩
            case measure => simp [intOf]; omega
          · have hno := Lib.hid (show ¬ TableOk ts from fun h => h6 (by have := h.2.1 f (by have := h.1; have := HL.out; omega); rw [HRL.out] at this; exact this))
            have hq : ((j : Int) != 6) = true := by simp; omega
            have hq' : ((j : Int) == 6) = false := by simp; omega
            clear h6
            go_wp2
            go_ret
            exact ⟨ret_bof_f hno.out, HB.out.trans HB2.out⟩
    · obtain rfl : f = n := by omega
      by_cases h8 : f = 8
      · subst h8
        have hyes := Lib.hid (show TableOk ts from ⟨HL.out, HR.out, HP.out⟩)
        go_wp2
        go_ret
        exact ⟨ret_bof_t hyes.out, HB.out⟩
      · have hno := Lib.hid (show ¬ TableOk ts from fun h => h8 (by have := h.1; have := HL.out; omega))
        have hq : ((f : Int) != 8) = true := by simp; omega
        have hq' : ((f : Int) == 8) = false := by simp; omega
        clear h8
        go_wp2
        go_ret
        exact ⟨ret_bof_f hno.out, HB.out⟩
end Go.Proofs.Ytjnpgdhpneifjaa
