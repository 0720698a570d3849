/- Parts of the proof, one after the other; each says what it proves. -/
import Derived.Test.YtjnpgdhpneifjaaG3
import Derived.Test.YtjnpgdhpneifjaaG6
import Derived.Test.YtjnpgdhpneifjaaG1
/- HeadsValid, the program's and the reference's. Condition: at most 2^20 blocks. -/
namespace Go.Proofs.Ytjnpgdhpneifjaa
open Go.ChangeShapes Go.WideShapes Go.ChangeAt Go.RowKit
set_option linter.unusedVariables false
set_option linter.unusedSimpArgs false

/-- the first k heads are right -/
def PreH (n : Nat) (xs : List Int) (k : Nat) : Prop := ∀ i, i < k → (-1 ≤ xs.getD i 0 ∧ xs.getD i 0 ≤ (n : Int) - 1) ∧ ∀ j, j < i → 0 ≤ xs.getD i 0 → xs.getD j 0 ≠ xs.getD i 0
theorem PreH.zero (n : Nat) (xs : List Int) : PreH n xs 0 := fun i h => absurd h (Nat.not_lt_zero _)
theorem PreH.succ {n : Nat} {xs : List Int} {k : Nat} (h : PreH n xs k) (h1 : -1 ≤ xs.getD k 0) (h2 : xs.getD k 0 ≤ (n : Int) - 1) (h3 : ∀ j, j < k → 0 ≤ xs.getD k 0 → xs.getD j 0 ≠ xs.getD k 0) : PreH n xs (k + 1) := by
  intro i hi
  by_cases e : i = k
  · subst e; exact ⟨⟨h1, h2⟩, h3⟩
  · exact h i (by omega)
def HeadsOk (bs : List BlockV) (x y z : Int) : Prop := DevOk bs ∧ PreH bs.length [x, y, z] 3
theorem get3_cell {w : World} {g t : Nat} {x y z : Int} (h : Blk w g t #[.int .i64 x, .int .i64 y, .int .i64 z]) {k : Nat} (hk : k < 3) : w.cell? ⟨g, k, none⟩ = some (.int .i64 ([x, y, z].getD k 0)) := by
  rw [h.cell k]
  match k, hk with
  | 0, _ => rfl
  | 1, _ => rfl
  | 2, _ => rfl
theorem index3 (x y z : Int) : ∀ k : Nat, k < 3 → ∀ W : World, (Instr.index 119 (.agg #[.int .i64 x, .int .i64 y, .int .i64 z]) (.int .i64 (k : Int))).run Try.prog W = .ok (.int .i64 ([x, y, z].getD k 0)) W := by
  intro k hk W
  have h0 : (Instr.index 119 (.agg #[.int .i64 x, .int .i64 y, .int .i64 z]) (.int .i64 0)).run Try.prog W = .ok (.int .i64 x) W := by kernel_rfl
  have h1 : (Instr.index 119 (.agg #[.int .i64 x, .int .i64 y, .int .i64 z]) (.int .i64 1)).run Try.prog W = .ok (.int .i64 y) W := by kernel_rfl
  have h2 : (Instr.index 119 (.agg #[.int .i64 x, .int .i64 y, .int .i64 z]) (.int .i64 2)).run Try.prog W = .ok (.int .i64 z) W := by kernel_rfl
  match k, hk with
  | 0, _ => exact h0
  | 1, _ => exact h1
  | 2, _ => exact h2
theorem slice3 (g : Nat) : ∀ k : Nat, k < 3 → ∀ W : World, (Instr.sliceAt 119 (.pointer (some ⟨g, 0, none⟩)) none (some (.int .i64 (k : Int))) none).run Try.prog W = .ok (.slice (some ⟨g, 0, none⟩) k 3) W := by
  intro k hk W
  have h0 : (Instr.sliceAt 119 (.pointer (some ⟨g, 0, none⟩)) none (some (.int .i64 0)) none).run Try.prog W = .ok (.slice (some ⟨g, 0, none⟩) 0 3) W := by kernel_rfl
  have h1 : (Instr.sliceAt 119 (.pointer (some ⟨g, 0, none⟩)) none (some (.int .i64 1)) none).run Try.prog W = .ok (.slice (some ⟨g, 0, none⟩) 1 3) W := by kernel_rfl
  have h2 : (Instr.sliceAt 119 (.pointer (some ⟨g, 0, none⟩)) none (some (.int .i64 2)) none).run Try.prog W = .ok (.slice (some ⟨g, 0, none⟩) 2 3) W := by kernel_rfl
  match k, hk with
  | 0, _ => exact h0
  | 1, _ => exact h1
  | 2, _ => exact h2
set_option maxRecDepth 8000 in
theorem headsValid_impl {A : Option Addr} {n c B : Nat} {bs : List BlockV} {x y z : Int} {w : World} (hr : RdB w B A n bs) (hB : B ≤ w.heap.size) (hn : n ≤ 1048576) :
    Calls Try.prog 58 #[.slice A n c, .agg #[.int .i64 x, .int .i64 y, .int .i64 z]] w fun e w' => e = .returned (.bool (bof (HeadsOk bs x y z))) ∧ Below w.heap.size w w' := by
  have HL := Lib.hid hr.len
  have b1 : Below w.heap.size w (w.alloc (.cells #[.int .i64 x, .int .i64 y, .int .i64 z] 39)) := (Below.refl _ _).alloc (Nat.le_refl _) _
  have k1 := Blk.new w 39 #[.int .i64 x, .int .i64 y, .int .i64 z]
  have l1 := k1.lt
  have hr1 := (hr.mono hB).below b1
  clear hr
  go_enter Try.func58, Try.ntmps58
  go_wp2_with fail
  generalize w.alloc (.cells #[.int .i64 x, .int .i64 y, .int .i64 z] 39) = w1 at *
  refine (deviceValid_impl hr1 b1.size hn).mono ?_
  rintro e w2 ⟨rfl, b2⟩
  have k2 := k1.below b2 l1
  have B2 := Lib.hid (b1.trans (b2.mono b1.size))
  clear b1 b2 k1 hr1
  by_cases hok : DevOk bs
  · rw [bof_t.2 hok]
    have HOK := Lib.hid hok
    have t0 := k2.cell 0
    have t1 := k2.cell 1
    have t2 := k2.cell 2
    simp at t0 t1 t2
    clear hok
    go_wp2
    have hix := index3 x y z
    have k3 := Blk.new w2 119 #[.int .i64 x, .int .i64 y, .int .i64 z]
    have B3 := Lib.hid (B2.out.alloc B2.out.size (.cells #[.int .i64 x, .int .i64 y, .int .i64 z] 119))
    have K3 := Lib.hid k3
    have HIX := Lib.hid hix
    clear k2 k3 t0 t1 t2 hix
    generalize w2.alloc (.cells #[.int .i64 x, .int .i64 y, .int .i64 z] 119) = w3 at *
    generalize w2.heap.size = g2 at *
    generalize hxs : [x, y, z] = xs at *
    have HXS := Lib.hid hxs
    clear hxs
    go_loop [21] (fun i => ∃ k : Nat, k ≤ 3 ∧ i = .int .i64 k ∧ PreH n xs k) (fun i => 3 - (intOf i).toNat)
    case atStart => exact ⟨0, Nat.zero_le _, rfl, PreH.zero _ _⟩
    case round =>
      obtain ⟨k, hk, rfl, hpre⟩ := hrel
      have HP := Lib.hid hpre
      clear hpre
      by_cases hlt : k < 3
      · have hi := HIX.out k hlt
        have hNO := Lib.hid (show (¬ PreH n xs (k + 1)) → ¬ HeadsOk bs x y z from fun h hh => h (fun i hi => by have := hh.2 i (by omega); rw [HL.out, HXS.out] at this; exact this))
        obtain ⟨v, hv⟩ : ∃ v, xs.getD k 0 = v := ⟨_, rfl⟩
        rw [hv] at hi
        have HV := Lib.hid hv
        clear hv
        by_cases h1 : v < -1
        · have hno := Lib.hid (hNO.out (fun h => by have := (h k (by omega)).1.1; rw [HV.out] at this; omega))
          go_wp2
          go_ret
          exact ⟨ret_bof_f hno.out, B3.out⟩
        · by_cases h2 : (n : Int) ≤ v
          · have hno := Lib.hid (hNO.out (fun h => by have := (h k (by omega)).1.2; rw [HV.out] at this; omega))
            go_wp2
            go_ret
            exact ⟨ret_bof_f hno.out, B3.out⟩
          · have hlt3 : decide ((k : Int) < 3) = true := decide_eq_true (by omega)
            have hv1 : decide (v < -1) = false := decide_eq_false h1
            have hv2 : decide ((n : Int) ≤ v) = false := decide_eq_false h2
            have hsl := slice3 g2 k hlt
            go_wp2
            clear hi hsl
            go_loop [36] (fun i => ∃ j : Nat, j ≤ k ∧ i = .int .i64 j ∧ ∀ q, q < j → 0 ≤ v → xs.getD q 0 ≠ v) (fun i => k - (intOf i).toNat)
            case atStart => exact ⟨0, Nat.zero_le _, rfl, fun q h => absurd h (Nat.not_lt_zero _)⟩
            case round =>
              obtain ⟨j, hj, rfl, hall⟩ := hrel
              have HA := Lib.hid hall
              clear hall
              by_cases hjk : j < k
              · have cj := get3_cell K3.out (k := j) (by omega)
                rw [HXS.out] at cj
                obtain ⟨u, hu⟩ : ∃ u, xs.getD j 0 = u := ⟨_, rfl⟩
                rw [hu] at cj
                have HU := Lib.hid hu
                clear hu
                by_cases hv0 : 0 ≤ v
                · by_cases hvu : v = u
                  · subst hvu
                    have hno := Lib.hid (hNO.out (fun h => by have := (h k (by omega)).2 j hjk (by rw [HV.out]; exact hv0); rw [HV.out, HU.out] at this; exact this rfl))
                    go_wp2
                    go_ret
                    exact ⟨ret_bof_f hno.out, B3.out⟩
                  · have hq : (v == u) = false := by simp [hvu]
                    have HN := Lib.hid (show ∀ q, q < j + 1 → 0 ≤ v → xs.getD q 0 ≠ v from fun q hq h0 => by
                      by_cases e : q = j
                      · subst e; rw [HU.out]; exact fun e => hvu e.symm
                      · exact HA.out q (by omega) h0)
                    clear hvu
                    go_wp2
                    go_round
                    case rel => exact ⟨j + 1, by omega, by go_num, HN.out⟩
                    case measure => simp [intOf]; omega
                · have HN := Lib.hid (show ∀ q, q < j + 1 → 0 ≤ v → xs.getD q 0 ≠ v from fun q hq h0 => absurd h0 hv0)
                  go_wp2
                  go_round
                  case rel => exact ⟨j + 1, by omega, by go_num, HN.out⟩
                  case measure => simp [intOf]; omega
              · obtain rfl : j = k := by omega
                have HP2 := Lib.hid (HP.out.succ (by rw [HV.out]; omega) (by rw [HV.out]; omega) (fun q hq h0 => by rw [HV.out] at h0 ⊢; exact HA.out q hq h0))
                go_wp2
                go_round
                case rel => exact ⟨j + 1, by omega, by go_num, HP2.out⟩
                case measure => simp [intOf]; omega
      · obtain rfl : k = 3 := by omega
        have hyes := Lib.hid (show HeadsOk bs x y z from ⟨HOK.out, by rw [HL.out, HXS.out]; exact HP.out⟩)
        go_wp2
        go_ret
        exact ⟨ret_bof_t hyes.out, B3.out⟩
  · have hno := Lib.hid (show ¬ HeadsOk bs x y z from fun h => hok h.1)
    rw [bof_f.2 hok]
    go_wp2
    go_ret
    exact ⟨ret_bof_f hno.out, B2.out⟩
set_option maxRecDepth 8000 in
theorem headsValid_spec {A : Option Addr} {n c B : Nat} {bs : List BlockV} {x y z : Int} {w : World} (hr : RdB w B A n bs) (hB : B ≤ w.heap.size) (hn : n ≤ 1048576) :
    Calls Try.prog 65 #[.slice A n c, .agg #[.int .i64 x, .int .i64 y, .int .i64 z]] w fun e w' => e = .returned (.bool (bof (HeadsOk bs x y z))) ∧ Below w.heap.size w w' := by
  have HL := Lib.hid hr.len
  have b1 : Below w.heap.size w ((w.alloc (.cells #[.int .i64 x, .int .i64 y, .int .i64 z] 39)).alloc (.cells #[.int .i64 x, .int .i64 y, .int .i64 z] 3)) := ((Below.refl _ _).alloc (Nat.le_refl _) _).alloc (by simp) _
  have k1 := Blk.new (w.alloc (.cells #[.int .i64 x, .int .i64 y, .int .i64 z] 39)) 3 #[.int .i64 x, .int .i64 y, .int .i64 z]
  have e1 : (w.alloc (.cells #[.int .i64 x, .int .i64 y, .int .i64 z] 39)).heap.size = w.heap.size + 1 := by simp
  rw [e1] at k1
  have HR1 := Lib.hid ((hr.mono hB).below b1)
  have B1 := Lib.hid b1
  have K1 := Lib.hid k1
  clear hr e1 k1 b1
  go_enter Try.func65, Try.ntmps65
  go_wp2
  generalize (w.alloc (.cells #[.int .i64 x, .int .i64 y, .int .i64 z] 39)).alloc (.cells #[.int .i64 x, .int .i64 y, .int .i64 z] 3) = w1 at *
  generalize hxs : [x, y, z] = xs at *
  have HXS := Lib.hid hxs
  clear hxs
  go_loopw [6] (fun i wr => ∃ k : Nat, k ≤ 3 ∧ i = .int .i64 k ∧ PreH n xs k ∧ Below w1.heap.size w1 wr) (fun i _ => 3 - (intOf i).toNat)
  case atStart => exact ⟨0, Nat.zero_le _, rfl, PreH.zero _ _, Below.refl _ _⟩
  case round =>
    obtain ⟨k, hk, rfl, hpre, hbl⟩ := hrel
    have HP := Lib.hid hpre
    have HBL := Lib.hid hbl
    have hsz := hbl.size
    have KR := K1.out.below hbl K1.out.lt
    have HKR := Lib.hid KR
    clear hpre hbl KR
    by_cases hlt : k < 3
    · have ck := get3_cell HKR.out hlt
      rw [HXS.out] at ck
      have hNO := Lib.hid (show (¬ PreH n xs (k + 1)) → ¬ HeadsOk bs x y z from fun h hh => h (fun i hi => by have := hh.2 i (by omega); rw [HL.out, HXS.out] at this; exact this))
      obtain ⟨v, hv⟩ : ∃ v, xs.getD k 0 = v := ⟨_, rfl⟩
      rw [hv] at ck
      have HV := Lib.hid hv
      clear hv
      by_cases h1 : -1 ≤ v ∧ v ≤ (n : Int) - 1
      · have hin : inB v (-1) ((n : Int) - 1) = true := by rw [inB_t]; exact h1
        have hlt3 : decide ((k : Int) < 3) = true := decide_eq_true (by omega)
        obtain ⟨wo, rfl⟩ : ∃ wo : World, wo = wr := ⟨_, rfl⟩
        go_wp2_with (go_at_call 32; refine (l1In_c _ _ _ _).mono ?_; rw [hin]; rintro e w' ⟨rfl, rfl⟩)
        go_loopw [7] (fun i ws => ∃ j : Nat, j ≤ k ∧ i = .int .i64 j ∧ (∀ q, q < j → 0 ≤ v → xs.getD q 0 ≠ v) ∧ ∃ m, ws = wo.drewN m) (fun i _ => k - (intOf i).toNat)
        case atStart => exact ⟨0, Nat.zero_le _, rfl, fun q h => absurd h (Nat.not_lt_zero _), 0, rfl⟩
        case round =>
          obtain ⟨j, hj, rfl, hall, m, rfl⟩ := hrel
          have HA := Lib.hid hall
          clear hall
          by_cases hjk : j < k
          · have cj := get3_cell HKR.out (k := j) (by omega)
            rw [HXS.out] at cj
            obtain ⟨u, hu⟩ : ∃ u, xs.getD j 0 = u := ⟨_, rfl⟩
            rw [hu] at cj
            have HU := Lib.hid hu
            clear hu
            by_cases hvu : u = v
            · subst hvu
              by_cases hv0 : 0 ≤ u
              · have hno := Lib.hid (hNO.out (fun h => by have := (h k (by omega)).2 j hjk (by rw [HV.out]; exact hv0); rw [HV.out, HU.out] at this; exact this rfl))
                go_wp2_with fail
                go_quiet (fail)
                go_wp2
                go_ret
                exact ⟨ret_bof_f hno.out, B1.out.trans ((below_drewN (below_drewN HBL.out _) _).mono B1.out.size)⟩
              · have HN := Lib.hid (show ∀ q, q < j + 1 → 0 ≤ u → xs.getD q 0 ≠ u from fun q hq h0 => absurd h0 hv0)
                have hd : decide (0 ≤ u) = false := decide_eq_false hv0
                go_wp2_with fail
                go_quiet (fail)
                go_wp2
                go_roundw
                case rel => exact ⟨j + 1, by omega, by go_num, HN.out, m + nq, by first | rfl | rw [World.drewN_drewN]⟩
                case measure => simp [intOf]; omega
            · have hq : (u == v) = false := by simp [hvu]
              have HN := Lib.hid (show ∀ q, q < j + 1 → 0 ≤ v → xs.getD q 0 ≠ v from fun q hq h0 => by
                by_cases e : q = j
                · subst e; rw [HU.out]; exact hvu
                · exact HA.out q (by omega) h0)
              clear hvu
              go_wp2_with fail
              go_quiet (fail)
              go_wp2
              go_roundw
              case rel => exact ⟨j + 1, by omega, by go_num, HN.out, m + nq, by first | rfl | rw [World.drewN_drewN]⟩
              case measure => simp [intOf]; omega
          · obtain rfl : j = k := by omega
            have HP2 := Lib.hid (HP.out.succ (by rw [HV.out]; omega) (by rw [HV.out]; omega) (fun q hq h0 => by rw [HV.out] at h0 ⊢; exact HA.out q hq h0))
            go_wp2
            go_roundw
            case rel => exact ⟨j + 1, by omega, by go_num, HP2.out, below_drewN HBL.out _⟩
            case measure => simp [intOf]; omega
      · have hin : inB v (-1) ((n : Int) - 1) = false := by rw [inB_f]; omega
        have hno := Lib.hid (hNO.out (fun h => h1 (by have := (h k (by omega)).1; rw [HV.out] at this; exact this)))
        go_wp2_with (go_at_call 32; refine (l1In_c _ _ _ _).mono ?_; rw [hin]; rintro e w' ⟨rfl, rfl⟩)
        go_ret
        exact ⟨ret_bof_f hno.out, B1.out.trans (HBL.out.mono B1.out.size)⟩
    · obtain rfl : k = 3 := by omega
      have hr2 := (HR1.out.mono B1.out.size).below HBL.out
      have HEQ := Lib.hid (show bof (DevOk bs) = bof (HeadsOk bs x y z) from by
        rw [Bool.eq_iff_iff, bof_t, bof_t]
        exact ⟨fun h => ⟨h, by rw [HL.out, HXS.out]; exact HP.out⟩, fun h => h.1⟩)
      go_wp2_with fail
      refine (deviceValid_spec hr2 hsz hn).mono ?_
      rintro e w2 ⟨rfl, b2⟩
      have B2 := Lib.hid (B1.out.trans ((HBL.out.trans (b2.mono hsz)).mono B1.out.size))
      rw [HEQ.out]
      clear b2 hr2
      go_wp2
      go_ret
      exact ⟨rfl, B2.out⟩
end Go.Proofs.Ytjnpgdhpneifjaa

/- HeadOf and l6Set by the reference. -/
namespace Go.Proofs.Ytjnpgdhpneifjaa
open Go.ChangeShapes Go.WideShapes Go.ChangeAt Go.RowKit
set_option linter.unusedVariables false
set_option linter.unusedSimpArgs false

structure HeadV where
  x : Int
  y : Int
  z : Int
abbrev hdv (h : HeadV) : Value := .agg #[.int .i64 h.x, .int .i64 h.y, .int .i64 h.z]
def HeadV.get (h : HeadV) (heat : Nat) : Int := if heat = 0 then h.x else if heat = 1 then h.y else h.z
def HeadV.set (h : HeadV) (heat : Nat) (n : Int) : HeadV := if heat = 0 then ⟨n, h.y, h.z⟩ else if heat = 1 then ⟨h.x, n, h.z⟩ else ⟨h.x, h.y, n⟩
theorem l6Set_c (h : HeadV) (heat : Nat) (n : Int) (w : World) (hh : heat ≤ 2) :
    Calls Try.prog 116 #[hdv h, .int .i64 heat, .int .i64 n] w fun e w' => e = .returned (hdv (h.set heat n)) ∧ Below w.heap.size w w' := by
  obtain ⟨x, y, z⟩ := h
  have hc : heat = 0 ∨ heat = 1 ∨ heat = 2 := by omega
  rcases hc with rfl | rfl | rfl
  all_goals
    go_enter Try.func116, Try.ntmps116
    go_wp2
    go_returns
    exact ⟨rfl, ((Below.refl _ _).alloc (Nat.le_refl _) _).alloc (by simp) _⟩
theorem headOf_spec {A : Option Addr} {m c B : Nat} {bs : List BlockV} (h : HeadV) (heat : Nat) {w : World} (hr : RdB w B A m bs) (hB : B ≤ w.heap.size) (hm : m ≤ 1048576) (hok : HeadsOk bs h.x h.y h.z) (hh : heat ≤ 2) :
    Calls Try.prog 112 #[.slice A m c, hdv h, .int .i64 heat] w fun e w' => e = .returned (.int .i64 (h.get heat)) ∧ Below w.heap.size w w' := by
  obtain ⟨x, y, z⟩ := h
  simp only at hok
  have HBT := Lib.hid (bof_t.2 hok)
  have b1 : Below w.heap.size w (w.alloc (.cells #[.int .i64 x, .int .i64 y, .int .i64 z] 39)) := (Below.refl _ _).alloc (Nat.le_refl _) _
  have k1 := Blk.new w 39 #[.int .i64 x, .int .i64 y, .int .i64 z]
  have l1 := k1.lt
  have r1 := (hr.mono hB).below b1
  have B1 := Lib.hid b1
  have HIN := Lib.hid (show inB (heat : Int) 0 2 = true from by rw [inB_t]; omega)
  clear hr b1 hok
  go_enter Try.func112, Try.ntmps112
  go_upto_region 1 with (fail)
  generalize w.alloc (.cells #[.int .i64 x, .int .i64 y, .int .i64 z] 39) = w1 at *
  have t0 := k1.cell 0
  have t1 := k1.cell 1
  have t2 := k1.cell 2
  simp at t0 t1 t2
  go_wp2_with fail
  refine (headsValid_spec r1 B1.out.size hm).mono ?_
  rw [HBT.out]
  rintro e w2 ⟨rfl, b2⟩
  have k2 := k1.below b2 l1
  have B2 := Lib.hid (B1.out.trans (b2.mono B1.out.size))
  have hs2 := B2.out.size
  clear b2 k1 r1 t0 t1 t2
  have t0 := k2.cell 0
  have t1 := k2.cell 1
  have t2 := k2.cell 2
  simp at t0 t1 t2
  have hc : heat = 0 ∨ heat = 1 ∨ heat = 2 := by omega
  have h0 : inB 0 0 2 = true := by rw [inB_t]; omega
  have h1 : inB 1 0 2 = true := by rw [inB_t]; omega
  have h2 : inB 2 0 2 = true := by rw [inB_t]; omega
  clear HIN
  rcases hc with rfl | rfl | rfl
  all_goals
    go_wp2_with (go_at_call 32; refine (l1In_c _ _ _ _).mono ?_; (first | rw [h0] | rw [h1] | rw [h2] | (rw [show inB _ 0 2 = true from h0]) | (rw [show inB _ 0 2 = true from h1]) | (rw [show inB _ 0 2 = true from h2])); rintro e w' ⟨rfl, rfl⟩)
    go_ret
    exact ⟨rfl, B2.out.alloc hs2 _⟩
end Go.Proofs.Ytjnpgdhpneifjaa

/- What FreshBlock and AppendPage compute, in plain Lean. -/
namespace Go.Proofs.Ytjnpgdhpneifjaa
set_option linter.unusedVariables false
set_option linter.unusedSimpArgs false

def HeadV.has (h : HeadV) (k : Int) : Bool := k == h.x || k == h.y || k == h.z
/-- the fresh block with the least wear among the first k; -1 without one -/
def freshTo (bs : List BlockV) (h : HeadV) : Nat → Int
  | 0 => -1
  | k + 1 => if h.has k || !(nextP (bs.getD k noBlock).pages == 0) then freshTo bs h k else if freshTo bs h k < 0 ∨ (bs.getD k noBlock).wear < (bs.getD (freshTo bs h k).toNat noBlock).wear then k else freshTo bs h k
def freshF (bs : List BlockV) (h : HeadV) : Int := freshTo bs h bs.length
theorem freshTo_range (bs : List BlockV) (h : HeadV) : ∀ k, -1 ≤ freshTo bs h k ∧ freshTo bs h k < k
  | 0 => ⟨Int.le_refl _, by unfold freshTo; omega⟩
  | k + 1 => by
    have := freshTo_range bs h k
    unfold freshTo
    split
    · omega
    · split <;> omega
/-- a block to append to: that of the head, or a fresh one; -1 without one -/
def appendN (bs : List BlockV) (h : HeadV) (heat : Nat) : Int := if h.get heat < 0 ∨ nextP (bs.getD (h.get heat).toNat noBlock).pages < 0 then freshF bs h else h.get heat
structure AppV where
  bs : List BlockV
  h : HeadV
  at_ : Int
open Classical in
noncomputable def appendF (bs : List BlockV) (h : HeadV) (heat : Nat) (p : PageV) : AppV :=
  if PageOk p ∧ p.full = true then
    if appendN bs h heat < 0 then ⟨bs, h, -1⟩
    else ⟨progB bs (appendN bs h heat).toNat p, h.set heat (appendN bs h heat), progAt bs (appendN bs h heat).toNat⟩
  else ⟨[], ⟨0, 0, 0⟩, -1⟩
end Go.Proofs.Ytjnpgdhpneifjaa

/- The laws' helpers on pages and blocks: size, copy, compare. Conditions: lengths of at most 2^20. -/
namespace Go.Proofs.Ytjnpgdhpneifjaa
open Go.ChangeShapes Go.WideShapes Go.ChangeAt Go.RowKit Go.Deep
set_option linter.unusedVariables false
set_option linter.unusedSimpArgs false

/-- what a size function answers: what is left, or -1; if something is left, P -/
def SzOk (left : Int) (P : Prop) (e : Ending) : Prop := ∃ r : Int, e = .returned (.int .i64 r) ∧ -1 ≤ r ∧ r ≤ left ∧ (0 ≤ r → P)
theorem szPageS_c {A : Option Addr} {n c : Nat} {left : Int} {w : World} (h0 : 0 ≤ left) (h1 : left ≤ 1048576) (hm : n ≤ 9223372036854775807) :
    Calls Try.prog 74 #[.slice A n c, .int .i64 left] w fun e w' => SzOk left ((n : Int) ≤ left) e ∧ w = w' := by
  by_cases h : (n : Int) ≤ left
  · go_enter Try.func74, Try.ntmps74
    go_wp2
    go_ret
    exact ⟨⟨_, rfl, by omega, by omega, fun _ => h⟩, rfl⟩
  · go_enter Try.func74, Try.ntmps74
    go_wp2
    go_ret
    exact ⟨⟨_, rfl, by omega, by omega, fun h => by omega⟩, rfl⟩
theorem szBlock_c {A : Option Addr} {n c : Nat} {we left : Int} {w : World} (h0 : 0 ≤ left) (h1 : left ≤ 1048576) (hm : n ≤ 9223372036854775807) :
    Calls Try.prog 30 #[.agg #[.int .i64 we, .slice A n c], .int .i64 left] w fun e w' => SzOk left ((n : Int) ≤ left) e ∧ Below w.heap.size w w' := by
  go_enter Try.func30, Try.ntmps30
  go_wp2_with fail
  refine (szPageS_c h0 h1 hm).mono ?_
  rintro e w' ⟨⟨r, rfl, r1, r2, r3⟩, rfl⟩
  have HR := Lib.hid r3
  clear r3
  by_cases hr : r < 0
  · go_wp2
    go_ret
    exact ⟨⟨_, rfl, by omega, by omega, fun h => by omega⟩, (Below.refl _ _).alloc (Nat.le_refl _) _⟩
  · go_wp2
    go_ret
    exact ⟨⟨_, rfl, by omega, by omega, HR.out⟩, (Below.refl _ _).alloc (Nat.le_refl _) _⟩
def SmallB (bs : List BlockV) (n : Nat) (left : Int) : Prop := ∀ i, i < n → ((bs.getD i noBlock).pages.length : Int) ≤ left
theorem szBlockS_c {A : Option Addr} {n c B : Nat} {bs : List BlockV} {left : Int} {w : World} (hr : RdB w B A n bs) (hB : B ≤ w.heap.size) (h0 : 0 ≤ left) (h1 : left ≤ 1048576) (hm : n ≤ 9223372036854775807) :
    Calls Try.prog 9 #[.slice A n c, .int .i64 left] w fun e w' => SzOk left ((n : Int) ≤ left ∧ SmallB bs n left) e ∧ Below w.heap.size w w' := by
  by_cases h : (n : Int) ≤ left
  · go_enter Try.func9, Try.ntmps9
    go_wp2
    go_loopw [1, 5] (fun s i wr => ∃ (k : Nat) (l : Int), k ≤ n ∧ i = .int .i64 k ∧ s = .int .i64 l ∧ 0 ≤ l ∧ l ≤ left ∧ SmallB bs k left ∧ Below w.heap.size w wr) (fun _ i _ => n - (intOf i).toNat)
    case atStart => exact ⟨0, left - n, Nat.zero_le _, rfl, rfl, by omega, by omega, fun i hi => absurd hi (Nat.not_lt_zero _), Below.refl _ _⟩
    case round =>
      obtain ⟨k, l, hk, rfl, rfl, hl0, hl1, hsm, hbl⟩ := hrel
      have HS := Lib.hid hsm
      have HB := Lib.hid hbl
      by_cases hlt : k < n
      · obtain ⟨b, off, rfl, hbB, hc⟩ := hr.at_ (by omega)
        obtain ⟨A', n', c', e0, e1, hnc, hcm, hrg⟩ := hc k hlt
        have hbs : b < w.heap.size := by omega
        replace e0 := (hbl.cell (p := ⟨b, off + k * 2, none⟩) hbs).trans e0
        replace e1 := (hbl.cell (p := ⟨b, off + k * 2 + 1, none⟩) hbs).trans e1
        have HL := Lib.hid hrg.len
        generalize (bs.getD k noBlock).wear = we at *
        clear hc hr hsm hbl hrg
        go_wp2_with fail
        refine (szBlock_c hl0 (by omega) (by omega)).mono ?_
        rintro e w2 ⟨⟨r, rfl, r1, r2, r3⟩, hb2⟩
        have HR := Lib.hid r3
        have HB2 := Lib.hid (HB.out.trans (hb2.mono HB.out.size))
        clear r3 hb2 e0 e1
        by_cases hneg : r < 0
        · go_wp2
          go_ret
          exact ⟨⟨_, rfl, by omega, by omega, fun h => by omega⟩, HB2.out⟩
        · have HS2 := Lib.hid (show SmallB bs (k + 1) left from fun i hi => by
            by_cases e : i = k
            · subst e; have := HR.out (by omega); have := HL.out; omega
            · exact HS.out i (by omega))
          go_wp2
          go_roundw
          case rel => exact ⟨k + 1, r, by omega, by go_num, rfl, by omega, by omega, HS2.out, HB2.out⟩
          case measure => simp [intOf]; omega
      · obtain rfl : k = n := by omega
        clear hsm hbl
        go_wp2
        go_ret
        exact ⟨⟨_, rfl, by omega, hl1, fun _ => ⟨h, HS.out⟩⟩, HB.out⟩
  · go_enter Try.func9, Try.ntmps9
    go_wp2
    go_ret
    exact ⟨⟨_, rfl, by omega, by omega, fun h => by omega⟩, Below.refl _ _⟩

theorem toPage_c (p : PageV) (w : World) :
    Calls Try.prog 109 #[.agg #[.bool p.full, .int .i64 p.file, .int .i64 p.place, .int .i64 p.value, .int .i64 p.stamp]] w fun e w' => e = .returned (.agg #[.bool p.full, .int .i64 p.file, .int .i64 p.place, .int .i64 p.value, .int .i64 p.stamp]) ∧ Below w.heap.size w w' := by
  obtain ⟨f, x, y, z, s⟩ := p
  simp only
  go_enter Try.func109, Try.ntmps109
  go_wp2
  go_returns
  exact ⟨rfl, (((Below.refl _ _).alloc (Nat.le_refl _) _).alloc (by simp) _).alloc (by simp; omega) _⟩
theorem toPageS_c {A : Option Addr} {c B : Nat} {ps : List PageV} {w : World} (hr : RdG w B A ps.length ps) (hB : B ≤ w.heap.size) (hn : ps.length ≤ 1048576) :
    Calls Try.prog 77 #[.slice A ps.length c] w fun e w' => ∃ A' c', e = .returned (.slice A' ps.length c') ∧ w'.ownsRow w.heap.size 102 5 (.slice A' ps.length c') ps.length (flatG ps) ∧ Below w.heap.size w w' := by
  have hmk := makePage ps.length hn
  have hst := Lib.hid (own_madePages w w.heap.size ps.length ps rfl (Nat.le_refl _) hn)
  generalize hl : ps.length = n at *
  have HL := Lib.hid hl
  clear hl
  go_enter Try.func77, Try.ntmps77
  go_wp2
  go_loopw [4] (fun i wr => ∃ k : Nat, k ≤ n ∧ i = .int .i64 k ∧ wr.ownsRow w.heap.size 102 5 (.slice (some ⟨w.heap.size, 0, none⟩) n n) n (flatG (fillTo noPage ps k)) ∧ Below w.heap.size w wr) (fun i _ => n - (intOf i).toNat)
  case atStart => exact ⟨0, Nat.zero_le _, rfl, hst.out, (Below.refl _ _).alloc (Nat.le_refl _) _⟩
  case round =>
    obtain ⟨k, hk, rfl, hown, hbel⟩ := hrel
    by_cases hlt : k < n
    · obtain ⟨b, off, rfl, hbB, hc⟩ := hr.at_ (by omega)
      obtain ⟨c0, c1, c2, c3, c4⟩ := hc k hlt
      have hbs : b < w.heap.size := by omega
      replace c0 := (hbel.cell (p := ⟨b, off + k * 5, none⟩) hbs).trans c0
      replace c1 := (hbel.cell (p := ⟨b, off + k * 5 + 1, none⟩) hbs).trans c1
      replace c2 := (hbel.cell (p := ⟨b, off + k * 5 + 2, none⟩) hbs).trans c2
      replace c3 := (hbel.cell (p := ⟨b, off + k * 5 + 3, none⟩) hbs).trans c3
      replace c4 := (hbel.cell (p := ⟨b, off + k * 5 + 4, none⟩) hbs).trans c4
      have hfs := fillTo_set noPage ps (k := k) (by have := HL.out; omega)
      generalize ps.getD k noPage = P at *
      have HF := Lib.hid hfs
      have HO := Lib.hid hown
      have HB := Lib.hid hbel
      have HS := Lib.hid (own_lt hown (k := w.heap.size) rfl).2
      clear hc hr hfs hown hbel hmk
      go_wp2_with fail
      refine (toPage_c P _).mono ?_
      rintro e w2 ⟨rfl, hb2⟩
      have ho2 := own_below HO.out hb2
      have HB2 := Lib.hid (HB.out.trans (hb2.mono HB.out.size))
      obtain ⟨f0, f1, f2, f3, f4⟩ := own_pageCells ho2 k hlt
      have z0 := ho2.frozenAt (g := w.heap.size) (cap := n) (k * 5)
      have z1 := ho2.frozenAt (g := w.heap.size) (cap := n) (k * 5 + 1)
      have z2 := ho2.frozenAt (g := w.heap.size) (cap := n) (k * 5 + 2)
      have z3 := ho2.frozenAt (g := w.heap.size) (cap := n) (k * 5 + 3)
      have z4 := ho2.frozenAt (g := w.heap.size) (cap := n) (k * 5 + 4)
      have hput := own_putPage ho2 k hlt P
      rw [HF.out] at hput
      unfold putPage at hput
      have HP := Lib.hid hput
      generalize (fillTo noPage ps k).getD k noPage = Q at *
      clear ho2 hb2 hput c0 c1 c2 c3 c4
      go_wp2_with fail
      go_roundw
      case rel => exact ⟨k + 1, by omega, by go_num, HP.out.1, ((((HB2.out.setCell (p := ⟨w.heap.size, k * 5, none⟩) (Nat.le_refl _) _).setCell (p := ⟨w.heap.size, k * 5 + 1, none⟩) (Nat.le_refl _) _).setCell (p := ⟨w.heap.size, k * 5 + 2, none⟩) (Nat.le_refl _) _).setCell (p := ⟨w.heap.size, k * 5 + 3, none⟩) (Nat.le_refl _) _).setCell (p := ⟨w.heap.size, k * 5 + 4, none⟩) (Nat.le_refl _) _⟩
      case measure => simp [intOf]; omega
    · obtain rfl : k = n := by omega
      have how : wr.ownsRow w.heap.size 102 5 (.slice (some ⟨w.heap.size, 0, none⟩) k k) k (flatG ps) := by rw [← HL.out, fillTo_all, HL.out] at hown; exact hown
      have HO := Lib.hid how
      clear hmk hown how
      go_wp2
      go_ret
      exact ⟨_, _, rfl, HO.out, hbel⟩
theorem toBlock_c {A : Option Addr} {n c B : Nat} {we : Int} {ps : List PageV} {w : World} (hr : RdG w B A n ps) (hB : B ≤ w.heap.size) (hn : n ≤ 1048576) :
    Calls Try.prog 34 #[.agg #[.int .i64 we, .slice A n c]] w fun e w' => ∃ A' c', e = .returned (.agg #[.int .i64 we, .slice A' n c']) ∧ w'.ownsRow w.heap.size 102 5 (.slice A' n c') n (flatG ps) ∧ Below w.heap.size w w' := by
  obtain rfl : ps.length = n := hr.len
  have hr0 := hr.mono hB
  clear hr
  go_enter Try.func34, Try.ntmps34
  go_wp2_with fail
  have e1 : (w.alloc (.cells #[.int .i64 we, .slice A ps.length c] 62)).heap.size = w.heap.size + 1 := by simp
  have e2 : ((w.alloc (.cells #[.int .i64 we, .slice A ps.length c] 62)).alloc (.cells #[.int .i64 0, .slice none 0 0] 67)).heap.size = w.heap.size + 1 + 1 := by simp
  have K2 := (Blk.new (w.alloc (.cells #[.int .i64 we, .slice A ps.length c] 62)) 67 #[.int .i64 0, .slice none 0 0]).alloc (.cells #[.int .i64 we, .slice none 0 0] 67)
  have K3 := Blk.new ((w.alloc (.cells #[.int .i64 we, .slice A ps.length c] 62)).alloc (.cells #[.int .i64 0, .slice none 0 0] 67)) 67 #[.int .i64 we, .slice none 0 0]
  rw [e1] at K2
  rw [e2] at K3
  have b3 : Below w.heap.size w (((w.alloc (.cells #[.int .i64 we, .slice A ps.length c] 62)).alloc (.cells #[.int .i64 0, .slice none 0 0] 67)).alloc (.cells #[.int .i64 we, .slice none 0 0] 67)) := (((Below.refl _ _).alloc (Nat.le_refl _) _).alloc (by simp) _).alloc (by simp; omega) _
  have s3 : w.heap.size + 1 + 1 < (((w.alloc (.cells #[.int .i64 we, .slice A ps.length c] 62)).alloc (.cells #[.int .i64 0, .slice none 0 0] 67)).alloc (.cells #[.int .i64 we, .slice none 0 0] 67)).heap.size := by simp
  generalize (((w.alloc (.cells #[.int .i64 we, .slice A ps.length c] 62)).alloc (.cells #[.int .i64 0, .slice none 0 0] 67)).alloc (.cells #[.int .i64 we, .slice none 0 0] 67)) = w3 at *
  refine (toPageS_c (hr0.below b3) b3.size hn).mono ?_
  rintro e w4 ⟨A4, c4, rfl, o4, b4⟩
  have K4 := K2.below b4 (by omega)
  have K5 := K3.below b4 (by omega)
  have t0 := K4.cell 0
  have t1 := K4.cell 1
  have z0 := K4.frozen 0
  have z1 := K4.frozen 1
  have u0 := K5.cell 0
  have u1 := K5.cell 1
  have y0 := K5.frozen 0
  have y1 := K5.frozen 1
  simp at t0 t1 u0 u1
  have B5 := b3.trans (b4.mono (by omega))
  have KS := ((K4.far (p := ⟨w.heap.size + 1 + 1, 1, none⟩) (by simp) (.slice A4 ps.length c4)).set_ 0 (.int .i64 we)).set_ 1 (.slice A4 ps.length c4)
  have e0 := KS.cell 0
  have e3 := KS.cell 1
  have O5 := ownsRow_setCell_below (ownsRow_setCell_below (ownsRow_setCell_below o4 (a := ⟨w.heap.size + 1 + 1, 1, none⟩) (by show w.heap.size + 1 + 1 < w3.heap.size; omega) (.slice A4 ps.length c4)) (a := ⟨w.heap.size + 1, 0, none⟩) (by show w.heap.size + 1 < w3.heap.size; omega) (.int .i64 we)) (a := ⟨w.heap.size + 1, 1, none⟩) (by show w.heap.size + 1 < w3.heap.size; omega) (.slice A4 ps.length c4)
  have HO := Lib.hid (own_lower O5 b3.size)
  have HB5 := Lib.hid (((B5.setCell (p := ⟨w.heap.size + 1 + 1, 1, none⟩) (by show w.heap.size ≤ _ + 1 + 1; omega) (.slice A4 ps.length c4)).setCell (p := ⟨w.heap.size + 1, 0, none⟩) (by show w.heap.size ≤ _ + 1; omega) (.int .i64 we)).setCell (p := ⟨w.heap.size + 1, 1, none⟩) (by show w.heap.size ≤ _ + 1; omega) (.slice A4 ps.length c4))
  simp at e0 e3
  have E0 := Lib.hid e0
  have E3 := Lib.hid e3
  clear K2 K3 K4 K5 b3 b4 o4 hr0 B5 KS O5 e0 e3
  go_wp2
  generalize ((w4.setCell ⟨w.heap.size + 1 + 1, 1, none⟩ (.slice A4 ps.length c4)).setCell ⟨w.heap.size + 1, 0, none⟩ (.int .i64 we)).setCell ⟨w.heap.size + 1, 1, none⟩ (.slice A4 ps.length c4) = w9 at *
  have e0 := E0.out
  have e3 := E3.out
  refine bodyPost_ret (by simp [results, Try.results34, go_sem, e0, e3]; try rfl) rfl ?_
  exact ⟨A4, c4, rfl, HO.out, HB5.out⟩
theorem toBlockS_c {A : Option Addr} {c B : Nat} {bs : List BlockV} {w : World} (hr : RdB w B A bs.length bs) (hB : B ≤ w.heap.size) (hn : bs.length ≤ 1048576) (hsm : SmallB bs bs.length 1048576) :
    Calls Try.prog 11 #[.slice A bs.length c] w fun e w' => ∃ A' c', e = .returned (.slice A' bs.length c') ∧ OwB w' w.heap.size A' bs.length c' bs ∧ Below w.heap.size w w' := by
  have hmk := makeBlock bs.length hn
  have hst := Lib.hid (own_madeBlocks w w.heap.size bs.length bs rfl (Nat.le_refl _) hn)
  have HSM := Lib.hid hsm
  clear hsm
  generalize hl : bs.length = n at *
  have HL := Lib.hid hl
  clear hl
  go_enter Try.func11, Try.ntmps11
  go_wp2
  go_loopw [4] (fun i wr => ∃ k : Nat, k ≤ n ∧ i = .int .i64 k ∧ OwB wr w.heap.size (some ⟨w.heap.size, 0, none⟩) n n (fillTo noBlock bs k) ∧ Below w.heap.size w wr) (fun i _ => n - (intOf i).toNat)
  case atStart => exact ⟨0, Nat.zero_le _, rfl, hst.out, (Below.refl _ _).alloc (Nat.le_refl _) _⟩
  case round =>
    obtain ⟨k, hk, rfl, hown, hbel⟩ := hrel
    by_cases hlt : k < n
    · obtain ⟨b, off, rfl, hbB, hc⟩ := hr.at_ (by omega)
      obtain ⟨A', n', c', c0, c1, hnc, hcm, hrg⟩ := hc k hlt
      have hbs : b < w.heap.size := by omega
      replace c0 := (hbel.cell (p := ⟨b, off + k * 2, none⟩) hbs).trans c0
      replace c1 := (hbel.cell (p := ⟨b, off + k * 2 + 1, none⟩) hbs).trans c1
      have hrg2 := (hrg.mono hB).below hbel
      have hn2 : n' ≤ 1048576 := by have := HSM.out k hlt; rw [hrg.len] at this; omega
      have hfs := fillTo_set noBlock bs (k := k) (by have := HL.out; omega)
      generalize bs.getD k noBlock = P at *
      obtain ⟨we, ps⟩ := P
      simp only at c0 hrg2
      have HF := Lib.hid hfs
      have HO := Lib.hid hown
      have HB := Lib.hid hbel
      have hsz := hbel.size
      clear hc hr hfs hown hbel hmk hrg
      go_wp2_with fail
      refine (toBlock_c hrg2 hsz hn2).mono ?_
      rintro e w2 ⟨A2, c2, rfl, ho2, hb2⟩
      have oF := HO.out.setBlock (we := we) hb2 ho2 hsz hlt
      obtain ⟨A3, n3, c3, f0, f1, z0, z1, _⟩ := (HO.out.below hb2).cells k hlt
      rw [HF.out] at oF
      have OF := Lib.hid oF
      have HB2 := Lib.hid (HB.out.trans (hb2.mono hsz))
      generalize ((fillTo noBlock bs k).getD k noBlock).wear = q at *
      clear hb2 oF ho2 c0 c1 hrg2
      go_wp2_with fail
      go_roundw
      case rel => exact ⟨k + 1, by omega, by go_num, OF.out, (HB2.out.setCell (p := ⟨w.heap.size, k * 2, none⟩) (Nat.le_refl _) _).setCell (p := ⟨w.heap.size, k * 2 + 1, none⟩) (Nat.le_refl _) _⟩
      case measure => simp [intOf]; omega
    · obtain rfl : k = n := by omega
      have how : OwB wr w.heap.size (some ⟨w.heap.size, 0, none⟩) k k bs := by rw [← HL.out, fillTo_all, HL.out] at hown; exact hown
      have HO := Lib.hid how
      clear hmk hown how
      go_wp2
      go_ret
      exact ⟨_, _, rfl, HO.out, hbel⟩
/-! ### equal pages, blocks -/
theorem eqPage_same (p : PageV) (w : World) :
    Calls Try.prog 111 #[.agg #[.bool p.full, .int .i64 p.file, .int .i64 p.place, .int .i64 p.value, .int .i64 p.stamp], .agg #[.bool p.full, .int .i64 p.file, .int .i64 p.place, .int .i64 p.value, .int .i64 p.stamp]] w fun e w' => e = .returned (.bool true) ∧ Below w.heap.size w w' := by
  obtain ⟨f, x, y, z, s⟩ := p
  simp only
  cases f
  all_goals
    go_enter Try.func111, Try.ntmps111
    go_wp2
    go_ret
    exact ⟨rfl, ((Below.refl _ _).alloc (Nat.le_refl _) _).alloc (by simp) _⟩
theorem eqPageS_same {A A' : Option Addr} {n c c' B B' : Nat} {ps : List PageV} {w : World} (hr : RdG w B A n ps) (hr' : RdG w B' A' n ps) (hn : n ≤ 9000000000000) :
    Calls Try.prog 79 #[.slice A n c, .slice A' n c'] w fun e w' => e = .returned (.bool true) ∧ Below w.heap.size w w' := by
  go_enter Try.func79, Try.ntmps79
  go_wp2
  go_loopw [5] (fun i wr => ∃ k : Nat, k ≤ n ∧ i = .int .i64 k ∧ Below w.heap.size w wr) (fun i _ => n - (intOf i).toNat)
  case atStart => exact ⟨0, Nat.zero_le _, rfl, Below.refl _ _⟩
  case round =>
    obtain ⟨k, hk, rfl, hbel⟩ := hrel
    by_cases hlt : k < n
    · obtain ⟨b, off, rfl, hbB, hc⟩ := hr.at_ (by omega)
      obtain ⟨b', off', rfl, hbB', hc'⟩ := hr'.at_ (by omega)
      obtain ⟨c0, c1, c2, c3, c4⟩ := hc k hlt
      obtain ⟨d0, d1, d2, d3, d4⟩ := hc' k hlt
      have l0 := block_lt_of_cell c0
      have l1 := block_lt_of_cell d0
      replace c0 := (hbel.cell (p := ⟨b, off + k * 5, none⟩) l0).trans c0
      replace c1 := (hbel.cell (p := ⟨b, off + k * 5 + 1, none⟩) l0).trans c1
      replace c2 := (hbel.cell (p := ⟨b, off + k * 5 + 2, none⟩) l0).trans c2
      replace c3 := (hbel.cell (p := ⟨b, off + k * 5 + 3, none⟩) l0).trans c3
      replace c4 := (hbel.cell (p := ⟨b, off + k * 5 + 4, none⟩) l0).trans c4
      replace d0 := (hbel.cell (p := ⟨b', off' + k * 5, none⟩) l1).trans d0
      replace d1 := (hbel.cell (p := ⟨b', off' + k * 5 + 1, none⟩) l1).trans d1
      replace d2 := (hbel.cell (p := ⟨b', off' + k * 5 + 2, none⟩) l1).trans d2
      replace d3 := (hbel.cell (p := ⟨b', off' + k * 5 + 3, none⟩) l1).trans d3
      replace d4 := (hbel.cell (p := ⟨b', off' + k * 5 + 4, none⟩) l1).trans d4
      generalize ps.getD k noPage = P at *
      have HB := Lib.hid hbel
      clear hc hr hc' hr' hbel
      go_wp2_with fail
      go_region_with (go_at_call 111; refine (eqPage_same P _).mono ?_; rintro e w2 ⟨rfl, hb2⟩)
      all_goals
        go_wp2_with fail
        go_roundw
        case rel => exact ⟨k + 1, by omega, by go_num, HB.out.drew.trans (hb2.mono HB.out.size)⟩
        case measure => simp [intOf]; omega
    · have hkn : k = n := by omega
      subst hkn
      go_wp2
      go_ret
      exact ⟨rfl, hbel⟩
theorem eqBlock_same {A A' : Option Addr} {n c c' B B' : Nat} {we : Int} {ps : List PageV} {w : World} (hr : RdG w B A n ps) (hr' : RdG w B' A' n ps) (hB : B ≤ w.heap.size) (hB' : B' ≤ w.heap.size) (hn : n ≤ 9000000000000) :
    Calls Try.prog 37 #[.agg #[.int .i64 we, .slice A n c], .agg #[.int .i64 we, .slice A' n c']] w fun e w' => e = .returned (.bool true) ∧ Below w.heap.size w w' := by
  have hr0 := hr.mono hB
  have hr0' := hr'.mono hB'
  go_enter Try.func37, Try.ntmps37
  go_wp2_with fail
  have b2 : Below w.heap.size w ((w.alloc (.cells #[.int .i64 we, .slice A n c] 67)).alloc (.cells #[.int .i64 we, .slice A' n c'] 67)) := ((Below.refl _ _).alloc (Nat.le_refl _) _).alloc (by simp) _
  refine (eqPageS_same (hr0.below b2) (hr0'.below b2) hn).mono ?_
  rintro e w' ⟨rfl, hb⟩
  go_wp2
  go_ret
  exact ⟨rfl, b2.trans (hb.mono b2.size)⟩
theorem eqBlockS_same {A A' : Option Addr} {n c c' B B' : Nat} {bs : List BlockV} {w : World} (hr : RdB w B A n bs) (hr' : RdB w B' A' n bs) (hB : B ≤ w.heap.size) (hB' : B' ≤ w.heap.size) (hn : n ≤ 9000000000000) (hsm : SmallB bs n 1048576) :
    Calls Try.prog 13 #[.slice A n c, .slice A' n c'] w fun e w' => e = .returned (.bool true) ∧ Below w.heap.size w w' := by
  have HSM := Lib.hid hsm
  clear hsm
  go_enter Try.func13, Try.ntmps13
  go_wp2
  go_loopw [5] (fun i wr => ∃ k : Nat, k ≤ n ∧ i = .int .i64 k ∧ Below w.heap.size w wr) (fun i _ => n - (intOf i).toNat)
  case atStart => exact ⟨0, Nat.zero_le _, rfl, Below.refl _ _⟩
  case round =>
    obtain ⟨k, hk, rfl, hbel⟩ := hrel
    by_cases hlt : k < n
    · obtain ⟨b, off, rfl, hbB, hc⟩ := hr.at_ (by omega)
      obtain ⟨b', off', rfl, hbB', hc'⟩ := hr'.at_ (by omega)
      obtain ⟨P, np, cp, c0, c1, hp1, hp2, hp⟩ := hc k hlt
      obtain ⟨Q, nq, cq, d0, d1, hq1, hq2, hq⟩ := hc' k hlt
      have hnq : nq = np := by rw [← hp.len, ← hq.len]
      subst hnq
      have hns : nq ≤ 1048576 := by have := HSM.out k hlt; rw [hp.len] at this; omega
      have l0 : b < w.heap.size := by omega
      have l1 : b' < w.heap.size := by omega
      replace c0 := (hbel.cell (p := ⟨b, off + k * 2, none⟩) l0).trans c0
      replace c1 := (hbel.cell (p := ⟨b, off + k * 2 + 1, none⟩) l0).trans c1
      replace d0 := (hbel.cell (p := ⟨b', off' + k * 2, none⟩) l1).trans d0
      replace d1 := (hbel.cell (p := ⟨b', off' + k * 2 + 1, none⟩) l1).trans d1
      have HP := Lib.hid ((hp.mono hB).below hbel)
      have HQ := Lib.hid ((hq.mono hB').below hbel)
      generalize bs.getD k noBlock = X at *
      obtain ⟨we, ps⟩ := X
      simp only at c0 d0 HP HQ
      have HB := Lib.hid hbel
      clear hc hr hc' hr' hbel hp hq
      go_wp2_with fail
      go_region_with (go_at_call 37; refine (eqBlock_same HP.out.drew HQ.out.drew HB.out.size HB.out.size (by omega)).mono ?_; rintro e w2 ⟨rfl, hb2⟩)
      all_goals
        go_wp2_with fail
        go_roundw
        case rel => exact ⟨k + 1, by omega, by go_num, HB.out.drew.trans (hb2.mono HB.out.size)⟩
        case measure => simp [intOf]; omega
    · have hkn : k = n := by omega
      subst hkn
      go_wp2
      go_ret
      exact ⟨rfl, hbel⟩
end Go.Proofs.Ytjnpgdhpneifjaa
