/- HeadsValid, the program's and the reference's. Condition: at most 2^20 blocks. -/
import Derived.Test.YtjnpgdhpneifjaaDev
import Derived.Test.YtjnpgdhpneifjaaDevOwn
namespace Go.Proofs.Ytjnpgdhpneifjaa
open Go.ChangeShapes Go.WideShapes Go.ChangeAt Go.RowKit
set_option linter.unusedVariables false
set_option linter.unusedSimpArgs false

/-- the first k heads are right -/
def PreH (n : Nat) (xs : List Int) (k : Nat) : Prop := ∀ i, i < k → (-1 ≤ xs.getD i 0 ∧ xs.getD i 0 ≤ (n : Int) - 1) ∧ ∀ j, j < i → 0 ≤ xs.getD i 0 → xs.getD j 0 ≠ xs.getD i 0
theorem PreH.zero (n : Nat) (xs : List Int) : PreH n xs 0 := fun i h => absurd h (Nat.not_lt_zero _)
theorem PreH.succ {n : Nat} {xs : List Int} {k : Nat} (h : PreH n xs k) (h1 : -1 ≤ xs.getD k 0) (h2 : xs.getD k 0 ≤ (n : Int) - 1) (h3 : ∀ j, j < k → 0 ≤ xs.getD k 0 → xs.getD j 0 ≠ xs.getD k 0) : PreH n xs (k + 1) := by
  intro i hi
  by_cases e : i = k
  · subst e; exact ⟨⟨h1, h2⟩, h3⟩
  · exact h i (by omega)
def HeadsOk (bs : List BlockV) (x y z : Int) : Prop := DevOk bs ∧ PreH bs.length [x, y, z] 3
theorem get3_cell {w : World} {g t : Nat} {x y z : Int} (h : Blk w g t #[.int .i64 x, .int .i64 y, .int .i64 z]) {k : Nat} (hk : k < 3) : w.cell? ⟨g, k, none⟩ = some (.int .i64 ([x, y, z].getD k 0)) := by
  rw [h.cell k]
  match k, hk with
  | 0, _ => rfl
  | 1, _ => rfl
  | 2, _ => rfl
theorem index3 (x y z : Int) : ∀ k : Nat, k < 3 → ∀ W : World, (Instr.index 119 (.agg #[.int .i64 x, .int .i64 y, .int .i64 z]) (.int .i64 (k : Int))).run Try.prog W = .ok (.int .i64 ([x, y, z].getD k 0)) W := by
  intro k hk W
  have h0 : (Instr.index 119 (.agg #[.int .i64 x, .int .i64 y, .int .i64 z]) (.int .i64 0)).run Try.prog W = .ok (.int .i64 x) W := by kernel_rfl
  have h1 : (Instr.index 119 (.agg #[.int .i64 x, .int .i64 y, .int .i64 z]) (.int .i64 1)).run Try.prog W = .ok (.int .i64 y) W := by kernel_rfl
  have h2 : (Instr.index 119 (.agg #[.int .i64 x, .int .i64 y, .int .i64 z]) (.int .i64 2)).run Try.prog W = .ok (.int .i64 z) W := by kernel_rfl
  match k, hk with
  | 0, _ => exact h0
  | 1, _ => exact h1
  | 2, _ => exact h2
theorem slice3 (g : Nat) : ∀ k : Nat, k < 3 → ∀ W : World, (Instr.sliceAt 119 (.pointer (some ⟨g, 0, none⟩)) none (some (.int .i64 (k : Int))) none).run Try.prog W = .ok (.slice (some ⟨g, 0, none⟩) k 3) W := by
  intro k hk W
  have h0 : (Instr.sliceAt 119 (.pointer (some ⟨g, 0, none⟩)) none (some (.int .i64 0)) none).run Try.prog W = .ok (.slice (some ⟨g, 0, none⟩) 0 3) W := by kernel_rfl
  have h1 : (Instr.sliceAt 119 (.pointer (some ⟨g, 0, none⟩)) none (some (.int .i64 1)) none).run Try.prog W = .ok (.slice (some ⟨g, 0, none⟩) 1 3) W := by kernel_rfl
  have h2 : (Instr.sliceAt 119 (.pointer (some ⟨g, 0, none⟩)) none (some (.int .i64 2)) none).run Try.prog W = .ok (.slice (some ⟨g, 0, none⟩) 2 3) W := by kernel_rfl
  match k, hk with
  | 0, _ => exact h0
  | 1, _ => exact h1
  | 2, _ => exact h2
set_option maxRecDepth 8000 in
theorem headsValid_impl {A : Option Addr} {n c B : Nat} {bs : List BlockV} {x y z : Int} {w : World} (hr : RdB w B A n bs) (hB : B ≤ w.heap.size) (hn : n ≤ 1048576) :
    Calls Try.prog 58 #[.slice A n c, .agg #[.int .i64 x, .int .i64 y, .int .i64 z]] w fun e w' => e = .returned (.bool (bof (HeadsOk bs x y z))) ∧ Below w.heap.size w w' := by
  have HL := Lib.hid hr.len
  have b1 : Below w.heap.size w (w.alloc (.cells #[.int .i64 x, .int .i64 y, .int .i64 z] 39)) := (Below.refl _ _).alloc (Nat.le_refl _) _
  have k1 := Blk.new w 39 #[.int .i64 x, .int .i64 y, .int .i64 z]
  have l1 := k1.lt
  have hr1 := (hr.mono hB).below b1
  clear hr
  go_enter Try.func58, Try.ntmps58
  go_wp2_with fail
  generalize w.alloc (.cells #[.int .i64 x, .int .i64 y, .int .i64 z] 39) = w1 at *
  refine (deviceValid_impl hr1 b1.size hn).mono ?_
  rintro e w2 ⟨rfl, b2⟩
  have k2 := k1.below b2 l1
  have B2 := Lib.hid (b1.trans (b2.mono b1.size))
  clear b1 b2 k1 hr1
  by_cases hok : DevOk bs
  · rw [bof_t.2 hok]
    have HOK := Lib.hid hok
    have t0 := k2.cell 0
    have t1 := k2.cell 1
    have t2 := k2.cell 2
    simp at t0 t1 t2
    clear hok
    go_wp2
    have hix := index3 x y z
    have k3 := Blk.new w2 119 #[.int .i64 x, .int .i64 y, .int .i64 z]
    have B3 := Lib.hid (B2.out.alloc B2.out.size (.cells #[.int .i64 x, .int .i64 y, .int .i64 z] 119))
    have K3 := Lib.hid k3
    have HIX := Lib.hid hix
    clear k2 k3 t0 t1 t2 hix
    generalize w2.alloc (.cells #[.int .i64 x, .int .i64 y, .int .i64 z] 119) = w3 at *
    generalize w2.heap.size = g2 at *
    generalize hxs : [x, y, z] = xs at *
    have HXS := Lib.hid hxs
    clear hxs
    go_loop [21] (fun i => ∃ k : Nat, k ≤ 3 ∧ i = .int .i64 k ∧ PreH n xs k) (fun i => 3 - (intOf i).toNat)
    case atStart => exact ⟨0, Nat.zero_le _, rfl, PreH.zero _ _⟩
    case round =>
      obtain ⟨k, hk, rfl, hpre⟩ := hrel
      have HP := Lib.hid hpre
      clear hpre
      by_cases hlt : k < 3
      · have hi := HIX.out k hlt
        have hNO := Lib.hid (show (¬ PreH n xs (k + 1)) → ¬ HeadsOk bs x y z from fun h hh => h (fun i hi => by have := hh.2 i (by omega); rw [HL.out, HXS.out] at this; exact this))
        obtain ⟨v, hv⟩ : ∃ v, xs.getD k 0 = v := ⟨_, rfl⟩
        rw [hv] at hi
        have HV := Lib.hid hv
        clear hv
        by_cases h1 : v < -1
        · have hno := Lib.hid (hNO.out (fun h => by have := (h k (by omega)).1.1; rw [HV.out] at this; omega))
          go_wp2
          go_ret
          exact ⟨ret_bof_f hno.out, B3.out⟩
        · by_cases h2 : (n : Int) ≤ v
          · have hno := Lib.hid (hNO.out (fun h => by have := (h k (by omega)).1.2; rw [HV.out] at this; omega))
            go_wp2
            go_ret
            exact ⟨ret_bof_f hno.out, B3.out⟩
          · have hlt3 : decide ((k : Int) < 3) = true := decide_eq_true (by omega)
            have hv1 : decide (v < -1) = false := decide_eq_false h1
            have hv2 : decide ((n : Int) ≤ v) = false := decide_eq_false h2
            have hsl := slice3 g2 k hlt
            go_wp2
            clear hi hsl
            go_loop [36] (fun i => ∃ j : Nat, j ≤ k ∧ i = .int .i64 j ∧ ∀ q, q < j → 0 ≤ v → xs.getD q 0 ≠ v) (fun i => k - (intOf i).toNat)
            case atStart => exact ⟨0, Nat.zero_le _, rfl, fun q h => absurd h (Nat.not_lt_zero _)⟩
            case round =>
              obtain ⟨j, hj, rfl, hall⟩ := hrel
              have HA := Lib.hid hall
              clear hall
              by_cases hjk : j < k
              · have cj := get3_cell K3.out (k := j) (by omega)
                rw [HXS.out] at cj
                obtain ⟨u, hu⟩ : ∃ u, xs.getD j 0 = u := ⟨_, rfl⟩
                rw [hu] at cj
                have HU := Lib.hid hu
                clear hu
                by_cases hv0 : 0 ≤ v
                · by_cases hvu : v = u
                  · subst hvu
                    have hno := Lib.hid (hNO.out (fun h => by have := (h k (by omega)).2 j hjk (by rw [HV.out]; exact hv0); rw [HV.out, HU.out] at this; exact this rfl))
                    go_wp2
                    go_ret
                    exact ⟨ret_bof_f hno.out, B3.out⟩
                  · have hq : (v == u) = false := by simp [hvu]
                    have HN := Lib.hid (show ∀ q, q < j + 1 → 0 ≤ v → xs.getD q 0 ≠ v from fun q hq h0 => by
                      by_cases e : q = j
                      · subst e; rw [HU.out]; exact fun e => hvu e.symm
                      · exact HA.out q (by omega) h0)
                    clear hvu
                    go_wp2
                    go_round
                    case rel => exact ⟨j + 1, by omega, by go_num, HN.out⟩
                    case measure => simp [intOf]; omega
                · have HN := Lib.hid (show ∀ q, q < j + 1 → 0 ≤ v → xs.getD q 0 ≠ v from fun q hq h0 => absurd h0 hv0)
                  go_wp2
                  go_round
                  case rel => exact ⟨j + 1, by omega, by go_num, HN.out⟩
                  case measure => simp [intOf]; omega
              · obtain rfl : j = k := by omega
                have HP2 := Lib.hid (HP.out.succ (by rw [HV.out]; omega) (by rw [HV.out]; omega) (fun q hq h0 => by rw [HV.out] at h0 ⊢; exact HA.out q hq h0))
                go_wp2
                go_round
                case rel => exact ⟨j + 1, by omega, by go_num, HP2.out⟩
                case measure => simp [intOf]; omega
      · obtain rfl : k = 3 := by omega
        have hyes := Lib.hid (show HeadsOk bs x y z from ⟨HOK.out, by rw [HL.out, HXS.out]; exact HP.out⟩)
        go_wp2
        go_ret
        exact ⟨ret_bof_t hyes.out, B3.out⟩
  · have hno := Lib.hid (show ¬ HeadsOk bs x y z from fun h => hok h.1)
    rw [bof_f.2 hok]
    go_wp2
    go_ret
    exact ⟨ret_bof_f hno.out, B2.out⟩
set_option maxRecDepth 8000 in
theorem headsValid_spec {A : Option Addr} {n c B : Nat} {bs : List BlockV} {x y z : Int} {w : World} (hr : RdB w B A n bs) (hB : B ≤ w.heap.size) (hn : n ≤ 1048576) :
    Calls Try.prog 65 #[.slice A n c, .agg #[.int .i64 x, .int .i64 y, .int .i64 z]] w fun e w' => e = .returned (.bool (bof (HeadsOk bs x y z))) ∧ Below w.heap.size w w' := by
  have HL := Lib.hid hr.len
  have b1 : Below w.heap.size w ((w.alloc (.cells #[.int .i64 x, .int .i64 y, .int .i64 z] 39)).alloc (.cells #[.int .i64 x, .int .i64 y, .int .i64 z] 3)) := ((Below.refl _ _).alloc (Nat.le_refl _) _).alloc (by simp) _
  have k1 := Blk.new (w.alloc (.cells #[.int .i64 x, .int .i64 y, .int .i64 z] 39)) 3 #[.int .i64 x, .int .i64 y, .int .i64 z]
  have e1 : (w.alloc (.cells #[.int .i64 x, .int .i64 y, .int .i64 z] 39)).heap.size = w.heap.size + 1 := by simp
  rw [e1] at k1
  have HR1 := Lib.hid ((hr.mono hB).below b1)
  have B1 := Lib.hid b1
  have K1 := Lib.hid k1
  clear hr e1 k1 b1
  go_enter Try.func65, Try.ntmps65
  go_wp2
  generalize (w.alloc (.cells #[.int .i64 x, .int .i64 y, .int .i64 z] 39)).alloc (.cells #[.int .i64 x, .int .i64 y, .int .i64 z] 3) = w1 at *
  generalize hxs : [x, y, z] = xs at *
  have HXS := Lib.hid hxs
  clear hxs
  go_loopw [6] (fun i wr => ∃ k : Nat, k ≤ 3 ∧ i = .int .i64 k ∧ PreH n xs k ∧ Below w1.heap.size w1 wr) (fun i _ => 3 - (intOf i).toNat)
  case atStart => exact ⟨0, Nat.zero_le _, rfl, PreH.zero _ _, Below.refl _ _⟩
  case round =>
    obtain ⟨k, hk, rfl, hpre, hbl⟩ := hrel
    have HP := Lib.hid hpre
    have HBL := Lib.hid hbl
    have hsz := hbl.size
    have KR := K1.out.below hbl K1.out.lt
    have HKR := Lib.hid KR
    clear hpre hbl KR
    by_cases hlt : k < 3
    · have ck := get3_cell HKR.out hlt
      rw [HXS.out] at ck
      have hNO := Lib.hid (show (¬ PreH n xs (k + 1)) → ¬ HeadsOk bs x y z from fun h hh => h (fun i hi => by have := hh.2 i (by omega); rw [HL.out, HXS.out] at this; exact this))
      obtain ⟨v, hv⟩ : ∃ v, xs.getD k 0 = v := ⟨_, rfl⟩
      rw [hv] at ck
      have HV := Lib.hid hv
      clear hv
      by_cases h1 : -1 ≤ v ∧ v ≤ (n : Int) - 1
      · have hin : inB v (-1) ((n : Int) - 1) = true := by rw [inB_t]; exact h1
        have hlt3 : decide ((k : Int) < 3) = true := decide_eq_true (by omega)
        obtain ⟨wo, rfl⟩ : ∃ wo : World, wo = wr := ⟨_, rfl⟩
        go_wp2_with (go_at_call 32; refine (l1In_c _ _ _ _).mono ?_; rw [hin]; rintro e w' ⟨rfl, rfl⟩)
        go_loopw [7] (fun i ws => ∃ j : Nat, j ≤ k ∧ i = .int .i64 j ∧ (∀ q, q < j → 0 ≤ v → xs.getD q 0 ≠ v) ∧ ∃ m, ws = wo.drewN m) (fun i _ => k - (intOf i).toNat)
        case atStart => exact ⟨0, Nat.zero_le _, rfl, fun q h => absurd h (Nat.not_lt_zero _), 0, rfl⟩
        case round =>
          obtain ⟨j, hj, rfl, hall, m, rfl⟩ := hrel
          have HA := Lib.hid hall
          clear hall
          by_cases hjk : j < k
          · have cj := get3_cell HKR.out (k := j) (by omega)
            rw [HXS.out] at cj
            obtain ⟨u, hu⟩ : ∃ u, xs.getD j 0 = u := ⟨_, rfl⟩
            rw [hu] at cj
            have HU := Lib.hid hu
            clear hu
            by_cases hvu : u = v
            · subst hvu
              by_cases hv0 : 0 ≤ u
              · have hno := Lib.hid (hNO.out (fun h => by have := (h k (by omega)).2 j hjk (by rw [HV.out]; exact hv0); rw [HV.out, HU.out] at this; exact this rfl))
                go_wp2_with fail
                go_quiet (fail)
                go_wp2
                go_ret
                exact ⟨ret_bof_f hno.out, B1.out.trans ((below_drewN (below_drewN HBL.out _) _).mono B1.out.size)⟩
              · have HN := Lib.hid (show ∀ q, q < j + 1 → 0 ≤ u → xs.getD q 0 ≠ u from fun q hq h0 => absurd h0 hv0)
                have hd : decide (0 ≤ u) = false := decide_eq_false hv0
                go_wp2_with fail
                go_quiet (fail)
                go_wp2
                go_roundw
                case rel => exact ⟨j + 1, by omega, by go_num, HN.out, m + nq, by first | rfl | rw [World.drewN_drewN]⟩
                case measure => simp [intOf]; omega
            · have hq : (u == v) = false := by simp [hvu]
              have HN := Lib.hid (show ∀ q, q < j + 1 → 0 ≤ v → xs.getD q 0 ≠ v from fun q hq h0 => by
                by_cases e : q = j
                · subst e; rw [HU.out]; exact hvu
                · exact HA.out q (by omega) h0)
              clear hvu
              go_wp2_with fail
              go_quiet (fail)
              go_wp2
              go_roundw
              case rel => exact ⟨j + 1, by omega, by go_num, HN.out, m + nq, by first | rfl | rw [World.drewN_drewN]⟩
              case measure => simp [intOf]; omega
          · obtain rfl : j = k := by omega
            have HP2 := Lib.hid (HP.out.succ (by rw [HV.out]; omega) (by rw [HV.out]; omega) (fun q hq h0 => by rw [HV.out] at h0 ⊢; exact HA.out q hq h0))
            go_wp2
            go_roundw
            case rel => exact ⟨j + 1, by omega, by go_num, HP2.out, below_drewN HBL.out _⟩
            case measure => simp [intOf]; omega
      · have hin : inB v (-1) ((n : Int) - 1) = false := by rw [inB_f]; omega
        have hno := Lib.hid (hNO.out (fun h => h1 (by have := (h k (by omega)).1; rw [HV.out] at this; exact this)))
        go_wp2_with (go_at_call 32; refine (l1In_c _ _ _ _).mono ?_; rw [hin]; rintro e w' ⟨rfl, rfl⟩)
        go_ret
        exact ⟨ret_bof_f hno.out, B1.out.trans (HBL.out.mono B1.out.size)⟩
    · obtain rfl : k = 3 := by omega
      have hr2 := (HR1.out.mono B1.out.size).below HBL.out
      have HEQ := Lib.hid (show bof (DevOk bs) = bof (HeadsOk bs x y z) from by
        rw [Bool.eq_iff_iff, bof_t, bof_t]
        exact ⟨fun h => ⟨h, by rw [HL.out, HXS.out]; exact HP.out⟩, fun h => h.1⟩)
      go_wp2_with fail
      refine (deviceValid_spec hr2 hsz hn).mono ?_
      rintro e w2 ⟨rfl, b2⟩
      have B2 := Lib.hid (B1.out.trans ((HBL.out.trans (b2.mono hsz)).mono B1.out.size))
      rw [HEQ.out]
      clear b2 hr2
      go_wp2
      go_ret
      exact ⟨rfl, B2.out⟩
end Go.Proofs.Ytjnpgdhpneifjaa
