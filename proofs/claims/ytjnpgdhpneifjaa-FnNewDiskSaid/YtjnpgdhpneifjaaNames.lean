/- NamesValid, the program's and the reference's. Condition: at most 2^20 names. -/
import Derived.Test.YtjnpgdhpneifjaaText
import Derived.Test.YtjnpgdhpneifjaaTabN
import Derived.Test.YtjnpgdhpneifjaaTab
namespace Go.Proofs.Ytjnpgdhpneifjaa
open Go.ChangeShapes Go.WideShapes Go.ChangeAt Go.RowKit Go.Deep
set_option linter.unusedVariables false
set_option linter.unusedSimpArgs false

abbrev nTxt (ns : List NameV) (i : Nat) : ByteArray := (ns.getD i noName).1
abbrev nFil (ns : List NameV) (i : Nat) : Int := (ns.getD i noName).2
/-- what name i wants -/
def NamOk (ns : List NameV) (i : Nat) : Prop := TextOk (nTxt ns i) ∧ (0 ≤ nFil ns i ∧ nFil ns i ≤ 7) ∧ (0 < i → NBef (nTxt ns (i - 1)) (nTxt ns i)) ∧ (3 ≤ i → bucket (nTxt ns (i - 3)) ≠ bucket (nTxt ns i))
def PreN (ns : List NameV) (k : Nat) : Prop := ∀ i, i < k → NamOk ns i
def NamesOk (ns : List NameV) : Prop := PreN ns ns.length
theorem PreN.zero (ns : List NameV) : PreN ns 0 := fun i h => absurd h (Nat.not_lt_zero _)
theorem PreN.succ {ns : List NameV} {k : Nat} (h : PreN ns k) (h1 : NamOk ns k) : PreN ns (k + 1) := by
  intro i hi
  by_cases e : i = k
  · subst e; exact h1
  · exact h i (by omega)
theorem bef_bucket {a b : ByteArray} (h : NBef a b) : bucket a ≤ bucket b := by rcases h with h | ⟨h, _⟩ <;> omega
theorem PreN.mono {ns : List NameV} {k : Nat} (h : PreN ns k) : ∀ {i j : Nat}, i ≤ j → j < k → bucket (nTxt ns i) ≤ bucket (nTxt ns j)
  | i, 0, hij, hj => by obtain rfl : i = 0 := by omega
                        exact Int.le_refl _
  | i, j + 1, hij, hj => by
    by_cases e : i = j + 1
    · subst e; exact Int.le_refl _
    · have h1 := h.mono (i := i) (j := j) (by omega) (by omega)
      have h2 := bef_bucket ((h (j + 1) hj).2.2.1 (by omega))
      simp only [Nat.add_sub_cancel] at h2
      exact Int.le_trans h1 h2
open Classical in
/-- how many of the first k names lie in bucket b -/
noncomputable def cntB (ns : List NameV) (b : Int) : Nat → Nat
  | 0 => 0
  | k + 1 => cntB ns b k + if bucket (nTxt ns k) = b then 1 else 0
theorem cntB_le (ns : List NameV) (b : Int) : ∀ k, cntB ns b k ≤ k
  | 0 => Nat.le_refl _
  | k + 1 => by have := cntB_le ns b k; unfold cntB; split <;> omega
theorem cntB_yes {ns : List NameV} {b : Int} {k : Nat} (h : bucket (nTxt ns k) = b) : cntB ns b (k + 1) = cntB ns b k + 1 := by
  show cntB ns b k + _ = _; rw [if_pos h]
theorem cntB_no {ns : List NameV} {b : Int} {k : Nat} (h : bucket (nTxt ns k) ≠ b) : cntB ns b (k + 1) = cntB ns b k := by
  show cntB ns b k + _ = _; rw [if_neg h]; rfl
theorem cntB_zero {ns : List NameV} {b : Int} : ∀ {k : Nat}, (∀ i, i < k → bucket (nTxt ns i) ≠ b) → cntB ns b k = 0
  | 0, _ => rfl
  | k + 1, h => by rw [cntB_no (h k (by omega))]; exact cntB_zero (fun i hi => h i (by omega))
theorem cntB_mono (ns : List NameV) (b : Int) (k : Nat) : cntB ns b k ≤ cntB ns b (k + 1) := by
  show _ ≤ cntB ns b k + _; omega
/-- three in the bucket already: the one three places before is among them -/
theorem cntB_three {ns : List NameV} {k : Nat} (hp : PreN ns k) (hb : 0 < k → bucket (nTxt ns (k - 1)) ≤ bucket (nTxt ns k)) : 3 ≤ cntB ns (bucket (nTxt ns k)) k ↔ (3 ≤ k ∧ bucket (nTxt ns (k - 3)) = bucket (nTxt ns k)) := by
  constructor
  · intro h
    have hle := cntB_le ns (bucket (nTxt ns k)) k
    refine ⟨by omega, ?_⟩
    obtain ⟨q, rfl⟩ : ∃ q, k = q + 3 := ⟨k - 3, by omega⟩
    have e0 : q + 3 - 3 = q := by omega
    have e1 : q + 3 - 1 = q + 2 := by omega
    rw [e0]
    rw [e1] at hb
    by_cases hne : bucket (nTxt ns q) = bucket (nTxt ns (q + 3))
    · exact hne
    · exfalso
      have hm := hp.mono (i := q) (j := q + 2) (by omega) (by omega)
      have hlt : bucket (nTxt ns q) < bucket (nTxt ns (q + 3)) := by have := hb (by omega); omega
      have hz : cntB ns (bucket (nTxt ns (q + 3))) (q + 1) = 0 := cntB_zero (fun i hi => by have := hp.mono (i := i) (j := q) (by omega) (by omega); omega)
      have a1 : cntB ns (bucket (nTxt ns (q + 3))) (q + 3) ≤ cntB ns (bucket (nTxt ns (q + 3))) (q + 1) + 2 := by
        have b1 : cntB ns (bucket (nTxt ns (q + 3))) (q + 2) ≤ cntB ns (bucket (nTxt ns (q + 3))) (q + 1) + 1 := by
          show cntB _ _ (q + 1) + _ ≤ _; split <;> omega
        have b2 : cntB ns (bucket (nTxt ns (q + 3))) (q + 3) ≤ cntB ns (bucket (nTxt ns (q + 3))) (q + 2) + 1 := by
          show cntB _ _ (q + 2) + _ ≤ _; split <;> omega
        omega
      omega
  · rintro ⟨h3, he⟩
    obtain ⟨q, rfl⟩ : ∃ q, k = q + 3 := ⟨k - 3, by omega⟩
    have e0 : q + 3 - 3 = q := by omega
    have e1 : q + 3 - 1 = q + 2 := by omega
    rw [e0] at he
    rw [e1] at hb
    have m1 := hp.mono (i := q) (j := q + 1) (by omega) (by omega)
    have m2 := hp.mono (i := q + 1) (j := q + 2) (by omega) (by omega)
    have m3 := hb (by omega)
    have c0 := cntB_yes (ns := ns) (b := bucket (nTxt ns (q + 3))) (k := q) he
    have c1 := cntB_yes (ns := ns) (b := bucket (nTxt ns (q + 3))) (k := q + 1) (by omega)
    have c2 := cntB_yes (ns := ns) (b := bucket (nTxt ns (q + 3))) (k := q + 2) (by omega)
    have d1 : cntB ns (bucket (nTxt ns (q + 3))) (q + 1 + 1) = cntB ns (bucket (nTxt ns (q + 3))) (q + 2) := rfl
    have d2 : cntB ns (bucket (nTxt ns (q + 3))) (q + 2 + 1) = cntB ns (bucket (nTxt ns (q + 3))) (q + 3) := rfl
    omega
/-- three cells that hold the counts -/
def Counts (cs : Array Value) (ns : List NameV) (k : Nat) : Prop := cs.size = 3 ∧ ∀ b : Nat, b < 3 → cs[b]? = some (.int .i64 (cntB ns b k : Nat))
theorem Counts.zero (ns : List NameV) : Counts #[.int .i64 0, .int .i64 0, .int .i64 0] ns 0 := by
  refine ⟨rfl, fun b hb => ?_⟩
  match b, hb with
  | 0, _ => rfl
  | 1, _ => rfl
  | 2, _ => rfl
theorem Counts.step {cs : Array Value} {ns : List NameV} {k b : Nat} (h : Counts cs ns k) (hb : b < 3) (he : bucket (nTxt ns k) = (b : Int)) : Counts (cs.setIfInBounds b (.int .i64 ((cntB ns b k : Nat) + 1))) ns (k + 1) := by
  refine ⟨by simp [h.1], fun b' hb' => ?_⟩
  by_cases e : b = b'
  · subst e
    rw [Array.getElem?_setIfInBounds_self_of_lt (by rw [h.1]; exact hb), cntB_yes he]
    simp
  · rw [Array.getElem?_setIfInBounds_ne e, h.2 b' hb', cntB_no (by omega)]
theorem namesValid_impl {A : Option Addr} {n c B : Nat} {ns : List NameV} {w : World} (hr : RdN w B A n ns) (hB : B ≤ w.heap.size) (hn : n ≤ 1048576) (hsm : ∀ i, i < n → (nTxt ns i).size ≤ 9223372036854775807) :
    Calls Try.prog 62 #[.slice A n c] w fun e w' => e = .returned (.bool (bof (NamesOk ns))) ∧ Below w.heap.size w w' := by
  have HL := Lib.hid hr.len
  have HSM := Lib.hid hsm
  have b1 : Below w.heap.size w (w.alloc (.cells #[.int .i64 0, .int .i64 0, .int .i64 0] 119)) := (Below.refl _ _).alloc (Nat.le_refl _) _
  have k1 := Blk.new w 119 #[.int .i64 0, .int .i64 0, .int .i64 0]
  have hr1 := (hr.mono hB).below b1
  have B1 := Lib.hid b1
  have K1 := Lib.hid k1
  clear hsm b1 k1 hr
  go_enter Try.func62, Try.ntmps62
  go_wp2
  generalize w.alloc (.cells #[.int .i64 0, .int .i64 0, .int .i64 0] 119) = w1 at *
  go_loopw [9] (fun i wr => ∃ (k : Nat) (cs : Array Value), k ≤ n ∧ i = .int .i64 k ∧ PreN ns k ∧ Counts cs ns k ∧ Blk wr w.heap.size 119 cs ∧ Below w.heap.size w wr ∧ Below w.heap.size w1 wr) (fun i _ => n - (intOf i).toNat)
  case atStart => exact ⟨0, _, Nat.zero_le _, rfl, PreN.zero _, Counts.zero _, K1.out, B1.out, Below.refl _ _⟩
  case round =>
    obtain ⟨k, cs, hk, rfl, hpre, hcnt, hblk, hbel, hb1⟩ := hrel
    have HP := Lib.hid hpre
    have HC := Lib.hid hcnt
    by_cases hlt : k < n
    · have hNO := Lib.hid (show ¬ NamOk ns k → ¬ NamesOk ns from fun h hh => h (hh k (by have := HL.out; omega)))
      obtain ⟨b, off, rfl, hbB, hc⟩ := hr1.at_ (by omega)
      obtain ⟨c0, c1⟩ := hc k hlt
      have hbw : b < w.heap.size := by omega
      replace c0 := (hb1.cell (p := ⟨b, off + k * 2, none⟩) hbw).trans c0
      replace c1 := (hb1.cell (p := ⟨b, off + k * 2 + 1, none⟩) hbw).trans c1
      have hsk := HSM.out k hlt
      have hbl := Blk.lt hblk
      have hsz := hbel.size
      have HK := Lib.hid hblk
      have HB := Lib.hid hbel
      have HB1 := Lib.hid hb1
      have HCL := Lib.hid hc
      have HPV := Lib.hid (show 0 < k → wr.cell? ⟨b, off + (k - 1) * 2, none⟩ = some (.string (nTxt ns (k - 1))) from fun h => (hb1.cell (p := ⟨b, off + (k - 1) * 2, none⟩) hbw).trans (hc (k - 1) (by omega)).1)
      have HPS := Lib.hid (show 0 < k → (nTxt ns (k - 1)).size ≤ 9223372036854775807 from fun h => HSM.out (k - 1) (by omega))
      have HOKI := Lib.hid (show NamOk ns k ↔ TextOk (nTxt ns k) ∧ (0 ≤ nFil ns k ∧ nFil ns k ≤ 7) ∧ (0 < k → NBef (nTxt ns (k - 1)) (nTxt ns k)) ∧ (3 ≤ k → bucket (nTxt ns (k - 3)) ≠ bucket (nTxt ns k)) from Iff.rfl)
      have HBK := Lib.hid (show bucket (nTxt ns k) = bucket (nTxt ns k) from rfl)
      obtain ⟨p, hp⟩ : ∃ p, nTxt ns (k - 1) = p := ⟨_, rfl⟩
      rw [hp] at HPV HPS HOKI
      obtain ⟨P, hP⟩ : ∃ P, ns.getD k noName = P := ⟨_, rfl⟩
      have hP1 : nTxt ns k = P.1 := by rw [← hP]
      have hP2 : nFil ns k = P.2 := by rw [← hP]
      rw [hP] at c0 c1
      rw [hP1] at hsk HOKI
      rw [hP2] at HOKI
      have HP1 := Lib.hid hP1
      have HPP := Lib.hid hp
      obtain ⟨s, f⟩ := P
      simp only at c0 c1 hsk HOKI HP1
      clear hpre hcnt hc hr1 hblk hbel hb1 hP hP1 hP2 hp
      go_wp2_with fail
      have kx := Blk.new wr 90 #[.string s, .int .i64 f]
      have HKX := Lib.hid (HK.out.alloc (.cells #[.string s, .int .i64 f] 90))
      have HBX := Lib.hid (HB.out.alloc hsz (.cells #[.string s, .int .i64 f] 90))
      have HBX1 := Lib.hid (HB1.out.alloc (by have := HB1.out.size; omega) (.cells #[.string s, .int .i64 f] 90))
      have HPX := Lib.hid (show 0 < k → (wr.alloc (.cells #[.string s, .int .i64 f] 90)).cell? ⟨b, off + (k - 1) * 2, none⟩ = some (.string p) from fun h => (((Below.refl _ _).alloc (Nat.le_refl _) _).cell (p := ⟨b, off + (k - 1) * 2, none⟩) (by show b < wr.heap.size; omega)).trans (HPV.out h))
      have x0 : (wr.alloc (.cells #[.string s, .int .i64 f] 90)).cell? ⟨wr.heap.size, 0, none⟩ = some (.string s) := kx.cell 0
      have x1 : (wr.alloc (.cells #[.string s, .int .i64 f] 90)).cell? ⟨wr.heap.size, 1, none⟩ = some (.int .i64 f) := kx.cell 1
      have hne : w.heap.size ≠ wr.heap.size := by omega
      clear HK HB HB1 HPV c0 c1 kx
      generalize wr.alloc (.cells #[.string s, .int .i64 f] 90) = wx at *
      generalize wr.heap.size = gx at *
      refine (textValid_impl s _ hsk).mono ?_
      rintro e w' ⟨rfl, rfl⟩
      by_cases htx : TextOk s
      · rw [bof_t.2 htx]
        by_cases hf : 0 ≤ f ∧ f ≤ 7
        · have hf1 : ¬ f < 0 := by omega
          have hf2 : ¬ 8 ≤ f := by omega
          have HTX := Lib.hid htx
          have HF := Lib.hid hf
          clear htx hf
          go_upto_region 7 with (fail)
          obtain ⟨q, hq, hq3⟩ : ∃ q : Nat, bucket s = (q : Int) ∧ q < 3 := ⟨(bucket s).toNat, by have := bucket_ok.2 HTX.out; omega, by have := bucket_ok.2 HTX.out; have := (bucket_range s).2; omega⟩
          by_cases hk0 : 0 < k
          · have hk1 : (1 : Int) ≤ (k : Int) := by omega
            have hk2 : 0 ≤ (k : Int) - 1 := by omega
            have hkd : decide (0 < k) = true := decide_eq_true hk0
            have hki : decide ((k : Int) > 0) = true := decide_eq_true (by omega)
            have px := HPX.out hk0
            have hps := HPS.out hk0
            have HCT := Lib.hid (fun W => nameBefore_c p s W hps hsk)
            by_cases hnb : NBef p s
            · have HNB := Lib.hid hnb
              have hbt := bof_t.2 hnb
              clear hnb
              go_quiet ((go_at_call 97; first | exact quiet_left (HCT.out _) | exact quiet_add_left (HCT.out _)))
              have HQ3 := Lib.hid (show 3 ≤ cntB ns (bucket (nTxt ns k)) k ↔ (3 ≤ k ∧ bucket (nTxt ns (k - 3)) = bucket (nTxt ns k)) from cntB_three HP.out (fun h => bef_bucket (by rw [HPP.out, HP1.out]; exact HNB.out)))
              rw [HP1.out, hq] at HQ3
              have ck := HKX.out.cell q
              rw [HC.out.2 q hq3] at ck
              have zk := HKX.out.frozen q
              have hcl := cntB_le ns q k
              have HKY := Lib.hid ((HKX.out.drewN nq).set_ q (.int .i64 ((cntB ns q k : Nat) + 1)))
              have HCY := Lib.hid (HC.out.step hq3 (by rw [HP1.out]; exact hq))
              have HBY := Lib.hid ((below_drewN HBX.out nq).setCell (p := ⟨w.heap.size, q, none⟩) (Nat.le_refl _) (.int .i64 ((cntB ns q k : Nat) + 1)))
              have HBY1 := Lib.hid ((below_drewN HBX1.out nq).setCell (p := ⟨w.heap.size, q, none⟩) (Nat.le_refl _) (.int .i64 ((cntB ns q k : Nat) + 1)))
              have HQE := Lib.hid hq
              clear hq
              generalize cntB ns q k = cc at *
              by_cases h3 : 3 ≤ cc
              · have hno := Lib.hid (hNO.out (fun h => by
                  obtain ⟨a1, a2⟩ := HQ3.out.1 h3
                  exact (HOKI.out.1 h).2.2.2 a1 (by rw [a2, HQE.out])))
                go_wp2_with (go_at_call 98; refine (nameBucket_impl _ _ hsk).mono ?_; rw [HQE.out]; rintro e w' ⟨rfl, rfl⟩)
                go_ret
                exact ⟨ret_bof_f hno.out, HBY.out⟩
              · have HP3 := Lib.hid (HP.out.succ (HOKI.out.2 ⟨HTX.out, HF.out, fun h => HNB.out, fun h e => h3 (HQ3.out.2 ⟨h, by rw [e, HQE.out]⟩)⟩))
                go_wp2_with (go_at_call 98; refine (nameBucket_impl _ _ hsk).mono ?_; rw [HQE.out]; rintro e w' ⟨rfl, rfl⟩)
                go_roundw
                case rel => exact ⟨k + 1, _, by omega, by go_num, HP3.out, HCY.out, HKY.out, HBY.out, HBY1.out⟩
                case measure => simp [intOf]; omega
            · have hbt := bof_f.2 hnb
              have hno := Lib.hid (hNO.out (fun h => hnb ((HOKI.out.1 h).2.2.1 hk0)))
              clear hnb
              go_quiet ((go_at_call 97; first | exact quiet_left (HCT.out _) | exact quiet_add_left (HCT.out _)))
              go_wp2
              go_ret
              exact ⟨ret_bof_f hno.out, below_drewN HBX.out _⟩
          · have hkd : decide (0 < k) = false := decide_eq_false hk0
            have hki : decide ((k : Int) > 0) = false := decide_eq_false (by omega)
            go_quiet (fail)
            have HQ3 := Lib.hid (show 3 ≤ cntB ns (bucket (nTxt ns k)) k ↔ (3 ≤ k ∧ bucket (nTxt ns (k - 3)) = bucket (nTxt ns k)) from cntB_three HP.out (fun h => bef_bucket (by rw [HPP.out, HP1.out]; exact absurd h hk0)))
            rw [HP1.out, hq] at HQ3
            have ck := HKX.out.cell q
            rw [HC.out.2 q hq3] at ck
            have zk := HKX.out.frozen q
            have hcl := cntB_le ns q k
            have HKY := Lib.hid ((HKX.out.drewN nq).set_ q (.int .i64 ((cntB ns q k : Nat) + 1)))
            have HCY := Lib.hid (HC.out.step hq3 (by rw [HP1.out]; exact hq))
            have HBY := Lib.hid ((below_drewN HBX.out nq).setCell (p := ⟨w.heap.size, q, none⟩) (Nat.le_refl _) (.int .i64 ((cntB ns q k : Nat) + 1)))
            have HBY1 := Lib.hid ((below_drewN HBX1.out nq).setCell (p := ⟨w.heap.size, q, none⟩) (Nat.le_refl _) (.int .i64 ((cntB ns q k : Nat) + 1)))
            have HQE := Lib.hid hq
            clear hq
            generalize cntB ns q k = cc at *
            by_cases h3 : 3 ≤ cc
            · exact absurd h3 (by omega)
            · have HP3 := Lib.hid (HP.out.succ (HOKI.out.2 ⟨HTX.out, HF.out, fun h => absurd h hk0, fun h e => h3 (HQ3.out.2 ⟨h, by rw [e, HQE.out]⟩)⟩))
              go_wp2_with (go_at_call 98; refine (nameBucket_impl _ _ hsk).mono ?_; rw [HQE.out]; rintro e w' ⟨rfl, rfl⟩)
              go_roundw
              case rel => exact ⟨k + 1, _, by omega, by go_num, HP3.out, HCY.out, HKY.out, HBY.out, HBY1.out⟩
              case measure => simp [intOf]; omega
        · have hno := Lib.hid (hNO.out (fun h => hf (HOKI.out.1 h).2.1))
          clear htx
          by_cases hf1 : f < 0
          · go_wp2
            go_ret
            exact ⟨ret_bof_f hno.out, HBX.out⟩
          · have hf2 : 8 ≤ f := by omega
            go_wp2
            go_ret
            exact ⟨ret_bof_f hno.out, HBX.out⟩
      · have hno := Lib.hid (hNO.out (fun h => htx (HOKI.out.1 h).1))
        rw [bof_f.2 htx]
        clear htx
        go_wp2
        go_ret
        exact ⟨ret_bof_f hno.out, HBX.out⟩
    · obtain rfl : k = n := by omega
      have hyes := Lib.hid (show NamesOk ns from by unfold NamesOk; rw [HL.out]; exact HP.out)
      clear hpre hcnt hblk
      go_wp2
      go_ret
      exact ⟨ret_bof_t hyes.out, hbel⟩
set_option maxHeartbeats 2000000 in
theorem namesValid_spec {A : Option Addr} {n c B : Nat} {ns : List NameV} {w : World} (hr : RdN w B A n ns) (hn : n ≤ 1048576) (hsm : ∀ i, i < n → (nTxt ns i).size ≤ 9223372036854775807) :
    Calls Try.prog 67 #[.slice A n c] w fun e w' => e = .returned (.bool (bof (NamesOk ns))) ∧ ∃ m, w' = w.drewN m := by
  have HL := Lib.hid hr.len
  have HSM := Lib.hid hsm
  clear hsm
  go_enter Try.func67, Try.ntmps67
  go_wp2
  go_loopw [3] (fun i wr => ∃ k : Nat, k ≤ n ∧ i = .int .i64 k ∧ PreN ns k ∧ ∃ m, wr = w.drewN m) (fun i _ => n - (intOf i).toNat)
  case atStart => exact ⟨0, Nat.zero_le _, rfl, PreN.zero _, 0, rfl⟩
  case round =>
    obtain ⟨k, hk, rfl, hpre, m, rfl⟩ := hrel
    have HP := Lib.hid hpre
    clear hpre
    by_cases hlt : k < n
    · have hNO := Lib.hid (show ¬ NamOk ns k → ¬ NamesOk ns from fun h hh => h (hh k (by have := HL.out; omega)))
      obtain ⟨b, off, rfl, hbB, hc⟩ := hr.at_ (by omega)
      obtain ⟨c0, c1⟩ := hc k hlt
      have hsk := HSM.out k hlt
      have HPV := Lib.hid (show 0 < k → w.cell? ⟨b, off + (k - 1) * 2, none⟩ = some (.string (nTxt ns (k - 1))) from fun h => (hc (k - 1) (by omega)).1)
      have HPS := Lib.hid (show 0 < k → (nTxt ns (k - 1)).size ≤ 9223372036854775807 from fun h => HSM.out (k - 1) (by omega))
      have HPV3 := Lib.hid (show 3 ≤ k → w.cell? ⟨b, off + (k - 3) * 2, none⟩ = some (.string (nTxt ns (k - 3))) from fun h => (hc (k - 3) (by omega)).1)
      have HPS3 := Lib.hid (show 3 ≤ k → (nTxt ns (k - 3)).size ≤ 9223372036854775807 from fun h => HSM.out (k - 3) (by omega))
      have HOKI := Lib.hid (show NamOk ns k ↔ TextOk (nTxt ns k) ∧ (0 ≤ nFil ns k ∧ nFil ns k ≤ 7) ∧ (0 < k → NBef (nTxt ns (k - 1)) (nTxt ns k)) ∧ (3 ≤ k → bucket (nTxt ns (k - 3)) ≠ bucket (nTxt ns k)) from Iff.rfl)
      obtain ⟨p, hp⟩ : ∃ p, nTxt ns (k - 1) = p := ⟨_, rfl⟩
      rw [hp] at HPV HPS HOKI
      obtain ⟨r, hr3⟩ : ∃ r, nTxt ns (k - 3) = r := ⟨_, rfl⟩
      rw [hr3] at HPV3 HPS3 HOKI
      obtain ⟨P, hP⟩ : ∃ P, ns.getD k noName = P := ⟨_, rfl⟩
      have hP1 : nTxt ns k = P.1 := by rw [← hP]
      have hP2 : nFil ns k = P.2 := by rw [← hP]
      rw [hP] at c0 c1
      rw [hP1] at hsk HOKI
      rw [hP2] at HOKI
      obtain ⟨s, f⟩ := P
      simp only at c0 c1 hsk HOKI
      clear hc hr hP hP1 hP2 hp hr3
      by_cases htx : TextOk s
      · have hb0 := bucket_ok.2 htx
        have hb2 := bucket_range s
        have HTX := Lib.hid htx
        clear htx
        by_cases hf : 0 ≤ f ∧ f ≤ 7
        · have hin : inB f 0 7 = true := by rw [inB_t]; exact hf
          have HF := Lib.hid hf
          clear hf
          have hq0 : ¬ bucket s < 0 := by omega
          by_cases hk0 : 0 < k
          · have hk1 : (1 : Int) ≤ (k : Int) := by omega
            have hk2 : 0 ≤ (k : Int) - 1 := by omega
            have hki : decide ((k : Int) > 0) = true := decide_eq_true (by omega)
            have px := HPV.out hk0
            have hps := HPS.out hk0
            by_cases hgt : bucket s < bucket p
            · have hno := Lib.hid (hNO.out (fun h => by have := bef_bucket ((HOKI.out.1 h).2.2.1 hk0); omega))
              have hd1 : decide (bucket s < bucket p) = true := decide_eq_true hgt
              go_upto_region 9 with (first | (go_at_call 32; refine (l1In_c _ _ _ _).mono ?_; rw [hin]; rintro e w' ⟨rfl, rfl⟩) | (go_at_call 101; refine (nameBucket_spec _ _ (by assumption)).mono ?_; rintro e w' ⟨rfl, rfl⟩))
              go_quiet (fail)
              go_wp2
              go_ret
              exact ⟨ret_bof_f hno.out, _, by first | rfl | rw [World.drewN_drewN]⟩
            · have hd1 : decide (bucket s < bucket p) = false := decide_eq_false hgt
              by_cases heq : bucket p = bucket s
              · have he1 : (bucket p == bucket s) = true := by simp [heq]
                have HEQ := Lib.hid heq
                clear heq
                by_cases hle : (Op.bytesLess s.toList p.toList || s.toList == p.toList) = true
                · have hno := Lib.hid (hNO.out (fun h => by
                    rcases (HOKI.out.1 h).2.2.1 hk0 with h1 | ⟨_, h1⟩
                    · have := HEQ.out; omega
                    · exact (sLe_iff s p).1 hle h1))
                  have hlt' := hle
                  go_upto_region 9 with (first | (go_at_call 32; refine (l1In_c _ _ _ _).mono ?_; rw [hin]; rintro e w' ⟨rfl, rfl⟩) | (go_at_call 101; refine (nameBucket_spec _ _ (by assumption)).mono ?_; rintro e w' ⟨rfl, rfl⟩))
                  go_quiet (fail)
                  go_wp2
                  go_ret
                  exact ⟨ret_bof_f hno.out, _, by first | rfl | rw [World.drewN_drewN]⟩
                · have HBF := Lib.hid (show NBef p s from .inr ⟨HEQ.out, by
                    rcases sLt_total p s with h1 | h1 | h1
                    · exact h1
                    · exact absurd ((sLe_iff s p).2 (by rw [h1]; exact sLt_irrefl _)) hle
                    · exact absurd ((sLe_iff s p).2 (fun h2 => sLt_irrefl _ (sLt_trans h1 h2))) hle⟩)
                  have hlf : (Op.bytesLess s.toList p.toList || s.toList == p.toList) = false := by simpa using hle
                  clear hle
                  go_upto_region 9 with (first | (go_at_call 32; refine (l1In_c _ _ _ _).mono ?_; rw [hin]; rintro e w' ⟨rfl, rfl⟩) | (go_at_call 101; refine (nameBucket_spec _ _ (by assumption)).mono ?_; rintro e w' ⟨rfl, rfl⟩))
                  go_quiet (fail)
                  by_cases h3 : 3 ≤ k
                  · have h31 : (3 : Int) ≤ (k : Int) := by omega
                    have h32 : 0 ≤ (k : Int) - 3 := by omega
                    have px3 := HPV3.out h3
                    have hps3 := HPS3.out h3
                    by_cases hb3 : bucket r = bucket s
                    · have hq3 : (bucket r == bucket s) = true := by simp [hb3]
                      have hno := Lib.hid (hNO.out (fun h => (HOKI.out.1 h).2.2.2 h3 hb3))
                      clear hb3
                      go_wp2_with (first | (go_at_call 32; refine (l1In_c _ _ _ _).mono ?_; rw [hin]; rintro e w' ⟨rfl, rfl⟩) | (go_at_call 101; refine (nameBucket_spec _ _ (by assumption)).mono ?_; rintro e w' ⟨rfl, rfl⟩))
                      go_ret
                      exact ⟨ret_bof_f hno.out, _, by first | rfl | rw [World.drewN_drewN]⟩
                    · have hq3 : (bucket r == bucket s) = false := by simp [hb3]
                      have HP3 := Lib.hid (HP.out.succ (HOKI.out.2 ⟨HTX.out, HF.out, fun _ => HBF.out, fun _ => hb3⟩))
                      clear hb3
                      go_wp2_with (first | (go_at_call 32; refine (l1In_c _ _ _ _).mono ?_; rw [hin]; rintro e w' ⟨rfl, rfl⟩) | (go_at_call 101; refine (nameBucket_spec _ _ (by assumption)).mono ?_; rintro e w' ⟨rfl, rfl⟩))
                      go_roundw
                      case rel => exact ⟨k + 1, by omega, by go_num, HP3.out, _, by first | rfl | rw [World.drewN_drewN]⟩
                      case measure => simp [intOf]; omega
                  · have HP3 := Lib.hid (HP.out.succ (HOKI.out.2 ⟨HTX.out, HF.out, fun _ => HBF.out, fun h => absurd h h3⟩))
                    go_wp2_with (first | (go_at_call 32; refine (l1In_c _ _ _ _).mono ?_; rw [hin]; rintro e w' ⟨rfl, rfl⟩) | (go_at_call 101; refine (nameBucket_spec _ _ (by assumption)).mono ?_; rintro e w' ⟨rfl, rfl⟩))
                    go_roundw
                    case rel => exact ⟨k + 1, by omega, by go_num, HP3.out, _, by first | rfl | rw [World.drewN_drewN]⟩
                    case measure => simp [intOf]; omega
              · have he1 : (bucket p == bucket s) = false := by simp [heq]
                have HBF := Lib.hid (show NBef p s from .inl (by omega))
                clear heq
                go_upto_region 9 with (first | (go_at_call 32; refine (l1In_c _ _ _ _).mono ?_; rw [hin]; rintro e w' ⟨rfl, rfl⟩) | (go_at_call 101; refine (nameBucket_spec _ _ (by assumption)).mono ?_; rintro e w' ⟨rfl, rfl⟩))
                go_quiet (fail)
                by_cases h3 : 3 ≤ k
                · have h31 : (3 : Int) ≤ (k : Int) := by omega
                  have h32 : 0 ≤ (k : Int) - 3 := by omega
                  have px3 := HPV3.out h3
                  have hps3 := HPS3.out h3
                  by_cases hb3 : bucket r = bucket s
                  · have hq3 : (bucket r == bucket s) = true := by simp [hb3]
                    have hno := Lib.hid (hNO.out (fun h => (HOKI.out.1 h).2.2.2 h3 hb3))
                    clear hb3
                    go_wp2_with (first | (go_at_call 32; refine (l1In_c _ _ _ _).mono ?_; rw [hin]; rintro e w' ⟨rfl, rfl⟩) | (go_at_call 101; refine (nameBucket_spec _ _ (by assumption)).mono ?_; rintro e w' ⟨rfl, rfl⟩))
                    go_ret
                    exact ⟨ret_bof_f hno.out, _, by first | rfl | rw [World.drewN_drewN]⟩
                  · have hq3 : (bucket r == bucket s) = false := by simp [hb3]
                    have HP3 := Lib.hid (HP.out.succ (HOKI.out.2 ⟨HTX.out, HF.out, fun _ => HBF.out, fun _ => hb3⟩))
                    clear hb3
                    go_wp2_with (first | (go_at_call 32; refine (l1In_c _ _ _ _).mono ?_; rw [hin]; rintro e w' ⟨rfl, rfl⟩) | (go_at_call 101; refine (nameBucket_spec _ _ (by assumption)).mono ?_; rintro e w' ⟨rfl, rfl⟩))
                    go_roundw
                    case rel => exact ⟨k + 1, by omega, by go_num, HP3.out, _, by first | rfl | rw [World.drewN_drewN]⟩
                    case measure => simp [intOf]; omega
                · have HP3 := Lib.hid (HP.out.succ (HOKI.out.2 ⟨HTX.out, HF.out, fun _ => HBF.out, fun h => absurd h h3⟩))
                  go_wp2_with (first | (go_at_call 32; refine (l1In_c _ _ _ _).mono ?_; rw [hin]; rintro e w' ⟨rfl, rfl⟩) | (go_at_call 101; refine (nameBucket_spec _ _ (by assumption)).mono ?_; rintro e w' ⟨rfl, rfl⟩))
                  go_roundw
                  case rel => exact ⟨k + 1, by omega, by go_num, HP3.out, _, by first | rfl | rw [World.drewN_drewN]⟩
                  case measure => simp [intOf]; omega
          · have hki : decide ((k : Int) > 0) = false := decide_eq_false (by omega)
            have h3 : ¬ 3 ≤ k := by omega
            · have HP3 := Lib.hid (HP.out.succ (HOKI.out.2 ⟨HTX.out, HF.out, fun h => absurd h hk0, fun h => absurd h h3⟩))
              go_wp2_with (first | (go_at_call 32; refine (l1In_c _ _ _ _).mono ?_; rw [hin]; rintro e w' ⟨rfl, rfl⟩) | (go_at_call 101; refine (nameBucket_spec _ _ (by assumption)).mono ?_; rintro e w' ⟨rfl, rfl⟩))
              go_roundw
              case rel => exact ⟨k + 1, by omega, by go_num, HP3.out, _, by first | rfl | rw [World.drewN_drewN]⟩
              case measure => simp [intOf]; omega
        · have hin : inB f 0 7 = false := by rw [inB_f]; omega
          have hno := Lib.hid (hNO.out (fun h => hf (HOKI.out.1 h).2.1))
          have hq0 : ¬ bucket s < 0 := by omega
          go_wp2_with (first | (go_at_call 32; refine (l1In_c _ _ _ _).mono ?_; rw [hin]; rintro e w' ⟨rfl, rfl⟩) | (go_at_call 101; refine (nameBucket_spec _ _ (by assumption)).mono ?_; rintro e w' ⟨rfl, rfl⟩))
          go_ret
          exact ⟨ret_bof_f hno.out, _, by first | rfl | rw [World.drewN_drewN]⟩
      · have hno := Lib.hid (hNO.out (fun h => htx (HOKI.out.1 h).1))
        have hb0 : bucket s < 0 := by have := mt bucket_ok.1 htx; omega
        clear htx
        go_wp2_with (go_at_call 101; refine (nameBucket_spec _ _ (by assumption)).mono ?_; rintro e w' ⟨rfl, rfl⟩)
        go_ret
        exact ⟨ret_bof_f hno.out, _, by first | rfl | rw [World.drewN_drewN]⟩
    · obtain rfl : k = n := by omega
      have hyes := Lib.hid (show NamesOk ns from by unfold NamesOk; rw [HL.out]; exact HP.out)
      go_wp2
      go_ret
      exact ⟨ret_bof_t hyes.out, m, rfl⟩
end Go.Proofs.Ytjnpgdhpneifjaa
