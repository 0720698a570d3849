/- Parts of the proof, one after the other; each says what it proves. -/
import Derived.Test.YtjnpgdhpneifjaaG2
import Derived.Test.YtjnpgdhpneifjaaG13
import Derived.Test.YtjnpgdhpneifjaaG6
/- NamesValid, the program's and the reference's. Condition: at most 2^20 names. -/
namespace Go.Proofs.Ytjnpgdhpneifjaa
open Go.ChangeShapes Go.WideShapes Go.ChangeAt Go.RowKit Go.Deep
set_option linter.unusedVariables false
set_option linter.unusedSimpArgs false

abbrev nTxt (ns : List NameV) (i : Nat) : ByteArray := (ns.getD i noName).1
abbrev nFil (ns : List NameV) (i : Nat) : Int := (ns.getD i noName).2
/-- what name i wants -/
def NamOk (ns : List NameV) (i : Nat) : Prop := TextOk (nTxt ns i) ∧ (0 ≤ nFil ns i ∧ nFil ns i ≤ 7) ∧ (0 < i → NBef (nTxt ns (i - 1)) (nTxt ns i)) ∧ (3 ≤ i → bucket (nTxt ns (i - 3)) ≠ bucket (nTxt ns i))
def PreN (ns : List NameV) (k : Nat) : Prop := ∀ i, i < k → NamOk ns i
def NamesOk (ns : List NameV) : Prop := PreN ns ns.length
theorem PreN.zero (ns : List NameV) : PreN ns 0 := fun i h => absurd h (Nat.not_lt_zero _)
theorem PreN.succ {ns : List NameV} {k : Nat} (h : PreN ns k) (h1 : NamOk ns k) : PreN ns (k + 1) := by
  intro i hi
  by_cases e : i = k
  · subst e; exact h1
  · exact h i (by omega)
theorem bef_bucket {a b : ByteArray} (h : NBef a b) : bucket a ≤ bucket b := by rcases h with h | ⟨h, _⟩ <;> omega
theorem PreN.mono {ns : List NameV} {k : Nat} (h : PreN ns k) : ∀ {i j : Nat}, i ≤ j → j < k → bucket (nTxt ns i) ≤ bucket (nTxt ns j)
  | i, 0, hij, hj => by obtain rfl : i = 0 := by omega
                        exact Int.le_refl _
  | i, j + 1, hij, hj => by
    by_cases e : i = j + 1
    · subst e; exact Int.le_refl _
    · have h1 := h.mono (i := i) (j := j) (by omega) (by omega)
      have h2 := bef_bucket ((h (j + 1) hj).2.2.1 (by omega))
      simp only [Nat.add_sub_cancel] at h2
      exact Int.le_trans h1 h2
open Classical in
/-- how many of the first k names lie in bucket b -/
noncomputable def cntB (ns : List NameV) (b : Int) : Nat → Nat
  | 0 => 0
  | k + 1 => cntB ns b k + if bucket (nTxt ns k) = b then 1 else 0
theorem cntB_le (ns : List NameV) (b : Int) : ∀ k, cntB ns b k ≤ k
  | 0 => Nat.le_refl _
  | k + 1 => by have := cntB_le ns b k; unfold cntB; split <;> omega
theorem cntB_yes {ns : List NameV} {b : Int} {k : Nat} (h : bucket (nTxt ns k) = b) : cntB ns b (k + 1) = cntB ns b k + 1 := by
  show cntB ns b k + _ = _; rw [if_pos h]
theorem cntB_no {ns : List NameV} {b : Int} {k : Nat} (h : bucket (nTxt ns k) ≠ b) : cntB ns b (k + 1) = cntB ns b k := by
  show cntB ns b k + _ = _; rw [if_neg h]; rfl
theorem cntB_zero {ns : List NameV} {b : Int} : ∀ {k : Nat}, (∀ i, i < k → bucket (nTxt ns i) ≠ b) → cntB ns b k = 0
  | 0, _ => rfl
  | k + 1, h => by rw [cntB_no (h k (by omega))]; exact cntB_zero (fun i hi => h i (by omega))
theorem cntB_mono (ns : List NameV) (b : Int) (k : Nat) : cntB ns b k ≤ cntB ns b (k + 1) := by
  show _ ≤ cntB ns b k + _; omega
/-- three in the bucket already: the one three places before is among them -/
theorem cntB_three {ns : List NameV} {k : Nat} (hp : PreN ns k) (hb : 0 < k → bucket (nTxt ns (k - 1)) ≤ bucket (nTxt ns k)) : 3 ≤ cntB ns (bucket (nTxt ns k)) k ↔ (3 ≤ k ∧ bucket (nTxt ns (k - 3)) = bucket (nTxt ns k)) := by
  constructor
  · intro h
    have hle := cntB_le ns (bucket (nTxt ns k)) k
    refine ⟨by omega, ?_⟩
    obtain ⟨q, rfl⟩ : ∃ q, k = q + 3 := ⟨k - 3, by omega⟩
    have e0 : q + 3 - 3 = q := by omega
    have e1 : q + 3 - 1 = q + 2 := by omega
    rw [e0]
    rw [e1] at hb
    by_cases hne : bucket (nTxt ns q) = bucket (nTxt ns (q + 3))
    · exact hne
    · exfalso
      have hm := hp.mono (i := q) (j := q + 2) (by omega) (by omega)
      have hlt : bucket (nTxt ns q) < bucket (nTxt ns (q + 3)) := by have := hb (by omega); omega
      have hz : cntB ns (bucket (nTxt ns (q + 3))) (q + 1) = 0 := cntB_zero (fun i hi => by have := hp.mono (i := i) (j := q) (by omega) (by omega); omega)
      have a1 : cntB ns (bucket (nTxt ns (q + 3))) (q + 3) ≤ cntB ns (bucket (nTxt ns (q + 3))) (q + 1) + 2 := by
        have b1 : cntB ns (bucket (nTxt ns (q + 3))) (q + 2) ≤ cntB ns (bucket (nTxt ns (q + 3))) (q + 1) + 1 := by
          show cntB _ _ (q + 1) + _ ≤ _; split <;> omega
        have b2 : cntB ns (bucket (nTxt ns (q + 3))) (q + 3) ≤ cntB ns (bucket (nTxt ns (q + 3))) (q + 2) + 1 := by
          show cntB _ _ (q + 2) + _ ≤ _; split <;> omega
        omega
      omega
  · rintro ⟨h3, he⟩
    obtain ⟨q, rfl⟩ : ∃ q, k = q + 3 := ⟨k - 3, by omega⟩
    have e0 : q + 3 - 3 = q := by omega
    have e1 : q + 3 - 1 = q + 2 := by omega
    rw [e0] at he
    rw [e1] at hb
    have m1 := hp.mono (i := q) (j := q + 1) (by omega) (by omega)
    have m2 := hp.mono (i := q + 1) (j := q + 2) (by omega) (by omega)
    have m3 := hb (by omega)
    have c0 := cntB_yes (ns := ns) (b := bucket (nTxt ns (q + 3))) (k := q) he
    have c1 := cntB_yes (ns := ns) (b := bucket (nTxt ns (q + 3))) (k := q + 1) (by omega)
    have c2 := cntB_yes (ns := ns) (b := bucket (nTxt ns (q + 3))) (k := q + 2) (by omega)
    have d1 : cntB ns (bucket (nTxt ns (q + 3))) (q + 1 + 1) = cntB ns (bucket (nTxt ns (q + 3))) (q + 2) := rfl
    have d2 : cntB ns (bucket (nTxt ns (q + 3))) (q + 2 + 1) = cntB ns (bucket (nTxt ns (q + 3))) (q + 3) := rfl
    omega
/-- three cells that hold the counts -/
def Counts (cs : Array Value) (ns : List NameV) (k : Nat) : Prop := cs.size = 3 ∧ ∀ b : Nat, b < 3 → cs[b]? = some (.int .i64 (cntB ns b k : Nat))
theorem Counts.zero (ns : List NameV) : Counts #[.int .i64 0, .int .i64 0, .int .i64 0] ns 0 := by
  refine ⟨rfl, fun b hb => ?_⟩
  match b, hb with
  | 0, _ => rfl
  | 1, _ => rfl
  | 2, _ => rfl
theorem Counts.step {cs : Array Value} {ns : List NameV} {k b : Nat} (h : Counts cs ns k) (hb : b < 3) (he : bucket (nTxt ns k) = (b : Int)) : Counts (cs.setIfInBounds b (.int .i64 ((cntB ns b k : Nat) + 1))) ns (k + 1) := by
  refine ⟨by simp [h.1], fun b' hb' => ?_⟩
  by_cases e : b = b'
  · subst e
    rw [Array.getElem?_setIfInBounds_self_of_lt (by rw [h.1]; exact hb), cntB_yes he]
    simp
  · rw [Array.getElem?_setIfInBounds_ne e, h.2 b' hb', cntB_no (by omega)]
theorem namesValid_impl {A : Option Addr} {n c B : Nat} {ns : List NameV} {w : World} (hr : RdN w B A n ns) (hB : B ≤ w.heap.size) (hn : n ≤ 1048576) (hsm : ∀ i, i < n → (nTxt ns i).size ≤ 9223372036854775807) :
    Calls Try.prog 62 #[.slice A n c] w fun e w' => e = .returned (.bool (bof (NamesOk ns))) ∧ Below w.heap.size w w' := by
  have HL := Lib.hid hr.len
  have HSM := Lib.hid hsm
  have b1 : Below w.heap.size w (w.alloc (.cells #[.int .i64 0, .int .i64 0, .int .i64 0] 119)) := (Below.refl _ _).alloc (Nat.le_refl _) _
  have k1 := Blk.new w 119 #[.int .i64 0, .int .i64 0, .int .i64 0]
  have hr1 := (hr.mono hB).below b1
  have B1 := Lib.hid b1
  have K1 := Lib.hid k1
  clear hsm b1 k1 hr
  go_enter Try.func62, Try.ntmps62
  go_wp2
  generalize w.alloc (.cells #[.int .i64 0, .int .i64 0, .int .i64 0] 119) = w1 at *
  go_loopw [9] (fun i wr => ∃ (k : Nat) (cs : Array Value), k ≤ n ∧ i = .int .i64 k ∧ PreN ns k ∧ Counts cs ns k ∧ Blk wr w.heap.size 119 cs ∧ Below w.heap.size w wr ∧ Below w.heap.size w1 wr) (fun i _ => n - (intOf i).toNat)
  case atStart => exact ⟨0, _, Nat.zero_le _, rfl, PreN.zero _, Counts.zero _, K1.out, B1.out, Below.refl _ _⟩
  case round =>
    obtain ⟨k, cs, hk, rfl, hpre, hcnt, hblk, hbel, hb1⟩ := hrel
    have HP := Lib.hid hpre
    have HC := Lib.hid hcnt
    by_cases hlt : k < n
    · have hNO := Lib.hid (show ¬ NamOk ns k → ¬ NamesOk ns from fun h hh => h (hh k (by have := HL.out; omega)))
      obtain ⟨b, off, rfl, hbB, hc⟩ := hr1.at_ (by omega)
      obtain ⟨c0, c1⟩ := hc k hlt
      have hbw : b < w.heap.size := by omega
      replace c0 := (hb1.cell (p := ⟨b, off + k * 2, none⟩) hbw).trans c0
      replace c1 := (hb1.cell (p := ⟨b, off + k * 2 + 1, none⟩) hbw).trans c1
      have hsk := HSM.out k hlt
      have hbl := Blk.lt hblk
      have hsz := hbel.size
      have HK := Lib.hid hblk
      have HB := Lib.hid hbel
      have HB1 := Lib.hid hb1
      have HCL := Lib.hid hc
      have HPV := Lib.hid (show 0 < k → wr.cell? ⟨b, off + (k - 1) * 2, none⟩ = some (.string (nTxt ns (k - 1))) from fun h => (hb1.cell (p := ⟨b, off + (k - 1) * 2, none⟩) hbw).trans (hc (k - 1) (by omega)).1)
      have HPS := Lib.hid (show 0 < k → (nTxt ns (k - 1)).size ≤ 9223372036854775807 from fun h => HSM.out (k - 1) (by omega))
      have HOKI := Lib.hid (show NamOk ns k ↔ TextOk (nTxt ns k) ∧ (0 ≤ nFil ns k ∧ nFil ns k ≤ 7) ∧ (0 < k → NBef (nTxt ns (k - 1)) (nTxt ns k)) ∧ (3 ≤ k → bucket (nTxt ns (k - 3)) ≠ bucket (nTxt ns k)) from Iff.rfl)
      have HBK := Lib.hid (show bucket (nTxt ns k) = bucket (nTxt ns k) from rfl)
      obtain ⟨p, hp⟩ : ∃ p, nTxt ns (k - 1) = p := ⟨_, rfl⟩
      rw [hp] at HPV HPS HOKI
      obtain ⟨P, hP⟩ : ∃ P, ns.getD k noName = P := ⟨_, rfl⟩
      have hP1 : nTxt ns k = P.1 := by rw [← hP]
      have hP2 : nFil ns k = P.2 := by rw [← hP]
      rw [hP] at c0 c1
      rw [hP1] at hsk HOKI
      rw [hP2] at HOKI
      have HP1 := Lib.hid hP1
      have HPP := Lib.hid hp
      obtain ⟨s, f⟩ := P
      simp only at c0 c1 hsk HOKI HP1
      clear hpre hcnt hc hr1 hblk hbel hb1 hP hP1 hP2 hp
      go_wp2_with fail
      have kx := Blk.new wr 90 #[.string s, .int .i64 f]
      have HKX := Lib.hid (HK.out.alloc (.cells #[.string s, .int .i64 f] 90))
      have HBX := Lib.hid (HB.out.alloc hsz (.cells #[.string s, .int .i64 f] 90))
      have HBX1 := Lib.hid (HB1.out.alloc (by have := HB1.out.size; omega) (.cells #[.string s, .int .i64 f] 90))
      have HPX := Lib.hid (show 0 < k → (wr.alloc (.cells #[.string s, .int .i64 f] 90)).cell? ⟨b, off + (k - 1) * 2, none⟩ = some (.string p) from fun h => (((Below.refl _ _).alloc (Nat.le_refl _) _).cell (p := ⟨b, off + (k - 1) * 2, none⟩) (by show b < wr.heap.size; omega)).trans (HPV.out h))
      have x0 : (wr.alloc (.cells #[.string s, .int .i64 f] 90)).cell? ⟨wr.heap.size, 0, none⟩ = some (.string s) := kx.cell 0
      have x1 : (wr.alloc (.cells #[.string s, .int .i64 f] 90)).cell? ⟨wr.heap.size, 1, none⟩ = some (.int .i64 f) := kx.cell 1
      have hne : w.heap.size ≠ wr.heap.size := by omega
      clear HK HB HB1 HPV c0 c1 kx
      generalize wr.alloc (.cells #[.string s, .int .i64 f] 90) = wx at *
      generalize wr.heap.size = gx at *
      refine (textValid_impl s _ hsk).mono ?_
      rintro e w' ⟨rfl, rfl⟩
      by_cases htx : TextOk s
      · rw [bof_t.2 htx]
        by_cases hf : 0 ≤ f ∧ f ≤ 7
        · have hf1 : ¬ f < 0 := by omega
          have hf2 : ¬ 8 ≤ f := by omega
          have HTX := Lib.hid htx
          have HF := Lib.hid hf
          clear htx hf
          go_upto_region 7 with (fail)
          obtain ⟨q, hq, hq3⟩ : ∃ q : Nat, bucket s = (q : Int) ∧ q < 3 := ⟨(bucket s).toNat, by have := bucket_ok.2 HTX.out; omega, by have := bucket_ok.2 HTX.out; have := (bucket_range s).2; omega⟩
          by_cases hk0 : 0 < k
          · have hk1 : (1 : Int) ≤ (k : Int) := by omega
            have hk2 : 0 ≤ (k : Int) - 1 := by omega
            have hkd : decide (0 < k) = true := decide_eq_true hk0
            have hki : decide ((k : Int) > 0) = true := decide_eq_true (by omega)
            have px := HPX.out hk0
            have hps := HPS.out hk0
            have HCT := Lib.hid (fun W => nameBefore_c p s W hps hsk)
            by_cases hnb : NBef p s
            · have HNB := Lib.hid hnb
              have hbt := bof_t.2 hnb
              clear hnb
              go_quiet ((go_at_call 97; first | exact quiet_left (HCT.out _) | exact quiet_add_left (HCT.out _)))
              have HQ3 := Lib.hid (show 3 ≤ cntB ns (bucket (nTxt ns k)) k ↔ (3 ≤ k ∧ bucket (nTxt ns (k - 3)) = bucket (nTxt ns k)) from cntB_three HP.out (fun h => bef_bucket (by rw [HPP.out, HP1.out]; exact HNB.out)))
              rw [HP1.out, hq] at HQ3
              have ck := HKX.out.cell q
              rw [HC.out.2 q hq3] at ck
              have zk := HKX.out.frozen q
              have hcl := cntB_le ns q k
              have HKY := Lib.hid ((HKX.out.drewN nq).set_ q (.int .i64 ((cntB ns q k : Nat) + 1)))
              have HCY := Lib.hid (HC.out.step hq3 (by rw [HP1.out]; exact hq))
              have HBY := Lib.hid ((below_drewN HBX.out nq).setCell (p := ⟨w.heap.size, q, none⟩) (Nat.le_refl _) (.int .i64 ((cntB ns q k : Nat) + 1)))
              have HBY1 := Lib.hid ((below_drewN HBX1.out nq).setCell (p := ⟨w.heap.size, q, none⟩) (Nat.le_refl _) (.int .i64 ((cntB ns q k : Nat) + 1)))
              have HQE := Lib.hid hq
              clear hq
              generalize cntB ns q k = cc at *
              by_cases h3 : 3 ≤ cc
              · have hno := Lib.hid (hNO.out (fun h => by
                  obtain ⟨a1, a2⟩ := HQ3.out.1 h3
                  exact (HOKI.out.1 h).2.2.2 a1 (by rw [a2, HQE.out])))
                go_wp2_with (go_at_call 98; refine (nameBucket_impl _ _ hsk).mono ?_; rw [HQE.out]; rintro e w' ⟨rfl, rfl⟩)
                go_ret
                exact ⟨ret_bof_f hno.out, HBY.out⟩
              · have HP3 := Lib.hid (HP.out.succ (HOKI.out.2 ⟨HTX.out, HF.out, fun h => HNB.out, fun h e => h3 (HQ3.out.2 ⟨h, by rw [e, HQE.out]⟩)⟩))
                go_wp2_with (go_at_call 98; refine (nameBucket_impl _ _ hsk).mono ?_; rw [HQE.out]; rintro e w' ⟨rfl, rfl⟩)
                go_roundw
                case rel => exact ⟨k + 1, _, by omega, by go_num, HP3.out, HCY.out, HKY.out, HBY.out, HBY1.out⟩
                case measure => simp [intOf]; omega
            · have hbt := bof_f.2 hnb
              have hno := Lib.hid (hNO.out (fun h => hnb ((HOKI.out.1 h).2.2.1 hk0)))
              clear hnb
              go_quiet ((go_at_call 97; first | exact quiet_left (HCT.out _) | exact quiet_add_left (HCT.out _)))
              go_wp2
              go_ret
              exact ⟨ret_bof_f hno.out, below_drewN HBX.out _⟩
          · have hkd : decide (0 < k) = false := decide_eq_false hk0
            have hki : decide ((k : Int) > 0) = false := decide_eq_false (by omega)
            go_quiet (fail)
            have HQ3 := Lib.hid (show 3 ≤ cntB ns (bucket (nTxt ns k)) k ↔ (3 ≤ k ∧ bucket (nTxt ns (k - 3)) = bucket (nTxt ns k)) from cntB_three HP.out (fun h => bef_bucket (by rw [HPP.out, HP1.out]; exact absurd h hk0)))
            rw [HP1.out, hq] at HQ3
            have ck := HKX.out.cell q
            rw [HC.out.2 q hq3] at ck
            have zk := HKX.out.frozen q
            have hcl := cntB_le ns q k
            have HKY := Lib.hid ((HKX.out.drewN nq).set_ q (.int .i64 ((cntB ns q k : Nat) + 1)))
            have HCY := Lib.hid (HC.out.step hq3 (by rw [HP1.out]; exact hq))
            have HBY := Lib.hid ((below_drewN HBX.out nq).setCell (p := ⟨w.heap.size, q, none⟩) (Nat.le_refl _) (.int .i64 ((cntB ns q k : Nat) + 1)))
            have HBY1 := Lib.hid ((below_drewN HBX1.out nq).setCell (p := ⟨w.heap.size, q, none⟩) (Nat.le_refl _) (.int .i64 ((cntB ns q k : Nat) + 1)))
            have HQE := Lib.hid hq
            clear hq
            generalize cntB ns q k = cc at *
            by_cases h3 : 3 ≤ cc
            · exact absurd h3 (by omega)
            · have HP3 := Lib.hid (HP.out.succ (HOKI.out.2 ⟨HTX.out, HF.out, fun h => absurd h hk0, fun h e => h3 (HQ3.out.2 ⟨h, by rw [e, HQE.out]⟩)⟩))
              go_wp2_with (go_at_call 98; refine (nameBucket_impl _ _ hsk).mono ?_; rw [HQE.out]; rintro e w' ⟨rfl, rfl⟩)
              go_roundw
              case rel => exact ⟨k + 1, _, by omega, by go_num, HP3.out, HCY.out, HKY.out, HBY.out, HBY1.out⟩
              case measure => simp [intOf]; omega
        · have hno := Lib.hid (hNO.out (fun h => hf (HOKI.out.1 h).2.1))
          clear htx
          by_cases hf1 : f < 0
          · go_wp2
            go_ret
            exact ⟨ret_bof_f hno.out, HBX.out⟩
          · have hf2 : 8 ≤ f := by omega
            go_wp2
            go_ret
            exact ⟨ret_bof_f hno.out, HBX.out⟩
      · have hno := Lib.hid (hNO.out (fun h => htx (HOKI.out.1 h).1))
        rw [bof_f.2 htx]
        clear htx
        go_wp2
        go_ret
        exact ⟨ret_bof_f hno.out, HBX.out⟩
    · obtain rfl : k = n := by omega
      have hyes := Lib.hid (show NamesOk ns from by unfold NamesOk; rw [HL.out]; exact HP.out)
      clear hpre hcnt hblk
      go_wp2
      go_ret
      exact ⟨ret_bof_t hyes.out, hbel⟩
set_option maxHeartbeats 2000000 in
theorem namesValid_spec {A : Option Addr} {n c B : Nat} {ns : List NameV} {w : World} (hr : RdN w B A n ns) (hn : n ≤ 1048576) (hsm : ∀ i, i < n → (nTxt ns i).size ≤ 9223372036854775807) :
    Calls Try.prog 67 #[.slice A n c] w fun e w' => e = .returned (.bool (bof (NamesOk ns))) ∧ ∃ m, w' = w.drewN m := by
  have HL := Lib.hid hr.len
  have HSM := Lib.hid hsm
  clear hsm
  go_enter Try.func67, Try.ntmps67
  go_wp2
  go_loopw [3] (fun i wr => ∃ k : Nat, k ≤ n ∧ i = .int .i64 k ∧ PreN ns k ∧ ∃ m, wr = w.drewN m) (fun i _ => n - (intOf i).toNat)
  case atStart => exact ⟨0, Nat.zero_le _, rfl, PreN.zero _, 0, rfl⟩
  case round =>
    obtain ⟨k, hk, rfl, hpre, m, rfl⟩ := hrel
    have HP := Lib.hid hpre
    clear hpre
    by_cases hlt : k < n
    · have hNO := Lib.hid (show ¬ NamOk ns k → ¬ NamesOk ns from fun h hh => h (hh k (by have := HL.out; omega)))
      obtain ⟨b, off, rfl, hbB, hc⟩ := hr.at_ (by omega)
      obtain ⟨c0, c1⟩ := hc k hlt
      have hsk := HSM.out k hlt
      have HPV := Lib.hid (show 0 < k → w.cell? ⟨b, off + (k - 1) * 2, none⟩ = some (.string (nTxt ns (k - 1))) from fun h => (hc (k - 1) (by omega)).1)
      have HPS := Lib.hid (show 0 < k → (nTxt ns (k - 1)).size ≤ 9223372036854775807 from fun h => HSM.out (k - 1) (by omega))
      have HPV3 := Lib.hid (show 3 ≤ k → w.cell? ⟨b, off + (k - 3) * 2, none⟩ = some (.string (nTxt ns (k - 3))) from fun h => (hc (k - 3) (by omega)).1)
      have HPS3 := Lib.hid (show 3 ≤ k → (nTxt ns (k - 3)).size ≤ 9223372036854775807 from fun h => HSM.out (k - 3) (by omega))
      have HOKI := Lib.hid (show NamOk ns k ↔ TextOk (nTxt ns k) ∧ (0 ≤ nFil ns k ∧ nFil ns k ≤ 7) ∧ (0 < k → NBef (nTxt ns (k - 1)) (nTxt ns k)) ∧ (3 ≤ k → bucket (nTxt ns (k - 3)) ≠ bucket (nTxt ns k)) from Iff.rfl)
      obtain ⟨p, hp⟩ : ∃ p, nTxt ns (k - 1) = p := ⟨_, rfl⟩
      rw [hp] at HPV HPS HOKI
      obtain ⟨r, hr3⟩ : ∃ r, nTxt ns (k - 3) = r := ⟨_, rfl⟩
      rw [hr3] at HPV3 HPS3 HOKI
      obtain ⟨P, hP⟩ : ∃ P, ns.getD k noName = P := ⟨_, rfl⟩
      have hP1 : nTxt ns k = P.1 := by rw [← hP]
      have hP2 : nFil ns k = P.2 := by rw [← hP]
      rw [hP] at c0 c1
      rw [hP1] at hsk HOKI
      rw [hP2] at HOKI
      obtain ⟨s, f⟩ := P
      simp only at c0 c1 hsk HOKI
      clear hc hr hP hP1 hP2 hp hr3
      by_cases htx : TextOk s
      · have hb0 := bucket_ok.2 htx
        have hb2 := bucket_range s
        have HTX := Lib.hid htx
        clear htx
        by_cases hf : 0 ≤ f ∧ f ≤ 7
        · have hin : inB f 0 7 = true := by rw [inB_t]; exact hf
          have HF := Lib.hid hf
          clear hf
          have hq0 : ¬ bucket s < 0 := by omega
          by_cases hk0 : 0 < k
          · have hk1 : (1 : Int) ≤ (k : Int) := by omega
            have hk2 : 0 ≤ (k : Int) - 1 := by omega
            have hki : decide ((k : Int) > 0) = true := decide_eq_true (by omega)
            have px := HPV.out hk0
            have hps := HPS.out hk0
            by_cases hgt : bucket s < bucket p
            · have hno := Lib.hid (hNO.out (fun h => by have := bef_bucket ((HOKI.out.1 h).2.2.1 hk0); omega))
              have hd1 : decide (bucket s < bucket p) = true := decide_eq_true hgt
              go_upto_region 9 with (first | (go_at_call 32; refine (l1In_c _ _ _ _).mono ?_; rw [hin]; rintro e w' ⟨rfl, rfl⟩) | (go_at_call 101; refine (nameBucket_spec _ _ (by assumption)).mono ?_; rintro e w' ⟨rfl, rfl⟩))
              go_quiet (fail)
              go_wp2
              go_ret
              exact ⟨ret_bof_f hno.out, _, by first | rfl | rw [World.drewN_drewN]⟩
            · have hd1 : decide (bucket s < bucket p) = false := decide_eq_false hgt
              by_cases heq : bucket p = bucket s
              · have he1 : (bucket p == bucket s) = true := by simp [heq]
                have HEQ := Lib.hid heq
                clear heq
                by_cases hle : (Op.bytesLess s.toList p.toList || s.toList == p.toList) = true
                · have hno := Lib.hid (hNO.out (fun h => by
                    rcases (HOKI.out.1 h).2.2.1 hk0 with h1 | ⟨_, h1⟩
                    · have := HEQ.out; omega
                    · exact (sLe_iff s p).1 hle h1))
                  have hlt' := hle
                  go_upto_region 9 with (first | (go_at_call 32; refine (l1In_c _ _ _ _).mono ?_; rw [hin]; rintro e w' ⟨rfl, rfl⟩) | (go_at_call 101; refine (nameBucket_spec _ _ (by assumption)).mono ?_; rintro e w' ⟨rfl, rfl⟩))
                  go_quiet (fail)
                  go_wp2
                  go_ret
                  exact ⟨ret_bof_f hno.out, _, by first | rfl | rw [World.drewN_drewN]⟩
                · have HBF := Lib.hid (show NBef p s from .inr ⟨HEQ.out, by
                    rcases sLt_total p s with h1 | h1 | h1
                    · exact h1
                    · exact absurd ((sLe_iff s p).2 (by rw [h1]; exact sLt_irrefl _)) hle
                    · exact absurd ((sLe_iff s p).2 (fun h2 => sLt_irrefl _ (sLt_trans h1 h2))) hle⟩)
                  have hlf : (Op.bytesLess s.toList p.toList || s.toList == p.toList) = false := by simpa using hle
                  clear hle
                  go_upto_region 9 with (first | (go_at_call 32; refine (l1In_c _ _ _ _).mono ?_; rw [hin]; rintro e w' ⟨rfl, rfl⟩) | (go_at_call 101; refine (nameBucket_spec _ _ (by assumption)).mono ?_; rintro e w' ⟨rfl, rfl⟩))
                  go_quiet (fail)
                  by_cases h3 : 3 ≤ k
                  · have h31 : (3 : Int) ≤ (k : Int) := by omega
                    have h32 : 0 ≤ (k : Int) - 3 := by omega
                    have px3 := HPV3.out h3
                    have hps3 := HPS3.out h3
                    by_cases hb3 : bucket r = bucket s
                    · have hq3 : (bucket r == bucket s) = true := by simp [hb3]
                      have hno := Lib.hid (hNO.out (fun h => (HOKI.out.1 h).2.2.2 h3 hb3))
                      clear hb3
                      go_wp2_with (first | (go_at_call 32; refine (l1In_c _ _ _ _).mono ?_; rw [hin]; rintro e w' ⟨rfl, rfl⟩) | (go_at_call 101; refine (nameBucket_spec _ _ (by assumption)).mono ?_; rintro e w' ⟨rfl, rfl⟩))
                      go_ret
                      exact ⟨ret_bof_f hno.out, _, by first | rfl | rw [World.drewN_drewN]⟩
                    · have hq3 : (bucket r == bucket s) = false := by simp [hb3]
                      have HP3 := Lib.hid (HP.out.succ (HOKI.out.2 ⟨HTX.out, HF.out, fun _ => HBF.out, fun _ => hb3⟩))
                      clear hb3
                      go_wp2_with (first | (go_at_call 32; refine (l1In_c _ _ _ _).mono ?_; rw [hin]; rintro e w' ⟨rfl, rfl⟩) | (go_at_call 101; refine (nameBucket_spec _ _ (by assumption)).mono ?_; rintro e w' ⟨rfl, rfl⟩))
                      go_roundw
                      case rel => exact ⟨k + 1, by omega, by go_num, HP3.out, _, by first | rfl | rw [World.drewN_drewN]⟩
                      case measure => simp [intOf]; omega
                  · have HP3 := Lib.hid (HP.out.succ (HOKI.out.2 ⟨HTX.out, HF.out, fun _ => HBF.out, fun h => absurd h h3⟩))
                    go_wp2_with (first | (go_at_call 32; refine (l1In_c _ _ _ _).mono ?_; rw [hin]; rintro e w' ⟨rfl, rfl⟩) | (go_at_call 101; refine (nameBucket_spec _ _ (by assumption)).mono ?_; rintro e w' ⟨rfl, rfl⟩))
                    go_roundw
                    case rel => exact ⟨k + 1, by omega, by go_num, HP3.out, _, by first | rfl | rw [World.drewN_drewN]⟩
                    case measure => simp [intOf]; omega
              · have he1 : (bucket p == bucket s) = false := by simp [heq]
                have HBF := Lib.hid (show NBef p s from .inl (by omega))
                clear heq
                go_upto_region 9 with (first | (go_at_call 32; refine (l1In_c _ _ _ _).mono ?_; rw [hin]; rintro e w' ⟨rfl, rfl⟩) | (go_at_call 101; refine (nameBucket_spec _ _ (by assumption)).mono ?_; rintro e w' ⟨rfl, rfl⟩))
                go_quiet (fail)
                by_cases h3 : 3 ≤ k
                · have h31 : (3 : Int) ≤ (k : Int) := by omega
                  have h32 : 0 ≤ (k : Int) - 3 := by omega
                  have px3 := HPV3.out h3
                  have hps3 := HPS3.out h3
                  by_cases hb3 : bucket r = bucket s
                  · have hq3 : (bucket r == bucket s) = true := by simp [hb3]
                    have hno := Lib.hid (hNO.out (fun h => (HOKI.out.1 h).2.2.2 h3 hb3))
                    clear hb3
                    go_wp2_with (first | (go_at_call 32; refine (l1In_c _ _ _ _).mono ?_; rw [hin]; rintro e w' ⟨rfl, rfl⟩) | (go_at_call 101; refine (nameBucket_spec _ _ (by assumption)).mono ?_; rintro e w' ⟨rfl, rfl⟩))
                    go_ret
                    exact ⟨ret_bof_f hno.out, _, by first | rfl | rw [World.drewN_drewN]⟩
                  · have hq3 : (bucket r == bucket s) = false := by simp [hb3]
                    have HP3 := Lib.hid (HP.out.succ (HOKI.out.2 ⟨HTX.out, HF.out, fun _ => HBF.out, fun _ => hb3⟩))
                    clear hb3
                    go_wp2_with (first | (go_at_call 32; refine (l1In_c _ _ _ _).mono ?_; rw [hin]; rintro e w' ⟨rfl, rfl⟩) | (go_at_call 101; refine (nameBucket_spec _ _ (by assumption)).mono ?_; rintro e w' ⟨rfl, rfl⟩))
                    go_roundw
                    case rel => exact ⟨k + 1, by omega, by go_num, HP3.out, _, by first | rfl | rw [World.drewN_drewN]⟩
                    case measure => simp [intOf]; omega
                · have HP3 := Lib.hid (HP.out.succ (HOKI.out.2 ⟨HTX.out, HF.out, fun _ => HBF.out, fun h => absurd h h3⟩))
                  go_wp2_with (first | (go_at_call 32; refine (l1In_c _ _ _ _).mono ?_; rw [hin]; rintro e w' ⟨rfl, rfl⟩) | (go_at_call 101; refine (nameBucket_spec _ _ (by assumption)).mono ?_; rintro e w' ⟨rfl, rfl⟩))
                  go_roundw
                  case rel => exact ⟨k + 1, by omega, by go_num, HP3.out, _, by first | rfl | rw [World.drewN_drewN]⟩
                  case measure => simp [intOf]; omega
          · have hki : decide ((k : Int) > 0) = false := decide_eq_false (by omega)
            have h3 : ¬ 3 ≤ k := by omega
            · have HP3 := Lib.hid (HP.out.succ (HOKI.out.2 ⟨HTX.out, HF.out, fun h => absurd h hk0, fun h => absurd h h3⟩))
              go_wp2_with (first | (go_at_call 32; refine (l1In_c _ _ _ _).mono ?_; rw [hin]; rintro e w' ⟨rfl, rfl⟩) | (go_at_call 101; refine (nameBucket_spec _ _ (by assumption)).mono ?_; rintro e w' ⟨rfl, rfl⟩))
              go_roundw
              case rel => exact ⟨k + 1, by omega, by go_num, HP3.out, _, by first | rfl | rw [World.drewN_drewN]⟩
              case measure => simp [intOf]; omega
        · have hin : inB f 0 7 = false := by rw [inB_f]; omega
          have hno := Lib.hid (hNO.out (fun h => hf (HOKI.out.1 h).2.1))
          have hq0 : ¬ bucket s < 0 := by omega
          go_wp2_with (first | (go_at_call 32; refine (l1In_c _ _ _ _).mono ?_; rw [hin]; rintro e w' ⟨rfl, rfl⟩) | (go_at_call 101; refine (nameBucket_spec _ _ (by assumption)).mono ?_; rintro e w' ⟨rfl, rfl⟩))
          go_ret
          exact ⟨ret_bof_f hno.out, _, by first | rfl | rw [World.drewN_drewN]⟩
      · have hno := Lib.hid (hNO.out (fun h => htx (HOKI.out.1 h).1))
        have hb0 : bucket s < 0 := by have := mt bucket_ok.1 htx; omega
        clear htx
        go_wp2_with (go_at_call 101; refine (nameBucket_spec _ _ (by assumption)).mono ?_; rintro e w' ⟨rfl, rfl⟩)
        go_ret
        exact ⟨ret_bof_f hno.out, _, by first | rfl | rw [World.drewN_drewN]⟩
    · obtain rfl : k = n := by omega
      have hyes := Lib.hid (show NamesOk ns from by unfold NamesOk; rw [HL.out]; exact HP.out)
      go_wp2
      go_ret
      exact ⟨ret_bof_t hyes.out, m, rfl⟩
end Go.Proofs.Ytjnpgdhpneifjaa

/- FindName and DropName by the reference, at valid names. -/
namespace Go.Proofs.Ytjnpgdhpneifjaa
open Go.ChangeShapes Go.WideShapes Go.ChangeAt Go.RowKit
set_option linter.unusedVariables false
set_option linter.unusedSimpArgs false

/-- the file of the first name with this text among m names from k on; -1 without one -/
def findFrom (ns : List NameV) (t : ByteArray) : Nat → Nat → Int
  | _, 0 => -1
  | k, m + 1 => if nTxt ns k = t then nFil ns k else findFrom ns t (k + 1) m
def findN (ns : List NameV) (t : ByteArray) : Int := findFrom ns t 0 ns.length
theorem findFrom_at {ns : List NameV} {t : ByteArray} : ∀ {m k j : Nat}, k ≤ j → j < k + m → (∀ i, k ≤ i → i < j → nTxt ns i ≠ t) → nTxt ns j = t → findFrom ns t k m = nFil ns j
  | 0, k, j, h1, h2, _, _ => by omega
  | m + 1, k, j, h1, h2, h3, h4 => by
    unfold findFrom
    by_cases e : k = j
    · subst e; rw [if_pos h4]
    · rw [if_neg (h3 k (Nat.le_refl _) (by omega))]
      exact findFrom_at (by omega) (by omega) (fun i hi hj => h3 i (by omega) hj) h4
theorem findFrom_none {ns : List NameV} {t : ByteArray} : ∀ {m k : Nat}, (∀ i, k ≤ i → i < k + m → nTxt ns i ≠ t) → findFrom ns t k m = -1
  | 0, k, _ => rfl
  | m + 1, k, h => by
    unfold findFrom
    rw [if_neg (h k (Nat.le_refl _) (by omega))]
    exact findFrom_none (fun i hi hj => h i (by omega) (by omega))
theorem findN_at {ns : List NameV} {t : ByteArray} {j : Nat} (hj : j < ns.length) (h : ∀ i, i < j → nTxt ns i ≠ t) (he : nTxt ns j = t) : findN ns t = nFil ns j :=
  findFrom_at (Nat.zero_le _) (by omega) (fun i _ hi => h i hi) he
theorem findN_none {ns : List NameV} {t : ByteArray} (h : ∀ i, i < ns.length → nTxt ns i ≠ t) : findN ns t = -1 :=
  findFrom_none (fun i _ hi => h i (by omega))
set_option maxHeartbeats 1000000 in
theorem findName_spec {A : Option Addr} {n c B : Nat} {ns : List NameV} {t : ByteArray} {w : World} (hr : RdN w B A n ns) (hB : B ≤ w.heap.size) (hn : n ≤ 1048576) (hsm : ∀ i, i < n → (nTxt ns i).size ≤ 9223372036854775807) (hok : NamesOk ns) :
    Calls Try.prog 131 #[.slice A n c, .string t] w fun e w' => e = .returned (.int .i64 (findN ns t)) ∧ Below w.heap.size w w' := by
  obtain rfl : ns.length = n := hr.len
  have HBT := Lib.hid (bof_t.2 hok)
  have HSM := Lib.hid hsm
  have HR := Lib.hid (hr.mono hB)
  clear hok hsm hr
  go_enter Try.func131, Try.ntmps131
  go_wp2_with fail
  go_loopw [5] (fun i wr => ∃ k : Nat, k ≤ ns.length ∧ i = .int .i64 k ∧ (∀ i, i < k → nTxt ns i ≠ t) ∧ Below w.heap.size w wr) (fun i _ => ns.length - (intOf i).toNat)
  case atStart => exact ⟨0, Nat.zero_le _, rfl, fun i hi => absurd hi (Nat.not_lt_zero _), Below.refl _ _⟩
  case round =>
    obtain ⟨k, hk, rfl, hno, hbl⟩ := hrel
    have HN := Lib.hid hno
    have B1 := Lib.hid hbl
    clear hno hbl
    by_cases hlt : k < ns.length
    · have kI : (k : Int) < ns.length := by omega
      go_wp2_with fail
      refine (namesValid_spec (HR.out.below B1.out) (by omega) HSM.out).mono ?_
      rw [HBT.out]
      rintro e w2 ⟨rfl, m, rfl⟩
      have B2 := Lib.hid (below_drewN B1.out m)
      obtain ⟨b, off, rfl, hbB, hc⟩ := (HR.out.below B2.out).at_ (by omega)
      obtain ⟨c0, c1⟩ := hc k hlt
      have HT := Lib.hid (show nTxt ns k = (ns.getD k noName).1 from rfl)
      have HF := Lib.hid (show nFil ns k = (ns.getD k noName).2 from rfl)
      generalize ns.getD k noName = P at *
      obtain ⟨s, f⟩ := P
      simp only at c0 c1 HT HF
      clear hc
      by_cases he : s = t
      · subst he
        have HX := Lib.hid (findN_at hlt HN.out HT.out)
        go_wp2
        go_ret
        exact ⟨by rw [HX.out, HF.out]; rfl, B2.out⟩
      · have hd : (s.toList == t.toList) = false := beq_eq_false_iff_ne.2 (fun h => he (toList_inj' h))
        have HN2 := Lib.hid (show ∀ i, i < k + 1 → nTxt ns i ≠ t from fun i hi => by
          by_cases e : i = k
          · subst e; rw [HT.out]; exact he
          · exact HN.out i (by omega))
        go_wp2
        go_roundw
        case rel => exact ⟨k + 1, by omega, by go_num, HN2.out, B2.out⟩
        case measure => simp [intOf]; omega
    · obtain rfl : k = ns.length := by omega
      have HX := Lib.hid (findN_none HN.out)
      go_wp2
      go_ret
      exact ⟨by rw [HX.out]; rfl, B1.out⟩
/-- the names without one -/
def dropTo (ns : List NameV) (t : ByteArray) : Nat → List NameV
  | 0 => []
  | k + 1 => if nTxt ns k = t then dropTo ns t k else dropTo ns t k ++ [ns.getD k noName]
def dropN (ns : List NameV) (t : ByteArray) : List NameV := dropTo ns t ns.length
theorem dropTo_len (ns : List NameV) (t : ByteArray) : ∀ k, (dropTo ns t k).length ≤ k
  | 0 => Nat.le_refl _
  | k + 1 => by
    have := dropTo_len ns t k
    unfold dropTo
    split
    · omega
    · simp; omega
/-- names in new memory, returned with whether -/
def OwnN (w0 : World) (ns : List NameV) (b : Bool) (e : Ending) (w' : World) : Prop := ∃ A c, e = .returned (.tuple #[.slice A ns.length c, .bool b]) ∧ OwN w' w0.heap.size A ns.length c ns ∧ Below w0.heap.size w0 w'
theorem ownN_of {w0 w' : World} {ns : List NameV} {b : Bool} {A : Option Addr} {m c : Nat} (hm : ns.length = m) (h : OwN w' w0.heap.size A m c ns) (hb : Below w0.heap.size w0 w') : OwnN w0 ns b (.returned (.tuple #[.slice A m c, .bool b])) w' := by
  subst hm; exact ⟨A, c, rfl, h, hb⟩
/-- append of one name -/
theorem wpList_appN {ops : Array Oper} {rest : List Oper} {o : Oper} {a : Act} {Q : Exit → Act → World → Prop} {w : World} {s x : Operand} {base g0 : Nat} {c0 n : Nat} {ns : List NameV} {t : ByteArray} {f : Int} (hgd : o.guard = none)
    (ho : o.op = .call { callee := .builtin .append, args := #[s, x], argTypes := #[40, 40] })
    (hs : a.eval s = .slice (some ⟨g0, 0, none⟩) n c0) (hown : OwN w base (some ⟨g0, 0, none⟩) n c0 ns)
    (hx : a.eval x = .slice (some ⟨w.heap.size, 0, none⟩) 1 1) (hn : n ≤ 1000000000000) (hbase : base ≤ w.heap.size)
    (h : ∀ g c w', OwN w' base (some ⟨g, 0, none⟩) (n + 1) c (ns ++ [(t, f)]) → w.grownBy w' (some g0) → wpList Try.prog ops Q rest (a.put o.dst (.slice (some ⟨g, 0, none⟩) (n + 1) c)) w') :
    wpList Try.prog ops Q (o :: rest) a (w.alloc (.cells #[.string t, .int .i64 f] 90)) := by
  obtain ⟨i0, hi, hz0, hz1, hz2⟩ := info_parts infoName
  refine wpList_app hgd s x 40 ho base 90 i0 _ 2 24 Try.underlying40 hi hz0 hz1 hz2 rfl (by decide) (.slice (some ⟨g0, 0, none⟩) n c0) n _ hs hown [.string t, .int .i64 f] hx rfl (by simp [Value.oneCell']) (by omega) (by omega) (by omega) ?_
  intro g c w' g1 g2 g3
  exact h g c w' (by unfold OwN; rw [flatN_append, flatN_one]; exact g1) g2
set_option maxHeartbeats 2000000 in
theorem dropName_spec {A : Option Addr} {n c B : Nat} {ns : List NameV} {t : ByteArray} {w : World} (hr : RdN w B A n ns) (hB : B ≤ w.heap.size) (hn : n ≤ 1048576) (hsm : ∀ i, i < n → (nTxt ns i).size ≤ 9223372036854775807) (hok : NamesOk ns) :
    Calls Try.prog 136 #[.slice A n c, .string t] w (OwnN w (dropN ns t) (decide ((dropN ns t).length < ns.length))) := by
  obtain rfl : ns.length = n := hr.len
  have HBT := Lib.hid (bof_t.2 hok)
  have HSM := Lib.hid hsm
  have HR := Lib.hid (hr.mono hB)
  have o1 : OwN (w.alloc (.cells #[] 90)) w.heap.size (some ⟨w.heap.size, 0, none⟩) 0 0 [] := World.ownsRow_lit w #[] 0 (Nat.le_refl _) (by decide) rfl
  have b1 : Below w.heap.size w (w.alloc (.cells #[] 90)) := (Below.refl _ _).alloc (Nat.le_refl _) _
  have O1 := Lib.hid o1
  have B1 := Lib.hid b1
  clear hok hsm hr o1 b1
  go_enter Try.func136, Try.ntmps136
  go_wp2_with fail
  generalize w.alloc (.cells #[] 90) = w1 at *
  go_loopw [6, 7] (fun v i wr => ∃ k m g co : Nat, k ≤ ns.length ∧ i = .int .i64 k ∧ (dropTo ns t k).length = m ∧ v = .slice (some ⟨g, 0, none⟩) m co ∧ OwN wr w.heap.size (some ⟨g, 0, none⟩) m co (dropTo ns t k) ∧ Below w.heap.size w wr) (fun _ i _ => ns.length - (intOf i).toNat)
  case atStart => exact ⟨0, 0, w.heap.size, 0, Nat.zero_le _, rfl, rfl, rfl, O1.out, B1.out⟩
  case round =>
    obtain ⟨k, m, g, co, hk, rfl, hml, rfl, o2, hbl⟩ := hrel
    have B2 := Lib.hid hbl
    have O2 := Lib.hid o2
    have HM := Lib.hid hml
    have hmk : m ≤ k := by have := dropTo_len ns t k; omega
    clear hml hbl o2 O1 B1
    by_cases hlt : k < ns.length
    · have kI : (k : Int) < ns.length := by omega
      go_wp2_with fail
      refine (namesValid_spec (HR.out.below B2.out) (by omega) HSM.out).mono ?_
      rw [HBT.out]
      rintro e w2 ⟨rfl, d, rfl⟩
      have O3 := Lib.hid (O2.out.below (below_drewN (Below.refl _ _) d))
      have B3 := Lib.hid (below_drewN B2.out d)
      have s3 := B3.out.size
      obtain ⟨b, off, rfl, hbB, hc⟩ := (HR.out.below B3.out).at_ (by omega)
      obtain ⟨c0, c1⟩ := hc k hlt
      have HT := Lib.hid (show nTxt ns k = (ns.getD k noName).1 from rfl)
      have HD := Lib.hid (show dropTo ns t (k + 1) = if nTxt ns k = t then dropTo ns t k else dropTo ns t k ++ [ns.getD k noName] from rfl)
      generalize ns.getD k noName = P at *
      obtain ⟨s, f⟩ := P
      simp only at c0 c1 HT
      have bl : b < wr.heap.size := by have := B2.out.size; omega
      clear hc O2 B2
      by_cases he : s = t
      · have hd : (s.toList == t.toList) = true := by rw [he]; exact beq_self_eq_true _
        have HD2 := Lib.hid (show dropTo ns t (k + 1) = dropTo ns t k from by rw [HD.out, if_pos (by rw [HT.out]; exact he)])
        clear he
        go_wp2
        go_roundw
        case rel => exact ⟨k + 1, m, g, co, by omega, by go_num, by rw [HD2.out]; exact HM.out, rfl, by rw [HD2.out]; exact O3.out, B3.out⟩
        case measure => simp [intOf]; omega
      · have hd : (s.toList == t.toList) = false := beq_eq_false_iff_ne.2 (fun h => he (toList_inj' h))
        have HD2 := Lib.hid (show dropTo ns t (k + 1) = dropTo ns t k ++ [(s, f)] from by rw [HD.out, if_neg (by rw [HT.out]; exact he)])
        clear he
        go_wp2_with (at_builtin; refine wpList_appN rfl rfl rfl O3.out rfl (by omega) s3 ?_; rintro g3 c3 w4 o4 gr4)
        have HO4 := Lib.hid (show OwN w4 w.heap.size (some ⟨g3, 0, none⟩) (m + 1) c3 (dropTo ns t (k + 1)) from by rw [HD2.out]; exact o4)
        have HB4 := Lib.hid (below_app B3.out O3.out s3 gr4)
        clear o4 gr4 O3
        go_wp2
        go_roundw
        case rel => exact ⟨k + 1, m + 1, g3, c3, by omega, by go_num, by rw [HD2.out, List.length_append, HM.out]; rfl, rfl, HO4.out, HB4.out⟩
        case measure => simp [intOf]; omega
    · obtain rfl : k = ns.length := by omega
      go_wp2_with fail
      refine (namesValid_spec (HR.out.below B2.out) (by omega) HSM.out).mono ?_
      rw [HBT.out]
      rintro e w2 ⟨rfl, d, rfl⟩
      have O3 := Lib.hid (O2.out.below (below_drewN (Below.refl _ _) d))
      have B3 := Lib.hid (below_drewN B2.out d)
      have HDN := Lib.hid (show dropN ns t = dropTo ns t ns.length from rfl)
      go_wp2
      go_returns
      have e9 : decide ((dropN ns t).length < ns.length) = decide (m < ns.length) := by rw [HDN.out, HM.out]
      rw [e9]
      have := ownN_of (b := decide (m < ns.length)) HM.out O3.out B3.out
      rw [HDN.out]
      first | exact this | (simpa using this)
end Go.Proofs.Ytjnpgdhpneifjaa
