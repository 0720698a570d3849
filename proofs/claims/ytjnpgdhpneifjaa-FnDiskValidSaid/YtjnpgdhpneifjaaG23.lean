/- PutName by the reference, at valid names. -/
import Derived.Test.YtjnpgdhpneifjaaG1
import Derived.Test.YtjnpgdhpneifjaaG14
import Derived.Deep.RegionHeld3
namespace Go.Proofs.Ytjnpgdhpneifjaa
open Go.ChangeShapes Go.WideShapes Go.ChangeAt Go.RowKit
set_option linter.unusedVariables false
set_option linter.unusedSimpArgs false

open Classical in
noncomputable def putFrom (ns : List NameV) (t : ByteArray) : Nat → Nat → Nat
  | k, 0 => k
  | k, m + 1 => if NBef (nTxt ns k) t then putFrom ns t (k + 1) m else k
/-- where a name belongs -/
noncomputable def putAt (ns : List NameV) (t : ByteArray) : Nat := putFrom ns t 0 ns.length
theorem putFrom_at {ns : List NameV} {t : ByteArray} : ∀ {m k j : Nat}, k ≤ j → j < k + m → (∀ i, k ≤ i → i < j → NBef (nTxt ns i) t) → ¬ NBef (nTxt ns j) t → putFrom ns t k m = j
  | 0, k, j, h1, h2, _, _ => by omega
  | m + 1, k, j, h1, h2, h3, h4 => by
    unfold putFrom
    by_cases e : k = j
    · subst e; rw [if_neg h4]
    · rw [if_pos (h3 k (Nat.le_refl _) (by omega))]
      exact putFrom_at (by omega) (by omega) (fun i hi hj => h3 i (by omega) hj) h4
theorem putFrom_end {ns : List NameV} {t : ByteArray} : ∀ {m k : Nat}, (∀ i, k ≤ i → i < k + m → NBef (nTxt ns i) t) → putFrom ns t k m = k + m
  | 0, k, _ => rfl
  | m + 1, k, h => by
    unfold putFrom
    rw [if_pos (h k (Nat.le_refl _) (by omega)), putFrom_end (fun i hi hj => h i (by omega) (by omega))]
    omega
theorem putAt_at {ns : List NameV} {t : ByteArray} {j : Nat} (hj : j < ns.length) (h : ∀ i, i < j → NBef (nTxt ns i) t) (hn : ¬ NBef (nTxt ns j) t) : putAt ns t = j :=
  putFrom_at (Nat.zero_le _) (by omega) (fun i _ hi => h i hi) hn
theorem putAt_end {ns : List NameV} {t : ByteArray} (h : ∀ i, i < ns.length → NBef (nTxt ns i) t) : putAt ns t = ns.length := by
  unfold putAt; rw [putFrom_end (fun i _ hi => h i (by omega))]; omega
theorem nbef_succ {ns : List NameV} {t s : ByteArray} {k : Nat} (h : ∀ i, i < k → NBef (nTxt ns i) t) (ht : nTxt ns k = s) (hn : NBef s t) : ∀ i, i < k + 1 → NBef (nTxt ns i) t := by
  intro i hi
  by_cases e : i = k
  · subst e; rw [ht]; exact hn
  · exact h i (by omega)
noncomputable def putL (ns : List NameV) (t : ByteArray) (f : Int) : List NameV := ns.take (putAt ns t) ++ [(t, f)] ++ ns.drop (putAt ns t)
open Classical in
noncomputable def putN (ns : List NameV) (t : ByteArray) (f : Int) : List NameV := if NamesOk (putL ns t f) then putL ns t f else ns
theorem RdN.cells {w : World} {B n b off : Nat} {qs : List NameV} (h : RdN w B (some ⟨b, off, none⟩) n qs) : ∀ u v, (flatN qs)[u]? = some v → w.cell? ((⟨b, off, none⟩ : Addr).add u) = some v := by
  intro u v hv
  have hl := h.len
  have hu : u < qs.length * 2 := by
    rcases Nat.lt_or_ge u (flatN qs).length with h1 | h1
    · rwa [flatN_len] at h1
    · rw [List.getElem?_eq_none h1] at hv; cases hv
  obtain ⟨b', off', e, _, hc⟩ := h.at_ (by omega)
  injection e with e
  injection e with e1 e2
  subst e1; subst e2
  rw [add_none]
  have hj : u % 2 < 2 := Nat.mod_lt _ (by omega)
  have hu2 : u = u / 2 * 2 + u % 2 := by omega
  have h1 := flatM_get nmc nmc_len noName qs (u / 2) (u % 2) (by omega) hj
  rw [show qs.flatMap nmc = flatN qs from rfl, ← hu2, hv] at h1
  obtain ⟨c0, c1⟩ := hc (u / 2) (by omega)
  have hm : u % 2 = 0 ∨ u % 2 = 1 := by omega
  rcases hm with e | e <;> rw [e] at h1 <;> simp only [nmc, List.getElem?_cons_zero, List.getElem?_cons_succ] at h1
  · rw [show off + u = off + u / 2 * 2 by omega, h1]; exact c0
  · rw [show off + u = off + u / 2 * 2 + 1 by omega, h1]; exact c1
set_option maxRecDepth 8000 in
/-- append of names that are read, nil or not -/
theorem step_appNs {ops : Array Oper} {o : Oper} {a : Act} {K : Act → World → Prop} {Q : Exit → Act → World → Prop} {E : Prop} {w : World} {base B m c n c0 : Nat} {A0 A : Option Addr} {ns qs : List NameV} (hgd : o.guard = none) (s x : Operand)
    (ho : o.op = .call { callee := .builtin .append, args := #[s, x], argTypes := #[40, 40] })
    (hs : a.eval s = .slice A0 n c0) (hown : OwN w base A0 n c0 ns) (hx : a.eval x = .slice A m c) (hnil : A = none → c = 0)
    (hr : RdN w B A m qs) (hn : n + m ≤ 1000000000000) (hbase : base ≤ w.heap.size)
    (h : ∀ A' c' w', OwN w' base A' (n + m) c' (ns ++ qs) → w.grownBy w' (Value.slice A0 n c0).ownBlock → K (a.put o.dst (.slice A' (n + m) c')) w') :
    if Region.wanted o (yielded ops a.tmps) = true then Oper.wp Try.prog o a w K Q else E := by
  obtain ⟨i0, hi, hz0, hz1, hz2⟩ := info_parts infoName
  have hw : Region.wanted o (yielded ops a.tmps) = true := by simp [Region.wanted, hgd]
  rw [if_pos hw]
  have hl := hr.len
  rcases A with _ | ad
  · have hm : m = 0 := by
      rcases Nat.eq_zero_or_pos m with h0 | h0
      · exact h0
      · obtain ⟨b, off, e, _⟩ := hr.at_ h0; cases e
    subst hm
    have hq : qs = [] := List.eq_nil_of_length_eq_zero hl
    subst hq
    rw [hnil rfl] at hx
    have hrun := run_append_owned_none (P := Try.prog) (w := w) base 40 o.type 90 i0 2 Try.underlying40 hi (.slice A0 n c0) n _ hown
    unfold Oper.wp
    simp [execOp, ho, resolve, invoke, builtin, hs, hx, hrun, Result.andThen]
    exact h A0 c0 w (by rw [List.append_nil]; exact hown) (World.grownBy.refl _ _)
  · refine wp_append_own w s x 40 ho base 90 i0 _ 2 24 Try.underlying40 hi hz0 hz1 hz2 rfl (by decide) (.slice A0 n c0) n _ hs hown ad m c (flatN qs) hx (by rw [flatN_len, hl]) ?_ (flatN_one_cell _) (by unfold maxLen; omega) (by omega) hbase ?_
    · intro j u hj
      have hjl : 0 < m := by
        rcases Nat.eq_zero_or_pos m with h0 | h0
        · have : qs = [] := List.eq_nil_of_length_eq_zero (by omega)
          subst this; simp [flatN] at hj
        · exact h0
      obtain ⟨b, off, e, _⟩ := hr.at_ hjl
      injection e with e
      subst e
      exact hr.cells j u hj
    · intro v' w' hown' hg _
      have hform : ∃ A' c', v' = .slice A' (n + m) c' := by
        rcases hown'.2 with ⟨h1, h2⟩ | ⟨g, cap, cur, h1, _⟩
        · exact ⟨none, 0, by rw [h1, h2]⟩
        · exact ⟨_, _, h1⟩
      obtain ⟨A', c', rfl⟩ := hform
      exact h A' c' w' (by unfold OwN; rw [flatN_append]; exact hown') hg
theorem wpList_appNs {ops : Array Oper} {rest : List Oper} {o : Oper} {a : Act} {Q : Exit → Act → World → Prop} {w : World} {s x : Operand} {base B m c n c0 : Nat} {A0 A : Option Addr} {ns qs : List NameV} (hgd : o.guard = none)
    (ho : o.op = .call { callee := .builtin .append, args := #[s, x], argTypes := #[40, 40] })
    (hs : a.eval s = .slice A0 n c0) (hown : OwN w base A0 n c0 ns) (hx : a.eval x = .slice A m c) (hnil : A = none → c = 0)
    (hr : RdN w B A m qs) (hn : n + m ≤ 1000000000000) (hbase : base ≤ w.heap.size)
    (h : ∀ A' c' w', OwN w' base A' (n + m) c' (ns ++ qs) → w.grownBy w' (Value.slice A0 n c0).ownBlock → wpList Try.prog ops Q rest (a.put o.dst (.slice A' (n + m) c')) w') :
    wpList Try.prog ops Q (o :: rest) a w := by
  refine wpList_plain hgd fun K hK => ?_
  have := step_appNs (ops := ops) (K := K) (Q := Q) (E := True) hgd s x ho hs hown hx hnil hr hn hbase (fun A' c' w' h1 h2 => hK _ _ (h A' c' w' h1 h2))
  rwa [if_pos (by simp [Region.wanted, hgd])] at this
theorem rdN_take {w : World} {B n k : Nat} {A : Option Addr} {ns : List NameV} (h : RdN w B A n ns) (hk : k ≤ n) : RdN w B A k (ns.take k) := by
  have hl := h.len
  refine ⟨by simp; omega, fun h0 => ?_⟩
  obtain ⟨b, off, e, hb, hc⟩ := h.at_ (by omega)
  refine ⟨b, off, e, hb, fun i hi => ?_⟩
  rw [List.getD_eq_getElem?_getD, List.getElem?_take_of_lt hi, ← List.getD_eq_getElem?_getD]
  exact hc i (by omega)
theorem rdN_drop {w : World} {B n k c : Nat} {A : Option Addr} {ns : List NameV} (h : RdN w B A n ns) (hk : k ≤ n) (hnc : n ≤ c) : RdN w B (if c = k then A else A.map (·.add (k * 2))) (n - k) (ns.drop k) := by
  have hl := h.len
  refine ⟨by simp; omega, fun h0 => ?_⟩
  obtain ⟨b, off, e, hb, hc⟩ := h.at_ (by omega)
  rw [if_neg (by omega), e]
  refine ⟨b, off + k * 2, by simp [add_none], hb, fun i hi => ?_⟩
  have := hc (k + i) (by omega)
  rw [List.getD_eq_getElem?_getD, List.getElem?_drop, ← List.getD_eq_getElem?_getD, show off + k * 2 + i * 2 = off + (k + i) * 2 by omega]
  exact this
theorem rdN_one {w : World} {g : Nat} {t : ByteArray} {f : Int} (h : Blk w g 90 #[.string t, .int .i64 f]) : RdN w w.heap.size (some ⟨g, 0, none⟩) 1 [(t, f)] := by
  refine ⟨rfl, fun _ => ⟨g, 0, rfl, h.lt, fun i hi => ?_⟩⟩
  obtain rfl : i = 0 := by omega
  have c0 := h.cell 0
  have c1 := h.cell 1
  simp at c0 c1
  exact ⟨c0, c1⟩
theorem drop_nil {A : Option Addr} {c k : Nat} (h : A = none → c = 0) (e : (if c = k then A else A.map (·.add (k * 2))) = none) : c - k = 0 := by
  split at e
  · have := h e; omega
  · cases A with
    | none => have := h rfl; omega
    | some a => cases e
theorem putN_yes {ns : List NameV} {t : ByteArray} {f : Int} (h : NamesOk (putL ns t f)) : putN ns t f = putL ns t f := by unfold putN; rw [if_pos h]
theorem putN_no {ns : List NameV} {t : ByteArray} {f : Int} (h : ¬ NamesOk (putL ns t f)) : putN ns t f = ns := by unfold putN; rw [if_neg h]
theorem own_ne_low {w : World} {n c : Nat} {A : Option Addr} {ns : List NameV} {g : Nat} (h : OwN w (g + 1) A n c ns) : some g ≠ (Value.slice A n c).ownBlock := by
  intro e
  have := (own_lt h e.symm).1
  omega
theorem putL_size {ns : List NameV} {t : ByteArray} {f : Int} (h : ∀ i, i < ns.length → (nTxt ns i).size ≤ 9223372036854775807) (ht : t.size ≤ 9223372036854775807) : ∀ i, i < ns.length + 1 → (nTxt (putL ns t f) i).size ≤ 9223372036854775807 := by
  have hall : ∀ x ∈ putL ns t f, x.1.size ≤ 9223372036854775807 := by
    have hns : ∀ x ∈ ns, x.1.size ≤ 9223372036854775807 := by
      intro x hx
      obtain ⟨j, hj, e⟩ := List.getElem_of_mem hx
      have := h j hj
      unfold nTxt at this
      rw [List.getD_eq_getElem?_getD, List.getElem?_eq_getElem hj] at this
      simp only [Option.getD_some] at this
      rwa [e] at this
    intro x hx
    unfold putL at hx
    rw [List.mem_append, List.mem_append] at hx
    rcases hx with (hx | hx) | hx
    · exact hns x (List.mem_of_mem_take hx)
    · simp at hx; subst hx; exact ht
    · exact hns x (List.mem_of_mem_drop hx)
  intro i _
  unfold nTxt
  rw [List.getD_eq_getElem?_getD]
  rcases Nat.lt_or_ge i (putL ns t f).length with h1 | h1
  · rw [List.getElem?_eq_getElem h1]; exact hall _ (List.getElem_mem h1)
  · rw [List.getElem?_eq_none h1]; simp [noName]
set_option maxRecDepth 8000 in
set_option maxHeartbeats 8000000 in
theorem putName_spec {A : Option Addr} {n c B : Nat} {ns : List NameV} {t : ByteArray} {f : Int} {w : World} (hr : RdN w B A n ns) (hB : B ≤ w.heap.size) (hn : n ≤ 1000000) (hnc : n ≤ c) (hcm : c ≤ 9223372036854775807) (hnil : A = none → c = 0) (hsm : ∀ i, i < n → (nTxt ns i).size ≤ 9223372036854775807) (hts : t.size ≤ 9223372036854775807) (hok : NamesOk ns) :
    Calls Try.prog 133 #[.slice A n c, .agg #[.string t, .int .i64 f]] w (OwnN w (putN ns t f) (bof (NamesOk (putL ns t f)))) := by
  obtain rfl : ns.length = n := hr.len
  have HBT := Lib.hid (bof_t.2 hok)
  have HSM := Lib.hid hsm
  have HR := Lib.hid (hr.mono hB)
  have HNIL := Lib.hid hnil
  have b1 : Below w.heap.size w (w.alloc (.cells #[.string t, .int .i64 f] 90)) := (Below.refl _ _).alloc (Nat.le_refl _) _
  have k1 := Blk.new w 90 #[.string t, .int .i64 f]
  have B1 := Lib.hid b1
  clear hr hok hsm b1 hnil
  go_enter Try.func133, Try.ntmps133
  go_upto_region 1 with (fail)
  generalize w.alloc (.cells #[.string t, .int .i64 f] 90) = w1 at *
  go_wp2_with fail
  refine (namesValid_spec (HR.out.below B1.out) (by omega) HSM.out).mono ?_
  rw [HBT.out]
  rintro e w2 ⟨rfl, dn, rfl⟩
  have k2 : Blk (w1.drewN dn) w.heap.size 90 _ := k1
  have B2 := Lib.hid (below_drewN B1.out dn)
  clear k1 B1
  generalize w1.drewN dn = w2 at *
  have t0 := k2.cell 0
  simp at t0
  go_wp2_with fail
  refine (nameBucket_spec t _ hts).mono ?_
  rintro e w' ⟨rfl, rfl⟩
  clear t0
  have HBK := Lib.hid (show bucket t = bucket t from rfl)
  obtain ⟨bt, hbt⟩ : ∃ bt, bucket t = bt := ⟨_, rfl⟩
  rw [hbt]
  have HBT2 := Lib.hid hbt
  clear hbt HBK
  go_wp2_with fail
  go_loopw [6] (fun i wr => ∃ k : Nat, k ≤ ns.length ∧ i = .int .i64 k ∧ (∀ i, i < k → NBef (nTxt ns i) t) ∧ Blk wr w.heap.size 90 #[.string t, .int .i64 f] ∧ Below w.heap.size w wr) (fun i _ => ns.length - (intOf i).toNat)
  case atStart => exact ⟨0, Nat.zero_le _, rfl, fun i hi => absurd hi (Nat.not_lt_zero _), k2, B2.out⟩
  case round =>
    obtain ⟨k, hk, rfl, hbef, k3, b3⟩ := hrel
    have HBE := Lib.hid hbef
    have B3 := Lib.hid b3
    clear hbef b3 k2 B2
    have t0 := k3.cell 0
    simp at t0
    by_cases hlt : k < ns.length
    · have kI : decide ((k : Int) < ns.length) = true := decide_eq_true (by omega)
      obtain ⟨b, off, rfl, hbB, hc⟩ := (HR.out.below B3.out).at_ (by omega)
      obtain ⟨d0, d1⟩ := hc k hlt
      have hsz := HSM.out k hlt
      have HT := Lib.hid (show nTxt ns k = (ns.getD k noName).1 from rfl)
      have HNB := Lib.hid (show NBef (nTxt ns k) t ↔ (bucket (nTxt ns k) < bucket t ∨ (bucket (nTxt ns k) = bucket t ∧ sLt (nTxt ns k) t)) from Iff.rfl)
      rw [HBT2.out] at HNB
      have ktI : (k : Int) < ns.length := by omega
      obtain ⟨P, hP⟩ : ∃ P, ns.getD k noName = P := ⟨_, rfl⟩
      have hP1 : nTxt ns k = P.1 := by rw [← hP]
      rw [hP] at d0 d1 HT
      rw [hP1] at hsz HNB
      obtain ⟨s, f0⟩ := P
      simp only at d0 d1 hsz HNB HT
      clear hc hP hP1 d1
      obtain ⟨bs', hbs⟩ : ∃ x, bucket s = x := ⟨_, rfl⟩
      rw [hbs] at HNB
      have HBS := Lib.hid hbs
      go_upto_region 5 with (fail)
      by_cases hlt1 : bs' < bt
      · have h1 : decide (bs' < bt) = true := decide_eq_true hlt1
        have HNE := Lib.hid (HNB.out.2 (.inl hlt1))
        refine wp_region_held_drew (S := fun w' => w'.cell? ⟨b, off + k * 2, none⟩ = some (.string s) ∧ w'.cell? ⟨w.heap.size, 0, none⟩ = some (.string t)) (by kernel_rfl) ?_ (fun hHeld => ?_)
        · exact ⟨d0, t0⟩
        refine tk 0 ?_
        refine tk 1 ?_
        refine tk 2 ?_
        refine tk 3 ?_
        refine tk 4 ?_
        refine tk 5 ?_
        refine tk 6 ?_
        refine tk 7 ?_
        refine tk 8 ?_
        refine tk 9 ?_
        refine tk 11 ?_
        refine rd1 10 (fun K hK => ?_)
        go_simp
        refine (nameBucket_spec s _ hsz).mono ?_; rintro e w5 ⟨rfl, rfl⟩
        go_wp2_with fail
        refine hK.out _ _ ?_ (fun hHeld => ?_)
        · exact ⟨d0, t0⟩
        clear hK K
        refine pt ?_
        refine tk 12 ?_
        refine tk 13 ?_
        refine sk 14 ?_
        refine sk 15 ?_
        refine sk 16 ?_
        refine sk 17 ?_
        refine sk 18 ?_
        refine sk 19 ?_
        refine sk 20 ?_
        refine sk 21 ?_
        refine sk 22 ?_
        refine sk 23 ?_
        refine sk 24 ?_
        refine sk 25 ?_
        refine sk 26 ?_
        refine sk 27 ?_
        refine sk 28 ?_
        refine sk 29 ?_
        refine sk 30 ?_
        refine sk 31 ?_
        refine tk 32 ?_
        refine tk 33 ?_
        refine wpAnyH_done (by kernel_rfl) ?_ _
        clear hHeld
        have HB2 := Lib.hid (nbef_succ HBE.out HT.out HNE.out)
        have B4 := Lib.hid B3.out.drew
        have k4 : Blk wr.drew w.heap.size 90 _ := k3
        go_wp2
        go_roundw
        case rel => exact ⟨k + 1, by omega, by go_num, HB2.out, k4, B4.out⟩
        case measure => simp [intOf]; omega
      · by_cases heq : bs' = bt
        · have h1 : decide (bs' < bt) = false := decide_eq_false hlt1
          have h2 : (bs' == bt) = true := by simpa using heq
          by_cases hsl : sLt s t
          · have h3 : Op.bytesLess s.toList t.toList = true := hsl
            have HNE := Lib.hid (HNB.out.2 (.inr ⟨heq, hsl⟩))
            refine wp_region_held_drew (S := fun w' => w'.cell? ⟨b, off + k * 2, none⟩ = some (.string s) ∧ w'.cell? ⟨w.heap.size, 0, none⟩ = some (.string t)) (by kernel_rfl) ?_ (fun hHeld => ?_)
            · exact ⟨d0, t0⟩
            refine tk 0 ?_
            refine tk 1 ?_
            refine tk 2 ?_
            refine tk 3 ?_
            refine tk 4 ?_
            refine tk 5 ?_
            refine tk 6 ?_
            refine tk 7 ?_
            refine tk 8 ?_
            refine tk 9 ?_
            refine tk 11 ?_
            refine rd1 10 (fun K hK => ?_)
            go_simp
            refine (nameBucket_spec s _ hsz).mono ?_; rintro e w5 ⟨rfl, rfl⟩
            go_wp2_with fail
            refine hK.out _ _ ?_ (fun hHeld => ?_)
            · exact ⟨d0, t0⟩
            clear hK K
            refine pt ?_
            refine tk 12 ?_
            refine tk 13 ?_
            refine tk 14 ?_
            refine tk 15 ?_
            refine tk 16 ?_
            refine tk 17 ?_
            refine tk 18 ?_
            refine tk 20 ?_
            refine rd1 19 (fun K hK => ?_)
            go_simp
            refine (nameBucket_spec s _ hsz).mono ?_; rintro e w5 ⟨rfl, rfl⟩
            go_wp2_with fail
            refine hK.out _ _ ?_ (fun hHeld => ?_)
            · exact ⟨d0, t0⟩
            clear hK K
            refine pt ?_
            refine tk 21 ?_
            refine tk 22 ?_
            refine tk 23 ?_
            refine tk 24 ?_
            refine tk 25 ?_
            refine tk 26 ?_
            refine tk 27 ?_
            refine tk 28 ?_
            refine tk 29 ?_
            refine tk 30 ?_
            refine tk 31 ?_
            refine tk 32 ?_
            refine tk 33 ?_
            refine wpAnyH_done (by kernel_rfl) ?_ _
            clear hHeld
            have HB2 := Lib.hid (nbef_succ HBE.out HT.out HNE.out)
            have B4 := Lib.hid B3.out.drew
            have k4 : Blk wr.drew w.heap.size 90 _ := k3
            go_wp2
            go_roundw
            case rel => exact ⟨k + 1, by omega, by go_num, HB2.out, k4, B4.out⟩
            case measure => simp [intOf]; omega
          · have h3 : Op.bytesLess s.toList t.toList = false := by unfold sLt at hsl; simpa using hsl
            have HAT := Lib.hid (putAt_at (t := t) hlt HBE.out (by rw [HT.out]; exact fun h => by rcases HNB.out.1 h with h | h; exact hlt1 h; exact hsl h.2))
            refine wp_region_held_drew (S := fun w' => w'.cell? ⟨b, off + k * 2, none⟩ = some (.string s) ∧ w'.cell? ⟨w.heap.size, 0, none⟩ = some (.string t)) (by kernel_rfl) ?_ (fun hHeld => ?_)
            · exact ⟨d0, t0⟩
            refine tk 0 ?_
            refine tk 1 ?_
            refine tk 2 ?_
            refine tk 3 ?_
            refine tk 4 ?_
            refine tk 5 ?_
            refine tk 6 ?_
            refine tk 7 ?_
            refine tk 8 ?_
            refine tk 9 ?_
            refine tk 11 ?_
            refine rd1 10 (fun K hK => ?_)
            go_simp
            refine (nameBucket_spec s _ hsz).mono ?_; rintro e w5 ⟨rfl, rfl⟩
            go_wp2_with fail
            refine hK.out _ _ ?_ (fun hHeld => ?_)
            · exact ⟨d0, t0⟩
            clear hK K
            refine pt ?_
            refine tk 12 ?_
            refine tk 13 ?_
            refine tk 14 ?_
            refine tk 15 ?_
            refine tk 16 ?_
            refine tk 17 ?_
            refine tk 18 ?_
            refine tk 20 ?_
            refine rd1 19 (fun K hK => ?_)
            go_simp
            refine (nameBucket_spec s _ hsz).mono ?_; rintro e w5 ⟨rfl, rfl⟩
            go_wp2_with fail
            refine hK.out _ _ ?_ (fun hHeld => ?_)
            · exact ⟨d0, t0⟩
            clear hK K
            refine pt ?_
            refine tk 21 ?_
            refine tk 22 ?_
            refine tk 23 ?_
            refine tk 24 ?_
            refine tk 25 ?_
            refine tk 26 ?_
            refine tk 27 ?_
            refine tk 28 ?_
            refine tk 29 ?_
            refine tk 30 ?_
            refine tk 31 ?_
            refine tk 32 ?_
            refine tk 33 ?_
            refine wpAnyH_done (by kernel_rfl) ?_ _
            clear hHeld
            have B10 := B3.out.drew
            have k10 : Blk wr.drew w.heap.size 90 _ := k3
            clear k3 B3 t0
            generalize wr.drew = w10 at *
            have hrT := rdN_take (HR.out) (k := k) (by omega)
            have hrD := rdN_drop (HR.out) (k := k) (c := c) (by omega) hnc
            have t0 := k10.cell 0
            have t1 := k10.cell 1
            simp at t0 t1
            go_upto_region 7 with (fail)
            refine wp_region_held_drew (S := fun w' => w'.cell? ⟨w.heap.size, 0, none⟩ = some (.string t) ∧ w'.cell? ⟨w.heap.size, 1, none⟩ = some (.int .i64 f)) (by kernel_rfl) ?_ (fun hHeld => ?_)
            · exact ⟨t0, t1⟩
            refine tk 1 ?_
            refine tk 2 ?_
            refine wpAnyH_take (i := 3) (v := .slice (some ⟨b, off, none⟩) k c) rfl (by kernel_rfl) (by kernel_rfl) (by kernel_rfl) (fun _ _ _ h => h) (Or.inl ⟨by rfl, ?_⟩) (by assumption) ?_
            · (intro w hSw; (try dsimp only at hSw); first | (go_simp; intro hck; exact absurd hck (by omega)) | go_simp)
            refine pt ?_
            refine tk 5 ?_
            refine tk 8 ?_
            refine tk 9 ?_
            refine wpAnyH_take (i := 10) (v := .slice (if c = k then (some ⟨b, off, none⟩) else ((some ⟨b, off, none⟩) : Option Addr).map (·.add (k * 2))) (ns.length - k) (c - k)) rfl (by kernel_rfl) (by kernel_rfl) (by kernel_rfl) (fun _ _ _ h => h) (Or.inl ⟨by rfl, ?_⟩) (by assumption) ?_
            · (intro w hSw; (try dsimp only at hSw); go_simp)
            refine pt ?_
            have hdn := drop_nil (k := k) HNIL.out
            generalize (if c = k then (some ⟨b, off, none⟩) else ((some ⟨b, off, none⟩) : Option Addr).map (·.add (k * 2))) = DA at *
            have B11 := B10.drew
            have k11 : Blk w10.drew w.heap.size 90 _ := k10
            clear k10 B10 t0 t1
            generalize w10.drew = w11 at *
            refine rd2 0 6 (fun K hK => ?_) (fun K hK => ?_)
            · go_simp
              have bb : Below w11.heap.size w11 (w11.alloc (.cells #[] 90)) := (Below.refl _ _).alloc (Nat.le_refl _) _
              have sz := B11.size
              have O21 : OwN (w11.alloc (.cells #[] 90)) (w.heap.size + 1) (some ⟨w11.heap.size, 0, none⟩) 0 0 [] := World.ownsRow_lit w11 #[] 0 k11.lt (by decide) rfl
              have kgl := k11.lt
              have k21 := k11.below bb k11.lt
              have B21 := B11.trans (bb.mono sz)
              clear k11 B11 bb
              generalize w11.alloc (.cells #[] 90) = w21 at *
              generalize hg0 : w11.heap.size = g0 at *
              clear hg0
              refine hK.out _ _ ?_ (fun hHeld => ?_)
              · exact ⟨k21.cell 0, k21.cell 1⟩
              clear hK K
              refine pt ?_
              refine rd2 4 6 (fun K hK => ?_) (fun K hK => ?_)
              · refine step_appNs (ns := []) (qs := ns.take k) (by rfl) (.tmp 52) (.tmp 55) (by rfl) (by rfl) O21 (by rfl) HNIL.out (hrT.below B21) (by omega) k21.lt ?_
                intro A4 c4 w22 O22 gr
                simp only [Nat.zero_add, List.nil_append] at O22 ⊢
                have k22 := k21.grown gr (fun e => by injection e with e; have e' : w.heap.size = g0 := e; omega)
                have B22 := below_app B21 (O21.lower (Nat.le_succ _)) B21.size gr
                clear k21 B21 O21 gr
                refine hK.out _ _ ?_ (fun hHeld => ?_)
                · exact ⟨k22.cell 0, k22.cell 1⟩
                clear hK K
                refine pt ?_
                refine rd1 6 (fun K hK => ?_)
                go_simp
                have bb : Below w22.heap.size w22 (w22.alloc (.cells #[.string t, .int .i64 f] 90)) := (Below.refl _ _).alloc (Nat.le_refl _) _
                have sz := B22.size
                have G23 := Blk.new w22 90 #[.string t, .int .i64 f]
                have k23 := k22.below bb k22.lt
                have B23 := B22.trans (bb.mono sz)
                have O23 := O22.below bb
                clear k22 B22 bb O22
                generalize w22.alloc (.cells #[.string t, .int .i64 f] 90) = w23 at *
                generalize hg6 : w22.heap.size = g6 at *
                clear hg6
                refine hK.out _ _ ?_ (fun hHeld => ?_)
                · exact ⟨k23.cell 0, k23.cell 1⟩
                clear hK K
                refine pt ?_
                refine rd1 7 (fun K hK => ?_)
                refine step_appNs (qs := [(t, f)]) (by rfl) (.tmp 56) (.tmp 58) (by rfl) (by rfl) O23 (by rfl) (fun e => by cases e) (rdN_one G23) (by omega) k23.lt ?_
                intro A5 c5 w50 O50 gr
                have B50 := below_app B23 (O23.lower (Nat.le_succ _)) B23.size gr
                have k50 := k23.grown gr (own_ne_low O23)
                clear k23 B23 O23 G23 gr
                refine hK.out _ _ ?_ (fun hHeld => ?_)
                · exact ⟨k50.cell 0, k50.cell 1⟩
                clear hK K
                refine pt ?_
                refine rd1 11 (fun K hK => ?_)
                refine step_appNs (qs := ns.drop k) (by rfl) (.tmp 59) (.tmp 62) (by rfl) (by rfl) O50 (by rfl) hdn (hrD.below B50) (by omega) k50.lt ?_
                intro A6 c6 w51 O51 gr
                have B51 := below_app B50 (O50.lower (Nat.le_succ _)) B50.size gr
                have k51 := k50.grown gr (own_ne_low O50)
                clear k50 B50 O50 gr
                refine hK.out _ _ ?_ (fun hHeld => ?_)
                · exact ⟨k51.cell 0, k51.cell 1⟩
                clear hK K
                refine pt ?_
                refine tk 12 ?_
                refine wpAnyH_done (by kernel_rfl) ?_ _
                clear hHeld k51
                have hM : k + 1 + (ns.length - k) = ns.length + 1 := by omega
                rw [hM] at O51 ⊢
                rw [show (ns.take k ++ [(t, f)] ++ ns.drop k) = putL ns t f from by unfold putL; rw [HAT.out]] at O51
                have HSP := Lib.hid (putL_size (f := f) HSM.out hts)
                have HPY := Lib.hid (fun h => putN_yes (ns := ns) (t := t) (f := f) h)
                have HPZ := Lib.hid (fun h => putN_no (ns := ns) (t := t) (f := f) h)
                generalize putL ns t f = PL at *
                have hpl := O51.len
                have O52 := Lib.hid (O51.lower (base' := w.heap.size) (Nat.le_succ _))
                have B52 := Lib.hid B51
                clear B51
                go_wp2_with fail
                refine (namesValid_spec O52.out.rd (by omega) HSP.out).mono ?_
                rintro e w53 ⟨rfl, dm, rfl⟩
                have O53 := Lib.hid (O52.out.below (below_drewN (Below.refl _ _) dm))
                have B53 := Lib.hid (below_drewN B52.out dm)
                clear O51 O52 B52
                generalize w51.drewN dm = w53 at *
                by_cases hno : NamesOk PL
                · have hb : bof (NamesOk PL) = true := bof_t.2 hno
                  rw [hb]
                  have HE := Lib.hid (show putN ns t f = PL from HPY.out hno)
                  have HBB := Lib.hid hb
                  clear hno hb
                  go_wp2
                  go_returns
                  rw [HE.out, HBB.out]
                  exact ownN_of hpl O53.out B53.out
                · have hb : bof (NamesOk PL) = false := bof_f.2 hno
                  rw [hb]
                  have HE := Lib.hid (show putN ns t f = ns from HPZ.out hno)
                  have HBB := Lib.hid hb
                  clear hno hb O53
                  have b54 : Below w53.heap.size w53 (w53.alloc (.cells #[] 90)) := (Below.refl _ _).alloc (Nat.le_refl _) _
                  have s53 := B53.out.size
                  have O54 := Lib.hid (show OwN (w53.alloc (.cells #[] 90)) w.heap.size (some ⟨w53.heap.size, 0, none⟩) 0 0 [] from World.ownsRow_lit w53 #[] 0 s53 (by decide) rfl)
                  have B54 := Lib.hid (B53.out.trans (b54.mono s53))
                  clear b54 B53
                  go_wp2_with (at_builtin; refine wpList_appNs (ns := []) (qs := ns) rfl rfl rfl O54.out rfl HNIL.out (HR.out.below B54.out) (by omega) B54.out.size ?_; rintro A6 c6 w55 o55 gr)
                  have B55 := Lib.hid (below_app B54.out O54.out B54.out.size gr)
                  rw [Nat.zero_add, List.nil_append] at o55
                  have O55 := Lib.hid o55
                  clear o55 gr
                  go_wp2
                  go_returns
                  rw [HE.out, HBB.out]
                  first | exact ownN_of rfl O55.out B55.out | (simpa using ownN_of rfl O55.out B55.out)
              · go_simp
                have bb : Below w21.heap.size w21 (w21.alloc (.cells #[.string t, .int .i64 f] 90)) := (Below.refl _ _).alloc (Nat.le_refl _) _
                have sz := B21.size
                have G24 := Blk.new w21 90 #[.string t, .int .i64 f]
                have k24 := k21.below bb k21.lt
                have B24 := B21.trans (bb.mono sz)
                have O24 := O21.below bb
                have gne : g0 < w21.heap.size := (own_lt O21 rfl).2
                clear k21 B21 bb O21
                generalize w21.alloc (.cells #[.string t, .int .i64 f] 90) = w24 at *
                generalize hg6 : w21.heap.size = g6 at *
                clear hg6
                refine hK.out _ _ ?_ (fun hHeld => ?_)
                · exact ⟨k24.cell 0, k24.cell 1⟩
                clear hK K
                refine pt ?_
                refine rd1 4 (fun K hK => ?_)
                refine step_appNs (ns := []) (qs := ns.take k) (by rfl) (.tmp 52) (.tmp 55) (by rfl) (by rfl) O24 (by rfl) HNIL.out (hrT.below B24) (by omega) k24.lt ?_
                intro A4 c4 w25 O25 gr
                simp only [Nat.zero_add, List.nil_append] at O25 ⊢
                have k25 := k24.grown gr (fun e => by injection e with e; have e' : w.heap.size = g0 := e; omega)
                have B25 := below_app B24 (O24.lower (Nat.le_succ _)) B24.size gr
                have G25 := G24.grown gr (fun e => by injection e with e; have e' : g6 = g0 := e; omega)
                clear k24 B24 O24 gr G24
                refine hK.out _ _ ?_ (fun hHeld => ?_)
                · exact ⟨k25.cell 0, k25.cell 1⟩
                clear hK K
                refine pt ?_
                refine rd1 7 (fun K hK => ?_)
                refine step_appNs (qs := [(t, f)]) (by rfl) (.tmp 56) (.tmp 58) (by rfl) (by rfl) O25 (by rfl) (fun e => by cases e) (rdN_one G25) (by omega) k25.lt ?_
                intro A5 c5 w50 O50 gr
                have B50 := below_app B25 (O25.lower (Nat.le_succ _)) B25.size gr
                have k50 := k25.grown gr (own_ne_low O25)
                clear k25 B25 O25 G25 gr
                refine hK.out _ _ ?_ (fun hHeld => ?_)
                · exact ⟨k50.cell 0, k50.cell 1⟩
                clear hK K
                refine pt ?_
                refine rd1 11 (fun K hK => ?_)
                refine step_appNs (qs := ns.drop k) (by rfl) (.tmp 59) (.tmp 62) (by rfl) (by rfl) O50 (by rfl) hdn (hrD.below B50) (by omega) k50.lt ?_
                intro A6 c6 w51 O51 gr
                have B51 := below_app B50 (O50.lower (Nat.le_succ _)) B50.size gr
                have k51 := k50.grown gr (own_ne_low O50)
                clear k50 B50 O50 gr
                refine hK.out _ _ ?_ (fun hHeld => ?_)
                · exact ⟨k51.cell 0, k51.cell 1⟩
                clear hK K
                refine pt ?_
                refine tk 12 ?_
                refine wpAnyH_done (by kernel_rfl) ?_ _
                clear hHeld k51
                have hM : k + 1 + (ns.length - k) = ns.length + 1 := by omega
                rw [hM] at O51 ⊢
                rw [show (ns.take k ++ [(t, f)] ++ ns.drop k) = putL ns t f from by unfold putL; rw [HAT.out]] at O51
                have HSP := Lib.hid (putL_size (f := f) HSM.out hts)
                have HPY := Lib.hid (fun h => putN_yes (ns := ns) (t := t) (f := f) h)
                have HPZ := Lib.hid (fun h => putN_no (ns := ns) (t := t) (f := f) h)
                generalize putL ns t f = PL at *
                have hpl := O51.len
                have O52 := Lib.hid (O51.lower (base' := w.heap.size) (Nat.le_succ _))
                have B52 := Lib.hid B51
                clear B51
                go_wp2_with fail
                refine (namesValid_spec O52.out.rd (by omega) HSP.out).mono ?_
                rintro e w53 ⟨rfl, dm, rfl⟩
                have O53 := Lib.hid (O52.out.below (below_drewN (Below.refl _ _) dm))
                have B53 := Lib.hid (below_drewN B52.out dm)
                clear O51 O52 B52
                generalize w51.drewN dm = w53 at *
                by_cases hno : NamesOk PL
                · have hb : bof (NamesOk PL) = true := bof_t.2 hno
                  rw [hb]
                  have HE := Lib.hid (show putN ns t f = PL from HPY.out hno)
                  have HBB := Lib.hid hb
                  clear hno hb
                  go_wp2
                  go_returns
                  rw [HE.out, HBB.out]
                  exact ownN_of hpl O53.out B53.out
                · have hb : bof (NamesOk PL) = false := bof_f.2 hno
                  rw [hb]
                  have HE := Lib.hid (show putN ns t f = ns from HPZ.out hno)
                  have HBB := Lib.hid hb
                  clear hno hb O53
                  have b54 : Below w53.heap.size w53 (w53.alloc (.cells #[] 90)) := (Below.refl _ _).alloc (Nat.le_refl _) _
                  have s53 := B53.out.size
                  have O54 := Lib.hid (show OwN (w53.alloc (.cells #[] 90)) w.heap.size (some ⟨w53.heap.size, 0, none⟩) 0 0 [] from World.ownsRow_lit w53 #[] 0 s53 (by decide) rfl)
                  have B54 := Lib.hid (B53.out.trans (b54.mono s53))
                  clear b54 B53
                  go_wp2_with (at_builtin; refine wpList_appNs (ns := []) (qs := ns) rfl rfl rfl O54.out rfl HNIL.out (HR.out.below B54.out) (by omega) B54.out.size ?_; rintro A6 c6 w55 o55 gr)
                  have B55 := Lib.hid (below_app B54.out O54.out B54.out.size gr)
                  rw [Nat.zero_add, List.nil_append] at o55
                  have O55 := Lib.hid o55
                  clear o55 gr
                  go_wp2
                  go_returns
                  rw [HE.out, HBB.out]
                  first | exact ownN_of rfl O55.out B55.out | (simpa using ownN_of rfl O55.out B55.out)
            · go_simp
              have bb : Below w11.heap.size w11 (w11.alloc (.cells #[.string t, .int .i64 f] 90)) := (Below.refl _ _).alloc (Nat.le_refl _) _
              have sz := B11.size
              have G26 := Blk.new w11 90 #[.string t, .int .i64 f]
              have k26 := k11.below bb k11.lt
              have B26 := B11.trans (bb.mono sz)
              clear k11 B11 bb
              generalize w11.alloc (.cells #[.string t, .int .i64 f] 90) = w26 at *
              generalize hg6 : w11.heap.size = g6 at *
              clear hg6
              refine hK.out _ _ ?_ (fun hHeld => ?_)
              · exact ⟨k26.cell 0, k26.cell 1⟩
              clear hK K
              refine pt ?_
              refine rd1 0 (fun K hK => ?_)
              go_simp
              have bb : Below w26.heap.size w26 (w26.alloc (.cells #[] 90)) := (Below.refl _ _).alloc (Nat.le_refl _) _
              have sz := B26.size
              have O27 : OwN (w26.alloc (.cells #[] 90)) (w.heap.size + 1) (some ⟨w26.heap.size, 0, none⟩) 0 0 [] := World.ownsRow_lit w26 #[] 0 k26.lt (by decide) rfl
              have kgl := k26.lt
              have k27 := k26.below bb k26.lt
              have B27 := B26.trans (bb.mono sz)
              have G27 := G26.below bb G26.lt
              have gne := G26.lt
              clear k26 B26 bb G26
              generalize w26.alloc (.cells #[] 90) = w27 at *
              generalize hg0 : w26.heap.size = g0 at *
              clear hg0
              refine hK.out _ _ ?_ (fun hHeld => ?_)
              · exact ⟨k27.cell 0, k27.cell 1⟩
              clear hK K
              refine pt ?_
              refine rd1 4 (fun K hK => ?_)
              refine step_appNs (ns := []) (qs := ns.take k) (by rfl) (.tmp 52) (.tmp 55) (by rfl) (by rfl) O27 (by rfl) HNIL.out (hrT.below B27) (by omega) k27.lt ?_
              intro A4 c4 w28 O28 gr
              simp only [Nat.zero_add, List.nil_append] at O28 ⊢
              have k28 := k27.grown gr (fun e => by injection e with e; have e' : w.heap.size = g0 := e; omega)
              have B28 := below_app B27 (O27.lower (Nat.le_succ _)) B27.size gr
              have G28 := G27.grown gr (fun e => by injection e with e; have e' : g6 = g0 := e; omega)
              clear k27 B27 O27 gr G27
              refine hK.out _ _ ?_ (fun hHeld => ?_)
              · exact ⟨k28.cell 0, k28.cell 1⟩
              clear hK K
              refine pt ?_
              refine rd1 7 (fun K hK => ?_)
              refine step_appNs (qs := [(t, f)]) (by rfl) (.tmp 56) (.tmp 58) (by rfl) (by rfl) O28 (by rfl) (fun e => by cases e) (rdN_one G28) (by omega) k28.lt ?_
              intro A5 c5 w50 O50 gr
              have B50 := below_app B28 (O28.lower (Nat.le_succ _)) B28.size gr
              have k50 := k28.grown gr (own_ne_low O28)
              clear k28 B28 O28 G28 gr
              refine hK.out _ _ ?_ (fun hHeld => ?_)
              · exact ⟨k50.cell 0, k50.cell 1⟩
              clear hK K
              refine pt ?_
              refine rd1 11 (fun K hK => ?_)
              refine step_appNs (qs := ns.drop k) (by rfl) (.tmp 59) (.tmp 62) (by rfl) (by rfl) O50 (by rfl) hdn (hrD.below B50) (by omega) k50.lt ?_
              intro A6 c6 w51 O51 gr
              have B51 := below_app B50 (O50.lower (Nat.le_succ _)) B50.size gr
              have k51 := k50.grown gr (own_ne_low O50)
              clear k50 B50 O50 gr
              refine hK.out _ _ ?_ (fun hHeld => ?_)
              · exact ⟨k51.cell 0, k51.cell 1⟩
              clear hK K
              refine pt ?_
              refine tk 12 ?_
              refine wpAnyH_done (by kernel_rfl) ?_ _
              clear hHeld k51
              have hM : k + 1 + (ns.length - k) = ns.length + 1 := by omega
              rw [hM] at O51 ⊢
              rw [show (ns.take k ++ [(t, f)] ++ ns.drop k) = putL ns t f from by unfold putL; rw [HAT.out]] at O51
              have HSP := Lib.hid (putL_size (f := f) HSM.out hts)
              have HPY := Lib.hid (fun h => putN_yes (ns := ns) (t := t) (f := f) h)
              have HPZ := Lib.hid (fun h => putN_no (ns := ns) (t := t) (f := f) h)
              generalize putL ns t f = PL at *
              have hpl := O51.len
              have O52 := Lib.hid (O51.lower (base' := w.heap.size) (Nat.le_succ _))
              have B52 := Lib.hid B51
              clear B51
              go_wp2_with fail
              refine (namesValid_spec O52.out.rd (by omega) HSP.out).mono ?_
              rintro e w53 ⟨rfl, dm, rfl⟩
              have O53 := Lib.hid (O52.out.below (below_drewN (Below.refl _ _) dm))
              have B53 := Lib.hid (below_drewN B52.out dm)
              clear O51 O52 B52
              generalize w51.drewN dm = w53 at *
              by_cases hno : NamesOk PL
              · have hb : bof (NamesOk PL) = true := bof_t.2 hno
                rw [hb]
                have HE := Lib.hid (show putN ns t f = PL from HPY.out hno)
                have HBB := Lib.hid hb
                clear hno hb
                go_wp2
                go_returns
                rw [HE.out, HBB.out]
                exact ownN_of hpl O53.out B53.out
              · have hb : bof (NamesOk PL) = false := bof_f.2 hno
                rw [hb]
                have HE := Lib.hid (show putN ns t f = ns from HPZ.out hno)
                have HBB := Lib.hid hb
                clear hno hb O53
                have b54 : Below w53.heap.size w53 (w53.alloc (.cells #[] 90)) := (Below.refl _ _).alloc (Nat.le_refl _) _
                have s53 := B53.out.size
                have O54 := Lib.hid (show OwN (w53.alloc (.cells #[] 90)) w.heap.size (some ⟨w53.heap.size, 0, none⟩) 0 0 [] from World.ownsRow_lit w53 #[] 0 s53 (by decide) rfl)
                have B54 := Lib.hid (B53.out.trans (b54.mono s53))
                clear b54 B53
                go_wp2_with (at_builtin; refine wpList_appNs (ns := []) (qs := ns) rfl rfl rfl O54.out rfl HNIL.out (HR.out.below B54.out) (by omega) B54.out.size ?_; rintro A6 c6 w55 o55 gr)
                have B55 := Lib.hid (below_app B54.out O54.out B54.out.size gr)
                rw [Nat.zero_add, List.nil_append] at o55
                have O55 := Lib.hid o55
                clear o55 gr
                go_wp2
                go_returns
                rw [HE.out, HBB.out]
                first | exact ownN_of rfl O55.out B55.out | (simpa using ownN_of rfl O55.out B55.out)
        · have h1 : decide (bs' < bt) = false := decide_eq_false hlt1
          have h2 : (bs' == bt) = false := by simpa using heq
          have HAT := Lib.hid (putAt_at (t := t) hlt HBE.out (by rw [HT.out]; exact fun h => by rcases HNB.out.1 h with h | h; exact hlt1 h; exact heq h.1))
          refine wp_region_held_drew (S := fun w' => w'.cell? ⟨b, off + k * 2, none⟩ = some (.string s) ∧ w'.cell? ⟨w.heap.size, 0, none⟩ = some (.string t)) (by kernel_rfl) ?_ (fun hHeld => ?_)
          · exact ⟨d0, t0⟩
          refine tk 0 ?_
          refine tk 1 ?_
          refine tk 2 ?_
          refine tk 3 ?_
          refine tk 4 ?_
          refine tk 5 ?_
          refine tk 6 ?_
          refine tk 7 ?_
          refine tk 8 ?_
          refine tk 9 ?_
          refine tk 11 ?_
          refine rd1 10 (fun K hK => ?_)
          go_simp
          refine (nameBucket_spec s _ hsz).mono ?_; rintro e w5 ⟨rfl, rfl⟩
          go_wp2_with fail
          refine hK.out _ _ ?_ (fun hHeld => ?_)
          · exact ⟨d0, t0⟩
          clear hK K
          refine pt ?_
          refine tk 12 ?_
          refine tk 13 ?_
          refine tk 14 ?_
          refine tk 15 ?_
          refine tk 16 ?_
          refine tk 17 ?_
          refine tk 18 ?_
          refine tk 20 ?_
          refine rd1 19 (fun K hK => ?_)
          go_simp
          refine (nameBucket_spec s _ hsz).mono ?_; rintro e w5 ⟨rfl, rfl⟩
          go_wp2_with fail
          refine hK.out _ _ ?_ (fun hHeld => ?_)
          · exact ⟨d0, t0⟩
          clear hK K
          refine pt ?_
          refine tk 21 ?_
          refine tk 22 ?_
          refine sk 23 ?_
          refine sk 24 ?_
          refine sk 25 ?_
          refine sk 26 ?_
          refine sk 27 ?_
          refine sk 28 ?_
          refine sk 29 ?_
          refine sk 30 ?_
          refine tk 31 ?_
          refine tk 32 ?_
          refine tk 33 ?_
          refine wpAnyH_done (by kernel_rfl) ?_ _
          clear hHeld
          have B10 := B3.out.drew
          have k10 : Blk wr.drew w.heap.size 90 _ := k3
          clear k3 B3 t0
          generalize wr.drew = w10 at *
          have hrT := rdN_take (HR.out) (k := k) (by omega)
          have hrD := rdN_drop (HR.out) (k := k) (c := c) (by omega) hnc
          have t0 := k10.cell 0
          have t1 := k10.cell 1
          simp at t0 t1
          go_upto_region 7 with (fail)
          refine wp_region_held_drew (S := fun w' => w'.cell? ⟨w.heap.size, 0, none⟩ = some (.string t) ∧ w'.cell? ⟨w.heap.size, 1, none⟩ = some (.int .i64 f)) (by kernel_rfl) ?_ (fun hHeld => ?_)
          · exact ⟨t0, t1⟩
          refine tk 1 ?_
          refine tk 2 ?_
          refine wpAnyH_take (i := 3) (v := .slice (some ⟨b, off, none⟩) k c) rfl (by kernel_rfl) (by kernel_rfl) (by kernel_rfl) (fun _ _ _ h => h) (Or.inl ⟨by rfl, ?_⟩) (by assumption) ?_
          · (intro w hSw; (try dsimp only at hSw); first | (go_simp; intro hck; exact absurd hck (by omega)) | go_simp)
          refine pt ?_
          refine tk 5 ?_
          refine tk 8 ?_
          refine tk 9 ?_
          refine wpAnyH_take (i := 10) (v := .slice (if c = k then (some ⟨b, off, none⟩) else ((some ⟨b, off, none⟩) : Option Addr).map (·.add (k * 2))) (ns.length - k) (c - k)) rfl (by kernel_rfl) (by kernel_rfl) (by kernel_rfl) (fun _ _ _ h => h) (Or.inl ⟨by rfl, ?_⟩) (by assumption) ?_
          · (intro w hSw; (try dsimp only at hSw); go_simp)
          refine pt ?_
          have hdn := drop_nil (k := k) HNIL.out
          generalize (if c = k then (some ⟨b, off, none⟩) else ((some ⟨b, off, none⟩) : Option Addr).map (·.add (k * 2))) = DA at *
          have B11 := B10.drew
          have k11 : Blk w10.drew w.heap.size 90 _ := k10
          clear k10 B10 t0 t1
          generalize w10.drew = w11 at *
          refine rd2 0 6 (fun K hK => ?_) (fun K hK => ?_)
          · go_simp
            have bb : Below w11.heap.size w11 (w11.alloc (.cells #[] 90)) := (Below.refl _ _).alloc (Nat.le_refl _) _
            have sz := B11.size
            have O29 : OwN (w11.alloc (.cells #[] 90)) (w.heap.size + 1) (some ⟨w11.heap.size, 0, none⟩) 0 0 [] := World.ownsRow_lit w11 #[] 0 k11.lt (by decide) rfl
            have kgl := k11.lt
            have k29 := k11.below bb k11.lt
            have B29 := B11.trans (bb.mono sz)
            clear k11 B11 bb
            generalize w11.alloc (.cells #[] 90) = w29 at *
            generalize hg0 : w11.heap.size = g0 at *
            clear hg0
            refine hK.out _ _ ?_ (fun hHeld => ?_)
            · exact ⟨k29.cell 0, k29.cell 1⟩
            clear hK K
            refine pt ?_
            refine rd2 4 6 (fun K hK => ?_) (fun K hK => ?_)
            · refine step_appNs (ns := []) (qs := ns.take k) (by rfl) (.tmp 52) (.tmp 55) (by rfl) (by rfl) O29 (by rfl) HNIL.out (hrT.below B29) (by omega) k29.lt ?_
              intro A4 c4 w30 O30 gr
              simp only [Nat.zero_add, List.nil_append] at O30 ⊢
              have k30 := k29.grown gr (fun e => by injection e with e; have e' : w.heap.size = g0 := e; omega)
              have B30 := below_app B29 (O29.lower (Nat.le_succ _)) B29.size gr
              clear k29 B29 O29 gr
              refine hK.out _ _ ?_ (fun hHeld => ?_)
              · exact ⟨k30.cell 0, k30.cell 1⟩
              clear hK K
              refine pt ?_
              refine rd1 6 (fun K hK => ?_)
              go_simp
              have bb : Below w30.heap.size w30 (w30.alloc (.cells #[.string t, .int .i64 f] 90)) := (Below.refl _ _).alloc (Nat.le_refl _) _
              have sz := B30.size
              have G31 := Blk.new w30 90 #[.string t, .int .i64 f]
              have k31 := k30.below bb k30.lt
              have B31 := B30.trans (bb.mono sz)
              have O31 := O30.below bb
              clear k30 B30 bb O30
              generalize w30.alloc (.cells #[.string t, .int .i64 f] 90) = w31 at *
              generalize hg6 : w30.heap.size = g6 at *
              clear hg6
              refine hK.out _ _ ?_ (fun hHeld => ?_)
              · exact ⟨k31.cell 0, k31.cell 1⟩
              clear hK K
              refine pt ?_
              refine rd1 7 (fun K hK => ?_)
              refine step_appNs (qs := [(t, f)]) (by rfl) (.tmp 56) (.tmp 58) (by rfl) (by rfl) O31 (by rfl) (fun e => by cases e) (rdN_one G31) (by omega) k31.lt ?_
              intro A5 c5 w50 O50 gr
              have B50 := below_app B31 (O31.lower (Nat.le_succ _)) B31.size gr
              have k50 := k31.grown gr (own_ne_low O31)
              clear k31 B31 O31 G31 gr
              refine hK.out _ _ ?_ (fun hHeld => ?_)
              · exact ⟨k50.cell 0, k50.cell 1⟩
              clear hK K
              refine pt ?_
              refine rd1 11 (fun K hK => ?_)
              refine step_appNs (qs := ns.drop k) (by rfl) (.tmp 59) (.tmp 62) (by rfl) (by rfl) O50 (by rfl) hdn (hrD.below B50) (by omega) k50.lt ?_
              intro A6 c6 w51 O51 gr
              have B51 := below_app B50 (O50.lower (Nat.le_succ _)) B50.size gr
              have k51 := k50.grown gr (own_ne_low O50)
              clear k50 B50 O50 gr
              refine hK.out _ _ ?_ (fun hHeld => ?_)
              · exact ⟨k51.cell 0, k51.cell 1⟩
              clear hK K
              refine pt ?_
              refine tk 12 ?_
              refine wpAnyH_done (by kernel_rfl) ?_ _
              clear hHeld k51
              have hM : k + 1 + (ns.length - k) = ns.length + 1 := by omega
              rw [hM] at O51 ⊢
              rw [show (ns.take k ++ [(t, f)] ++ ns.drop k) = putL ns t f from by unfold putL; rw [HAT.out]] at O51
              have HSP := Lib.hid (putL_size (f := f) HSM.out hts)
              have HPY := Lib.hid (fun h => putN_yes (ns := ns) (t := t) (f := f) h)
              have HPZ := Lib.hid (fun h => putN_no (ns := ns) (t := t) (f := f) h)
              generalize putL ns t f = PL at *
              have hpl := O51.len
              have O52 := Lib.hid (O51.lower (base' := w.heap.size) (Nat.le_succ _))
              have B52 := Lib.hid B51
              clear B51
              go_wp2_with fail
              refine (namesValid_spec O52.out.rd (by omega) HSP.out).mono ?_
              rintro e w53 ⟨rfl, dm, rfl⟩
              have O53 := Lib.hid (O52.out.below (below_drewN (Below.refl _ _) dm))
              have B53 := Lib.hid (below_drewN B52.out dm)
              clear O51 O52 B52
              generalize w51.drewN dm = w53 at *
              by_cases hno : NamesOk PL
              · have hb : bof (NamesOk PL) = true := bof_t.2 hno
                rw [hb]
                have HE := Lib.hid (show putN ns t f = PL from HPY.out hno)
                have HBB := Lib.hid hb
                clear hno hb
                go_wp2
                go_returns
                rw [HE.out, HBB.out]
                exact ownN_of hpl O53.out B53.out
              · have hb : bof (NamesOk PL) = false := bof_f.2 hno
                rw [hb]
                have HE := Lib.hid (show putN ns t f = ns from HPZ.out hno)
                have HBB := Lib.hid hb
                clear hno hb O53
                have b54 : Below w53.heap.size w53 (w53.alloc (.cells #[] 90)) := (Below.refl _ _).alloc (Nat.le_refl _) _
                have s53 := B53.out.size
                have O54 := Lib.hid (show OwN (w53.alloc (.cells #[] 90)) w.heap.size (some ⟨w53.heap.size, 0, none⟩) 0 0 [] from World.ownsRow_lit w53 #[] 0 s53 (by decide) rfl)
                have B54 := Lib.hid (B53.out.trans (b54.mono s53))
                clear b54 B53
                go_wp2_with (at_builtin; refine wpList_appNs (ns := []) (qs := ns) rfl rfl rfl O54.out rfl HNIL.out (HR.out.below B54.out) (by omega) B54.out.size ?_; rintro A6 c6 w55 o55 gr)
                have B55 := Lib.hid (below_app B54.out O54.out B54.out.size gr)
                rw [Nat.zero_add, List.nil_append] at o55
                have O55 := Lib.hid o55
                clear o55 gr
                go_wp2
                go_returns
                rw [HE.out, HBB.out]
                first | exact ownN_of rfl O55.out B55.out | (simpa using ownN_of rfl O55.out B55.out)
            · go_simp
              have bb : Below w29.heap.size w29 (w29.alloc (.cells #[.string t, .int .i64 f] 90)) := (Below.refl _ _).alloc (Nat.le_refl _) _
              have sz := B29.size
              have G32 := Blk.new w29 90 #[.string t, .int .i64 f]
              have k32 := k29.below bb k29.lt
              have B32 := B29.trans (bb.mono sz)
              have O32 := O29.below bb
              have gne : g0 < w29.heap.size := (own_lt O29 rfl).2
              clear k29 B29 bb O29
              generalize w29.alloc (.cells #[.string t, .int .i64 f] 90) = w32 at *
              generalize hg6 : w29.heap.size = g6 at *
              clear hg6
              refine hK.out _ _ ?_ (fun hHeld => ?_)
              · exact ⟨k32.cell 0, k32.cell 1⟩
              clear hK K
              refine pt ?_
              refine rd1 4 (fun K hK => ?_)
              refine step_appNs (ns := []) (qs := ns.take k) (by rfl) (.tmp 52) (.tmp 55) (by rfl) (by rfl) O32 (by rfl) HNIL.out (hrT.below B32) (by omega) k32.lt ?_
              intro A4 c4 w33 O33 gr
              simp only [Nat.zero_add, List.nil_append] at O33 ⊢
              have k33 := k32.grown gr (fun e => by injection e with e; have e' : w.heap.size = g0 := e; omega)
              have B33 := below_app B32 (O32.lower (Nat.le_succ _)) B32.size gr
              have G33 := G32.grown gr (fun e => by injection e with e; have e' : g6 = g0 := e; omega)
              clear k32 B32 O32 gr G32
              refine hK.out _ _ ?_ (fun hHeld => ?_)
              · exact ⟨k33.cell 0, k33.cell 1⟩
              clear hK K
              refine pt ?_
              refine rd1 7 (fun K hK => ?_)
              refine step_appNs (qs := [(t, f)]) (by rfl) (.tmp 56) (.tmp 58) (by rfl) (by rfl) O33 (by rfl) (fun e => by cases e) (rdN_one G33) (by omega) k33.lt ?_
              intro A5 c5 w50 O50 gr
              have B50 := below_app B33 (O33.lower (Nat.le_succ _)) B33.size gr
              have k50 := k33.grown gr (own_ne_low O33)
              clear k33 B33 O33 G33 gr
              refine hK.out _ _ ?_ (fun hHeld => ?_)
              · exact ⟨k50.cell 0, k50.cell 1⟩
              clear hK K
              refine pt ?_
              refine rd1 11 (fun K hK => ?_)
              refine step_appNs (qs := ns.drop k) (by rfl) (.tmp 59) (.tmp 62) (by rfl) (by rfl) O50 (by rfl) hdn (hrD.below B50) (by omega) k50.lt ?_
              intro A6 c6 w51 O51 gr
              have B51 := below_app B50 (O50.lower (Nat.le_succ _)) B50.size gr
              have k51 := k50.grown gr (own_ne_low O50)
              clear k50 B50 O50 gr
              refine hK.out _ _ ?_ (fun hHeld => ?_)
              · exact ⟨k51.cell 0, k51.cell 1⟩
              clear hK K
              refine pt ?_
              refine tk 12 ?_
              refine wpAnyH_done (by kernel_rfl) ?_ _
              clear hHeld k51
              have hM : k + 1 + (ns.length - k) = ns.length + 1 := by omega
              rw [hM] at O51 ⊢
              rw [show (ns.take k ++ [(t, f)] ++ ns.drop k) = putL ns t f from by unfold putL; rw [HAT.out]] at O51
              have HSP := Lib.hid (putL_size (f := f) HSM.out hts)
              have HPY := Lib.hid (fun h => putN_yes (ns := ns) (t := t) (f := f) h)
              have HPZ := Lib.hid (fun h => putN_no (ns := ns) (t := t) (f := f) h)
              generalize putL ns t f = PL at *
              have hpl := O51.len
              have O52 := Lib.hid (O51.lower (base' := w.heap.size) (Nat.le_succ _))
              have B52 := Lib.hid B51
              clear B51
              go_wp2_with fail
              refine (namesValid_spec O52.out.rd (by omega) HSP.out).mono ?_
              rintro e w53 ⟨rfl, dm, rfl⟩
              have O53 := Lib.hid (O52.out.below (below_drewN (Below.refl _ _) dm))
              have B53 := Lib.hid (below_drewN B52.out dm)
              clear O51 O52 B52
              generalize w51.drewN dm = w53 at *
              by_cases hno : NamesOk PL
              · have hb : bof (NamesOk PL) = true := bof_t.2 hno
                rw [hb]
                have HE := Lib.hid (show putN ns t f = PL from HPY.out hno)
                have HBB := Lib.hid hb
                clear hno hb
                go_wp2
                go_returns
                rw [HE.out, HBB.out]
                exact ownN_of hpl O53.out B53.out
              · have hb : bof (NamesOk PL) = false := bof_f.2 hno
                rw [hb]
                have HE := Lib.hid (show putN ns t f = ns from HPZ.out hno)
                have HBB := Lib.hid hb
                clear hno hb O53
                have b54 : Below w53.heap.size w53 (w53.alloc (.cells #[] 90)) := (Below.refl _ _).alloc (Nat.le_refl _) _
                have s53 := B53.out.size
                have O54 := Lib.hid (show OwN (w53.alloc (.cells #[] 90)) w.heap.size (some ⟨w53.heap.size, 0, none⟩) 0 0 [] from World.ownsRow_lit w53 #[] 0 s53 (by decide) rfl)
                have B54 := Lib.hid (B53.out.trans (b54.mono s53))
                clear b54 B53
                go_wp2_with (at_builtin; refine wpList_appNs (ns := []) (qs := ns) rfl rfl rfl O54.out rfl HNIL.out (HR.out.below B54.out) (by omega) B54.out.size ?_; rintro A6 c6 w55 o55 gr)
                have B55 := Lib.hid (below_app B54.out O54.out B54.out.size gr)
                rw [Nat.zero_add, List.nil_append] at o55
                have O55 := Lib.hid o55
                clear o55 gr
                go_wp2
                go_returns
                rw [HE.out, HBB.out]
                first | exact ownN_of rfl O55.out B55.out | (simpa using ownN_of rfl O55.out B55.out)
          · go_simp
            have bb : Below w11.heap.size w11 (w11.alloc (.cells #[.string t, .int .i64 f] 90)) := (Below.refl _ _).alloc (Nat.le_refl _) _
            have sz := B11.size
            have G34 := Blk.new w11 90 #[.string t, .int .i64 f]
            have k34 := k11.below bb k11.lt
            have B34 := B11.trans (bb.mono sz)
            clear k11 B11 bb
            generalize w11.alloc (.cells #[.string t, .int .i64 f] 90) = w34 at *
            generalize hg6 : w11.heap.size = g6 at *
            clear hg6
            refine hK.out _ _ ?_ (fun hHeld => ?_)
            · exact ⟨k34.cell 0, k34.cell 1⟩
            clear hK K
            refine pt ?_
            refine rd1 0 (fun K hK => ?_)
            go_simp
            have bb : Below w34.heap.size w34 (w34.alloc (.cells #[] 90)) := (Below.refl _ _).alloc (Nat.le_refl _) _
            have sz := B34.size
            have O35 : OwN (w34.alloc (.cells #[] 90)) (w.heap.size + 1) (some ⟨w34.heap.size, 0, none⟩) 0 0 [] := World.ownsRow_lit w34 #[] 0 k34.lt (by decide) rfl
            have kgl := k34.lt
            have k35 := k34.below bb k34.lt
            have B35 := B34.trans (bb.mono sz)
            have G35 := G34.below bb G34.lt
            have gne := G34.lt
            clear k34 B34 bb G34
            generalize w34.alloc (.cells #[] 90) = w35 at *
            generalize hg0 : w34.heap.size = g0 at *
            clear hg0
            refine hK.out _ _ ?_ (fun hHeld => ?_)
            · exact ⟨k35.cell 0, k35.cell 1⟩
            clear hK K
            refine pt ?_
            refine rd1 4 (fun K hK => ?_)
            refine step_appNs (ns := []) (qs := ns.take k) (by rfl) (.tmp 52) (.tmp 55) (by rfl) (by rfl) O35 (by rfl) HNIL.out (hrT.below B35) (by omega) k35.lt ?_
            intro A4 c4 w36 O36 gr
            simp only [Nat.zero_add, List.nil_append] at O36 ⊢
            have k36 := k35.grown gr (fun e => by injection e with e; have e' : w.heap.size = g0 := e; omega)
            have B36 := below_app B35 (O35.lower (Nat.le_succ _)) B35.size gr
            have G36 := G35.grown gr (fun e => by injection e with e; have e' : g6 = g0 := e; omega)
            clear k35 B35 O35 gr G35
            refine hK.out _ _ ?_ (fun hHeld => ?_)
            · exact ⟨k36.cell 0, k36.cell 1⟩
            clear hK K
            refine pt ?_
            refine rd1 7 (fun K hK => ?_)
            refine step_appNs (qs := [(t, f)]) (by rfl) (.tmp 56) (.tmp 58) (by rfl) (by rfl) O36 (by rfl) (fun e => by cases e) (rdN_one G36) (by omega) k36.lt ?_
            intro A5 c5 w50 O50 gr
            have B50 := below_app B36 (O36.lower (Nat.le_succ _)) B36.size gr
            have k50 := k36.grown gr (own_ne_low O36)
            clear k36 B36 O36 G36 gr
            refine hK.out _ _ ?_ (fun hHeld => ?_)
            · exact ⟨k50.cell 0, k50.cell 1⟩
            clear hK K
            refine pt ?_
            refine rd1 11 (fun K hK => ?_)
            refine step_appNs (qs := ns.drop k) (by rfl) (.tmp 59) (.tmp 62) (by rfl) (by rfl) O50 (by rfl) hdn (hrD.below B50) (by omega) k50.lt ?_
            intro A6 c6 w51 O51 gr
            have B51 := below_app B50 (O50.lower (Nat.le_succ _)) B50.size gr
            have k51 := k50.grown gr (own_ne_low O50)
            clear k50 B50 O50 gr
            refine hK.out _ _ ?_ (fun hHeld => ?_)
            · exact ⟨k51.cell 0, k51.cell 1⟩
            clear hK K
            refine pt ?_
            refine tk 12 ?_
            refine wpAnyH_done (by kernel_rfl) ?_ _
            clear hHeld k51
            have hM : k + 1 + (ns.length - k) = ns.length + 1 := by omega
            rw [hM] at O51 ⊢
            rw [show (ns.take k ++ [(t, f)] ++ ns.drop k) = putL ns t f from by unfold putL; rw [HAT.out]] at O51
            have HSP := Lib.hid (putL_size (f := f) HSM.out hts)
            have HPY := Lib.hid (fun h => putN_yes (ns := ns) (t := t) (f := f) h)
            have HPZ := Lib.hid (fun h => putN_no (ns := ns) (t := t) (f := f) h)
            generalize putL ns t f = PL at *
            have hpl := O51.len
            have O52 := Lib.hid (O51.lower (base' := w.heap.size) (Nat.le_succ _))
            have B52 := Lib.hid B51
            clear B51
            go_wp2_with fail
            refine (namesValid_spec O52.out.rd (by omega) HSP.out).mono ?_
            rintro e w53 ⟨rfl, dm, rfl⟩
            have O53 := Lib.hid (O52.out.below (below_drewN (Below.refl _ _) dm))
            have B53 := Lib.hid (below_drewN B52.out dm)
            clear O51 O52 B52
            generalize w51.drewN dm = w53 at *
            by_cases hno : NamesOk PL
            · have hb : bof (NamesOk PL) = true := bof_t.2 hno
              rw [hb]
              have HE := Lib.hid (show putN ns t f = PL from HPY.out hno)
              have HBB := Lib.hid hb
              clear hno hb
              go_wp2
              go_returns
              rw [HE.out, HBB.out]
              exact ownN_of hpl O53.out B53.out
            · have hb : bof (NamesOk PL) = false := bof_f.2 hno
              rw [hb]
              have HE := Lib.hid (show putN ns t f = ns from HPZ.out hno)
              have HBB := Lib.hid hb
              clear hno hb O53
              have b54 : Below w53.heap.size w53 (w53.alloc (.cells #[] 90)) := (Below.refl _ _).alloc (Nat.le_refl _) _
              have s53 := B53.out.size
              have O54 := Lib.hid (show OwN (w53.alloc (.cells #[] 90)) w.heap.size (some ⟨w53.heap.size, 0, none⟩) 0 0 [] from World.ownsRow_lit w53 #[] 0 s53 (by decide) rfl)
              have B54 := Lib.hid (B53.out.trans (b54.mono s53))
              clear b54 B53
              go_wp2_with (at_builtin; refine wpList_appNs (ns := []) (qs := ns) rfl rfl rfl O54.out rfl HNIL.out (HR.out.below B54.out) (by omega) B54.out.size ?_; rintro A6 c6 w55 o55 gr)
              have B55 := Lib.hid (below_app B54.out O54.out B54.out.size gr)
              rw [Nat.zero_add, List.nil_append] at o55
              have O55 := Lib.hid o55
              clear o55 gr
              go_wp2
              go_returns
              rw [HE.out, HBB.out]
              first | exact ownN_of rfl O55.out B55.out | (simpa using ownN_of rfl O55.out B55.out)
    · have kI : decide ((k : Int) < ns.length) = false := decide_eq_false (by omega)
      have HAT := Lib.hid ((putAt_end (ns := ns) (t := t) (fun i hi => HBE.out i (by omega))).trans (show ns.length = k by omega))
      go_upto_region 5 with (fail)
      refine wp_region_held_drew (S := fun w' => w'.cell? ⟨w.heap.size, 0, none⟩ = some (.string t)) (by kernel_rfl) ?_ (fun hHeld => ?_)
      · exact t0
      refine tk 0 ?_
      refine tk 1 ?_
      refine tk 2 ?_
      refine tk 3 ?_
      refine tk 4 ?_
      refine sk 5 ?_
      refine sk 6 ?_
      refine sk 7 ?_
      refine sk 8 ?_
      refine sk 9 ?_
      refine sk 10 ?_
      refine sk 11 ?_
      refine sk 12 ?_
      refine sk 13 ?_
      refine sk 14 ?_
      refine sk 15 ?_
      refine sk 16 ?_
      refine sk 17 ?_
      refine sk 18 ?_
      refine sk 19 ?_
      refine sk 20 ?_
      refine sk 21 ?_
      refine sk 22 ?_
      refine sk 23 ?_
      refine sk 24 ?_
      refine sk 25 ?_
      refine sk 26 ?_
      refine sk 27 ?_
      refine sk 28 ?_
      refine sk 29 ?_
      refine sk 30 ?_
      refine sk 31 ?_
      refine sk 32 ?_
      refine tk 33 ?_
      refine wpAnyH_done (by kernel_rfl) ?_ _
      clear hHeld
      have B10 := B3.out.drew
      have k10 : Blk wr.drew w.heap.size 90 _ := k3
      clear k3 B3 t0
      generalize wr.drew = w10 at *
      have hrT := rdN_take (HR.out) (k := k) (by omega)
      have hrD := rdN_drop (HR.out) (k := k) (c := c) (by omega) hnc
      have t0 := k10.cell 0
      have t1 := k10.cell 1
      simp at t0 t1
      go_upto_region 7 with (fail)
      refine wp_region_held_drew (S := fun w' => w'.cell? ⟨w.heap.size, 0, none⟩ = some (.string t) ∧ w'.cell? ⟨w.heap.size, 1, none⟩ = some (.int .i64 f)) (by kernel_rfl) ?_ (fun hHeld => ?_)
      · exact ⟨t0, t1⟩
      refine tk 1 ?_
      refine tk 2 ?_
      refine wpAnyH_take (i := 3) (v := .slice A k c) rfl (by kernel_rfl) (by kernel_rfl) (by kernel_rfl) (fun _ _ _ h => h) (Or.inl ⟨by rfl, ?_⟩) (by assumption) ?_
      · (intro w hSw; (try dsimp only at hSw); first | (go_simp; intro hck; exact absurd hck (by omega)) | go_simp)
      refine pt ?_
      refine tk 5 ?_
      refine tk 8 ?_
      refine tk 9 ?_
      refine wpAnyH_take (i := 10) (v := .slice (if c = k then A else (A : Option Addr).map (·.add (k * 2))) (ns.length - k) (c - k)) rfl (by kernel_rfl) (by kernel_rfl) (by kernel_rfl) (fun _ _ _ h => h) (Or.inl ⟨by rfl, ?_⟩) (by assumption) ?_
      · (intro w hSw; (try dsimp only at hSw); go_simp)
      refine pt ?_
      have hdn := drop_nil (k := k) HNIL.out
      generalize (if c = k then A else (A : Option Addr).map (·.add (k * 2))) = DA at *
      have B11 := B10.drew
      have k11 : Blk w10.drew w.heap.size 90 _ := k10
      clear k10 B10 t0 t1
      generalize w10.drew = w11 at *
      refine rd2 0 6 (fun K hK => ?_) (fun K hK => ?_)
      · go_simp
        have bb : Below w11.heap.size w11 (w11.alloc (.cells #[] 90)) := (Below.refl _ _).alloc (Nat.le_refl _) _
        have sz := B11.size
        have O37 : OwN (w11.alloc (.cells #[] 90)) (w.heap.size + 1) (some ⟨w11.heap.size, 0, none⟩) 0 0 [] := World.ownsRow_lit w11 #[] 0 k11.lt (by decide) rfl
        have kgl := k11.lt
        have k37 := k11.below bb k11.lt
        have B37 := B11.trans (bb.mono sz)
        clear k11 B11 bb
        generalize w11.alloc (.cells #[] 90) = w37 at *
        generalize hg0 : w11.heap.size = g0 at *
        clear hg0
        refine hK.out _ _ ?_ (fun hHeld => ?_)
        · exact ⟨k37.cell 0, k37.cell 1⟩
        clear hK K
        refine pt ?_
        refine rd2 4 6 (fun K hK => ?_) (fun K hK => ?_)
        · refine step_appNs (ns := []) (qs := ns.take k) (by rfl) (.tmp 52) (.tmp 55) (by rfl) (by rfl) O37 (by rfl) HNIL.out (hrT.below B37) (by omega) k37.lt ?_
          intro A4 c4 w38 O38 gr
          simp only [Nat.zero_add, List.nil_append] at O38 ⊢
          have k38 := k37.grown gr (fun e => by injection e with e; have e' : w.heap.size = g0 := e; omega)
          have B38 := below_app B37 (O37.lower (Nat.le_succ _)) B37.size gr
          clear k37 B37 O37 gr
          refine hK.out _ _ ?_ (fun hHeld => ?_)
          · exact ⟨k38.cell 0, k38.cell 1⟩
          clear hK K
          refine pt ?_
          refine rd1 6 (fun K hK => ?_)
          go_simp
          have bb : Below w38.heap.size w38 (w38.alloc (.cells #[.string t, .int .i64 f] 90)) := (Below.refl _ _).alloc (Nat.le_refl _) _
          have sz := B38.size
          have G39 := Blk.new w38 90 #[.string t, .int .i64 f]
          have k39 := k38.below bb k38.lt
          have B39 := B38.trans (bb.mono sz)
          have O39 := O38.below bb
          clear k38 B38 bb O38
          generalize w38.alloc (.cells #[.string t, .int .i64 f] 90) = w39 at *
          generalize hg6 : w38.heap.size = g6 at *
          clear hg6
          refine hK.out _ _ ?_ (fun hHeld => ?_)
          · exact ⟨k39.cell 0, k39.cell 1⟩
          clear hK K
          refine pt ?_
          refine rd1 7 (fun K hK => ?_)
          refine step_appNs (qs := [(t, f)]) (by rfl) (.tmp 56) (.tmp 58) (by rfl) (by rfl) O39 (by rfl) (fun e => by cases e) (rdN_one G39) (by omega) k39.lt ?_
          intro A5 c5 w50 O50 gr
          have B50 := below_app B39 (O39.lower (Nat.le_succ _)) B39.size gr
          have k50 := k39.grown gr (own_ne_low O39)
          clear k39 B39 O39 G39 gr
          refine hK.out _ _ ?_ (fun hHeld => ?_)
          · exact ⟨k50.cell 0, k50.cell 1⟩
          clear hK K
          refine pt ?_
          refine rd1 11 (fun K hK => ?_)
          refine step_appNs (qs := ns.drop k) (by rfl) (.tmp 59) (.tmp 62) (by rfl) (by rfl) O50 (by rfl) hdn (hrD.below B50) (by omega) k50.lt ?_
          intro A6 c6 w51 O51 gr
          have B51 := below_app B50 (O50.lower (Nat.le_succ _)) B50.size gr
          have k51 := k50.grown gr (own_ne_low O50)
          clear k50 B50 O50 gr
          refine hK.out _ _ ?_ (fun hHeld => ?_)
          · exact ⟨k51.cell 0, k51.cell 1⟩
          clear hK K
          refine pt ?_
          refine tk 12 ?_
          refine wpAnyH_done (by kernel_rfl) ?_ _
          clear hHeld k51
          have hM : k + 1 + (ns.length - k) = ns.length + 1 := by omega
          rw [hM] at O51 ⊢
          rw [show (ns.take k ++ [(t, f)] ++ ns.drop k) = putL ns t f from by unfold putL; rw [HAT.out]] at O51
          have HSP := Lib.hid (putL_size (f := f) HSM.out hts)
          have HPY := Lib.hid (fun h => putN_yes (ns := ns) (t := t) (f := f) h)
          have HPZ := Lib.hid (fun h => putN_no (ns := ns) (t := t) (f := f) h)
          generalize putL ns t f = PL at *
          have hpl := O51.len
          have O52 := Lib.hid (O51.lower (base' := w.heap.size) (Nat.le_succ _))
          have B52 := Lib.hid B51
          clear B51
          go_wp2_with fail
          refine (namesValid_spec O52.out.rd (by omega) HSP.out).mono ?_
          rintro e w53 ⟨rfl, dm, rfl⟩
          have O53 := Lib.hid (O52.out.below (below_drewN (Below.refl _ _) dm))
          have B53 := Lib.hid (below_drewN B52.out dm)
          clear O51 O52 B52
          generalize w51.drewN dm = w53 at *
          by_cases hno : NamesOk PL
          · have hb : bof (NamesOk PL) = true := bof_t.2 hno
            rw [hb]
            have HE := Lib.hid (show putN ns t f = PL from HPY.out hno)
            have HBB := Lib.hid hb
            clear hno hb
            go_wp2
            go_returns
            rw [HE.out, HBB.out]
            exact ownN_of hpl O53.out B53.out
          · have hb : bof (NamesOk PL) = false := bof_f.2 hno
            rw [hb]
            have HE := Lib.hid (show putN ns t f = ns from HPZ.out hno)
            have HBB := Lib.hid hb
            clear hno hb O53
            have b54 : Below w53.heap.size w53 (w53.alloc (.cells #[] 90)) := (Below.refl _ _).alloc (Nat.le_refl _) _
            have s53 := B53.out.size
            have O54 := Lib.hid (show OwN (w53.alloc (.cells #[] 90)) w.heap.size (some ⟨w53.heap.size, 0, none⟩) 0 0 [] from World.ownsRow_lit w53 #[] 0 s53 (by decide) rfl)
            have B54 := Lib.hid (B53.out.trans (b54.mono s53))
            clear b54 B53
            go_wp2_with (at_builtin; refine wpList_appNs (ns := []) (qs := ns) rfl rfl rfl O54.out rfl HNIL.out (HR.out.below B54.out) (by omega) B54.out.size ?_; rintro A6 c6 w55 o55 gr)
            have B55 := Lib.hid (below_app B54.out O54.out B54.out.size gr)
            rw [Nat.zero_add, List.nil_append] at o55
            have O55 := Lib.hid o55
            clear o55 gr
            go_wp2
            go_returns
            rw [HE.out, HBB.out]
            first | exact ownN_of rfl O55.out B55.out | (simpa using ownN_of rfl O55.out B55.out)
        · go_simp
          have bb : Below w37.heap.size w37 (w37.alloc (.cells #[.string t, .int .i64 f] 90)) := (Below.refl _ _).alloc (Nat.le_refl _) _
          have sz := B37.size
          have G40 := Blk.new w37 90 #[.string t, .int .i64 f]
          have k40 := k37.below bb k37.lt
          have B40 := B37.trans (bb.mono sz)
          have O40 := O37.below bb
          have gne : g0 < w37.heap.size := (own_lt O37 rfl).2
          clear k37 B37 bb O37
          generalize w37.alloc (.cells #[.string t, .int .i64 f] 90) = w40 at *
          generalize hg6 : w37.heap.size = g6 at *
          clear hg6
          refine hK.out _ _ ?_ (fun hHeld => ?_)
          · exact ⟨k40.cell 0, k40.cell 1⟩
          clear hK K
          refine pt ?_
          refine rd1 4 (fun K hK => ?_)
          refine step_appNs (ns := []) (qs := ns.take k) (by rfl) (.tmp 52) (.tmp 55) (by rfl) (by rfl) O40 (by rfl) HNIL.out (hrT.below B40) (by omega) k40.lt ?_
          intro A4 c4 w41 O41 gr
          simp only [Nat.zero_add, List.nil_append] at O41 ⊢
          have k41 := k40.grown gr (fun e => by injection e with e; have e' : w.heap.size = g0 := e; omega)
          have B41 := below_app B40 (O40.lower (Nat.le_succ _)) B40.size gr
          have G41 := G40.grown gr (fun e => by injection e with e; have e' : g6 = g0 := e; omega)
          clear k40 B40 O40 gr G40
          refine hK.out _ _ ?_ (fun hHeld => ?_)
          · exact ⟨k41.cell 0, k41.cell 1⟩
          clear hK K
          refine pt ?_
          refine rd1 7 (fun K hK => ?_)
          refine step_appNs (qs := [(t, f)]) (by rfl) (.tmp 56) (.tmp 58) (by rfl) (by rfl) O41 (by rfl) (fun e => by cases e) (rdN_one G41) (by omega) k41.lt ?_
          intro A5 c5 w50 O50 gr
          have B50 := below_app B41 (O41.lower (Nat.le_succ _)) B41.size gr
          have k50 := k41.grown gr (own_ne_low O41)
          clear k41 B41 O41 G41 gr
          refine hK.out _ _ ?_ (fun hHeld => ?_)
          · exact ⟨k50.cell 0, k50.cell 1⟩
          clear hK K
          refine pt ?_
          refine rd1 11 (fun K hK => ?_)
          refine step_appNs (qs := ns.drop k) (by rfl) (.tmp 59) (.tmp 62) (by rfl) (by rfl) O50 (by rfl) hdn (hrD.below B50) (by omega) k50.lt ?_
          intro A6 c6 w51 O51 gr
          have B51 := below_app B50 (O50.lower (Nat.le_succ _)) B50.size gr
          have k51 := k50.grown gr (own_ne_low O50)
          clear k50 B50 O50 gr
          refine hK.out _ _ ?_ (fun hHeld => ?_)
          · exact ⟨k51.cell 0, k51.cell 1⟩
          clear hK K
          refine pt ?_
          refine tk 12 ?_
          refine wpAnyH_done (by kernel_rfl) ?_ _
          clear hHeld k51
          have hM : k + 1 + (ns.length - k) = ns.length + 1 := by omega
          rw [hM] at O51 ⊢
          rw [show (ns.take k ++ [(t, f)] ++ ns.drop k) = putL ns t f from by unfold putL; rw [HAT.out]] at O51
          have HSP := Lib.hid (putL_size (f := f) HSM.out hts)
          have HPY := Lib.hid (fun h => putN_yes (ns := ns) (t := t) (f := f) h)
          have HPZ := Lib.hid (fun h => putN_no (ns := ns) (t := t) (f := f) h)
          generalize putL ns t f = PL at *
          have hpl := O51.len
          have O52 := Lib.hid (O51.lower (base' := w.heap.size) (Nat.le_succ _))
          have B52 := Lib.hid B51
          clear B51
          go_wp2_with fail
          refine (namesValid_spec O52.out.rd (by omega) HSP.out).mono ?_
          rintro e w53 ⟨rfl, dm, rfl⟩
          have O53 := Lib.hid (O52.out.below (below_drewN (Below.refl _ _) dm))
          have B53 := Lib.hid (below_drewN B52.out dm)
          clear O51 O52 B52
          generalize w51.drewN dm = w53 at *
          by_cases hno : NamesOk PL
          · have hb : bof (NamesOk PL) = true := bof_t.2 hno
            rw [hb]
            have HE := Lib.hid (show putN ns t f = PL from HPY.out hno)
            have HBB := Lib.hid hb
            clear hno hb
            go_wp2
            go_returns
            rw [HE.out, HBB.out]
            exact ownN_of hpl O53.out B53.out
          · have hb : bof (NamesOk PL) = false := bof_f.2 hno
            rw [hb]
            have HE := Lib.hid (show putN ns t f = ns from HPZ.out hno)
            have HBB := Lib.hid hb
            clear hno hb O53
            have b54 : Below w53.heap.size w53 (w53.alloc (.cells #[] 90)) := (Below.refl _ _).alloc (Nat.le_refl _) _
            have s53 := B53.out.size
            have O54 := Lib.hid (show OwN (w53.alloc (.cells #[] 90)) w.heap.size (some ⟨w53.heap.size, 0, none⟩) 0 0 [] from World.ownsRow_lit w53 #[] 0 s53 (by decide) rfl)
            have B54 := Lib.hid (B53.out.trans (b54.mono s53))
            clear b54 B53
            go_wp2_with (at_builtin; refine wpList_appNs (ns := []) (qs := ns) rfl rfl rfl O54.out rfl HNIL.out (HR.out.below B54.out) (by omega) B54.out.size ?_; rintro A6 c6 w55 o55 gr)
            have B55 := Lib.hid (below_app B54.out O54.out B54.out.size gr)
            rw [Nat.zero_add, List.nil_append] at o55
            have O55 := Lib.hid o55
            clear o55 gr
            go_wp2
            go_returns
            rw [HE.out, HBB.out]
            first | exact ownN_of rfl O55.out B55.out | (simpa using ownN_of rfl O55.out B55.out)
      · go_simp
        have bb : Below w11.heap.size w11 (w11.alloc (.cells #[.string t, .int .i64 f] 90)) := (Below.refl _ _).alloc (Nat.le_refl _) _
        have sz := B11.size
        have G42 := Blk.new w11 90 #[.string t, .int .i64 f]
        have k42 := k11.below bb k11.lt
        have B42 := B11.trans (bb.mono sz)
        clear k11 B11 bb
        generalize w11.alloc (.cells #[.string t, .int .i64 f] 90) = w42 at *
        generalize hg6 : w11.heap.size = g6 at *
        clear hg6
        refine hK.out _ _ ?_ (fun hHeld => ?_)
        · exact ⟨k42.cell 0, k42.cell 1⟩
        clear hK K
        refine pt ?_
        refine rd1 0 (fun K hK => ?_)
        go_simp
        have bb : Below w42.heap.size w42 (w42.alloc (.cells #[] 90)) := (Below.refl _ _).alloc (Nat.le_refl _) _
        have sz := B42.size
        have O43 : OwN (w42.alloc (.cells #[] 90)) (w.heap.size + 1) (some ⟨w42.heap.size, 0, none⟩) 0 0 [] := World.ownsRow_lit w42 #[] 0 k42.lt (by decide) rfl
        have kgl := k42.lt
        have k43 := k42.below bb k42.lt
        have B43 := B42.trans (bb.mono sz)
        have G43 := G42.below bb G42.lt
        have gne := G42.lt
        clear k42 B42 bb G42
        generalize w42.alloc (.cells #[] 90) = w43 at *
        generalize hg0 : w42.heap.size = g0 at *
        clear hg0
        refine hK.out _ _ ?_ (fun hHeld => ?_)
        · exact ⟨k43.cell 0, k43.cell 1⟩
        clear hK K
        refine pt ?_
        refine rd1 4 (fun K hK => ?_)
        refine step_appNs (ns := []) (qs := ns.take k) (by rfl) (.tmp 52) (.tmp 55) (by rfl) (by rfl) O43 (by rfl) HNIL.out (hrT.below B43) (by omega) k43.lt ?_
        intro A4 c4 w44 O44 gr
        simp only [Nat.zero_add, List.nil_append] at O44 ⊢
        have k44 := k43.grown gr (fun e => by injection e with e; have e' : w.heap.size = g0 := e; omega)
        have B44 := below_app B43 (O43.lower (Nat.le_succ _)) B43.size gr
        have G44 := G43.grown gr (fun e => by injection e with e; have e' : g6 = g0 := e; omega)
        clear k43 B43 O43 gr G43
        refine hK.out _ _ ?_ (fun hHeld => ?_)
        · exact ⟨k44.cell 0, k44.cell 1⟩
        clear hK K
        refine pt ?_
        refine rd1 7 (fun K hK => ?_)
        refine step_appNs (qs := [(t, f)]) (by rfl) (.tmp 56) (.tmp 58) (by rfl) (by rfl) O44 (by rfl) (fun e => by cases e) (rdN_one G44) (by omega) k44.lt ?_
        intro A5 c5 w50 O50 gr
        have B50 := below_app B44 (O44.lower (Nat.le_succ _)) B44.size gr
        have k50 := k44.grown gr (own_ne_low O44)
        clear k44 B44 O44 G44 gr
        refine hK.out _ _ ?_ (fun hHeld => ?_)
        · exact ⟨k50.cell 0, k50.cell 1⟩
        clear hK K
        refine pt ?_
        refine rd1 11 (fun K hK => ?_)
        refine step_appNs (qs := ns.drop k) (by rfl) (.tmp 59) (.tmp 62) (by rfl) (by rfl) O50 (by rfl) hdn (hrD.below B50) (by omega) k50.lt ?_
        intro A6 c6 w51 O51 gr
        have B51 := below_app B50 (O50.lower (Nat.le_succ _)) B50.size gr
        have k51 := k50.grown gr (own_ne_low O50)
        clear k50 B50 O50 gr
        refine hK.out _ _ ?_ (fun hHeld => ?_)
        · exact ⟨k51.cell 0, k51.cell 1⟩
        clear hK K
        refine pt ?_
        refine tk 12 ?_
        refine wpAnyH_done (by kernel_rfl) ?_ _
        clear hHeld k51
        have hM : k + 1 + (ns.length - k) = ns.length + 1 := by omega
        rw [hM] at O51 ⊢
        rw [show (ns.take k ++ [(t, f)] ++ ns.drop k) = putL ns t f from by unfold putL; rw [HAT.out]] at O51
        have HSP := Lib.hid (putL_size (f := f) HSM.out hts)
        have HPY := Lib.hid (fun h => putN_yes (ns := ns) (t := t) (f := f) h)
        have HPZ := Lib.hid (fun h => putN_no (ns := ns) (t := t) (f := f) h)
        generalize putL ns t f = PL at *
        have hpl := O51.len
        have O52 := Lib.hid (O51.lower (base' := w.heap.size) (Nat.le_succ _))
        have B52 := Lib.hid B51
        clear B51
        go_wp2_with fail
        refine (namesValid_spec O52.out.rd (by omega) HSP.out).mono ?_
        rintro e w53 ⟨rfl, dm, rfl⟩
        have O53 := Lib.hid (O52.out.below (below_drewN (Below.refl _ _) dm))
        have B53 := Lib.hid (below_drewN B52.out dm)
        clear O51 O52 B52
        generalize w51.drewN dm = w53 at *
        by_cases hno : NamesOk PL
        · have hb : bof (NamesOk PL) = true := bof_t.2 hno
          rw [hb]
          have HE := Lib.hid (show putN ns t f = PL from HPY.out hno)
          have HBB := Lib.hid hb
          clear hno hb
          go_wp2
          go_returns
          rw [HE.out, HBB.out]
          exact ownN_of hpl O53.out B53.out
        · have hb : bof (NamesOk PL) = false := bof_f.2 hno
          rw [hb]
          have HE := Lib.hid (show putN ns t f = ns from HPZ.out hno)
          have HBB := Lib.hid hb
          clear hno hb O53
          have b54 : Below w53.heap.size w53 (w53.alloc (.cells #[] 90)) := (Below.refl _ _).alloc (Nat.le_refl _) _
          have s53 := B53.out.size
          have O54 := Lib.hid (show OwN (w53.alloc (.cells #[] 90)) w.heap.size (some ⟨w53.heap.size, 0, none⟩) 0 0 [] from World.ownsRow_lit w53 #[] 0 s53 (by decide) rfl)
          have B54 := Lib.hid (B53.out.trans (b54.mono s53))
          clear b54 B53
          go_wp2_with (at_builtin; refine wpList_appNs (ns := []) (qs := ns) rfl rfl rfl O54.out rfl HNIL.out (HR.out.below B54.out) (by omega) B54.out.size ?_; rintro A6 c6 w55 o55 gr)
          have B55 := Lib.hid (below_app B54.out O54.out B54.out.size gr)
          rw [Nat.zero_add, List.nil_append] at o55
          have O55 := Lib.hid o55
          clear o55 gr
          go_wp2
          go_returns
          rw [HE.out, HBB.out]
          first | exact ownN_of rfl O55.out B55.out | (simpa using ownN_of rfl O55.out B55.out)
end Go.Proofs.Ytjnpgdhpneifjaa
