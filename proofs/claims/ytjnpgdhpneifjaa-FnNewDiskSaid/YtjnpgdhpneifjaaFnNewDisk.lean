/- The walk of the law FnNewDisk. -/
import Derived.Test.YtjnpgdhpneifjaaDraws
import Derived.Test.YtjnpgdhpneifjaaAlive
import Derived.Test.YtjnpgdhpneifjaaNewDisk
import Derived.Test.YtjnpgdhpneifjaaDiskOk
import Derived.Test.YtjnpgdhpneifjaaSame
import Derived.Test.YtjnpgdhpneifjaaFree
namespace Go.Proofs.Ytjnpgdhpneifjaa
open Go.ChangeShapes Go.WideShapes Go.ChangeAt Go.RowKit
set_option linter.unusedVariables false
set_option linter.unusedSimpArgs false

theorem newBlock_ok : BlockOk (newBlockV 0) := by
  refine ⟨by simp [newBlockV], rfl, fun i hi => ?_⟩
  have hg : ∀ j, j < 4 → (newBlockV 0).pages.getD j noPage = noPage := by
    intro j hj
    have : j = 0 ∨ j = 1 ∨ j = 2 ∨ j = 3 := by omega
    rcases this with rfl | rfl | rfl | rfl <;> rfl
  rw [hg i hi]
  exact ⟨by decide, fun _ h => by cases h⟩
theorem newDev_ok {n : Nat} (h1 : 1 ≤ n) (h2 : n ≤ 12) : DevOk (newDev n) := by
  refine ⟨by rw [newDev_len]; omega, fun i hi => ?_⟩
  rw [newDev_len] at hi
  rw [newDev_get hi]
  exact newBlock_ok
theorem newDev_page (n k : Nat) : pageN (newDev n) k = noPage := by
  unfold pageN
  by_cases h : k / 4 < n
  · rw [newDev_get h]
    have : k % 4 = 0 ∨ k % 4 = 1 ∨ k % 4 = 2 ∨ k % 4 = 3 := by omega
    rcases this with e | e | e | e <;> rw [e] <;> rfl
  · have : (newDev n).getD (k / 4) noBlock = noBlock := by
      rw [List.getD_eq_getElem?_getD, List.getElem?_eq_none (by rw [newDev_len]; omega)]; rfl
    rw [this]; rfl
theorem newDev_last (n : Nat) : ∀ k, lastAt (newDev n) k = 0
  | 0 => rfl
  | k + 1 => by unfold lastAt; rw [newDev_last n k, newDev_page]; rfl
theorem newDev_free (n : Nat) : ∀ k, k ≤ n → freeI (newDev n) k = 4 * (k : Int)
  | 0, _ => rfl
  | k + 1, h => by
    unfold freeI
    rw [newDev_free n k (by omega), newDev_get (by omega)]
    have : wroteTo (newBlockV 0).pages 4 = 0 := rfl
    rw [this]; omega
theorem emptyT_row {a : Nat} (h : a < 8) : emptyT.getD a [] = emptyRow := by unfold emptyT; rw [List.getD_eq_getElem?_getD, List.getElem?_replicate, if_pos h]; rfl
theorem emptyT_e {a b : Nat} (h : b < (emptyT.getD a []).length) : tE emptyT a b = -1 := by
  unfold tE
  by_cases ha : a < 8
  · rw [emptyT_row ha] at h ⊢
    unfold emptyRow at h ⊢
    rw [List.getD_eq_getElem?_getD, List.getElem?_replicate]
    rw [List.length_replicate] at h
    rw [if_pos h]; rfl
  · rw [List.getD_eq_getElem?_getD, List.getElem?_eq_none (by show 8 ≤ a; omega)] at h
    exact absurd h (Nat.not_lt_zero _)
theorem emptyT_ok : TableOk emptyT := by
  refine ⟨rfl, fun a ha => by rw [emptyT_row ha]; rfl, fun a b hb _ => ⟨by rw [emptyT_e hb]; omega, fun _ _ _ _ h0 => by rw [emptyT_e hb] at h0; omega⟩⟩
theorem newDiskV_ok {n : Nat} (h1 : 1 ≤ n) (h2 : n ≤ 12) : DiskOk (newDiskV n) := by
  refine ⟨⟨newDev_ok h1 h2, fun i hi => ?_⟩, emptyT_ok, fun f hf k hk => .inl ?_, ?_, fun i hi => absurd hi (Nat.not_lt_zero _), fun i j _ hi => absurd hi (Nat.not_lt_zero _)⟩
  · have hg : ([(newDiskV n).hot, (newDiskV n).warm, (newDiskV n).cold] : List Int).getD i 0 = -1 := by
      have : i = 0 ∨ i = 1 ∨ i = 2 := by omega
      rcases this with rfl | rfl | rfl <;> rfl
    rw [hg]
    have := newDev_len n
    exact ⟨⟨by omega, by show (-1 : Int) ≤ ((newDev n).length : Int) - 1; omega⟩, fun _ _ h => by omega⟩
  · show tE emptyT f k < 0
    rw [emptyT_e (by rw [emptyT_row hf]; exact hk)]; omega
  · show lastStamp (newDev n) ≤ 0 ∧ (0 : Int) ≤ 1000
    unfold lastStamp
    rw [newDev_last]; omega
set_option maxRecDepth 8000 in
set_option maxHeartbeats 2000000 in
theorem fnNewDisk_w (a0 : Option Addr) (len0 cap0 : Nat) (z0 : List Int) (w : World) (w0 : IsRow .u8 w a0 len0 cap0 z0) :
    Calls Try.prog 6 #[.slice a0 len0 cap0] w fun e w' => e = .returned (.bool true) ∧ Below w.heap.size w w' := by
  obtain ⟨q1, q2, q3, q4⟩ := bytes_ok w0
  by_cases hl : 1048576 < len0
  · go_enter Try.func6, Try.ntmps6
    go_wp2
    go_ret
    exact ⟨rfl, Below.refl _ _⟩
  go_enter Try.func6, Try.ntmps6
  go_wp2_with fail
  refine (drawNewDisk_c q3 q4 q1 q2).mono ?_
  rintro e w1 ⟨m, rfl, b1⟩
  have B1 := Lib.hid b1
  have s1 := b1.size
  have SM := Lib.hid (newDisk_small m)
  have HDF := Lib.hid (show newDiskF m = (if 1 ≤ m ∧ m ≤ 12 then newDiskV m.toNat else zeroDisk) from rfl)
  clear q3 q4 w0 b1
  go_wp2_with fail
  refine (newDisk_impl m _).mono ?_
  obtain ⟨d, hd⟩ : ∃ d, newDiskF m = d := ⟨_, rfl⟩
  rw [hd] at SM HDF ⊢
  rintro e w2 ⟨h2, rfl, o2, b2⟩
  have B2 := Lib.hid (B1.out.trans (b2.mono s1))
  have s2 := B2.out.size
  clear b2
  go_upto_region 5 with (fail)
  have b3 : Below w2.heap.size w2 (w2.alloc (.cells #[.slice h2.bA h2.bn h2.bc, .slice h2.tA h2.tn h2.tc, .int .i64 d.hot, .int .i64 d.warm, .int .i64 d.cold, .int .i64 d.stamp, .slice h2.nA h2.nn h2.nc] 42)) := (Below.refl _ _).alloc (Nat.le_refl _) _
  have k3 := Blk.new w2 42 #[.slice h2.bA h2.bn h2.bc, .slice h2.tA h2.tn h2.tc, .int .i64 d.hot, .int .i64 d.warm, .int .i64 d.cold, .int .i64 d.stamp, .slice h2.nA h2.nn h2.nc]
  have l3 := k3.lt
  have o3 := o2.below b3
  have B3 := Lib.hid (B2.out.trans (b3.mono s2))
  have s3 := B3.out.size
  have g2w : w.heap.size ≤ w2.heap.size := s2
  clear b3 o2
  generalize w2.alloc (.cells #[.slice h2.bA h2.bn h2.bc, .slice h2.tA h2.tn h2.tc, .int .i64 d.hot, .int .i64 d.warm, .int .i64 d.cold, .int .i64 d.stamp, .slice h2.nA h2.nn h2.nc] 42) = w3 at *
  generalize w2.heap.size = g2 at *
  have AA := k3.all7
  refine wp_region_held_drew (S := fun w' => w'.cell? ⟨g2, 0, none⟩ = some (.slice h2.bA h2.bn h2.bc) ∧ w'.cell? ⟨g2, 1, none⟩ = some (.slice h2.tA h2.tn h2.tc) ∧ w'.cell? ⟨g2, 2, none⟩ = some (.int .i64 d.hot) ∧ w'.cell? ⟨g2, 3, none⟩ = some (.int .i64 d.warm) ∧ w'.cell? ⟨g2, 4, none⟩ = some (.int .i64 d.cold) ∧ w'.cell? ⟨g2, 5, none⟩ = some (.int .i64 d.stamp) ∧ w'.cell? ⟨g2, 6, none⟩ = some (.slice h2.nA h2.nn h2.nc)) (by kernel_rfl) ?_ (fun hHeld => ?_)
  · exact AA
  refine wpAnyH_take (i := 0) (v := ?_) rfl (by kernel_rfl) (by kernel_rfl) (by kernel_rfl) (fun _ _ _ h => h) (Or.inl ⟨by rfl, ?_⟩) (by assumption) ?_
  rotate_left
  · (intro w hSw; (try dsimp only at hSw); go_simp; (try with_reducible rfl))
  try simp only [Act.put, List.setIfInBounds_toArray, List.set_cons_zero, List.set_cons_succ, List.getElem_toArray, List.getElem_cons_zero, List.getElem_cons_succ]
  refine wpAnyH_take (i := 1) (v := ?_) rfl (by kernel_rfl) (by kernel_rfl) (by kernel_rfl) (fun _ _ _ h => h) (Or.inl ⟨by rfl, ?_⟩) (by assumption) ?_
  rotate_left
  · (intro w hSw; (try dsimp only at hSw); go_simp; (try with_reducible rfl))
  try simp only [Act.put, List.setIfInBounds_toArray, List.set_cons_zero, List.set_cons_succ, List.getElem_toArray, List.getElem_cons_zero, List.getElem_cons_succ]
  refine wpAnyH_ready (rs := [2]) (by kernel_rfl) (by simp) ?_
  refine AllReadyH.cons rfl (fun K hK => ?_) AllReadyH.nil
  go_simp
  refine (newDisk_spec m _).mono ?_; rw [hd]; rintro e w4 ⟨h4, rfl, o4, b4⟩; have B4 := Lib.hid (B3.out.drew.trans (b4.mono s3)); have k4 := (show Blk w3.drew g2 _ _ from k3).below b4 l3; have o34 := (o3.below ((Below.refl _ _).drew)).below b4; have AA4 := k4.all7; have s4 := B4.out.size; clear AA
  go_wp2_with fail
  refine hK.out _ _ ?_ (fun hHeld => ?_)
  · exact AA4
  clear hK K
  try simp only [Act.put, List.setIfInBounds_toArray, List.set_cons_zero, List.set_cons_succ, List.getElem_toArray, List.getElem_cons_zero, List.getElem_cons_succ]
  refine wpAnyH_ready (rs := [3]) (by kernel_rfl) (by simp) ?_
  refine AllReadyH.cons rfl (fun K hK => ?_) AllReadyH.nil
  go_simp
  refine (sameDisk_same o34.rd o4.rd (Nat.le_refl _) (Nat.le_refl _) SM.out).mono ?_; rintro e w5 ⟨rfl, b5⟩; have B5 := Lib.hid (B4.out.trans (b5.mono s4)); have k5 := k4.below b5 k4.lt; have o5 := o34.below b5; have AA5 := k5.all7; have s5 := B5.out.size; have l5 := k5.lt; clear AA4
  go_wp2_with fail
  refine hK.out _ _ ?_ (fun hHeld => ?_)
  · exact AA5
  clear hK K
  try simp only [Act.put, List.setIfInBounds_toArray, List.set_cons_zero, List.set_cons_succ, List.getElem_toArray, List.getElem_cons_zero, List.getElem_cons_succ]
  refine wpAnyH_take (i := 4) (v := ?_) rfl (by kernel_rfl) (by kernel_rfl) (by kernel_rfl) (fun _ _ _ h => h) (Or.inl ⟨by rfl, ?_⟩) (by assumption) ?_
  rotate_left
  · (intro w hSw; (try dsimp only at hSw); go_simp; (try with_reducible rfl))
  try simp only [Act.put, List.setIfInBounds_toArray, List.set_cons_zero, List.set_cons_succ, List.getElem_toArray, List.getElem_cons_zero, List.getElem_cons_succ]
  refine wpAnyH_done (by kernel_rfl) ?_ _
  clear hHeld o4 o34 k4 b5 b4
  obtain ⟨t0, t1, t2, t3, t4, t5, t6⟩ := AA5
  by_cases hin : 1 ≤ m ∧ m ≤ 12
  · obtain ⟨n, rfl⟩ := Int.eq_ofNat_of_zero_le (show 0 ≤ m by omega)
    have hin2 := hin
    obtain ⟨i1, i2⟩ := hin2
    have hdn : d = newDiskV n := by rw [HDF.out, if_pos hin]; rfl
    have HDN := Lib.hid hdn
    clear hin hdn hd
    have e1 : h2.bn = n := by rw [← o5.rd.b.len, HDN.out]; exact newDev_len n
    have e2 : h2.nn = 0 := by rw [← o5.rd.n.len, HDN.out]; rfl
    have HOK := Lib.hid (show DiskOk d from by rw [HDN.out]; exact newDiskV_ok (by omega) (by omega))
    have hsm := SM.out.at_ o5.rd
    have HSM := Lib.hid hsm
    have HFR := Lib.hid (show freeI d.bs h2.bn = 4 * (n : Int) from by rw [e1, HDN.out]; exact newDev_free n n (Nat.le_refl _))
    have v1 : IntKind.i64.wrap (4 * (n : Int)) = 4 * (n : Int) := IntWalk.i64_in _ (by omega)
    have E2 := Lib.hid e2
    clear hsm e1 e2
    go_wp2_with fail
    refine (diskValid_impl o5.rd (Nat.le_refl _) HSM.out.b HSM.out.t HSM.out.n (fun i hi => by have := HSM.out.ns i hi; simp only [nTxt]; omega)).mono ?_
    rw [bof_t.2 HOK.out]
    rintro e w6 ⟨rfl, b6⟩
    have B6 := Lib.hid (B5.out.trans (b6.mono s5))
    have s6 := B6.out.size
    have o6 := o5.below b6
    have k6 := k5.below b6 l5
    have l6 := k6.lt
    clear b6 o5 k5 t0 t1 t2 t3 t4 t5 t6
    obtain ⟨t0, t1, t2, t3, t4, t5, t6⟩ := k6.all7
    rw [E2.out] at t6
    go_wp2_with fail
    refine (freePages_impl o6.rd.b (Nat.le_refl _) HSM.out.b HOK.out.1.1).mono ?_
    rw [HFR.out]
    rintro e w7 ⟨rfl, b7⟩
    have B7 := Lib.hid (B6.out.trans (b7.mono s6))
    have k7 := k6.below b7 l6
    clear b7 o6 k6 t0 t1 t2 t3 t4 t5 t6
    obtain ⟨t0, t1, t2, t3, t4, t5, t6⟩ := k7.all7
    rw [E2.out] at t6
    go_wp2
    go_ret
    exact ⟨rfl, B7.out⟩
  · have hdn : d = zeroDisk := by rw [HDF.out, if_neg hin]
    have hz : RdD w5 0 ⟨none, 0, 0, none, 0, 0, none, 0, 0⟩ d := by
      rw [hdn]; exact ⟨⟨rfl, fun h => absurd h (Nat.lt_irrefl _)⟩, ⟨rfl, fun h => absurd h (Nat.lt_irrefl _)⟩, ⟨rfl, fun h => absurd h (Nat.lt_irrefl _)⟩⟩
    have HZ := Lib.hid hz
    have HDN := Lib.hid hdn
    clear hz hdn
    have arm := sameDisk_same (o5.rd) HZ.out (Nat.le_refl _) (Nat.zero_le _) SM.out
    rw [HDN.out] at arm t2 t3 t4 t5
    simp only [zeroDisk] at arm t2 t3 t4 t5
    have ARM := Lib.hid arm
    clear arm
    by_cases hlo : m < 1
    · go_wp2_with fail
      refine ARM.out.mono ?_
      rintro e w6 ⟨rfl, b6⟩
      have B6 := Lib.hid (B5.out.trans (b6.mono s5))
      clear b6
      go_wp2_with (go_at_call 15; refine (alive_c _).mono ?_; rintro e w' ⟨rfl, rfl⟩)
      go_ret
      exact ⟨rfl, B6.out⟩
    · have hhi : 12 < m := by omega
      go_wp2_with fail
      refine ARM.out.mono ?_
      rintro e w6 ⟨rfl, b6⟩
      have B6 := Lib.hid (B5.out.trans (b6.mono s5))
      clear b6
      go_wp2_with (go_at_call 15; refine (alive_c _).mono ?_; rintro e w' ⟨rfl, rfl⟩)
      go_ret
      exact ⟨rfl, B6.out⟩
end Go.Proofs.Ytjnpgdhpneifjaa
