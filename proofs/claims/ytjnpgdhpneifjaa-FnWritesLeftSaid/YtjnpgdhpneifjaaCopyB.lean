/- Copies of blocks and devices by the reference. -/
import Derived.Test.YtjnpgdhpneifjaaNewDev
import Derived.Deep.RegionHeld3
namespace Go.Proofs.Ytjnpgdhpneifjaa
open Go.ChangeShapes Go.WideShapes Go.ChangeAt Go.RowKit
set_option linter.unusedVariables false
set_option linter.unusedSimpArgs false

theorem RdG.cells {w : World} {B n b off : Nat} {ps : List PageV} (h : RdG w B (some ⟨b, off, none⟩) n ps) : ∀ u v, (flatG ps)[u]? = some v → w.cell? ((⟨b, off, none⟩ : Addr).add u) = some v := by
  intro u v hv
  have hl := h.len
  have hu : u < ps.length * 5 := by
    rcases Nat.lt_or_ge u (flatG ps).length with h1 | h1
    · rwa [flatG_len] at h1
    · rw [List.getElem?_eq_none h1] at hv; cases hv
  obtain ⟨b', off', e, _, hc⟩ := h.at_ (by omega)
  injection e with e
  injection e with e1 e2
  subst e1; subst e2
  rw [add_none]
  have hi : u / 5 < n := by omega
  have hj : u % 5 < 5 := Nat.mod_lt _ (by omega)
  have hu2 : u = u / 5 * 5 + u % 5 := by omega
  have h1 := flatM_get pgc pgc_len noPage ps (u / 5) (u % 5) (by omega) hj
  rw [show ps.flatMap pgc = flatG ps from rfl, ← hu2, hv] at h1
  obtain ⟨c0, c1, c2, c3, c4⟩ := hc (u / 5) hi
  have hm : u % 5 = 0 ∨ u % 5 = 1 ∨ u % 5 = 2 ∨ u % 5 = 3 ∨ u % 5 = 4 := by omega
  rcases hm with e | e | e | e | e <;> rw [e] at h1 <;> simp only [pgc, List.getElem?_cons_zero, List.getElem?_cons_succ] at h1
  · rw [show off + u = off + u / 5 * 5 by omega, h1]; exact c0
  · rw [show off + u = off + u / 5 * 5 + 1 by omega, h1]; exact c1
  · rw [show off + u = off + u / 5 * 5 + 2 by omega, h1]; exact c2
  · rw [show off + u = off + u / 5 * 5 + 3 by omega, h1]; exact c3
  · rw [show off + u = off + u / 5 * 5 + 4 by omega, h1]; exact c4
/-- a whole row of pages is put onto an empty row of the call's own -/
theorem step_appPg {ops : Array Oper} {o : Oper} {a : Act} {K : Act → World → Prop} {Q : Exit → Act → World → Prop} {E : Prop} {w0 w : World} {B m c : Nat} {ad : Addr} {A0 : Option Addr} {c0 : Nat} {ps : List PageV} (hgd : o.guard = none) (s x : Operand)
    (ho : o.op = .call { callee := .builtin .append, args := #[s, x], argTypes := #[65, 65] })
    (hs : a.eval s = .slice A0 0 c0) (hx : a.eval x = .slice (some ad) m c) (hown : w.ownsRow w0.heap.size 102 5 (.slice A0 0 c0) 0 []) (hb : Below w0.heap.size w0 w)
    (hr : RdG w B (some ad) m ps) (hm : 0 < m) (hn : m ≤ 1000000000)
    (h : ∀ A' c' w', w'.ownsRow w0.heap.size 102 5 (.slice A' m c') m (flatG ps) → Below w0.heap.size w0 w' → K (a.put o.dst (.slice A' m c')) w') :
    if Region.wanted o (yielded ops a.tmps) = true then Oper.wp Try.prog o a w K Q else E := by
  obtain ⟨i0, hi, hz0, hz1, hz2⟩ := info_parts infoPage
  have hw : Region.wanted o (yielded ops a.tmps) = true := by simp [Region.wanted, hgd]
  rw [if_pos hw]
  have hl := hr.len
  have hsz := hb.size
  obtain ⟨b, off, e, _⟩ := hr.at_ hm
  injection e with e
  subst e
  refine wp_append_own w s x 65 ho w0.heap.size 102 i0 _ 5 40 Try.underlying65 hi hz0 hz1 hz2 rfl (by decide) (.slice A0 0 c0) 0 _ hs hown _ m c (flatG ps) hx (by rw [flatG_len, hl]) hr.cells (flatG_one_cell _) (by unfold maxLen; omega) (by omega) hsz ?_
  intro v' w' hown' hg _
  rw [Nat.zero_add, List.nil_append] at hown'
  have hform : ∃ A' c', v' = .slice A' m c' := by
    rcases hown'.2 with ⟨h1, h2⟩ | ⟨g, cap, cur, h1, _⟩
    · exact ⟨none, 0, by rw [h1, h2]⟩
    · exact ⟨_, _, h1⟩
  obtain ⟨A', c', rfl⟩ := hform
  exact h A' c' w' hown' (below_app hb hown hsz hg)
/-- a block in new memory, returned -/
def OwnK (w0 : World) (b : BlockV) (e : Ending) (w' : World) : Prop := ∃ A c, e = .returned (.agg #[.int .i64 b.wear, .slice A b.pages.length c]) ∧ w'.ownsRow w0.heap.size 102 5 (.slice A b.pages.length c) b.pages.length (flatG b.pages) ∧ Below w0.heap.size w0 w'
theorem own_emptyRow (w : World) (e s : Nat) : (w.alloc (.cells #[] e)).ownsRow w.heap.size e s (.slice (some ⟨w.heap.size, 0, none⟩) 0 0) 0 [] := World.ownsRow_lit w #[] 0 (Nat.le_refl _) (by decide) (by simp)
set_option maxHeartbeats 2000000 in
theorem l4Copy_c {we : Int} {A : Option Addr} {n c B : Nat} {ps : List PageV} {w : World} (hr : RdG w B A n ps) (hB : B ≤ w.heap.size) (hn0 : 0 < n) (hn : n ≤ 1048576) :
    Calls Try.prog 140 #[.agg #[.int .i64 we, .slice A n c]] w (OwnK w ⟨we, ps⟩) := by
  obtain ⟨b', off', rfl, _⟩ := hr.at_ hn0
  generalize (⟨b', off', none⟩ : Addr) = ad at *
  obtain rfl : ps.length = n := hr.len
  generalize hnn : ps.length = n at *
  have HN := Lib.hid hnn
  have b2 : Below w.heap.size w ((w.alloc (.cells #[.int .i64 we, .slice (some ad) n c] 67)).alloc (.cells #[.int .i64 0, .slice none 0 0] 67)) := ((Below.refl _ _).alloc (Nat.le_refl _) _).alloc (by simp) _
  have K1 := (Blk.new w 67 #[.int .i64 we, .slice (some ad) n c]).alloc (.cells #[.int .i64 0, .slice none 0 0] 67)
  have K2 := Blk.new (w.alloc (.cells #[.int .i64 we, .slice (some ad) n c] 67)) 67 #[.int .i64 0, .slice none 0 0]
  rw [show (w.alloc (.cells #[.int .i64 we, .slice (some ad) n c] 67)).heap.size = w.heap.size + 1 by simp] at K2
  have hr1 := (hr.mono hB).below b2
  have B2 := Lib.hid b2
  have lw : w.heap.size + 1 < ((w.alloc (.cells #[.int .i64 we, .slice (some ad) n c] 67)).alloc (.cells #[.int .i64 0, .slice none 0 0] 67)).heap.size := by simp
  clear hr hnn b2
  go_enter Try.func140, Try.ntmps140
  go_upto_region 1 with (fail)
  generalize (w.alloc (.cells #[.int .i64 we, .slice (some ad) n c] 67)).alloc (.cells #[.int .i64 0, .slice none 0 0] 67) = w2 at *
  have t0 := K1.cell 0
  have t1 := K1.cell 1
  simp at t0 t1
  have bz : Below w2.drew.heap.size w2.drew (w2.drew.alloc (.cells #[] 102)) := (Below.refl _ _).alloc (Nat.le_refl _) _
  have oz := own_emptyRow w2.drew 102 5
  have rz : RdG (w2.drew.alloc (.cells #[] 102)) w2.drew.heap.size (some ad) n ps := (hr1.mono (show w.heap.size ≤ w2.drew.heap.size by show w.heap.size ≤ w2.heap.size; omega)).drew.below bz
  refine wp_region_held_drew (S := fun w' => w'.cell? ⟨w.heap.size, 0, none⟩ = some (.int .i64 we) ∧ w'.cell? ⟨w.heap.size, 1, none⟩ = some (.slice (some ad) n c)) (by kernel_rfl) ?_ (fun hHeld => ?_)
  · exact ⟨t0, t1⟩
  refine wpAnyH_take (i := 0) (v := ?_) rfl (by kernel_rfl) (by kernel_rfl) (by kernel_rfl) (fun _ _ _ h => h) (Or.inl ⟨by rfl, ?_⟩) (by assumption) ?_
  rotate_left
  · (intro w hSw; (try dsimp only at hSw); go_simp; (try with_reducible rfl))
  try simp only [Act.put, List.setIfInBounds_toArray, List.set_cons_zero, List.set_cons_succ, List.getElem_toArray, List.getElem_cons_zero, List.getElem_cons_succ]
  refine wpAnyH_take (i := 1) (v := ?_) rfl (by kernel_rfl) (by kernel_rfl) (by kernel_rfl) (fun _ _ _ h => h) (Or.inl ⟨by rfl, ?_⟩) (by assumption) ?_
  rotate_left
  · (intro w hSw; (try dsimp only at hSw); go_simp; (try with_reducible rfl))
  try simp only [Act.put, List.setIfInBounds_toArray, List.set_cons_zero, List.set_cons_succ, List.getElem_toArray, List.getElem_cons_zero, List.getElem_cons_succ]
  refine wpAnyH_take (i := 3) (v := ?_) rfl (by kernel_rfl) (by kernel_rfl) (by kernel_rfl) (fun _ _ _ h => h) (Or.inl ⟨by rfl, ?_⟩) (by assumption) ?_
  rotate_left
  · (intro w hSw; (try dsimp only at hSw); go_simp; (try with_reducible rfl))
  try simp only [Act.put, List.setIfInBounds_toArray, List.set_cons_zero, List.set_cons_succ, List.getElem_toArray, List.getElem_cons_zero, List.getElem_cons_succ]
  refine wpAnyH_take (i := 4) (v := ?_) rfl (by kernel_rfl) (by kernel_rfl) (by kernel_rfl) (fun _ _ _ h => h) (Or.inl ⟨by rfl, ?_⟩) (by assumption) ?_
  rotate_left
  · (intro w hSw; (try dsimp only at hSw); go_simp; (try with_reducible rfl))
  try simp only [Act.put, List.setIfInBounds_toArray, List.set_cons_zero, List.set_cons_succ, List.getElem_toArray, List.getElem_cons_zero, List.getElem_cons_succ]
  refine wpAnyH_ready (rs := [2]) (by kernel_rfl) (by simp) ?_
  refine AllReadyH.cons rfl (fun K hK => ?_) AllReadyH.nil
  go_simp
  refine hK.out _ _ ?_ (fun hHeld => ?_)
  · exact ⟨(bz.cell (p := ⟨w.heap.size, 0, none⟩) (by show w.heap.size < w2.heap.size; omega)).trans t0, (bz.cell (p := ⟨w.heap.size, 1, none⟩) (by show w.heap.size < w2.heap.size; omega)).trans t1⟩
  clear hK K
  try simp only [Act.put, List.setIfInBounds_toArray, List.set_cons_zero, List.set_cons_succ, List.getElem_toArray, List.getElem_cons_zero, List.getElem_cons_succ]
  refine wpAnyH_ready (rs := [5]) (by kernel_rfl) (by simp) ?_
  refine AllReadyH.cons rfl (fun K hK => ?_) AllReadyH.nil
  refine step_appPg (w0 := w2.drew) (ps := ps) (by rfl) (.tmp 5) (.tmp 7) (by rfl) (by rfl) (by rfl) oz bz rz (by omega) (by omega) ?_
  intro A5 c5 w5 o5 b5
  have K5 : Blk w5 w.heap.size 67 #[.int .i64 we, .slice (some ad) n c] := (show Blk w2.drew w.heap.size 67 _ from K1).below b5 (by show w.heap.size < w2.heap.size; omega)
  have L5 : Blk w5 (w.heap.size + 1) 67 #[.int .i64 0, .slice none 0 0] := (show Blk w2.drew (w.heap.size + 1) 67 _ from K2).below b5 (by show w.heap.size + 1 < w2.heap.size; omega)
  have z0 := L5.frozen 0
  have z1 := L5.frozen 1
  have y0 := L5.cell 0
  have y1 := L5.cell 1
  simp at y0 y1
  refine hK.out _ _ ?_ (fun hHeld => ?_)
  · exact ⟨K5.cell 0, K5.cell 1⟩
  clear hK K
  try simp only [Act.put, List.setIfInBounds_toArray, List.set_cons_zero, List.set_cons_succ, List.getElem_toArray, List.getElem_cons_zero, List.getElem_cons_succ]
  refine wpAnyH_take (i := 6) (v := ?_) rfl (by kernel_rfl) (by kernel_rfl) (by kernel_rfl) (fun _ _ _ h => h) (Or.inl ⟨by rfl, ?_⟩) (by assumption) ?_
  rotate_left
  · (intro w hSw; (try dsimp only at hSw); go_simp; (try with_reducible rfl))
  try simp only [Act.put, List.setIfInBounds_toArray, List.set_cons_zero, List.set_cons_succ, List.getElem_toArray, List.getElem_cons_zero, List.getElem_cons_succ]
  refine wpAnyH_ready (rs := [7]) (by kernel_rfl) (by simp) ?_
  refine AllReadyH.cons rfl (fun K hK => ?_) AllReadyH.nil
  go_simp
  refine hK.out _ _ ?_ (fun hHeld => ?_)
  · exact ⟨((K5.far (p := ⟨w.heap.size + 1, 0, none⟩) (by simp) (.int .i64 we)).far (p := ⟨w.heap.size + 1, 1, none⟩) (by simp) (.slice A5 n c5)).cell 0, ((K5.far (p := ⟨w.heap.size + 1, 0, none⟩) (by simp) (.int .i64 we)).far (p := ⟨w.heap.size + 1, 1, none⟩) (by simp) (.slice A5 n c5)).cell 1⟩
  clear hK K
  try simp only [Act.put, List.setIfInBounds_toArray, List.set_cons_zero, List.set_cons_succ, List.getElem_toArray, List.getElem_cons_zero, List.getElem_cons_succ]
  refine wpAnyH_done (by kernel_rfl) ?_ _
  clear hHeld t0 t1 oz bz rz
  have KE := (L5.set_ 0 (.int .i64 we)).set_ 1 (.slice A5 n c5)
  have e0 := KE.cell 0
  have e1 := KE.cell 1
  simp at e0 e1
  have OE := ownsRow_setCell_below (ownsRow_setCell_below o5 (a := ⟨w.heap.size + 1, 0, none⟩) (by show w.heap.size + 1 < w2.heap.size; omega) (.int .i64 we)) (a := ⟨w.heap.size + 1, 1, none⟩) (by show w.heap.size + 1 < w2.heap.size; omega) (.slice A5 n c5)
  have BE := (((B2.out.drew).trans (b5.mono (show w.heap.size ≤ w2.drew.heap.size by show w.heap.size ≤ w2.heap.size; omega))).setCell (p := ⟨w.heap.size + 1, 0, none⟩) (by show w.heap.size ≤ _ + 1; omega) (.int .i64 we)).setCell (p := ⟨w.heap.size + 1, 1, none⟩) (by show w.heap.size ≤ _ + 1; omega) (.slice A5 n c5)
  have OL := own_lower OE (base' := w.heap.size) (by show w.heap.size ≤ w2.heap.size; omega)
  generalize (w5.setCell ⟨w.heap.size + 1, 0, none⟩ (.int .i64 we)).setCell ⟨w.heap.size + 1, 1, none⟩ (.slice A5 n c5) = w9 at *
  go_wp2
  refine bodyPost_ret (by simp [results, Try.results140, go_sem, e0, e1]; try rfl) rfl ?_
  obtain rfl := HN.out
  exact ⟨_, _, rfl, OL, BE⟩
set_option maxHeartbeats 2000000 in
theorem l5Copy_c {A : Option Addr} {n c B : Nat} {bs : List BlockV} {w : World} (hr : RdB w B A n bs) (hB : B ≤ w.heap.size) (hn : n ≤ 1048576) (hok : ∀ i, i < n → 0 < (bs.getD i noBlock).pages.length ∧ (bs.getD i noBlock).pages.length ≤ 1048576) :
    Calls Try.prog 115 #[.slice A n c] w (OwnB w bs) := by
  have HL := Lib.hid hr.len
  have HOK := Lib.hid hok
  have hst := Lib.hid (show OwB (w.alloc (.cells #[] 67)) w.heap.size (some ⟨w.heap.size, 0, none⟩) 0 0 [] from ⟨[], rfl, rfl, fun _ h => absurd h (Nat.not_lt_zero _), World.ownsRow_lit w #[] 0 (Nat.le_refl _) (by decide) rfl, fun _ h => absurd h (Nat.not_lt_zero _), fun _ _ h => absurd h (Nat.not_lt_zero _)⟩)
  have hr0 := hr.mono hB
  clear hok hr
  go_enter Try.func115, Try.ntmps115
  go_wp2
  go_loopw [3, 4] (fun v i wr => ∃ (k : Nat) (A : Option Addr) (c : Nat), k ≤ n ∧ i = .int .i64 k ∧ v = .slice A k c ∧ OwB wr w.heap.size A k c (bs.take k) ∧ Below w.heap.size w wr) (fun _ i _ => n - (intOf i).toNat)
  case atStart => exact ⟨0, _, _, Nat.zero_le _, rfl, rfl, hst.out, (Below.refl _ _).alloc (Nat.le_refl _) _⟩
  case round =>
    obtain ⟨k, A1, c1, hk, rfl, rfl, hown, hbel⟩ := hrel
    have HO := Lib.hid hown
    have HB := Lib.hid hbel
    have hsz := hbel.size
    clear hown
    by_cases hlt : k < n
    · obtain ⟨b, off, rfl, hbB, hc⟩ := hr0.at_ (by omega)
      obtain ⟨A', n', c', c0, c1', hnc, hcm, hrg⟩ := hc k hlt
      replace c0 := (hbel.cell (p := ⟨b, off + k * 2, none⟩) hbB).trans c0
      replace c1' := (hbel.cell (p := ⟨b, off + k * 2 + 1, none⟩) hbB).trans c1'
      have hrg2 := hrg.below hbel
      have hn2 := HOK.out k hlt
      have HT := Lib.hid (show bs.take (k + 1) = bs.take k ++ [bs.getD k noBlock] from by
        rw [List.take_succ_eq_append_getElem (by rw [HL.out]; exact hlt), List.getD_eq_getElem?_getD, List.getElem?_eq_getElem (by rw [HL.out]; exact hlt)]; rfl)
      generalize bs.getD k noBlock = P at *
      obtain ⟨we, ps⟩ := P
      simp only at c0 hrg2 hn2
      obtain rfl : ps.length = n' := hrg2.len
      obtain ⟨hn3, hn4⟩ := hn2
      clear hc hr0 hrg hbel
      go_wp2_with fail
      refine (l4Copy_c hrg2 hsz hn3 hn4).mono ?_
      rintro e w2 ⟨A2, c2, rfl, ho2, hb2⟩
      simp only at ho2 ⊢
      clear hrg2 c0 c1'
      go_wp2_with (at_builtin; refine wpList_appBlock rfl rfl rfl HO.out hb2 ho2 rfl (by omega) hsz ?_; rintro g3 c3 w3 o3 b3 t3 hg3)
      have HO3 := Lib.hid (show OwB w3 w.heap.size (some ⟨g3, 0, none⟩) (k + 1) c3 (bs.take (k + 1)) from by rw [HT.out]; exact o3)
      have HB3 := Lib.hid (HB.out.trans b3)
      clear o3 b3 t3 ho2 hb2
      go_wp2
      go_roundw
      case rel => exact ⟨k + 1, _, _, by omega, by go_num, rfl, HO3.out, HB3.out⟩
      case measure => simp [intOf]; omega
    · obtain rfl : k = n := by omega
      have hO := HO.out
      rw [List.take_of_length_le (by rw [HL.out]; exact Nat.le_refl _)] at hO
      have HO2 := Lib.hid hO
      clear hO hbel hr0
      go_wp2
      go_ret
      exact ownB_of HL.out HO2.out HB.out
end Go.Proofs.Ytjnpgdhpneifjaa
