/- Parts of the proof, one after the other; each says what it proves. -/
import Derived.Test.YtjnpgdhpneifjaaG7
import Derived.Test.YtjnpgdhpneifjaaG1
import Derived.Deep.RegionHeld3
import Derived.Test.YtjnpgdhpneifjaaG3
/- New blocks and devices, the program's and the reference's. Condition: wear in 0..100, 1 to 12 blocks (else nothing). -/
namespace Go.Proofs.Ytjnpgdhpneifjaa
open Go.ChangeShapes Go.WideShapes Go.ChangeAt Go.RowKit Go.Deep
set_option linter.unusedVariables false
set_option linter.unusedSimpArgs false

def newPages : List PageV := [noPage, noPage, noPage, noPage]
def newBlockV (we : Int) : BlockV := ⟨we, newPages⟩
theorem own_newPages (w : World) (base : Nat) (hb : base ≤ w.heap.size) : (w.alloc (.cells (madeCells #[.bool false, .int .i64 0, .int .i64 0, .int .i64 0, .int .i64 0] 20) 102)).ownsRow base 102 5 (.slice (some ⟨w.heap.size, 0, none⟩) 4 4) 4 (flatG newPages) := own_madePages w base 4 newPages rfl hb (by omega)
theorem makePage4 : ∀ W : World, (Instr.makeSlice 65 (.int .i64 4) (.int .i64 4)).run Try.prog W = .ok (.slice (some ⟨W.heap.size, 0, none⟩) 4 4) (W.alloc (.cells (madeCells #[.bool false, .int .i64 0, .int .i64 0, .int .i64 0, .int .i64 0] 20) 102)) := fun W => makePage 4 (by omega) W
/-- a block with new pages, returned -/
def NewB (w0 : World) (we : Int) (e : Ending) (w' : World) : Prop :=
  ∃ A c, e = .returned (.agg #[.int .i64 we, .slice A 4 c]) ∧ w'.ownsRow w0.heap.size 102 5 (.slice A 4 c) 4 (flatG newPages) ∧ Below w0.heap.size w0 w'
theorem newBlock_impl (we : Int) (w : World) (h0 : 0 ≤ we) (h1 : we ≤ 100) : Calls Try.prog 42 #[.int .i64 we] w (NewB w we) := by
  have hmk := makePage4
  have b1 : Below w.heap.size w (w.alloc (.cells #[.int .i64 we, .slice (some ⟨w.heap.size + 1, 0, none⟩) 4 4] 67)) := (Below.refl _ _).alloc (Nat.le_refl _) _
  have OP := Lib.hid (own_newPages (w.alloc (.cells #[.int .i64 we, .slice (some ⟨w.heap.size + 1, 0, none⟩) 4 4] 67)) w.heap.size (by simp))
  have e1 : (w.alloc (.cells #[.int .i64 we, .slice (some ⟨w.heap.size + 1, 0, none⟩) 4 4] 67)).heap.size = w.heap.size + 1 := by simp
  rw [e1] at OP
  have K := Lib.hid ((Blk.new w 67 #[.int .i64 we, .slice (some ⟨w.heap.size + 1, 0, none⟩) 4 4]).alloc (.cells (madeCells #[.bool false, .int .i64 0, .int .i64 0, .int .i64 0, .int .i64 0] 20) 102))
  have BS := Lib.hid (b1.alloc b1.size (.cells (madeCells #[.bool false, .int .i64 0, .int .i64 0, .int .i64 0, .int .i64 0] 20) 102))
  clear b1 e1
  go_enter Try.func42, Try.ntmps42
  go_wp2
  generalize (w.alloc (.cells #[.int .i64 we, .slice (some ⟨w.heap.size + 1, 0, none⟩) 4 4] 67)).alloc (.cells (madeCells #[.bool false, .int .i64 0, .int .i64 0, .int .i64 0, .int .i64 0] 20) 102) = wz at *
  have p0 := K.out.cell 0
  have p1 := K.out.cell 1
  simp at p0 p1
  refine bodyPost_ret (by simp [results, Try.results42, go_sem, p0, p1]; try rfl) rfl ?_
  exact ⟨_, _, rfl, OP.out, BS.out⟩
theorem newBlock_spec (we : Int) (w : World) (h0 : 0 ≤ we) (h1 : we ≤ 100) : Calls Try.prog 84 #[.int .i64 we] w (NewB w we) := by
  have hmk := makePage4
  have b1 : Below w.heap.size w (w.alloc (.cells #[.int .i64 we, .slice (some ⟨w.heap.size + 1, 0, none⟩) 4 4] 67)) := (Below.refl _ _).alloc (Nat.le_refl _) _
  have OP := Lib.hid (own_newPages (w.alloc (.cells #[.int .i64 we, .slice (some ⟨w.heap.size + 1, 0, none⟩) 4 4] 67)) w.heap.size (by simp))
  have e1 : (w.alloc (.cells #[.int .i64 we, .slice (some ⟨w.heap.size + 1, 0, none⟩) 4 4] 67)).heap.size = w.heap.size + 1 := by simp
  rw [e1] at OP
  have K := Lib.hid ((Blk.new w 67 #[.int .i64 we, .slice (some ⟨w.heap.size + 1, 0, none⟩) 4 4]).alloc (.cells (madeCells #[.bool false, .int .i64 0, .int .i64 0, .int .i64 0, .int .i64 0] 20) 102))
  have BS := Lib.hid (b1.alloc b1.size (.cells (madeCells #[.bool false, .int .i64 0, .int .i64 0, .int .i64 0, .int .i64 0] 20) 102))
  clear b1 e1
  have hin : inB we 0 100 = true := by rw [inB_t]; omega
  go_enter Try.func84, Try.ntmps84
  go_wp2_with (go_at_call 32; refine (l1In_c _ _ _ _).mono ?_; rw [hin]; rintro e w' ⟨rfl, rfl⟩)
  generalize (w.alloc (.cells #[.int .i64 we, .slice (some ⟨w.heap.size + 1, 0, none⟩) 4 4] 67)).alloc (.cells (madeCells #[.bool false, .int .i64 0, .int .i64 0, .int .i64 0, .int .i64 0] 20) 102) = wz at *
  have p0 := K.out.cell 0
  have p1 := K.out.cell 1
  simp at p0 p1
  refine bodyPost_ret (by simp [results, Try.results84, go_sem, p0, p1]; try rfl) rfl ?_
  exact ⟨_, _, rfl, OP.out, BS.out⟩
/-- a device in new memory, returned -/
def OwnB (w0 : World) (bs : List BlockV) (e : Ending) (w' : World) : Prop := ∃ A c, e = .returned (.slice A bs.length c) ∧ OwB w' w0.heap.size A bs.length c bs ∧ Below w0.heap.size w0 w'
theorem ownB_of {w0 w' : World} {bs : List BlockV} {A : Option Addr} {m c : Nat} (hm : bs.length = m) (h : OwB w' w0.heap.size A m c bs) (hb : Below w0.heap.size w0 w') : OwnB w0 bs (.returned (.slice A m c)) w' := by
  subst hm; exact ⟨A, c, rfl, h, hb⟩
def newDev (n : Nat) : List BlockV := List.replicate n (newBlockV 0)
theorem newDev_len (n : Nat) : (newDev n).length = n := by simp [newDev]
theorem newDev_get {n i : Nat} (h : i < n) : (newDev n).getD i noBlock = newBlockV 0 := by unfold newDev; rw [List.getD_eq_getElem?_getD, List.getElem?_replicate, if_pos h]; rfl
theorem newDevice_impl (n : Nat) (w : World) (h0 : 1 ≤ n) (h1 : n ≤ 12) : Calls Try.prog 16 #[.int .i64 (n : Nat)] w (OwnB w (newDev n)) := by
  have hmk := makeBlock n (by omega)
  have hst := Lib.hid (own_madeBlocks w w.heap.size n (newDev n) (newDev_len n) (Nat.le_refl _) (by omega))
  go_enter Try.func16, Try.ntmps16
  go_wp2
  go_loopw [15] (fun i wr => ∃ k : Nat, k ≤ n ∧ i = .int .i64 k ∧ OwB wr w.heap.size (some ⟨w.heap.size, 0, none⟩) n n (fillTo noBlock (newDev n) k) ∧ Below w.heap.size w wr) (fun i _ => n - (intOf i).toNat)
  case atStart => exact ⟨0, Nat.zero_le _, rfl, hst.out, (Below.refl _ _).alloc (Nat.le_refl _) _⟩
  case round =>
    obtain ⟨k, hk, rfl, hown, hbel⟩ := hrel
    by_cases hlt : k < n
    · have hfs := fillTo_set noBlock (newDev n) (k := k) (by rw [newDev_len]; exact hlt)
      rw [newDev_get hlt] at hfs
      have HF := Lib.hid hfs
      have HO := Lib.hid hown
      have HB := Lib.hid hbel
      have hsz := hbel.size
      clear hfs hown hbel hmk
      go_wp2_with fail
      refine (newBlock_impl 0 _ (by omega) (by omega)).mono ?_
      rintro e w2 ⟨A2, c2, rfl, ho2, hb2⟩
      have oF := HO.out.setBlock (we := 0) hb2 ho2 hsz hlt
      obtain ⟨A3, n3, c3, f0, f1, z0, z1, _⟩ := (HO.out.below hb2).cells k hlt
      rw [show (⟨0, newPages⟩ : BlockV) = newBlockV 0 from rfl, HF.out] at oF
      have OF := Lib.hid oF
      have HB2 := Lib.hid (HB.out.trans (hb2.mono hsz))
      generalize ((fillTo noBlock (newDev n) k).getD k noBlock).wear = q at *
      clear hb2 oF ho2
      go_wp2_with fail
      go_roundw
      case rel => exact ⟨k + 1, by omega, by go_num, OF.out, (HB2.out.setCell (p := ⟨w.heap.size, k * 2, none⟩) (Nat.le_refl _) _).setCell (p := ⟨w.heap.size, k * 2 + 1, none⟩) (Nat.le_refl _) _⟩
      case measure => simp [intOf]; omega
    · obtain rfl : k = n := by omega
      have how : OwB wr w.heap.size (some ⟨w.heap.size, 0, none⟩) k k (newDev k) := by have := fillTo_all noBlock (newDev k); rw [newDev_len] at this; rw [this] at hown; exact hown
      have HO := Lib.hid how
      clear hmk hown how
      go_wp2
      go_ret
      exact ownB_of (newDev_len _) HO.out hbel
theorem newDevice_spec (n : Nat) (w : World) (h0 : 1 ≤ n) (h1 : n ≤ 12) : Calls Try.prog 43 #[.int .i64 (n : Nat)] w (OwnB w (newDev n)) := by
  have hin : inB (n : Int) 1 12 = true := by rw [inB_t]; omega
  have HIN := Lib.hid hin
  have hst := Lib.hid (show OwB (w.alloc (.cells #[] 67)) w.heap.size (some ⟨w.heap.size, 0, none⟩) 0 0 [] from ⟨[], rfl, rfl, fun _ h => absurd h (Nat.not_lt_zero _), World.ownsRow_lit w #[] 0 (Nat.le_refl _) (by decide) rfl, fun _ h => absurd h (Nat.not_lt_zero _), fun _ _ h => absurd h (Nat.not_lt_zero _)⟩)
  clear hin
  go_enter Try.func43, Try.ntmps43
  go_wp2
  go_loopw [3, 4] (fun v i wr => ∃ (k : Nat) (A : Option Addr) (c : Nat), k ≤ n ∧ i = .int .i64 k ∧ v = .slice A k c ∧ OwB wr w.heap.size A k c (newDev k) ∧ Below w.heap.size w wr) (fun _ i _ => n - (intOf i).toNat)
  case atStart => exact ⟨0, _, _, Nat.zero_le _, rfl, rfl, hst.out, (Below.refl _ _).alloc (Nat.le_refl _) _⟩
  case round =>
    obtain ⟨k, A, c, hk, rfl, rfl, hown, hbel⟩ := hrel
    have HO := Lib.hid hown
    have HB := Lib.hid hbel
    have hsz := hbel.size
    clear hown hbel
    by_cases hlt : k < n
    · have hd : decide (k < n) = true := decide_eq_true hlt
      go_wp2_with (go_at_call 32; refine (l1In_c _ _ _ _).mono ?_; rw [HIN.out]; rintro e w' ⟨rfl, rfl⟩)
      refine (newBlock_spec 0 _ (by omega) (by omega)).mono ?_
      rintro e w2 ⟨A2, c2, rfl, ho2, hb2⟩
      go_wp2_with (at_builtin; refine wpList_appBlock rfl rfl rfl HO.out hb2 ho2 rfl (by omega) hsz ?_; rintro g3 c3 w3 o3 b3 t3 hg3)
      have HO3 := Lib.hid (show OwB w3 w.heap.size (some ⟨g3, 0, none⟩) (k + 1) c3 (newDev (k + 1)) from by
        have e : newDev (k + 1) = newDev k ++ [⟨0, newPages⟩] := by unfold newDev; rw [List.replicate_succ']; rfl
        rw [e]; exact o3)
      have HB3 := Lib.hid (HB.out.trans b3)
      clear o3 b3 t3 ho2 hb2
      go_wp2
      go_roundw
      case rel => exact ⟨k + 1, _, _, by omega, by go_num, rfl, HO3.out, HB3.out⟩
      case measure => simp [intOf]; omega
    · obtain rfl : k = n := by omega
      go_wp2
      go_ret
      exact ownB_of (newDev_len _) HO.out HB.out
end Go.Proofs.Ytjnpgdhpneifjaa

/- Copies of blocks and devices by the reference. -/
namespace Go.Proofs.Ytjnpgdhpneifjaa
open Go.ChangeShapes Go.WideShapes Go.ChangeAt Go.RowKit
set_option linter.unusedVariables false
set_option linter.unusedSimpArgs false

theorem RdG.cells {w : World} {B n b off : Nat} {ps : List PageV} (h : RdG w B (some ⟨b, off, none⟩) n ps) : ∀ u v, (flatG ps)[u]? = some v → w.cell? ((⟨b, off, none⟩ : Addr).add u) = some v := by
  intro u v hv
  have hl := h.len
  have hu : u < ps.length * 5 := by
    rcases Nat.lt_or_ge u (flatG ps).length with h1 | h1
    · rwa [flatG_len] at h1
    · rw [List.getElem?_eq_none h1] at hv; cases hv
  obtain ⟨b', off', e, _, hc⟩ := h.at_ (by omega)
  injection e with e
  injection e with e1 e2
  subst e1; subst e2
  rw [add_none]
  have hi : u / 5 < n := by omega
  have hj : u % 5 < 5 := Nat.mod_lt _ (by omega)
  have hu2 : u = u / 5 * 5 + u % 5 := by omega
  have h1 := flatM_get pgc pgc_len noPage ps (u / 5) (u % 5) (by omega) hj
  rw [show ps.flatMap pgc = flatG ps from rfl, ← hu2, hv] at h1
  obtain ⟨c0, c1, c2, c3, c4⟩ := hc (u / 5) hi
  have hm : u % 5 = 0 ∨ u % 5 = 1 ∨ u % 5 = 2 ∨ u % 5 = 3 ∨ u % 5 = 4 := by omega
  rcases hm with e | e | e | e | e <;> rw [e] at h1 <;> simp only [pgc, List.getElem?_cons_zero, List.getElem?_cons_succ] at h1
  · rw [show off + u = off + u / 5 * 5 by omega, h1]; exact c0
  · rw [show off + u = off + u / 5 * 5 + 1 by omega, h1]; exact c1
  · rw [show off + u = off + u / 5 * 5 + 2 by omega, h1]; exact c2
  · rw [show off + u = off + u / 5 * 5 + 3 by omega, h1]; exact c3
  · rw [show off + u = off + u / 5 * 5 + 4 by omega, h1]; exact c4
/-- a whole row of pages is put onto an empty row of the call's own -/
theorem step_appPg {ops : Array Oper} {o : Oper} {a : Act} {K : Act → World → Prop} {Q : Exit → Act → World → Prop} {E : Prop} {w0 w : World} {B m c : Nat} {ad : Addr} {A0 : Option Addr} {c0 : Nat} {ps : List PageV} (hgd : o.guard = none) (s x : Operand)
    (ho : o.op = .call { callee := .builtin .append, args := #[s, x], argTypes := #[65, 65] })
    (hs : a.eval s = .slice A0 0 c0) (hx : a.eval x = .slice (some ad) m c) (hown : w.ownsRow w0.heap.size 102 5 (.slice A0 0 c0) 0 []) (hb : Below w0.heap.size w0 w)
    (hr : RdG w B (some ad) m ps) (hm : 0 < m) (hn : m ≤ 1000000000)
    (h : ∀ A' c' w', w'.ownsRow w0.heap.size 102 5 (.slice A' m c') m (flatG ps) → Below w0.heap.size w0 w' → K (a.put o.dst (.slice A' m c')) w') :
    if Region.wanted o (yielded ops a.tmps) = true then Oper.wp Try.prog o a w K Q else E := by
  obtain ⟨i0, hi, hz0, hz1, hz2⟩ := info_parts infoPage
  have hw : Region.wanted o (yielded ops a.tmps) = true := by simp [Region.wanted, hgd]
  rw [if_pos hw]
  have hl := hr.len
  have hsz := hb.size
  obtain ⟨b, off, e, _⟩ := hr.at_ hm
  injection e with e
  subst e
  refine wp_append_own w s x 65 ho w0.heap.size 102 i0 _ 5 40 Try.underlying65 hi hz0 hz1 hz2 rfl (by decide) (.slice A0 0 c0) 0 _ hs hown _ m c (flatG ps) hx (by rw [flatG_len, hl]) hr.cells (flatG_one_cell _) (by unfold maxLen; omega) (by omega) hsz ?_
  intro v' w' hown' hg _
  rw [Nat.zero_add, List.nil_append] at hown'
  have hform : ∃ A' c', v' = .slice A' m c' := by
    rcases hown'.2 with ⟨h1, h2⟩ | ⟨g, cap, cur, h1, _⟩
    · exact ⟨none, 0, by rw [h1, h2]⟩
    · exact ⟨_, _, h1⟩
  obtain ⟨A', c', rfl⟩ := hform
  exact h A' c' w' hown' (below_app hb hown hsz hg)
/-- a block in new memory, returned -/
def OwnK (w0 : World) (b : BlockV) (e : Ending) (w' : World) : Prop := ∃ A c, e = .returned (.agg #[.int .i64 b.wear, .slice A b.pages.length c]) ∧ w'.ownsRow w0.heap.size 102 5 (.slice A b.pages.length c) b.pages.length (flatG b.pages) ∧ Below w0.heap.size w0 w'
theorem own_emptyRow (w : World) (e s : Nat) : (w.alloc (.cells #[] e)).ownsRow w.heap.size e s (.slice (some ⟨w.heap.size, 0, none⟩) 0 0) 0 [] := World.ownsRow_lit w #[] 0 (Nat.le_refl _) (by decide) (by simp)
set_option maxHeartbeats 2000000 in
theorem l4Copy_c {we : Int} {A : Option Addr} {n c B : Nat} {ps : List PageV} {w : World} (hr : RdG w B A n ps) (hB : B ≤ w.heap.size) (hn0 : 0 < n) (hn : n ≤ 1048576) :
    Calls Try.prog 140 #[.agg #[.int .i64 we, .slice A n c]] w (OwnK w ⟨we, ps⟩) := by
  obtain ⟨b', off', rfl, _⟩ := hr.at_ hn0
  generalize (⟨b', off', none⟩ : Addr) = ad at *
  obtain rfl : ps.length = n := hr.len
  generalize hnn : ps.length = n at *
  have HN := Lib.hid hnn
  have b2 : Below w.heap.size w ((w.alloc (.cells #[.int .i64 we, .slice (some ad) n c] 67)).alloc (.cells #[.int .i64 0, .slice none 0 0] 67)) := ((Below.refl _ _).alloc (Nat.le_refl _) _).alloc (by simp) _
  have K1 := (Blk.new w 67 #[.int .i64 we, .slice (some ad) n c]).alloc (.cells #[.int .i64 0, .slice none 0 0] 67)
  have K2 := Blk.new (w.alloc (.cells #[.int .i64 we, .slice (some ad) n c] 67)) 67 #[.int .i64 0, .slice none 0 0]
  rw [show (w.alloc (.cells #[.int .i64 we, .slice (some ad) n c] 67)).heap.size = w.heap.size + 1 by simp] at K2
  have hr1 := (hr.mono hB).below b2
  have B2 := Lib.hid b2
  have lw : w.heap.size + 1 < ((w.alloc (.cells #[.int .i64 we, .slice (some ad) n c] 67)).alloc (.cells #[.int .i64 0, .slice none 0 0] 67)).heap.size := by simp
  clear hr hnn b2
  go_enter Try.func140, Try.ntmps140
  go_upto_region 1 with (fail)
  generalize (w.alloc (.cells #[.int .i64 we, .slice (some ad) n c] 67)).alloc (.cells #[.int .i64 0, .slice none 0 0] 67) = w2 at *
  have t0 := K1.cell 0
  have t1 := K1.cell 1
  simp at t0 t1
  have bz : Below w2.drew.heap.size w2.drew (w2.drew.alloc (.cells #[] 102)) := (Below.refl _ _).alloc (Nat.le_refl _) _
  have oz := own_emptyRow w2.drew 102 5
  have rz : RdG (w2.drew.alloc (.cells #[] 102)) w2.drew.heap.size (some ad) n ps := (hr1.mono (show w.heap.size ≤ w2.drew.heap.size by show w.heap.size ≤ w2.heap.size; omega)).drew.below bz
  refine wp_region_held_drew (S := fun w' => w'.cell? ⟨w.heap.size, 0, none⟩ = some (.int .i64 we) ∧ w'.cell? ⟨w.heap.size, 1, none⟩ = some (.slice (some ad) n c)) (by kernel_rfl) ?_ (fun hHeld => ?_)
  · exact ⟨t0, t1⟩
  refine tk 0 ?_
  refine tk 1 ?_
  refine tk 3 ?_
  refine tk 4 ?_
  refine rd1 2 (fun K hK => ?_)
  go_simp
  refine hK.out _ _ ?_ (fun hHeld => ?_)
  · exact ⟨(bz.cell (p := ⟨w.heap.size, 0, none⟩) (by show w.heap.size < w2.heap.size; omega)).trans t0, (bz.cell (p := ⟨w.heap.size, 1, none⟩) (by show w.heap.size < w2.heap.size; omega)).trans t1⟩
  clear hK K
  refine pt ?_
  refine rd1 5 (fun K hK => ?_)
  refine step_appPg (w0 := w2.drew) (ps := ps) (by rfl) (.tmp 5) (.tmp 7) (by rfl) (by rfl) (by rfl) oz bz rz (by omega) (by omega) ?_
  intro A5 c5 w5 o5 b5
  have K5 : Blk w5 w.heap.size 67 #[.int .i64 we, .slice (some ad) n c] := (show Blk w2.drew w.heap.size 67 _ from K1).below b5 (by show w.heap.size < w2.heap.size; omega)
  have L5 : Blk w5 (w.heap.size + 1) 67 #[.int .i64 0, .slice none 0 0] := (show Blk w2.drew (w.heap.size + 1) 67 _ from K2).below b5 (by show w.heap.size + 1 < w2.heap.size; omega)
  have z0 := L5.frozen 0
  have z1 := L5.frozen 1
  have y0 := L5.cell 0
  have y1 := L5.cell 1
  simp at y0 y1
  refine hK.out _ _ ?_ (fun hHeld => ?_)
  · exact ⟨K5.cell 0, K5.cell 1⟩
  clear hK K
  refine pt ?_
  refine tk 6 ?_
  refine rd1 7 (fun K hK => ?_)
  go_simp
  refine hK.out _ _ ?_ (fun hHeld => ?_)
  · exact ⟨((K5.far (p := ⟨w.heap.size + 1, 0, none⟩) (by simp) (.int .i64 we)).far (p := ⟨w.heap.size + 1, 1, none⟩) (by simp) (.slice A5 n c5)).cell 0, ((K5.far (p := ⟨w.heap.size + 1, 0, none⟩) (by simp) (.int .i64 we)).far (p := ⟨w.heap.size + 1, 1, none⟩) (by simp) (.slice A5 n c5)).cell 1⟩
  clear hK K
  refine pt ?_
  refine wpAnyH_done (by kernel_rfl) ?_ _
  clear hHeld t0 t1 oz bz rz
  have KE := (L5.set_ 0 (.int .i64 we)).set_ 1 (.slice A5 n c5)
  have e0 := KE.cell 0
  have e1 := KE.cell 1
  simp at e0 e1
  have OE := ownsRow_setCell_below (ownsRow_setCell_below o5 (a := ⟨w.heap.size + 1, 0, none⟩) (by show w.heap.size + 1 < w2.heap.size; omega) (.int .i64 we)) (a := ⟨w.heap.size + 1, 1, none⟩) (by show w.heap.size + 1 < w2.heap.size; omega) (.slice A5 n c5)
  have BE := (((B2.out.drew).trans (b5.mono (show w.heap.size ≤ w2.drew.heap.size by show w.heap.size ≤ w2.heap.size; omega))).setCell (p := ⟨w.heap.size + 1, 0, none⟩) (by show w.heap.size ≤ _ + 1; omega) (.int .i64 we)).setCell (p := ⟨w.heap.size + 1, 1, none⟩) (by show w.heap.size ≤ _ + 1; omega) (.slice A5 n c5)
  have OL := own_lower OE (base' := w.heap.size) (by show w.heap.size ≤ w2.heap.size; omega)
  generalize (w5.setCell ⟨w.heap.size + 1, 0, none⟩ (.int .i64 we)).setCell ⟨w.heap.size + 1, 1, none⟩ (.slice A5 n c5) = w9 at *
  go_wp2
  refine bodyPost_ret (by simp [results, Try.results140, go_sem, e0, e1]; try rfl) rfl ?_
  obtain rfl := HN.out
  exact ⟨_, _, rfl, OL, BE⟩
set_option maxHeartbeats 2000000 in
theorem l5Copy_c {A : Option Addr} {n c B : Nat} {bs : List BlockV} {w : World} (hr : RdB w B A n bs) (hB : B ≤ w.heap.size) (hn : n ≤ 1048576) (hok : ∀ i, i < n → 0 < (bs.getD i noBlock).pages.length ∧ (bs.getD i noBlock).pages.length ≤ 1048576) :
    Calls Try.prog 115 #[.slice A n c] w (OwnB w bs) := by
  have HL := Lib.hid hr.len
  have HOK := Lib.hid hok
  have hst := Lib.hid (show OwB (w.alloc (.cells #[] 67)) w.heap.size (some ⟨w.heap.size, 0, none⟩) 0 0 [] from ⟨[], rfl, rfl, fun _ h => absurd h (Nat.not_lt_zero _), World.ownsRow_lit w #[] 0 (Nat.le_refl _) (by decide) rfl, fun _ h => absurd h (Nat.not_lt_zero _), fun _ _ h => absurd h (Nat.not_lt_zero _)⟩)
  have hr0 := hr.mono hB
  clear hok hr
  go_enter Try.func115, Try.ntmps115
  go_wp2
  go_loopw [3, 4] (fun v i wr => ∃ (k : Nat) (A : Option Addr) (c : Nat), k ≤ n ∧ i = .int .i64 k ∧ v = .slice A k c ∧ OwB wr w.heap.size A k c (bs.take k) ∧ Below w.heap.size w wr) (fun _ i _ => n - (intOf i).toNat)
  case atStart => exact ⟨0, _, _, Nat.zero_le _, rfl, rfl, hst.out, (Below.refl _ _).alloc (Nat.le_refl _) _⟩
  case round =>
    obtain ⟨k, A1, c1, hk, rfl, rfl, hown, hbel⟩ := hrel
    have HO := Lib.hid hown
    have HB := Lib.hid hbel
    have hsz := hbel.size
    clear hown
    by_cases hlt : k < n
    · obtain ⟨b, off, rfl, hbB, hc⟩ := hr0.at_ (by omega)
      obtain ⟨A', n', c', c0, c1', hnc, hcm, hrg⟩ := hc k hlt
      replace c0 := (hbel.cell (p := ⟨b, off + k * 2, none⟩) hbB).trans c0
      replace c1' := (hbel.cell (p := ⟨b, off + k * 2 + 1, none⟩) hbB).trans c1'
      have hrg2 := hrg.below hbel
      have hn2 := HOK.out k hlt
      have HT := Lib.hid (show bs.take (k + 1) = bs.take k ++ [bs.getD k noBlock] from by
        rw [List.take_succ_eq_append_getElem (by rw [HL.out]; exact hlt), List.getD_eq_getElem?_getD, List.getElem?_eq_getElem (by rw [HL.out]; exact hlt)]; rfl)
      generalize bs.getD k noBlock = P at *
      obtain ⟨we, ps⟩ := P
      simp only at c0 hrg2 hn2
      obtain rfl : ps.length = n' := hrg2.len
      obtain ⟨hn3, hn4⟩ := hn2
      clear hc hr0 hrg hbel
      go_wp2_with fail
      refine (l4Copy_c hrg2 hsz hn3 hn4).mono ?_
      rintro e w2 ⟨A2, c2, rfl, ho2, hb2⟩
      simp only at ho2 ⊢
      clear hrg2 c0 c1'
      go_wp2_with (at_builtin; refine wpList_appBlock rfl rfl rfl HO.out hb2 ho2 rfl (by omega) hsz ?_; rintro g3 c3 w3 o3 b3 t3 hg3)
      have HO3 := Lib.hid (show OwB w3 w.heap.size (some ⟨g3, 0, none⟩) (k + 1) c3 (bs.take (k + 1)) from by rw [HT.out]; exact o3)
      have HB3 := Lib.hid (HB.out.trans b3)
      clear o3 b3 t3 ho2 hb2
      go_wp2
      go_roundw
      case rel => exact ⟨k + 1, _, _, by omega, by go_num, rfl, HO3.out, HB3.out⟩
      case measure => simp [intOf]; omega
    · obtain rfl : k = n := by omega
      have hO := HO.out
      rw [List.take_of_length_le (by rw [HL.out]; exact Nat.le_refl _)] at hO
      have HO2 := Lib.hid hO
      clear hO hbel hr0
      go_wp2
      go_ret
      exact ownB_of HL.out HO2.out HB.out
end Go.Proofs.Ytjnpgdhpneifjaa

/- WriteBlock by the reference, at a valid block and a valid full page. -/
namespace Go.Proofs.Ytjnpgdhpneifjaa
open Go.ChangeShapes Go.WideShapes Go.ChangeAt Go.RowKit
set_option linter.unusedVariables false
set_option linter.unusedSimpArgs false

/-- a block written, in new memory, returned with the page's number -/
def OwnW (w0 : World) (b : BlockV) (p : PageV) (e : Ending) (w' : World) : Prop := ∃ A c, e = .returned (.tuple #[.agg #[.int .i64 b.wear, .slice A b.pages.length c], .int .i64 (nextP b.pages)]) ∧ w'.ownsRow w0.heap.size 102 5 (.slice A b.pages.length c) b.pages.length (flatG (writeF b p).pages) ∧ Below w0.heap.size w0 w'
set_option maxHeartbeats 2000000 in
theorem writeBlock_spec {we : Int} {A : Option Addr} {n c B : Nat} {ps : List PageV} {x y z s : Int} {w : World} (hr : RdG w B A n ps) (hB : B ≤ w.heap.size) (hnc : n ≤ c) (hcm : c ≤ 9223372036854775807) (hok : BlockOk ⟨we, ps⟩) (hp : PageOk ⟨true, x, y, z, s⟩) :
    Calls Try.prog 118 #[.agg #[.int .i64 we, .slice A n c], .agg #[.bool true, .int .i64 x, .int .i64 y, .int .i64 z, .int .i64 s]] w (OwnW w ⟨we, ps⟩ ⟨true, x, y, z, s⟩) := by
  obtain rfl : ps.length = n := hr.len
  have hn4 : ps.length = 4 := hok.2.1
  have hbt := Lib.hid (bof_t.2 hok)
  have hpt := Lib.hid (show decide (PageOk ⟨true, x, y, z, s⟩) = true from decide_eq_true hp)
  have HOK := Lib.hid hok
  have HN4 := Lib.hid hn4
  have b3 : Below w.heap.size w (((w.alloc (.cells #[.int .i64 we, .slice A ps.length c] 67)).alloc (.cells #[.bool true, .int .i64 x, .int .i64 y, .int .i64 z, .int .i64 s] 102)).alloc (.cells #[.int .i64 0, .slice none 0 0] 67)) := (((Below.refl _ _).alloc (Nat.le_refl _) _).alloc (by simp) _).alloc (by simp; omega) _
  have e1 : (w.alloc (.cells #[.int .i64 we, .slice A ps.length c] 67)).heap.size = w.heap.size + 1 := by simp
  have e2 : ((w.alloc (.cells #[.int .i64 we, .slice A ps.length c] 67)).alloc (.cells #[.bool true, .int .i64 x, .int .i64 y, .int .i64 z, .int .i64 s] 102)).heap.size = w.heap.size + 1 + 1 := by simp
  have k1 := ((Blk.new w 67 #[.int .i64 we, .slice A ps.length c]).alloc (.cells #[.bool true, .int .i64 x, .int .i64 y, .int .i64 z, .int .i64 s] 102)).alloc (.cells #[.int .i64 0, .slice none 0 0] 67)
  have k2 := (Blk.new (w.alloc (.cells #[.int .i64 we, .slice A ps.length c] 67)) 102 #[.bool true, .int .i64 x, .int .i64 y, .int .i64 z, .int .i64 s]).alloc (.cells #[.int .i64 0, .slice none 0 0] 67)
  have k3 := Blk.new ((w.alloc (.cells #[.int .i64 we, .slice A ps.length c] 67)).alloc (.cells #[.bool true, .int .i64 x, .int .i64 y, .int .i64 z, .int .i64 s] 102)) 67 #[.int .i64 0, .slice none 0 0]
  rw [e1] at k2
  rw [e2] at k3
  have hr3 := (hr.mono hB).below b3
  have B3 := Lib.hid b3
  have g3 : w.heap.size + 2 < (((w.alloc (.cells #[.int .i64 we, .slice A ps.length c] 67)).alloc (.cells #[.bool true, .int .i64 x, .int .i64 y, .int .i64 z, .int .i64 s] 102)).alloc (.cells #[.int .i64 0, .slice none 0 0] 67)).heap.size := by simp
  clear hr hok hp b3 e1 e2 hn4
  go_enter Try.func118, Try.ntmps118
  go_upto_region 1 with (fail)
  generalize ((w.alloc (.cells #[.int .i64 we, .slice A ps.length c] 67)).alloc (.cells #[.bool true, .int .i64 x, .int .i64 y, .int .i64 z, .int .i64 s] 102)).alloc (.cells #[.int .i64 0, .slice none 0 0] 67) = w3 at *
  have t0 := k1.cell 0
  have t1 := k1.cell 1
  simp at t0 t1
  go_wp2_with fail
  refine (blockValid_spec hr3 B3.out.size hnc hcm).mono ?_
  rw [hbt.out]
  rintro e w4 ⟨rfl, b4⟩
  have k4 := k1.below b4 (by omega)
  have q4 := k2.below b4 (by omega)
  have r4 := k3.below b4 (by omega)
  have hr4 := hr3.below (b4.mono B3.out.size)
  have B4 := Lib.hid (B3.out.trans (b4.mono B3.out.size))
  have g4 : w.heap.size + 2 < w4.heap.size := by have := b4.size; omega
  clear k1 k2 k3 b4 hr3 B3 t0 t1 g3
  have u0 := q4.cell 0
  have u1 := q4.cell 1
  have u2 := q4.cell 2
  have u3 := q4.cell 3
  have u4 := q4.cell 4
  simp at u0 u1 u2 u3 u4
  go_wp2_with fail
  refine (pageValid_spec true x y z s _).mono ?_
  rw [hpt.out]
  rintro e w5 ⟨rfl, b5⟩
  have k5 := k4.below b5 (by omega)
  have q5 := q4.below b5 (by omega)
  have r5 := r4.below b5 (by omega)
  have hr5 := hr4.below (b5.mono B4.out.size)
  have B5 := Lib.hid (B4.out.trans (b5.mono B4.out.size))
  have g5 : w.heap.size + 2 < w5.heap.size := by have := b5.size; omega
  clear k4 q4 r4 b5 hr4 B4 u0 u1 u2 u3 u4 g4
  have u0 := q5.cell 0
  have t0 := k5.cell 0
  have t1 := k5.cell 1
  simp at u0 t0 t1
  go_wp2_with fail
  refine (l4Copy_c hr5 B5.out.size (by have := HN4.out; omega) (by have := HN4.out; omega)).mono ?_
  rintro e w6 ⟨A6, c6, rfl, o6, b6⟩
  simp only at o6 ⊢
  obtain ⟨g, rfl, hg2, hg3⟩ : ∃ g, A6 = some ⟨g, 0, none⟩ ∧ w5.heap.size ≤ g ∧ g < w6.heap.size := by
    obtain ⟨g, cap, e, hg1, hg2⟩ := o6.form (by have := HN4.out; omega)
    injection e with e
    exact ⟨g, e, hg1, hg2⟩
  go_upto_region 4 with (fail)
  have b6x : Below w5.heap.size w5 (w6.alloc (.cells #[.int .i64 we, .slice (some ⟨g, 0, none⟩) ps.length c6] 67)) := b6.alloc b6.size _
  have k6 := k5.below b6x (by omega)
  have q6 := q5.below b6x (by omega)
  have r6 := r5.below b6x (by omega)
  have s6 := Blk.new w6 67 #[.int .i64 we, .slice (some ⟨g, 0, none⟩) ps.length c6]
  have o6x := own_below o6 ((Below.refl w6.heap.size w6).alloc (Nat.le_refl _) (.cells #[.int .i64 we, .slice (some ⟨g, 0, none⟩) ps.length c6] 67))
  have hr6 := hr5.below (b6x.mono B5.out.size)
  have B6 := Lib.hid (B5.out.trans (b6x.mono B5.out.size))
  have g6 : w.heap.size + 2 < w6.heap.size := by have := b6.size; omega
  have g6x : w6.heap.size < (w6.alloc (.cells #[.int .i64 we, .slice (some ⟨g, 0, none⟩) ps.length c6] 67)).heap.size := by simp
  clear k5 q5 r5 b6 b6x hr5 B5 u0 t0 t1 o6
  generalize w6.alloc (.cells #[.int .i64 we, .slice (some ⟨g, 0, none⟩) ps.length c6] 67) = w7 at *
  generalize w6.heap.size = h6 at *
  have t0 := k6.cell 0
  have t1 := k6.cell 1
  simp at t0 t1
  go_wp2_with fail
  refine (blockNext_spec hr6 B6.out.size hnc hcm HOK.out).mono ?_
  rintro e w8 ⟨rfl, b8⟩
  have q8 := q6.below b8 (by omega)
  have r8 := r6.below b8 (by omega)
  have s8 := s6.below b8 (by omega)
  have o8 := own_below o6x b8
  have B8 := Lib.hid (B6.out.trans (b8.mono B6.out.size))
  clear k6 q6 r6 s6 o6x b8 hr6 B6 t0 t1
  have o8' := own_lower o8 (base' := w.heap.size) (by omega)
  have hgw : w.heap.size + 2 < g := by omega
  rcases nextP_or ps with ⟨hx, _⟩ | ⟨j, hx, hj, _, _⟩
  · have HW := Lib.hid (show (writeF ⟨we, ps⟩ ⟨true, x, y, z, s⟩).pages = ps from by unfold writeF; rw [if_pos (by simp only; omega)])
    have hX := Lib.hid hx
    have t0 := s8.cell 0
    have t1 := s8.cell 1
    have y0 := r8.cell 0
    have y1 := r8.cell 1
    have v0 := r8.frozen 0
    have v1 := r8.frozen 1
    simp at t0 t1 y0 y1
    have ke := (r8.set_ 0 (.int .i64 we)).set_ 1 (.slice (some ⟨g, 0, none⟩) ps.length c6)
    have e0 := ke.cell 0
    have e1 := ke.cell 1
    simp at e0 e1
    have OE := Lib.hid (ownsRow_setCell_other (ownsRow_setCell_other o8' (a := ⟨w.heap.size + 1 + 1, 0, none⟩) (by simp [Value.ownBlock]; omega) (.int .i64 we)) (a := ⟨w.heap.size + 1 + 1, 1, none⟩) (by simp [Value.ownBlock]; omega) (.slice (some ⟨g, 0, none⟩) ps.length c6))
    have BE := Lib.hid ((B8.out.setCell (p := ⟨w.heap.size + 1 + 1, 0, none⟩) (by show w.heap.size ≤ _ + 1 + 1; omega) (.int .i64 we)).setCell (p := ⟨w.heap.size + 1 + 1, 1, none⟩) (by show w.heap.size ≤ _ + 1 + 1; omega) (.slice (some ⟨g, 0, none⟩) ps.length c6))
    have E0 := Lib.hid e0
    have E1 := Lib.hid e1
    clear e0 e1 ke q8 r8 s8 o8'
    rw [hx]
    clear hx
    go_wp2
    generalize (w8.setCell ⟨w.heap.size + 1 + 1, 0, none⟩ (.int .i64 we)).setCell ⟨w.heap.size + 1 + 1, 1, none⟩ (.slice (some ⟨g, 0, none⟩) ps.length c6) = w9 at *
    have e0 := E0.out
    have e1 := E1.out
    refine bodyPost_ret (by simp [results, Try.results118, go_sem, e0, e1]; try rfl) rfl ?_
    refine ⟨_, _, by simp only; rw [hX.out], ?_, BE.out⟩
    rw [HW.out]; exact OE.out
  · have HW := Lib.hid (show (writeF ⟨we, ps⟩ ⟨true, x, y, z, s⟩).pages = ps.set j ⟨true, x, y, z, s⟩ from by unfold writeF; rw [if_neg (by simp only; omega)]; simp only; rw [hx, Int.toNat_natCast])
    have hX := Lib.hid hx
    have hq := own_putPage o8' j hj ⟨true, x, y, z, s⟩
    have HQ := Lib.hid hq
    obtain ⟨f0, f1, f2, f3, f4⟩ := own_pageCells o8' j hj
    have z0 := o8'.frozenAt (g := g) (cap := c6) (j * 5)
    have z1 := o8'.frozenAt (g := g) (cap := c6) (j * 5 + 1)
    have z2 := o8'.frozenAt (g := g) (cap := c6) (j * 5 + 2)
    have z3 := o8'.frozenAt (g := g) (cap := c6) (j * 5 + 3)
    have z4 := o8'.frozenAt (g := g) (cap := c6) (j * 5 + 4)
    have BP := Lib.hid (below_app B8.out o8' B8.out.size hq.2)
    have r9 := r8.grown hq.2 (by intro e; injection e with e; omega)
    have s9 := s8.grown hq.2 (by intro e; injection e with e; omega)
    clear hq
    unfold putPage at HQ BP r9 s9
    simp only at HQ BP r9 s9
    have u0 := q8.cell 0
    have u1 := q8.cell 1
    have u2 := q8.cell 2
    have u3 := q8.cell 3
    have u4 := q8.cell 4
    have t0 := s8.cell 0
    have t1 := s8.cell 1
    simp at t0 t1 u0 u1 u2 u3 u4
    generalize ps.getD j noPage = Q at *
    rw [hx]
    clear hx q8 r8 s8 o8'
    go_upto_region 7 with (fail)
    generalize ((((w8.setCell ⟨g, j * 5, none⟩ (.bool true)).setCell ⟨g, j * 5 + 1, none⟩ (.int .i64 x)).setCell ⟨g, j * 5 + 2, none⟩ (.int .i64 y)).setCell ⟨g, j * 5 + 3, none⟩ (.int .i64 z)).setCell ⟨g, j * 5 + 4, none⟩ (.int .i64 s) = wp at *
    clear t0 t1 u0 u1 u2 u3 u4 f0 f1 f2 f3 f4 z0 z1 z2 z3 z4
    have t0 := s9.cell 0
    have t1 := s9.cell 1
    have y0 := r9.cell 0
    have y1 := r9.cell 1
    have v0 := r9.frozen 0
    have v1 := r9.frozen 1
    simp at t0 t1 y0 y1
    have ke := (r9.set_ 0 (.int .i64 we)).set_ 1 (.slice (some ⟨g, 0, none⟩) ps.length c6)
    have e0 := ke.cell 0
    have e1 := ke.cell 1
    simp at e0 e1
    have OE := Lib.hid (ownsRow_setCell_other (ownsRow_setCell_other HQ.out.1 (a := ⟨w.heap.size + 1 + 1, 0, none⟩) (by simp [Value.ownBlock]; omega) (.int .i64 we)) (a := ⟨w.heap.size + 1 + 1, 1, none⟩) (by simp [Value.ownBlock]; omega) (.slice (some ⟨g, 0, none⟩) ps.length c6))
    have BE := Lib.hid ((BP.out.setCell (p := ⟨w.heap.size + 1 + 1, 0, none⟩) (by show w.heap.size ≤ _ + 1 + 1; omega) (.int .i64 we)).setCell (p := ⟨w.heap.size + 1 + 1, 1, none⟩) (by show w.heap.size ≤ _ + 1 + 1; omega) (.slice (some ⟨g, 0, none⟩) ps.length c6))
    have E0 := Lib.hid e0
    have E1 := Lib.hid e1
    clear e0 e1 ke r9 s9
    go_wp2
    generalize (wp.setCell ⟨w.heap.size + 1 + 1, 0, none⟩ (.int .i64 we)).setCell ⟨w.heap.size + 1 + 1, 1, none⟩ (.slice (some ⟨g, 0, none⟩) ps.length c6) = w9 at *
    have e0 := E0.out
    have e1 := E1.out
    refine bodyPost_ret (by simp [results, Try.results118, go_sem, e0, e1]; try rfl) rfl ?_
    refine ⟨_, _, by simp only; rw [hX.out], ?_, BE.out⟩
    rw [HW.out]; exact OE.out
end Go.Proofs.Ytjnpgdhpneifjaa

/- EraseBlock by the reference, at a valid block. -/
namespace Go.Proofs.Ytjnpgdhpneifjaa
open Go.ChangeShapes Go.WideShapes Go.ChangeAt Go.RowKit
set_option linter.unusedVariables false
set_option linter.unusedSimpArgs false

/-- a block erased, in new memory, returned with whether it could be -/
def OwnEr (w0 : World) (b : BlockV) (e : Ending) (w' : World) : Prop := ∃ A c, e = .returned (.tuple #[.agg #[.int .i64 (eraseF b).wear, .slice A 4 c], .bool (!(b.wear == 100))]) ∧ w'.ownsRow w0.heap.size 102 5 (.slice A 4 c) 4 (flatG (eraseF b).pages) ∧ Below w0.heap.size w0 w'
set_option maxRecDepth 8000 in
set_option maxHeartbeats 2000000 in
theorem eraseBlock_spec {we : Int} {A : Option Addr} {n c B : Nat} {ps : List PageV} {w : World} (hr : RdG w B A n ps) (hB : B ≤ w.heap.size) (hnc : n ≤ c) (hcm : c ≤ 9223372036854775807) (hok : BlockOk ⟨we, ps⟩) :
    Calls Try.prog 146 #[.agg #[.int .i64 we, .slice A n c]] w (OwnEr w ⟨we, ps⟩) := by
  obtain rfl : ps.length = n := hr.len
  have hn4 : ps.length = 4 := hok.2.1
  have hbt := Lib.hid (bof_t.2 hok)
  have HN4 := Lib.hid hn4
  obtain ⟨hw1, hw2⟩ := hok.1
  simp only at hw1 hw2
  have b2 : Below w.heap.size w ((w.alloc (.cells #[.int .i64 we, .slice A ps.length c] 67)).alloc (.cells #[.int .i64 0, .slice none 0 0] 67)) := ((Below.refl _ _).alloc (Nat.le_refl _) _).alloc (by simp) _
  have e1 : (w.alloc (.cells #[.int .i64 we, .slice A ps.length c] 67)).heap.size = w.heap.size + 1 := by simp
  have k1 := (Blk.new w 67 #[.int .i64 we, .slice A ps.length c]).alloc (.cells #[.int .i64 0, .slice none 0 0] 67)
  have k3 := Blk.new (w.alloc (.cells #[.int .i64 we, .slice A ps.length c] 67)) 67 #[.int .i64 0, .slice none 0 0]
  rw [e1] at k3
  have hr3 := (hr.mono hB).below b2
  have B3 := Lib.hid b2
  have g3 : w.heap.size + 1 < ((w.alloc (.cells #[.int .i64 we, .slice A ps.length c] 67)).alloc (.cells #[.int .i64 0, .slice none 0 0] 67)).heap.size := by simp
  clear hr hok b2 e1 hn4
  go_enter Try.func146, Try.ntmps146
  go_upto_region 1 with (fail)
  generalize (w.alloc (.cells #[.int .i64 we, .slice A ps.length c] 67)).alloc (.cells #[.int .i64 0, .slice none 0 0] 67) = w3 at *
  have t0 := k1.cell 0
  have t1 := k1.cell 1
  simp at t0 t1
  go_wp2_with fail
  refine (blockValid_spec hr3 B3.out.size hnc hcm).mono ?_
  rw [hbt.out]
  rintro e w4 ⟨rfl, b4⟩
  have k4 := k1.below b4 (by omega)
  have r4 := k3.below b4 (by omega)
  have hr4 := hr3.below (b4.mono B3.out.size)
  have B4 := Lib.hid (B3.out.trans (b4.mono B3.out.size))
  have g4 : w.heap.size + 1 < w4.heap.size := by have := b4.size; omega
  clear k1 k3 b4 hr3 B3 t0 t1 g3
  have t0 := k4.cell 0
  have t1 := k4.cell 1
  simp at t0 t1
  by_cases h100 : we = 100
  · have hq : (we == 100) = true := by simp [h100]
    have HE := Lib.hid (show eraseF ⟨we, ps⟩ = ⟨we, ps⟩ from by unfold eraseF; rw [if_pos h100])
    have HQ := Lib.hid hq
    clear h100
    go_wp2_with fail
    refine (l4Copy_c hr4 B4.out.size (by have := HN4.out; omega) (by have := HN4.out; omega)).mono ?_
    rintro e w6 ⟨A6, c6, rfl, o6, b6⟩
    simp only at o6 ⊢
    have r6 := r4.below b6 (by omega)
    have y0 := r6.cell 0
    have y1 := r6.cell 1
    have v0 := r6.frozen 0
    have v1 := r6.frozen 1
    simp at y0 y1
    have ke := (r6.set_ 0 (.int .i64 we)).set_ 1 (.slice A6 ps.length c6)
    have OE := Lib.hid (own_lower (ownsRow_setCell_below (ownsRow_setCell_below o6 (a := ⟨w.heap.size + 1, 0, none⟩) (by show w.heap.size + 1 < w4.heap.size; omega) (.int .i64 we)) (a := ⟨w.heap.size + 1, 1, none⟩) (by show w.heap.size + 1 < w4.heap.size; omega) (.slice A6 ps.length c6)) (base' := w.heap.size) (by omega))
    have BE := Lib.hid (((B4.out.trans (b6.mono B4.out.size)).setCell (p := ⟨w.heap.size + 1, 0, none⟩) (by show w.heap.size ≤ _ + 1; omega) (.int .i64 we)).setCell (p := ⟨w.heap.size + 1, 1, none⟩) (by show w.heap.size ≤ _ + 1; omega) (.slice A6 ps.length c6))
    have KE := Lib.hid ke
    clear ke r6 o6 b6 k4 r4 hr4 t0 t1
    go_wp2
    generalize (w6.setCell ⟨w.heap.size + 1, 0, none⟩ (.int .i64 we)).setCell ⟨w.heap.size + 1, 1, none⟩ (.slice A6 ps.length c6) = w9 at *
    have e0 := KE.out.cell 0
    have e1 := KE.out.cell 1
    simp at e0 e1
    refine bodyPost_ret (by simp [results, Try.results146, go_sem, e0, e1]; try rfl) rfl ?_
    have hn := HN4.out
    have oe := OE.out
    rw [hn] at oe
    exact ⟨A6, c6, by rw [HE.out, hn]; simp only [HQ.out]; rfl, by rw [HE.out]; exact oe, BE.out⟩
  · have hq : (we == 100) = false := by simp [h100]
    have HE := Lib.hid (show eraseF ⟨we, ps⟩ = ⟨we + 1, newPages⟩ from by unfold eraseF; rw [if_neg h100]; rfl)
    have HQ := Lib.hid hq
    have v9 : IntKind.i64.wrap (we + 1) = we + 1 := IntWalk.i64_in _ (by omega)
    go_wp2_with fail
    refine (newBlock_spec (we + 1) _ (by omega) (by omega)).mono ?_
    rintro e w6 ⟨A6, c6, rfl, o6, b6⟩
    have r6 := r4.below b6 (by omega)
    have y0 := r6.cell 0
    have y1 := r6.cell 1
    have v0 := r6.frozen 0
    have v1 := r6.frozen 1
    simp at y0 y1
    have ke := (r6.set_ 0 (.int .i64 (we + 1))).set_ 1 (.slice A6 4 c6)
    have OE := Lib.hid (own_lower (ownsRow_setCell_below (ownsRow_setCell_below o6 (a := ⟨w.heap.size + 1, 0, none⟩) (by show w.heap.size + 1 < w4.heap.size; omega) (.int .i64 (we + 1))) (a := ⟨w.heap.size + 1, 1, none⟩) (by show w.heap.size + 1 < w4.heap.size; omega) (.slice A6 4 c6)) (base' := w.heap.size) (by omega))
    have BE := Lib.hid (((B4.out.trans (b6.mono B4.out.size)).setCell (p := ⟨w.heap.size + 1, 0, none⟩) (by show w.heap.size ≤ _ + 1; omega) (.int .i64 (we + 1))).setCell (p := ⟨w.heap.size + 1, 1, none⟩) (by show w.heap.size ≤ _ + 1; omega) (.slice A6 4 c6))
    have KE := Lib.hid ke
    clear ke r6 o6 b6 k4 r4 hr4 t0 t1
    go_wp2
    generalize (w6.setCell ⟨w.heap.size + 1, 0, none⟩ (.int .i64 (we + 1))).setCell ⟨w.heap.size + 1, 1, none⟩ (.slice A6 4 c6) = w9 at *
    have e0 := KE.out.cell 0
    have e1 := KE.out.cell 1
    simp at e0 e1
    refine bodyPost_ret (by simp [results, Try.results146, go_sem, e0, e1]; try rfl) rfl ?_
    exact ⟨A6, c6, by rw [HE.out]; simp only [HQ.out]; rfl, by rw [HE.out]; exact OE.out, BE.out⟩
end Go.Proofs.Ytjnpgdhpneifjaa
