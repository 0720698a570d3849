/- New blocks and devices, the program's and the reference's. Condition: wear in 0..100, 1 to 12 blocks (else nothing). -/
import Derived.Test.YtjnpgdhpneifjaaDevLaw
import Derived.Test.YtjnpgdhpneifjaaInts
namespace Go.Proofs.Ytjnpgdhpneifjaa
open Go.ChangeShapes Go.WideShapes Go.ChangeAt Go.RowKit Go.Deep
set_option linter.unusedVariables false
set_option linter.unusedSimpArgs false

def newPages : List PageV := [noPage, noPage, noPage, noPage]
def newBlockV (we : Int) : BlockV := ⟨we, newPages⟩
theorem own_newPages (w : World) (base : Nat) (hb : base ≤ w.heap.size) : (w.alloc (.cells (madeCells #[.bool false, .int .i64 0, .int .i64 0, .int .i64 0, .int .i64 0] 20) 102)).ownsRow base 102 5 (.slice (some ⟨w.heap.size, 0, none⟩) 4 4) 4 (flatG newPages) := own_madePages w base 4 newPages rfl hb (by omega)
theorem makePage4 : ∀ W : World, (Instr.makeSlice 65 (.int .i64 4) (.int .i64 4)).run Try.prog W = .ok (.slice (some ⟨W.heap.size, 0, none⟩) 4 4) (W.alloc (.cells (madeCells #[.bool false, .int .i64 0, .int .i64 0, .int .i64 0, .int .i64 0] 20) 102)) := fun W => makePage 4 (by omega) W
/-- a block with new pages, returned -/
def NewB (w0 : World) (we : Int) (e : Ending) (w' : World) : Prop :=
  ∃ A c, e = .returned (.agg #[.int .i64 we, .slice A 4 c]) ∧ w'.ownsRow w0.heap.size 102 5 (.slice A 4 c) 4 (flatG newPages) ∧ Below w0.heap.size w0 w'
theorem newBlock_impl (we : Int) (w : World) (h0 : 0 ≤ we) (h1 : we ≤ 100) : Calls Try.prog 42 #[.int .i64 we] w (NewB w we) := by
  have hmk := makePage4
  have b1 : Below w.heap.size w (w.alloc (.cells #[.int .i64 we, .slice (some ⟨w.heap.size + 1, 0, none⟩) 4 4] 67)) := (Below.refl _ _).alloc (Nat.le_refl _) _
  have OP := Lib.hid (own_newPages (w.alloc (.cells #[.int .i64 we, .slice (some ⟨w.heap.size + 1, 0, none⟩) 4 4] 67)) w.heap.size (by simp))
  have e1 : (w.alloc (.cells #[.int .i64 we, .slice (some ⟨w.heap.size + 1, 0, none⟩) 4 4] 67)).heap.size = w.heap.size + 1 := by simp
  rw [e1] at OP
  have K := Lib.hid ((Blk.new w 67 #[.int .i64 we, .slice (some ⟨w.heap.size + 1, 0, none⟩) 4 4]).alloc (.cells (madeCells #[.bool false, .int .i64 0, .int .i64 0, .int .i64 0, .int .i64 0] 20) 102))
  have BS := Lib.hid (b1.alloc b1.size (.cells (madeCells #[.bool false, .int .i64 0, .int .i64 0, .int .i64 0, .int .i64 0] 20) 102))
  clear b1 e1
  go_enter Try.func42, Try.ntmps42
  go_wp2
  generalize (w.alloc (.cells #[.int .i64 we, .slice (some ⟨w.heap.size + 1, 0, none⟩) 4 4] 67)).alloc (.cells (madeCells #[.bool false, .int .i64 0, .int .i64 0, .int .i64 0, .int .i64 0] 20) 102) = wz at *
  have p0 := K.out.cell 0
  have p1 := K.out.cell 1
  simp at p0 p1
  refine bodyPost_ret (by simp [results, Try.results42, go_sem, p0, p1]; try rfl) rfl ?_
  exact ⟨_, _, rfl, OP.out, BS.out⟩
theorem newBlock_spec (we : Int) (w : World) (h0 : 0 ≤ we) (h1 : we ≤ 100) : Calls Try.prog 84 #[.int .i64 we] w (NewB w we) := by
  have hmk := makePage4
  have b1 : Below w.heap.size w (w.alloc (.cells #[.int .i64 we, .slice (some ⟨w.heap.size + 1, 0, none⟩) 4 4] 67)) := (Below.refl _ _).alloc (Nat.le_refl _) _
  have OP := Lib.hid (own_newPages (w.alloc (.cells #[.int .i64 we, .slice (some ⟨w.heap.size + 1, 0, none⟩) 4 4] 67)) w.heap.size (by simp))
  have e1 : (w.alloc (.cells #[.int .i64 we, .slice (some ⟨w.heap.size + 1, 0, none⟩) 4 4] 67)).heap.size = w.heap.size + 1 := by simp
  rw [e1] at OP
  have K := Lib.hid ((Blk.new w 67 #[.int .i64 we, .slice (some ⟨w.heap.size + 1, 0, none⟩) 4 4]).alloc (.cells (madeCells #[.bool false, .int .i64 0, .int .i64 0, .int .i64 0, .int .i64 0] 20) 102))
  have BS := Lib.hid (b1.alloc b1.size (.cells (madeCells #[.bool false, .int .i64 0, .int .i64 0, .int .i64 0, .int .i64 0] 20) 102))
  clear b1 e1
  have hin : inB we 0 100 = true := by rw [inB_t]; omega
  go_enter Try.func84, Try.ntmps84
  go_wp2_with (go_at_call 32; refine (l1In_c _ _ _ _).mono ?_; rw [hin]; rintro e w' ⟨rfl, rfl⟩)
  generalize (w.alloc (.cells #[.int .i64 we, .slice (some ⟨w.heap.size + 1, 0, none⟩) 4 4] 67)).alloc (.cells (madeCells #[.bool false, .int .i64 0, .int .i64 0, .int .i64 0, .int .i64 0] 20) 102) = wz at *
  have p0 := K.out.cell 0
  have p1 := K.out.cell 1
  simp at p0 p1
  refine bodyPost_ret (by simp [results, Try.results84, go_sem, p0, p1]; try rfl) rfl ?_
  exact ⟨_, _, rfl, OP.out, BS.out⟩
/-- a device in new memory, returned -/
def OwnB (w0 : World) (bs : List BlockV) (e : Ending) (w' : World) : Prop := ∃ A c, e = .returned (.slice A bs.length c) ∧ OwB w' w0.heap.size A bs.length c bs ∧ Below w0.heap.size w0 w'
theorem ownB_of {w0 w' : World} {bs : List BlockV} {A : Option Addr} {m c : Nat} (hm : bs.length = m) (h : OwB w' w0.heap.size A m c bs) (hb : Below w0.heap.size w0 w') : OwnB w0 bs (.returned (.slice A m c)) w' := by
  subst hm; exact ⟨A, c, rfl, h, hb⟩
def newDev (n : Nat) : List BlockV := List.replicate n (newBlockV 0)
theorem newDev_len (n : Nat) : (newDev n).length = n := by simp [newDev]
theorem newDev_get {n i : Nat} (h : i < n) : (newDev n).getD i noBlock = newBlockV 0 := by unfold newDev; rw [List.getD_eq_getElem?_getD, List.getElem?_replicate, if_pos h]; rfl
theorem newDevice_impl (n : Nat) (w : World) (h0 : 1 ≤ n) (h1 : n ≤ 12) : Calls Try.prog 16 #[.int .i64 (n : Nat)] w (OwnB w (newDev n)) := by
  have hmk := makeBlock n (by omega)
  have hst := Lib.hid (own_madeBlocks w w.heap.size n (newDev n) (newDev_len n) (Nat.le_refl _) (by omega))
  go_enter Try.func16, Try.ntmps16
  go_wp2
  go_loopw [15] (fun i wr => ∃ k : Nat, k ≤ n ∧ i = .int .i64 k ∧ OwB wr w.heap.size (some ⟨w.heap.size, 0, none⟩) n n (fillTo noBlock (newDev n) k) ∧ Below w.heap.size w wr) (fun i _ => n - (intOf i).toNat)
  case atStart => exact ⟨0, Nat.zero_le _, rfl, hst.out, (Below.refl _ _).alloc (Nat.le_refl _) _⟩
  case round =>
    obtain ⟨k, hk, rfl, hown, hbel⟩ := hrel
    by_cases hlt : k < n
    · have hfs := fillTo_set noBlock (newDev n) (k := k) (by rw [newDev_len]; exact hlt)
      rw [newDev_get hlt] at hfs
      have HF := Lib.hid hfs
      have HO := Lib.hid hown
      have HB := Lib.hid hbel
      have hsz := hbel.size
      clear hfs hown hbel hmk
      go_wp2_with fail
      refine (newBlock_impl 0 _ (by omega) (by omega)).mono ?_
      rintro e w2 ⟨A2, c2, rfl, ho2, hb2⟩
      have oF := HO.out.setBlock (we := 0) hb2 ho2 hsz hlt
      obtain ⟨A3, n3, c3, f0, f1, z0, z1, _⟩ := (HO.out.below hb2).cells k hlt
      rw [show (⟨0, newPages⟩ : BlockV) = newBlockV 0 from rfl, HF.out] at oF
      have OF := Lib.hid oF
      have HB2 := Lib.hid (HB.out.trans (hb2.mono hsz))
      generalize ((fillTo noBlock (newDev n) k).getD k noBlock).wear = q at *
      clear hb2 oF ho2
      go_wp2_with fail
      go_roundw
      case rel => exact ⟨k + 1, by omega, by go_num, OF.out, (HB2.out.setCell (p := ⟨w.heap.size, k * 2, none⟩) (Nat.le_refl _) _).setCell (p := ⟨w.heap.size, k * 2 + 1, none⟩) (Nat.le_refl _) _⟩
      case measure => simp [intOf]; omega
    · obtain rfl : k = n := by omega
      have how : OwB wr w.heap.size (some ⟨w.heap.size, 0, none⟩) k k (newDev k) := by have := fillTo_all noBlock (newDev k); rw [newDev_len] at this; rw [this] at hown; exact hown
      have HO := Lib.hid how
      clear hmk hown how
      go_wp2
      go_ret
      exact ownB_of (newDev_len _) HO.out hbel
theorem newDevice_spec (n : Nat) (w : World) (h0 : 1 ≤ n) (h1 : n ≤ 12) : Calls Try.prog 43 #[.int .i64 (n : Nat)] w (OwnB w (newDev n)) := by
  have hin : inB (n : Int) 1 12 = true := by rw [inB_t]; omega
  have HIN := Lib.hid hin
  have hst := Lib.hid (show OwB (w.alloc (.cells #[] 67)) w.heap.size (some ⟨w.heap.size, 0, none⟩) 0 0 [] from ⟨[], rfl, rfl, fun _ h => absurd h (Nat.not_lt_zero _), World.ownsRow_lit w #[] 0 (Nat.le_refl _) (by decide) rfl, fun _ h => absurd h (Nat.not_lt_zero _), fun _ _ h => absurd h (Nat.not_lt_zero _)⟩)
  clear hin
  go_enter Try.func43, Try.ntmps43
  go_wp2
  go_loopw [3, 4] (fun v i wr => ∃ (k : Nat) (A : Option Addr) (c : Nat), k ≤ n ∧ i = .int .i64 k ∧ v = .slice A k c ∧ OwB wr w.heap.size A k c (newDev k) ∧ Below w.heap.size w wr) (fun _ i _ => n - (intOf i).toNat)
  case atStart => exact ⟨0, _, _, Nat.zero_le _, rfl, rfl, hst.out, (Below.refl _ _).alloc (Nat.le_refl _) _⟩
  case round =>
    obtain ⟨k, A, c, hk, rfl, rfl, hown, hbel⟩ := hrel
    have HO := Lib.hid hown
    have HB := Lib.hid hbel
    have hsz := hbel.size
    clear hown hbel
    by_cases hlt : k < n
    · have hd : decide (k < n) = true := decide_eq_true hlt
      go_wp2_with (go_at_call 32; refine (l1In_c _ _ _ _).mono ?_; rw [HIN.out]; rintro e w' ⟨rfl, rfl⟩)
      refine (newBlock_spec 0 _ (by omega) (by omega)).mono ?_
      rintro e w2 ⟨A2, c2, rfl, ho2, hb2⟩
      go_wp2_with (at_builtin; refine wpList_appBlock rfl rfl rfl HO.out hb2 ho2 rfl (by omega) hsz ?_; rintro g3 c3 w3 o3 b3 t3 hg3)
      have HO3 := Lib.hid (show OwB w3 w.heap.size (some ⟨g3, 0, none⟩) (k + 1) c3 (newDev (k + 1)) from by
        have e : newDev (k + 1) = newDev k ++ [⟨0, newPages⟩] := by unfold newDev; rw [List.replicate_succ']; rfl
        rw [e]; exact o3)
      have HB3 := Lib.hid (HB.out.trans b3)
      clear o3 b3 t3 ho2 hb2
      go_wp2
      go_roundw
      case rel => exact ⟨k + 1, _, _, by omega, by go_num, rfl, HO3.out, HB3.out⟩
      case measure => simp [intOf]; omega
    · obtain rfl : k = n := by omega
      go_wp2
      go_ret
      exact ownB_of (newDev_len _) HO.out HB.out
end Go.Proofs.Ytjnpgdhpneifjaa
