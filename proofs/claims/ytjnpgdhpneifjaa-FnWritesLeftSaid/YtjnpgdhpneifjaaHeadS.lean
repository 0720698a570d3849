/- HeadOf and l6Set by the reference. -/
import Derived.Test.YtjnpgdhpneifjaaHeads
import Derived.Test.YtjnpgdhpneifjaaInts
namespace Go.Proofs.Ytjnpgdhpneifjaa
open Go.ChangeShapes Go.WideShapes Go.ChangeAt Go.RowKit
set_option linter.unusedVariables false
set_option linter.unusedSimpArgs false

structure HeadV where
  x : Int
  y : Int
  z : Int
abbrev hdv (h : HeadV) : Value := .agg #[.int .i64 h.x, .int .i64 h.y, .int .i64 h.z]
def HeadV.get (h : HeadV) (heat : Nat) : Int := if heat = 0 then h.x else if heat = 1 then h.y else h.z
def HeadV.set (h : HeadV) (heat : Nat) (n : Int) : HeadV := if heat = 0 then ⟨n, h.y, h.z⟩ else if heat = 1 then ⟨h.x, n, h.z⟩ else ⟨h.x, h.y, n⟩
theorem l6Set_c (h : HeadV) (heat : Nat) (n : Int) (w : World) (hh : heat ≤ 2) :
    Calls Try.prog 116 #[hdv h, .int .i64 heat, .int .i64 n] w fun e w' => e = .returned (hdv (h.set heat n)) ∧ Below w.heap.size w w' := by
  obtain ⟨x, y, z⟩ := h
  have hc : heat = 0 ∨ heat = 1 ∨ heat = 2 := by omega
  rcases hc with rfl | rfl | rfl
  all_goals
    go_enter Try.func116, Try.ntmps116
    go_wp2
    go_returns
    exact ⟨rfl, ((Below.refl _ _).alloc (Nat.le_refl _) _).alloc (by simp) _⟩
theorem headOf_spec {A : Option Addr} {m c B : Nat} {bs : List BlockV} (h : HeadV) (heat : Nat) {w : World} (hr : RdB w B A m bs) (hB : B ≤ w.heap.size) (hm : m ≤ 1048576) (hok : HeadsOk bs h.x h.y h.z) (hh : heat ≤ 2) :
    Calls Try.prog 112 #[.slice A m c, hdv h, .int .i64 heat] w fun e w' => e = .returned (.int .i64 (h.get heat)) ∧ Below w.heap.size w w' := by
  obtain ⟨x, y, z⟩ := h
  simp only at hok
  have HBT := Lib.hid (bof_t.2 hok)
  have b1 : Below w.heap.size w (w.alloc (.cells #[.int .i64 x, .int .i64 y, .int .i64 z] 39)) := (Below.refl _ _).alloc (Nat.le_refl _) _
  have k1 := Blk.new w 39 #[.int .i64 x, .int .i64 y, .int .i64 z]
  have l1 := k1.lt
  have r1 := (hr.mono hB).below b1
  have B1 := Lib.hid b1
  have HIN := Lib.hid (show inB (heat : Int) 0 2 = true from by rw [inB_t]; omega)
  clear hr b1 hok
  go_enter Try.func112, Try.ntmps112
  go_upto_region 1 with (fail)
  generalize w.alloc (.cells #[.int .i64 x, .int .i64 y, .int .i64 z] 39) = w1 at *
  have t0 := k1.cell 0
  have t1 := k1.cell 1
  have t2 := k1.cell 2
  simp at t0 t1 t2
  go_wp2_with fail
  refine (headsValid_spec r1 B1.out.size hm).mono ?_
  rw [HBT.out]
  rintro e w2 ⟨rfl, b2⟩
  have k2 := k1.below b2 l1
  have B2 := Lib.hid (B1.out.trans (b2.mono B1.out.size))
  have hs2 := B2.out.size
  clear b2 k1 r1 t0 t1 t2
  have t0 := k2.cell 0
  have t1 := k2.cell 1
  have t2 := k2.cell 2
  simp at t0 t1 t2
  have hc : heat = 0 ∨ heat = 1 ∨ heat = 2 := by omega
  have h0 : inB 0 0 2 = true := by rw [inB_t]; omega
  have h1 : inB 1 0 2 = true := by rw [inB_t]; omega
  have h2 : inB 2 0 2 = true := by rw [inB_t]; omega
  clear HIN
  rcases hc with rfl | rfl | rfl
  all_goals
    go_wp2_with (go_at_call 32; refine (l1In_c _ _ _ _).mono ?_; (first | rw [h0] | rw [h1] | rw [h2] | (rw [show inB _ 0 2 = true from h0]) | (rw [show inB _ 0 2 = true from h1]) | (rw [show inB _ 0 2 = true from h2])); rintro e w' ⟨rfl, rfl⟩)
    go_ret
    exact ⟨rfl, B2.out.alloc hs2 _⟩
end Go.Proofs.Ytjnpgdhpneifjaa
