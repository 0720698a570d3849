/- DrawWritesLeft; the walk of the law FnWritesLeft. No condition. -/
import Derived.Test.YtjnpgdhpneifjaaDraws
import Derived.Test.YtjnpgdhpneifjaaAlive
import Derived.Test.YtjnpgdhpneifjaaDrawDv
import Derived.Test.YtjnpgdhpneifjaaWritesS
namespace Go.Proofs.Ytjnpgdhpneifjaa
open Go.ChangeShapes Go.WideShapes Go.ChangeAt Go.RowKit
set_option linter.unusedVariables false
set_option linter.unusedSimpArgs false

theorem wrote_new : wroteTo newPages 4 = 0 := rfl
theorem left_new (n : Nat) : ∀ k, k ≤ n → leftTo (newDev n) k = 404 * (k : Int)
  | 0, _ => rfl
  | k + 1, h => by
    unfold leftTo
    rw [left_new n k (by omega), newDev_get (by omega)]
    have e : wroteTo (newBlockV 0).pages 4 = 0 := rfl
    rw [e]
    show _ = 404 * ((k : Int) + 1)
    simp [newBlockV]
    omega
theorem left_step {bs : List BlockV} {sh : Int} (h : LeftOk bs sh) (h1 : sh ≠ 10000) : writesLeft bs (sh + 1) ≤ writesLeft bs sh := by
  obtain ⟨hd, h2, h3⟩ := h
  rw [left_yes ⟨hd, h2, h3⟩, left_yes ⟨hd, by omega, by omega⟩]
  have hr := leftTo_range hd.2
  have h0 : 0 ≤ leftTo bs bs.length * 100 := by omega
  generalize leftTo bs bs.length * 100 = x at *
  have hp : (0 : Int) < sh := by omega
  have e1 : x / (sh + 1) * (sh + 1) ≤ x := Int.ediv_mul_le x (by omega)
  have e2 : 0 ≤ x / (sh + 1) := Int.ediv_nonneg h0 (by omega)
  refine (Int.le_ediv_iff_mul_le hp).2 ?_
  rw [Int.mul_add, Int.mul_one] at e1
  omega
theorem left_of_new {bs : List BlockV} {sh : Int} (h : LeftOk bs sh) : writesLeft bs sh ≤ writesLeft (newDev bs.length) sh := by
  obtain ⟨hd, h2, h3⟩ := h
  rw [left_yes ⟨hd, h2, h3⟩, left_yes ⟨newDevOk hd.1.1 hd.1.2, h2, h3⟩, newDev_len, left_new _ _ (Nat.le_refl _)]
  have hr := leftTo_range hd.2
  exact Int.ediv_le_ediv (by omega) (by omega)
/-- a drawn device and a share -/
def DrawnDI (w : World) (e : Ending) (w' : World) : Prop :=
  ∃ (bs : List BlockV) (A : Option Addr) (c : Nat) (v : Int), e = .returned (.tuple #[.slice A bs.length c, .int .i64 v]) ∧ bs.length ≤ 13 ∧ bs.length ≤ c ∧ c ≤ 9223372036854775807 ∧ RdB w' w'.heap.size A bs.length bs ∧ Below w.heap.size w w'
set_option maxHeartbeats 8000000 in
theorem drawWritesLeft_c {A : Option Addr} {n c : Nat} {xs : List Int} {w : World} (hr : RdI .u8 w w.heap.size A n xs) (hx : ∀ x ∈ xs, 0 ≤ x ∧ x ≤ 255) (hnc : n ≤ c) (hcm : c ≤ 9223372036854775807) :
    Calls Try.prog 14 #[.slice A n c] w (DrawnDI w) := by
  go_enter Try.func14, Try.ntmps14
  go_wp2_with fail
  refine (open_c hr hx hnc hcm).mono ?_
  rintro e w1 ⟨rfl, h1, b1⟩
  have hg1 := h1.lt
  go_wp2_with fail
  refine (l20Device_c h1 (by omega) (by omega) (by omega)).mono ?_
  rintro e w1a ⟨bs, ⟨hx0, hy0, hz0⟩, A2, c2, rfl, h13, hc1, hc2, hall, h1a, g1a⟩
  simp only
  have b2a : Below w.heap.size w w1a := below_of_gb b1 g1a b1.size (Nat.le_refl _)
  have hs1a := b2a.size
  have hlga : w.heap.size < w1a.heap.size := h1a.lt.2
  clear hr hx hnc hcm h1 b1 g1a
  go_upto_region 3 with (fail)
  have h2 := h1a.alloc (.cells #[.int .i64 hx0, .int .i64 hy0, .int .i64 hz0] 39)
  have HR2 := Lib.hid h2
  have HALL := Lib.hid (show ∀ w'', ChgT [39, 108] (w1a.alloc (.cells #[.int .i64 hx0, .int .i64 hy0, .int .i64 hz0] 39)) w'' → RdB w'' w''.heap.size A2 bs.length bs from fun w'' hc => hall w'' ((ChgT.of_below ((Below.refl _ _).alloc (Nat.le_refl _) _)).trans hc))
  have b2 := b2a.alloc hs1a (.cells #[.int .i64 hx0, .int .i64 hy0, .int .i64 hz0] 39)
  have hs1 := b2.size
  have hlg := h2.lt
  clear hall h1a b2a
  generalize w1a.alloc (.cells #[.int .i64 hx0, .int .i64 hy0, .int .i64 hz0] 39) = w2 at *
  generalize hyl : bs.length = m at *
  have HY := Lib.hid hyl
  clear hyl
  have hlt2 := h2.lt
  obtain ⟨g0, A', n', c', q, zs, hq, hb, hr', hxs, hn'⟩ := h2
  have hu1 := pv_range zs q 256 (by omega) hxs
  have hu2 := pv_range zs (q + 1) 8 (by omega) hxs
  obtain ⟨u1, hu⟩ : ∃ u1, pv zs q 256 = u1 := ⟨_, rfl⟩
  have HU1 := Lib.hid hu
  rw [hu] at hu1; clear hu
  obtain ⟨u2, hu⟩ : ∃ u2, pv zs (q + 1) 8 = u2 := ⟨_, rfl⟩
  have HU2 := Lib.hid hu
  rw [hu] at hu2; clear hu
  obtain ⟨x', hx1', hx2', A1, A1'⟩ := tab_in [.int .i64 0, .int .i64 0, .int .i64 0, .int .i64 0, .int .i64 0, .int .i64 1, .int .i64 2, .int .i64 3] [0, 0, 0, 0, 0, 1, 2, 3] rfl 0 3 (by decide) hu2.1 (by simp; omega)
  obtain ⟨y', hy1', hy2', A2, A2'⟩ := tab_in [.int .i64 (100 + u1), .int .i64 10000, .int .i64 10001, .int .i64 99] [(100 + u1), 10000, 10001, 99] rfl (-1) 1000001 (by simp; omega) hx1' (by simp; omega)
  have hu3 : u2 < 8 := by omega
  have hu4 : 0 ≤ u2 := by omega
  have hu5 : 0 ≤ u1 := by omega
  have hu6 : u1 < 256 := by omega
  have hx3 : x' < 4 := by omega
  have hwr : IntKind.i64.wrap (100 + u1) = 100 + u1 := IntWalk.i64_in _ (by omega)
  go_region_with (first
    | (go_at_call_of 40 (Value.int IntKind.i64 256)
       refine (pick_x (q := q) (xs := zs) g0 (by repeat' (first | with_reducible exact hb | with_reducible apply Blk.drew | with_reducible apply Blk.alloc | with_reducible apply Blk.picked | with_reducible apply Blk.drewN)) (hr'.below (by repeat' first | with_reducible exact Below.refl _ _ | with_reducible apply below_drewN | with_reducible apply Below.drew | with_reducible refine Below.alloc ?_ (by first | omega | (simp; omega)) _ | with_reducible refine Below.setCell ?_ (by simp) _)) hxs hn' (by omega)).mono ?_
       rw [HU1.out]
       rintro e w4 ⟨rfl, nq1, rfl⟩)
    | (go_at_call_of 40 (Value.int IntKind.i64 8)
       refine (pick_x (q := q + 1) (xs := zs) g0 (by repeat' (first | with_reducible exact hb | with_reducible apply Blk.drew | with_reducible apply Blk.alloc | with_reducible apply Blk.picked | with_reducible apply Blk.drewN)) (hr'.below (by repeat' first | with_reducible exact Below.refl _ _ | with_reducible apply below_drewN | with_reducible apply Below.drew | with_reducible refine Below.alloc ?_ (by first | omega | (simp; omega)) _ | with_reducible refine Below.setCell ?_ (by simp) _)) hxs hn' (by omega)).mono ?_
       rw [HU2.out]
       rintro e w5 ⟨rfl, nq2, rfl⟩))
  all_goals
    go_wp2
    go_ret2
    obtain rfl := HY.out
    exact ⟨bs, _, _, y', rfl, h13, hc1, hc2, HALL.out _ ((gb_typ HR2.out (by repeat' first | with_reducible exact World.grownBy.refl _ _ | with_reducible apply gb_drewN | with_reducible apply gb_drew | with_reducible apply gb_alloc | with_reducible refine gb_setCell ?_ (.inl rfl) _)).wide (by simp)), b2.trans (by repeat' first | with_reducible exact Below.refl _ _ | with_reducible apply below_drewN | with_reducible apply Below.drew | with_reducible refine Below.alloc ?_ (by first | omega | (simp; omega)) _ | with_reducible refine Below.setCell ?_ (by simp) _)⟩
set_option maxRecDepth 8000 in
set_option maxHeartbeats 4000000 in
theorem fnWritesLeft_w (a0 : Option Addr) (len0 cap0 : Nat) (z0 : List Int) (w : World) (w0 : IsRow .u8 w a0 len0 cap0 z0) :
    Calls Try.prog 4 #[.slice a0 len0 cap0] w fun e w' => e = .returned (.bool true) ∧ Below w.heap.size w w' := by
  obtain ⟨q1, q2, q3, q4⟩ := bytes_ok w0
  by_cases hl : 1048576 < len0
  · go_enter Try.func4, Try.ntmps4
    go_wp2
    go_ret
    exact ⟨rfl, Below.refl _ _⟩
  go_enter Try.func4, Try.ntmps4
  go_wp2_with fail
  refine (drawWritesLeft_c q3 q4 q1 q2).mono ?_
  rintro e w1 ⟨bs, A, c, sh, rfl, h13, hc1, hc2, r1, b1⟩
  have B1 := Lib.hid b1
  have s1 := b1.size
  clear q3 q4 w0 b1
  go_wp2_with fail
  refine (writesLeft_impl r1 (Nat.le_refl _) (by omega)).mono ?_
  rintro e w2 ⟨rfl, b2⟩
  have r2 := (r1.below b2).mono b2.size
  have B2 := Lib.hid (B1.out.trans (b2.mono s1))
  have s2 := B2.out.size
  clear r1 b2 B1
  go_wp2_with fail
  refine (writesLeft_spec r2 (Nat.le_refl _) (by omega)).mono ?_
  rintro e w3 ⟨rfl, b3⟩
  have r3 := (r2.below b3).mono b3.size
  have B3 := Lib.hid (B2.out.trans (b3.mono s2))
  have s3 := B3.out.size
  clear r2 b3 B2
  by_cases hok : LeftOk bs sh
  · have HOK := Lib.hid hok
    have H1 := Lib.hid (left_of_new hok)
    have H2 := Lib.hid (fun h => left_step hok h)
    have hd := hok.1
    have hn0 : 0 ≤ writesLeft bs sh := by
      rw [left_yes hok]
      have hr := leftTo_range hok.1.2
      exact Int.ediv_nonneg (by omega) (by have := hok.2; omega)
    have hsh := hok.2
    have hn1 : 1 ≤ bs.length ∧ bs.length ≤ 12 := hd.1
    obtain ⟨n, hn⟩ : ∃ n, writesLeft bs sh = n := ⟨_, rfl⟩
    rw [hn] at hn0 H1 H2 ⊢
    clear hok hd hn
    have wsh : IntKind.i64.wrap (sh + 1) = sh + 1 := IntWalk.i64_in _ (by omega)
    by_cases h10 : sh = 10000
    · subst h10
      go_wp2_with fail
      refine (newDevice_impl bs.length _ hn1.1 hn1.2).mono ?_
      rintro e w4 ⟨A4, c4, rfl, o4, b4⟩
      have r4 := o4.rd
      rw [newDev_len] at r4 ⊢
      have B4 := Lib.hid (B3.out.trans (b4.mono s3))
      have s4 := B4.out.size
      clear o4 b4
      go_wp2_with fail
      refine (writesLeft_impl r4 (Nat.le_refl _) (by omega)).mono ?_
      rintro e w5 ⟨rfl, b5⟩
      have B5 := Lib.hid (B4.out.trans (b5.mono s4))
      have hle := H1.out
      obtain ⟨n2, hn2⟩ : ∃ n2, writesLeft (newDev bs.length) 10000 = n2 := ⟨_, rfl⟩
      rw [hn2] at hle ⊢
      clear hn2 r4 b5 r3
      go_wp2
      go_ret
      exact ⟨rfl, B5.out⟩
    · have hb : (sh == 10000) = false := by simpa using h10
      go_wp2_with fail
      refine (writesLeft_impl r3 (Nat.le_refl _) (by omega)).mono ?_
      rintro e w4 ⟨rfl, b4⟩
      have B4 := Lib.hid (B3.out.trans (b4.mono s3))
      have s4 := B4.out.size
      have hle2 := H2.out h10
      obtain ⟨n3, hn3⟩ : ∃ n3, writesLeft bs (sh + 1) = n3 := ⟨_, rfl⟩
      rw [hn3] at hle2 ⊢
      clear hn3 b4 r3
      go_wp2_with fail
      refine (newDevice_impl bs.length _ hn1.1 hn1.2).mono ?_
      rintro e w5 ⟨A4, c4, rfl, o4, b5⟩
      have r5 := o4.rd
      rw [newDev_len] at r5 ⊢
      have B5 := Lib.hid (B4.out.trans (b5.mono s4))
      have s5 := B5.out.size
      clear o4 b5
      go_wp2_with fail
      refine (writesLeft_impl r5 (Nat.le_refl _) (by omega)).mono ?_
      rintro e w6 ⟨rfl, b6⟩
      have B6 := Lib.hid (B5.out.trans (b6.mono s5))
      have hle := H1.out
      obtain ⟨n2, hn2⟩ : ∃ n2, writesLeft (newDev bs.length) sh = n2 := ⟨_, rfl⟩
      rw [hn2] at hle ⊢
      clear hn2 r5 b6
      go_wp2
      go_ret
      exact ⟨rfl, B6.out⟩
  · rw [left_no hok]
    clear hok
    go_wp2_with (go_at_call 15; refine (alive_c _).mono ?_; rintro e w9 ⟨rfl, rfl⟩)
    go_ret
    exact ⟨rfl, B3.out⟩
end Go.Proofs.Ytjnpgdhpneifjaa
