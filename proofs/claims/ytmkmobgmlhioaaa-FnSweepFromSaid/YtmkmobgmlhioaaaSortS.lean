/- Contract of the reference's SortAsks. Condition: at most 2^20 requests. Printed by gensorts.py. -/
import Derived.Test.YtmkmobgmlhioaaaSortLaw
import Derived.Deep.RegionHeld3
namespace Go.Proofs.Ytmkmobgmlhioaaa
open Go.ChangeShapes Go.WideShapes Go.ChangeAt Go.RowKit
set_option linter.unusedVariables false
set_option linter.unusedSimpArgs false

theorem own_new0 (W : World) (base g : Nat) (h : base ≤ g) (hg : W.heap.size = g) : (W.alloc (.cells #[] 32)).ownsRow base 32 2 (.slice (some ⟨g, 0, none⟩) 0 0) 0 (flatP []) := by
  subst hg; exact World.ownsRow_lit W #[] 0 h (by decide) rfl
theorem rd_blk1 {W : World} {g : Nat} {x1 x2 : Int} (h : Blk W g 32 #[.int .i64 x1, .int .i64 x2]) : RdP W W.heap.size (some ⟨g, 0, none⟩) 1 [(x1, x2)] :=
  ⟨rfl, fun _ => ⟨g, 0, rfl, h.lt, fun i hi => by
    obtain rfl : i = 0 := by omega
    exact ⟨h.cell 0, h.cell 1⟩⟩⟩
theorem RdP.take {w B A n xs} (h : RdP w B A n xs) {i : Nat} (hi : i ≤ n) : RdP w B A i (xs.take i) :=
  ⟨by have := h.len; simp; omega, fun hn => by
    obtain ⟨b, off, e, hb, hc⟩ := h.at_ (by omega)
    exact ⟨b, off, e, hb, fun j hj => by
      have := hc j (by omega)
      rw [List.getD_eq_getElem?_getD, List.getElem?_take_of_lt hj, ← List.getD_eq_getElem?_getD]; exact this⟩⟩
theorem RdP.drop {w B n b off} {xs : List (Int × Int)} (h : RdP w B (some ⟨b, off, none⟩) n xs) {i : Nat} (hi : i ≤ n) : RdP w B (some ⟨b, off + i * 2, none⟩) (n - i) (xs.drop i) :=
  ⟨by have := h.len; simp; omega, fun hn => by
    obtain ⟨b', off', e, hb, hc⟩ := h.at_ (by omega)
    injection e with e
    injection e with e1 e2
    subst e1; subst e2
    refine ⟨b, off + i * 2, rfl, hb, fun j hj => ?_⟩
    have := hc (i + j) (by omega)
    rw [List.getD_eq_getElem?_getD, List.getElem?_drop, ← List.getD_eq_getElem?_getD]
    have e1 : off + i * 2 + j * 2 = off + (i + j) * 2 := by omega
    rw [e1]; exact this⟩
theorem RdP.none {w B} {A : Option Addr} : RdP w B A 0 [] := ⟨rfl, fun h => absurd h (Nat.lt_irrefl _)⟩
/-- append of a whole list, at a step of a region that draws its order, with what has become of the world since w0 -/
theorem step_appB {ops : Array Oper} {o : Oper} {a : Act} {K : Act → World → Prop} {Q : Exit → Act → World → Prop} {E : Prop} {w0 w : World} {base B m c : Nat} {ad : Addr} {A0 : Option Addr} {c0 n : Nat} {xs ys : List (Int × Int)} (hgd : o.guard = none) (s x : Operand)
    (ho : o.op = .call { callee := .builtin .append, args := #[s, x], argTypes := #[25, 25] })
    (hs : a.eval s = .slice A0 n c0) (hx : a.eval x = .slice (some ad) m c) (hown : w.ownsRow base 32 2 (.slice A0 n c0) n (flatP xs)) (hb : Below base w0 w)
    (hr : RdP w B (some ad) m ys) (hn : n + m ≤ 1000000000000) (hbase : base ≤ w0.heap.size)
    (h : ∀ A' c' w', w'.ownsRow base 32 2 (.slice A' (n + m) c') (n + m) (flatP (xs ++ ys)) → w.grownBy w' (Value.slice A0 n c0).ownBlock → Below base w0 w' → K (a.put o.dst (.slice A' (n + m) c')) w') :
    if Region.wanted o (yielded ops a.tmps) = true then Oper.wp Try.prog o a w K Q else E :=
  step_appManyP hgd s x ho hs hown hx hr hn (Nat.le_trans hbase hb.size) fun A' c' w' h1 h2 => h A' c' w' h1 h2 (below_app hb hown (Nat.le_trans hbase hb.size) h2)
theorem keep_cell {B : Nat} {W0 W : World} {a : Addr} {v : Value} (hb : Below B W0 W) (h : W0.cell? a = some v) (ha : a.block < B) : W.cell? a = some v := (hb.cell ha).trans h
/-- onto an empty row -/
theorem step_appB0 {ops : Array Oper} {o : Oper} {a : Act} {K : Act → World → Prop} {Q : Exit → Act → World → Prop} {E : Prop} {w0 w : World} {base B m c : Nat} {ad : Addr} {A0 : Option Addr} {c0 : Nat} {ys : List (Int × Int)} (hgd : o.guard = none) (s x : Operand)
    (ho : o.op = .call { callee := .builtin .append, args := #[s, x], argTypes := #[25, 25] })
    (hs : a.eval s = .slice A0 0 c0) (hx : a.eval x = .slice (some ad) m c) (hown : w.ownsRow base 32 2 (.slice A0 0 c0) 0 (flatP [])) (hb : Below base w0 w)
    (hr : RdP w B (some ad) m ys) (hn : m ≤ 1000000000000) (hbase : base ≤ w0.heap.size)
    (h : ∀ A' c' w', w'.ownsRow base 32 2 (.slice A' m c') m (flatP ys) → w.grownBy w' (Value.slice A0 0 c0).ownBlock → Below base w0 w' → K (a.put o.dst (.slice A' m c')) w') :
    if Region.wanted o (yielded ops a.tmps) = true then Oper.wp Try.prog o a w K Q else E :=
  step_appB hgd s x ho hs hx hown hb hr (by omega) hbase fun A' c' w' h1 h2 h3 => by
    rw [Nat.zero_add] at h1 ⊢
    exact h A' c' w' h1 h2 h3
theorem RdP.drewN {w B A n xs} (h : RdP w B A n xs) (m : Nat) : RdP (w.drewN m) B A n xs := ⟨h.len, h.at_⟩
set_option maxRecDepth 100000 in
set_option maxHeartbeats 4000000 in
theorem sortAsks_spec {A : Option Addr} {n c B : Nat} {xs : List (Int × Int)} {w : World} (hp : RdP w B A n xs) (hB : B ≤ w.heap.size) (hn : n ≤ 1048576) :
    Calls Try.prog 22 #[.slice A n c] w (OwnAsk w (sortAsks xs)) := by
  have HXL := Lib.hid hp.len
  have o0 : (w.alloc (.cells #[] 32)).ownsRow w.heap.size 32 2 (.slice (some ⟨w.heap.size, 0, none⟩) 0 0) 0 (flatP []) := World.ownsRow_lit w #[] 0 (Nat.le_refl _) (by decide) rfl
  have b0 : Below w.heap.size w (w.alloc (.cells #[] 32)) := (Below.refl _ _).alloc (Nat.le_refl _) _
  rcases Bool.eq_false_or_eq_true (bof (AsksOk xs)) with hb | hb
  · have HS := Lib.hid (sortAsks_ok (bof_t.1 hb))
    have hn12 : n ≤ 12 := by have := (bof_t.1 hb).1; have := HXL.out; omega
    have HB := Lib.hid hb
    clear hb
    go_enter Try.func22, Try.ntmps22
    go_wp2_with fail
    go_loopw [3, 4] (fun v kk wr => ∃ (k g c : Nat), kk = .int .i64 k ∧ k ≤ n ∧ v = .slice (some ⟨g, 0, none⟩) k c ∧ wr.ownsRow w.heap.size 32 2 (.slice (some ⟨g, 0, none⟩) k c) k (flatP (sortP (xs.take k))) ∧ Below w.heap.size w wr) (fun _ kk _ => n - (intOf kk).toNat)
    case atStart => exact ⟨0, _, _, rfl, Nat.zero_le _, rfl, by rw [List.take_zero, show sortP [] = [] from by simp [sortP]]; exact o0, b0⟩
    case round =>
      obtain ⟨k, go, c5, rfl, hk, rfl, own, bel⟩ := hrel
      clear o0 b0
      have hsz := bel.size
      by_cases hlt : k < n
      · have hpw := (hp.mono hB).below bel
        have HZ := Lib.hid (show (sortP (xs.take k)).length = k from by rw [sortP_len]; simp; have := HXL.out; omega)
        have HTK := Lib.hid (take_succP (ps := xs) (k := k) (by have := HXL.out; omega))
        have HINS := fun (i : Nat) h1 h2 h3 => insert_sort (xs := xs.take k) (x := xs.getD k (0, 0)) (k := i) rfl h1 h2 h3
        have HINS := Lib.hid HINS
        have hcap := own_cap own
        obtain ⟨hcap1, hcap2⟩ := hcap
        obtain ⟨b, off, hA, hbB, hc⟩ := hpw.at_ (by omega)
        subst hA
        obtain ⟨c0, c1⟩ := hc k hlt
        generalize hx : xs.getD k (0, 0) = x at *
        obtain ⟨x1, x2⟩ := x
        simp only at c0 c1
        generalize hzs : sortP (xs.take k) = zs at *
        have HX := Lib.hid hx
        have HZS := Lib.hid hzs
        have HC := Lib.hid hc
        clear hx hzs hc
        go_wp2_with fail
        refine (asksValid_spec hpw (by omega)).mono ?_
        rw [HB.out]
        rintro e w' ⟨rfl, rfl⟩
        have HO := Lib.hid own
        go_wp2_with fail
        go_loopw [5] (fun v wq => ∃ (i m : Nat), v = .int .i64 i ∧ i ≤ k ∧ (∀ j, i ≤ j → j < k → ltP (x1, x2) (zs.getD j (0, 0)) = true) ∧ wq = wr.drewN m) (fun v _ => (intOf v).toNat)
        case atStart => exact ⟨k, 0, rfl, Nat.le_refl _, fun j h1 h2 => by omega, rfl⟩
        case round =>
          obtain ⟨i, m, rfl, hik, hgt, rfl⟩ := hrel
          have HG := Lib.hid hgt
          clear hgt
          have ownd : (wr.drewN m).ownsRow w.heap.size 32 2 (.slice (some ⟨go, 0, none⟩) k c5) k (flatP zs) := own
          go_upto_region 6 with fail
          go_cut [62] (fun t wx => ∃ (q : Bool) (m' : Nat), t = .bool q ∧ (q = true ↔ 0 < i ∧ ltP (x1, x2) (zs.getD (i - 1) (0, 0)) = true) ∧ wx = wr.drewN m')
          case first =>
            by_cases hi : 0 < i
            · have f := flatP_get zs (i - 1) (by have := HZ.out; omega)
              have d0 := (own.cellAt (g := go) (cap := c5) ((i - 1) * 2) (by omega)).trans f.1
              have d1 := (own.cellAt (g := go) (cap := c5) ((i - 1) * 2 + 1) (by omega)).trans f.2
              clear f
              generalize hy : zs.getD (i - 1) (0, 0) = y at *
              obtain ⟨y1, y2⟩ := y
              simp only at d0 d1
              have HLT := Lib.hid (ltP_iff (x1, x2) (y1, y2))
              clear hy
              have hw1 : IntKind.i64.wrap ((i : Int) - 1) = (i : Int) - 1 := IntWalk.i64_in _ (by omega)
              have hw3 : (0 : Int) ≤ (i : Int) - 1 := by omega
              have hw4 : ((i : Int) - 1).toNat = i - 1 := by omega
              have hw5 : (i : Int) - 1 < (k : Int) := by omega
              have hi1 : (1 : Int) ≤ (i : Int) := by omega
              by_cases h1 : x1 < y1
              · go_quiet (fail)
                go_wp2_with fail
                go_meet
                refine ⟨true, m + nq, rfl, ?_, by first | rfl | rw [World.drewN_drewN]⟩
                rw [HLT.out]; simp [hi, h1]
              · by_cases h2 : x1 = y1
                · subst h2
                  go_quiet (fail)
                  go_wp2_with fail
                  go_meet
                  refine ⟨decide (x2 < y2), m + nq, rfl, ?_, by first | rfl | rw [World.drewN_drewN]⟩
                  rw [HLT.out]; simp [hi]
                · have hq : (x1 == y1) = false := by simp [h2]
                  have H2 := Lib.hid h2
                  have H1 := Lib.hid h1
                  clear h2
                  go_quiet (fail)
                  go_wp2_with fail
                  go_meet
                  refine ⟨false, m + nq, rfl, ?_, by first | rfl | rw [World.drewN_drewN]⟩
                  rw [HLT.out]; simp [hi, H2.out, H1.out]
            · have hd : decide (0 < i) = false := by simp; omega
              go_quiet (fail)
              go_wp2_with fail
              go_meet
              exact ⟨false, m + nq, rfl, by simp [hi], by first | rfl | rw [World.drewN_drewN]⟩
          case rest =>
            obtain ⟨q, m', rfl, hq, rfl⟩ := hcut
            have HQ := Lib.hid hq
            clear hq
            cases q
            · have HSTOP := Lib.hid (show i = 0 ∨ ltP (x1, x2) (zs.getD (i - 1) (0, 0)) = false from by
                rcases Nat.eq_zero_or_pos i with h | h
                · exact .inl h
                · right
                  cases h2 : ltP (x1, x2) (zs.getD (i - 1) (0, 0))
                  · rfl
                  · exact absurd (HQ.out.2 ⟨h, h2⟩) (by simp))
              have ownz : (wr.drewN m').ownsRow w.heap.size 32 2 (.slice (some ⟨go, 0, none⟩) k c5) k (flatP zs) := own
              have belz := below_drewN bel m'
              have rzz := rdoAsk ownz
              have rzl := hpw.drewN m'
              have d0 : (wr.drewN m').cell? ⟨b, off + k * 2, none⟩ = some (.int .i64 x1) := c0
              have d1 : (wr.drewN m').cell? ⟨b, off + k * 2 + 1, none⟩ = some (.int .i64 x2) := c1
              clear hpw c0 c1
              generalize hwz : wr.drewN m' = wz at *
              have HWZ := Lib.hid hwz
              clear hwz
              have hz0 : (0 : Int) ≤ (i : Int) := by omega
              have hz1 : (i : Int) ≤ (k : Int) := by omega
              have hz2 : (i : Int) ≤ (c5 : Int) := by omega
              have hz3 : (0 : Int) ≤ (k : Int) := by omega
              have hz4 : (k : Int) < (n : Int) := by omega
              have hbz : b < wz.heap.size := by have := belz.size; omega
              have rz1 := rzz.take hik
              have rz2 := rzz.drop hik
              rw [Nat.zero_add] at rz2
              go_wp2_with fail
              by_cases hca : c5 = i
              · obtain rfl : i = k := by omega
                obtain rfl : i = c5 := hca.symm
                have hdr : zs.drop i = [] := List.drop_eq_nil_of_le (by rw [HZ.out]; exact Nat.le_refl _)
                go_region_held3 (fun w' => w'.cell? ⟨b, off + i * 2, none⟩ = some (.int .i64 x1) ∧ w'.cell? ⟨b, off + i * 2 + 1, none⟩ = some (.int .i64 x2))
                  (first
                    | go_keep
                    | (go_split_ands
                       refine ⟨?_, ?_⟩
                       · exact keep_cell (by assumption) d0 hbz
                       · exact keep_cell (by assumption) d1 hbz))
                  (first
                    | (refine step_appB0 (w0 := wz) (base := wz.heap.size) (ys := zs.take i) (by rfl) (.tmp 65) (.tmp 68) (by rfl) (by rfl) (by rfl)
                        (by first | exact own_new0 wz _ _ (Nat.le_refl _) rfl | exact (own_new0 wz _ _ (Nat.le_refl _) rfl).alloc _ | exact own_new0 (wz.alloc _) _ _ (Nat.le_succ _) (by simp))
                        (by first | exact ((Below.refl _ _).alloc (Nat.le_refl _) _).drew | exact (((Below.refl _ _).alloc (Nat.le_refl _) _).alloc (by simp) _).drew)
                        (rz1.below (by first | exact ((Below.refl _ _).alloc (Nat.le_refl _) _).drew | exact (((Below.refl _ _).alloc (Nat.le_refl _) _).alloc (by simp) _).drew)) (by omega) (Nat.le_refl _) ?_
                       intro A6 c6 w6 o6 g6 b6)
                    | (refine step_appB (w0 := wz) (base := wz.heap.size) (xs := zs.take i) (ys := [(x1, x2)]) (by rfl) (.tmp 69) (.tmp 74) (by rfl) (by rfl) (by rfl)
                        (by first | exact o6 | exact o6.alloc _)
                        (by first | exact b6 | exact b6.alloc b6.size _)
                        (by first | exact rd_blk1 (newAt w6 _ _ _ rfl) | exact rd_blk1 ((newAt (wz.alloc _) _ _ (wz.heap.size + 1) (by simp)).drew.grown g6 (by simp [Value.ownBlock])) | exact rd_blk1 (((newAt wz _ _ wz.heap.size rfl).alloc _).drew.grown g6 (by simp [Value.ownBlock]))) (by omega) (Nat.le_refl _) ?_
                       intro A7 c7 w7 o7 g7 b7)
                    | (refine step_appB (w0 := wz) (base := wz.heap.size) (xs := zs.take i ++ [(x1, x2)]) (ys := []) (by rfl) (.tmp 75) (.tmp 78) (by rfl) (by rfl) (by rfl) o7 b7 (RdP.none (B := 0)) (by omega) (Nat.le_refl _) ?_
                       intro A8 c8 w8 o8 g8 b8))
                all_goals
                  have HE := Lib.hid (HINS.out i (by rw [HZ.out]; exact hik) HSTOP.out (by rw [HZ.out]; exact HG.out))
                  go_wp2_with fail
                  go_roundw
                  case rel =>
                    obtain ⟨g8', hg8⟩ : ∃ g, A8 = some ⟨g, 0, none⟩ := by
                      obtain ⟨g, e, _⟩ := own_form2 o8 (by omega)
                      exact ⟨g, e⟩
                    subst hg8
                    have hlen : i + 1 + 0 = i + 1 := by omega
                    rw [hlen] at o8 ⊢
                    refine ⟨i + 1, g8', c8, by go_num, by omega, rfl, ?_, belz.trans (b8.mono belz.size)⟩
                    rw [HTK.out, ← HE.out, hdr]
                    exact ownsRow_base3 o8 belz.size
                  case measure => simp [intOf]; omega
              · go_region_held3 (fun w' => w'.cell? ⟨b, off + k * 2, none⟩ = some (.int .i64 x1) ∧ w'.cell? ⟨b, off + k * 2 + 1, none⟩ = some (.int .i64 x2))
                  (first
                    | go_keep
                    | (go_split_ands
                       refine ⟨?_, ?_⟩
                       · exact keep_cell (by assumption) d0 hbz
                       · exact keep_cell (by assumption) d1 hbz))
                  (first
                    | (refine step_appB0 (w0 := wz) (base := wz.heap.size) (ys := zs.take i) (by rfl) (.tmp 65) (.tmp 68) (by rfl) (by rfl) (by rfl)
                        (by first | exact own_new0 wz _ _ (Nat.le_refl _) rfl | exact (own_new0 wz _ _ (Nat.le_refl _) rfl).alloc _ | exact own_new0 (wz.alloc _) _ _ (Nat.le_succ _) (by simp))
                        (by first | exact ((Below.refl _ _).alloc (Nat.le_refl _) _).drew | exact (((Below.refl _ _).alloc (Nat.le_refl _) _).alloc (by simp) _).drew)
                        (rz1.below (by first | exact ((Below.refl _ _).alloc (Nat.le_refl _) _).drew | exact (((Below.refl _ _).alloc (Nat.le_refl _) _).alloc (by simp) _).drew)) (by omega) (Nat.le_refl _) ?_
                       intro A6 c6 w6 o6 g6 b6)
                    | (refine step_appB (w0 := wz) (base := wz.heap.size) (xs := zs.take i) (ys := [(x1, x2)]) (by rfl) (.tmp 69) (.tmp 74) (by rfl) (by rfl) (by rfl)
                        (by first | exact o6 | exact o6.alloc _)
                        (by first | exact b6 | exact b6.alloc b6.size _)
                        (by first | exact rd_blk1 (newAt w6 _ _ _ rfl) | exact rd_blk1 ((newAt (wz.alloc _) _ _ (wz.heap.size + 1) (by simp)).drew.grown g6 (by simp [Value.ownBlock])) | exact rd_blk1 (((newAt wz _ _ wz.heap.size rfl).alloc _).drew.grown g6 (by simp [Value.ownBlock]))) (by omega) (Nat.le_refl _) ?_
                       intro A7 c7 w7 o7 g7 b7)
                    | (refine step_appB (w0 := wz) (base := wz.heap.size) (xs := zs.take i ++ [(x1, x2)]) (ys := zs.drop i) (by rfl) (.tmp 75) (.tmp 78) (by rfl) (by rfl) (by rfl) o7 b7 (rz2.below b7) (by omega) (Nat.le_refl _) ?_
                       intro A8 c8 w8 o8 g8 b8))
                all_goals
                  have HE := Lib.hid (HINS.out i (by rw [HZ.out]; exact hik) HSTOP.out (by rw [HZ.out]; exact HG.out))
                  go_wp2_with fail
                  go_roundw
                  case rel =>
                    obtain ⟨g8', hg8⟩ : ∃ g, A8 = some ⟨g, 0, none⟩ := by
                      obtain ⟨g, e, _⟩ := own_form2 o8 (by omega)
                      exact ⟨g, e⟩
                    subst hg8
                    have hlen : i + 1 + (k - i) = k + 1 := by omega
                    rw [hlen] at o8 ⊢
                    refine ⟨k + 1, g8', c8, by go_num, by omega, rfl, ?_, belz.trans (b8.mono belz.size)⟩
                    rw [HTK.out, ← HE.out]
                    exact ownsRow_base3 o8 belz.size
                  case measure => simp [intOf]; omega
            · obtain ⟨hi, hl⟩ := HQ.out.1 rfl
              have HHL := Lib.hid hl
              clear hl
              go_wp2_with fail
              go_roundw
              case rel =>
                refine ⟨i - 1, m', by go_num, by omega, fun j h1' h2 => ?_, rfl⟩
                by_cases e : j = i - 1
                · subst e; exact HHL.out
                · exact HG.out j (by omega) h2
              case measure => simp [intOf]; omega
      · have hkn : k = n := by omega
        subst hkn
        go_wp2_with fail
        go_ret
        rw [HS.out]
        have e : xs.take k = xs := List.take_of_length_le (by rw [HXL.out]; exact Nat.le_refl _)
        rw [e] at own
        exact ownAsk_of (by rw [sortP_len, HXL.out]) own bel
  · have HS := Lib.hid (sortAsks_no (bof_f.1 hb))
    go_enter Try.func22, Try.ntmps22
    go_wp2_with fail
    go_loopw [3, 4] (fun v kk wr => kk = .int .i64 0 ∧ v = .slice (some ⟨w.heap.size, 0, none⟩) 0 0 ∧ wr = w.alloc (.cells #[] 32)) (fun _ _ _ => 0)
    case atStart => exact ⟨rfl, rfl, rfl⟩
    case round =>
      obtain ⟨rfl, rfl, rfl⟩ := hrel
      have hp0 := (hp.mono hB).below b0
      by_cases h0 : 0 < n
      · go_wp2_with fail
        refine (asksValid_spec hp0 (by omega)).mono ?_
        rw [hb]
        rintro e w' ⟨rfl, rfl⟩
        go_wp2_with fail
        go_ret
        rw [HS.out]
        exact ownAsk_of (ys := []) rfl o0 b0
      · have hn0 : n = 0 := by omega
        subst hn0
        go_wp2_with fail
        go_ret
        rw [HS.out]
        exact ownAsk_of (ys := []) rfl o0 b0
end Go.Proofs.Ytmkmobgmlhioaaa
