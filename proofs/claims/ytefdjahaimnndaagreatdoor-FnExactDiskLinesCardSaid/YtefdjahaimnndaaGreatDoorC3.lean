/- Parts of the proof, one after the other. -/
import Derived.Test.YtefdjahaimnndaaGreatDoorC2
namespace Go.Proofs.YtefdjahaimnndaaGreatDoor
open Go.ChangeShapes Go.WideShapes Go.ChangeAt Go.RowKit Go.Deep
open Go.Lib (hid)
set_option linter.unusedVariables false
set_option linter.unusedSimpArgs false
def nextFrom (ps : List PageV) : Nat → Nat → Int
 | _, 0 => -1
 | k, m + 1 => if (ps.getD k noPage).full = true then nextFrom ps (k + 1) m else k
def nextP (ps : List PageV) : Int := nextFrom ps 0 ps.length
theorem nextFrom_at {ps : List PageV} : ∀ {m k j : Nat}, k ≤ j → j < k + m → (∀ i, k ≤ i → i < j → (ps.getD i noPage).full = true) → (ps.getD j noPage).full = false → nextFrom ps k m = j
 | 0, k, j, h1, h2, _, _ => by omega
 | m + 1, k, j, h1, h2, h3, h4 => by
  unfold nextFrom; by_cases e : k = j
  · subst e; rw [if_neg (by rw [h4]; simp)]
  · rw [if_pos (h3 k (Nat.le_refl _) (by omega))]; exact nextFrom_at (by omega) (by omega) (fun i hi hj => h3 i (by omega) hj) h4
theorem nextFrom_none {ps : List PageV} : ∀ {m k : Nat}, (∀ i, k ≤ i → i < k + m → (ps.getD i noPage).full = true) → nextFrom ps k m = -1
 | 0, k, _ => rfl
 | m + 1, k, h => by
  unfold nextFrom; rw [if_pos (h k (Nat.le_refl _) (by omega))]; exact nextFrom_none (fun i hi hj => h i (by omega) (by omega))
theorem nextFrom_or {ps : List PageV} : ∀ {m k : Nat}, (nextFrom ps k m = -1 ∧ ∀ i, k ≤ i → i < k + m → (ps.getD i noPage).full = true) ∨ ∃ j : Nat, nextFrom ps k m = j ∧ k ≤ j ∧ j < k + m ∧ (ps.getD j noPage).full = false ∧ ∀ i, k ≤ i → i < j → (ps.getD i noPage).full = true
 | 0, k => .inl ⟨rfl, fun i _ _ => by omega⟩
 | m + 1, k => by
  unfold nextFrom; by_cases h : (ps.getD k noPage).full = true
  · rw [if_pos h]; rcases nextFrom_or (ps := ps) (m := m) (k := k + 1) with ⟨h1, h2⟩ | ⟨j, h1, h2, h3, h4, h5⟩
    · refine .inl ⟨h1, fun i hi hj => ?_⟩; by_cases e : i = k
      · subst e; exact h
      · exact h2 i (by omega) (by omega)
    · refine .inr ⟨j, h1, by omega, by omega, h4, fun i hi hj => ?_⟩; by_cases e : i = k
      · subst e; exact h
      · exact h5 i (by omega) hj
  · rw [if_neg h]; exact .inr ⟨k, rfl, Nat.le_refl _, by omega, by simpa using h, fun i hi hj => by omega⟩
theorem nextP_at {ps : List PageV} {k : Nat} (hk : k < ps.length) (h : ∀ i, i < k → (ps.getD i noPage).full = true) (hf : (ps.getD k noPage).full = false) : nextP ps = k :=
 nextFrom_at (Nat.zero_le _) (by omega) (fun i _ hi => h i hi) hf
theorem nextP_none {ps : List PageV} (h : ∀ i, i < ps.length → (ps.getD i noPage).full = true) : nextP ps = -1 :=
 nextFrom_none (fun i _ hi => h i (by omega))
theorem nextP_or (ps : List PageV) : (nextP ps = -1 ∧ ∀ i, i < ps.length → (ps.getD i noPage).full = true) ∨ ∃ j : Nat, nextP ps = j ∧ j < ps.length ∧ (ps.getD j noPage).full = false ∧ ∀ i, i < j → (ps.getD i noPage).full = true := by
 unfold nextP; rcases nextFrom_or (ps := ps) (m := ps.length) (k := 0) with ⟨h1, h2⟩ | ⟨j, h1, h2, h3, h4, h5⟩
 · exact .inl ⟨h1, fun i hi => h2 i (Nat.zero_le _) (by omega)⟩
 · exact .inr ⟨j, h1, by omega, h4, fun i hi => h5 i (Nat.zero_le _) hi⟩
def writeF (b : BlockV) (p : PageV) : BlockV := if nextP b.pages < 0 then b else ⟨b.wear, b.pages.set (nextP b.pages).toNat p⟩
theorem writeF_wear (b : BlockV) (p : PageV) : (writeF b p).wear = b.wear := by unfold writeF; split <;> rfl
theorem getD_setP (ps : List PageV) (i j : Nat) (p : PageV) : (ps.set i p).getD j noPage = if i = j ∧ i < ps.length then p else ps.getD j noPage := by
 rw [List.getD_eq_getElem?_getD, List.getD_eq_getElem?_getD, List.getElem?_set]; by_cases h : i = j
 · subst h; by_cases h2 : i < ps.length
   · simp [h2]
   · simp [h2, List.getElem?_eq_none (Nat.le_of_not_lt h2)]
 · simp [h]
theorem writeF_ok {b : BlockV} {p : PageV} (hb : BlockOk b) (hp : PageOk p) (hf : p.full = true) : BlockOk (writeF b p) := by
 unfold writeF; split
 · exact hb
 · next hn =>
   rcases nextP_or b.pages with ⟨h1, _⟩ | ⟨j, h1, h2, h3, h4⟩
   · omega
   · rw [h1, Int.toNat_natCast]; obtain ⟨hw, hl, hpg⟩ := hb; refine ⟨hw, by simpa using hl, fun i hi => ?_⟩; simp only [getD_setP]; have hi' := hpg i hi; refine ⟨?_, fun h0 hfi => ?_⟩
     · split
       · exact hp
       · exact hi'.1
     · by_cases e : j = i - 1
       · rw [if_pos ⟨e, h2⟩]; exact hf
       · rw [if_neg (fun h => e h.1)]; by_cases e2 : j = i
         · exact h4 (i - 1) (by omega)
         · rw [if_neg (fun h => e2 h.1)] at hfi; exact hi'.2 h0 hfi
def progB (bs : List BlockV) (n : Nat) (p : PageV) : List BlockV := bs.set n (writeF (bs.getD n noBlock) p)
def progAt (bs : List BlockV) (n : Nat) : Int := if nextP (bs.getD n noBlock).pages < 0 then -1 else n * 4 + nextP (bs.getD n noBlock).pages
theorem progB_len (bs : List BlockV) (n : Nat) (p : PageV) : (progB bs n p).length = bs.length := by unfold progB; simp
theorem getD_setB (bs : List BlockV) (i j : Nat) (b : BlockV) : (bs.set i b).getD j noBlock = if i = j ∧ i < bs.length then b else bs.getD j noBlock := by
 rw [List.getD_eq_getElem?_getD, List.getD_eq_getElem?_getD, List.getElem?_set]; by_cases h : i = j
 · subst h; by_cases h2 : i < bs.length
   · simp [h2]
   · simp [h2, List.getElem?_eq_none (Nat.le_of_not_lt h2)]
 · simp [h]
theorem devOk_set {bs : List BlockV} {n : Nat} {b : BlockV} (h : DevOk bs) (hb : BlockOk b) : DevOk (bs.set n b) := by
 refine ⟨by simpa using h.1, fun i hi => ?_⟩; rw [getD_setB]; split
 · exact hb
 · exact h.2 i (by simpa using hi)
theorem progB_ok {bs : List BlockV} {n : Nat} {p : PageV} (h : DevOk bs) (hn : n < bs.length) (hp : PageOk p) (hf : p.full = true) : DevOk (progB bs n p) := devOk_set h (writeF_ok (h.2 n hn) hp hf)
def eraseF (b : BlockV) : BlockV := if b.wear = 100 then b else ⟨b.wear + 1, [noPage, noPage, noPage, noPage]⟩
theorem eraseF_ok {b : BlockV} (h : BlockOk b) : BlockOk (eraseF b) := by
 unfold eraseF; split
 · exact h
 · next hw =>
   obtain ⟨⟨h1, h2⟩, _⟩ := h; refine ⟨by simp only; omega, rfl, fun i hi => ?_⟩; have hg : ∀ j, j < 4 → ([noPage, noPage, noPage, noPage] : List PageV).getD j noPage = noPage := by
    intro j hj
    have : j = 0 ∨ j = 1 ∨ j = 2 ∨ j = 3 := by omega
    rcases this with rfl | rfl | rfl | rfl <;> rfl
   simp only
   rw [hg i hi]; exact ⟨by decide, fun _ h => by cases h⟩
def eraseB (bs : List BlockV) (n : Nat) : List BlockV := bs.set n (eraseF (bs.getD n noBlock))
theorem eraseB_len (bs : List BlockV) (n : Nat) : (eraseB bs n).length = bs.length := by unfold eraseB; simp
theorem eraseB_ok {bs : List BlockV} {n : Nat} (h : DevOk bs) (hn : n < bs.length) : DevOk (eraseB bs n) := devOk_set h (eraseF_ok (h.2 n hn))
theorem RdG.drew {w B A n xs} (h : RdG w B A n xs) : RdG w.drew B A n xs := ⟨h.len, h.at_⟩
theorem RdG.drewN {w B A n xs} (h : RdG w B A n xs) (m : Nat) : RdG (w.drewN m) B A n xs := ⟨h.len, h.at_⟩
theorem RdB.drew {w B A n xs} (h : RdB w B A n xs) : RdB w.drew B A n xs := h.below ((Below.refl B w).drew)
theorem RdB.drewN {w B A n xs} (h : RdB w B A n xs) (m : Nat) : RdB (w.drewN m) B A n xs := h.below (below_drewN (Below.refl B w) m)
theorem flatM_len {α : Type} (f : α → List Value) {k : Nat} (hk : ∀ x, (f x).length = k) (xs : List α) : (xs.flatMap f).length = xs.length * k := by
 induction xs with
 | nil => simp
 | cons x xs ih => rw [List.flatMap_cons, List.length_append, ih, hk, List.length_cons, Nat.add_mul]; omega
theorem flatM_get {α : Type} (f : α → List Value) {k : Nat} (hk : ∀ x, (f x).length = k) (d : α) (xs : List α) (i j : Nat) (hi : i < xs.length) (hj : j < k) : (xs.flatMap f)[i * k + j]? = (f (xs.getD i d))[j]? := by
 induction xs generalizing i with
 | nil => simp at hi
 | cons x xs ih =>
  rw [List.flatMap_cons]; cases i with
  | zero => rw [List.getElem?_append_left (by rw [hk]; omega)]; simp
  | succ i =>
   rw [List.getElem?_append_right (by rw [hk, Nat.add_mul]; omega), hk]; have e : (i + 1) * k + j - k = i * k + j := by rw [Nat.add_mul]; omega
   rw [e, ih i (by simpa using hi)]; simp
theorem flatM_set {α : Type} (f : α → List Value) {k : Nat} (hk : ∀ x, (f x).length = k) (d : α) (xs : List α) (i j : Nat) (hi : i < xs.length) (hj : j < k) (u : Value) (y : α) (hy : f y = (f (xs.getD i d)).set j u) : (xs.flatMap f).set (i * k + j) u = (xs.set i y).flatMap f := by
 induction xs generalizing i with
 | nil => simp at hi
 | cons x xs ih =>
  cases i with
  | zero =>
   rw [List.flatMap_cons, List.set_cons_zero, List.flatMap_cons, List.set_append_left _ _ (by rw [hk]; omega), hy]; simp
  | succ i =>
   have e : (i + 1) * k + j - k = i * k + j := by rw [Nat.add_mul]; omega
   rw [List.flatMap_cons, List.set_append_right _ _ (by rw [hk, Nat.add_mul]; omega), hk, e, ih i (by simpa using hi) (by simpa using hy), List.set_cons_succ, List.flatMap_cons]
def pgc (p : PageV) : List Value := [.bool p.full, .int .i64 p.file, .int .i64 p.place, .int .i64 p.value, .int .i64 p.stamp]
theorem pgc_len (p : PageV) : (pgc p).length = 5 := rfl
def flatG (ps : List PageV) : List Value := ps.flatMap pgc
theorem flatG_len (ps : List PageV) : (flatG ps).length = ps.length * 5 := flatM_len pgc pgc_len ps
theorem flatG_one_cell (ps : List PageV) : ∀ u ∈ flatG ps, u.oneCell' = true := by
 intro u hu
 simp only [flatG, List.mem_flatMap, pgc] at hu; obtain ⟨p, _, hp⟩ := hu; simp at hp; rcases hp with rfl | rfl | rfl | rfl | rfl <;> rfl
theorem own_pageCells {w : World} {base g n c : Nat} {ps : List PageV} (h : w.ownsRow base 88 5 (.slice (some ⟨g, 0, none⟩) n c) n (flatG ps)) (i : Nat) (hi : i < n) :
 w.cell? ⟨g, i * 5, none⟩ = some (.bool (ps.getD i noPage).full) ∧ w.cell? ⟨g, i * 5 + 1, none⟩ = some (.int .i64 (ps.getD i noPage).file) ∧ w.cell? ⟨g, i * 5 + 2, none⟩ = some (.int .i64 (ps.getD i noPage).place) ∧
 w.cell? ⟨g, i * 5 + 3, none⟩ = some (.int .i64 (ps.getD i noPage).value) ∧ w.cell? ⟨g, i * 5 + 4, none⟩ = some (.int .i64 (ps.getD i noPage).stamp) := by
 have hl : ps.length = n := by have := h.1; rw [flatG_len] at this; omega
 have key : ∀ j, j < 5 → w.cell? ⟨g, i * 5 + j, none⟩ = (pgc (ps.getD i noPage))[j]? := fun j hj => by
  rw [h.cellAt (g := g) (cap := c) (i * 5 + j) (by omega)]; exact flatM_get pgc pgc_len noPage ps i j (by omega) hj
 exact ⟨key 0 (by omega), key 1 (by omega), key 2 (by omega), key 3 (by omega), key 4 (by omega)⟩
theorem own_pagesLen {w : World} {base n : Nat} {v : Value} {ps : List PageV} (h : w.ownsRow base 88 5 v n (flatG ps)) : ps.length = n := by
 have := h.1; rw [flatG_len] at this; omega
theorem rdoG {w : World} {base n c : Nat} {A : Option Addr} {ps : List PageV} (h : w.ownsRow base 88 5 (.slice A n c) n (flatG ps)) : RdG w w.heap.size A n ps := by
 refine ⟨own_pagesLen h, fun hn => ?_⟩; obtain ⟨g, cap, e, hg1, hg2⟩ := h.form hn; injection e with e1 e2 e3; subst e1; refine ⟨g, 0, rfl, hg2, fun i hi => ?_⟩; have := own_pageCells h i hi; simpa using this
def putPage (w : World) (g i : Nat) (p : PageV) : World :=
 ((((w.setCell ⟨g, i * 5, none⟩ (.bool p.full)).setCell ⟨g, i * 5 + 1, none⟩ (.int .i64 p.file)).setCell ⟨g, i * 5 + 2, none⟩ (.int .i64 p.place)).setCell ⟨g, i * 5 + 3, none⟩ (.int .i64 p.value)).setCell ⟨g, i * 5 + 4, none⟩ (.int .i64 p.stamp)
theorem own_putPage {w : World} {base g n c : Nat} {ps : List PageV} (h : w.ownsRow base 88 5 (.slice (some ⟨g, 0, none⟩) n c) n (flatG ps)) (i : Nat) (hi : i < n) (p : PageV) :
 (putPage w g i p).ownsRow base 88 5 (.slice (some ⟨g, 0, none⟩) n c) n (flatG (ps.set i p)) ∧ w.grownBy (putPage w g i p) (some g) := by
 have hl := own_pagesLen h; obtain ⟨f, x, y, z, s⟩ := p; have s0 := h.stored (g := g) (cap := c) (i * 5 + 0) (.bool f); obtain ⟨P, hP⟩ : ∃ P, ps.getD i noPage = P := ⟨_, rfl⟩; have f0 := flatM_set pgc pgc_len noPage ps i 0 (by omega) (by omega) (.bool f) ⟨f, P.file, P.place, P.value, P.stamp⟩ (by rw [hP]; rfl); have g0 : ∀ Q : PageV, (ps.set i Q).getD i noPage = Q := fun Q => by rw [List.getD_eq_getElem?_getD, List.getElem?_set_self (by omega)]; rfl
 have l0 : ∀ Q : PageV, (ps.set i Q).length = n := fun Q => by simpa using hl
 have f1 := flatM_set pgc pgc_len noPage (ps.set i ⟨f, P.file, P.place, P.value, P.stamp⟩) i 1 (by rw [l0]; omega) (by omega) (.int .i64 x) ⟨f, x, P.place, P.value, P.stamp⟩ (by rw [g0]; rfl); have f2 := flatM_set pgc pgc_len noPage (ps.set i ⟨f, x, P.place, P.value, P.stamp⟩) i 2 (by rw [l0]; omega) (by omega) (.int .i64 y) ⟨f, x, y, P.value, P.stamp⟩ (by rw [g0]; rfl); have f3 := flatM_set pgc pgc_len noPage (ps.set i ⟨f, x, y, P.value, P.stamp⟩) i 3 (by rw [l0]; omega) (by omega) (.int .i64 z) ⟨f, x, y, z, P.stamp⟩ (by rw [g0]; rfl); have f4 := flatM_set pgc pgc_len noPage (ps.set i ⟨f, x, y, z, P.stamp⟩) i 4 (by rw [l0]; omega) (by omega) (.int .i64 s) ⟨f, x, y, z, s⟩ (by rw [g0]; rfl); rw [List.set_set] at f1 f2 f3 f4; obtain ⟨o0, q0⟩ := s0; rw [show (flatG ps).set (i * 5 + 0) (.bool f) = _ from f0] at o0; obtain ⟨o1, q1⟩ := o0.stored (g := g) (cap := c) (i * 5 + 1) (.int .i64 x); rw [f1] at o1; obtain ⟨o2, q2⟩ := o1.stored (g := g) (cap := c) (i * 5 + 2) (.int .i64 y); rw [f2] at o2; obtain ⟨o3, q3⟩ := o2.stored (g := g) (cap := c) (i * 5 + 3) (.int .i64 z); rw [f3] at o3; obtain ⟨o4, q4⟩ := o3.stored (g := g) (cap := c) (i * 5 + 4) (.int .i64 s); rw [f4] at o4; exact ⟨o4, gb_trans (gb_trans (gb_trans (gb_trans q0 q1) q2) q3) q4⟩
def elB (b : BlockV) : El := ⟨[.int .i64 b.wear], b.pages.length, flatG b.pages⟩
def OwB (w : World) (base : Nat) (A : Option Addr) (n c : Nat) (bs : List BlockV) : Prop := ∃ hs, Own2 w base 127 1 88 5 (.slice A n c) n (bs.map elB) hs
theorem elB_getD (bs : List BlockV) (i : Nat) (h : i < bs.length) : (bs.map elB).getD i nilEl = elB (bs.getD i noBlock) := by
 rw [List.getD_eq_getElem?_getD, List.getElem?_map, List.getElem?_eq_getElem h, List.getD_eq_getElem?_getD, List.getElem?_eq_getElem h]; rfl
theorem OwB.len {w base A n c bs} (h : OwB w base A n c bs) : bs.length = n := by obtain ⟨hs, h⟩ := h; have := h.nl; simpa using this
theorem OwB.below {w w' base A n c bs} (h : OwB w base A n c bs) (hb : Below w.heap.size w w') : OwB w' base A n c bs := by obtain ⟨hs, h⟩ := h; exact ⟨hs, h.below hb⟩
theorem OwB.lower {w base base' A n c bs} (h : OwB w base A n c bs) (hb : base' ≤ base) : OwB w base' A n c bs := by obtain ⟨hs, h⟩ := h; exact ⟨hs, h.lower hb⟩
theorem OwB.typed {ts : List Nat} {w w' base A n c bs} (h : OwB w base A n c bs) (hc : ChgT ts w w') (h1 : 127 ∉ ts) (h2 : 88 ∉ ts) : OwB w' base A n c bs := by obtain ⟨hs, h⟩ := h; exact ⟨hs, h.typed hc h1 h2⟩
theorem OwB.cap {w base A n c bs} (h : OwB w base A n c bs) : n ≤ c ∧ c ≤ 9223372036854775807 := by obtain ⟨hs, h⟩ := h; exact own_cap h.main
theorem OwB.nil (w : World) (base : Nat) : OwB w base none 0 0 [] := ⟨[], Own2.nil w base _ _ _ _⟩
theorem Own2.blockCells {w : World} {base g n c : Nat} {bs : List BlockV} {hs : List Value} (h : Own2 w base 127 1 88 5 (.slice (some ⟨g, 0, none⟩) n c) n (bs.map elB) hs) (i : Nat) (hi : i < n) :
 w.cell? ⟨g, i * 2, none⟩ = some (.int .i64 (bs.getD i noBlock).wear) ∧ w.cell? ⟨g, i * 2 + 1, none⟩ = some (hs.getD i nilV) ∧ w.ownsRow base 88 5 (hs.getD i nilV) (bs.getD i noBlock).pages.length (flatG (bs.getD i noBlock).pages) := by
 have hl : bs.length = n := by have := h.nl; simpa using this
 have hq : ∀ j, j < (bs.map elB).length → ((bs.map elB).getD j nilEl).pre.length = 1 := fun j hj => h.pre j (by rw [← h.nl]; exact hj)
 have hi' : i < (bs.map elB).length := by rw [h.nl]; exact hi
 have h0 := flat2_pre (es := bs.map elB) (hs := hs) (by rw [h.hl, h.nl]) hq (i := i) (j := 0) hi' (by omega); have h1 := flat2_head (es := bs.map elB) (hs := hs) (by rw [h.hl, h.nl]) hq (i := i) hi'; have c0 := (h.main.cellAt (g := g) (cap := c) (i * (1 + 1) + 0) (by omega)).trans h0; have c1 := (h.main.cellAt (g := g) (cap := c) (i * (1 + 1) + 1) (by omega)).trans h1; have r := h.row i hi; rw [elB_getD bs i (by omega)] at c0 r; exact ⟨c0, c1, r⟩
theorem OwB.rd {w base A n c bs} (h : OwB w base A n c bs) : RdB w w.heap.size A n bs := by
 have hl := h.len; obtain ⟨hs, h⟩ := h; refine ⟨hl, fun hn => ?_⟩; obtain ⟨g, cap, e, hg1, hg2⟩ := h.main.form hn; injection e with e1 e2 e3; subst e1; refine ⟨g, 0, rfl, hg2, fun i hi => ?_⟩; obtain ⟨c0, c1, r⟩ := h.blockCells i hi; obtain ⟨A', c', e', hnc, hcm, _⟩ := h.lits i hi; rw [elB_getD bs i (by omega)] at e' hnc; rw [e'] at c1 r; refine ⟨A', (bs.getD i noBlock).pages.length, c', by rw [Nat.zero_add]; exact c0, by rw [Nat.zero_add]; exact c1, hnc, by unfold maxLen at hcm; omega, ?_⟩; exact rdoG r
theorem infoPage : (Tryz.prog.info? 88).map (fun i => (i.zero, i.size, i.bytes)) = some (some (.agg #[.bool false, .int .i64 0, .int .i64 0, .int .i64 0, .int .i64 0]), 5, 40) := by kernel_rfl
theorem infoBlock : (Tryz.prog.info? 127).map (fun i => (i.zero, i.size, i.bytes)) = some (some (.agg #[.int .i64 0, .slice none 0 0]), 2, 32) := by kernel_rfl
theorem makePage (n : Nat) (hn : n ≤ 1048576) (W : World) : (Instr.makeSlice 125 (.int .i64 (n : Int)) (.int .i64 (n : Int))).run Tryz.prog W = .ok (.slice (some ⟨W.heap.size, 0, none⟩) n n) (W.alloc (.cells (madeCells #[.bool false, .int .i64 0, .int .i64 0, .int .i64 0, .int .i64 0] (n * 5)) 88)) := by
 obtain ⟨i0, hi, hz0, hz1, hz2⟩ := info_parts infoPage; have := run_make (P := Tryz.prog) W 125 88 i0 _ Tryz.underlying125 hi hz0 .i64 .i64 n n (by omega) (by omega) (by rw [hz2]; omega) (by omega); rw [this, hz1]; simp only [Int.toNat_natCast]; rfl
theorem makeBlock (n : Nat) (hn : n ≤ 1048576) (W : World) : (Instr.makeSlice 23 (.int .i64 (n : Int)) (.int .i64 (n : Int))).run Tryz.prog W = .ok (.slice (some ⟨W.heap.size, 0, none⟩) n n) (W.alloc (.cells (madeCells #[.int .i64 0, .slice none 0 0] (n * 2)) 127)) := by
 obtain ⟨i0, hi, hz0, hz1, hz2⟩ := info_parts infoBlock; have := run_make (P := Tryz.prog) W 23 127 i0 _ Tryz.underlying23 hi hz0 .i64 .i64 n n (by omega) (by omega) (by rw [hz2]; omega) (by omega); rw [this, hz1]; simp only [Int.toNat_natCast]; rfl
theorem madeCells_list (z : Array Value) {k : Nat} (hk : z.size = k) (hk0 : 0 < k) (n : Nat) : (madeCells z (n * k)).toList = (List.replicate n z.toList).flatten := by
 have hf : ∀ m, (madeCells z m).toList = (List.range m).map (fun i => z[i % z.size]!) := fun m => by simp [madeCells]
 rw [hf]; induction n with
 | zero => simp
 | succ n ih =>
  rw [Nat.succ_mul, List.range_add, List.map_append, ih, List.replicate_succ', List.flatten_append, List.map_map]; congr 1
  apply List.ext_getElem?
  intro i
  simp only [List.flatten_cons, List.flatten_nil, List.append_nil, List.getElem?_map]; rcases Nat.lt_or_ge i k with h | h
  · have hm : (n * k + i) % z.size = i := by rw [hk, Nat.mul_comm, Nat.mul_add_mod, Nat.mod_eq_of_lt h]
    rw [List.getElem?_range h, Array.getElem?_toList]; simp only [Option.map_some, Function.comp_apply, hm]; rw [getElem!_pos z i (by omega), Array.getElem?_eq_getElem (by omega)]
  · rw [List.getElem?_eq_none (by simpa using h), List.getElem?_eq_none (by simpa [hk] using h)]; rfl
def fillTo {α : Type} (d : α) (xs : List α) (k : Nat) : List α := xs.take k ++ List.replicate (xs.length - k) d
theorem fillTo_zero {α : Type} (d : α) (xs : List α) : fillTo d xs 0 = List.replicate xs.length d := by simp [fillTo]
theorem fillTo_all {α : Type} (d : α) (xs : List α) : fillTo d xs xs.length = xs := by simp [fillTo]
theorem fillTo_len {α : Type} (d : α) (xs : List α) {k : Nat} (h : k ≤ xs.length) : (fillTo d xs k).length = xs.length := by simp [fillTo]; omega
theorem fillTo_set {α : Type} (d : α) (xs : List α) {k : Nat} (h : k < xs.length) : (fillTo d xs k).set k (xs.getD k d) = fillTo d xs (k + 1) := by
 have hl : (xs.take k).length = k := by simp; omega
 unfold fillTo; rw [List.set_append_right _ _ (by omega), hl, Nat.sub_self]; obtain ⟨m, hm⟩ : ∃ m, xs.length - k = m + 1 := ⟨xs.length - k - 1, by omega⟩; have hm' : xs.length - (k + 1) = m := by omega
 rw [hm, hm', List.replicate_succ, List.set_cons_zero, List.take_succ_eq_append_getElem h, List.append_assoc, List.getD_eq_getElem?_getD, List.getElem?_eq_getElem h]; rfl
def repTo {α : Type} (m xs : List α) (j : Nat) : List α := m.take j ++ xs.drop j
theorem repTo_zero {α : Type} (m xs : List α) : repTo m xs 0 = xs := by simp [repTo]
theorem repTo_all {α : Type} {m xs : List α} (h : m.length = xs.length) : repTo m xs xs.length = m := by simp [repTo, ← h]
theorem repTo_len {α : Type} {m xs : List α} {j : Nat} (h : m.length = xs.length) (hj : j ≤ xs.length) : (repTo m xs j).length = xs.length := by simp [repTo]; omega
theorem repTo_get {α : Type} (d : α) {m xs : List α} {j i : Nat} (h : m.length = xs.length) (hj : j ≤ i) (hx : j ≤ xs.length) : (repTo m xs j).getD i d = xs.getD i d := by
 unfold repTo; rw [List.getD_eq_getElem?_getD, List.getElem?_append_right (by simp; omega), List.getElem?_drop, List.getD_eq_getElem?_getD]; simp only [List.length_take]; congr 2
 omega
theorem repTo_set {α : Type} (d : α) {m xs : List α} {j : Nat} (h : m.length = xs.length) (hj : j < xs.length) : (repTo m xs j).set j (m.getD j d) = repTo m xs (j + 1) := by
 have hl : (m.take j).length = j := by simp; omega
 unfold repTo; rw [List.set_append_right _ _ (by omega), hl, Nat.sub_self, List.drop_eq_getElem_cons hj, List.set_cons_zero, List.take_succ_eq_append_getElem (by omega), List.append_assoc, List.getD_eq_getElem?_getD, List.getElem?_eq_getElem (by omega)]; rfl
theorem set_getD_self {α : Type} (d : α) (l : List α) {k : Nat} (h : k < l.length) : l.set k (l.getD k d) = l := by
 rw [List.getD_eq_getElem?_getD, List.getElem?_eq_getElem h]; exact List.set_getElem_self h
theorem own_madePages (w : World) (base n : Nat) (ps : List PageV) (hn : ps.length = n) (hb : base ≤ w.heap.size) (hm : n ≤ 1048576) : (w.alloc (.cells (madeCells #[.bool false, .int .i64 0, .int .i64 0, .int .i64 0, .int .i64 0] (n * 5)) 88)).ownsRow base 88 5 (.slice (some ⟨w.heap.size, 0, none⟩) n n) n (flatG (fillTo noPage ps 0)) := by
 have h := World.ownsRow_lit (base := base) (e := 88) (size := 5) w (madeCells #[.bool false, .int .i64 0, .int .i64 0, .int .i64 0, .int .i64 0] (n * 5)) n hb (by unfold maxLen; omega) (by rw [size_madeCells]); rw [madeCells_list _ (k := 5) rfl (by omega)] at h; rw [fillTo_zero, hn]; have e : flatG (List.replicate n noPage) = (List.replicate n (#[Value.bool false, .int .i64 0, .int .i64 0, .int .i64 0, .int .i64 0] : Array Value).toList).flatten := by
  unfold flatG; rw [List.flatMap_def, List.map_replicate]; rfl
 rw [e]; exact h
theorem own_madeBlocks (w : World) (base n : Nat) (bs : List BlockV) (hn : bs.length = n) (hb : base ≤ w.heap.size) (hm : n ≤ 1048576) : OwB (w.alloc (.cells (madeCells #[.int .i64 0, .slice none 0 0] (n * 2)) 127)) base (some ⟨w.heap.size, 0, none⟩) n n (fillTo noBlock bs 0) := by
 rw [fillTo_zero, hn]; refine ⟨List.replicate n nilV, ?_⟩; rw [List.map_replicate]; exact Own2.made (zs := [.int .i64 0]) w _ rfl (by rw [madeCells_list _ (k := 2) rfl (by omega)]; rfl) hb (by unfold maxLen; omega)
theorem OwB.setBlock {w w1 : World} {base g n c : Nat} {A' : Option Addr} {n' c' : Nat} {bs : List BlockV} {we : Int} {ps : List PageV} (h : OwB w base (some ⟨g, 0, none⟩) n c bs) (hb : Below w.heap.size w w1) (hr : w1.ownsRow w.heap.size 88 5 (.slice A' n' c') n' (flatG ps)) (hbase : base ≤ w.heap.size) {i : Nat} (hi : i < n) :
 OwB ((w1.setCell ⟨g, i * 2, none⟩ (.int .i64 we)).setCell ⟨g, i * 2 + 1, none⟩ (.slice A' n' c')) base (some ⟨g, 0, none⟩) n c (bs.set i ⟨we, ps⟩) := by
 obtain ⟨hs, h⟩ := h; have hpl := own_pagesLen hr; have := h.setEl1 (u := .int .i64 we) (by decide) hb hr hbase hi; refine ⟨hs.set i (.slice A' n' c'), ?_⟩; rw [List.map_set]; have e : elB ⟨we, ps⟩ = ⟨[.int .i64 we], n', flatG ps⟩ := by unfold elB; rw [hpl]
 rw [e]; exact this
theorem OwB.form {w base A n c bs} (h : OwB w base A n c bs) (hn : 0 < n) : ∃ g, A = some ⟨g, 0, none⟩ ∧ base ≤ g ∧ g < w.heap.size := by
 obtain ⟨hs, h⟩ := h; obtain ⟨g, cap, e, hg1, hg2⟩ := h.main.form hn; injection e with e1 e2 e3; subst e1; exact ⟨g, rfl, hg1, hg2⟩
theorem OwB.cells {w base g n c bs} (h : OwB w base (some ⟨g, 0, none⟩) n c bs) (i : Nat) (hi : i < n) : ∃ A' n' c', w.cell? ⟨g, i * 2, none⟩ = some (.int .i64 (bs.getD i noBlock).wear) ∧ w.cell? ⟨g, i * 2 + 1, none⟩ = some (.slice A' n' c') ∧ w.frozen? ⟨g, i * 2, none⟩ = false ∧ w.frozen? ⟨g, i * 2 + 1, none⟩ = false ∧
 n' ≤ c' ∧ c' ≤ 9223372036854775807 ∧ n' = (bs.getD i noBlock).pages.length ∧ w.ownsRow base 88 5 (.slice A' n' c') n' (flatG (bs.getD i noBlock).pages) := by
 have hl := h.len; obtain ⟨hs, h⟩ := h; obtain ⟨c0, c1, r⟩ := h.blockCells i hi; obtain ⟨A', c', e', hnc, hcm, _⟩ := h.lits i hi; rw [elB_getD bs i (by omega)] at e' hnc; rw [e'] at c1 r; exact ⟨A', _, c', c0, c1, h.main.frozenAt (g := g) (cap := c) _, h.main.frozenAt (g := g) (cap := c) _, hnc, by unfold maxLen at hcm; omega, rfl, r⟩
theorem wpList_appBlock {ops : Array Oper} {rest : List Oper} {o : Oper} {a : Act} {Q : Exit → Act → World → Prop} {w w1 : World} {s x : Operand} {base : Nat} {A0 : Option Addr} {c0 n : Nat} {bs : List BlockV} {we : Int} {A' : Option Addr} {n' c' : Nat} {ps : List PageV} (hgd : o.guard = none)
 (ho : o.op = .call { callee := .builtin .append, args := #[s, x], argTypes := #[23, 23] })
 (hs : a.eval s = .slice A0 n c0) (hown : OwB w1 base A0 n c0 bs) (hb : Below w1.heap.size w1 w) (hr : w.ownsRow w1.heap.size 88 5 (.slice A' n' c') n' (flatG ps))
 (hx : a.eval x = .slice (some ⟨w.heap.size, 0, none⟩) 1 1) (hn : n ≤ 1000000000000) (hbase : base ≤ w1.heap.size)
 (h : ∀ g c w', OwB w' base (some ⟨g, 0, none⟩) (n + 1) c (bs ++ [⟨we, ps⟩]) → Below base w1 w' → ChgT [127] w w' → base ≤ g → wpList Tryz.prog ops Q rest (a.put o.dst (.slice (some ⟨g, 0, none⟩) (n + 1) c)) w') :
 wpList Tryz.prog ops Q (o :: rest) a (w.alloc (.cells #[.int .i64 we, .slice A' n' c'] 127)) := by
 obtain ⟨i0, hi, hz0, hz1, hz2⟩ := info_parts infoBlock; obtain ⟨hs', h2⟩ := hown; have h3 := h2.below hb; have hpl := own_pagesLen hr; have hsz := hb.size; refine wpList_app hgd s x 23 ho base 127 i0 _ 2 32 Tryz.underlying23 hi hz0 hz1 hz2 rfl (by decide) (.slice A0 n c0) n _ hs h3.main [.int .i64 we, .slice A' n' c'] hx rfl (by simp [Value.oneCell']) (by omega) (by omega) (by omega) ?_; intro g c w' g1 g2 g3
 have hA := h2.append (e := elB ⟨we, ps⟩) (h := .slice A' n' c') (by decide) hb (by unfold elB; simp only; rw [hpl]; exact hr) rfl hbase g1 g2; refine h g c w' ⟨_, by rw [List.map_append]; exact hA⟩ ?_ (ChgT.grown h3.main (by simp) g2) g3; exact (hb.mono hbase).grown g2 (by omega) (fun k hk => (own_lt h3.main hk).1)
def PreH (n : Nat) (xs : List Int) (k : Nat) : Prop := ∀ i, i < k → (-1 ≤ xs.getD i 0 ∧ xs.getD i 0 ≤ (n : Int) - 1) ∧ ∀ j, j < i → 0 ≤ xs.getD i 0 → xs.getD j 0 ≠ xs.getD i 0
theorem PreH.zero (n : Nat) (xs : List Int) : PreH n xs 0 := fun i h => absurd h (Nat.not_lt_zero _)
theorem PreH.succ {n : Nat} {xs : List Int} {k : Nat} (h : PreH n xs k) (h1 : -1 ≤ xs.getD k 0) (h2 : xs.getD k 0 ≤ (n : Int) - 1) (h3 : ∀ j, j < k → 0 ≤ xs.getD k 0 → xs.getD j 0 ≠ xs.getD k 0) : PreH n xs (k + 1) := by
 intro i hi
 by_cases e : i = k
 · subst e; exact ⟨⟨h1, h2⟩, h3⟩
 · exact h i (by omega)
def HeadsOk (bs : List BlockV) (x y z : Int) : Prop := DevOk bs ∧ PreH bs.length [x, y, z] 3
theorem get3_cell {w : World} {g t : Nat} {x y z : Int} (h : Blk w g t #[.int .i64 x, .int .i64 y, .int .i64 z]) {k : Nat} (hk : k < 3) : w.cell? ⟨g, k, none⟩ = some (.int .i64 ([x, y, z].getD k 0)) := by
 rw [h.cell k]; match k, hk with
 | 0, _ => rfl
 | 1, _ => rfl
 | 2, _ => rfl
theorem index3 (x y z : Int) : ∀ k : Nat, k < 3 → ∀ W : World, (Instr.index 128 (.agg #[.int .i64 x, .int .i64 y, .int .i64 z]) (.int .i64 (k : Int))).run Tryz.prog W = .ok (.int .i64 ([x, y, z].getD k 0)) W := by
 intro k hk W
 have h0 : (Instr.index 128 (.agg #[.int .i64 x, .int .i64 y, .int .i64 z]) (.int .i64 0)).run Tryz.prog W = .ok (.int .i64 x) W := by kernel_rfl
 have h1 : (Instr.index 128 (.agg #[.int .i64 x, .int .i64 y, .int .i64 z]) (.int .i64 1)).run Tryz.prog W = .ok (.int .i64 y) W := by kernel_rfl
 have h2 : (Instr.index 128 (.agg #[.int .i64 x, .int .i64 y, .int .i64 z]) (.int .i64 2)).run Tryz.prog W = .ok (.int .i64 z) W := by kernel_rfl
 match k, hk with
 | 0, _ => exact h0
 | 1, _ => exact h1
 | 2, _ => exact h2
theorem slice3 (g : Nat) : ∀ k : Nat, k < 3 → ∀ W : World, (Instr.sliceAt 128 (.pointer (some ⟨g, 0, none⟩)) none (some (.int .i64 (k : Int))) none).run Tryz.prog W = .ok (.slice (some ⟨g, 0, none⟩) k 3) W := by
 intro k hk W
 have h0 : (Instr.sliceAt 128 (.pointer (some ⟨g, 0, none⟩)) none (some (.int .i64 0)) none).run Tryz.prog W = .ok (.slice (some ⟨g, 0, none⟩) 0 3) W := by kernel_rfl
 have h1 : (Instr.sliceAt 128 (.pointer (some ⟨g, 0, none⟩)) none (some (.int .i64 1)) none).run Tryz.prog W = .ok (.slice (some ⟨g, 0, none⟩) 1 3) W := by kernel_rfl
 have h2 : (Instr.sliceAt 128 (.pointer (some ⟨g, 0, none⟩)) none (some (.int .i64 2)) none).run Tryz.prog W = .ok (.slice (some ⟨g, 0, none⟩) 2 3) W := by kernel_rfl
 match k, hk with
 | 0, _ => exact h0
 | 1, _ => exact h1
 | 2, _ => exact h2
set_option maxRecDepth 8000 in
theorem headsValid_impl {A : Option Addr} {n c B : Nat} {bs : List BlockV} {x y z : Int} {w : World} (hr : RdB w B A n bs) (hB : B ≤ w.heap.size) (hn : n ≤ 1048576) :
 Calls Tryz.prog 39 #[.slice A n c, .agg #[.int .i64 x, .int .i64 y, .int .i64 z]] w fun e w' => e = .returned (.bool (bof (HeadsOk bs x y z))) ∧ Below w.heap.size w w' := by
 have HL := hid hr.len; have b1 : Below w.heap.size w (w.alloc (.cells #[.int .i64 x, .int .i64 y, .int .i64 z] 28)) := (Below.refl _ _).alloc (Nat.le_refl _) _; have k1 := Blk.new w 28 #[.int .i64 x, .int .i64 y, .int .i64 z]; have l1 := k1.lt; have hr1 := (hr.mono hB).below b1; clear hr; go_enter Tryz.func39, Tryz.ntmps39
 go_wp2_with fail; generalize w.alloc (.cells #[.int .i64 x, .int .i64 y, .int .i64 z] 28) = w1 at *
 refine (deviceValid_impl hr1 b1.size hn).mono ?_; rintro e w2 ⟨rfl, b2⟩; have k2 := k1.below b2 l1; have B2 := hid (b1.trans (b2.mono b1.size)); clear b1 b2 k1 hr1; by_cases hok : DevOk bs
 · rw [bof_t.2 hok]; have HOK := hid hok; have t0 := k2.cell 0; have t1 := k2.cell 1; have t2 := k2.cell 2; simp at t0 t1 t2; clear hok; go_wp2; have hix := index3 x y z; have k3 := Blk.new w2 128 #[.int .i64 x, .int .i64 y, .int .i64 z]; have B3 := hid (B2.out.alloc B2.out.size (.cells #[.int .i64 x, .int .i64 y, .int .i64 z] 128)); have K3 := hid k3; have HIX := hid hix; clear k2 k3 t0 t1 t2 hix; generalize w2.alloc (.cells #[.int .i64 x, .int .i64 y, .int .i64 z] 128) = w3 at *; generalize w2.heap.size = g2 at *; generalize hxs : [x, y, z] = xs at *; have HXS := hid hxs; clear hxs; go_loop [21] (fun i => ∃ k : Nat, k ≤ 3 ∧ i = .int .i64 k ∧ PreH n xs k) (fun i => 3 - (intOf i).toNat)
   case atStart => exact ⟨0, Nat.zero_le _, rfl, PreH.zero _ _⟩
   case round =>
    obtain ⟨k, hk, rfl, hpre⟩ := hrel; have HP := hid hpre; clear hpre; by_cases hlt : k < 3
    · have hi := HIX.out k hlt; have hNO := hid (show (¬ PreH n xs (k + 1)) → ¬ HeadsOk bs x y z from fun h hh => h (fun i hi => by have := hh.2 i (by omega); rw [HL.out, HXS.out] at this; exact this)); obtain ⟨v, hv⟩ : ∃ v, xs.getD k 0 = v := ⟨_, rfl⟩; rw [hv] at hi; have HV := hid hv; clear hv; by_cases h1 : v < -1
      · have hno := hid (hNO.out (fun h => by have := (h k (by omega)).1.1; rw [HV.out] at this; omega)); go_wp2; go_ret; exact ⟨ret_bof_f hno.out, B3.out⟩
      · by_cases h2 : (n : Int) ≤ v
        · have hno := hid (hNO.out (fun h => by have := (h k (by omega)).1.2; rw [HV.out] at this; omega)); go_wp2; go_ret; exact ⟨ret_bof_f hno.out, B3.out⟩
        · have hlt3 : decide ((k : Int) < 3) = true := decide_eq_true (by omega); have hv1 : decide (v < -1) = false := decide_eq_false h1; have hv2 : decide ((n : Int) ≤ v) = false := decide_eq_false h2; have hsl := slice3 g2 k hlt; go_wp2; clear hi hsl; go_loop [36] (fun i => ∃ j : Nat, j ≤ k ∧ i = .int .i64 j ∧ ∀ q, q < j → 0 ≤ v → xs.getD q 0 ≠ v) (fun i => k - (intOf i).toNat)
          case atStart => exact ⟨0, Nat.zero_le _, rfl, fun q h => absurd h (Nat.not_lt_zero _)⟩
          case round =>
           obtain ⟨j, hj, rfl, hall⟩ := hrel; have HA := hid hall; clear hall; by_cases hjk : j < k
           · have cj := get3_cell K3.out (k := j) (by omega); rw [HXS.out] at cj; obtain ⟨u, hu⟩ : ∃ u, xs.getD j 0 = u := ⟨_, rfl⟩; rw [hu] at cj; have HU := hid hu; clear hu; by_cases hv0 : 0 ≤ v
             · by_cases hvu : v = u
               · subst hvu; have hno := hid (hNO.out (fun h => by have := (h k (by omega)).2 j hjk (by rw [HV.out]; exact hv0); rw [HV.out, HU.out] at this; exact this rfl)); go_wp2; go_ret; exact ⟨ret_bof_f hno.out, B3.out⟩
               · have hq : (v == u) = false := by simp [hvu]
                 have HN := hid (show ∀ q, q < j + 1 → 0 ≤ v → xs.getD q 0 ≠ v from fun q hq h0 => by
                  by_cases e : q = j
                  · subst e; rw [HU.out]; exact fun e => hvu e.symm
                  · exact HA.out q (by omega) h0)
                 clear hvu; go_wp2; go_round
                 case rel => exact ⟨j + 1, by omega, by go_num, HN.out⟩
                 case measure => simp [intOf]; omega
             · have HN := hid (show ∀ q, q < j + 1 → 0 ≤ v → xs.getD q 0 ≠ v from fun q hq h0 => absurd h0 hv0); go_wp2; go_round
               case rel => exact ⟨j + 1, by omega, by go_num, HN.out⟩
               case measure => simp [intOf]; omega
           · obtain rfl : j = k := by omega
             have HP2 := hid (HP.out.succ (by rw [HV.out]; omega) (by rw [HV.out]; omega) (fun q hq h0 => by rw [HV.out] at h0 ⊢; exact HA.out q hq h0)); go_wp2; go_round
             case rel => exact ⟨j + 1, by omega, by go_num, HP2.out⟩
             case measure => simp [intOf]; omega
    · obtain rfl : k = 3 := by omega
      have hyes := hid (show HeadsOk bs x y z from ⟨HOK.out, by rw [HL.out, HXS.out]; exact HP.out⟩); go_wp2; go_ret; exact ⟨ret_bof_t hyes.out, B3.out⟩
 · have hno := hid (show ¬ HeadsOk bs x y z from fun h => hok h.1); rw [bof_f.2 hok]; go_wp2; go_ret; exact ⟨ret_bof_f hno.out, B2.out⟩
set_option maxRecDepth 8000 in
theorem headsValid_spec {A : Option Addr} {n c B : Nat} {bs : List BlockV} {x y z : Int} {w : World} (hr : RdB w B A n bs) (hB : B ≤ w.heap.size) (hn : n ≤ 1048576) :
 Calls Tryz.prog 90 #[.slice A n c, .agg #[.int .i64 x, .int .i64 y, .int .i64 z]] w fun e w' => e = .returned (.bool (bof (HeadsOk bs x y z))) ∧ Below w.heap.size w w' := by
 have HL := hid hr.len; have b1 : Below w.heap.size w ((w.alloc (.cells #[.int .i64 x, .int .i64 y, .int .i64 z] 28)).alloc (.cells #[.int .i64 x, .int .i64 y, .int .i64 z] 3)) := ((Below.refl _ _).alloc (Nat.le_refl _) _).alloc (by simp) _; have k1 := Blk.new (w.alloc (.cells #[.int .i64 x, .int .i64 y, .int .i64 z] 28)) 3 #[.int .i64 x, .int .i64 y, .int .i64 z]; have e1 : (w.alloc (.cells #[.int .i64 x, .int .i64 y, .int .i64 z] 28)).heap.size = w.heap.size + 1 := by simp
 rw [e1] at k1; have HR1 := hid ((hr.mono hB).below b1); have B1 := hid b1; have K1 := hid k1; clear hr e1 k1 b1; go_enter Tryz.func90, Tryz.ntmps90
 go_wp2; generalize (w.alloc (.cells #[.int .i64 x, .int .i64 y, .int .i64 z] 28)).alloc (.cells #[.int .i64 x, .int .i64 y, .int .i64 z] 3) = w1 at *
 generalize hxs : [x, y, z] = xs at *; have HXS := hid hxs; clear hxs; go_loopw [6] (fun i wr => ∃ k : Nat, k ≤ 3 ∧ i = .int .i64 k ∧ PreH n xs k ∧ Below w1.heap.size w1 wr) (fun i _ => 3 - (intOf i).toNat)
 case atStart => exact ⟨0, Nat.zero_le _, rfl, PreH.zero _ _, Below.refl _ _⟩
 case round =>
  obtain ⟨k, hk, rfl, hpre, hbl⟩ := hrel; have HP := hid hpre; have HBL := hid hbl; have hsz := hbl.size; have KR := K1.out.below hbl K1.out.lt; have HKR := hid KR; clear hpre hbl KR; by_cases hlt : k < 3
  · have ck := get3_cell HKR.out hlt; rw [HXS.out] at ck; have hNO := hid (show (¬ PreH n xs (k + 1)) → ¬ HeadsOk bs x y z from fun h hh => h (fun i hi => by have := hh.2 i (by omega); rw [HL.out, HXS.out] at this; exact this)); obtain ⟨v, hv⟩ : ∃ v, xs.getD k 0 = v := ⟨_, rfl⟩; rw [hv] at ck; have HV := hid hv; clear hv; by_cases h1 : -1 ≤ v ∧ v ≤ (n : Int) - 1
    · have hin : inB v (-1) ((n : Int) - 1) = true := by rw [inB_t]; exact h1
      have hlt3 : decide ((k : Int) < 3) = true := decide_eq_true (by omega); obtain ⟨wo, rfl⟩ : ∃ wo : World, wo = wr := ⟨_, rfl⟩; go_wp2_with (go_at_call 53; refine (l1In_c _ _ _ _).mono ?_; rw [hin]; rintro e w' ⟨rfl, rfl⟩)
      go_loopw [7] (fun i ws => ∃ j : Nat, j ≤ k ∧ i = .int .i64 j ∧ (∀ q, q < j → 0 ≤ v → xs.getD q 0 ≠ v) ∧ ∃ m, ws = wo.drewN m) (fun i _ => k - (intOf i).toNat)
      case atStart => exact ⟨0, Nat.zero_le _, rfl, fun q h => absurd h (Nat.not_lt_zero _), 0, rfl⟩
      case round =>
       obtain ⟨j, hj, rfl, hall, m, rfl⟩ := hrel; have HA := hid hall; clear hall; by_cases hjk : j < k
       · have cj := get3_cell HKR.out (k := j) (by omega); rw [HXS.out] at cj; obtain ⟨u, hu⟩ : ∃ u, xs.getD j 0 = u := ⟨_, rfl⟩; rw [hu] at cj; have HU := hid hu; clear hu; by_cases hvu : u = v
         · subst hvu; by_cases hv0 : 0 ≤ u
           · have hno := hid (hNO.out (fun h => by have := (h k (by omega)).2 j hjk (by rw [HV.out]; exact hv0); rw [HV.out, HU.out] at this; exact this rfl)); go_wp2_with fail; go_quiet (fail)
             go_wp2; go_ret
             exact ⟨ret_bof_f hno.out, B1.out.trans ((below_drewN (below_drewN HBL.out _) _).mono B1.out.size)⟩
           · have HN := hid (show ∀ q, q < j + 1 → 0 ≤ u → xs.getD q 0 ≠ u from fun q hq h0 => absurd h0 hv0); have hd : decide (0 ≤ u) = false := decide_eq_false hv0; go_wp2_with fail; go_quiet (fail)
             go_wp2; go_roundw
             case rel => exact ⟨j + 1, by omega, by go_num, HN.out, m + nq, by first | rfl | rw [World.drewN_drewN]⟩
             case measure => simp [intOf]; omega
         · have hq : (u == v) = false := by simp [hvu]
           have HN := hid (show ∀ q, q < j + 1 → 0 ≤ v → xs.getD q 0 ≠ v from fun q hq h0 => by
            by_cases e : q = j
            · subst e; rw [HU.out]; exact hvu
            · exact HA.out q (by omega) h0)
           clear hvu; go_wp2_with fail; go_quiet (fail)
           go_wp2; go_roundw
           case rel => exact ⟨j + 1, by omega, by go_num, HN.out, m + nq, by first | rfl | rw [World.drewN_drewN]⟩
           case measure => simp [intOf]; omega
       · obtain rfl : j = k := by omega
         have HP2 := hid (HP.out.succ (by rw [HV.out]; omega) (by rw [HV.out]; omega) (fun q hq h0 => by rw [HV.out] at h0 ⊢; exact HA.out q hq h0)); go_wp2; go_roundw
         case rel => exact ⟨j + 1, by omega, by go_num, HP2.out, below_drewN HBL.out _⟩
         case measure => simp [intOf]; omega
    · have hin : inB v (-1) ((n : Int) - 1) = false := by rw [inB_f]; omega
      have hno := hid (hNO.out (fun h => h1 (by have := (h k (by omega)).1; rw [HV.out] at this; exact this))); go_wp2_with (go_at_call 53; refine (l1In_c _ _ _ _).mono ?_; rw [hin]; rintro e w' ⟨rfl, rfl⟩)
      go_ret; exact ⟨ret_bof_f hno.out, B1.out.trans (HBL.out.mono B1.out.size)⟩
  · obtain rfl : k = 3 := by omega
    have hr2 := (HR1.out.mono B1.out.size).below HBL.out; have HEQ := hid (show bof (DevOk bs) = bof (HeadsOk bs x y z) from by
     rw [Bool.eq_iff_iff, bof_t, bof_t]; exact ⟨fun h => ⟨h, by rw [HL.out, HXS.out]; exact HP.out⟩, fun h => h.1⟩)
    go_wp2_with fail; refine (deviceValid_spec hr2 hsz hn).mono ?_
    rintro e w2 ⟨rfl, b2⟩; have B2 := hid (B1.out.trans ((HBL.out.trans (b2.mono hsz)).mono B1.out.size)); rw [HEQ.out]; clear b2 hr2; go_wp2; go_ret; exact ⟨rfl, B2.out⟩
structure HeadV where
 x : Int
 y : Int
 z : Int
abbrev hdv (h : HeadV) : Value := .agg #[.int .i64 h.x, .int .i64 h.y, .int .i64 h.z]
def HeadV.get (h : HeadV) (heat : Nat) : Int := if heat = 0 then h.x else if heat = 1 then h.y else h.z
def HeadV.set (h : HeadV) (heat : Nat) (n : Int) : HeadV := if heat = 0 then ⟨n, h.y, h.z⟩ else if heat = 1 then ⟨h.x, n, h.z⟩ else ⟨h.x, h.y, n⟩
theorem l6Set_c (h : HeadV) (heat : Nat) (n : Int) (w : World) (hh : heat ≤ 2) :
 Calls Tryz.prog 110 #[hdv h, .int .i64 heat, .int .i64 n] w fun e w' => e = .returned (hdv (h.set heat n)) ∧ Below w.heap.size w w' := by
 obtain ⟨x, y, z⟩ := h; have hc : heat = 0 ∨ heat = 1 ∨ heat = 2 := by omega
 rcases hc with rfl | rfl | rfl
 all_goals
  go_enter Tryz.func110, Tryz.ntmps110
  go_wp2; go_returns
  exact ⟨rfl, ((Below.refl _ _).alloc (Nat.le_refl _) _).alloc (by simp) _⟩
theorem headOf_spec {A : Option Addr} {m c B : Nat} {bs : List BlockV} (h : HeadV) (heat : Nat) {w : World} (hr : RdB w B A m bs) (hB : B ≤ w.heap.size) (hm : m ≤ 1048576) (hok : HeadsOk bs h.x h.y h.z) (hh : heat ≤ 2) :
 Calls Tryz.prog 107 #[.slice A m c, hdv h, .int .i64 heat] w fun e w' => e = .returned (.int .i64 (h.get heat)) ∧ Below w.heap.size w w' := by
 obtain ⟨x, y, z⟩ := h; simp only at hok; have HBT := hid (bof_t.2 hok); have b1 : Below w.heap.size w (w.alloc (.cells #[.int .i64 x, .int .i64 y, .int .i64 z] 28)) := (Below.refl _ _).alloc (Nat.le_refl _) _; have k1 := Blk.new w 28 #[.int .i64 x, .int .i64 y, .int .i64 z]; have l1 := k1.lt; have r1 := (hr.mono hB).below b1; have B1 := hid b1; have HIN := hid (show inB (heat : Int) 0 2 = true from by rw [inB_t]; omega); clear hr b1 hok; go_enter Tryz.func107, Tryz.ntmps107
 go_upto_region 1 with (fail)
 generalize w.alloc (.cells #[.int .i64 x, .int .i64 y, .int .i64 z] 28) = w1 at *; have t0 := k1.cell 0; have t1 := k1.cell 1; have t2 := k1.cell 2; simp at t0 t1 t2; go_wp2_with fail; refine (headsValid_spec r1 B1.out.size hm).mono ?_; rw [HBT.out]; rintro e w2 ⟨rfl, b2⟩; have k2 := k1.below b2 l1; have B2 := hid (B1.out.trans (b2.mono B1.out.size)); have hs2 := B2.out.size; clear b2 k1 r1 t0 t1 t2; have t0 := k2.cell 0; have t1 := k2.cell 1; have t2 := k2.cell 2; simp at t0 t1 t2; have hc : heat = 0 ∨ heat = 1 ∨ heat = 2 := by omega
 have h0 : inB 0 0 2 = true := by rw [inB_t]; omega
 have h1 : inB 1 0 2 = true := by rw [inB_t]; omega
 have h2 : inB 2 0 2 = true := by rw [inB_t]; omega
 clear HIN; rcases hc with rfl | rfl | rfl
 all_goals
  go_wp2_with (go_at_call 53; refine (l1In_c _ _ _ _).mono ?_; (first | rw [h0] | rw [h1] | rw [h2] | (rw [show inB _ 0 2 = true from h0]) | (rw [show inB _ 0 2 = true from h1]) | (rw [show inB _ 0 2 = true from h2])); rintro e w' ⟨rfl, rfl⟩)
  go_ret; exact ⟨rfl, B2.out.alloc hs2 _⟩
def HeadV.has (h : HeadV) (k : Int) : Bool := k == h.x || k == h.y || k == h.z
def freshTo (bs : List BlockV) (h : HeadV) : Nat → Int
 | 0 => -1
 | k + 1 => if h.has k || !(nextP (bs.getD k noBlock).pages == 0) then freshTo bs h k else if freshTo bs h k < 0 ∨ (bs.getD k noBlock).wear < (bs.getD (freshTo bs h k).toNat noBlock).wear then k else freshTo bs h k
def freshF (bs : List BlockV) (h : HeadV) : Int := freshTo bs h bs.length
theorem freshTo_range (bs : List BlockV) (h : HeadV) : ∀ k, -1 ≤ freshTo bs h k ∧ freshTo bs h k < k
 | 0 => ⟨Int.le_refl _, by unfold freshTo; omega⟩
 | k + 1 => by
  have := freshTo_range bs h k; unfold freshTo; split
  · omega
  · split <;> omega
def appendN (bs : List BlockV) (h : HeadV) (heat : Nat) : Int := if h.get heat < 0 ∨ nextP (bs.getD (h.get heat).toNat noBlock).pages < 0 then freshF bs h else h.get heat
structure AppV where
 bs : List BlockV
 h : HeadV
 at_ : Int
open Classical in
noncomputable def appendF (bs : List BlockV) (h : HeadV) (heat : Nat) (p : PageV) : AppV :=
 if PageOk p ∧ p.full = true then
  if appendN bs h heat < 0 then ⟨bs, h, -1⟩
  else ⟨progB bs (appendN bs h heat).toNat p, h.set heat (appendN bs h heat), progAt bs (appendN bs h heat).toNat⟩
 else ⟨[], ⟨0, 0, 0⟩, -1⟩
set_option maxHeartbeats 2000000 in
theorem blockNext_spec {we : Int} {A : Option Addr} {n c B : Nat} {ps : List PageV} {w : World} (hr : RdG w B A n ps) (hB : B ≤ w.heap.size) (hnc : n ≤ c) (hcm : c ≤ 9223372036854775807) (hok : BlockOk ⟨we, ps⟩) :
 Calls Tryz.prog 108 #[.agg #[.int .i64 we, .slice A n c]] w fun e w' => e = .returned (.int .i64 (nextP ps)) ∧ Below w.heap.size w w' := by
 have HL := hid hr.len; have hbt := hid (bof_t.2 hok); have b1 : Below w.heap.size w (w.alloc (.cells #[.int .i64 we, .slice A n c] 127)) := (Below.refl _ _).alloc (Nat.le_refl _) _; have k1 := Blk.new w 127 #[.int .i64 we, .slice A n c]; have hr1 := (hr.mono hB).below b1; have l1 := k1.lt; have B1 := hid b1; clear hok hr b1; go_enter Tryz.func108, Tryz.ntmps108
 go_wp2_with fail; generalize w.alloc (.cells #[.int .i64 we, .slice A n c] 127) = w1 at *
 go_loopw [3] (fun i wr => ∃ k : Nat, k ≤ n ∧ i = .int .i64 k ∧ (∀ i, i < k → (ps.getD i noPage).full = true) ∧ Below w1.heap.size w1 wr) (fun i _ => n - (intOf i).toNat)
 case atStart => exact ⟨0, Nat.zero_le _, rfl, fun j h => absurd h (Nat.not_lt_zero _), Below.refl _ _⟩
 case round =>
  obtain ⟨k, hk, rfl, hall, hbl⟩ := hrel; have HA := hid hall; have HBL := hid hbl; have k2 := k1.below hbl l1; have l2 := k2.lt; have t0 := k2.cell 0; have t1 := k2.cell 1; simp at t0 t1; have hr2 := hr1.below (hbl.mono B1.out.size); have hs2 := hbl.size; have hs0 := B1.out.size; clear hall hbl; by_cases hlt : k < n
  · have hd : decide (k < n) = true := decide_eq_true hlt; go_wp2_with fail; refine (blockValid_spec hr2 (by omega) hnc hcm).mono ?_; rw [hbt.out]; rintro e w2 ⟨rfl, b2⟩; have HB2 := hid (HBL.out.trans (b2.mono hs2)); have k3 := k2.below b2 l2; have hr3 := hr2.below (b2.mono (by omega)); obtain ⟨b, off, rfl, hbB, hc⟩ := hr3.at_ (by omega); obtain ⟨c0, c1, c2, c3, c4⟩ := hc k hlt; clear hc hr2 hr3 b2 k2 t0 t1; have t0 := k3.cell 0; have t1 := k3.cell 1; simp at t0 t1; by_cases hf : (ps.getD k noPage).full = true
    · rw [hf] at c0; have HA2 := hid (show ∀ i, i < k + 1 → (ps.getD i noPage).full = true from fun i hi => by
       by_cases e : i = k
       · subst e; exact hf
       · exact HA.out i (by omega))
      clear hf c1 c2 c3 c4; go_wp2; go_roundw
      case rel => exact ⟨k + 1, by omega, by go_num, HA2.out, HB2.out⟩
      case measure => simp [intOf]; omega
    · have hf' : (ps.getD k noPage).full = false := by simpa using hf
      rw [hf'] at c0; have HE := hid (nextP_at (by rw [HL.out]; exact hlt) HA.out hf'); clear hf hf' c1 c2 c3 c4; go_wp2; go_ret; exact ⟨ret_int HE.out.symm, B1.out.trans (HB2.out.mono hs0)⟩
  · obtain rfl : k = n := by omega
    have HE := hid (nextP_none (ps := ps) (by rw [HL.out]; exact HA.out)); go_wp2; go_ret; exact ⟨ret_int HE.out.symm, B1.out.trans (HBL.out.mono hs0)⟩
def SmallB (bs : List BlockV) (n : Nat) (left : Int) : Prop := ∀ i, i < n → ((bs.getD i noBlock).pages.length : Int) ≤ left
def newPages : List PageV := [noPage, noPage, noPage, noPage]
theorem own_newPages (w : World) (base : Nat) (hb : base ≤ w.heap.size) : (w.alloc (.cells (madeCells #[.bool false, .int .i64 0, .int .i64 0, .int .i64 0, .int .i64 0] 20) 88)).ownsRow base 88 5 (.slice (some ⟨w.heap.size, 0, none⟩) 4 4) 4 (flatG newPages) := own_madePages w base 4 newPages rfl hb (by omega)
theorem makePage4 : ∀ W : World, (Instr.makeSlice 125 (.int .i64 4) (.int .i64 4)).run Tryz.prog W = .ok (.slice (some ⟨W.heap.size, 0, none⟩) 4 4) (W.alloc (.cells (madeCells #[.bool false, .int .i64 0, .int .i64 0, .int .i64 0, .int .i64 0] 20) 88)) := fun W => makePage 4 (by omega) W
def NewB (w0 : World) (we : Int) (e : Ending) (w' : World) : Prop :=
 ∃ A c, e = .returned (.agg #[.int .i64 we, .slice A 4 c]) ∧ w'.ownsRow w0.heap.size 88 5 (.slice A 4 c) 4 (flatG newPages) ∧ Below w0.heap.size w0 w'
theorem newBlock_impl (we : Int) (w : World) (h0 : 0 ≤ we) (h1 : we ≤ 100) : Calls Tryz.prog 198 #[.int .i64 we] w (NewB w we) := by
 have hmk := makePage4; have b1 : Below w.heap.size w (w.alloc (.cells #[.int .i64 we, .slice (some ⟨w.heap.size + 1, 0, none⟩) 4 4] 127)) := (Below.refl _ _).alloc (Nat.le_refl _) _; have OP := hid (own_newPages (w.alloc (.cells #[.int .i64 we, .slice (some ⟨w.heap.size + 1, 0, none⟩) 4 4] 127)) w.heap.size (by simp)); have e1 : (w.alloc (.cells #[.int .i64 we, .slice (some ⟨w.heap.size + 1, 0, none⟩) 4 4] 127)).heap.size = w.heap.size + 1 := by simp
 rw [e1] at OP; have K := hid ((Blk.new w 127 #[.int .i64 we, .slice (some ⟨w.heap.size + 1, 0, none⟩) 4 4]).alloc (.cells (madeCells #[.bool false, .int .i64 0, .int .i64 0, .int .i64 0, .int .i64 0] 20) 88)); have BS := hid (b1.alloc b1.size (.cells (madeCells #[.bool false, .int .i64 0, .int .i64 0, .int .i64 0, .int .i64 0] 20) 88)); clear b1 e1; go_enter Tryz.func198, Tryz.ntmps198
 go_wp2; generalize (w.alloc (.cells #[.int .i64 we, .slice (some ⟨w.heap.size + 1, 0, none⟩) 4 4] 127)).alloc (.cells (madeCells #[.bool false, .int .i64 0, .int .i64 0, .int .i64 0, .int .i64 0] 20) 88) = wz at *
 have p0 := K.out.cell 0; have p1 := K.out.cell 1; simp at p0 p1; refine bodyPost_ret (by simp [results, Tryz.results198, go_sem, p0, p1]; try rfl) rfl ?_; exact ⟨_, _, rfl, OP.out, BS.out⟩
theorem newBlock_spec (we : Int) (w : World) (h0 : 0 ≤ we) (h1 : we ≤ 100) : Calls Tryz.prog 174 #[.int .i64 we] w (NewB w we) := by
 have hmk := makePage4; have b1 : Below w.heap.size w (w.alloc (.cells #[.int .i64 we, .slice (some ⟨w.heap.size + 1, 0, none⟩) 4 4] 127)) := (Below.refl _ _).alloc (Nat.le_refl _) _; have OP := hid (own_newPages (w.alloc (.cells #[.int .i64 we, .slice (some ⟨w.heap.size + 1, 0, none⟩) 4 4] 127)) w.heap.size (by simp)); have e1 : (w.alloc (.cells #[.int .i64 we, .slice (some ⟨w.heap.size + 1, 0, none⟩) 4 4] 127)).heap.size = w.heap.size + 1 := by simp
 rw [e1] at OP; have K := hid ((Blk.new w 127 #[.int .i64 we, .slice (some ⟨w.heap.size + 1, 0, none⟩) 4 4]).alloc (.cells (madeCells #[.bool false, .int .i64 0, .int .i64 0, .int .i64 0, .int .i64 0] 20) 88)); have BS := hid (b1.alloc b1.size (.cells (madeCells #[.bool false, .int .i64 0, .int .i64 0, .int .i64 0, .int .i64 0] 20) 88)); clear b1 e1; have hin : inB we 0 100 = true := by rw [inB_t]; omega
 go_enter Tryz.func174, Tryz.ntmps174
 go_wp2_with (go_at_call 53; refine (l1In_c _ _ _ _).mono ?_; rw [hin]; rintro e w' ⟨rfl, rfl⟩)
 generalize (w.alloc (.cells #[.int .i64 we, .slice (some ⟨w.heap.size + 1, 0, none⟩) 4 4] 127)).alloc (.cells (madeCells #[.bool false, .int .i64 0, .int .i64 0, .int .i64 0, .int .i64 0] 20) 88) = wz at *; have p0 := K.out.cell 0; have p1 := K.out.cell 1; simp at p0 p1; refine bodyPost_ret (by simp [results, Tryz.results174, go_sem, p0, p1]; try rfl) rfl ?_; exact ⟨_, _, rfl, OP.out, BS.out⟩
def OwnB (w0 : World) (bs : List BlockV) (e : Ending) (w' : World) : Prop := ∃ A c, e = .returned (.slice A bs.length c) ∧ OwB w' w0.heap.size A bs.length c bs ∧ Below w0.heap.size w0 w'
theorem ownB_of {w0 w' : World} {bs : List BlockV} {A : Option Addr} {m c : Nat} (hm : bs.length = m) (h : OwB w' w0.heap.size A m c bs) (hb : Below w0.heap.size w0 w') : OwnB w0 bs (.returned (.slice A m c)) w' := by
 subst hm; exact ⟨A, c, rfl, h, hb⟩
end Go.Proofs.YtefdjahaimnndaaGreatDoor
