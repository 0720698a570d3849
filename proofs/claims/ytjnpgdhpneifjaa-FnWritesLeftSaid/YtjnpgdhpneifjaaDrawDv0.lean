/- What the drawn devices need: frames of owned devices, valid heads behind AppendPage, append of a block that is only read. No condition. -/
import Derived.Test.YtjnpgdhpneifjaaDrawBk
import Derived.Test.YtjnpgdhpneifjaaModelH
import Derived.Test.YtjnpgdhpneifjaaAppendS
namespace Go.Proofs.Ytjnpgdhpneifjaa
open Go.ChangeShapes Go.WideShapes Go.ChangeAt Go.RowKit
set_option linter.unusedVariables false
set_option linter.unusedSimpArgs false

theorem OwB.pick {w w' : World} {base g n c : Nat} {A : Option Addr} {bs : List BlockV} (h : OwB w base A n c bs) (hg : w.grownBy w' (some g)) (hgb : g < base) : OwB w' base A n c bs := by
  obtain ⟨hs, h⟩ := h
  exact ⟨hs, h.hl, h.nl, h.pre, own_pick h.main hg hgb, fun i hi => own_pick (h.row i hi) hg hgb, h.apart⟩
theorem gb_typ {w w' : World} {B g p : Nat} (h : Rdr w B g p) (hg : w.grownBy w' (some g)) : ChgT [108] w w' := by
  obtain ⟨_, A, n, c, q, xs, _, hb, _⟩ := h
  refine ⟨hg.os, hg.tape, hg.output, hg.size, fun i hi hne => hg.block i hi (fun e => ?_)⟩
  injection e with e
  subst e
  exact hne _ _ _ hb (by simp)
theorem OwB.setWear {w : World} {base g n c i : Nat} {bs : List BlockV} (h : OwB w base (some ⟨g, 0, none⟩) n c bs) (hi : i < n) (we : Int) :
    OwB (w.setCell ⟨g, i * 2, none⟩ (.int .i64 we)) base (some ⟨g, 0, none⟩) n c (bs.set i ⟨we, (bs.getD i noBlock).pages⟩) := by
  have hl := h.len
  obtain ⟨hs, h⟩ := h
  have := h.setPre (by decide) (i := i) (j := 0) hi (by omega) (.int .i64 we)
  refine ⟨hs, ?_⟩
  rw [List.map_set]
  rw [elB_getD bs i (by omega)] at this
  exact this
theorem OwB.all {w' : World} {base n c : Nat} {A : Option Addr} {bs : List BlockV} (h : OwB w' base A n c bs) : ∀ w'', ChgT [39, 108] w' w'' → RdB w'' w''.heap.size A n bs :=
  fun _ hc => (h.typed hc (by decide) (by decide)).rd
/-! ### heads -/
theorem preH_iff {n : Nat} {x y z : Int} : PreH n [x, y, z] 3 ↔ ((-1 ≤ x ∧ x ≤ (n : Int) - 1) ∧ (-1 ≤ y ∧ y ≤ (n : Int) - 1) ∧ (-1 ≤ z ∧ z ≤ (n : Int) - 1)) ∧ (0 ≤ y → x ≠ y) ∧ (0 ≤ z → x ≠ z) ∧ (0 ≤ z → y ≠ z) := by
  constructor
  · intro h
    refine ⟨⟨(h 0 (by omega)).1, (h 1 (by omega)).1, (h 2 (by omega)).1⟩, (h 1 (by omega)).2 0 (by omega), (h 2 (by omega)).2 0 (by omega), (h 2 (by omega)).2 1 (by omega)⟩
  · rintro ⟨⟨hx, hy, hz⟩, h1, h2, h3⟩ i hi
    have : i = 0 ∨ i = 1 ∨ i = 2 := by omega
    rcases this with rfl | rfl | rfl
    · exact ⟨hx, fun j hj => by omega⟩
    · refine ⟨hy, fun j hj => ?_⟩
      obtain rfl : j = 0 := by omega
      exact h1
    · refine ⟨hz, fun j hj => ?_⟩
      have : j = 0 ∨ j = 1 := by omega
      rcases this with rfl | rfl
      · exact h2
      · exact h3
theorem freshTo_not (bs : List BlockV) (h : HeadV) : ∀ k, 0 ≤ freshTo bs h k → h.has (freshTo bs h k) = false
  | 0, h0 => by unfold freshTo at h0; omega
  | k + 1, h0 => by
    unfold freshTo at h0 ⊢
    split at h0
    · next hc => rw [if_pos hc]; exact freshTo_not bs h k h0
    · next hc =>
      rw [if_neg hc]
      have hk : h.has (k : Int) = false := by
        cases e : h.has (k : Int) with
        | false => rfl
        | true => exact absurd (by rw [e]; rfl) hc
      split at h0
      · next hd => rw [if_pos hd]; exact hk
      · next hd => rw [if_neg hd]; exact freshTo_not bs h k h0
theorem has_not {h : HeadV} {k : Int} (e : h.has k = false) : k ≠ h.x ∧ k ≠ h.y ∧ k ≠ h.z := by
  unfold HeadV.has at e
  simp only [Bool.or_eq_false_iff, beq_eq_false_iff_ne] at e
  exact ⟨e.1.1, e.1.2, e.2⟩
theorem set_ok {n : Nat} {h : HeadV} {k : Int} {heat : Nat} (hp : PreH n [h.x, h.y, h.z] 3) (h0 : 0 ≤ k) (h1 : k < n) (hn : h.has k = false) : PreH n [(h.set heat k).x, (h.set heat k).y, (h.set heat k).z] 3 := by
  have hh := has_not hn
  rw [preH_iff] at hp ⊢
  unfold HeadV.set
  split
  · simp only; omega
  · split
    · simp only; omega
    · simp only; omega
theorem appendN_range {bs : List BlockV} {h : HeadV} {heat : Nat} (hok : HeadsOk bs h.x h.y h.z) (hh : heat ≤ 2) : -1 ≤ appendN bs h heat ∧ appendN bs h heat < bs.length := by
  unfold appendN
  have h1 := freshTo_range bs h bs.length
  have h2 := heads_range hok hh
  split
  · unfold freshF; omega
  · omega
theorem appendF_ok {bs : List BlockV} {h : HeadV} {heat : Nat} {p : PageV} (hok : HeadsOk bs h.x h.y h.z) (hh : heat ≤ 2) (hp : PageOk p) (hf : p.full = true) :
    HeadsOk (appendF bs h heat p).bs (appendF bs h heat p).h.x (appendF bs h heat p).h.y (appendF bs h heat p).h.z := by
  have hr := appendN_range hok hh
  by_cases hn : appendN bs h heat < 0
  · rw [appendF_none ⟨hp, hf⟩ hn]; exact hok
  · obtain ⟨n, e⟩ : ∃ n : Nat, appendN bs h heat = n := ⟨(appendN bs h heat).toNat, by omega⟩
    rw [appendF_at ⟨hp, hf⟩ e]
    refine ⟨progB_ok hok.1 (by omega) hp hf, ?_⟩
    simp only
    rw [progB_len]
    have key : (n : Int) = h.get heat ∨ ((n : Int) = freshF bs h) := by
      rw [← e]
      unfold appendN
      split
      · exact .inr rfl
      · exact .inl rfl
    rcases key with k | k
    · rw [k, head_set_get]; exact hok.2
    · have hnot := freshTo_not bs h bs.length (by unfold freshF at k; omega)
      rw [show freshTo bs h bs.length = (n : Int) from k.symm] at hnot
      exact set_ok hok.2 (by omega) (by omega) hnot
theorem appendF_len {bs : List BlockV} {h : HeadV} {heat : Nat} {p : PageV} (hp : PageOk p ∧ p.full = true) : (appendF bs h heat p).bs.length = bs.length := by
  unfold appendF
  rw [if_pos hp]
  split
  · rfl
  · exact progB_len _ _ _
/-! ### append of a block that is only read -/
theorem wpList_appBlkR {ops : Array Oper} {rest : List Oper} {o : Oper} {a : Act} {Q : Exit → Act → World → Prop} {w : World} {s x : Operand} {base : Nat} {A0 : Option Addr} {c0 n : Nat} {bs : List BlockV} {we : Int} {A' : Option Addr} {n' c' : Nat} {ps : List PageV} (hgd : o.guard = none)
    (ho : o.op = .call { callee := .builtin .append, args := #[s, x], argTypes := #[25, 25] })
    (hs : a.eval s = .slice A0 n c0) (hown : OwB w base A0 n c0 bs) (hr : ∀ w'', ChgT [67, 39, 108] w w'' → RdG w'' w''.heap.size A' n' ps) (hnc : n' ≤ c') (hcm : c' ≤ 9223372036854775807)
    (hx : a.eval x = .slice (some ⟨w.heap.size, 0, none⟩) 1 1) (hn : n ≤ 1000000000000) (hbase : base ≤ w.heap.size)
    (h : ∀ g c w', (∀ w'', ChgT [39, 108] w' w'' → RdB w'' w''.heap.size (some ⟨g, 0, none⟩) (n + 1) (bs ++ [⟨we, ps⟩])) → w.grownBy w' (Value.slice A0 n c0).ownBlock → ChgT [67] w w' → base ≤ g → n + 1 ≤ c → c ≤ 9223372036854775807 → wpList Try.prog ops Q rest (a.put o.dst (.slice (some ⟨g, 0, none⟩) (n + 1) c)) w') :
    wpList Try.prog ops Q (o :: rest) a (w.alloc (.cells #[.int .i64 we, .slice A' n' c'] 67)) := by
  obtain ⟨i0, hi, hz0, hz1, hz2⟩ := info_parts infoBlock
  have hbl := hown.len
  obtain ⟨hs', h2⟩ := hown
  refine wpList_app hgd s x 25 ho base 67 i0 _ 2 32 Try.underlying25 hi hz0 hz1 hz2 rfl (by decide) (.slice A0 n c0) n _ hs h2.main [.int .i64 we, .slice A' n' c'] hx rfl (by simp [Value.oneCell']) (by omega) (by omega) (by omega) ?_
  intro g c w' g1 g2 g3
  have hch := ChgT.grown h2.main (ts := [67]) (by simp) g2
  have hcap := own_cap g1
  refine h g c w' (fun w'' hc => ?_) g2 hch g3 hcap.1 hcap.2
  have hmain := own_typed g1 hc (by decide)
  have hlen : hs'.length = (bs.map elB).length := by rw [h2.hl, h2.nl]
  have eapp : flat2 (bs.map elB) hs' ++ [.int .i64 we, .slice A' n' c'] = flat2 (bs.map elB ++ [⟨[.int .i64 we], n', []⟩]) (hs' ++ [.slice A' n' c']) := by rw [flat2_append hlen]; rfl
  rw [eapp] at hmain
  obtain ⟨g', cap', e', hg1, hg2⟩ := hmain.form (by omega)
  injection e' with e1 _ _
  injection e1 with e1
  injection e1 with e1
  subst e1
  have hEl : (bs.map elB ++ [(⟨[.int .i64 we], n', []⟩ : El)]).length = n + 1 := by simp [hbl]
  have hHl : (hs' ++ [Value.slice A' n' c']).length = n + 1 := by simp [h2.hl]
  have hE : ∀ i, i < n → (bs.map elB ++ [(⟨[.int .i64 we], n', []⟩ : El)]).getD i nilEl = elB (bs.getD i noBlock) := fun i hi => by
    rw [← elB_getD bs i (by omega), List.getD_eq_getElem?_getD, List.getElem?_append_left (by simp; omega), ← List.getD_eq_getElem?_getD]
  have hE2 : (bs.map elB ++ [(⟨[.int .i64 we], n', []⟩ : El)]).getD n nilEl = ⟨[.int .i64 we], n', []⟩ := by
    rw [List.getD_eq_getElem?_getD, List.getElem?_append_right (by simp; omega)]; simp [hbl]
  have hH : ∀ i, i < n → (hs' ++ [Value.slice A' n' c']).getD i nilV = hs'.getD i nilV := fun i hi => by
    rw [List.getD_eq_getElem?_getD, List.getElem?_append_left (by rw [h2.hl]; omega), ← List.getD_eq_getElem?_getD]
  have hH2 : (hs' ++ [Value.slice A' n' c']).getD n nilV = .slice A' n' c' := by
    rw [List.getD_eq_getElem?_getD, List.getElem?_append_right (by rw [h2.hl]; omega)]; simp [h2.hl]
  have hq : ∀ j, j < (bs.map elB ++ [(⟨[.int .i64 we], n', []⟩ : El)]).length → ((bs.map elB ++ [(⟨[.int .i64 we], n', []⟩ : El)]).getD j nilEl).pre.length = 1 := fun j hj => by
    by_cases e : j < n
    · rw [hE j e]; rfl
    · obtain rfl : j = n := by omega
      rw [hE2]; rfl
  refine ⟨by simp [hbl], fun _ => ⟨g, 0, rfl, hg2, fun i hi => ?_⟩⟩
  have c0 := (hmain.cellAt (g := g) (cap := c) (i * 2 + 0) (by omega)).trans (flat2_pre (by rw [hHl, hEl]) hq (i := i) (j := 0) (by omega) (by omega))
  have c1 := (hmain.cellAt (g := g) (cap := c) (i * 2 + 1) (by omega)).trans (flat2_head (by rw [hHl, hEl]) hq (i := i) (by omega))
  by_cases e : i < n
  · rw [hE i e] at c0
    rw [hH i e] at c1
    obtain ⟨A2, c2, e2, hnc2, hcm2, _⟩ := h2.lits i e
    rw [elB_getD bs i (by omega)] at e2 hnc2
    have r := h2.row i e
    rw [elB_getD bs i (by omega), e2] at r
    rw [e2] at c1
    have r2 := own_typed (own_typed r hch (by decide)) hc (by decide)
    have eb : (bs ++ [(⟨we, ps⟩ : BlockV)]).getD i noBlock = bs.getD i noBlock := by
      rw [List.getD_eq_getElem?_getD, List.getElem?_append_left (by omega), ← List.getD_eq_getElem?_getD]
    rw [eb]
    exact ⟨A2, (bs.getD i noBlock).pages.length, c2, by rw [Nat.zero_add]; exact c0, by rw [Nat.zero_add]; exact c1, hnc2, by unfold maxLen at hcm2; omega, rdoG r2⟩
  · obtain rfl : i = n := by omega
    rw [hE2] at c0
    rw [hH2] at c1
    have eb : (bs ++ [(⟨we, ps⟩ : BlockV)]).getD i noBlock = ⟨we, ps⟩ := by
      rw [List.getD_eq_getElem?_getD, List.getElem?_append_right (by omega)]; simp [hbl]
    rw [eb]
    exact ⟨A', n', c', by rw [Nat.zero_add]; exact c0, by rw [Nat.zero_add]; exact c1, hnc, hcm, hr w'' ((hch.wide (by simp)).trans (hc.wide (by simp)))⟩
def DevPost (B g p : Nat) (w : World) (e : Ending) (w' : World) : Prop :=
  ∃ (bs : List BlockV) (h : HeadV) (A : Option Addr) (c : Nat), e = .returned (.tuple #[.slice A bs.length c, hdv h]) ∧ bs.length ≤ 13 ∧ bs.length ≤ c ∧ c ≤ 9223372036854775807 ∧ (∀ w'', ChgT [39, 108] w' w'' → RdB w'' w''.heap.size A bs.length bs) ∧ Rdr w' B g (p + 400) ∧ w.grownBy w' (some g)
theorem devPost_of {B g p n c : Nat} {w w' : World} {A : Option Addr} {bs : List BlockV} {h : HeadV} (hl : bs.length = n) (h13 : n ≤ 13) (h1 : n ≤ c) (h2 : c ≤ 9223372036854775807) (h3 : ∀ w'', ChgT [39, 108] w' w'' → RdB w'' w''.heap.size A n bs) (h4 : Rdr w' B g (p + 400)) (h5 : w.grownBy w' (some g)) : DevPost B g p w (.returned (.tuple #[.slice A n c, hdv h])) w' := by
  subst hl; exact ⟨bs, h, A, c, rfl, h13, h1, h2, h3, h4, h5⟩
end Go.Proofs.Ytjnpgdhpneifjaa
