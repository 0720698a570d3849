/- Parts of the proof, one after the other. -/
import Derived.Test.YtefdjahaimnndaaGreatDoorC1
namespace Go.Proofs.YtefdjahaimnndaaGreatDoor
open Go.ChangeShapes Go.WideShapes Go.ChangeAt Go.RowKit Go.Deep
open Go.Lib (hid)
set_option linter.unusedVariables false
set_option linter.unusedSimpArgs false
structure ChgT (ts : List Nat) (w w' : World) : Prop where
 os : w'.os = w.os
 tape : w'.tape = w.tape
 output : w'.output = w.output
 size : w.heap.size ≤ w'.heap.size
 block : ∀ k, k < w.heap.size → (∀ cur e fz, w.heap[k]? = some (.cells cur e fz) → e ∉ ts) → w'.heap[k]? = w.heap[k]?
theorem ChgT.refl (ts : List Nat) (w : World) : ChgT ts w w := ⟨rfl, rfl, rfl, Nat.le_refl _, fun _ _ _ => rfl⟩
theorem ChgT.trans {ts a b c} (h : ChgT ts a b) (k : ChgT ts b c) : ChgT ts a c :=
 ⟨k.os.trans h.os, k.tape.trans h.tape, k.output.trans h.output, Nat.le_trans h.size k.size, fun i hi hne => by
  have e := h.block i hi hne; exact (k.block i (Nat.lt_of_lt_of_le hi h.size) (by rw [e]; exact hne)).trans e⟩
theorem ChgT.of_below {ts a b} (h : Below a.heap.size a b) : ChgT ts a b := ⟨h.os, h.tape, h.output, h.size, fun i hi _ => h.block i hi⟩
theorem ChgT.drew {ts a b} (h : ChgT ts a b) : ChgT ts a b.drew := ⟨h.os, h.tape, h.output, h.size, h.block⟩
theorem ChgT.drewN {ts a b} (h : ChgT ts a b) (n : Nat) : ChgT ts a (b.drewN n) := ⟨h.os, h.tape, h.output, h.size, h.block⟩
theorem ChgT.alloc {ts a b} (h : ChgT ts a b) (o : Obj) : ChgT ts a (b.alloc o) := h.trans (ChgT.of_below ((Below.refl _ _).alloc (Nat.le_refl _) o))
theorem ChgT.grown {ts : List Nat} {a b : World} {base e s n : Nat} {v : Value} {xs : List Value} (hown : a.ownsRow base e s v n xs) (he : e ∈ ts) (hg : a.grownBy b v.ownBlock) : ChgT ts a b :=
 ⟨hg.os, hg.tape, hg.output, hg.size, fun i hi hne => hg.block i hi (by
  intro hv
  rcases hown.2 with ⟨rfl, _⟩ | ⟨g, cap, cur, rfl, _, hh, _⟩
  · simp [Value.ownBlock] at hv
  · simp [Value.ownBlock] at hv
    subst hv; exact hne _ _ _ hh he)⟩
theorem ChgT.blk {w : World} {g t : Nat} {cs : Array Value} (h : Blk w g t cs) (i : Nat) (u : Value) : ChgT [t] w (w.setCell ⟨g, i, none⟩ u) :=
 ⟨rfl, rfl, rfl, by simp [World.setCell], fun k hk hne => Below.heap_setCell w ⟨g, i, none⟩ u k (by
  rintro rfl; exact hne _ _ _ h (by simp))⟩
theorem Blk.typed {ts : List Nat} {w w' : World} {g t : Nat} {cs : Array Value} (h : Blk w g t cs) (hc : ChgT ts w w') (ht : t ∉ ts) : Blk w' g t cs :=
 (hc.block g h.lt (fun cur e fz he hm => by
  rw [show w.heap[g]? = _ from h] at he; injection he with he; injection he with _ he; subst he; exact ht hm)).trans h
theorem own_typed {ts : List Nat} {w w' : World} {base e s n : Nat} {v : Value} {xs : List Value} (h : w.ownsRow base e s v n xs) (hc : ChgT ts w w') (he : e ∉ ts) : w'.ownsRow base e s v n xs := by
 refine ⟨h.1, ?_⟩; rcases h.2 with hn | ⟨g, cap, cur, rfl, hb, hgg, rest⟩
 · exact .inl hn
 · refine .inr ⟨g, cap, cur, rfl, hb, ?_, rest⟩; rw [hc.block g (Array.getElem?_eq_some_iff.1 hgg).1 (fun c' e' f' h' => by rw [hgg] at h'; injection h' with h'; injection h' with h1 h2; rw [← h2]; exact he)]; exact hgg
theorem own_kind {w : World} {base e s n : Nat} {v : Value} {xs : List Value} (h : w.ownsRow base e s v n xs) {g : Nat} (hg : v.ownBlock = some g) : ∃ cur, w.heap[g]? = some (.cells cur e (0, 0)) := by
 rcases h.2 with ⟨rfl, _⟩ | ⟨g', cap, cur, rfl, _, hh, _⟩
 · simp [Value.ownBlock] at hg
 · simp [Value.ownBlock] at hg; subst hg; exact ⟨cur, hh⟩
theorem own_ne {w : World} {base base' e e' s s' n n' : Nat} {v v' : Value} {xs xs' : List Value} (h : w.ownsRow base e s v n xs) (h' : w.ownsRow base' e' s' v' n' xs') (hne : e ≠ e') : ∀ k, v.ownBlock = some k → v'.ownBlock ≠ some k := by
 intro k hk hk'
 obtain ⟨c, h1⟩ := own_kind h hk; obtain ⟨c', h2⟩ := own_kind h' hk'; rw [h1] at h2; injection h2 with h2; injection h2 with _ h2; exact hne h2
theorem own_keptE {w w' : World} {base base' e e' s s' n n' : Nat} {v v' : Value} {xs xs' : List Value} (h : w.ownsRow base e s v n xs) (h' : w.ownsRow base' e' s' v' n' xs') (hne : e ≠ e') (hg : w.grownBy w' v'.ownBlock) : w'.ownsRow base e s v n xs :=
 own_other h hg (fun k hk hk' => own_ne h h' hne k hk hk')
theorem own_lt {w : World} {base e s n k : Nat} {v : Value} {xs : List Value} (h : w.ownsRow base e s v n xs) (hk : v.ownBlock = some k) : base ≤ k ∧ k < w.heap.size := h.lt k hk
theorem own_lower {w : World} {base base' e s n : Nat} {v : Value} {xs : List Value} (h : w.ownsRow base e s v n xs) (hb : base' ≤ base) : w.ownsRow base' e s v n xs := ⟨h.1, by rcases h.2 with h2 | ⟨g, cap, cur, h1, h2, h3⟩; exact .inl h2; exact .inr ⟨g, cap, cur, h1, Nat.le_trans hb h2, h3⟩⟩
theorem getD_setG {α : Type} (d : α) (xs : List α) (i : Nat) (x : α) (h : i < xs.length) : (xs.set i x).getD i d = x := by rw [List.getD_eq_getElem?_getD, List.getElem?_set_self h]; rfl
structure El where
 pre : List Value
 m : Nat
 cells : List Value
deriving Inhabited
def nilEl : El := ⟨[], 0, []⟩
abbrev nilV : Value := .slice none 0 0
def flat2 : List El → List Value → List Value
 | e :: es, h :: hs => e.pre ++ h :: flat2 es hs
 | _, _ => []
theorem flat2_append {es : List El} {hs : List Value} {e : El} {h : Value} (hl : hs.length = es.length) : flat2 (es ++ [e]) (hs ++ [h]) = flat2 es hs ++ (e.pre ++ [h]) := by
 induction es generalizing hs with
 | nil => cases hs with
  | nil => simp [flat2]
  | cons _ _ => simp at hl
 | cons x es ih => cases hs with
  | nil => simp at hl
  | cons y hs =>
   simp only [List.cons_append, flat2]; rw [ih (by simpa using hl)]; simp
theorem flat2_split {q : Nat} {es : List El} {hs : List Value} (hl : hs.length = es.length) (hq : ∀ i, i < es.length → (es.getD i nilEl).pre.length = q) {i : Nat} (hi : i < es.length) :
 flat2 es hs = flat2 (es.take i) (hs.take i) ++ ((es.getD i nilEl).pre ++ (hs.getD i nilV) :: flat2 (es.drop (i + 1)) (hs.drop (i + 1))) ∧ (flat2 (es.take i) (hs.take i)).length = i * (q + 1) := by
 induction es generalizing hs i with
 | nil => simp at hi
 | cons x es ih => cases hs with
  | nil => simp at hl
  | cons y hs =>
   have h0 : x.pre.length = q := by simpa using hq 0 (by simp)
   cases i with
   | zero => simp [flat2]
   | succ i =>
    obtain ⟨h1, h2⟩ := ih (hs := hs) (i := i) (by simpa using hl) (fun i hi => by simpa using hq (i + 1) (by simpa using hi)) (by simpa using hi); constructor
    · simp only [flat2, List.take_succ_cons, List.drop_succ_cons, List.getD_cons_succ, List.append_assoc, List.cons_append]; rw [← h1]
    · simp only [flat2, List.take_succ_cons, List.length_append, List.length_cons, h2, h0]; rw [Nat.add_mul]; omega
theorem flat2_pre {q : Nat} {es : List El} {hs : List Value} (hl : hs.length = es.length) (hq : ∀ i, i < es.length → (es.getD i nilEl).pre.length = q) {i j : Nat} (hi : i < es.length) (hj : j < q) :
 (flat2 es hs)[i * (q + 1) + j]? = (es.getD i nilEl).pre[j]? := by
 obtain ⟨h1, h2⟩ := flat2_split hl hq hi; have := hq i hi; rw [h1, List.getElem?_append_right (by omega), h2, Nat.add_sub_cancel_left, List.getElem?_append_left (by omega)]
theorem flat2_head {q : Nat} {es : List El} {hs : List Value} (hl : hs.length = es.length) (hq : ∀ i, i < es.length → (es.getD i nilEl).pre.length = q) {i : Nat} (hi : i < es.length) :
 (flat2 es hs)[i * (q + 1) + q]? = some (hs.getD i nilV) := by
 obtain ⟨h1, h2⟩ := flat2_split hl hq hi; have := hq i hi; rw [h1, List.getElem?_append_right (by omega), h2, Nat.add_sub_cancel_left, List.getElem?_append_right (by omega), this, Nat.sub_self]; rfl
theorem flat2_setHead {q : Nat} {es : List El} {hs : List Value} (hl : hs.length = es.length) (hq : ∀ i, i < es.length → (es.getD i nilEl).pre.length = q) {i : Nat} (hi : i < es.length) (h : Value) :
 (flat2 es hs).set (i * (q + 1) + q) h = flat2 es (hs.set i h) := by
 obtain ⟨h1, h2⟩ := flat2_split hl hq hi; obtain ⟨h3, h4⟩ := flat2_split (hs := hs.set i h) (by simpa using hl) hq hi; have := hq i hi; have e1 : (hs.set i h).take i = hs.take i := by rw [List.take_set_of_le (Nat.le_refl _)]
 have e2 : (hs.set i h).drop (i + 1) = hs.drop (i + 1) := by rw [List.drop_set_of_lt (by omega)]
 have e3 : (hs.set i h).getD i nilV = h := by rw [List.getD_eq_getElem?_getD, List.getElem?_set_self (by omega)]; rfl
 rw [h3, e1, e2, e3, h1, List.set_append_right _ _ (by omega), h2, Nat.add_sub_cancel_left, List.set_append_right _ _ (by omega), this, Nat.sub_self]; rfl
theorem flat2_setPre {q : Nat} {es : List El} {hs : List Value} (hl : hs.length = es.length) (hq : ∀ i, i < es.length → (es.getD i nilEl).pre.length = q) {i j : Nat} (hi : i < es.length) (hj : j < q) (u : Value) (m : Nat) (cs : List Value) :
 (flat2 es hs).set (i * (q + 1) + j) u = flat2 (es.set i ⟨(es.getD i nilEl).pre.set j u, m, cs⟩) hs := by
 have hq' : ∀ k, k < (es.set i ⟨(es.getD i nilEl).pre.set j u, m, cs⟩).length → ((es.set i ⟨(es.getD i nilEl).pre.set j u, m, cs⟩).getD k nilEl).pre.length = q := by
  intro k hk
  have hk' : k < es.length := by simpa using hk
  rw [List.getD_eq_getElem?_getD, List.getElem?_set]; by_cases e : i = k
  · subst e; simp [hi]; have := hq i hi; simpa [List.getD_eq_getElem?_getD, List.getElem?_eq_getElem hi] using this
  · rw [if_neg e, ← List.getD_eq_getElem?_getD]; exact hq k hk'
 obtain ⟨h1, h2⟩ := flat2_split hl hq hi; obtain ⟨h3, h4⟩ := flat2_split (es := es.set i ⟨(es.getD i nilEl).pre.set j u, m, cs⟩) (hs := hs) (by simpa using hl) hq' (i := i) (by simpa using hi); have := hq i hi; have e1 : (es.set i ⟨(es.getD i nilEl).pre.set j u, m, cs⟩).take i = es.take i := by rw [List.take_set_of_le (Nat.le_refl _)]
 have e2 : (es.set i ⟨(es.getD i nilEl).pre.set j u, m, cs⟩).drop (i + 1) = es.drop (i + 1) := by rw [List.drop_set_of_lt (by omega)]
 have e3 : (es.set i ⟨(es.getD i nilEl).pre.set j u, m, cs⟩).getD i nilEl = ⟨(es.getD i nilEl).pre.set j u, m, cs⟩ := by rw [List.getD_eq_getElem?_getD, List.getElem?_set_self (by omega)]; rfl
 rw [h3, e1, e2, e3, h1, List.set_append_right _ _ (by omega), h2, Nat.add_sub_cancel_left, List.set_append_left _ _ (by omega)]
theorem flat2_same {es es' : List El} {hs : List Value} (hl : es'.length = es.length) (hp : ∀ i, i < es.length → (es'.getD i nilEl).pre = (es.getD i nilEl).pre) : flat2 es' hs = flat2 es hs := by
 induction es generalizing es' hs with
 | nil => have : es' = [] := List.eq_nil_of_length_eq_zero hl; rw [this]
 | cons x es ih => cases es' with
  | nil => simp at hl
  | cons x' es' => cases hs with
   | nil => simp [flat2]
   | cons y hs =>
    have h0 : x'.pre = x.pre := by simpa using hp 0 (by simp)
    simp only [flat2, h0]; rw [ih (by simpa using hl) (fun i hi => by simpa using hp (i + 1) (by simpa using hi))]
structure Own2 (w : World) (base t1 q t2 s2 : Nat) (v : Value) (n : Nat) (es : List El) (hs : List Value) : Prop where
 hl : hs.length = n
 nl : es.length = n
 pre : ∀ i, i < n → (es.getD i nilEl).pre.length = q
 main : w.ownsRow base t1 (q + 1) v n (flat2 es hs)
 row : ∀ i, i < n → w.ownsRow base t2 s2 (hs.getD i nilV) (es.getD i nilEl).m (es.getD i nilEl).cells
 apart : ∀ i j, i < n → j < n → i ≠ j → ∀ k, (hs.getD i nilV).ownBlock = some k → (hs.getD j nilV).ownBlock ≠ some k
section
variable {w w' : World} {base t1 q t2 s2 n : Nat} {v : Value} {es : List El} {hs : List Value}
theorem Own2.below (h : Own2 w base t1 q t2 s2 v n es hs) (hb : Below w.heap.size w w') : Own2 w' base t1 q t2 s2 v n es hs :=
 ⟨h.hl, h.nl, h.pre, own_below h.main hb, fun i hi => own_below (h.row i hi) hb, h.apart⟩
theorem Own2.typed {ts : List Nat} (h : Own2 w base t1 q t2 s2 v n es hs) (hc : ChgT ts w w') (h1 : t1 ∉ ts) (h2 : t2 ∉ ts) : Own2 w' base t1 q t2 s2 v n es hs :=
 ⟨h.hl, h.nl, h.pre, own_typed h.main hc h1, fun i hi => own_typed (h.row i hi) hc h2, h.apart⟩
theorem Own2.lower {base' : Nat} (h : Own2 w base t1 q t2 s2 v n es hs) (hb : base' ≤ base) : Own2 w base' t1 q t2 s2 v n es hs :=
 ⟨h.hl, h.nl, h.pre, own_lower h.main hb, fun i hi => own_lower (h.row i hi) hb, h.apart⟩
theorem Own2.nil (w : World) (base t1 q t2 s2 : Nat) : Own2 w base t1 q t2 s2 (.slice none 0 0) 0 [] [] :=
 ⟨rfl, rfl, fun _ h => absurd h (Nat.not_lt_zero _), World.ownsRow_nil _ _ _ _, fun _ h => absurd h (Nat.not_lt_zero _), fun _ _ h => absurd h (Nat.not_lt_zero _)⟩
theorem Own2.lits (h : Own2 w base t1 q t2 s2 v n es hs) : ∀ i, i < n → ∃ A c, hs.getD i nilV = .slice A (es.getD i nilEl).m c ∧ (es.getD i nilEl).m ≤ c ∧ c ≤ maxLen ∧ (A = none → c = 0) := by
 intro i hi
 rcases (h.row i hi).2 with ⟨h1, h2⟩ | ⟨g, cap, cur, h1, hb, hh, hnc, hm, _⟩
 · exact ⟨none, 0, by rw [h1, h2], by omega, by decide, fun _ => rfl⟩
 · exact ⟨_, _, h1, hnc, hm, fun h => by cases h⟩
theorem Own2.append {w1 w2 : World} {v' h : Value} {e : El} (ho : Own2 w base t1 q t2 s2 v n es hs) (hne : t1 ≠ t2) (hb : Below w.heap.size w w1) (hr : w1.ownsRow w.heap.size t2 s2 h e.m e.cells) (hp : e.pre.length = q) (hbase : base ≤ w.heap.size)
 (hm : w2.ownsRow base t1 (q + 1) v' (n + 1) (flat2 es hs ++ (e.pre ++ [h]))) (hg : w1.grownBy w2 v.ownBlock) : Own2 w2 base t1 q t2 s2 v' (n + 1) (es ++ [e]) (hs ++ [h]) := by
 have o1 := ho.below hb; have gE : ∀ i, i < n → (es ++ [e]).getD i nilEl = es.getD i nilEl := fun i hi => by
  rw [List.getD_eq_getElem?_getD, List.getElem?_append_left (by rw [ho.nl]; exact hi), List.getD_eq_getElem?_getD]
 have gH : ∀ i, i < n → (hs ++ [h]).getD i nilV = hs.getD i nilV := fun i hi => by
  rw [List.getD_eq_getElem?_getD, List.getElem?_append_left (by rw [ho.hl]; exact hi), List.getD_eq_getElem?_getD]
 have lE : (es ++ [e]).getD n nilEl = e := by rw [List.getD_eq_getElem?_getD, List.getElem?_append_right (by rw [ho.nl]; exact Nat.le_refl _), ho.nl, Nat.sub_self]; rfl
 have lH : (hs ++ [h]).getD n nilV = h := by rw [List.getD_eq_getElem?_getD, List.getElem?_append_right (by rw [ho.hl]; exact Nat.le_refl _), ho.hl, Nat.sub_self]; rfl
 have far : ∀ i, i < n → ∀ k, (hs.getD i nilV).ownBlock = some k → h.ownBlock ≠ some k := fun i hi k hk hk' => by
  have a1 := (own_lt (ho.row i hi) hk).2; have a2 := (own_lt hr hk').1; omega
 refine ⟨by simp [ho.hl], by simp [ho.nl], fun i hi => ?_, by rw [flat2_append (by rw [ho.hl, ho.nl])]; exact hm, fun i hi => ?_, fun i j hi hj hij k hk => ?_⟩
 · by_cases ei : i = n
   · subst ei; rw [lE]; exact hp
   · rw [gE i (by omega)]; exact ho.pre i (by omega)
 · by_cases ei : i = n
   · subst ei; rw [lE, lH]; exact own_lower (own_keptE hr o1.main (fun x => hne x.symm) hg) hbase
   · rw [gE i (by omega), gH i (by omega)]; exact own_keptE (o1.row i (by omega)) o1.main (fun x => hne x.symm) hg
 · by_cases ei : i = n
   · subst ei; rw [lH] at hk; rw [gH j (by omega)]; intro hk'
     exact far j (by omega) k hk' hk
   · rw [gH i (by omega)] at hk; by_cases ej : j = n
     · subst ej; rw [lH]; exact far i (by omega) k hk
     · rw [gH j (by omega)]; exact ho.apart i j (by omega) (by omega) hij k hk
theorem Own2.lt (h : Own2 w base t1 q t2 s2 v n es hs) : ∀ i, i < n → ∀ k, (hs.getD i nilV).ownBlock = some k → k < w.heap.size := fun i hi k hk => (own_lt (h.row i hi) hk).2
theorem Own2.setRow {h : Value} {g c m B : Nat} {cs : List Value} (ho : Own2 w base t1 q t2 s2 (.slice (some ⟨g, 0, none⟩) n c) n es hs) (hne : t1 ≠ t2) (hB : ∀ i, i < n → ∀ k, (hs.getD i nilV).ownBlock = some k → k < B) (hr : w.ownsRow B t2 s2 h m cs) (hbase : base ≤ B) {i : Nat} (hi : i < n) :
 Own2 (w.setCell ⟨g, i * (q + 1) + q, none⟩ h) base t1 q t2 s2 (.slice (some ⟨g, 0, none⟩) n c) n (es.set i ⟨(es.getD i nilEl).pre, m, cs⟩) (hs.set i h) := by
 have hst := ho.main.stored (g := g) (cap := c) (i * (q + 1) + q) h; have hql : ∀ j, j < es.length → (es.getD j nilEl).pre.length = q := fun j hj => ho.pre j (by rw [← ho.nl]; exact hj)
 have hg : w.grownBy (w.setCell ⟨g, i * (q + 1) + q, none⟩ h) (Value.slice (some ⟨g, 0, none⟩) n c).ownBlock := hst.2; have gE : ∀ j, j < n → j ≠ i → (es.set i ⟨(es.getD i nilEl).pre, m, cs⟩).getD j nilEl = es.getD j nilEl := fun j hj hji => by
  rw [List.getD_eq_getElem?_getD, List.getElem?_set_ne (fun e => hji e.symm), List.getD_eq_getElem?_getD]
 have gH : ∀ j, j < n → j ≠ i → (hs.set i h).getD j nilV = hs.getD j nilV := fun j hj hji => by
  rw [List.getD_eq_getElem?_getD, List.getElem?_set_ne (fun e => hji e.symm), List.getD_eq_getElem?_getD]
 have lE : (es.set i ⟨(es.getD i nilEl).pre, m, cs⟩).getD i nilEl = ⟨(es.getD i nilEl).pre, m, cs⟩ := by rw [List.getD_eq_getElem?_getD, List.getElem?_set_self (by rw [ho.nl]; exact hi)]; rfl
 have lH : (hs.set i h).getD i nilV = h := by rw [List.getD_eq_getElem?_getD, List.getElem?_set_self (by rw [ho.hl]; exact hi)]; rfl
 have far : ∀ j, j < n → ∀ k, (hs.getD j nilV).ownBlock = some k → h.ownBlock ≠ some k := fun j hj k hk hk' => by
  have a1 := hB j hj k hk; have a2 := (own_lt hr hk').1; omega
 refine ⟨by simp [ho.hl], by simp [ho.nl], fun j hj => ?_, ?_, fun j hj => ?_, fun j j' hj hj' hjj k hk => ?_⟩
 · by_cases e : j = i
   · subst e; rw [lE]; exact ho.pre j hj
   · rw [gE j hj e]; exact ho.pre j hj
 · have := hst.1; rw [flat2_setHead (by rw [ho.hl, ho.nl]) hql (by rw [ho.nl]; exact hi)] at this; rw [flat2_same (es := es) (by simp) (fun j hj => by
    by_cases e : j = i
    · subst e; rw [lE]
    · rw [gE j (by rw [← ho.nl]; exact hj) e])]
   exact this
 · by_cases e : j = i
   · subst e; rw [lE, lH]; exact own_lower (own_keptE hr ho.main (fun x => hne x.symm) hg) hbase
   · rw [gE j hj e, gH j hj e]; exact own_keptE (ho.row j hj) ho.main (fun x => hne x.symm) hg
 · by_cases e : j = i
   · subst e; rw [lH] at hk; rw [gH j' hj' (fun e => hjj e.symm)]; intro hk'
     exact far j' hj' k hk' hk
   · rw [gH j hj e] at hk; by_cases e' : j' = i
     · subst e'; rw [lH]; exact far j hj k hk
     · rw [gH j' hj' e']; exact ho.apart j j' hj hj' hjj k hk
theorem Own2.setPre {g c : Nat} (ho : Own2 w base t1 q t2 s2 (.slice (some ⟨g, 0, none⟩) n c) n es hs) (hne : t1 ≠ t2) {i j : Nat} (hi : i < n) (hj : j < q) (u : Value) :
 Own2 (w.setCell ⟨g, i * (q + 1) + j, none⟩ u) base t1 q t2 s2 (.slice (some ⟨g, 0, none⟩) n c) n (es.set i ⟨(es.getD i nilEl).pre.set j u, (es.getD i nilEl).m, (es.getD i nilEl).cells⟩) hs := by
 have hst := ho.main.stored (g := g) (cap := c) (i * (q + 1) + j) u; have hql : ∀ j, j < es.length → (es.getD j nilEl).pre.length = q := fun j hj => ho.pre j (by rw [← ho.nl]; exact hj)
 have hg : w.grownBy (w.setCell ⟨g, i * (q + 1) + j, none⟩ u) (Value.slice (some ⟨g, 0, none⟩) n c).ownBlock := hst.2; have gE : ∀ x : El, ∀ k, k < n → k ≠ i → (es.set i x).getD k nilEl = es.getD k nilEl := fun x k hk hki => by
  rw [List.getD_eq_getElem?_getD, List.getElem?_set_ne (fun e => hki e.symm), List.getD_eq_getElem?_getD]
 have lE : ∀ x : El, (es.set i x).getD i nilEl = x := fun x => by rw [List.getD_eq_getElem?_getD, List.getElem?_set_self (by rw [ho.nl]; exact hi)]; rfl
 refine ⟨ho.hl, by simp [ho.nl], fun k hk => ?_, ?_, fun k hk => ?_, ho.apart⟩
 · by_cases e : k = i
   · subst e; rw [lE]; simpa using ho.pre k hk
   · rw [gE _ k hk e]; exact ho.pre k hk
 · have := hst.1; rw [flat2_setPre (by rw [ho.hl, ho.nl]) hql (by rw [ho.nl]; exact hi) hj u (es.getD i nilEl).m (es.getD i nilEl).cells] at this; exact this
 · by_cases e : k = i
   · subst e; rw [lE]; exact own_keptE (ho.row k hk) ho.main (fun x => hne x.symm) hg
   · rw [gE _ k hk e]; exact own_keptE (ho.row k hk) ho.main (fun x => hne x.symm) hg
theorem Own2.turnRow {i : Nat} {cs : List Value} (ho : Own2 w base t1 q t2 s2 v n es hs) (hne : t1 ≠ t2) (hi : i < n) (hg : w.grownBy w' (hs.getD i nilV).ownBlock) (hr : w'.ownsRow base t2 s2 (hs.getD i nilV) (es.getD i nilEl).m cs) :
 Own2 w' base t1 q t2 s2 v n (es.set i ⟨(es.getD i nilEl).pre, (es.getD i nilEl).m, cs⟩) hs := by
 have gE : ∀ j, j < n → j ≠ i → (es.set i ⟨(es.getD i nilEl).pre, (es.getD i nilEl).m, cs⟩).getD j nilEl = es.getD j nilEl := fun j hj hji => by
  rw [List.getD_eq_getElem?_getD, List.getElem?_set_ne (fun e => hji e.symm), List.getD_eq_getElem?_getD]
 have lE : (es.set i ⟨(es.getD i nilEl).pre, (es.getD i nilEl).m, cs⟩).getD i nilEl = ⟨(es.getD i nilEl).pre, (es.getD i nilEl).m, cs⟩ := by rw [List.getD_eq_getElem?_getD, List.getElem?_set_self (by rw [ho.nl]; exact hi)]; rfl
 refine ⟨ho.hl, by simp [ho.nl], fun j hj => ?_, ?_, fun j hj => ?_, ho.apart⟩
 · by_cases e : j = i
   · subst e; rw [lE]; exact ho.pre j hj
   · rw [gE j hj e]; exact ho.pre j hj
 · rw [flat2_same (es := es) (by simp) (fun j hj => by
    by_cases e : j = i
    · subst e; rw [lE]
    · rw [gE j (by rw [← ho.nl]; exact hj) e])]
   exact own_keptE ho.main (ho.row i hi) hne hg
 · by_cases e : j = i
   · subst e; rw [lE]; exact hr
   · rw [gE j hj e]; exact own_other (ho.row j hj) hg (fun k hk hk' => ho.apart j i hj hi e k hk hk')
theorem Own2.setEl1 {w1 : World} {h u : Value} {g c m : Nat} {cs : List Value} (ho : Own2 w base t1 1 t2 s2 (.slice (some ⟨g, 0, none⟩) n c) n es hs) (hne : t1 ≠ t2) (hb : Below w.heap.size w w1) (hr : w1.ownsRow w.heap.size t2 s2 h m cs) (hbase : base ≤ w.heap.size) {i : Nat} (hi : i < n) :
 Own2 ((w1.setCell ⟨g, i * 2, none⟩ u).setCell ⟨g, i * 2 + 1, none⟩ h) base t1 1 t2 s2 (.slice (some ⟨g, 0, none⟩) n c) n (es.set i ⟨[u], m, cs⟩) (hs.set i h) := by
 have o1 := ho.below hb; have o2 := o1.setPre hne hi (Nat.zero_lt_one) u; have hst := o1.main.stored (g := g) (cap := c) (i * (1 + 1) + 0) u; have hr2 := own_keptE hr o1.main (fun x => hne x.symm) hst.2; have o3 := o2.setRow hne (fun j hj k hk => ho.lt j hj k hk) hr2 hbase hi; have e0 : (es.getD i nilEl).pre.set 0 u = [u] := by
  have := ho.pre i hi; match hx : (es.getD i nilEl).pre, this with
  | [a], _ => rfl
 have lE : ∀ x : El, (es.set i x).getD i nilEl = x := fun x => by rw [List.getD_eq_getElem?_getD, List.getElem?_set_self (by rw [ho.nl]; exact hi)]; rfl
 rw [lE, List.set_set] at o3; simp only [e0] at o3; exact o3
theorem Own2.setEl0 {w1 : World} {h : Value} {g c m : Nat} {cs : List Value} (ho : Own2 w base t1 0 t2 s2 (.slice (some ⟨g, 0, none⟩) n c) n es hs) (hne : t1 ≠ t2) (hb : Below w.heap.size w w1) (hr : w1.ownsRow w.heap.size t2 s2 h m cs) (hbase : base ≤ w.heap.size) {i : Nat} (hi : i < n) :
 Own2 (w1.setCell ⟨g, i, none⟩ h) base t1 0 t2 s2 (.slice (some ⟨g, 0, none⟩) n c) n (es.set i ⟨[], m, cs⟩) (hs.set i h) := by
 have o1 := ho.below hb; have o3 := o1.setRow hne (fun j hj k hk => ho.lt j hj k hk) hr hbase hi; have e0 : (es.getD i nilEl).pre = [] := List.eq_nil_of_length_eq_zero (ho.pre i hi); rw [e0] at o3; simpa using o3
theorem Own2.made (w : World) {zs : List Value} (cs : Array Value) (hq : zs.length = q) (hcs : cs.toList = (List.replicate n (zs ++ [nilV])).flatten) (hb : base ≤ w.heap.size) (hm : n ≤ maxLen) :
 Own2 (w.alloc (.cells cs t1)) base t1 q t2 s2 (.slice (some ⟨w.heap.size, 0, none⟩) n n) n (List.replicate n ⟨zs, 0, []⟩) (List.replicate n nilV) := by
 have key : ∀ m : Nat, flat2 (List.replicate m ⟨zs, 0, []⟩) (List.replicate m nilV) = (List.replicate m (zs ++ [nilV])).flatten := by
  intro m
  induction m with
  | zero => rfl
  | succ m ih => simp only [List.replicate_succ, flat2, ih, List.flatten_cons, List.append_assoc, List.cons_append, List.nil_append]
 have gE : ∀ i, i < n → (List.replicate n (⟨zs, 0, []⟩ : El)).getD i nilEl = ⟨zs, 0, []⟩ := fun i hi => by
  rw [List.getD_eq_getElem?_getD, List.getElem?_replicate, if_pos hi]; rfl
 have gH : ∀ i, i < n → (List.replicate n nilV).getD i nilV = nilV := fun i hi => by
  rw [List.getD_eq_getElem?_getD, List.getElem?_replicate, if_pos hi]; rfl
 have hsz : cs.size = n * (q + 1) := by
  rw [← Array.length_toList, hcs]; simp [hq]
 refine ⟨by simp, by simp, fun i hi => by rw [gE i hi]; exact hq, ?_, fun i hi => by rw [gE i hi, gH i hi]; exact World.ownsRow_nil _ _ _ _, fun i j hi hj hij k hk => by rw [gH i hi] at hk; simp [Value.ownBlock] at hk⟩; rw [key, ← hcs]; exact World.ownsRow_lit w cs n hb hm hsz
theorem Own2.typRow (h : Own2 w base t1 q t2 s2 v n es hs) {i : Nat} (hi : i < n) (hg : w.grownBy w' (hs.getD i nilV).ownBlock) : ChgT [t2] w w' := ChgT.grown (h.row i hi) (by simp) hg
end
def wordsTo (s : ByteArray) : Nat → List ByteArray
 | 0 => [ByteArray.empty]
 | k + 1 => if byN s k = 32 then wordsTo s k ++ [ByteArray.empty] else (wordsTo s k).set ((wordsTo s k).length - 1) ((wordsTo s k).getD ((wordsTo s k).length - 1) ByteArray.empty ++ s.extract k (k + 1))
def wordsL (s : ByteArray) : List ByteArray := wordsTo s s.size
theorem wordsTo_len (s : ByteArray) : ∀ k, 1 ≤ (wordsTo s k).length ∧ (wordsTo s k).length ≤ k + 1
 | 0 => by simp [wordsTo]
 | k + 1 => by
  have := wordsTo_len s k; unfold wordsTo; split
  · simp; omega
  · simp; omega
theorem wordsTo_size (s : ByteArray) : ∀ k, k ≤ s.size → ∀ x ∈ wordsTo s k, x.size ≤ k
 | 0, _, x, hx => by simp [wordsTo] at hx; subst hx; exact Nat.le_refl _
 | k + 1, hk, x, hx => by
  have ih := wordsTo_size s k (by omega); have hl := wordsTo_len s k; unfold wordsTo at hx; split at hx
  · rw [List.mem_append] at hx; rcases hx with h | h
    · have := ih x h; omega
    · simp at h; subst h; show 0 ≤ k + 1; omega
  · rcases List.mem_or_eq_of_mem_set hx with h | h
    · have := ih x h; omega
    · subst h; rw [ByteArray.size_append, ByteArray.size_extract]; have hmem : (wordsTo s k).getD ((wordsTo s k).length - 1) ByteArray.empty ∈ wordsTo s k := by
       rw [List.getD_eq_getElem?_getD, List.getElem?_eq_getElem (by omega)]; exact List.getElem_mem _
      have := ih _ hmem; omega
theorem infoStr : (Tryz.prog.info? 9).map (fun i => (i.zero, i.size, i.bytes)) = some (some (.string ByteArray.empty), 1, 16) := by kernel_rfl
theorem wpList_appSt {ops : Array Oper} {rest : List Oper} {o : Oper} {a : Act} {Q : Exit → Act → World → Prop} {w : World} {s x : Operand} {base g0 : Nat} {c0 n : Nat} {xs : List ByteArray} {t : ByteArray} (hgd : o.guard = none)
 (ho : o.op = .call { callee := .builtin .append, args := #[s, x], argTypes := #[32, 32] })
 (hs : a.eval s = .slice (some ⟨g0, 0, none⟩) n c0) (hown : w.ownsRow base 9 1 (.slice (some ⟨g0, 0, none⟩) n c0) n (xs.map Value.string))
 (hx : a.eval x = .slice (some ⟨w.heap.size, 0, none⟩) 1 1) (hn : n ≤ 1000000000000) (hbase : base ≤ w.heap.size)
 (h : ∀ g c w', w'.ownsRow base 9 1 (.slice (some ⟨g, 0, none⟩) (n + 1) c) (n + 1) ((xs ++ [t]).map Value.string) → w.grownBy w' (some g0) → wpList Tryz.prog ops Q rest (a.put o.dst (.slice (some ⟨g, 0, none⟩) (n + 1) c)) w') :
 wpList Tryz.prog ops Q (o :: rest) a (w.alloc (.cells #[.string t] 9)) := by
 obtain ⟨i0, hi, hz0, hz1, hz2⟩ := info_parts infoStr; refine wpList_app hgd s x 32 ho base 9 i0 _ 1 16 Tryz.underlying32 hi hz0 hz1 hz2 rfl (by decide) (.slice (some ⟨g0, 0, none⟩) n c0) n _ hs hown [.string t] hx rfl (by simp [Value.oneCell']) (by omega) (by omega) (by omega) ?_; intro g c w' g1 g2 g3
 exact h g c w' (by rw [List.map_append]; exact g1) g2
theorem own_strLen {w : World} {base n : Nat} {v : Value} {xs : List ByteArray} (h : w.ownsRow base 9 1 v n (xs.map Value.string)) : xs.length = n := by have := h.1; simpa using this
theorem own_strCell {w : World} {base g n c : Nat} {xs : List ByteArray} (h : w.ownsRow base 9 1 (.slice (some ⟨g, 0, none⟩) n c) n (xs.map Value.string)) (i : Nat) (hi : i < xs.length) : w.cell? ⟨g, i, none⟩ = some (.string (xs.getD i ByteArray.empty)) := by
 have hl := own_strLen h; rw [h.cellAt (g := g) (cap := c) i (by omega), List.getElem?_map, List.getElem?_eq_getElem hi, List.getD_eq_getElem?_getD, List.getElem?_eq_getElem hi]; rfl
def OwnW1 (w0 : World) (xs : List ByteArray) (e : Ending) (w' : World) : Prop := ∃ g c, e = .returned (.slice (some ⟨g, 0, none⟩) xs.length c) ∧ w'.ownsRow w0.heap.size 9 1 (.slice (some ⟨g, 0, none⟩) xs.length c) xs.length (xs.map Value.string) ∧ Below w0.heap.size w0 w'
theorem ownW1_of {w0 w' : World} {xs : List ByteArray} {g m c : Nat} (hm : xs.length = m) (h : w'.ownsRow w0.heap.size 9 1 (.slice (some ⟨g, 0, none⟩) m c) m (xs.map Value.string)) (hb : Below w0.heap.size w0 w') : OwnW1 w0 xs (.returned (.slice (some ⟨g, 0, none⟩) m c)) w' := by
 subst hm; exact ⟨g, c, rfl, h, hb⟩
set_option maxRecDepth 8000 in
set_option maxHeartbeats 2000000 in
theorem l34Words_c (s : ByteArray) (w : World) (hm : s.size ≤ 1048576) : Calls Tryz.prog 48 #[.string s] w (OwnW1 w (wordsL s)) := by
 have o1 : (w.alloc (.cells #[.string ByteArray.empty] 9)).ownsRow w.heap.size 9 1 (.slice (some ⟨w.heap.size, 0, none⟩) 1 1) 1 (([ByteArray.empty] : List ByteArray).map Value.string) := World.ownsRow_lit w #[.string ByteArray.empty] 1 (Nat.le_refl _) (by decide) rfl; have b1 : Below w.heap.size w (w.alloc (.cells #[.string ByteArray.empty] 9)) := (Below.refl _ _).alloc (Nat.le_refl _) _; have O1 := hid o1; have B1 := hid b1; have hempty : (⟨#[]⟩ : ByteArray) = ByteArray.empty := rfl; clear o1 b1; go_enter Tryz.func48, Tryz.ntmps48
 go_wp2_with fail; try rw [hempty]
 generalize w.alloc (.cells #[.string ByteArray.empty] 9) = w1 at *; go_loopw [3, 4] (fun v i wr => ∃ (k q g co : Nat), k ≤ s.size ∧ i = .int .i64 k ∧ (wordsTo s k).length = q + 1 ∧ v = .slice (some ⟨g, 0, none⟩) (q + 1) co ∧ wr.ownsRow w.heap.size 9 1 (.slice (some ⟨g, 0, none⟩) (q + 1) co) (q + 1) ((wordsTo s k).map Value.string) ∧ Below w.heap.size w wr) (fun _ i _ => s.size - (intOf i).toNat)
 case atStart => exact ⟨0, 0, w.heap.size, 1, Nat.zero_le _, rfl, rfl, rfl, O1.out, B1.out⟩
 case round =>
  obtain ⟨k, q, g, co, hk, rfl, hq, rfl, o2, b2⟩ := hrel; have O2 := hid o2; have B2 := hid b2; have HQ := hid hq; have hqk : q ≤ k := by have := wordsTo_len s k; omega
  have s2 := b2.size; clear o2 b2 hq O1 B1; by_cases hlt : k < s.size
  · have HB := hid (byN_of hlt); have HW := hid (show wordsTo s (k + 1) = if byN s k = 32 then wordsTo s k ++ [ByteArray.empty] else (wordsTo s k).set ((wordsTo s k).length - 1) ((wordsTo s k).getD ((wordsTo s k).length - 1) ByteArray.empty ++ s.extract k (k + 1)) from rfl); by_cases h32 : s[k].toNat = 32
    · have HW2 := hid (show wordsTo s (k + 1) = wordsTo s k ++ [ByteArray.empty] from by rw [HW.out, if_pos (by rw [HB.out]; exact h32)]); go_wp2_with (at_builtin; refine wpList_appSt (t := ByteArray.empty) rfl rfl rfl O2.out rfl (by omega) s2 ?_; rintro g3 c3 w4 o4 gr4)
      have HO4 := hid (show w4.ownsRow w.heap.size 9 1 (.slice (some ⟨g3, 0, none⟩) (q + 1 + 1) c3) (q + 1 + 1) ((wordsTo s (k + 1)).map Value.string) from by rw [HW2.out]; exact o4); have HB4 := hid (below_app B2.out O2.out s2 gr4); clear o4 gr4 O2; go_wp2; go_roundw
      case rel => exact ⟨k + 1, q + 1, g3, c3, by omega, by go_num, by rw [HW2.out, List.length_append, HQ.out]; rfl, rfl, HO4.out, HB4.out⟩
      case measure => simp [intOf]; omega
    · have HW2 := hid (show wordsTo s (k + 1) = (wordsTo s k).set q ((wordsTo s k).getD q ByteArray.empty ++ s.extract k (k + 1)) from by
       rw [HW.out, if_neg (by rw [HB.out]; exact h32), HQ.out, Nat.add_sub_cancel])
      have hsz : ((wordsTo s k).getD q ByteArray.empty).size ≤ k := by
       refine wordsTo_size s k (by omega) _ ?_; rw [List.getD_eq_getElem?_getD, List.getElem?_eq_getElem (by rw [HQ.out]; omega)]; exact List.getElem_mem _
      have O3 := own_below O2.out ((Below.refl _ _).drew); have B3 := hid B2.out.drew; have s3 : w.heap.size ≤ wr.drew.heap.size := s2; have d0 := own_strCell O3 q (by rw [HQ.out]; omega); have z0 := O3.frozenAt (g := g) (cap := co) q; have hst := O3.stored (g := g) (cap := co) q (.string ((wordsTo s k).getD q ByteArray.empty ++ s.extract k (k + 1))); rw [← List.map_set, ← HW2.out] at hst; have HST := hid hst.1; have HBS := hid (below_app B3.out O3 s3 hst.2); have hxs : (s.extract k (k + 1)).size = 1 := by rw [ByteArray.size_extract]; omega
      have kI1 : (k : Int) + 1 ≤ s.size := by omega
      have HQ2 := hid (show (wordsTo s (k + 1)).length = q + 1 from by rw [HW2.out, List.length_set]; exact HQ.out); have hcat : ((wordsTo s k).getD q ByteArray.empty).size + (s.extract k (k + 1)).size ≤ 9223372036854775807 := by omega
      have hcat2 : ¬ 9223372036854775807 < ((wordsTo s k).getD q ByteArray.empty).size + 1 := by omega
      have hqI : (q : Int) < (q : Int) + 1 := by omega
      have k0I : (0 : Int) ≤ (k : Int) + 1 := by omega
      have k1I : (k : Int) ≤ (k : Int) + 1 := by omega
      have wq : IntKind.i64.wrap (q : Int) = (q : Int) := IntWalk.i64_in _ (by omega); have wk : IntKind.i64.wrap ((k : Int) + 1) = (k : Int) + 1 := IntWalk.i64_in _ (by omega); have d1 : wr.cell? ⟨g, q, none⟩ = some (.string ((wordsTo s k).getD q ByteArray.empty)) := d0; have z1 : wr.frozen? ⟨g, q, none⟩ = false := z0; generalize (wordsTo s k).getD q ByteArray.empty = LW at *; clear hst O3 O2 HW HW2; go_upto_region 7 with (fail)
      refine wp_region_held_drew (S := fun _ => True) (by kernel_rfl) ?_ (fun h_ => ?_)
      · exact trivial
      refine tk 0 ?_; refine tk 1 ?_; refine tk 2 ?_; refine tk 3 ?_; refine tk 4 ?_; refine tk 5 ?_; refine tk 6 ?_; refine tk 7 ?_; refine tk 8 ?_; refine tk 10 ?_; refine tk 11 ?_; refine tk 12 ?_; refine tk 13 ?_; refine tk 14 ?_; refine rd1 9 (fun K hK => ?_); go_simp; refine hK.out _ _ (trivial) fun h_ => ?_
      clear hK K; refine pt ?_; refine tk 15 ?_; refine tk 16 ?_; refine rd1 17 (fun K hK => ?_); go_simp; refine hK.out _ _ (trivial) fun h_ => ?_
      clear hK K; refine pt ?_; refine dn ?_; clear h_; go_wp2; go_roundw
      case rel => exact ⟨k + 1, q, g, co, by omega, by go_num, HQ2.out, rfl, HST.out, HBS.out⟩
      case measure => simp [intOf]; omega
  · obtain rfl : k = s.size := by omega
    have HWL := hid (show wordsL s = wordsTo s s.size from rfl); go_wp2; go_ret; exact ownW1_of (by rw [HWL.out]; exact HQ.out) (by rw [HWL.out]; exact O2.out) B2.out
structure PageV where
 full : Bool
 file : Int
 place : Int
 value : Int
 stamp : Int
deriving DecidableEq, Inhabited
def noPage : PageV := ⟨false, 0, 0, 0, 0⟩
structure BlockV where
 wear : Int
 pages : List PageV
deriving DecidableEq, Inhabited
def noBlock : BlockV := ⟨0, []⟩
structure RdG (w : World) (B : Nat) (A : Option Addr) (n : Nat) (ps : List PageV) : Prop where
 len : ps.length = n
 at_ : 0 < n → ∃ b off, A = some ⟨b, off, none⟩ ∧ b < B ∧ ∀ i, i < n →
  w.cell? ⟨b, off + i * 5, none⟩ = some (.bool (ps.getD i noPage).full) ∧ w.cell? ⟨b, off + i * 5 + 1, none⟩ = some (.int .i64 (ps.getD i noPage).file) ∧ w.cell? ⟨b, off + i * 5 + 2, none⟩ = some (.int .i64 (ps.getD i noPage).place) ∧
  w.cell? ⟨b, off + i * 5 + 3, none⟩ = some (.int .i64 (ps.getD i noPage).value) ∧ w.cell? ⟨b, off + i * 5 + 4, none⟩ = some (.int .i64 (ps.getD i noPage).stamp)
theorem RdG.mono {w B B' A n xs} (h : RdG w B A n xs) (hB : B ≤ B') : RdG w B' A n xs :=
 ⟨h.len, fun hn => by obtain ⟨b, off, e, hb, hc⟩ := h.at_ hn; exact ⟨b, off, e, by omega, hc⟩⟩
theorem RdG.below {w w' B A n xs} (h : RdG w B A n xs) (hb : Below B w w') : RdG w' B A n xs :=
 ⟨h.len, fun hn => by
  obtain ⟨b, off, e, hb1, hc⟩ := h.at_ hn; refine ⟨b, off, e, hb1, fun i hi => ?_⟩; obtain ⟨h0, h1, h2, h3, h4⟩ := hc i hi; exact ⟨(hb.cell hb1).trans h0, (hb.cell hb1).trans h1, (hb.cell hb1).trans h2, (hb.cell hb1).trans h3, (hb.cell hb1).trans h4⟩⟩
structure RdB (w : World) (B : Nat) (A : Option Addr) (n : Nat) (bs : List BlockV) : Prop where
 len : bs.length = n
 at_ : 0 < n → ∃ b off, A = some ⟨b, off, none⟩ ∧ b < B ∧ ∀ i, i < n → ∃ (A' : Option Addr) (n' c' : Nat),
  w.cell? ⟨b, off + i * 2, none⟩ = some (.int .i64 (bs.getD i noBlock).wear) ∧ w.cell? ⟨b, off + i * 2 + 1, none⟩ = some (.slice A' n' c') ∧ n' ≤ c' ∧ c' ≤ 9223372036854775807 ∧ RdG w B A' n' (bs.getD i noBlock).pages
theorem RdB.mono {w B B' A n xs} (h : RdB w B A n xs) (hB : B ≤ B') : RdB w B' A n xs :=
 ⟨h.len, fun hn => by
  obtain ⟨b, off, e, hb, hc⟩ := h.at_ hn; refine ⟨b, off, e, by omega, fun i hi => ?_⟩; obtain ⟨A', n', c', h0, h1, h2, h3, h4⟩ := hc i hi; exact ⟨A', n', c', h0, h1, h2, h3, h4.mono hB⟩⟩
theorem RdB.below {w w' B A n xs} (h : RdB w B A n xs) (hb : Below B w w') : RdB w' B A n xs :=
 ⟨h.len, fun hn => by
  obtain ⟨b, off, e, hb1, hc⟩ := h.at_ hn; refine ⟨b, off, e, hb1, fun i hi => ?_⟩; obtain ⟨A', n', c', h0, h1, h2, h3, h4⟩ := hc i hi; exact ⟨A', n', c', (hb.cell hb1).trans h0, (hb.cell hb1).trans h1, h2, h3, h4.below hb⟩⟩
def PageOk (p : PageV) : Prop := if p.full then (0 ≤ p.file ∧ p.file ≤ 7) ∧ (0 ≤ p.place ∧ p.place ≤ 5) ∧ (0 ≤ p.value ∧ p.value ≤ 9999) ∧ (1 ≤ p.stamp ∧ p.stamp ≤ 1000000) else p.file = 0 ∧ p.place = 0 ∧ p.value = 0 ∧ p.stamp = 0
instance (p : PageV) : Decidable (PageOk p) := by unfold PageOk; infer_instance
theorem pageOk_no {x y z s : Int} : PageOk ⟨false, x, y, z, s⟩ ↔ x = 0 ∧ y = 0 ∧ z = 0 ∧ s = 0 := by simp [PageOk]
theorem pageOk_yes {x y z s : Int} : PageOk ⟨true, x, y, z, s⟩ ↔ (0 ≤ x ∧ x ≤ 7) ∧ (0 ≤ y ∧ y ≤ 5) ∧ (0 ≤ z ∧ z ≤ 9999) ∧ (1 ≤ s ∧ s ≤ 1000000) := by simp [PageOk]
theorem pageValid_impl (f : Bool) (x y z s : Int) (w : World) : Calls Tryz.prog 160 #[.agg #[.bool f, .int .i64 x, .int .i64 y, .int .i64 z, .int .i64 s]] w fun e w' => e = .returned (.bool (decide (PageOk ⟨f, x, y, z, s⟩))) ∧ Below w.heap.size w w' := by
 cases f
 · go_enter Tryz.func160, Tryz.ntmps160
   go_wp2
   all_goals
    go_ret; exact ⟨ret_bool (by rw [eq_comm]; first | (rw [decide_eq_true_iff, pageOk_no]; omega) | (rw [decide_eq_false_iff_not, pageOk_no]; omega)), (Below.refl _ _).alloc (Nat.le_refl _) _⟩
 · go_enter Tryz.func160, Tryz.ntmps160
   go_wp2
   all_goals
    go_ret; exact ⟨ret_bool (by rw [Bool.eq_iff_iff, decide_eq_true_iff (p := PageOk _), pageOk_yes]; simp; omega), (Below.refl _ _).alloc (Nat.le_refl _) _⟩
theorem pageValid_spec (f : Bool) (x y z s : Int) (w : World) : Calls Tryz.prog 106 #[.agg #[.bool f, .int .i64 x, .int .i64 y, .int .i64 z, .int .i64 s]] w fun e w' => e = .returned (.bool (decide (PageOk ⟨f, x, y, z, s⟩))) ∧ Below w.heap.size w w' := by
 cases f
 · go_enter Tryz.func106, Tryz.ntmps106
   go_wp2
   all_goals
    go_ret; exact ⟨ret_bool (by rw [eq_comm]; first | (rw [decide_eq_true_iff, pageOk_no]; omega) | (rw [decide_eq_false_iff_not, pageOk_no]; omega)), (Below.refl _ _).alloc (Nat.le_refl _) _⟩
 · go_enter Tryz.func106, Tryz.ntmps106
   go_wp2_with (go_at_call 53; refine (l1In_c _ _ _ _).mono ?_; rintro e w' ⟨rfl, rfl⟩)
   all_goals
    go_ret; exact ⟨ret_bool (by rw [Bool.eq_iff_iff, decide_eq_true_iff (p := PageOk _), pageOk_yes]; simp only [Bool.not_eq_true, inB_t, inB_f, Bool.false_eq_true, true_iff, iff_true, iff_false, false_iff] at *; omega), (Below.refl _ _).alloc (Nat.le_refl _) _⟩
def PagesTo (ps : List PageV) (k : Nat) : Prop := ∀ i, i < k → PageOk (ps.getD i noPage) ∧ (0 < i → (ps.getD i noPage).full = true → (ps.getD (i - 1) noPage).full = true)
theorem PagesTo.zero (ps : List PageV) : PagesTo ps 0 := fun i h => absurd h (Nat.not_lt_zero _)
theorem PagesTo.succ {ps : List PageV} {k : Nat} (h : PagesTo ps k) (h1 : PageOk (ps.getD k noPage)) (h2 : 0 < k → (ps.getD k noPage).full = true → (ps.getD (k - 1) noPage).full = true) : PagesTo ps (k + 1) := by
 intro i hi
 by_cases e : i = k
 · subst e; exact ⟨h1, h2⟩
 · exact h i (by omega)
def BlockOk (b : BlockV) : Prop := (0 ≤ b.wear ∧ b.wear ≤ 100) ∧ b.pages.length = 4 ∧ PagesTo b.pages 4
theorem blockValid_impl {we : Int} {A : Option Addr} {n c B : Nat} {ps : List PageV} {w : World} (hr : RdG w B A n ps) (hB : B ≤ w.heap.size) (hnc : n ≤ c) (hcm : c ≤ 9223372036854775807) :
 Calls Tryz.prog 140 #[.agg #[.int .i64 we, .slice A n c]] w fun e w' => e = .returned (.bool (bof (BlockOk ⟨we, ps⟩))) ∧ Below w.heap.size w w' := by
 have HL := hid hr.len; by_cases h1 : we < 0
 · have hno := hid (show ¬ BlockOk ⟨we, ps⟩ from fun h => by have := h.1.1; simp only at this; omega); go_enter Tryz.func140, Tryz.ntmps140
   go_wp2; go_ret
   exact ⟨ret_bof_f hno.out, (Below.refl _ _).alloc (Nat.le_refl _) _⟩
 by_cases h2 : 100 < we
 · have hno := hid (show ¬ BlockOk ⟨we, ps⟩ from fun h => by have := h.1.2; simp only at this; omega); go_enter Tryz.func140, Tryz.ntmps140
   go_wp2; go_ret
   exact ⟨ret_bof_f hno.out, (Below.refl _ _).alloc (Nat.le_refl _) _⟩
 by_cases h4 : n = 4
 · subst h4; have b1 : Below w.heap.size w (w.alloc (.cells #[.int .i64 we, .slice A 4 c] 127)) := (Below.refl _ _).alloc (Nat.le_refl _) _; have k0 : (w.alloc (.cells #[.int .i64 we, .slice A 4 c] 127)).cell? ⟨w.heap.size, 0, none⟩ = some (.int .i64 we) := (Blk.new w 127 #[.int .i64 we, .slice A 4 c]).cell 0; have k1 : (w.alloc (.cells #[.int .i64 we, .slice A 4 c] 127)).cell? ⟨w.heap.size, 1, none⟩ = some (.slice A 4 c) := (Blk.new w 127 #[.int .i64 we, .slice A 4 c]).cell 1; have s1 : (w.alloc (.cells #[.int .i64 we, .slice A 4 c] 127)).heap.size = w.heap.size + 1 := by simp
   go_enter Tryz.func140, Tryz.ntmps140
   go_wp2; have hr1 := (hr.mono hB).below b1
   have HB1 := hid b1; have HS1 := hid s1; clear k0 b1 s1 hr; generalize w.alloc (.cells #[.int .i64 we, .slice A 4 c] 127) = w1 at *; go_loopw [22] (fun kk wr => ∃ k : Nat, k ≤ 4 ∧ kk = .int .i64 k ∧ PagesTo ps k ∧ Below w1.heap.size w1 wr) (fun kk _ => 4 - (intOf kk).toNat)
   case atStart => exact ⟨0, Nat.zero_le _, rfl, PagesTo.zero _, Below.refl _ _⟩
   case round =>
    obtain ⟨k, hk, rfl, hto, hbl⟩ := hrel; have HT := hid hto; by_cases hlt : k < 4
    · obtain ⟨b, off, rfl, hbB, hc⟩ := hr1.at_ (by omega); have hb1 : b < w1.heap.size := by have := HS1.out; omega
      obtain ⟨c0, c1, c2, c3, c4⟩ := hc k hlt; replace c0 := (hbl.cell hb1).trans c0; replace c1 := (hbl.cell hb1).trans c1; replace c2 := (hbl.cell hb1).trans c2; replace c3 := (hbl.cell hb1).trans c3; replace c4 := (hbl.cell hb1).trans c4; obtain ⟨P, hP⟩ : ∃ P, ps.getD k noPage = P := ⟨_, rfl⟩; rw [hP] at c0 c1 c2 c3 c4; obtain ⟨f, x, y, z, s⟩ := P; simp only at c0 c1 c2 c3 c4; have HP := hid hP; have HBL := hid hbl; have hHC := hid hc; clear hP hto hbl hc hr1; have HK1 := hid k1; have hsz := HBL.out.size; go_wp2_with fail; have bx : Below w1.heap.size w1 (wr.alloc (.cells #[.bool f, .int .i64 x, .int .i64 y, .int .i64 z, .int .i64 s] 88)) := HBL.out.alloc hsz _; have fx : (wr.alloc (.cells #[.bool f, .int .i64 x, .int .i64 y, .int .i64 z, .int .i64 s] 88)).cell? ⟨wr.heap.size, 0, none⟩ = some (.bool f) := (Blk.new wr 88 #[.bool f, .int .i64 x, .int .i64 y, .int .i64 z, .int .i64 s]).cell 0; have sx : wr.heap.size < (wr.alloc (.cells #[.bool f, .int .i64 x, .int .i64 y, .int .i64 z, .int .i64 s] 88)).heap.size := by simp
      generalize wr.alloc (.cells #[.bool f, .int .i64 x, .int .i64 y, .int .i64 z, .int .i64 s] 88) = wx at *; generalize wr.heap.size = g4 at *; refine (pageValid_impl f x y z s _).mono ?_; rintro e w2 ⟨rfl, hb2⟩; have b2 : Below w1.heap.size w1 w2 := bx.trans (hb2.mono bx.size); have f2 := (hb2.cell (p := ⟨g4, 0, none⟩) sx).trans fx; have k2 := (b2.cell (p := ⟨w.heap.size, 1, none⟩) (by have := HS1.out; show w.heap.size < w1.heap.size; omega)).trans HK1.out; clear bx fx sx hb2 c0 c1 c2 c3 c4 k1 hsz HBL; have HB2 := hid b2; by_cases hok : PageOk ⟨f, x, y, z, s⟩
      · have hd : decide (PageOk ⟨f, x, y, z, s⟩) = true := decide_eq_true hok; have HOK := hid (show PageOk (ps.getD k noPage) by rw [HP.out]; exact hok); rw [hd]; rcases k with _ | kp
        · have HT2 := hid (HT.out.succ (k := 0) HOK.out (fun h => absurd h (Nat.lt_irrefl _))); clear hok hd b2; go_wp2; go_roundw
          case rel => exact ⟨1, by omega, rfl, HT2.out, HB2.out⟩
          case measure => simp [intOf]
        · have hkp : (1 : Int) ≤ (kp : Int) + 1 := by omega
          have hkp0 : (0 : Int) < (kp : Int) + 1 := by omega
          have hkd : decide ((kp : Int) + 1 > 0) = true := decide_eq_true hkp0; cases f
          · have HT2 := hid (HT.out.succ (k := kp + 1) HOK.out (fun _ h => by rw [HP.out] at h; cases h)); clear hok hd b2; go_wp2; go_roundw
            case rel => exact ⟨kp + 1 + 1, by omega, by go_num, HT2.out, HB2.out⟩
            case measure => simp [intOf]; omega
          · obtain ⟨d0, _, _, _, _⟩ := hHC.out kp (by omega); replace d0 := (b2.cell hb1).trans d0; have HF := hid (show ∀ h : (ps.getD kp noPage).full = true, PagesTo ps (kp + 1 + 1) from fun h => HT.out.succ (k := kp + 1) HOK.out (fun _ _ => h)); have HG := hid (show (ps.getD kp noPage).full = false → ¬ BlockOk ⟨we, ps⟩ from fun h hok => by
             have := (hok.2.2 (kp + 1) (by omega)).2 (by omega) (by simp only; rw [HP.out]); simp only [Nat.add_sub_cancel] at this; rw [h] at this; cases this)
            generalize (ps.getD kp noPage).full = pf at *; cases pf
            · have hno := hid (HG.out rfl); clear hok hd b2; go_wp2; go_ret; exact ⟨ret_bof_f hno.out, HB1.out.trans (HB2.out.mono (by have := HS1.out; omega))⟩
            · have HT2 := hid (HF.out rfl); clear hok hd b2; go_wp2; go_roundw
              case rel => exact ⟨kp + 1 + 1, by omega, by go_num, HT2.out, HB2.out⟩
              case measure => simp [intOf]; omega
      · have hd : decide (PageOk ⟨f, x, y, z, s⟩) = false := decide_eq_false hok; have hno := hid (show ¬ BlockOk ⟨we, ps⟩ from fun h => hok (by have := (h.2.2 k hlt).1; simp only at this; rw [HP.out] at this; exact this)); rw [hd]; clear hok hd b2; go_wp2; go_ret; exact ⟨ret_bof_f hno.out, HB1.out.trans (HB2.out.mono (by have := HS1.out; omega))⟩
    · obtain rfl : k = 4 := by omega
      have hyes := hid (show BlockOk ⟨we, ps⟩ from ⟨by simp only; omega, HL.out, HT.out⟩); have HBL := hid hbl; clear hbl hto; go_wp2; go_ret; exact ⟨ret_bof_t hyes.out, HB1.out.trans (HBL.out.mono (by have := HS1.out; omega))⟩
 · have hno := hid (show ¬ BlockOk ⟨we, ps⟩ from fun h => h4 (by have := h.2.1; have := HL.out; simp only at *; omega)); have hq : ((n : Int) != 4) = true := by simp; omega
   have hq' : ((n : Int) == 4) = false := by simp; omega
   clear h4; go_enter Tryz.func140, Tryz.ntmps140
   go_wp2; go_ret
   exact ⟨ret_bof_f hno.out, (Below.refl _ _).alloc (Nat.le_refl _) _⟩
theorem blockValid_spec {we : Int} {A : Option Addr} {n c B : Nat} {ps : List PageV} {w : World} (hr : RdG w B A n ps) (hB : B ≤ w.heap.size) (hnc : n ≤ c) (hcm : c ≤ 9223372036854775807) :
 Calls Tryz.prog 150 #[.agg #[.int .i64 we, .slice A n c]] w fun e w' => e = .returned (.bool (bof (BlockOk ⟨we, ps⟩))) ∧ Below w.heap.size w w' := by
 have HL := hid hr.len; have b1 : Below w.heap.size w (w.alloc (.cells #[.int .i64 we, .slice A n c] 127)) := (Below.refl _ _).alloc (Nat.le_refl _) _; have k0 : (w.alloc (.cells #[.int .i64 we, .slice A n c] 127)).cell? ⟨w.heap.size, 0, none⟩ = some (.int .i64 we) := (Blk.new w 127 #[.int .i64 we, .slice A n c]).cell 0; have k1 : (w.alloc (.cells #[.int .i64 we, .slice A n c] 127)).cell? ⟨w.heap.size, 1, none⟩ = some (.slice A n c) := (Blk.new w 127 #[.int .i64 we, .slice A n c]).cell 1; have s1 : (w.alloc (.cells #[.int .i64 we, .slice A n c] 127)).heap.size = w.heap.size + 1 := by simp
 go_enter Tryz.func150, Tryz.ntmps150
 go_wp2; have hr1 := (hr.mono hB).below b1
 have HB1 := hid b1; have HS1 := hid s1; clear b1 s1 hr; generalize w.alloc (.cells #[.int .i64 we, .slice A n c] 127) = w1 at *; generalize hg0 : w.heap.size = g0 at k0 k1 ⊢; have hg0s : g0 < w1.heap.size := by have := HS1.out; omega
 have HG0 := hid hg0; clear hg0; go_loopw [3] (fun kk wr => ∃ k : Nat, k ≤ n ∧ kk = .int .i64 k ∧ PagesTo ps k ∧ Below w1.heap.size w1 wr) (fun kk _ => n - (intOf kk).toNat)
 case atStart => exact ⟨0, Nat.zero_le _, rfl, PagesTo.zero _, Below.refl _ _⟩
 case round =>
  obtain ⟨k, hk, rfl, hto, hbl⟩ := hrel; have HT := hid hto; have k2 := (hbl.cell (p := ⟨g0, 1, none⟩) hg0s).trans k1; have HBL := hid hbl; by_cases hlt : k < n
  · obtain ⟨b, off, rfl, hbB, hc⟩ := hr1.at_ (by omega); have hb1 : b < w1.heap.size := by have := HS1.out; have := HG0.out; omega
    obtain ⟨c0, c1, c2, c3, c4⟩ := hc k hlt; replace c0 := (hbl.cell hb1).trans c0; replace c1 := (hbl.cell hb1).trans c1; replace c2 := (hbl.cell hb1).trans c2; replace c3 := (hbl.cell hb1).trans c3; replace c4 := (hbl.cell hb1).trans c4; obtain ⟨P, hP⟩ : ∃ P, ps.getD k noPage = P := ⟨_, rfl⟩; rw [hP] at c0 c1 c2 c3 c4; obtain ⟨f, x, y, z, s⟩ := P; simp only at c0 c1 c2 c3 c4; have HP := hid hP; have hHC := hid hc; have HNO := hid (show ¬ PagesTo ps (k + 1) → ¬ BlockOk ⟨we, ps⟩ from fun h hok => by
     have h4 := hok.2.1; simp only at h4; have := HL.out; exact h (fun i hi => hok.2.2 i (by omega)))
    clear hP hto hbl hc hr1; go_wp2_with fail; refine (pageValid_spec f x y z s _).mono ?_; rintro e w2 ⟨rfl, hb2⟩; have b2 : Below w1.heap.size w1 w2 := HBL.out.trans (hb2.mono HBL.out.size); have f2 := (hb2.cell (block_lt_of_cell c0)).trans c0; have k3 := (b2.cell (p := ⟨g0, 1, none⟩) hg0s).trans k1; have HB2 := hid b2; clear hb2 c0 c1 c2 c3 c4 k2; by_cases hok : PageOk ⟨f, x, y, z, s⟩
    · have hd : decide (PageOk ⟨f, x, y, z, s⟩) = true := decide_eq_true hok; have HOK := hid (show PageOk (ps.getD k noPage) by rw [HP.out]; exact hok); rw [hd]; rcases k with _ | kp
      · have HT2 := hid (HT.out.succ (k := 0) HOK.out (fun h => absurd h (Nat.lt_irrefl _))); clear hok hd b2; go_wp2; go_roundw
        case rel => exact ⟨1, by omega, rfl, HT2.out, HB2.out⟩
        case measure => simp [intOf]; omega
      · have hkp : (1 : Int) ≤ (kp : Int) + 1 := by omega
        have hkp0 : (0 : Int) < (kp : Int) + 1 := by omega
        have hkd : decide ((kp : Int) + 1 > 0) = true := decide_eq_true hkp0; cases f
        · have HT2 := hid (HT.out.succ (k := kp + 1) HOK.out (fun _ h => by rw [HP.out] at h; cases h)); clear hok hd b2; go_wp2; go_roundw
          case rel => exact ⟨kp + 1 + 1, by omega, by go_num, HT2.out, HB2.out⟩
          case measure => simp [intOf]; omega
        · obtain ⟨d0, _, _, _, _⟩ := hHC.out kp (by omega); replace d0 := (b2.cell hb1).trans d0; have HF := hid (show ∀ h : (ps.getD kp noPage).full = true, PagesTo ps (kp + 1 + 1) from fun h => HT.out.succ (k := kp + 1) HOK.out (fun _ _ => h)); have HG := hid (show (ps.getD kp noPage).full = false → ¬ BlockOk ⟨we, ps⟩ from fun h => HNO.out (fun hp => by
           have := (hp (kp + 1) (by omega)).2 (by omega) (by rw [HP.out]); simp only [Nat.add_sub_cancel] at this; rw [h] at this; cases this))
          generalize (ps.getD kp noPage).full = pf at *; cases pf
          · have hno := hid (HG.out rfl); clear hok hd b2; go_wp2; go_ret; exact ⟨ret_bof_f hno.out, HB1.out.trans (HB2.out.mono (by have := HS1.out; omega))⟩
          · have HT2 := hid (HF.out rfl); clear hok hd b2; go_wp2; go_roundw
            case rel => exact ⟨kp + 1 + 1, by omega, by go_num, HT2.out, HB2.out⟩
            case measure => simp [intOf]; omega
    · have hd : decide (PageOk ⟨f, x, y, z, s⟩) = false := decide_eq_false hok; have hno := hid (HNO.out (fun hp => hok (by have := (hp k (by omega)).1; rw [HP.out] at this; exact this))); rw [hd]; clear hok hd b2; go_wp2; go_ret; exact ⟨ret_bof_f hno.out, HB1.out.trans (HB2.out.mono (by have := HS1.out; omega))⟩
  · obtain rfl : k = n := by omega
    have k3 := (hbl.cell (p := ⟨g0, 0, none⟩) hg0s).trans k0; clear hbl hto; by_cases hwe : 0 ≤ we ∧ we ≤ 100
    · have hb : inB we 0 100 = true := by rw [inB_t]; exact hwe
      by_cases h4 : k = 4
      · subst h4; have hyes := hid (show BlockOk ⟨we, ps⟩ from ⟨hwe, HL.out, HT.out⟩); go_wp2_with (go_at_call 53; refine (l1In_c _ _ _ _).mono ?_; rw [hb]; rintro e w' ⟨rfl, rfl⟩)
        go_ret; exact ⟨ret_bof_t hyes.out, HB1.out.trans (HBL.out.mono (by have := HS1.out; omega))⟩
      · have hno := hid (show ¬ BlockOk ⟨we, ps⟩ from fun h => h4 (by have := h.2.1; have := HL.out; simp only at *; omega)); have hq : ((k : Int) == 4) = false := by simp; omega
        clear h4; go_wp2_with (go_at_call 53; refine (l1In_c _ _ _ _).mono ?_; rw [hb]; rintro e w' ⟨rfl, rfl⟩)
        go_ret; exact ⟨ret_bof_f hno.out, HB1.out.trans (HBL.out.mono (by have := HS1.out; omega))⟩
    · have hb : inB we 0 100 = false := by rw [inB_f]; omega
      have hno := hid (show ¬ BlockOk ⟨we, ps⟩ from fun h => hwe h.1); go_wp2_with (go_at_call 53; refine (l1In_c _ _ _ _).mono ?_; rw [hb]; rintro e w' ⟨rfl, rfl⟩)
      go_ret; exact ⟨ret_bof_f hno.out, HB1.out.trans (HBL.out.mono (by have := HS1.out; omega))⟩
def DevTo (bs : List BlockV) (k : Nat) : Prop := ∀ i, i < k → BlockOk (bs.getD i noBlock)
theorem DevTo.zero (bs : List BlockV) : DevTo bs 0 := fun i h => absurd h (Nat.not_lt_zero _)
theorem DevTo.succ {bs : List BlockV} {k : Nat} (h : DevTo bs k) (h1 : BlockOk (bs.getD k noBlock)) : DevTo bs (k + 1) := by
 intro i hi
 by_cases e : i = k
 · subst e; exact h1
 · exact h i (by omega)
def DevOk (bs : List BlockV) : Prop := (1 ≤ bs.length ∧ bs.length ≤ 12) ∧ DevTo bs bs.length
theorem deviceValid_impl {A : Option Addr} {n c B : Nat} {bs : List BlockV} {w : World} (hr : RdB w B A n bs) (hB : B ≤ w.heap.size) (hn : n ≤ 1048576) :
 Calls Tryz.prog 83 #[.slice A n c] w fun e w' => e = .returned (.bool (bof (DevOk bs))) ∧ Below w.heap.size w w' := by
 have HL := hid hr.len; by_cases h1 : n < 1
 · have hno := hid (show ¬ DevOk bs from fun h => by have := h.1.1; have := HL.out; omega); obtain rfl : n = 0 := by omega
   go_enter Tryz.func83, Tryz.ntmps83
   go_wp2; go_ret
   exact ⟨ret_bof_f hno.out, Below.refl _ _⟩
 by_cases h2 : 12 < n
 · have hno := hid (show ¬ DevOk bs from fun h => by have := h.1.2; have := HL.out; omega); go_enter Tryz.func83, Tryz.ntmps83
   go_wp2; go_ret
   exact ⟨ret_bof_f hno.out, Below.refl _ _⟩
 go_enter Tryz.func83, Tryz.ntmps83
 go_wp2; go_loopw [15] (fun kk wr => ∃ k : Nat, k ≤ n ∧ kk = .int .i64 k ∧ DevTo bs k ∧ Below w.heap.size w wr) (fun kk _ => n - (intOf kk).toNat)
 case atStart => exact ⟨0, Nat.zero_le _, rfl, DevTo.zero _, Below.refl _ _⟩
 case round =>
  obtain ⟨k, hk, rfl, hto, hbl⟩ := hrel; have HT := hid hto; have HBL := hid hbl; by_cases hlt : k < n
  · obtain ⟨b, off, rfl, hbB, hc⟩ := hr.at_ (by omega); obtain ⟨A', n', c', c0, c1, hnc, hcm, hrg⟩ := hc k hlt; replace c0 := (hbl.cell (p := ⟨b, off + k * 2, none⟩) (show b < w.heap.size by omega)).trans c0; replace c1 := (hbl.cell (p := ⟨b, off + k * 2 + 1, none⟩) (show b < w.heap.size by omega)).trans c1; have hrg2 := (hrg.mono hB).below hbl; obtain ⟨P, hP⟩ : ∃ P, bs.getD k noBlock = P := ⟨_, rfl⟩; rw [hP] at c0 hrg2; obtain ⟨we, ps⟩ := P; simp only at c0 hrg2; have HP := hid hP; have hsz := hbl.size; clear hP hto hc hr hrg hbl; go_wp2_with fail; have bx : Below w.heap.size w (wr.alloc (.cells #[.int .i64 we, .slice A' n' c'] 127)) := HBL.out.alloc hsz _; have sx : wr.heap.size < (wr.alloc (.cells #[.int .i64 we, .slice A' n' c'] 127)).heap.size := by simp
    have hrg3 := hrg2.below (HBL.out.size |> fun _ => (Below.refl w.heap.size wr).alloc hsz (.cells #[.int .i64 we, .slice A' n' c'] 127)); generalize wr.alloc (.cells #[.int .i64 we, .slice A' n' c'] 127) = wx at *; refine (blockValid_impl hrg3 bx.size hnc hcm).mono ?_; rintro e w2 ⟨rfl, hb2⟩; have HB2 := hid (bx.trans (hb2.mono bx.size)); clear hrg2 hrg3 bx sx hb2 c0 c1; by_cases hok : BlockOk ⟨we, ps⟩
    · have HT2 := hid (HT.out.succ (by rw [HP.out]; exact hok)); rw [bof_t.2 hok]; clear hok; go_wp2; go_roundw
      case rel => exact ⟨k + 1, by omega, by go_num, HT2.out, HB2.out⟩
      case measure => simp [intOf]; omega
    · have hno := hid (show ¬ DevOk bs from fun h => hok (by have := h.2 k (by have := HL.out; omega); rw [HP.out] at this; exact this)); rw [bof_f.2 hok]; clear hok; go_wp2; go_ret; exact ⟨ret_bof_f hno.out, HB2.out⟩
  · obtain rfl : k = n := by omega
    have hyes := hid (show DevOk bs from ⟨by have := HL.out; omega, by rw [HL.out]; exact HT.out⟩); go_wp2; go_ret; exact ⟨ret_bof_t hyes.out, HBL.out⟩
theorem deviceValid_spec {A : Option Addr} {n c B : Nat} {bs : List BlockV} {w : World} (hr : RdB w B A n bs) (hB : B ≤ w.heap.size) (hn : n ≤ 1048576) :
 Calls Tryz.prog 112 #[.slice A n c] w fun e w' => e = .returned (.bool (bof (DevOk bs))) ∧ Below w.heap.size w w' := by
 have HL := hid hr.len; go_enter Tryz.func112, Tryz.ntmps112
 go_wp2; go_loopw [3] (fun kk wr => ∃ k : Nat, k ≤ n ∧ kk = .int .i64 k ∧ DevTo bs k ∧ Below w.heap.size w wr) (fun kk _ => n - (intOf kk).toNat)
 case atStart => exact ⟨0, Nat.zero_le _, rfl, DevTo.zero _, Below.refl _ _⟩
 case round =>
  obtain ⟨k, hk, rfl, hto, hbl⟩ := hrel; have HT := hid hto; have HBL := hid hbl; by_cases hlt : k < n
  · obtain ⟨b, off, rfl, hbB, hc⟩ := hr.at_ (by omega); obtain ⟨A', n', c', c0, c1, hnc, hcm, hrg⟩ := hc k hlt; replace c0 := (hbl.cell (p := ⟨b, off + k * 2, none⟩) (show b < w.heap.size by omega)).trans c0; replace c1 := (hbl.cell (p := ⟨b, off + k * 2 + 1, none⟩) (show b < w.heap.size by omega)).trans c1; have hrg2 := (hrg.mono hB).below hbl; obtain ⟨P, hP⟩ : ∃ P, bs.getD k noBlock = P := ⟨_, rfl⟩; rw [hP] at c0 hrg2; obtain ⟨we, ps⟩ := P; simp only at c0 hrg2; have HP := hid hP; have hsz := hbl.size; clear hP hto hc hr hrg hbl; go_wp2_with fail; refine (blockValid_spec hrg2 hsz hnc hcm).mono ?_; rintro e w2 ⟨rfl, hb2⟩; have HB2 := hid (HBL.out.trans (hb2.mono hsz)); clear hrg2 hb2 c0 c1; by_cases hok : BlockOk ⟨we, ps⟩
    · have HT2 := hid (HT.out.succ (by rw [HP.out]; exact hok)); rw [bof_t.2 hok]; clear hok; go_wp2; go_roundw
      case rel => exact ⟨k + 1, by omega, by go_num, HT2.out, HB2.out⟩
      case measure => simp [intOf]; omega
    · have hno := hid (show ¬ DevOk bs from fun h => hok (by have := h.2 k (by have := HL.out; omega); rw [HP.out] at this; exact this)); rw [bof_f.2 hok]; clear hok; go_wp2; go_ret; exact ⟨ret_bof_f hno.out, HB2.out⟩
  · obtain rfl : k = n := by omega
    by_cases h1 : 1 ≤ k ∧ k ≤ 12
    · have hb : inB (k : Int) 1 12 = true := by rw [inB_t]; omega
      have hyes := hid (show DevOk bs from ⟨by have := HL.out; omega, by rw [HL.out]; exact HT.out⟩); go_wp2_with (go_at_call 53; refine (l1In_c _ _ _ _).mono ?_; rw [hb]; rintro e w' ⟨rfl, rfl⟩)
      go_ret; exact ⟨ret_bof_t hyes.out, HBL.out⟩
    · have hb : inB (k : Int) 1 12 = false := by rw [inB_f]; omega
      have hno := hid (show ¬ DevOk bs from fun h => by have := h.1; have := HL.out; omega); go_wp2_with (go_at_call 53; refine (l1In_c _ _ _ _).mono ?_; rw [hb]; rintro e w' ⟨rfl, rfl⟩)
      go_ret; exact ⟨ret_bof_f hno.out, HBL.out⟩
end Go.Proofs.YtefdjahaimnndaaGreatDoor
