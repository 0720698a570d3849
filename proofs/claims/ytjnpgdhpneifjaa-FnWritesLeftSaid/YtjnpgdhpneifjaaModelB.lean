/- What the functions on blocks and devices compute, in plain Lean. No condition. -/
import Derived.Test.YtjnpgdhpneifjaaDev
namespace Go.Proofs.Ytjnpgdhpneifjaa
set_option linter.unusedVariables false
set_option linter.unusedSimpArgs false

def nextFrom (ps : List PageV) : Nat → Nat → Int
  | _, 0 => -1
  | k, m + 1 => if (ps.getD k noPage).full = true then nextFrom ps (k + 1) m else k
/-- the number of the first page that is not full; -1 without one -/
def nextP (ps : List PageV) : Int := nextFrom ps 0 ps.length
theorem nextFrom_at {ps : List PageV} : ∀ {m k j : Nat}, k ≤ j → j < k + m → (∀ i, k ≤ i → i < j → (ps.getD i noPage).full = true) → (ps.getD j noPage).full = false → nextFrom ps k m = j
  | 0, k, j, h1, h2, _, _ => by omega
  | m + 1, k, j, h1, h2, h3, h4 => by
    unfold nextFrom
    by_cases e : k = j
    · subst e; rw [if_neg (by rw [h4]; simp)]
    · rw [if_pos (h3 k (Nat.le_refl _) (by omega))]
      exact nextFrom_at (by omega) (by omega) (fun i hi hj => h3 i (by omega) hj) h4
theorem nextFrom_none {ps : List PageV} : ∀ {m k : Nat}, (∀ i, k ≤ i → i < k + m → (ps.getD i noPage).full = true) → nextFrom ps k m = -1
  | 0, k, _ => rfl
  | m + 1, k, h => by
    unfold nextFrom
    rw [if_pos (h k (Nat.le_refl _) (by omega))]
    exact nextFrom_none (fun i hi hj => h i (by omega) (by omega))
theorem nextFrom_or {ps : List PageV} : ∀ {m k : Nat}, (nextFrom ps k m = -1 ∧ ∀ i, k ≤ i → i < k + m → (ps.getD i noPage).full = true) ∨ ∃ j : Nat, nextFrom ps k m = j ∧ k ≤ j ∧ j < k + m ∧ (ps.getD j noPage).full = false ∧ ∀ i, k ≤ i → i < j → (ps.getD i noPage).full = true
  | 0, k => .inl ⟨rfl, fun i _ _ => by omega⟩
  | m + 1, k => by
    unfold nextFrom
    by_cases h : (ps.getD k noPage).full = true
    · rw [if_pos h]
      rcases nextFrom_or (ps := ps) (m := m) (k := k + 1) with ⟨h1, h2⟩ | ⟨j, h1, h2, h3, h4, h5⟩
      · refine .inl ⟨h1, fun i hi hj => ?_⟩
        by_cases e : i = k
        · subst e; exact h
        · exact h2 i (by omega) (by omega)
      · refine .inr ⟨j, h1, by omega, by omega, h4, fun i hi hj => ?_⟩
        by_cases e : i = k
        · subst e; exact h
        · exact h5 i (by omega) hj
    · rw [if_neg h]
      exact .inr ⟨k, rfl, Nat.le_refl _, by omega, by simpa using h, fun i hi hj => by omega⟩
theorem nextP_at {ps : List PageV} {k : Nat} (hk : k < ps.length) (h : ∀ i, i < k → (ps.getD i noPage).full = true) (hf : (ps.getD k noPage).full = false) : nextP ps = k :=
  nextFrom_at (Nat.zero_le _) (by omega) (fun i _ hi => h i hi) hf
theorem nextP_none {ps : List PageV} (h : ∀ i, i < ps.length → (ps.getD i noPage).full = true) : nextP ps = -1 :=
  nextFrom_none (fun i _ hi => h i (by omega))
theorem nextP_or (ps : List PageV) : (nextP ps = -1 ∧ ∀ i, i < ps.length → (ps.getD i noPage).full = true) ∨ ∃ j : Nat, nextP ps = j ∧ j < ps.length ∧ (ps.getD j noPage).full = false ∧ ∀ i, i < j → (ps.getD i noPage).full = true := by
  unfold nextP
  rcases nextFrom_or (ps := ps) (m := ps.length) (k := 0) with ⟨h1, h2⟩ | ⟨j, h1, h2, h3, h4, h5⟩
  · exact .inl ⟨h1, fun i hi => h2 i (Nat.zero_le _) (by omega)⟩
  · exact .inr ⟨j, h1, by omega, h4, fun i hi => h5 i (Nat.zero_le _) hi⟩
/-- a block with a page written behind its full ones -/
def writeF (b : BlockV) (p : PageV) : BlockV := if nextP b.pages < 0 then b else ⟨b.wear, b.pages.set (nextP b.pages).toNat p⟩
theorem writeF_wear (b : BlockV) (p : PageV) : (writeF b p).wear = b.wear := by unfold writeF; split <;> rfl
theorem writeF_len (b : BlockV) (p : PageV) : (writeF b p).pages.length = b.pages.length := by unfold writeF; split <;> simp
theorem getD_setP (ps : List PageV) (i j : Nat) (p : PageV) : (ps.set i p).getD j noPage = if i = j ∧ i < ps.length then p else ps.getD j noPage := by
  rw [List.getD_eq_getElem?_getD, List.getD_eq_getElem?_getD, List.getElem?_set]
  by_cases h : i = j
  · subst h
    by_cases h2 : i < ps.length
    · simp [h2]
    · simp [h2, List.getElem?_eq_none (Nat.le_of_not_lt h2)]
  · simp [h]
theorem writeF_ok {b : BlockV} {p : PageV} (hb : BlockOk b) (hp : PageOk p) (hf : p.full = true) : BlockOk (writeF b p) := by
  unfold writeF
  split
  · exact hb
  · next hn =>
    rcases nextP_or b.pages with ⟨h1, _⟩ | ⟨j, h1, h2, h3, h4⟩
    · omega
    · rw [h1, Int.toNat_natCast]
      obtain ⟨hw, hl, hpg⟩ := hb
      refine ⟨hw, by simpa using hl, fun i hi => ?_⟩
      simp only [getD_setP]
      have hi' := hpg i hi
      refine ⟨?_, fun h0 hfi => ?_⟩
      · split
        · exact hp
        · exact hi'.1
      · by_cases e : j = i - 1
        · rw [if_pos ⟨e, h2⟩]; exact hf
        · rw [if_neg (fun h => e h.1)]
          by_cases e2 : j = i
          · exact h4 (i - 1) (by omega)
          · rw [if_neg (fun h => e2 h.1)] at hfi
            exact hi'.2 h0 hfi
/-- a device with a page written into block n; the page's number -/
def progB (bs : List BlockV) (n : Nat) (p : PageV) : List BlockV := bs.set n (writeF (bs.getD n noBlock) p)
def progAt (bs : List BlockV) (n : Nat) : Int := if nextP (bs.getD n noBlock).pages < 0 then -1 else n * 4 + nextP (bs.getD n noBlock).pages
theorem progB_len (bs : List BlockV) (n : Nat) (p : PageV) : (progB bs n p).length = bs.length := by unfold progB; simp
theorem getD_setB (bs : List BlockV) (i j : Nat) (b : BlockV) : (bs.set i b).getD j noBlock = if i = j ∧ i < bs.length then b else bs.getD j noBlock := by
  rw [List.getD_eq_getElem?_getD, List.getD_eq_getElem?_getD, List.getElem?_set]
  by_cases h : i = j
  · subst h
    by_cases h2 : i < bs.length
    · simp [h2]
    · simp [h2, List.getElem?_eq_none (Nat.le_of_not_lt h2)]
  · simp [h]
theorem devOk_set {bs : List BlockV} {n : Nat} {b : BlockV} (h : DevOk bs) (hb : BlockOk b) : DevOk (bs.set n b) := by
  refine ⟨by simpa using h.1, fun i hi => ?_⟩
  rw [getD_setB]
  split
  · exact hb
  · exact h.2 i (by simpa using hi)
theorem progB_ok {bs : List BlockV} {n : Nat} {p : PageV} (h : DevOk bs) (hn : n < bs.length) (hp : PageOk p) (hf : p.full = true) : DevOk (progB bs n p) := devOk_set h (writeF_ok (h.2 n hn) hp hf)
/-- a block erased -/
def eraseF (b : BlockV) : BlockV := if b.wear = 100 then b else ⟨b.wear + 1, [noPage, noPage, noPage, noPage]⟩
theorem eraseF_ok {b : BlockV} (h : BlockOk b) : BlockOk (eraseF b) := by
  unfold eraseF
  split
  · exact h
  · next hw =>
    obtain ⟨⟨h1, h2⟩, _⟩ := h
    refine ⟨by simp only; omega, rfl, fun i hi => ?_⟩
    have hg : ∀ j, j < 4 → ([noPage, noPage, noPage, noPage] : List PageV).getD j noPage = noPage := by
      intro j hj
      have : j = 0 ∨ j = 1 ∨ j = 2 ∨ j = 3 := by omega
      rcases this with rfl | rfl | rfl | rfl <;> rfl
    simp only
    rw [hg i hi]
    exact ⟨by decide, fun _ h => by cases h⟩
def eraseB (bs : List BlockV) (n : Nat) : List BlockV := bs.set n (eraseF (bs.getD n noBlock))
theorem eraseB_len (bs : List BlockV) (n : Nat) : (eraseB bs n).length = bs.length := by unfold eraseB; simp
theorem eraseB_ok {bs : List BlockV} {n : Nat} (h : DevOk bs) (hn : n < bs.length) : DevOk (eraseB bs n) := devOk_set h (eraseF_ok (h.2 n hn))
end Go.Proofs.Ytjnpgdhpneifjaa
