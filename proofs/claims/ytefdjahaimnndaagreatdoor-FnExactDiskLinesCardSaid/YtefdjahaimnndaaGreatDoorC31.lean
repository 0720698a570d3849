/- Parts of the proof, one after the other. -/
import Derived.Test.YtefdjahaimnndaaGreatDoorC14
import Derived.Test.YtefdjahaimnndaaGreatDoorC11
import Derived.Test.YtefdjahaimnndaaGreatDoorC10
import Derived.Test.YtefdjahaimnndaaGreatDoorC6
import Derived.Test.YtefdjahaimnndaaGreatDoorC4
namespace Go.Proofs.YtefdjahaimnndaaGreatDoor
open Go.ChangeShapes Go.WideShapes Go.ChangeAt Go.RowKit Go.Deep
open Go.Lib (hid)
set_option linter.unusedVariables false
set_option linter.unusedSimpArgs false
theorem preH_iff {n : Nat} {x y z : Int} : PreH n [x, y, z] 3 ↔ ((-1 ≤ x ∧ x ≤ (n : Int) - 1) ∧ (-1 ≤ y ∧ y ≤ (n : Int) - 1) ∧ (-1 ≤ z ∧ z ≤ (n : Int) - 1)) ∧ (0 ≤ y → x ≠ y) ∧ (0 ≤ z → x ≠ z) ∧ (0 ≤ z → y ≠ z) := by
 constructor
 · intro h
   refine ⟨⟨(h 0 (by omega)).1, (h 1 (by omega)).1, (h 2 (by omega)).1⟩, (h 1 (by omega)).2 0 (by omega), (h 2 (by omega)).2 0 (by omega), (h 2 (by omega)).2 1 (by omega)⟩
 · rintro ⟨⟨hx, hy, hz⟩, h1, h2, h3⟩ i hi; have : i = 0 ∨ i = 1 ∨ i = 2 := by omega
   rcases this with rfl | rfl | rfl
   · exact ⟨hx, fun j hj => by omega⟩
   · refine ⟨hy, fun j hj => ?_⟩; obtain rfl : j = 0 := by omega
     exact h1
   · refine ⟨hz, fun j hj => ?_⟩; have : j = 0 ∨ j = 1 := by omega
     rcases this with rfl | rfl
     · exact h2
     · exact h3
theorem freshTo_not (bs : List BlockV) (h : HeadV) : ∀ k, 0 ≤ freshTo bs h k → h.has (freshTo bs h k) = false
 | 0, h0 => by unfold freshTo at h0; omega
 | k + 1, h0 => by
  unfold freshTo at h0 ⊢; split at h0
  · next hc => rw [if_pos hc]; exact freshTo_not bs h k h0
  · next hc =>
    rw [if_neg hc]; have hk : h.has (k : Int) = false := by
     cases e : h.has (k : Int) with
     | false => rfl
     | true => exact absurd (by rw [e]; rfl) hc
    split at h0
    · next hd => rw [if_pos hd]; exact hk
    · next hd => rw [if_neg hd]; exact freshTo_not bs h k h0
theorem has_not {h : HeadV} {k : Int} (e : h.has k = false) : k ≠ h.x ∧ k ≠ h.y ∧ k ≠ h.z := by
 unfold HeadV.has at e; simp only [Bool.or_eq_false_iff, beq_eq_false_iff_ne] at e; exact ⟨e.1.1, e.1.2, e.2⟩
theorem set_ok {n : Nat} {h : HeadV} {k : Int} {heat : Nat} (hp : PreH n [h.x, h.y, h.z] 3) (h0 : 0 ≤ k) (h1 : k < n) (hn : h.has k = false) : PreH n [(h.set heat k).x, (h.set heat k).y, (h.set heat k).z] 3 := by
 have hh := has_not hn; rw [preH_iff] at hp ⊢; unfold HeadV.set; split
 · simp only; omega
 · split
   · simp only; omega
   · simp only; omega
theorem appendN_range {bs : List BlockV} {h : HeadV} {heat : Nat} (hok : HeadsOk bs h.x h.y h.z) (hh : heat ≤ 2) : -1 ≤ appendN bs h heat ∧ appendN bs h heat < bs.length := by
 unfold appendN; have h1 := freshTo_range bs h bs.length; have h2 := heads_range hok hh; split
 · unfold freshF; omega
 · omega
theorem appendF_ok {bs : List BlockV} {h : HeadV} {heat : Nat} {p : PageV} (hok : HeadsOk bs h.x h.y h.z) (hh : heat ≤ 2) (hp : PageOk p) (hf : p.full = true) :
 HeadsOk (appendF bs h heat p).bs (appendF bs h heat p).h.x (appendF bs h heat p).h.y (appendF bs h heat p).h.z := by
 have hr := appendN_range hok hh; by_cases hn : appendN bs h heat < 0
 · rw [appendF_none ⟨hp, hf⟩ hn]; exact hok
 · obtain ⟨n, e⟩ : ∃ n : Nat, appendN bs h heat = n := ⟨(appendN bs h heat).toNat, by omega⟩; rw [appendF_at ⟨hp, hf⟩ e]; refine ⟨progB_ok hok.1 (by omega) hp hf, ?_⟩; simp only
   rw [progB_len]; have key : (n : Int) = h.get heat ∨ ((n : Int) = freshF bs h) := by
    rw [← e]; unfold appendN; split
    · exact .inr rfl
    · exact .inl rfl
   rcases key with k | k
   · rw [k, head_set_get]; exact hok.2
   · have hnot := freshTo_not bs h bs.length (by unfold freshF at k; omega); rw [show freshTo bs h bs.length = (n : Int) from k.symm] at hnot; exact set_ok hok.2 (by omega) (by omega) hnot
theorem appendF_len {bs : List BlockV} {h : HeadV} {heat : Nat} {p : PageV} (hp : PageOk p ∧ p.full = true) : (appendF bs h heat p).bs.length = bs.length := by
 unfold appendF; rw [if_pos hp]; split
 · rfl
 · exact progB_len _ _ _
def setE (ts : List (List Int)) (f k : Nat) (v : Int) : List (List Int) := ts.set f ((ts.getD f []).set k v)
structure CleanV where
 bs : List BlockV
 ts : List (List Int)
 h : HeadV
 many : Nat
noncomputable def cleanTo (bs : List BlockV) (ts : List (List Int)) (h : HeadV) (n : Nat) (st : Int) : Nat → Option CleanV
 | 0 => some ⟨bs, ts, h, 0⟩
 | k + 1 =>
  match cleanTo bs ts h n st k with
  | none => none
  | some s =>
   if tE ts ((bs.getD n noBlock).pages.getD k noPage).file.toNat ((bs.getD n noBlock).pages.getD k noPage).place.toNat ≠ (n : Int) * 4 + (k : Int) then some s
   else if (appendF s.bs s.h 2 ⟨true, ((bs.getD n noBlock).pages.getD k noPage).file, ((bs.getD n noBlock).pages.getD k noPage).place, ((bs.getD n noBlock).pages.getD k noPage).value, st + (s.many : Int)⟩).at_ < 0 then none
   else some ⟨(appendF s.bs s.h 2 ⟨true, ((bs.getD n noBlock).pages.getD k noPage).file, ((bs.getD n noBlock).pages.getD k noPage).place, ((bs.getD n noBlock).pages.getD k noPage).value, st + (s.many : Int)⟩).bs,
    setE s.ts ((bs.getD n noBlock).pages.getD k noPage).file.toNat ((bs.getD n noBlock).pages.getD k noPage).place.toNat (appendF s.bs s.h 2 ⟨true, ((bs.getD n noBlock).pages.getD k noPage).file, ((bs.getD n noBlock).pages.getD k noPage).place, ((bs.getD n noBlock).pages.getD k noPage).value, st + (s.many : Int)⟩).at_,
    (appendF s.bs s.h 2 ⟨true, ((bs.getD n noBlock).pages.getD k noPage).file, ((bs.getD n noBlock).pages.getD k noPage).place, ((bs.getD n noBlock).pages.getD k noPage).value, st + (s.many : Int)⟩).h, s.many + 1⟩
theorem cleanTo_step {bs : List BlockV} {ts : List (List Int)} {h : HeadV} {n : Nat} {st : Int} {k : Nat} {s : CleanV} (hs : cleanTo bs ts h n st k = some s) :
 (tE ts ((bs.getD n noBlock).pages.getD k noPage).file.toNat ((bs.getD n noBlock).pages.getD k noPage).place.toNat ≠ (n : Int) * 4 + (k : Int) → cleanTo bs ts h n st (k + 1) = some s) ∧
 (tE ts ((bs.getD n noBlock).pages.getD k noPage).file.toNat ((bs.getD n noBlock).pages.getD k noPage).place.toNat = (n : Int) * 4 + (k : Int) → cleanTo bs ts h n st (k + 1) =
  if (appendF s.bs s.h 2 ⟨true, ((bs.getD n noBlock).pages.getD k noPage).file, ((bs.getD n noBlock).pages.getD k noPage).place, ((bs.getD n noBlock).pages.getD k noPage).value, st + (s.many : Int)⟩).at_ < 0 then none
  else some ⟨(appendF s.bs s.h 2 ⟨true, ((bs.getD n noBlock).pages.getD k noPage).file, ((bs.getD n noBlock).pages.getD k noPage).place, ((bs.getD n noBlock).pages.getD k noPage).value, st + (s.many : Int)⟩).bs,
   setE s.ts ((bs.getD n noBlock).pages.getD k noPage).file.toNat ((bs.getD n noBlock).pages.getD k noPage).place.toNat (appendF s.bs s.h 2 ⟨true, ((bs.getD n noBlock).pages.getD k noPage).file, ((bs.getD n noBlock).pages.getD k noPage).place, ((bs.getD n noBlock).pages.getD k noPage).value, st + (s.many : Int)⟩).at_,
   (appendF s.bs s.h 2 ⟨true, ((bs.getD n noBlock).pages.getD k noPage).file, ((bs.getD n noBlock).pages.getD k noPage).place, ((bs.getD n noBlock).pages.getD k noPage).value, st + (s.many : Int)⟩).h, s.many + 1⟩) := by
 constructor
 · intro h1
   simp only [cleanTo, hs]; rw [if_pos h1]
 · intro h1
   simp only [cleanTo, hs]; rw [if_neg (fun h => h h1)]
theorem cleanTo_none1 {bs : List BlockV} {ts : List (List Int)} {h : HeadV} {n : Nat} {st : Int} {k : Nat} (hk : cleanTo bs ts h n st k = none) : ∀ j, cleanTo bs ts h n st (k + j) = none
 | 0 => hk
 | j + 1 => by
  have := cleanTo_none1 hk j; rw [← Nat.add_assoc]; simp only [cleanTo, this]
theorem cleanTo_none {bs : List BlockV} {ts : List (List Int)} {h : HeadV} {n : Nat} {st : Int} {k : Nat} (hk : cleanTo bs ts h n st k = none) (h4 : k ≤ 4) : cleanTo bs ts h n st 4 = none := by
 have := cleanTo_none1 hk (4 - k); rwa [show k + (4 - k) = 4 by omega] at this
structure CleanR where
 bs : List BlockV
 ts : List (List Int)
 h : HeadV
 many : Nat
 ok : Bool
noncomputable def cleanF (bs : List BlockV) (ts : List (List Int)) (h : HeadV) (n : Nat) (st : Int) : CleanR :=
 match cleanTo bs ts h n st 4 with
 | none => ⟨bs, ts, h, 0, false⟩
 | some s => if (s.bs.getD n noBlock).wear = 100 then ⟨bs, ts, h, 0, false⟩ else ⟨eraseB s.bs n, s.ts, s.h, s.many, true⟩
theorem cleanF_none {bs : List BlockV} {ts : List (List Int)} {h : HeadV} {n : Nat} {st : Int} (hk : cleanTo bs ts h n st 4 = none) : cleanF bs ts h n st = ⟨bs, ts, h, 0, false⟩ := by unfold cleanF; rw [hk]
theorem cleanF_worn {bs : List BlockV} {ts : List (List Int)} {h : HeadV} {n : Nat} {st : Int} {s : CleanV} (hk : cleanTo bs ts h n st 4 = some s) (hw : (s.bs.getD n noBlock).wear = 100) : cleanF bs ts h n st = ⟨bs, ts, h, 0, false⟩ := by unfold cleanF; rw [hk]; exact if_pos hw
theorem cleanF_some {bs : List BlockV} {ts : List (List Int)} {h : HeadV} {n : Nat} {st : Int} {s : CleanV} (hk : cleanTo bs ts h n st 4 = some s) (hw : ¬ (s.bs.getD n noBlock).wear = 100) : cleanF bs ts h n st = ⟨eraseB s.bs n, s.ts, s.h, s.many, true⟩ := by unfold cleanF; rw [hk]; exact if_neg hw
def ShapeT (ts : List (List Int)) : Prop := ts.length = 8 ∧ ∀ i, i < 8 → (ts.getD i []).length = 6
theorem shapeT_of {ts : List (List Int)} (h : TableOk ts) : ShapeT ts := ⟨h.1, fun i hi => h.2.1 i hi⟩
theorem shapeT_set {ts : List (List Int)} {f k : Nat} {v : Int} (h : ShapeT ts) (hf : f < 8) : ShapeT (setE ts f k v) := by
 unfold setE; refine ⟨by simpa using h.1, fun i hi => ?_⟩; rw [List.getD_eq_getElem?_getD, List.getElem?_set]; have := h.2 i hi; rw [List.getD_eq_getElem?_getD] at this; have hl := h.1; by_cases e : f = i
 · subst e; rw [if_pos rfl, if_pos (by omega)]; simp only [Option.getD_some, List.length_set, List.getD_eq_getElem?_getD]; exact this
 · rw [if_neg e]; exact this
def OwnC (w0 : World) (R : CleanR) (e : Ending) (w' : World) : Prop :=
 ∃ A c tA tc, e = .returned (.tuple #[.slice A R.bs.length c, .agg #[.slice tA R.ts.length tc], hdv R.h, .int .i64 (R.many : Int), .bool R.ok]) ∧ OwB w' w0.heap.size A R.bs.length c R.bs ∧ OwT w' w0.heap.size tA R.ts.length tc R.ts ∧ Below w0.heap.size w0 w'
theorem ownC_of {w0 w' : World} {R : CleanR} {A tA : Option Addr} {n c tc : Nat} (hl : R.bs.length = n) (ht : R.ts.length = 8) (hD : OwB w' w0.heap.size A n c R.bs) (hE : OwT w' w0.heap.size tA 8 tc R.ts) (hB : Below w0.heap.size w0 w') :
 OwnC w0 R (.returned (.tuple #[.slice A n c, .agg #[.slice tA 8 tc], hdv R.h, .int .i64 (R.many : Int), .bool R.ok])) w' := by
 subst hl; rw [← ht] at hE ⊢; exact ⟨_, _, _, _, rfl, hD, hE, hB⟩
theorem owT_set3 {w : World} {base n c g : Nat} {A : Option Addr} {ts : List (List Int)} {cs : Array Value} (h : OwT w base A n c ts) (k : Blk w g 28 cs) (u0 u1 u2 : Value) : OwT (((w.setCell ⟨g, 0, none⟩ u0).setCell ⟨g, 1, none⟩ u1).setCell ⟨g, 2, none⟩ u2) base A n c ts :=
 ((h.typed (ChgT.blk k 0 u0) (by decide) (by decide)).typed (ChgT.blk (k.set_ 0 u0) 1 u1) (by decide) (by decide)).typed (ChgT.blk ((k.set_ 0 u0).set_ 1 u1) 2 u2) (by decide) (by decide)
theorem OwT.row_ne {w : World} {base g n c i gr n' c' : Nat} {ts : List (List Int)} (h : OwT w base (some ⟨g, 0, none⟩) n c ts) (hi : i < n) (hc : w.cell? ⟨g, i, none⟩ = some (.slice (some ⟨gr, 0, none⟩) n' c')) : gr ≠ g := by
 obtain ⟨hs, h⟩ := h; obtain ⟨c1, r⟩ := h.listCells i hi; have e : hs.getD i nilV = .slice (some ⟨gr, 0, none⟩) n' c' := by rw [c1] at hc; injection hc
 rw [e] at r; intro he
 subst he; exact own_ne h.main r (by decide) gr rfl rfl
theorem pgAt_len {bs bs' : List BlockV} {v : Int} (hl : bs'.length = bs.length) (h : 0 ≤ v → v < 4 * (bs.length : Int) → (bs'.getD (v.toNat / 4) noBlock).pages.getD (v.toNat % 4) noPage = (bs.getD (v.toNat / 4) noBlock).pages.getD (v.toNat % 4) noPage) : pgAt bs' v = pgAt bs v := by
 unfold pgAt; rw [hl]; by_cases hv : 0 ≤ v ∧ v < 4 * (bs.length : Int)
 · rw [if_pos hv, if_pos hv]; exact h hv.1 hv.2
 · rw [if_neg hv, if_neg hv]
theorem pgAt_blk {bs : List BlockV} {n j : Nat} (hn : n < bs.length) (hj : j < 4) : pgAt bs ((n : Int) * 4 + (j : Int)) = (bs.getD n noBlock).pages.getD j noPage := by
 have e : ((n : Int) * 4 + (j : Int)) = ((n * 4 + j : Nat) : Int) := by omega
 rw [e, pgAt_in (by omega)]; unfold pageN; rw [show (n * 4 + j) / 4 = n by omega, show (n * 4 + j) % 4 = j by omega]
structure AppK (bs : List BlockV) (R : AppV) (p : PageV) (n j : Nat) : Prop where
 at_ : R.at_ = (n : Int) * 4 + (j : Int)
 nlt : n < bs.length
 jlt : j < 4
 old : (pgAt bs R.at_).full = false
 new : pgAt R.bs R.at_ = p
 rest : ∀ v, v ≠ R.at_ → pgAt R.bs v = pgAt bs v
 len : R.bs.length = bs.length
 nx : nextP (bs.getD n noBlock).pages = (j : Int)
 blk : ∀ m, m ≠ n → R.bs.getD m noBlock = bs.getD m noBlock
 wear : ∀ m, (R.bs.getD m noBlock).wear = (bs.getD m noBlock).wear
theorem appendF_kept {bs : List BlockV} {h : HeadV} {heat : Nat} {p : PageV} (hok : HeadsOk bs h.x h.y h.z) (hh : heat ≤ 2) (hp : PageOk p ∧ p.full = true) (h0 : 0 ≤ (appendF bs h heat p).at_) : ∃ n j, AppK bs (appendF bs h heat p) p n j := by
 have hr := appendN_range hok hh; by_cases hn : appendN bs h heat < 0
 · rw [appendF_none hp hn] at h0; simp only at h0; omega
 · obtain ⟨n, e⟩ : ∃ n : Nat, appendN bs h heat = n := ⟨(appendN bs h heat).toNat, by omega⟩; rw [appendF_at hp e] at h0 ⊢; simp only at h0; have hnl : n < bs.length := by omega
   have hb := hok.1.2 n hnl; have hl4 := hb.2.1; rcases nextP_or (bs.getD n noBlock).pages with ⟨h1, _⟩ | ⟨j, h1, h2, h3, h4⟩
   · unfold progAt at h0; rw [if_pos (by omega)] at h0; omega
   · have hat : progAt bs n = (n : Int) * 4 + (j : Int) := by unfold progAt; rw [if_neg (by omega), h1]
     have hj4 : j < 4 := by omega
     have hw : writeF (bs.getD n noBlock) p = ⟨(bs.getD n noBlock).wear, (bs.getD n noBlock).pages.set j p⟩ := by unfold writeF; rw [if_neg (by omega), h1, Int.toNat_natCast]
     refine ⟨n, j, hat, hnl, hj4, ?_, ?_, ?_, progB_len _ _ _, h1, ?_, ?_⟩
     · simp only
       rw [hat, pgAt_blk hnl hj4]; exact h3
     · simp only
       rw [hat, pgAt_blk (by rw [progB_len]; exact hnl) hj4]; unfold progB; rw [getD_setB, if_pos ⟨rfl, hnl⟩, hw]; simp only
       rw [getD_setP, if_pos ⟨rfl, h2⟩]
     · intro v hv
       simp only at hv ⊢; rw [hat] at hv; refine pgAt_len (progB_len _ _ _) (fun hv0 hv1 => ?_); unfold progB; rw [getD_setB]; by_cases e1 : n = v.toNat / 4
       · rw [if_pos ⟨e1, hnl⟩, hw]; simp only
         rw [getD_setP, if_neg (by omega), e1]
       · rw [if_neg (fun h => e1 h.1)]
     · intro m hm
       simp only
       unfold progB; rw [getD_setB, if_neg (fun h => hm h.1.symm)]
     · intro m
       simp only
       unfold progB; rw [getD_setB]; split
       · next h5 => rw [hw, h5.1]
       · rfl
theorem tE_set {ts : List (List Int)} {f k a b : Nat} {v : Int} (hf : f < ts.length) (hk : k < (ts.getD f []).length) : tE (setE ts f k v) a b = if a = f ∧ b = k then v else tE ts a b := by
 unfold tE setE; rw [List.getD_eq_getElem?_getD, List.getD_eq_getElem?_getD (l := ts.set _ _), List.getElem?_set]; by_cases e : f = a
 · subst e; rw [if_pos rfl, if_pos hf, Option.getD_some, List.getElem?_set]; by_cases e2 : k = b
   · subst e2; rw [if_pos rfl, if_pos hk, if_pos ⟨rfl, rfl⟩]; rfl
   · rw [if_neg e2, if_neg (fun h => e2 h.2.symm)]; simp only [List.getD_eq_getElem?_getD]
 · rw [if_neg e, if_neg (fun h => e h.1.symm)]; simp only [List.getD_eq_getElem?_getD]
theorem rowLen_set {ts : List (List Int)} {f k a : Nat} {v : Int} : ((setE ts f k v).getD a []).length = (ts.getD a []).length := by
 unfold setE; rw [List.getD_eq_getElem?_getD, List.getElem?_set]; by_cases e : f = a
 · subst e; rw [if_pos rfl]; split
   · simp
   · next h => rw [List.getD_eq_getElem?_getD, List.getElem?_eq_none (by omega)]
 · rw [if_neg e, List.getD_eq_getElem?_getD]
theorem tableOk_set {ts : List (List Int)} {f k : Nat} {v : Int} (h : TableOk ts) (hf : f < 8) (hk : k < 6) (hv : 0 ≤ v ∧ v ≤ 47) (hno : ∀ a b, a < 8 → b < 6 → tE ts a b ≠ v) : TableOk (setE ts f k v) := by
 have hT : ∀ a b, tE (setE ts f k v) a b = if a = f ∧ b = k then v else tE ts a b := fun a b => tE_set (by rw [h.1]; exact hf) (by rw [h.2.1 f hf]; exact hk)
 refine ⟨by unfold setE; simpa using h.1, fun a ha => by rw [rowLen_set]; exact h.2.1 a ha, fun a b hb hbef => ?_⟩; rw [rowLen_set] at hb; have ha : a < 8 := by rcases hbef with h1 | ⟨_, h1⟩ <;> omega
 have hb6 : b < 6 := by rw [h.2.1 a ha] at hb; exact hb
 have hold := h.2.2 a b hb (.inl ha); refine ⟨?_, fun a' b' hb' hbef' h0 => ?_⟩
 · rw [hT]; split
   · omega
   · exact hold.1
 · rw [rowLen_set] at hb'; have ha' : a' < 8 := by rcases hbef' with h1 | ⟨h1, _⟩ <;> omega
   have hb6' : b' < 6 := by rw [h.2.1 a' ha'] at hb'; exact hb'
   rw [hT] at h0; rw [hT, hT]; by_cases e1 : a = f ∧ b = k
   · rw [if_pos e1]; rw [if_neg (show ¬ (a' = f ∧ b' = k) by rcases hbef' with h1 | ⟨h1, h2⟩ <;> omega)]; exact hno a' b' ha' hb6'
   · rw [if_neg e1] at h0 ⊢; by_cases e2 : a' = f ∧ b' = k
     · rw [if_pos e2]; exact (hno a b ha hb6).symm
     · rw [if_neg e2]; exact hold.2 a' b' hb' hbef' h0
theorem fits_not {bs : List BlockV} {ts : List (List Int)} {v : Int} (hfit : DiskFits bs ts) (hv : 0 ≤ v) (h : (pgAt bs v).full = false) : ∀ a b, a < 8 → b < 6 → tE ts a b ≠ v := by
 intro a b ha hb e
 rcases hfit a ha b hb with h1 | h1
 · omega
 · rw [e, h] at h1; exact absurd h1.1 (by simp)
structure CleanK (bs : List BlockV) (ts : List (List Int)) (n : Nat) (s : CleanV) (k : Nat) : Prop where
 heads : HeadsOk s.bs s.h.x s.h.y s.h.z
 tab : TableOk s.ts
 fit : DiskFits s.bs s.ts
 len : s.bs.length = bs.length
 blk : s.bs.getD n noBlock = bs.getD n noBlock
 sign : ∀ a b, a < 8 → b < 6 → (tE s.ts a b < 0 ↔ tE ts a b < 0)
 val : ∀ a b, a < 8 → b < 6 → valE s.bs s.ts a b = valE bs ts a b
 left : ∀ a b, a < 8 → b < 6 → (n : Int) * 4 ≤ tE s.ts a b → tE s.ts a b < (n : Int) * 4 + 4 → tE s.ts a b = tE ts a b ∧ (n : Int) * 4 + (k : Int) ≤ tE s.ts a b
 many : s.many ≤ k
theorem cleanK_zero {bs : List BlockV} {ts : List (List Int)} {h : HeadV} {n : Nat} (hok : HeadsOk bs h.x h.y h.z) (ht : TableOk ts) (hfit : DiskFits bs ts) : CleanK bs ts n ⟨bs, ts, h, 0⟩ 0 :=
 ⟨hok, ht, hfit, rfl, rfl, fun _ _ _ _ => Iff.rfl, fun _ _ _ _ => rfl, fun a b _ _ h1 h2 => ⟨rfl, by simp only at h1 ⊢; omega⟩, Nat.le_refl _⟩
theorem cleanK_skip {bs : List BlockV} {ts : List (List Int)} {n k : Nat} {s : CleanV} (hd : DevOk bs) (hn : n < bs.length) (hfull : ∀ k, k < 4 → ((bs.getD n noBlock).pages.getD k noPage).full = true) (hfit : DiskFits bs ts) (hk : k < 4) (c : CleanK bs ts n s k)
 (h : tE ts ((bs.getD n noBlock).pages.getD k noPage).file.toNat ((bs.getD n noBlock).pages.getD k noPage).place.toNat ≠ (n : Int) * 4 + (k : Int)) : CleanK bs ts n s (k + 1) := by
 refine ⟨c.heads, c.tab, c.fit, c.len, c.blk, c.sign, c.val, fun a b ha hb h1 h2 => ?_, Nat.le_succ_of_le c.many⟩; obtain ⟨e1, e2⟩ := c.left a b ha hb h1 h2; refine ⟨e1, ?_⟩; rcases Int.lt_or_le ((n : Int) * 4 + (k : Int)) (tE s.ts a b) with h3 | h3
 · omega
 · exfalso
   have e3 : tE ts a b = (n : Int) * 4 + (k : Int) := by omega
   have hp := hfit a ha b hb; rw [FitE, e3, pgAt_blk hn hk] at hp; rcases hp with hp | ⟨_, hp1, hp2⟩
   · omega
   · rw [hp1, hp2] at h; exact h (by simpa using e3)
theorem cleanK_move {bs : List BlockV} {ts : List (List Int)} {n k : Nat} {s : CleanV} {q : PageV} (hd : DevOk bs) (hn : n < bs.length) (hfull : ∀ k, k < 4 → ((bs.getD n noBlock).pages.getD k noPage).full = true) (hk : k < 4) (c : CleanK bs ts n s k)
 (hf : tE ts ((bs.getD n noBlock).pages.getD k noPage).file.toNat ((bs.getD n noBlock).pages.getD k noPage).place.toNat = (n : Int) * 4 + (k : Int))
 (hq : q.full = true ∧ q.file = ((bs.getD n noBlock).pages.getD k noPage).file ∧ q.place = ((bs.getD n noBlock).pages.getD k noPage).place ∧ q.value = ((bs.getD n noBlock).pages.getD k noPage).value)
 (hqo : PageOk q) (h0 : 0 ≤ (appendF s.bs s.h 2 q).at_) :
 CleanK bs ts n ⟨(appendF s.bs s.h 2 q).bs, setE s.ts ((bs.getD n noBlock).pages.getD k noPage).file.toNat ((bs.getD n noBlock).pages.getD k noPage).place.toNat (appendF s.bs s.h 2 q).at_, (appendF s.bs s.h 2 q).h, s.many + 1⟩ (k + 1) := by
 obtain ⟨m, j, A⟩ := appendF_kept c.heads (by omega) ⟨hqo, hq.1⟩ h0; have hH := appendF_ok (heat := 2) c.heads (by omega) hqo hq.1; generalize hR : appendF s.bs s.h 2 q = R at *; generalize hp : (bs.getD n noBlock).pages.getD k noPage = p at *; have hpf : p.full = true := by rw [← hp]; exact hfull k hk
 have hpo : PageOk p := by rw [← hp]; exact ((hd.2 n hn).2.2 k hk).1
 have hrange := hpo; unfold PageOk at hrange; rw [if_pos hpf] at hrange; obtain ⟨⟨f0, f1⟩, ⟨g0, g1⟩, _⟩ := hrange; have hF : p.file.toNat < 8 := by omega
 have hG : p.place.toNat < 6 := by omega
 have h12 : s.bs.length ≤ 12 := c.heads.1.1.2; have hAn := A.nlt; have hAj := A.jlt; have hAt := A.at_; have hno := fits_not c.fit h0 A.old; have hT : ∀ a b, tE (setE s.ts p.file.toNat p.place.toNat R.at_) a b = if a = p.file.toNat ∧ b = p.place.toNat then R.at_ else tE s.ts a b := fun a b => tE_set (by rw [c.tab.1]; exact hF) (by rw [c.tab.2.1 _ hF]; exact hG)
 have hmn : m ≠ n := by
  intro e
  have h1 := A.nx; rw [e, c.blk] at h1; rcases nextP_or (bs.getD n noBlock).pages with ⟨h2, _⟩ | ⟨i, h2, h3, h4, _⟩
  · omega
  · have := hfull i (by rw [(hd.2 n hn).2.1] at h3; exact h3); rw [h4] at this; exact absurd this (by simp)
 have hpg : ∀ a b, a < 8 → b < 6 → tE s.ts a b ≠ R.at_ ∧ pgAt R.bs (tE s.ts a b) = pgAt s.bs (tE s.ts a b) := fun a b ha hb => ⟨hno a b ha hb, A.rest _ (hno a b ha hb)⟩
 refine ⟨hH, tableOk_set c.tab hF hG ⟨h0, by omega⟩ hno, ?_, A.len.trans c.len, (A.blk n (Ne.symm hmn)).trans c.blk, ?_, ?_, ?_, Nat.succ_le_succ c.many⟩
 · intro a ha b hb
   show FitE R.bs (setE s.ts p.file.toNat p.place.toNat R.at_) a b
   unfold FitE; rw [hT]; by_cases e : a = p.file.toNat ∧ b = p.place.toNat
   · rw [if_pos e, A.new]; exact .inr ⟨hq.1, by rw [hq.2.1]; omega, by rw [hq.2.2.1]; omega⟩
   · rw [if_neg e, (hpg a b ha hb).2]; exact c.fit a ha b hb
 · intro a b ha hb
   show tE (setE s.ts p.file.toNat p.place.toNat R.at_) a b < 0 ↔ _
   rw [hT]; by_cases e : a = p.file.toNat ∧ b = p.place.toNat
   · rw [if_pos e, e.1, e.2, hf]; omega
   · rw [if_neg e]; exact c.sign a b ha hb
 · intro a b ha hb
   show valE R.bs (setE s.ts p.file.toNat p.place.toNat R.at_) a b = _
   by_cases e : a = p.file.toNat ∧ b = p.place.toNat
   · unfold valE; rw [hT, if_pos e, if_neg (by omega), A.new, hq.2.2.2, e.1, e.2, hf, if_neg (by omega), pgAt_blk hn hk, hp]
   · rw [← c.val a b ha hb]; unfold valE; rw [hT, if_neg e, (hpg a b ha hb).2]
 · intro a b ha hb h1 h2
   change (n : Int) * 4 ≤ tE (setE s.ts p.file.toNat p.place.toNat R.at_) a b at h1
   change tE (setE s.ts p.file.toNat p.place.toNat R.at_) a b < _ at h2
   show tE (setE s.ts p.file.toNat p.place.toNat R.at_) a b = _ ∧ _ ≤ tE (setE s.ts p.file.toNat p.place.toNat R.at_) a b
   rw [hT] at h1 h2 ⊢; by_cases e : a = p.file.toNat ∧ b = p.place.toNat
   · rw [if_pos e] at h1 h2; omega
   · rw [if_neg e] at h1 h2 ⊢; obtain ⟨e1, e2⟩ := c.left a b ha hb h1 h2; refine ⟨e1, ?_⟩; rcases Int.lt_or_le ((n : Int) * 4 + (k : Int)) (tE s.ts a b) with h3 | h3
     · omega
     · exfalso
       have e3 : tE s.ts a b = (n : Int) * 4 + (k : Int) := by omega
       have hb2 := c.fit a ha b hb; rw [FitE, e3] at hb2; have hpg2 : pgAt s.bs ((n : Int) * 4 + (k : Int)) = p := by rw [pgAt_blk (by rw [c.len]; exact hn) hk, c.blk, hp]
       rw [hpg2] at hb2; rcases hb2 with hb2 | ⟨_, hb3, hb4⟩
       · omega
       · exact e ⟨by omega, by omega⟩
theorem cleanTo_kept {bs : List BlockV} {ts : List (List Int)} {h : HeadV} {n : Nat} {st : Int} (hok : HeadsOk bs h.x h.y h.z) (ht : TableOk ts) (hfit : DiskFits bs ts) (hn : n < bs.length) (hfull : ∀ k, k < 4 → ((bs.getD n noBlock).pages.getD k noPage).full = true) (hs : 1 ≤ st ∧ st ≤ 999990) :
 ∀ k s, k ≤ 4 → cleanTo bs ts h n st k = some s → CleanK bs ts n s k
 | 0, s, _, e => by
  have : s = ⟨bs, ts, h, 0⟩ := by simp only [cleanTo, Option.some.injEq] at e; exact e.symm
  subst this; exact cleanK_zero hok ht hfit
 | k + 1, s', hk, e => by
  cases hc : cleanTo bs ts h n st k with
  | none => rw [show cleanTo bs ts h n st (k + 1) = none from cleanTo_none1 hc 1] at e; exact absurd e (by simp)
  | some s =>
   have c := cleanTo_kept hok ht hfit hn hfull hs k s (by omega) hc; obtain ⟨h1, h2⟩ := cleanTo_step hc; by_cases hf : tE ts ((bs.getD n noBlock).pages.getD k noPage).file.toNat ((bs.getD n noBlock).pages.getD k noPage).place.toNat = (n : Int) * 4 + (k : Int)
   · rw [h2 hf] at e; split at e
     · exact absurd e (by simp)
     · next h0 =>
       simp only [Option.some.injEq] at e; subst e; have hpo := ((hok.1.2 n hn).2.2 k (by omega)).1; have hpf := hfull k (by omega); have hm := c.many; refine cleanK_move hok.1 hn hfull (by omega) c hf ⟨rfl, rfl, rfl, rfl⟩ ?_ (by omega); unfold PageOk at hpo ⊢; rw [if_pos hpf] at hpo; rw [if_pos rfl]; exact ⟨hpo.1, hpo.2.1, hpo.2.2.1, by simp only; omega⟩
   · rw [h1 hf] at e; simp only [Option.some.injEq] at e; subst e; exact cleanK_skip hok.1 hn hfull hfit (by omega) c hf
theorem erase_page {bs : List BlockV} {n : Nat} {v : Int} (hv : ¬ ((n : Int) * 4 ≤ v ∧ v < (n : Int) * 4 + 4)) : pgAt (eraseB bs n) v = pgAt bs v := by
 refine pgAt_len (eraseB_len _ _) (fun h0 h1 => ?_); unfold eraseB; rw [getD_setB, if_neg (by omega)]
def SameVals (bs : List BlockV) (ts : List (List Int)) (bs' : List BlockV) (ts' : List (List Int)) : Prop := ∀ f, f < 8 → fres bs ts f = fres bs' ts' f ∧ (FitsF bs ts f ↔ FitsF bs' ts' f)
theorem fsTo_sign {ts ts' : List (List Int)} {f : Nat} (h : ∀ b, b < 6 → (tE ts' f b < 0 ↔ tE ts f b < 0)) : ∀ k, k ≤ 6 → fsTo ts' f k = fsTo ts f k
 | 0, _ => rfl
 | k + 1, hk => by
  have := h k (by omega); unfold fsTo; rw [fsTo_sign h k (by omega)]; by_cases e : 0 ≤ tE ts f k
  · rw [if_pos e, if_pos (by omega)]
  · rw [if_neg e, if_neg (by omega)]
theorem sameVals_of {bs bs' : List BlockV} {ts ts' : List (List Int)} (h1 : DiskFits bs ts) (h2 : DiskFits bs' ts') (hs : ∀ a b, a < 8 → b < 6 → (tE ts' a b < 0 ↔ tE ts a b < 0)) (hv : ∀ a b, a < 8 → b < 6 → valE bs' ts' a b = valE bs ts a b) : SameVals bs ts bs' ts' := by
 intro f hf
 refine ⟨?_, ⟨fun _ => h2 f hf, fun _ => h1 f hf⟩⟩; have e : fsize ts' f = fsize ts f := fsTo_sign (hs f · hf) 6 (Nat.le_refl _); unfold fres; rw [if_pos (h1 f hf), if_pos (h2 f hf)]; unfold fvals; rw [e]; refine List.map_congr_left (fun b hb => ?_); have := fsTo_le ts f 6; have hb' := List.mem_range.1 hb; exact (hv f b hf (by unfold fsize at hb'; omega)).symm
structure CleanedOk (bs : List BlockV) (ts : List (List Int)) (R : CleanR) : Prop where
 heads : HeadsOk R.bs R.h.x R.h.y R.h.z
 tab : TableOk R.ts
 fit : DiskFits R.bs R.ts
 vals : SameVals bs ts R.bs R.ts
 many : R.many ≤ 4
theorem cleanF_kept {bs : List BlockV} {ts : List (List Int)} {h : HeadV} {n : Nat} {st : Int} (hok : HeadsOk bs h.x h.y h.z) (ht : TableOk ts) (hfit : DiskFits bs ts) (hn : n < bs.length) (hfull : ∀ k, k < 4 → ((bs.getD n noBlock).pages.getD k noPage).full = true) (hs : 1 ≤ st ∧ st ≤ 999990) :
 CleanedOk bs ts (cleanF bs ts h n st) := by
 have same : CleanedOk bs ts ⟨bs, ts, h, 0, false⟩ := ⟨hok, ht, hfit, fun f _ => ⟨rfl, Iff.rfl⟩, by simp only; omega⟩; cases hc : cleanTo bs ts h n st 4 with
 | none => rw [cleanF_none hc]; exact same
 | some s =>
  by_cases hw : (s.bs.getD n noBlock).wear = 100
  · rw [cleanF_worn hc hw]; exact same
  · rw [cleanF_some hc hw]; have c := cleanTo_kept hok ht hfit hn hfull hs 4 s (Nat.le_refl _) hc; have hnl : n < s.bs.length := by rw [c.len]; exact hn
    have hout : ∀ a b, a < 8 → b < 6 → ¬ ((n : Int) * 4 ≤ tE s.ts a b ∧ tE s.ts a b < (n : Int) * 4 + 4) := by
     rintro a b ha hb ⟨h1, h2⟩; have := (c.left a b ha hb h1 h2).2; omega
    have hfit2 : DiskFits (eraseB s.bs n) s.ts := by
     intro a ha b hb
     have := c.fit a ha b hb; unfold FitE at this ⊢; rw [erase_page (hout a b ha hb)]; exact this
    refine ⟨⟨eraseB_ok c.heads.1 hnl, ?_⟩, c.tab, hfit2, ?_, c.many⟩
    · simp only; rw [eraseB_len]; exact c.heads.2
    · refine sameVals_of hfit hfit2 c.sign (fun a b ha hb => ?_); rw [← c.val a b ha hb]; unfold valE; simp only
      rw [erase_page (hout a b ha hb)]
end Go.Proofs.YtefdjahaimnndaaGreatDoor
