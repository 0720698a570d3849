/- Parts. -/
import Derived.Test.YtefdjahaimnndaaGreatDoorC14
import Derived.Test.YtefdjahaimnndaaGreatDoorC15
import Derived.Test.YtefdjahaimnndaaGreatDoorC16
import Derived.Test.YtefdjahaimnndaaGreatDoorC17
import Derived.Test.YtefdjahaimnndaaGreatDoorC31
namespace Go.Proofs.YtefdjahaimnndaaGreatDoor
open Go.ChangeShapes Go.WideShapes Go.ChangeAt Go.RowKit Go.Deep
open Go.Lib (hid)
set_option linter.unusedVariables false
set_option linter.unusedSimpArgs false
theorem pigeon : ∀ (n : Nat) (g : Nat → Int), (∀ i, i ≤ n → ∃ j, j < n ∧ g j = (i : Int)) → False
 | 0, g, h => by obtain ⟨j, hj, _⟩ := h 0 (Nat.le_refl _); omega
 | n + 1, g, h => by
  obtain ⟨j0, hj0, e0⟩ := h (n + 1) (Nat.le_refl _); refine pigeon n (fun j => if j < j0 then g j else g (j + 1)) (fun i hi => ?_); obtain ⟨j, hj, e⟩ := h i (by omega); have hne : j ≠ j0 := fun h => by subst h; omega
  by_cases hlt : j < j0
  · exact ⟨j, by omega, by simp only [hlt, if_true]; exact e⟩
  · exact ⟨j - 1, by omega, by simp only [show ¬ (j - 1 < j0) by omega, if_false, show j - 1 + 1 = j by omega]; exact e⟩
def Named (ns : List NameV) (f : Int) : Prop := ∃ j, j < ns.length ∧ nFil ns j = f
def Least (ns : List NameV) (f : Nat) : Prop := (∀ i : Nat, i < f → Named ns i) ∧ ¬ Named ns f
theorem least_one {ns : List NameV} {f g : Nat} (h : Least ns f) (h' : Least ns g) : f = g := by
 rcases Nat.lt_trichotomy f g with h1 | h1 | h1
 · exact absurd (h'.1 f h1) h.2
 · exact h1
 · exact absurd (h.1 g h1) h'.2
open Classical in
noncomputable def leastN (ns : List NameV) : Nat := if h : ∃ f, Least ns f then h.choose else 0
theorem leastN_eq {ns : List NameV} {f : Nat} (h : Least ns f) : leastN ns = f := by
 unfold leastN; rw [dif_pos ⟨f, h⟩]; exact least_one (⟨f, h⟩ : ∃ f, Least ns f).choose_spec h
def FrInv (ns : List NameV) (k j f : Nat) : Prop := (∀ i : Nat, i < f → Named ns i) ∧ (¬ Named ns f ∨ k < f ∨ (k ≤ f ∧ ∀ m, m < j → nFil ns m ≠ (f : Int)))
theorem FrInv.zero (ns : List NameV) : FrInv ns 0 0 0 := ⟨fun i h => absurd h (Nat.not_lt_zero _), .inr (.inr ⟨Nat.le_refl _, fun m h => absurd h (Nat.not_lt_zero _)⟩)⟩
theorem FrInv.hit {ns : List NameV} {k j f : Nat} (h : FrInv ns k j f) (hj : j < ns.length) (e : nFil ns j = (f : Int)) : FrInv ns k (j + 1) (f + 1) := by
 refine ⟨fun i hi => ?_, .inr (.inl ?_)⟩
 · by_cases h1 : i = f
   · subst h1; exact ⟨j, hj, e⟩
   · exact h.1 i (by omega)
 · rcases h.2 with h1 | h1 | h1
   · exact absurd ⟨j, hj, e⟩ h1
   · omega
   · omega
theorem FrInv.miss {ns : List NameV} {k j f : Nat} (h : FrInv ns k j f) (e : nFil ns j ≠ (f : Int)) : FrInv ns k (j + 1) f := by
 refine ⟨h.1, ?_⟩; rcases h.2 with h1 | h1 | ⟨h1, h2⟩
 · exact .inl h1
 · exact .inr (.inl h1)
 · refine .inr (.inr ⟨h1, fun m hm => ?_⟩); by_cases h3 : m = j
   · subst h3; exact e
   · exact h2 m (by omega)
theorem FrInv.pass {ns : List NameV} {k f : Nat} (h : FrInv ns k ns.length f) : FrInv ns (k + 1) 0 f := by
 refine ⟨h.1, ?_⟩; rcases h.2 with h1 | h1 | ⟨h1, h2⟩
 · exact .inl h1
 · exact .inr (.inr ⟨by omega, fun m hm => absurd hm (Nat.not_lt_zero _)⟩)
 · exact .inl (fun ⟨j, hj, e⟩ => h2 j hj e)
theorem FrInv.done {ns : List NameV} {f : Nat} (h : FrInv ns ns.length 0 f) : leastN ns = f := by
 refine leastN_eq ⟨h.1, fun hn => ?_⟩; have hge : ns.length ≤ f := by
  rcases h.2 with h1 | h1 | h1
  · exact absurd hn h1
  · omega
  · exact h1.1
 refine pigeon ns.length (nFil ns) (fun i hi => ?_); by_cases h1 : i = f
 · subst h1; exact hn
 · exact h.1 i (by omega)
theorem FrInv.le {ns : List NameV} {k j f : Nat} (hok : NamesOk ns) (h : FrInv ns k j f) : f ≤ 8 := by
 rcases Nat.lt_or_ge 8 f with h1 | h1
 · obtain ⟨m, hm, e⟩ := h.1 8 h1; have := (hok m hm).2.1; omega
 · exact h1
theorem bucket_in {s : ByteArray} (h : TextOk s) : 0 ≤ bucket s ∧ bucket s ≤ 2 := by
 rw [bucket_yes h]; omega
theorem names_nine {ns : List NameV} (h : NamesOk ns) : ns.length ≤ 9 := by
 rcases Nat.lt_or_ge 9 ns.length with h9 | h9
 · exfalso
   have b0 := bucket_in (h 0 (by omega)).1; have b9 := bucket_in (h 9 (by omega)).1; have s3 := (h 3 (by omega)).2.2.2 (by omega); have s6 := (h 6 (by omega)).2.2.2 (by omega); have s9 := (h 9 (by omega)).2.2.2 (by omega); have m3 := h.mono (i := 0) (j := 3) (by omega) (by omega); have m6 := h.mono (i := 3) (j := 6) (by omega) (by omega); have m9 := h.mono (i := 6) (j := 9) (by omega) (by omega); simp only [Nat.sub_self, Nat.reduceSub] at s3 s6 s9; omega
 · exact h9
theorem names_txt {ns : List NameV} (h : NamesOk ns) : ∀ i, i < ns.length → (nTxt ns i).size ≤ 8 := fun i hi => (h i hi).1.1.2
theorem small_parts {bs : List BlockV} {ts : List (List Int)} {a b c st : Int} {ns : List NameV} (h1 : DevOk bs) (h2 : TableOk ts) (h3 : NamesOk ns) : SmallDV ⟨bs, ts, a, b, c, st, ns⟩ := by
 obtain ⟨⟨g1, g2⟩, g3⟩ := h1; obtain ⟨h4, h5, _⟩ := h2; have h9 := names_nine h3; refine ⟨by simp only; omega, by simp only; omega, by simp only; omega, fun i hi => ?_, fun i hi => ?_, fun i hi => ?_⟩
 · have := (g3 i hi).2.1; simp only; omega
 · have := h5 i (by simp only at hi; omega); simp only; omega
 · have := names_txt h3 i hi; simp only [nTxt] at this ⊢; omega
theorem small_shape {bs : List BlockV} {ts : List (List Int)} {a b c st : Int} {ns : List NameV} (h1 : DevOk bs) (h2 : ShapeT ts) (h3 : ns.length ≤ 1048576) (h4 : ∀ i, i < ns.length → (nTxt ns i).size ≤ 1048576) : SmallDV ⟨bs, ts, a, b, c, st, ns⟩ := by
 obtain ⟨⟨g1, g2⟩, g3⟩ := h1; obtain ⟨h5, h6⟩ := h2; refine ⟨by simp only; omega, by simp only; omega, h3, fun i hi => ?_, fun i hi => ?_, fun i hi => ?_⟩
 · have := (g3 i hi).2.1; simp only; omega
 · have := h6 i (by simp only at hi; omega); simp only; omega
 · have := h4 i hi; simp only [nTxt] at this ⊢; omega
theorem small_ok {d : DiskV} (h : DiskOk d) : SmallDV d := by
 obtain ⟨⟨⟨⟨h1, h2⟩, h3⟩, _⟩, ⟨h4, h5, _⟩, _, _, h6, _⟩ := h; have h9 := names_nine h6; refine ⟨by omega, by omega, by omega, fun i hi => ?_, fun i hi => ?_, fun i hi => ?_⟩
 · have := (h3 i hi).2.1; omega
 · have := h5 i (by omega); omega
 · have := names_txt h6 i hi; simp only [nTxt] at this; omega
def sMake : ByteArray := ⟨#[109, 97, 107, 101]⟩
def sWrite : ByteArray := ⟨#[119, 114, 105, 116, 101]⟩
def sRead : ByteArray := ⟨#[114, 101, 97, 100]⟩
def sDrop : ByteArray := ⟨#[100, 114, 111, 112]⟩
def sClean : ByteArray := ⟨#[99, 108, 101, 97, 110]⟩
def sOk : ByteArray := ⟨#[111, 107]⟩
def sNo : ByteArray := ⟨#[110, 111]⟩
def sNone : ByteArray := ⟨#[110, 111, 110, 101]⟩
def wd (s : ByteArray) (i : Nat) : ByteArray := (wordsL s).getD i ByteArray.empty
abbrev hdD (d : DiskV) : HeadV := ⟨d.hot, d.warm, d.cold⟩
structure LineR where
 d : DiskV
 a : ByteArray
open Classical in
noncomputable def makeC (d : DiskV) (t : ByteArray) : Option LineR :=
 if NamesOk (putL d.ns t (leastN d.ns)) then some ⟨{ d with ns := putL d.ns t (leastN d.ns) }, sOk⟩ else none
noncomputable def pageW (d : DiskV) (t pl va : ByteArray) : PageV := ⟨true, findN d.ns t, numT pl, numT va, d.stamp + 1⟩
noncomputable def appW (d : DiskV) (t pl va : ByteArray) : AppV := appendF d.bs (hdD d) 1 (pageW d t pl va)
noncomputable def writeC (d : DiskV) (t pl va : ByteArray) : Option LineR :=
 if findN d.ns t < 0 then none
 else if (appW d t pl va).at_ < 0 then none
 else some ⟨⟨(appW d t pl va).bs, setE d.ts (findN d.ns t).toNat (numT pl).toNat (appW d t pl va).at_, (appW d t pl va).h.x, (appW d t pl va).h.y, (appW d t pl va).h.z, d.stamp + 1, d.ns⟩, sOk⟩
noncomputable def pageR (d : DiskV) (t pl : ByteArray) : PageV := pgAt d.bs (tE d.ts (findN d.ns t).toNat (numT pl).toNat)
noncomputable def readC (d : DiskV) (t pl : ByteArray) : Option LineR :=
 if findN d.ns t < 0 ∨ numT pl < 0 ∨ 5 < numT pl then none
 else some ⟨d, if (pageR d t pl).full = true then decT (pageR d t pl).value.toNat else sNone⟩
noncomputable def dropC (d : DiskV) (t : ByteArray) : Option LineR :=
 if findN d.ns t < 0 then none else some ⟨{ d with ns := dropN d.ns t, ts := cutT d.ts (findN d.ns t).toNat }, sOk⟩
noncomputable def victD (d : DiskV) : Int := greedyV d.bs d.ts (hdD d)
noncomputable def cleanD (d : DiskV) : CleanR := cleanF d.bs d.ts (hdD d) (victD d).toNat (d.stamp + 1)
noncomputable def cleanC (d : DiskV) : Option LineR :=
 if victD d < 0 then none
 else if (cleanD d).ok = true then some ⟨⟨(cleanD d).bs, (cleanD d).ts, (cleanD d).h.x, (cleanD d).h.y, (cleanD d).h.z, d.stamp + ((cleanD d).many : Int), d.ns⟩, decT (cleanD d).many⟩
 else none
noncomputable def cmdC (d : DiskV) (s : ByteArray) : Option LineR :=
 if wd s 0 = sMake ∧ (wordsL s).length = 2 then makeC d (wd s 1)
 else if wd s 0 = sWrite ∧ (wordsL s).length = 4 then writeC d (wd s 1) (wd s 2) (wd s 3)
 else if wd s 0 = sRead ∧ (wordsL s).length = 3 then readC d (wd s 1) (wd s 2)
 else if wd s 0 = sDrop ∧ (wordsL s).length = 2 then dropC d (wd s 1)
 else if s = sClean then cleanC d
 else none
open Classical in
noncomputable def lineO (d : DiskV) : Option LineR → LineR
 | none => ⟨d, sNo⟩
 | some x => if DiskOk x.d then x else ⟨d, sNo⟩
open Classical in
noncomputable def lineF (d : DiskV) (s : ByteArray) : LineR := if DiskOk d then lineO d (cmdC d s) else ⟨zeroDisk, ByteArray.empty⟩
theorem lineF_yes {d : DiskV} {s : ByteArray} (h : DiskOk d) : lineF d s = lineO d (cmdC d s) := by unfold lineF; rw [if_pos h]
theorem lineF_no {d : DiskV} {s : ByteArray} (h : ¬ DiskOk d) : lineF d s = ⟨zeroDisk, ByteArray.empty⟩ := by unfold lineF; rw [if_neg h]
theorem lineO_yes {d : DiskV} {x : LineR} (h : DiskOk x.d) : lineO d (some x) = x := by simp only [lineO]; rw [if_pos h]
theorem lineO_no {d : DiskV} {x : LineR} (h : ¬ DiskOk x.d) : lineO d (some x) = ⟨d, sNo⟩ := by simp only [lineO]; rw [if_neg h]
theorem cmdC_make {d : DiskV} {s : ByteArray} (h1 : wd s 0 = sMake) (h2 : (wordsL s).length = 2) : cmdC d s = makeC d (wd s 1) := by unfold cmdC; rw [if_pos ⟨h1, h2⟩]
theorem makeC_yes {bs : List BlockV} {ts : List (List Int)} {a b c st : Int} {ns : List NameV} {t : ByteArray} {f : Nat} (hf : leastN ns = f) (h : NamesOk (putL ns t f)) : makeC ⟨bs, ts, a, b, c, st, ns⟩ t = some ⟨⟨bs, ts, a, b, c, st, putL ns t f⟩, sOk⟩ := by
 unfold makeC; simp only; rw [hf, if_pos h]
theorem makeC_no {bs : List BlockV} {ts : List (List Int)} {a b c st : Int} {ns : List NameV} {t : ByteArray} {f : Nat} (hf : leastN ns = f) (h : ¬ NamesOk (putL ns t f)) : makeC ⟨bs, ts, a, b, c, st, ns⟩ t = none := by
 unfold makeC; simp only; rw [hf, if_neg h]
theorem sMake_l : sMake.toList = [109, 97, 107, 101] := ByteArray.toList_eq _
theorem sWrite_l : sWrite.toList = [119, 114, 105, 116, 101] := ByteArray.toList_eq _
theorem sRead_l : sRead.toList = [114, 101, 97, 100] := ByteArray.toList_eq _
theorem sDrop_l : sDrop.toList = [100, 114, 111, 112] := ByteArray.toList_eq _
theorem sClean_l : sClean.toList = [99, 108, 101, 97, 110] := ByteArray.toList_eq _
theorem wd_clean : wd sClean 0 = sClean := by rfl
theorem words_clean : (wordsL sClean).length = 1 := by rfl
theorem toList_ne {a : ByteArray} {l : List UInt8} {b : ByteArray} (hb : b.toList = l) (h : a ≠ b) : (a.toList == l) = false := beq_eq_false_iff_ne.2 (fun e => h (toList_inj' (e.trans hb.symm)))
theorem cmdC_write {d : DiskV} {s : ByteArray} (h1 : wd s 0 = sWrite) (h2 : (wordsL s).length = 4) : cmdC d s = writeC d (wd s 1) (wd s 2) (wd s 3) := by
 unfold cmdC; rw [h1, h2, if_neg (fun h => absurd h.2 (by decide)), if_pos ⟨rfl, rfl⟩]
theorem cmdC_read {d : DiskV} {s : ByteArray} (h1 : wd s 0 = sRead) (h2 : (wordsL s).length = 3) : cmdC d s = readC d (wd s 1) (wd s 2) := by
 unfold cmdC; rw [h1, h2, if_neg (fun h => absurd h.2 (by decide)), if_neg (fun h => absurd h.2 (by decide)), if_pos ⟨rfl, rfl⟩]
theorem cmdC_drop {d : DiskV} {s : ByteArray} (h1 : wd s 0 = sDrop) (h2 : (wordsL s).length = 2) : cmdC d s = dropC d (wd s 1) := by
 unfold cmdC; rw [h1, h2, if_neg (fun h => absurd h.1 (by decide)), if_neg (fun h => absurd h.2 (by decide)), if_neg (fun h => absurd h.2 (by decide)), if_pos ⟨rfl, rfl⟩]
theorem cmdC_clean {d : DiskV} : cmdC d sClean = cleanC d := by
 unfold cmdC; rw [words_clean, if_neg (fun h => absurd h.2 (by decide)), if_neg (fun h => absurd h.2 (by decide)), if_neg (fun h => absurd h.2 (by decide)), if_neg (fun h => absurd h.2 (by decide)), if_pos rfl]
theorem cmdC_other {d : DiskV} {s : ByteArray} (h1 : ¬ (wd s 0 = sMake ∧ (wordsL s).length = 2)) (h2 : ¬ (wd s 0 = sWrite ∧ (wordsL s).length = 4)) (h3 : ¬ (wd s 0 = sRead ∧ (wordsL s).length = 3)) (h4 : ¬ (wd s 0 = sDrop ∧ (wordsL s).length = 2)) (h5 : s ≠ sClean) : cmdC d s = none := by
 unfold cmdC; rw [if_neg h1, if_neg h2, if_neg h3, if_neg h4, if_neg h5]
theorem writeC_no {bs : List BlockV} {ts : List (List Int)} {a b c st : Int} {ns : List NameV} {t pl va : ByteArray} {R : AppV} (hR : appendF bs ⟨a, b, c⟩ 1 ⟨true, findN ns t, numT pl, numT va, st + 1⟩ = R) (h : R.at_ < 0) : writeC ⟨bs, ts, a, b, c, st, ns⟩ t pl va = none := by
 unfold writeC appW pageW; simp only
 rw [hR, if_pos h]; split <;> rfl
theorem writeC_yes {bs : List BlockV} {ts : List (List Int)} {a b c st : Int} {ns : List NameV} {t pl va : ByteArray} {R : AppV} (hf : ¬ findN ns t < 0) (hR : appendF bs ⟨a, b, c⟩ 1 ⟨true, findN ns t, numT pl, numT va, st + 1⟩ = R) (h : ¬ R.at_ < 0) :
 writeC ⟨bs, ts, a, b, c, st, ns⟩ t pl va = some ⟨⟨R.bs, setE ts (findN ns t).toNat (numT pl).toNat R.at_, R.h.x, R.h.y, R.h.z, st + 1, ns⟩, sOk⟩ := by
 unfold writeC appW pageW; simp only
 rw [hR, if_neg hf, if_neg h]
theorem appendF_in {bs : List BlockV} {h : HeadV} {heat : Nat} {p : PageV} (h0 : 0 ≤ (appendF bs h heat p).at_) : PageOk p ∧ p.full = true := by
 unfold appendF at h0; split at h0
 · assumption
 · simp only at h0; omega
theorem findN_range {ns : List NameV} (hok : NamesOk ns) (t : ByteArray) : -1 ≤ findN ns t ∧ findN ns t ≤ 7 := by
 by_cases h : ∃ j, j < ns.length ∧ nTxt ns j = t ∧ ∀ i, i < j → nTxt ns i ≠ t
 · obtain ⟨j, hj, e, hn⟩ := h; rw [findN_at hj hn e]; have := (hok j hj).2.1; omega
 · rw [findN_none]
   · omega
   · intro i
     induction i using Nat.strongRecOn with
     | _ i ih => exact fun hi e => h ⟨i, hi, e, fun k hk => ih k hk (by omega)⟩
theorem dropTo_mem {ns : List NameV} {t : ByteArray} : ∀ k, ∀ x ∈ dropTo ns t k, ∃ i, i < k ∧ x = ns.getD i noName
 | 0, x, hx => by simp [dropTo] at hx
 | k + 1, x, hx => by
  unfold dropTo at hx; split at hx
  · obtain ⟨i, hi, e⟩ := dropTo_mem k x hx; exact ⟨i, by omega, e⟩
  · rcases List.mem_append.1 hx with h | h
    · obtain ⟨i, hi, e⟩ := dropTo_mem k x h; exact ⟨i, by omega, e⟩
    · exact ⟨k, by omega, List.mem_singleton.1 h⟩
theorem dropN_txt {ns : List NameV} {t : ByteArray} (hok : NamesOk ns) : (dropN ns t).length ≤ 9 ∧ ∀ i, i < (dropN ns t).length → (nTxt (dropN ns t) i).size ≤ 8 := by
 have h9 := names_nine hok; have hl := dropTo_len ns t ns.length; refine ⟨by unfold dropN; omega, fun i hi => ?_⟩; have hm : (dropN ns t).getD i noName ∈ dropTo ns t ns.length := by
  rw [List.getD_eq_getElem?_getD, List.getElem?_eq_getElem hi]; exact List.getElem_mem _
 obtain ⟨j, hj, e⟩ := dropTo_mem _ _ hm; unfold nTxt; rw [e]; exact names_txt hok j hj
theorem cutT_shape {ts : List (List Int)} {f : Nat} (h : TableOk ts) : ShapeT (cutT ts f) := by
 unfold cutT; refine ⟨by simpa using h.1, fun i hi => ?_⟩; rw [List.getD_eq_getElem?_getD, List.getElem?_set]; have := h.2.1 i hi; split
 · split
   · rfl
   · have := h.1; omega
 · rw [← List.getD_eq_getElem?_getD]; exact this
theorem pgAt_ok {bs : List BlockV} (h : DevOk bs) (v : Int) : PageOk (pgAt bs v) := by
 unfold pgAt; split
 · next hv => exact pageN_ok h (by omega)
 · decide
theorem readC_yes {bs : List BlockV} {ts : List (List Int)} {a b c st : Int} {ns : List NameV} {t pl : ByteArray} {f k : Nat} (hf : findN ns t = f) (hk : numT pl = k) (h5 : k ≤ 5) :
 readC ⟨bs, ts, a, b, c, st, ns⟩ t pl = some ⟨⟨bs, ts, a, b, c, st, ns⟩, if (pgAt bs (tE ts f k)).full = true then decT (pgAt bs (tE ts f k)).value.toNat else sNone⟩ := by
 unfold readC pageR; simp only
 rw [hf, hk, if_neg (by omega), Int.toNat_natCast, Int.toNat_natCast]
theorem dropC_yes {bs : List BlockV} {ts : List (List Int)} {a b c st : Int} {ns : List NameV} {t : ByteArray} {f : Nat} (hf : findN ns t = f) :
 dropC ⟨bs, ts, a, b, c, st, ns⟩ t = some ⟨⟨bs, cutT ts f, a, b, c, st, dropN ns t⟩, sOk⟩ := by
 unfold dropC; simp only
 rw [hf, if_neg (by omega), Int.toNat_natCast]
theorem writeC_neg {d : DiskV} {t pl va : ByteArray} (hf : findN d.ns t < 0) : writeC d t pl va = none := by unfold writeC; rw [if_pos hf]
theorem readC_neg {d : DiskV} {t pl : ByteArray} (h : findN d.ns t < 0 ∨ numT pl < 0 ∨ 5 < numT pl) : readC d t pl = none := by unfold readC; rw [if_pos h]
theorem dropC_neg {d : DiskV} {t : ByteArray} (hf : findN d.ns t < 0) : dropC d t = none := by unfold dropC; rw [if_pos hf]
theorem cleanC_neg {d : DiskV} (h : victD d < 0) : cleanC d = none := by unfold cleanC; rw [if_pos h]
theorem cleanC_no {d : DiskV} {R : CleanR} (hR : cleanD d = R) (h : R.ok = false) : cleanC d = none := by
 unfold cleanC; rw [hR, h]; split
 · rfl
 · rfl
theorem cleanC_yes {bs : List BlockV} {ts : List (List Int)} {a b c st : Int} {ns : List NameV} {R : CleanR} (hv : ¬ victD ⟨bs, ts, a, b, c, st, ns⟩ < 0) (hR : cleanD ⟨bs, ts, a, b, c, st, ns⟩ = R) (h : R.ok = true) :
 cleanC ⟨bs, ts, a, b, c, st, ns⟩ = some ⟨⟨R.bs, R.ts, R.h.x, R.h.y, R.h.z, st + (R.many : Int), ns⟩, decT R.many⟩ := by
 unfold cleanC; rw [if_neg hv, hR, if_pos h]
def OtherL (d : DiskV) (s : ByteArray) : Prop :=
 (wd s 0 = sMake ∧ (wordsL s).length ≠ 2) ∨ (wd s 0 = sWrite ∧ (wordsL s).length ≠ 4) ∨ (wd s 0 = sWrite ∧ (wordsL s).length = 4 ∧ findN d.ns (wd s 1) < 0) ∨
 (wd s 0 = sRead ∧ (wordsL s).length ≠ 3) ∨ (wd s 0 = sRead ∧ (wordsL s).length = 3 ∧ findN d.ns (wd s 1) < 0) ∨ (wd s 0 = sRead ∧ (wordsL s).length = 3 ∧ 0 ≤ findN d.ns (wd s 1) ∧ (numT (wd s 2) < 0 ∨ 5 < numT (wd s 2))) ∨
 (wd s 0 = sDrop ∧ (wordsL s).length ≠ 2) ∨ (wd s 0 = sDrop ∧ (wordsL s).length = 2 ∧ findN d.ns (wd s 1) < 0) ∨
 (wd s 0 ≠ sMake ∧ wd s 0 ≠ sWrite ∧ wd s 0 ≠ sRead ∧ wd s 0 ≠ sDrop ∧ s ≠ sClean)
theorem not_clean {s x : ByteArray} (h : wd s 0 = x) (hx : sClean ≠ x) : s ≠ sClean := fun e => hx (by rw [← h, e, wd_clean])
theorem other_none {d : DiskV} {s : ByteArray} (h : OtherL d s) : cmdC d s = none := by
 rcases h with ⟨h1, h2⟩ | ⟨h1, h2⟩ | ⟨h1, h2, h3⟩ | ⟨h1, h2⟩ | ⟨h1, h2, h3⟩ | ⟨h1, h2, _, h3⟩ | ⟨h1, h2⟩ | ⟨h1, h2, h3⟩ | ⟨h1, h2, h3, h4, h5⟩
 · exact cmdC_other (fun h => h2 h.2) (fun h => absurd (h1.symm.trans h.1) (by decide)) (fun h => absurd (h1.symm.trans h.1) (by decide)) (fun h => absurd (h1.symm.trans h.1) (by decide)) (not_clean h1 (by decide))
 · exact cmdC_other (fun h => absurd (h1.symm.trans h.1) (by decide)) (fun h => h2 h.2) (fun h => absurd (h1.symm.trans h.1) (by decide)) (fun h => absurd (h1.symm.trans h.1) (by decide)) (not_clean h1 (by decide))
 · rw [cmdC_write h1 h2, writeC_neg h3]
 · exact cmdC_other (fun h => absurd (h1.symm.trans h.1) (by decide)) (fun h => absurd (h1.symm.trans h.1) (by decide)) (fun h => h2 h.2) (fun h => absurd (h1.symm.trans h.1) (by decide)) (not_clean h1 (by decide))
 · rw [cmdC_read h1 h2, readC_neg (.inl h3)]
 · rw [cmdC_read h1 h2, readC_neg (.inr h3)]
 · exact cmdC_other (fun h => absurd (h1.symm.trans h.1) (by decide)) (fun h => absurd (h1.symm.trans h.1) (by decide)) (fun h => absurd (h1.symm.trans h.1) (by decide)) (fun h => h2 h.2) (not_clean h1 (by decide))
 · rw [cmdC_drop h1 h2, dropC_neg h3]
 · exact cmdC_other (fun h => h1 h.1) (fun h => h2 h.1) (fun h => h3 h.1) (fun h => h4 h.1) h5
theorem line_cases (d : DiskV) (s : ByteArray) : (wd s 0 = sMake ∧ (wordsL s).length = 2) ∨ (wd s 0 = sWrite ∧ (wordsL s).length = 4 ∧ 0 ≤ findN d.ns (wd s 1)) ∨ (wd s 0 = sRead ∧ (wordsL s).length = 3 ∧ 0 ≤ findN d.ns (wd s 1) ∧ (0 ≤ numT (wd s 2) ∧ numT (wd s 2) ≤ 5)) ∨ (wd s 0 = sDrop ∧ (wordsL s).length = 2 ∧ 0 ≤ findN d.ns (wd s 1)) ∨ s = sClean ∨ OtherL d s := by
 unfold OtherL; by_cases a1 : wd s 0 = sMake
 · by_cases b1 : (wordsL s).length = 2
   · exact .inl ⟨a1, b1⟩
   · exact .inr (.inr (.inr (.inr (.inr (.inl ⟨a1, b1⟩)))))
 by_cases a2 : wd s 0 = sWrite
 · by_cases b1 : (wordsL s).length = 4
   · by_cases b2 : 0 ≤ findN d.ns (wd s 1)
     · exact .inr (.inl ⟨a2, b1, b2⟩)
     · exact .inr (.inr (.inr (.inr (.inr (.inr (.inr (.inl ⟨a2, b1, by omega⟩)))))))
   · exact .inr (.inr (.inr (.inr (.inr (.inr (.inl ⟨a2, b1⟩))))))
 by_cases a3 : wd s 0 = sRead
 · by_cases b1 : (wordsL s).length = 3
   · by_cases b2 : 0 ≤ findN d.ns (wd s 1)
     · by_cases b3 : 0 ≤ numT (wd s 2) ∧ numT (wd s 2) ≤ 5
       · exact .inr (.inr (.inl ⟨a3, b1, b2, b3⟩))
       · exact .inr (.inr (.inr (.inr (.inr (.inr (.inr (.inr (.inr (.inr (.inl ⟨a3, b1, b2, by omega⟩))))))))))
     · exact .inr (.inr (.inr (.inr (.inr (.inr (.inr (.inr (.inr (.inl ⟨a3, b1, by omega⟩)))))))))
   · exact .inr (.inr (.inr (.inr (.inr (.inr (.inr (.inr (.inl ⟨a3, b1⟩))))))))
 by_cases a4 : wd s 0 = sDrop
 · by_cases b1 : (wordsL s).length = 2
   · by_cases b2 : 0 ≤ findN d.ns (wd s 1)
     · exact .inr (.inr (.inr (.inl ⟨a4, b1, b2⟩)))
     · exact .inr (.inr (.inr (.inr (.inr (.inr (.inr (.inr (.inr (.inr (.inr (.inr (.inl ⟨a4, b1, by omega⟩))))))))))))
   · exact .inr (.inr (.inr (.inr (.inr (.inr (.inr (.inr (.inr (.inr (.inr (.inl ⟨a4, b1⟩)))))))))))
 by_cases a5 : s = sClean
 · exact .inr (.inr (.inr (.inr (.inl a5))))
 · exact .inr (.inr (.inr (.inr (.inr (.inr (.inr (.inr (.inr (.inr (.inr (.inr (.inr ⟨a1, a2, a3, a4, a5⟩))))))))))))
theorem victTo_may (bs : List BlockV) (cs : List Int) (h : HeadV) : ∀ k, 0 ≤ victTo bs cs h k → mayB bs cs h (victTo bs cs h k).toNat = true
 | 0, h0 => by unfold victTo at h0; omega
 | k + 1, h0 => by
  unfold victTo at h0 ⊢; split at h0
  · next hc =>
    rw [if_pos hc]; split at h0
    · next hd => rw [if_pos hd, Int.toNat_natCast]; exact hc
    · next hd => rw [if_neg hd]; exact victTo_may bs cs h k h0
  · next hc => rw [if_neg hc]; exact victTo_may bs cs h k h0
structure VictOk (d : DiskV) (n : Nat) : Prop where
 lt : n < d.bs.length
 full : ∀ k, k < 4 → ((d.bs.getD n noBlock).pages.getD k noPage).full = true
 head : (hdD d).has n = false
theorem vict_ok {d : DiskV} (hok : DiskOk d) (h : 0 ≤ victD d) : VictOk d (victD d).toNat := by
 have hm := victTo_may d.bs (countsL d.bs d.ts) (hdD d) d.bs.length h; have hr := victTo_range d.bs (countsL d.bs d.ts) (hdD d) d.bs.length; change mayB d.bs (countsL d.bs d.ts) (hdD d) (victD d).toNat = true at hm
 change -1 ≤ victD d ∧ victD d < _ at hr
 unfold mayB at hm; simp only [Bool.and_eq_true, decide_eq_true_eq, Bool.not_eq_true'] at hm; have hl : (victD d).toNat < d.bs.length := by omega
 refine ⟨hl, fun k hk => ?_, hm.2.2⟩; have h4 := (hok.1.1.2 _ hl).2.1; rcases nextP_or (d.bs.getD (victD d).toNat noBlock).pages with ⟨_, h2⟩ | ⟨j, h1, _⟩
 · exact h2 k (by omega)
 · omega
theorem cleanD_ok {d : DiskV} (hok : DiskOk d) (h : 0 ≤ victD d) : CleanedOk d.bs d.ts (cleanD d) := by
 have v := vict_ok hok h; have hs : 0 ≤ d.stamp := by
  have h1 := hok.2.2.2.1.1; have h2 : 0 ≤ lastStamp d.bs := (lastAt_range hok.1.1 (Nat.le_refl _)).1; omega
 exact cleanF_kept hok.1 hok.2.1 hok.2.2.1 v.lt v.full ⟨by omega, by have := hok.2.2.2.1.2; omega⟩
def OwnL (w0 : World) (R : LineR) (e : Ending) (w' : World) : Prop := ∃ h, e = .returned (.tuple #[dkv h R.d, .string R.a]) ∧ OwD w' w0.heap.size h R.d ∧ Below w0.heap.size w0 w'
theorem ownL_of {w0 w ws : World} {R : LineR} {h : DH} {d : DiskV} {a : ByteArray} (hR : R = ⟨d, a⟩) (ho : OwD ws w0.heap.size h d) (hb : Below ws.heap.size ws w) (hr : Blk w (w0.heap.size + 1) 31 Zd) (hB : Below w0.heap.size w0 w) :
 OwnL w0 R (.returned (.tuple #[dkv h d, .string a])) (putDisk w (w0.heap.size + 1) h d) := by
 subst hR; exact ⟨h, rfl, (ho.below hb).put hr h d, below_putDisk hB (by omega) h d⟩
structure CapN (h : DH) : Prop where
 le : h.nn ≤ h.nc
 max : h.nc ≤ 9223372036854775807
 nil : h.nA = none → h.nc = 0
theorem OwN.capN {w base A n c ns} (h : OwN w base A n c ns) : (A = none → c = 0) := by
 intro e
 subst e; rcases h.2 with ⟨h1, h2⟩ | ⟨g, cap, cur, h1, h2, _⟩
 · injection h1
 · injection h1 with h1; exact absurd h1 (by simp)
theorem wpList_appSt3 {ops : Array Oper} {rest : List Oper} {o : Oper} {a : Act} {Q : Exit → Act → World → Prop} {w : World} {s x : Operand} {base g0 : Nat} {c0 n : Nat} {xs : List ByteArray} (hgd : o.guard = none)
 (ho : o.op = .call { callee := .builtin .append, args := #[s, x], argTypes := #[32, 32] })
 (hs : a.eval s = .slice (some ⟨g0, 0, none⟩) n c0) (hown : w.ownsRow base 9 1 (.slice (some ⟨g0, 0, none⟩) n c0) n (xs.map Value.string))
 (hx : a.eval x = .slice (some ⟨w.heap.size, 0, none⟩) 3 3) (hn : n ≤ 1000000000000) (hbase : base ≤ w.heap.size)
 (h : ∀ g c w', w'.ownsRow base 9 1 (.slice (some ⟨g, 0, none⟩) (n + 3) c) (n + 3) ((xs ++ [ByteArray.empty, ByteArray.empty, ByteArray.empty]).map Value.string) → w.grownBy w' (some g0) → wpList Tryz.prog ops Q rest (a.put o.dst (.slice (some ⟨g, 0, none⟩) (n + 3) c)) w') :
 wpList Tryz.prog ops Q (o :: rest) a (w.alloc (.cells #[.string ByteArray.empty, .string ByteArray.empty, .string ByteArray.empty] 9)) := by
 obtain ⟨i0, hi, hz0, hz1, hz2⟩ := info_parts infoStr; refine wpList_append_own _ hgd s x 32 ho base 9 i0 _ 1 16 Tryz.underlying32 hi hz0 hz1 hz2 rfl (by decide) (.slice (some ⟨g0, 0, none⟩) n c0) n _ hs (hown.alloc _) ⟨w.heap.size, 0, none⟩ 3 3 [.string ByteArray.empty, .string ByteArray.empty, .string ByteArray.empty] hx rfl ?_ (by simp [Value.oneCell']) (by unfold maxLen; omega) (by omega) (by simp; omega) ?_
 · intro j u hj
   rw [add_none, Nat.zero_add]; have := (Blk.new w 9 #[.string ByteArray.empty, .string ByteArray.empty, .string ByteArray.empty]).cell j; rw [this, show (#[Value.string ByteArray.empty, .string ByteArray.empty, .string ByteArray.empty] : Array Value) = [Value.string ByteArray.empty, .string ByteArray.empty, .string ByteArray.empty].toArray from rfl, List.getElem?_toArray]; exact hj
 · intro v' w' hown' hg _
   rcases hown'.2 with ⟨h1, h2⟩ | ⟨g, cap, cur, h1, hb, _⟩
   · omega
   · subst h1; refine h g cap w' (by rw [List.map_append]; exact hown') ⟨hg.os, hg.tape, hg.output, Nat.le_trans (by simp) hg.size, fun k hk hne => ?_⟩; rw [hg.block k (by simp; omega) hne]; exact Below.heap_alloc w _ k hk
theorem words_cells {s : ByteArray} {w : World} {base g c m : Nat} (h : w.ownsRow base 9 1 (.slice (some ⟨g, 0, none⟩) (m + 3) c) (m + 3) ((wordsL s ++ [ByteArray.empty, ByteArray.empty, ByteArray.empty]).map Value.string)) (hm : (wordsL s).length = m) :
 ∀ i, i < m + 3 → w.cell? ⟨g, i, none⟩ = some (.string (wd s i)) := by
 intro i hi
 rw [own_strCell h i (by simp [hm]; omega)]; unfold wd; rw [List.getD_eq_getElem?_getD, List.getD_eq_getElem?_getD, List.getElem?_append]; by_cases e : i < (wordsL s).length
 · rw [if_pos e]
 · rw [if_neg e, List.getElem?_eq_none (Nat.le_of_not_lt e)]; have : i - (wordsL s).length = 0 ∨ i - (wordsL s).length = 1 ∨ i - (wordsL s).length = 2 := by omega
   rcases this with e | e | e <;> rw [e] <;> rfl
theorem wd_size (s : ByteArray) (i : Nat) : (wd s i).size ≤ s.size := by
 unfold wd; by_cases e : i < (wordsL s).length
 · rw [List.getD_eq_getElem?_getD, List.getElem?_eq_getElem e]; exact wordsTo_size s s.size (Nat.le_refl _) _ (List.getElem_mem _)
 · rw [List.getD_eq_getElem?_getD, List.getElem?_eq_none (Nat.le_of_not_lt e)]; exact Nat.zero_le _
set_option maxRecDepth 8000 in
set_option maxHeartbeats 2000000 in
theorem diskLine_no {h : DH} {d : DiskV} {s : ByteArray} {B : Nat} {w : World} (hr : RdD w B h d) (hB : B ≤ w.heap.size) (hs : SmallDV d) (hno : ¬ DiskOk d) :
 Calls Tryz.prog 14 #[dkv h d, .string s] w (OwnL w (lineF d s)) := by
 have hsh := hs.h hr; have HR := hid (hr.mono hB); have HNO := hid (bof_f.2 hno); have HL := hid (lineF_no (s := s) hno); have S1 := hid hsh.b; have S2 := hid hsh.t; have S3 := hid hsh.n; have S4 := hid (show ∀ i, i < h.nn → (nTxt d.ns i).size ≤ 9223372036854775807 from fun i hi => by have := hsh.ns i hi; simp only [nTxt]; omega); clear hr hno hs hsh; obtain ⟨bA, bn, bc, tA, tn, tc, nA, nn, nc⟩ := h; obtain ⟨bs, ts, hot, warm, cold, stamp, ns⟩ := d; have b2 : Below w.heap.size w ((w.alloc (.cells (dc bA bn bc tA tn tc hot warm cold stamp nA nn nc) 31)).alloc (.cells Zd 31)) := ((Below.refl _ _).alloc (Nat.le_refl _) _).alloc (by simp) _; have K2 := (Blk.new w 31 (dc bA bn bc tA tn tc hot warm cold stamp nA nn nc)).alloc (.cells Zd 31); have R2 := Blk.new (w.alloc (.cells (dc bA bn bc tA tn tc hot warm cold stamp nA nn nc) 31)) 31 Zd; rw [show (w.alloc (.cells (dc bA bn bc tA tn tc hot warm cold stamp nA nn nc) 31)).heap.size = w.heap.size + 1 by simp] at R2
 go_enter Tryz.func14, Tryz.ntmps14
 go_upto_region 1 with (fail)
 generalize (w.alloc (.cells (dc bA bn bc tA tn tc hot warm cold stamp nA nn nc) 31)).alloc (.cells Zd 31) = w2 at *; obtain ⟨t0, t1, t2, t3, t4, t5, t6⟩ := K2.all7; go_wp2_with fail; refine (diskValid_spec (HR.out.below b2) b2.size S1.out S2.out S3.out S4.out).mono ?_; rw [HNO.out]; rintro e w3 ⟨rfl, b3⟩; have R3 := R2.below b3 R2.lt; have B3 := hid (b2.trans (b3.mono b2.size)); clear K2 R2 b2 b3 t0 t1 t2 t3 t4 t5 t6 HR; have OZ : OwD w3 w.heap.size ⟨none, 0, 0, none, 0, 0, none, 0, 0⟩ zeroDisk := ⟨OwB.nil _ _, OwT.nil _ _, OwN.nil _ _⟩; have HO := hid (ownL_of HL.out OZ (Below.refl _ _) R3 B3.out); have KP := hid (blk_putDisk R3 ⟨none, 0, 0, none, 0, 0, none, 0, 0⟩ zeroDisk).1; obtain ⟨y0, y1, y2, y3, y4, y5, y6⟩ := R3.all7; obtain ⟨z0, z1, z2, z3, z4, z5, z6⟩ := R3.free7; clear R3 OZ; have KQ := hid (KP.out : Blk (putDisk w3 (w.heap.size + 1) ⟨none, 0, 0, none, 0, 0, none, 0, 0⟩ zeroDisk) (w.heap.size + 1) 31 Zd); clear KP; dsimp only [putDisk, zeroDisk] at KQ HO; go_wp2_with fail; generalize (p6 w3 (w.heap.size + 1) (.slice none 0 0) (.slice none 0 0) (.int .i64 0) (.int .i64 0) (.int .i64 0) (.int .i64 0)).setCell ⟨w.heap.size + 1, 6, none⟩ (.slice none 0 0) = wz at *
 obtain ⟨e0, e1, e2, e3, e4, e5, e6⟩ := KQ.out.all7; refine bodyPost_ret (by simp [results, Tryz.results14, go_sem, e0, e1, e2, e3, e4, e5, e6]; try rfl) rfl ?_; exact HO.out
end Go.Proofs.YtefdjahaimnndaaGreatDoor
