/- Parts. -/
import Derived.Test.YtefdjahaimnndaaGreatDoorC32
import Derived.Test.YtefdjahaimnndaaGreatDoorCards
import Derived.Test.YtefdjahaimnndaaGreatDoorC20
import Derived.Shelf.Strings.Split
import Derived.Shelf.Sort.Plain
import Derived.Shelf.Strconv.Itoa3
import Derived.WalkSmall
import Derived.Handed
import Derived.Lay
import Derived.LaidMore
import Derived.Shelf.Vars
import Derived.Lib.LaidTab
import Derived.Stop.LaidErr
import Derived.Sort.OwnSortedInts
namespace Go.Proofs.YtefdjahaimnndaaGreatDoor
open Go.ChangeShapes Go.WideShapes Go.ChangeAt Go.RowKit Go.Deep Go.Shelf
open Go.Lib (hid)
set_option linter.unusedVariables false
set_option linter.unusedSimpArgs false
def spl : List UInt8 → List (List UInt8)
 | [] => [[]]
 | b :: l => if b = 32 then [] :: spl l else (spl l).modifyHead (b :: ·)
theorem spl_ne (l : List UInt8) : spl l ≠ [] := by
 cases l with
 | nil => simp [spl]
 | cons b l =>
  unfold spl; split
  · simp
  · have := spl_ne l; intro h
    have h2 := congrArg List.length h; simp at h2; exact this h2
theorem spl_count0 : ∀ l : List UInt8, Lib.count l [32] = 0 → spl l = [l]
 | [], _ => rfl
 | b :: l, h => by
  by_cases e : b = 32
  · subst e; rw [Lib.count_cons_eq] at h; omega
  · rw [Lib.count_cons_ne b 32 l e] at h; unfold spl; rw [if_neg e, spl_count0 l h]; rfl
theorem split_spl : ∀ l : List UInt8, Lib.splitK [32] 0 (Lib.count l [32]) l = spl l
 | [] => by
  have : Lib.count [] [32] = 0 := by rw [Lib.count_one]; rfl
  rw [this]; rfl
 | b :: l => by
  by_cases e : b = 32
  · subst e; have hix : Lib.index (32 :: l) [32] = 0 := by rw [Lib.index]; simp [List.isPrefixOf]
    have ih := split_spl l; rw [Lib.count_cons_eq, Nat.add_comm, Lib.splitK, hix]; unfold spl; rw [if_pos rfl]; simp
    exact ih
  · have hp : ([32] : List UInt8).isPrefixOf (b :: l) = false := by simp [List.isPrefixOf, Ne.symm e]
    have hix : Lib.index (b :: l) [32] = if Lib.index l [32] == -1 then -1 else Lib.index l [32] + 1 := by rw [Lib.index, hp]; simp
    rw [Lib.count_cons_ne b 32 l e]; by_cases hm : Lib.index l [32] = -1
    · have hc := Lib.count_miss hm; rw [hc, spl_count0 (b :: l) (by rw [Lib.count_cons_ne b 32 l e]; exact hc)]; rfl
    · have hge := Lib.index_ge l [32]; obtain ⟨j, hj⟩ : ∃ j : Nat, Lib.index l [32] = j := ⟨(Lib.index l [32]).toNat, by omega⟩; have ih := split_spl l; have hc : ∃ k, Lib.count l [32] = k + 1 := by
       rw [Lib.count_hit (by simp) hj]; exact ⟨_, Nat.add_comm _ _⟩
      obtain ⟨k, hk⟩ := hc; rw [hk] at ih ⊢; have hix' : Lib.index (b :: l) [32] = ((j + 1 : Nat) : Int) := by rw [hix, if_neg (fun e => hm (beq_iff_eq.1 e)), hj]; omega
      rw [Lib.splitK, hix']; rw [Lib.splitK, hj] at ih; unfold spl; rw [if_neg e, ← ih]; have n1 : ¬ (((j + 1 : Nat) : Int) == -1) = true := fun e => by have := beq_iff_eq.1 e; omega
      have n2 : ¬ ((j : Int) == -1) = true := fun e => by have := beq_iff_eq.1 e; omega
      rw [if_neg n1, if_neg n2]; simp
theorem spl_snoc_sp : ∀ l : List UInt8, spl (l ++ [32]) = spl l ++ [[]]
 | [] => rfl
 | b :: l => by
  rw [List.cons_append, spl, spl_snoc_sp l, spl]; by_cases e : b = 32
  · simp [e]
  · rw [if_neg e, if_neg e]; obtain ⟨x, xs, hx⟩ := List.exists_cons_of_ne_nil (spl_ne l); rw [hx]; rfl
def lastW (xs : List (List UInt8)) (b : UInt8) : List (List UInt8) := xs.set (xs.length - 1) (xs.getD (xs.length - 1) [] ++ [b])
theorem spl_snoc : ∀ (l : List UInt8) (b : UInt8), b ≠ 32 → spl (l ++ [b]) = lastW (spl l) b
 | [], b, h => by simp [spl, h, lastW]
 | a :: l, b, h => by
  rw [List.cons_append, spl, spl_snoc l b h, spl]; obtain ⟨x, xs, hx⟩ := List.exists_cons_of_ne_nil (spl_ne l); rw [hx]; by_cases e : a = 32
  · rw [if_pos e, if_pos e]; unfold lastW; cases xs <;> simp
  · rw [if_neg e, if_neg e]; unfold lastW; cases xs <;> simp
theorem extract_one {s : ByteArray} {k : Nat} (h : k < s.size) : (s.extract k (k + 1)).data.toList = [s[k]] := by
 rw [ByteArray.data_extract, Array.toList_extract]; have hk : k < s.data.toList.length := by simpa using h
 rw [List.extract_eq_take_drop, List.drop_eq_getElem_cons hk, show k + 1 - k = 1 by omega]; simp
 rfl
theorem words_spl (s : ByteArray) : ∀ k, k ≤ s.size → (wordsTo s k).map (fun x => x.data.toList) = spl (s.data.toList.take k)
 | 0, _ => by simp [wordsTo, spl]
 | k + 1, hk => by
  have hk' : k < s.data.toList.length := by simpa using Nat.lt_of_succ_le hk
  have hb : s.data.toList[k] = s[k] := by simp; rfl
  have hbn : byN s k = (s[k]'(by omega)).toNat := by unfold byN; rw [dif_pos (by omega)]
  have ih := words_spl s k (by omega); rw [List.take_succ_eq_append_getElem hk', hb]; unfold wordsTo; by_cases e : byN s k = 32
  · rw [if_pos e]; have : s[k] = 32 := by rw [hbn] at e; exact UInt8.toNat_inj.1 e
    rw [this, spl_snoc_sp, List.map_append, ih]; rfl
  · rw [if_neg e]; have : s[k] ≠ 32 := fun h => e (by rw [hbn, h]; rfl)
    rw [spl_snoc _ _ this, ← ih]; unfold lastW; rw [List.map_set, List.length_map]; congr 1
    rw [ByteArray.data_append, Array.toList_append, extract_one (by omega)]; congr 1
    rw [List.getD_eq_getElem?_getD, List.getD_eq_getElem?_getD, List.getElem?_map]; cases (wordsTo s k)[(wordsTo s k).length - 1]? <;> rfl
theorem map_data_inj {xs ys : List ByteArray} (h : xs.map (fun x => x.data.toList) = ys.map (fun x => x.data.toList)) : xs = ys := by
 refine List.map_inj_right (f := fun x : ByteArray => x.data.toList) (fun a b hab => ?_) |>.1 h
 cases a; cases b
 simp at hab; rw [hab]
theorem split_words (s sep : ByteArray) (hs : sep.data.toList = [32]) : Lib.splitB sep 0 (Lib.countB s sep) s = wordsL s := by
 apply map_data_inj
 have h1 := Lib.splitB_data sep 0 (Lib.countB s sep) s; have h2 : Lib.countB s sep = Lib.count s.data.toList [32] := by
  first
  | (show Lib.count s.data.toList sep.data.toList = _; rw [hs])
  | (unfold Lib.countB; rw [hs])
 have h3 := words_spl s s.size (Nat.le_refl _); rw [List.take_of_length_le (by simp)] at h3; unfold wordsL; rw [h3, ← split_spl, ← hs, ← show Lib.countB s sep = Lib.count s.data.toList sep.data.toList by rw [h2, hs]]; exact h1
def sortLay_ren : Go.Shelf.Ren := ⟨fun | 189 => 197 | 125 => 207 | 257 => 206 | 128 => 219 | 129 => 202 | 294 => 210 | 295 => 211 | 296 => 212 | 297 => 213 | 298 => 214 | 299 => 215 | 216 => 216 | 300 => 217 | 301 => 218 | 328 => 220 | 329 => 221 | 330 => 222 | 331 => 223 | 332 => 224 | 215 => 225 | 343 => 226 | n => n, fun | 28 => 57 | 3 => 3 | 46 => 193 | 0 => 0 | 51 => 205 | 53 => 195 | 4 => 4 | 183 => 216 | 182 => 215 | 131 => 156 | 5 => 5 | 9 => 9 | 218 => 224 | 222 => 228 | 228 => 230 | 229 => 231 | n => n, fun | n => n⟩
theorem sortLay : Go.Proofs.Lays.n189 Tryz.prog sortLay_ren := {
 mixed := by kernel_rfl
 f125 := Tryz.func207.trans (congrArg some (by kernel_rfl))
 f128 := Tryz.func219.trans (congrArg some (by kernel_rfl))
 f129 := Tryz.func202.trans (congrArg some (by kernel_rfl))
 f189 := Tryz.func197.trans (congrArg some (by kernel_rfl))
 f215 := Tryz.func225.trans (congrArg some (by kernel_rfl))
 f216 := Tryz.func216.trans (congrArg some (by kernel_rfl))
 f257 := Tryz.func206.trans (congrArg some (by kernel_rfl))
 f294 := Tryz.func210.trans (congrArg some (by kernel_rfl))
 f295 := Tryz.func211.trans (congrArg some (by kernel_rfl))
 f296 := Tryz.func212.trans (congrArg some (by kernel_rfl))
 f297 := Tryz.func213.trans (congrArg some (by kernel_rfl))
 f298 := Tryz.func214.trans (congrArg some (by kernel_rfl))
 f299 := Tryz.func215.trans (congrArg some (by kernel_rfl))
 f300 := Tryz.func217.trans (congrArg some (by kernel_rfl))
 f301 := Tryz.func218.trans (congrArg some (by kernel_rfl))
 f328 := Tryz.func220.trans (congrArg some (by kernel_rfl))
 f329 := Tryz.func221.trans (congrArg some (by kernel_rfl))
 f330 := Tryz.func222.trans (congrArg some (by kernel_rfl))
 f331 := Tryz.func223.trans (congrArg some (by kernel_rfl))
 f332 := Tryz.func224.trans (congrArg some (by kernel_rfl))
 f343 := Tryz.func226.trans (congrArg some (by kernel_rfl))
 t0 := Tryz.underlying0
 a0 := Tryz.isAgg0
 z0 := Tryz.sizeOf0
 v0 := Tryz.zeroValue0
 t3 := Tryz.underlying3
 a3 := Tryz.isAgg3
 z3 := Tryz.sizeOf3
 v3 := Tryz.zeroValue3
 t4 := Tryz.underlying4
 a4 := Tryz.isAgg4
 z4 := Tryz.sizeOf4
 v4 := Tryz.zeroValue4
 t5 := Tryz.underlying5
 a5 := Tryz.isAgg5
 z5 := Tryz.sizeOf5
 v5 := Tryz.zeroValue5
 t9 := Tryz.underlying9
 a9 := Tryz.isAgg9
 z9 := Tryz.sizeOf9
 v9 := Tryz.zeroValue9
 t28 := Tryz.underlying57
 a28 := Tryz.isAgg57
 z28 := Tryz.sizeOf57
 v28 := Tryz.zeroValue57
 t46 := Tryz.underlying193
 a46 := Tryz.isAgg193
 z46 := Tryz.sizeOf193
 v46 := Tryz.zeroValue193
 t51 := Tryz.underlying205
 a51 := Tryz.isAgg205
 z51 := Tryz.sizeOf205
 v51 := Tryz.zeroValue205
 t53 := Tryz.underlying195
 a53 := Tryz.isAgg195
 z53 := Tryz.sizeOf195
 v53 := Tryz.zeroValue195
 t131 := Tryz.underlying156
 a131 := Tryz.isAgg156
 z131 := Tryz.sizeOf156
 v131 := Tryz.zeroValue156
 t182 := Tryz.underlying215
 a182 := Tryz.isAgg215
 z182 := Tryz.sizeOf215
 v182 := Tryz.zeroValue215
 t183 := Tryz.underlying216
 a183 := Tryz.isAgg216
 z183 := Tryz.sizeOf216
 v183 := Tryz.zeroValue216
 t218 := Tryz.underlying224
 a218 := Tryz.isAgg224
 z218 := Tryz.sizeOf224
 v218 := Tryz.zeroValue224
 t222 := Tryz.underlying228
 a222 := Tryz.isAgg228
 z222 := Tryz.sizeOf228
 v222 := Tryz.zeroValue228
 t228 := Tryz.underlying230
 a228 := Tryz.isAgg230
 z228 := Tryz.sizeOf230
 v228 := Tryz.zeroValue230
 t229 := Tryz.underlying231
 a229 := Tryz.isAgg231
 z229 := Tryz.sizeOf231
 v229 := Tryz.zeroValue231 }
def itoaLay_ren : Go.Shelf.Ren := ⟨fun | 171 => 128 | 243 => 165 | 246 => 182 | 283 => 193 | 284 => 194 | 285 => 195 | 286 => 196 | 129 => 202 | 317 => 201 | 318 => 203 | 319 => 204 | 320 => 205 | 337 => 208 | 338 => 209 | n => n, fun | 3 => 3 | 9 => 9 | 2 => 2 | 4 => 4 | 171 => 194 | 0 => 0 | 53 => 195 | 37 => 22 | 5 => 5 | 173 => 198 | 212 => 209 | 51 => 205 | 20 => 20 | 213 => 210 | 46 => 193 | 232 => 222 | 233 => 223 | n => n, fun | 17 => 3 | 18 => 4 | 19 => 5 | n => n⟩
theorem itoaLay : Go.Proofs.LaysM.n171 Tryz.prog itoaLay_ren := {
 mixed := by kernel_rfl
 f129 := Tryz.func202.trans (congrArg some (by kernel_rfl))
 f171 := Tryz.func128.trans (congrArg some (by kernel_rfl))
 f243 := Tryz.func165.trans (congrArg some (by kernel_rfl))
 f246 := Tryz.func182.trans (congrArg some (by kernel_rfl))
 f283 := Tryz.func193.trans (congrArg some (by kernel_rfl))
 f284 := Tryz.func194.trans (congrArg some (by kernel_rfl))
 f285 := Tryz.func195.trans (congrArg some (by kernel_rfl))
 f286 := Tryz.func196.trans (congrArg some (by kernel_rfl))
 f317 := Tryz.func201.trans (congrArg some (by kernel_rfl))
 f318 := Tryz.func203.trans (congrArg some (by kernel_rfl))
 f319 := Tryz.func204.trans (congrArg some (by kernel_rfl))
 f320 := Tryz.func205.trans (congrArg some (by kernel_rfl))
 f337 := Tryz.func208.trans (congrArg some (by kernel_rfl))
 f338 := Tryz.func209.trans (congrArg some (by kernel_rfl))
 t0 := Tryz.underlying0
 a0 := Tryz.isAgg0
 z0 := Tryz.sizeOf0
 v0 := Tryz.zeroValue0
 t2 := Tryz.underlying2
 a2 := Tryz.isAgg2
 z2 := Tryz.sizeOf2
 v2 := Tryz.zeroValue2
 t3 := Tryz.underlying3
 a3 := Tryz.isAgg3
 z3 := Tryz.sizeOf3
 v3 := Tryz.zeroValue3
 t4 := Tryz.underlying4
 a4 := Tryz.isAgg4
 z4 := Tryz.sizeOf4
 v4 := Tryz.zeroValue4
 t5 := Tryz.underlying5
 a5 := Tryz.isAgg5
 z5 := Tryz.sizeOf5
 v5 := Tryz.zeroValue5
 t9 := Tryz.underlying9
 a9 := Tryz.isAgg9
 z9 := Tryz.sizeOf9
 v9 := Tryz.zeroValue9
 t20 := Tryz.underlying20
 a20 := Tryz.isAgg20
 z20 := Tryz.sizeOf20
 v20 := Tryz.zeroValue20
 t37 := Tryz.underlying22
 a37 := Tryz.isAgg22
 z37 := Tryz.sizeOf22
 v37 := Tryz.zeroValue22
 t46 := Tryz.underlying193
 a46 := Tryz.isAgg193
 z46 := Tryz.sizeOf193
 v46 := Tryz.zeroValue193
 t51 := Tryz.underlying205
 a51 := Tryz.isAgg205
 z51 := Tryz.sizeOf205
 v51 := Tryz.zeroValue205
 t53 := Tryz.underlying195
 a53 := Tryz.isAgg195
 z53 := Tryz.sizeOf195
 v53 := Tryz.zeroValue195
 t171 := Tryz.underlying194
 a171 := Tryz.isAgg194
 z171 := Tryz.sizeOf194
 v171 := Tryz.zeroValue194
 t173 := Tryz.underlying198
 a173 := Tryz.isAgg198
 z173 := Tryz.sizeOf198
 v173 := Tryz.zeroValue198
 t212 := Tryz.underlying209
 a212 := Tryz.isAgg209
 z212 := Tryz.sizeOf209
 v212 := Tryz.zeroValue209
 t213 := Tryz.underlying210
 a213 := Tryz.isAgg210
 z213 := Tryz.sizeOf210
 t232 := Tryz.underlying222
 a232 := Tryz.isAgg222
 z232 := Tryz.sizeOf222
 v232 := Tryz.zeroValue222
 t233 := Tryz.underlying223
 a233 := Tryz.isAgg223
 z233 := Tryz.sizeOf223
 v233 := Tryz.zeroValue223
 g17 := by kernel_rfl
 g18 := by kernel_rfl
 g19 := by kernel_rfl
 i0 := by kernel_rfl
 i2 := by kernel_rfl
 i3 := by kernel_rfl
 i4 := by kernel_rfl
 i5 := by kernel_rfl
 i9 := by kernel_rfl
 i20 := by kernel_rfl
 i37 := by kernel_rfl
 i46 := by kernel_rfl
 i51 := by kernel_rfl
 i53 := by kernel_rfl
 i171 := by kernel_rfl
 i173 := by kernel_rfl
 i212 := by kernel_rfl
 i232 := by kernel_rfl
 i233 := by kernel_rfl
 m17 := by kernel_rfl
 m18 := by kernel_rfl
 m19 := by kernel_rfl }
def splitLay_ren : Go.Shelf.Ren := ⟨fun | 146 => 65 | 221 => 119 | 268 => 156 | 138 => 157 | 143 => 158 | 195 => 177 | 197 => 178 | 218 => 179 | 219 => 180 | 260 => 188 | 217 => 189 | 225 => 190 | 224 => 191 | 267 => 192 | 266 => 199 | 314 => 200 | n => n, fun | 9 => 9 | 31 => 32 | 3 => 3 | 4 => 4 | 0 => 0 | 105 => 187 | 21 => 21 | 5 => 5 | 46 => 193 | 119 => 201 | 139 => 204 | 138 => 203 | 146 => 206 | 51 => 205 | n => n, fun | 1 => 0 | 3 => 1 | 4 => 2 | n => n⟩
theorem splitLay : Go.Proofs.Lays.n146 Tryz.prog splitLay_ren := {
 mixed := by kernel_rfl
 f138 := Tryz.func157.trans (congrArg some (by kernel_rfl))
 f143 := Tryz.func158.trans (congrArg some (by kernel_rfl))
 f146 := Tryz.func65.trans (congrArg some (by kernel_rfl))
 f195 := Tryz.func177.trans (congrArg some (by kernel_rfl))
 f197 := Tryz.func178.trans (congrArg some (by kernel_rfl))
 f217 := Tryz.func189.trans (congrArg some (by kernel_rfl))
 f218 := Tryz.func179.trans (congrArg some (by kernel_rfl))
 f219 := Tryz.func180.trans (congrArg some (by kernel_rfl))
 f221 := Tryz.func119.trans (congrArg some (by kernel_rfl))
 f224 := Tryz.func191.trans (congrArg some (by kernel_rfl))
 f225 := Tryz.func190.trans (congrArg some (by kernel_rfl))
 f260 := Tryz.func188.trans (congrArg some (by kernel_rfl))
 f266 := Tryz.func199.trans (congrArg some (by kernel_rfl))
 f267 := Tryz.func192.trans (congrArg some (by kernel_rfl))
 f268 := Tryz.func156.trans (congrArg some (by kernel_rfl))
 f314 := Tryz.func200.trans (congrArg some (by kernel_rfl))
 t0 := Tryz.underlying0
 a0 := Tryz.isAgg0
 z0 := Tryz.sizeOf0
 v0 := Tryz.zeroValue0
 t3 := Tryz.underlying3
 a3 := Tryz.isAgg3
 z3 := Tryz.sizeOf3
 v3 := Tryz.zeroValue3
 t4 := Tryz.underlying4
 a4 := Tryz.isAgg4
 z4 := Tryz.sizeOf4
 v4 := Tryz.zeroValue4
 t5 := Tryz.underlying5
 a5 := Tryz.isAgg5
 z5 := Tryz.sizeOf5
 v5 := Tryz.zeroValue5
 t9 := Tryz.underlying9
 a9 := Tryz.isAgg9
 z9 := Tryz.sizeOf9
 v9 := Tryz.zeroValue9
 t21 := Tryz.underlying21
 a21 := Tryz.isAgg21
 z21 := Tryz.sizeOf21
 v21 := Tryz.zeroValue21
 t31 := Tryz.underlying32
 a31 := Tryz.isAgg32
 z31 := Tryz.sizeOf32
 v31 := Tryz.zeroValue32
 t46 := Tryz.underlying193
 a46 := Tryz.isAgg193
 z46 := Tryz.sizeOf193
 v46 := Tryz.zeroValue193
 t51 := Tryz.underlying205
 a51 := Tryz.isAgg205
 z51 := Tryz.sizeOf205
 v51 := Tryz.zeroValue205
 t105 := Tryz.underlying187
 a105 := Tryz.isAgg187
 z105 := Tryz.sizeOf187
 v105 := Tryz.zeroValue187
 t119 := Tryz.underlying201
 a119 := Tryz.isAgg201
 z119 := Tryz.sizeOf201
 t138 := Tryz.underlying203
 a138 := Tryz.isAgg203
 z138 := Tryz.sizeOf203
 v138 := Tryz.zeroValue203
 t139 := Tryz.underlying204
 a139 := Tryz.isAgg204
 z139 := Tryz.sizeOf204
 v139 := Tryz.zeroValue204
 t146 := Tryz.underlying206
 a146 := Tryz.isAgg206
 z146 := Tryz.sizeOf206
 v146 := Tryz.zeroValue206
 g1 := by kernel_rfl
 g3 := by kernel_rfl
 g4 := by kernel_rfl }
theorem dig_byte {s : ByteArray} {k : Nat} (h : k < s.size) (h1 : 48 ≤ byN s k) : dig (48 + ((byN s k - 48 : Nat) : Int)) = s.extract k (k + 1) := by
 apply ByteArray.ext
 apply Array.toList_inj.1
 rw [extract_one h]; unfold dig; rw [strOfNums_data]; have e : byN s k = (s[k]'h).toNat := byN_of h; have e2 : (48 + ((byN s k - 48 : Nat) : Int)).toNat = (s[k]'h).toNat := by omega
 simp [e2]
theorem decT_size : ∀ (j n : Nat), n < 10 ^ (j + 1) → (decT n).size ≤ j + 1
 | 0, n, h => by
  rw [decT, dif_pos (by simpa using h)]; exact Nat.le_of_eq (dig_size _)
 | j + 1, n, h => by
  rw [decT]; split
  · rw [dig_size]; omega
  · rw [ByteArray.size_append, dig_size]; have := decT_size j (n / 10) (by rw [Nat.pow_succ] at h; omega); omega
theorem valTo_zero {s : ByteArray} (h0 : byN s 0 = 48) : ∀ k, DigTo s (k + 1) → valTo s (k + 1) < 10 ^ k
 | 0, _ => by simp [valTo, h0]
 | k + 1, hd => by
  have ih := valTo_zero h0 k (fun i hi => hd i (by omega)); have := hd (k + 1) (by omega); rw [show valTo s (k + 1 + 1) = 10 * valTo s (k + 1) + (byN s (k + 1) - 48) from rfl, Nat.pow_succ]; omega
theorem extract_join (s : ByteArray) (k : Nat) : s.extract 0 k ++ s.extract k (k + 1) = s.extract 0 (k + 1) := by
 rw [ByteArray.extract_append_extract]; congr 1 <;> omega
theorem decT_valTo {s : ByteArray} : ∀ k, k < s.size → DigTo s (k + 1) → (k = 0 ∨ byN s 0 ≠ 48) → decT (valTo s (k + 1)) = s.extract 0 (k + 1)
 | 0, hk, hd, _ => by
  have := hd 0 (by omega); rw [show valTo s 1 = byN s 0 - 48 from by simp [valTo], decT, dif_pos (by omega), dig_byte hk this.1]
 | k + 1, hk, hd, h0 => by
  have h0' : byN s 0 ≠ 48 := h0.resolve_left (by omega); have hd1 := hd (k + 1) (by omega); have hpos : ∀ j, j ≤ k → 1 ≤ valTo s (j + 1) := by
   intro j hj
   induction j with
   | zero =>
    have := hd 0 (by omega); rw [show valTo s (0 + 1) = byN s 0 - 48 from by simp [valTo]]; omega
   | succ j ih =>
    have := ih (by omega); rw [show valTo s (j + 1 + 1) = 10 * valTo s (j + 1) + (byN s (j + 1) - 48) from rfl]; omega
  have ih := decT_valTo k (by omega) (fun i hi => hd i (by omega)) (.inr h0'); have hp := hpos k (Nat.le_refl _); have e : valTo s (k + 1 + 1) = 10 * valTo s (k + 1) + (byN s (k + 1) - 48) := rfl; rw [decT, dif_neg (by rw [e]; omega)]; rw [show valTo s (k + 1 + 1) / 10 = valTo s (k + 1) by rw [e]; omega, show valTo s (k + 1 + 1) % 10 = byN s (k + 1) - 48 by rw [e]; omega]; rw [ih, dig_byte hk hd1.1, extract_join]
def NumW (s : ByteArray) : Prop := (1 ≤ s.size ∧ s.size ≤ 4) ∧ ¬ (byN s 0 = 48 ∧ 1 < s.size) ∧ DigTo s s.size
theorem numW_iff (s : ByteArray) : NumOk s ↔ NumW s := by
 constructor
 · rintro ⟨h1, h2, h3, h4⟩; refine ⟨⟨by omega, h1⟩, fun ⟨h5, h6⟩ => ?_, h2⟩; obtain ⟨j, hj⟩ : ∃ j, s.size = j + 1 + 1 := ⟨s.size - 2, by omega⟩; have hv := valTo_zero h5 (j + 1) (by rw [← hj]; exact h2); rw [← hj] at hv; have hz := decT_size j _ hv; rw [h4] at hz; omega
 · rintro ⟨⟨h1, h2⟩, h3, h4⟩; refine ⟨h2, h4, by omega, ?_⟩; obtain ⟨j, hj⟩ : ∃ j, s.size = j + 1 := ⟨s.size - 1, by omega⟩; have := decT_valTo (s := s) j (by omega) (by rw [← hj]; exact h4) (by
    by_cases e : j = 0
    · exact .inl e
    · exact .inr (fun h => h3 ⟨h, by omega⟩))
   rw [hj, this, ← hj, ByteArray.extract_zero_size]
theorem numT_w {s : ByteArray} (h : NumW s) : numT s = ((valTo s s.size : Nat) : Int) := numT_yes ((numW_iff s).2 h)
theorem numT_n {s : ByteArray} (h : ¬ NumW s) : numT s = -1 := numT_no (fun h' => h ((numW_iff s).1 h'))
def NumR (s : ByteArray) (e : Ending) : Prop := ∃ v : Int, e = .returned (.tuple #[.int .i64 v, .bool (decide (0 ≤ numT s))]) ∧ (0 ≤ numT s → v = numT s)
theorem numR_no {s : ByteArray} (h : ¬ NumW s) : NumR s (.returned (.tuple #[.int .i64 0, .bool false])) := by
 have e := numT_n h; exact ⟨0, by rw [e]; rfl, fun h' => by rw [e] at h'; omega⟩
theorem numR_yes {s : ByteArray} (h : NumW s) : NumR s (.returned (.tuple #[.int .i64 (valTo s s.size : Nat), .bool true])) := by
 have e := numT_w h; exact ⟨_, by rw [decide_eq_true (by rw [e]; omega)], fun _ => e.symm⟩
set_option maxRecDepth 8000 in
set_option maxHeartbeats 1000000 in
theorem lineNumber_c (s : ByteArray) (w : World) (hm : s.size ≤ 9223372036854775807) : Calls Tryz.prog 124 #[.string s] w fun e w' => NumR s e ∧ w' = w := by
 have HN := hid (numR_no (s := s)); have HY := hid (numR_yes (s := s)); by_cases hz : s.size < 1
 · have hno := hid (HN.out (fun h => by have := h.1.1; omega)); go_enter Tryz.func124, Tryz.ntmps124
   go_wp2; go_returns
   exact ⟨hno.out, rfl⟩
 · by_cases h4 : 4 < s.size
   · have hno := hid (HN.out (fun h => by have := h.1.2; omega)); go_enter Tryz.func124, Tryz.ntmps124
     go_wp2; go_returns
     exact ⟨hno.out, rfl⟩
   · have hs0 : 0 < s.size := by omega
     have HB0 := hid (byN_of hs0); by_cases hl : s[0] = 48 ∧ 1 < s.size
     · obtain ⟨hl1, hl2⟩ := hl; have hno := hid (HN.out (fun h => h.2.1 ⟨by rw [HB0.out, hl1]; rfl, hl2⟩)); have hl3 : s[0].toNat = 48 := by rw [hl1]; rfl
       have hl4 : (((s[0].toNat : Nat) : Int) == 48) = true := by rw [hl3]; rfl
       go_enter Tryz.func124, Tryz.ntmps124
       go_wp2; go_returns
       exact ⟨hno.out, rfl⟩
     · have HNL := hid (show ¬ (byN s 0 = 48 ∧ 1 < s.size) from fun h => hl ⟨UInt8.toNat_inj.1 (by rw [← HB0.out, h.1]; rfl), h.2⟩); have HF := hid (fun (h : DigTo s s.size) => HY.out ⟨⟨by omega, by omega⟩, HNL.out, h⟩); have HNO := hid (fun (h : ¬ DigTo s s.size) => HN.out (fun h' => h h'.2.2)); have hsp : (((s[0].toNat : Nat) : Int) == 48) = false ∨ ((((s[0].toNat : Nat) : Int) == 48) = true ∧ ¬ (1 : Int) < s.size) := by
        by_cases e : s[0] = 48
        · exact .inr ⟨by rw [e]; rfl, fun h => hl ⟨e, by omega⟩⟩
        · refine .inl (beq_eq_false_iff_ne.2 (fun h => e (UInt8.toNat_inj.1 ?_))); have h2 : s[0].toNat = 48 := by omega
          rw [h2]; rfl
       clear hl HN HY HNL; rcases hsp with hs1 | ⟨hs1, hs2⟩
       all_goals
        go_enter Tryz.func124, Tryz.ntmps124
        go_upto_region 3 with (fail)
        go_wp2_with fail; go_loop [4, 26] (fun v i => ∃ k : Nat, k ≤ s.size ∧ i = .int .i64 k ∧ v = .int .i64 (valTo s k : Nat) ∧ DigTo s k) (fun _ i => s.size - (intOf i).toNat)
        case atStart => exact ⟨0, Nat.zero_le _, rfl, rfl, DigTo.zero _⟩
        case round =>
         obtain ⟨k, hk, rfl, rfl, hto⟩ := hrel; have hv := valTo_lt hto; have hp : 10 ^ k ≤ 10 ^ 4 := Nat.pow_le_pow_right (by omega) (by omega); have HT := hid hto; clear hto; by_cases hlt : k < s.size
         · have HB := hid (byN_of hlt); have HNK := hid (show ¬ (48 ≤ byN s k ∧ byN s k ≤ 57) → NumR s (.returned (.tuple #[.int .i64 0, .bool false])) from fun h => HNO.out (fun h' => h (h' k hlt))); have HV := hid (show valTo s (k + 1) = 10 * valTo s k + (byN s k - 48) from rfl); generalize valTo s k = q at *; have hq4 : q < 10000 := by omega
           clear hv hp; by_cases ha : s[k].toNat < 48
           · have hno := hid (HNK.out (fun h => by rw [HB.out] at h; omega)); go_wp2; go_returns; exact ⟨hno.out, rfl⟩
           · by_cases hz : 57 < s[k].toNat
             · have hno := hid (HNK.out (fun h => by rw [HB.out] at h; omega)); go_wp2; go_returns; exact ⟨hno.out, rfl⟩
             · have HT2 := hid (HT.out.succ (by rw [HB.out]; omega) (by rw [HB.out]; omega)); have hx : s[k].toNat < 256 := s[k].toNat_lt; go_wp2; go_round
               case rel => exact ⟨k + 1, by omega, by go_num, by rw [HV.out, HB.out]; go_num, HT2.out⟩
               case measure => simp [intOf]; omega
         · obtain rfl : k = s.size := by omega
           have HRT := hid (HF.out HT.out); generalize valTo s s.size = q at *; go_wp2; go_returns; exact ⟨HRT.out, rfl⟩
def powName : String := Rows.fnDiskLineRow.named.getD 3 ""
theorem powName_at : Tryz.prog.globalNamed powName = some 3 := by kernel_rfl
structure Gl (w : World) : Prop where
 ml : ∃ m : Int, w.cell? ⟨0, 0, none⟩ = some (.int .i64 m)
 pt : Lib.TabIs Tryz.prog w powName .u64 Lib.pow10Tab
theorem Gl.grown {w w' : World} {row : Option Nat} (h : Gl w) (b : w.grownBy w' row) (h0 : row ≠ some 0) (h3 : row ≠ some 3) : Gl w' := by
 obtain ⟨⟨m, hm⟩, hp⟩ := h; refine ⟨⟨m, World.grownBy.cell b hm (fun e => h0 e.symm)⟩, ?_⟩; unfold Lib.TabIs World.var? at hp ⊢; rw [powName_at] at hp ⊢; simp only [Option.bind_some] at hp ⊢; have h3' : 3 < w.heap.size := by
  rcases Nat.lt_or_ge 3 w.heap.size with h | h
  · exact h
  · rw [Array.getElem?_eq_none h] at hp; cases hp
 rw [b.block 3 h3' (fun e => h3 e.symm)]; exact hp
theorem Gl.below {w w' : World} (h : Gl w) (b : Below w.heap.size w w') : Gl w' := h.grown (gb_of_below b none) (by simp) (by simp)
theorem decT_digits : ∀ n : Nat, (decT n).data.toList = Lib.decDigits n := by
 intro n
 induction n using Nat.strongRecOn with
 | _ n ih =>
  rw [decT, Lib.decDigits]; by_cases h : n < 10
  · rw [dif_pos h, dif_pos h]; unfold dig; rw [strOfNums_data]; show [UInt8.ofNat (48 + (n : Int)).toNat] = _
    rw [show (48 + (n : Int)).toNat = 48 + n by omega]
  · rw [dif_neg h, dif_neg h, ByteArray.data_append, Array.toList_append, ih (n / 10) (by omega)]; congr 1
theorem itoa_c (n : Nat) (hn : n ≤ 1000000) {w : World} (hg : Gl w) : Calls Tryz.prog 128 #[.int .i64 (n : Int)] w fun e w' => e = .returned (.string (decT n)) ∧ Below w.heap.size w w' := by
 refine (Any.strconv_Itoa itoaLay (n : Int) (by omega) (by omega) w hg.pt).mono ?_; rintro e w' ⟨rfl, k, os, rfl⟩; refine ⟨?_, ?_⟩
 · congr 2
   have : Lib.itoa (n : Int) = (decT n).data.toList := by
    unfold Lib.itoa; rw [if_neg (by omega), Int.toNat_natCast, decT_digits]
   rw [this]
 · exact ⟨rfl, rfl, rfl, by show w.heap.size ≤ (w.heap ++ os).size; rw [Array.size_append]; omega, fun j hj => Go.Sort.heap_grow_old _ _ hj⟩
theorem split_c (s : ByteArray) (hs : s.size ≤ 1048576) {w : World} (hg : Gl w) : Calls Tryz.prog 65 #[.string s, .string ⟨#[32]⟩] w fun e w' => e = .returned (.slice (some ⟨w.heap.size, 0, none⟩) (wordsL s).length (wordsL s).length) ∧ w' = w.alloc (.cells ((wordsL s).map Value.string).toArray 9) := by
 obtain ⟨m, hm⟩ := hg.ml; have e := split_words s ⟨#[32]⟩ rfl; have hl := Lib.splitB_all ⟨#[32]⟩ (Nat.le_refl 1) 0 _ s rfl; rw [e] at hl; refine (Any.strings_Split splitLay infoStr s ⟨#[32]⟩ m w (by omega) hm (Nat.le_refl 1)).mono ?_; rintro e w' ⟨rfl, rfl⟩; rw [‹Lib.splitB _ _ _ _ = _›, ← hl]; exact ⟨rfl, rfl⟩
set_option maxRecDepth 100000
abbrev laidV : List (String × DataW Unit) := Rows.fnDiskLineRow.laid
theorem laidPlain (W : World) : laidMetH Tryz.prog laidV W ↔ laidMet Tryz.prog laidV W := by rw [MakeChecks.laidMetH_plain _ _ _ (by kernel_rfl)]
theorem powData : (Rows.laid_internal_strconv_uint64pow10 : DataW Unit) = Lib.tabData .u64 Lib.pow10Tab := by kernel_rfl
theorem gl_of {W : World} (hs : W.ShapedOpen Tryz.prog) (hL : laidMetH Tryz.prog laidV W) : Gl W ∧ 4 ≤ W.heap.size := by
 have ml : ∃ m : Int, W.cell? ⟨0, 0, none⟩ = some (.int .i64 m) :=
  cell_of_shapedOpen_int (zero := #[.int .i64 0]) (t := 3) hs (of_decide_eq_true (by kernel_rfl)) (by kernel_rfl) rfl (by kernel_rfl) (by kernel_rfl) Tryz.underlying3
 have h1 := laidMet.tail (laidMet.tail ((laidPlain W).1 hL)); have pt : Lib.TabIs Tryz.prog W powName .u64 Lib.pow10Tab := by
  have h2 : laidMet Tryz.prog ((powName, Lib.tabData .u64 Lib.pow10Tab) :: [("unicode/utf8.acceptRanges", Rows.laid_unicode_utf8_acceptRanges), ("unicode/utf8.first", Rows.laid_unicode_utf8_first)]) W := by
   rw [← powData]; exact h1
  exact Lib.tabIs_of_head (g := 3) (t := 209) (e := 195) (n := 20) (by kernel_rfl) (by kernel_rfl) Tryz.underlying209 Tryz.underlying195 (by kernel_rfl) (by kernel_rfl) h2
 have h3 := block_lt_of_cell (pt.cell powName_at 0 (by rw [Lib.pow10Tab_length]; omega)); exact ⟨⟨ml, pt⟩, h3⟩
theorem door_met (os : Os) (args : Array Value) : laidMetH Tryz.prog laidV ((World.laidAll Tryz.prog os laidV).forCall (fun _ _ => 0) ⟨#[], args, []⟩).memory := by
 rw [MakeChecks.laidMetH_plain _ _ _ (by kernel_rfl)]; exact laidMet_laidAll _ (by kernel_rfl) (by kernel_rfl)
theorem returns_and {H : Type} {enc : TypeId × Value → H} {a : Assume} {C : Checked} {os : Os} {f : FuncId} {fn : Func} {s : ChangeSpec} {conds : List PathCond} {apart fresh handsOn again : Bool} {X : World → Array Value → Prop}
 (hX : ∀ (w w' : World) (args : Array Value), w.heap = w'.heap → X w args → X w' args)
 (own : ownKnob C.prog.godebug = none) (started : os.Started) (noInit : C.prog.inits.idxOf? f = none) (hfn : C.prog.funcs[f]? = some fn)
 (witness : ∃ (w : World) (tape : Tape) (i : Input), w.os = os ∧ (w.forCall tape i).Shaped C.prog ∧ i.vars = [] ∧ Input.okWide C.prog (w.forCall tape i) .any w.heap.size f i ∧
  ((s.pre enc C.prog fn conds apart (w.forCall tape i).memory i.args ∧ X (w.forCall tape i).memory i.args) ∧ sizedMet enc C.prog fn (OpenSpec.ofChange s) apart (w.forCall tape i).memory i.args) ∧ a.holds C.prog (lone (Frame.enter C.prog f i.args .normal) [] (w.forCall tape i)))
 (contract : ∀ (W : World) (base : Nat) (args : Array Value) (ds gs : List (DataW H)) (before : List MemPlace),
  (∀ (j : Nat) t v, fn.params[j]? = some t → args[j]? = some v → Value.okWide C.prog W .any base t v) →
  DataW.Whole enc C.prog fn.params.toList s.vars apart W args.toList ds gs before → X W args → W.ShapedOpen C.prog →
  Calls C.prog f args W fun e W' => ∃ v, e = .returned v ∧ s.post enc C.prog fn apart fresh handsOn again W args v W') :
 ReturnsInHanded a C os f .any (fun w args => (s.pre enc C.prog fn conds apart w args ∧ X w args) ∧ sizedMet enc C.prog fn (OpenSpec.ofChange s) apart w args) (s.post enc C.prog fn apart fresh handsOn again) := by
 refine returnsInHanded_of_calls own started noInit witness ?_; intro w tape i _ hsh _ hok hpre hholds
 obtain ⟨_, _, _, fn', hfn', _, _, _, _, hval⟩ := hok; have e : fn' = fn := Option.some.inj (hfn'.symm.trans hfn); subst e; obtain ⟨⟨⟨ds, gs, before, hw, hc⟩, hx⟩, hz⟩ := hpre; have hw' := DataW.Whole.of_heap (w' := w.forCall tape i) (by rfl) hw; refine (contract (w.forCall tape i) w.heap.size i.args ds gs before hval hw' (hX _ _ _ (by rfl) hx) hsh).mono fun e W' ⟨v, he, hp⟩ => ?_
 subst he; exact ChangeSpec.post_blind hp
set_option maxRecDepth 8000 in
set_option maxHeartbeats 4000000 in
theorem readPlace_cmd {h : DH} {d : DiskV} {B : Nat} {t pl : ByteArray} {w : World} (hr : RdD w B h d) (hB : B ≤ w.heap.size) (hok : DiskOk d) (hg : Gl w) (ht : t.size ≤ 9223372036854775807) (hpl : pl.size ≤ 9223372036854775807) :
 Calls Tryz.prog 68 #[dkv h d, .string t, .string pl] w fun e w' => ∃ (a : ByteArray) (ok : Bool), e = .returned (.tuple #[.string a, .bool ok]) ∧ Below w.heap.size w w' ∧ (ok = false → readC d t pl = none) ∧ (ok = true → readC d t pl = some ⟨d, a⟩) := by
 have HNM := hid hok.2.2.2.2.1; have HDV := hid hok.1.1; have HTB := hid hok.2.1; have HN9 := hid (names_nine hok.2.2.2.2.1); have HTX := hid (names_txt hok.2.2.2.2.1); have HR := hid (hr.mono hB); have HGL := hid hg; clear hr hok hg; obtain ⟨bA, bn, bc, tA, tn, tc, nA, nn, nc⟩ := h; obtain ⟨bs, ts, hot, warm, cold, stamp, ns⟩ := d; have HLN := hid (show ns.length = nn from HR.out.n.len); have HLB := hid (show bs.length = bn from HR.out.b.len); have HTZ := hid (show ∀ i, i < nn → (nTxt ns i).size ≤ 9223372036854775807 from fun i hi => by
  have hl : ns.length = nn := HLN.out; have h1 : (nTxt ns i).size ≤ 8 := HTX.out i (by show i < ns.length; omega); omega)
 have HRG := hid (findN_range HNM.out t); have b1 : Below w.heap.size w (w.alloc (.cells (dc bA bn bc tA tn tc hot warm cold stamp nA nn nc) 31)) := (Below.refl _ _).alloc (Nat.le_refl _) _; have k1 := Blk.new w 31 (dc bA bn bc tA tn tc hot warm cold stamp nA nn nc); have HB1 := hid b1; clear b1; go_enter Tryz.func68, Tryz.ntmps68
 go_upto_region 1 with (fail)
 generalize w.alloc (.cells (dc bA bn bc tA tn tc hot warm cold stamp nA nn nc) 31) = w1 at *; have t6 := k1.cell 6; simp at t6; go_wp2_with fail; refine (findName_impl (t := t) (show RdN _ w.heap.size nA nn ns from (HR.out.below HB1.out).n) HB1.out.size (by have hl : ns.length = nn := HLN.out; have : ns.length ≤ 9 := HN9.out; omega) HTZ.out HNM.out).mono ?_; rintro e w2 ⟨rfl, b2⟩; have k2 := k1.below b2 k1.lt; have HB2 := hid (HB1.out.trans (b2.mono HB1.out.size)); clear b2 t6 k1 HB1; go_wp2_with fail; refine (lineNumber_c pl w2 hpl).mono ?_; rintro e w3 ⟨⟨p, rfl, hp⟩, hw3⟩; rw [hw3]; clear hw3 w3; have HP := hid hp; clear hp; go_upto_region 3 with (fail)
 by_cases hf : findN ns t < 0
 · have hd := decide_eq_true hf; have HC := hid (readC_neg (d := ⟨bs, ts, hot, warm, cold, stamp, ns⟩) (t := t) (pl := pl) (.inl hf)); clear hf HP; generalize findN ns t = F at *; generalize decide (0 ≤ numT pl) = dp at *; go_wp2; go_returns; exact ⟨_, false, rfl, HB2.out, fun _ => HC.out, fun h => (nomatch h)⟩
 · by_cases hP : 0 ≤ numT pl
   · have hd := decide_eq_false hf; have hq := decide_eq_true hP; have hpe := HP.out hP; subst hpe; rw [hq]; clear hq HP; by_cases h5 : 5 < numT pl
     · have h5d := decide_eq_true h5; have HC := hid (readC_neg (d := ⟨bs, ts, hot, warm, cold, stamp, ns⟩) (t := t) (pl := pl) (.inr (.inr h5))); clear hf hP h5; generalize findN ns t = F at *; generalize numT pl = P at *; go_wp2; go_returns; exact ⟨_, false, rfl, HB2.out, fun _ => HC.out, fun h => (nomatch h)⟩
     · have h5d := decide_eq_false h5; obtain ⟨f, hF⟩ : ∃ f : Nat, findN ns t = f := ⟨(findN ns t).toNat, by omega⟩; obtain ⟨k, hK⟩ : ∃ k : Nat, numT pl = k := ⟨(numT pl).toNat, by omega⟩; have hf8 : f < 8 := by have h := HRG.out; rw [hF] at h; omega
       have hk6 : k < 6 := by omega
       have HC := hid (readC_yes (bs := bs) (ts := ts) (a := hot) (b := warm) (c := cold) (st := stamp) hF hK (by omega)); have hpo := pgAt_ok HDV.out (tE ts f k); rw [hF, hK] at *; clear hf hP h5 hF hK HRG; have HRP := hid (fun (W : World) (b : Below w.heap.size w W) => readPage_iX (c := bc) (at' := tE ts f k) (show RdB W w.heap.size bA bn bs from (HR.out.below b).b) b.size (by have : bs.length ≤ 12 := HDV.out.1.2; have hl : bs.length = bn := HLB.out; omega) HDV.out); generalize pgAt bs (tE ts f k) = PG at *; obtain ⟨pf, pa, pb, pc, pd⟩ := PG; have HPO := hid hpo; clear hpo; unfold pgv at HRP; simp only at HRP HC; have t0 := k2.cell 0; have t1 := k2.cell 1; simp at t0 t1; go_upto_region 5 with (fail)
       go_cut [11, 12] from 32 to 42 (fun p q wx => ∃ gp, p = .pointer (some ⟨gp, 0, none⟩) ∧ q = .bool pf ∧ Blk wx gp 88 #[.bool pf, .int .i64 pa, .int .i64 pb, .int .i64 pc, .int .i64 pd] ∧ Below w2.heap.size w2 wx)
       case first =>
        have lk := k2.lt; have KP := hid (show ∀ W, Below w2.heap.size w2 W → W.cell? ⟨w.heap.size, 0, none⟩ = some (.slice bA bn bc) ∧ W.cell? ⟨w.heap.size, 1, none⟩ = some (.slice tA tn tc) from fun W b => ⟨(b.cell (p := ⟨_, 0, none⟩) lk).trans t0, (b.cell (p := ⟨_, 1, none⟩) lk).trans t1⟩); refine wp_region_held_drew (S := fun w' => w'.cell? ⟨w.heap.size, 0, none⟩ = some (.slice bA bn bc) ∧ w'.cell? ⟨w.heap.size, 1, none⟩ = some (.slice tA tn tc)) (by kernel_rfl) ?_ (fun h_ => ?_)
        · exact KP.out _ (Below.refl _ _).drew
        refine tk 0 ?_; refine tk 1 ?_; refine tk 2 ?_; refine tk 3 ?_; refine tk 4 ?_; refine tk 5 ?_; clear t0 t1; have c0 := hid (show Below w2.heap.size w2 w2.drew from (Below.refl _ _).drew); generalize w2.drew = v0 at *; refine rd2 6 11 (fun K hK => ?_) (fun K hK => ?_)
        · go_simp; refine (tableGet_impl (f := f) (k := k) (show RdT _ w.heap.size tA tn ts from (HR.out.below (HB2.out.trans (c0.out.mono HB2.out.size))).t) (Nat.le_trans HB2.out.size c0.out.size) HTB.out hf8 hk6).mono ?_
          rintro e v1 ⟨rfl, bx⟩; have c1 := hid (c0.out.trans (bx.mono c0.out.size)); clear bx; go_wp2_with fail; refine hK.out _ _ (KP.out _ c1.out) fun h_ => ?_
          clear hK K; refine pt ?_; refine rd2 7 11 (fun K hK => ?_) (fun K hK => ?_)
          · go_simp; refine (HRP.out _ (HB2.out.trans (c1.out.mono HB2.out.size))).mono ?_
            rintro e v2 ⟨rfl, bx⟩; have c2 := hid (c1.out.trans (bx.mono c1.out.size)); clear bx; go_wp2_with fail; refine hK.out _ _ (KP.out _ c2.out) fun h_ => ?_
            clear hK K; refine pt ?_; refine tk 8 ?_; refine tk 9 ?_; refine tk 10 ?_; refine rd1 11 (fun K hK => ?_); go_simp; have bx : Below v2.heap.size v2 (v2.alloc (.cells #[.bool false, .int .i64 0, .int .i64 0, .int .i64 0, .int .i64 0] 88)) := (Below.refl _ _).alloc (Nat.le_refl _) _; have q := Blk.new v2 88 #[.bool false, .int .i64 0, .int .i64 0, .int .i64 0, .int .i64 0]; have c3 := hid (c2.out.trans (bx.mono c2.out.size)); have gpl := c2.out.size; clear bx; refine hK.out _ _ (KP.out _ c3.out) fun h_ => ?_
            clear hK K; refine pt ?_; generalize v2.alloc (.cells #[.bool false, .int .i64 0, .int .i64 0, .int .i64 0, .int .i64 0] 88) = v3 at *; generalize v2.heap.size = gp at *; have y0 := q.cell 0; have y1 := q.cell 1; have y2 := q.cell 2; have y3 := q.cell 3; have y4 := q.cell 4; simp at y0 y1 y2 y3 y4; have z0 := q.frozen 0; have z1 := q.frozen 1; have z2 := q.frozen 2; have z3 := q.frozen 3; have z4 := q.frozen 4; have qz := (((((q.set_ 0 (.bool pf)).set_ 1 (.int .i64 pa)).set_ 2 (.int .i64 pb)).set_ 3 (.int .i64 pc)).set_ 4 (.int .i64 pd)); simp at qz; have cz := (((((c3.out.setCell (p := ⟨gp, 0, none⟩) gpl (.bool pf)).setCell (p := ⟨gp, 1, none⟩) gpl (.int .i64 pa)).setCell (p := ⟨gp, 2, none⟩) gpl (.int .i64 pb)).setCell (p := ⟨gp, 3, none⟩) gpl (.int .i64 pc)).setCell (p := ⟨gp, 4, none⟩) gpl (.int .i64 pd)); refine rd1 12 (fun K hK => ?_); go_simp; refine hK.out _ _ (KP.out _ cz) fun h_ => ?_
            clear hK K; refine pt ?_; refine tk 13 ?_; refine dn ?_; clear h_ y0 z0 y1 z1 y2 z2 y3 z3 y4 z4; go_wp2_with fail; go_meet; exact ⟨gp, rfl, rfl, qz, cz⟩
          · go_simp; have bx : Below v1.heap.size v1 (v1.alloc (.cells #[.bool false, .int .i64 0, .int .i64 0, .int .i64 0, .int .i64 0] 88)) := (Below.refl _ _).alloc (Nat.le_refl _) _
            have q := Blk.new v1 88 #[.bool false, .int .i64 0, .int .i64 0, .int .i64 0, .int .i64 0]; have c2 := hid (c1.out.trans (bx.mono c1.out.size)); have gpl := c1.out.size; clear bx; refine hK.out _ _ (KP.out _ c2.out) fun h_ => ?_
            clear hK K; refine pt ?_; generalize v1.alloc (.cells #[.bool false, .int .i64 0, .int .i64 0, .int .i64 0, .int .i64 0] 88) = v2 at *; generalize v1.heap.size = gp at *; refine rd1 7 (fun K hK => ?_); go_simp; refine (HRP.out _ (HB2.out.trans (c2.out.mono HB2.out.size))).mono ?_; rintro e v3 ⟨rfl, bx⟩; have c3 := hid (c2.out.trans (bx.mono c2.out.size)); replace q := q.below bx q.lt; clear bx; go_wp2_with fail; refine hK.out _ _ (KP.out _ c3.out) fun h_ => ?_
            clear hK K; refine pt ?_; refine tk 8 ?_; refine tk 9 ?_; refine tk 10 ?_; have y0 := q.cell 0; have y1 := q.cell 1; have y2 := q.cell 2; have y3 := q.cell 3; have y4 := q.cell 4; simp at y0 y1 y2 y3 y4; have z0 := q.frozen 0; have z1 := q.frozen 1; have z2 := q.frozen 2; have z3 := q.frozen 3; have z4 := q.frozen 4; have qz := (((((q.set_ 0 (.bool pf)).set_ 1 (.int .i64 pa)).set_ 2 (.int .i64 pb)).set_ 3 (.int .i64 pc)).set_ 4 (.int .i64 pd)); simp at qz; have cz := (((((c3.out.setCell (p := ⟨gp, 0, none⟩) gpl (.bool pf)).setCell (p := ⟨gp, 1, none⟩) gpl (.int .i64 pa)).setCell (p := ⟨gp, 2, none⟩) gpl (.int .i64 pb)).setCell (p := ⟨gp, 3, none⟩) gpl (.int .i64 pc)).setCell (p := ⟨gp, 4, none⟩) gpl (.int .i64 pd)); refine rd1 12 (fun K hK => ?_); go_simp; refine hK.out _ _ (KP.out _ cz) fun h_ => ?_
            clear hK K; refine pt ?_; refine tk 13 ?_; refine dn ?_; clear h_ y0 z0 y1 z1 y2 z2 y3 z3 y4 z4; go_wp2_with fail; go_meet; exact ⟨gp, rfl, rfl, qz, cz⟩
        · go_simp; have bx : Below v0.heap.size v0 (v0.alloc (.cells #[.bool false, .int .i64 0, .int .i64 0, .int .i64 0, .int .i64 0] 88)) := (Below.refl _ _).alloc (Nat.le_refl _) _
          have q := Blk.new v0 88 #[.bool false, .int .i64 0, .int .i64 0, .int .i64 0, .int .i64 0]; have c1 := hid (c0.out.trans (bx.mono c0.out.size)); have gpl := c0.out.size; clear bx; refine hK.out _ _ (KP.out _ c1.out) fun h_ => ?_
          clear hK K; refine pt ?_; generalize v0.alloc (.cells #[.bool false, .int .i64 0, .int .i64 0, .int .i64 0, .int .i64 0] 88) = v1 at *; generalize v0.heap.size = gp at *; refine rd1 6 (fun K hK => ?_); go_simp; refine (tableGet_impl (f := f) (k := k) (show RdT _ w.heap.size tA tn ts from (HR.out.below (HB2.out.trans (c1.out.mono HB2.out.size))).t) (Nat.le_trans HB2.out.size c1.out.size) HTB.out hf8 hk6).mono ?_; rintro e v2 ⟨rfl, bx⟩; have c2 := hid (c1.out.trans (bx.mono c1.out.size)); replace q := q.below bx q.lt; clear bx; go_wp2_with fail; refine hK.out _ _ (KP.out _ c2.out) fun h_ => ?_
          clear hK K; refine pt ?_; refine rd1 7 (fun K hK => ?_); go_simp; refine (HRP.out _ (HB2.out.trans (c2.out.mono HB2.out.size))).mono ?_; rintro e v3 ⟨rfl, bx⟩; have c3 := hid (c2.out.trans (bx.mono c2.out.size)); replace q := q.below bx q.lt; clear bx; go_wp2_with fail; refine hK.out _ _ (KP.out _ c3.out) fun h_ => ?_
          clear hK K; refine pt ?_; refine tk 8 ?_; refine tk 9 ?_; refine tk 10 ?_; have y0 := q.cell 0; have y1 := q.cell 1; have y2 := q.cell 2; have y3 := q.cell 3; have y4 := q.cell 4; simp at y0 y1 y2 y3 y4; have z0 := q.frozen 0; have z1 := q.frozen 1; have z2 := q.frozen 2; have z3 := q.frozen 3; have z4 := q.frozen 4; have qz := (((((q.set_ 0 (.bool pf)).set_ 1 (.int .i64 pa)).set_ 2 (.int .i64 pb)).set_ 3 (.int .i64 pc)).set_ 4 (.int .i64 pd)); simp at qz; have cz := (((((c3.out.setCell (p := ⟨gp, 0, none⟩) gpl (.bool pf)).setCell (p := ⟨gp, 1, none⟩) gpl (.int .i64 pa)).setCell (p := ⟨gp, 2, none⟩) gpl (.int .i64 pb)).setCell (p := ⟨gp, 3, none⟩) gpl (.int .i64 pc)).setCell (p := ⟨gp, 4, none⟩) gpl (.int .i64 pd)); refine rd1 12 (fun K hK => ?_); go_simp; refine hK.out _ _ (KP.out _ cz) fun h_ => ?_
          clear hK K; refine pt ?_; refine tk 13 ?_; refine dn ?_; clear h_ y0 z0 y1 z1 y2 z2 y3 z3 y4 z4; go_wp2_with fail; go_meet; exact ⟨gp, rfl, rfl, qz, cz⟩
       case rest =>
        obtain ⟨gp, rfl, rfl, q, b9⟩ := hcut; have HB9 := hid (HB2.out.trans (b9.mono HB2.out.size)); clear b9 HRP; cases pf
        · go_wp2; go_returns
          exact ⟨_, true, rfl, HB9.out, fun h => (nomatch h), fun _ => HC.out⟩
        · have t3 := q.cell 3; simp at t3; have hpv := (pageOk_yes.1 HPO.out).2.2.1; obtain ⟨u, rfl⟩ := Int.eq_ofNat_of_zero_le hpv.1; have HG9 := hid (HGL.out.below HB9.out); go_wp2_with (go_at_call 128; refine (itoa_c u (by omega) HG9.out).mono ?_; rintro e w10 ⟨rfl, b10⟩; have HBZ := hid (HB9.out.trans (b10.mono HB9.out.size)); clear b10)
          go_returns; exact ⟨_, true, rfl, HBZ.out, fun h => (nomatch h), fun _ => by rw [HC.out]; rfl⟩
   · have hd := decide_eq_false hf; have hq := decide_eq_false hP; have HC := hid (readC_neg (d := ⟨bs, ts, hot, warm, cold, stamp, ns⟩) (t := t) (pl := pl) (.inr (.inl (by omega)))); rw [hq]; clear hf hP hq HP; generalize findN ns t = F at *; go_wp2; go_returns; exact ⟨_, false, rfl, HB2.out, fun _ => HC.out, fun h => (nomatch h)⟩
set_option maxRecDepth 8000
theorem len8_zero : Lib.len8 0 = 0 := by decide +kernel
theorem len64_zero (w : World) : Calls Tryz.prog 202 #[.int .u64 0] w fun e w' => e = .returned (.int .i64 0) ∧ w' = w := by
 have h8 := len8_zero; go_enter Tryz.func202, Tryz.ntmps202
 go_wp2; go_ret
 exact ⟨by simp [h8, wrap64], rfl⟩
theorem len_zero (w : World) : Calls Tryz.prog 207 #[.int .u64 0] w fun e w' => e = .returned (.int .i64 0) ∧ w' = w := by
 go_enter Tryz.func207, Tryz.ntmps207
 go_wp2_with (go_at_call 202; refine (len64_zero _).mono ?_; rintro e w' ⟨rfl, rfl⟩)
 go_ret; exact ⟨rfl, rfl⟩
theorem insert_nil (c : Nat) (w : World) : Calls Tryz.prog 210 #[.slice none 0 c, .int .i64 0, .int .i64 0] w fun e w' => e = .returned (.tuple #[]) ∧ w' = w := by
 go_enter Tryz.func210, Tryz.ntmps210
 go_wp2_with fail; go_loop [6] (fun i => i = .int .i64 1) (fun _ => 0)
 case atStart => rfl
 case round =>
  subst hrel; go_wp2; go_returns; exact ⟨rfl, rfl⟩
theorem pdq_nil (c : Nat) (w : World) : Calls Tryz.prog 206 #[.slice none 0 c, .int .i64 0, .int .i64 0, .int .i64 0] w fun e w' => e = .returned (.tuple #[]) ∧ w' = w := by
 go_enter Tryz.func206, Tryz.ntmps206
 go_wp2_with fail; go_loop [1, 2, 3, 8] (fun p q l i => p = .int .i64 0 ∧ q = .int .i64 0 ∧ l = .int .i64 0 ∧ i = .bool true) (fun _ _ _ _ => 0)
 case atStart => exact ⟨rfl, rfl, rfl, rfl⟩
 case round =>
  obtain ⟨rfl, rfl, rfl, rfl⟩ := hrel; go_wp2_with (go_at_call 210; refine (insert_nil _ _).mono ?_; rintro e w' ⟨rfl, rfl⟩)
  go_returns; exact ⟨rfl, rfl⟩
theorem sort_nil (w : World) : Calls Tryz.prog 197 #[.slice none 0 0] w fun e w' => e = .returned (.tuple #[]) ∧ w' = w := by
 go_enter Tryz.func197, Tryz.ntmps197
 go_upto_region 1 with (fail)
 go_wp2_with (first | (go_at_call 207; refine (len_zero _).mono ?_; rintro e w' ⟨rfl, rfl⟩) | (go_at_call 206; refine (pdq_nil _ _).mono ?_; rintro e w' ⟨rfl, rfl⟩))
 go_returns; exact ⟨rfl, rfl⟩
theorem sort_own {base n c : Nat} {A : Option Addr} {xs : List Int} {w : World} (h : w.ownsRow base 3 1 (.slice A n c) n (xs.map (Value.int .i64))) (hb : base ≤ w.heap.size) (hn : n ≤ 1000000) :
 Calls Tryz.prog 197 #[.slice A n c] w fun e w' => e = .returned (.tuple #[]) ∧ ∃ ys : List Int, ys.Perm xs ∧ w'.ownsRow base 3 1 (.slice A n c) n (ys.map (Value.int .i64)) ∧ Below base w w' ∧ w.grownBy w' (Value.slice A n c).ownBlock := by
 have hn0 : xs.length = n := by have := h.1; simpa using this
 rcases h.2 with ⟨h0, h1⟩ | ⟨g, cap, cur, hv, hg, hcur, hnc, hcap, hsz, htk⟩
 · injection h0 with h2 h3 h4; subst h2; subst h3; subst h4; refine (sort_nil w).mono ?_; rintro e w' ⟨rfl, rfl⟩; exact ⟨rfl, xs, List.Perm.refl _, h, Below.refl _ _, World.grownBy.refl _ _⟩
 · subst hn0; cases hv
   have hgs : g < w.heap.size := (Array.getElem?_eq_some_iff.1 hcur).1; rw [Nat.mul_one] at htk; refine (Any.slices_Sort_int sortLay g 0 c xs w (holds_of_blockI hcur htk) hgs (by omega)).mono ?_; rintro e w' ⟨rfl, m, os, rfl⟩; have hl : (xs.mergeSort fun x y => decide (x ≤ y)).length = xs.length := List.length_mergeSort _; have hgb := grownBy_sortedI (w := w) (g := g) (n := m) (os := os) (xs.mergeSort fun x y => decide (x ≤ y)).toArray; refine ⟨rfl, _, List.mergeSort_perm xs _, ownsRow_sortedI hl hg hcur hnc hcap hsz, ?_, hgb⟩; exact below_app (Below.refl _ _) h hb hgb
set_option maxRecDepth 8000 in
set_option maxHeartbeats 4000000 in
theorem usedPages_impl {A : Option Addr} {n c B : Nat} {ts : List (List Int)} {w : World} (hr : RdT w B A n ts) (hB : B ≤ w.heap.size) (hok : TableOk ts) :
 Calls Tryz.prog 183 #[.agg #[.slice A n c]] w fun e w' => ∃ us : List Int, us.Perm (usedL ts) ∧ OwnI w us e w' := by
 obtain rfl : n = 8 := by rw [← hr.len, hok.1]
 have HBT := hid (bof_t.2 hok); have HOK := hid hok; have HR := hid (hr.mono hB); have b1 : Below w.heap.size w (w.alloc (.cells #[.slice A 8 c] 26)) := (Below.refl _ _).alloc (Nat.le_refl _) _; have k1 := Blk.new w 26 #[.slice A 8 c]; have B1 := hid b1; clear hr hok b1; go_enter Tryz.func183, Tryz.ntmps183
 go_upto_region 1 with (fail)
 generalize w.alloc (.cells #[.slice A 8 c] 26) = w1 at *; have t0 := k1.cell 0; simp at t0; go_wp2_with fail; refine (tableValid_impl (HR.out.below B1.out) B1.out.size (by omega)).mono ?_; rw [HBT.out]; rintro e w2 ⟨rfl, b2⟩; have k2 := k1.below b2 k1.lt; have B2 := hid (B1.out.trans (b2.mono B1.out.size)); clear k1 b2 t0 B1; have t0 := k2.cell 0; simp at t0; obtain ⟨b, off, rfl, hbB, hc⟩ := HR.out.at_ (by omega); have HC := hid hc; clear hc; go_wp2_with fail; go_loopw [3, 14] (fun v i wr => ∃ (f : Nat) (A0 : Option Addr) (c0 : Nat) (xs : List Int), f ≤ 8 ∧ i = .int .i64 f ∧ v = .slice A0 xs.length c0 ∧ wr.ownsRow w.heap.size 3 1 (.slice A0 xs.length c0) xs.length (xs.map (Value.int .i64)) ∧ UsedI ts f 0 xs ∧ Below w.heap.size w wr) (fun _ i _ => 8 - (intOf i).toNat)
 case atStart => exact ⟨0, none, 0, [], Nat.zero_le _, rfl, rfl, ⟨rfl, .inl ⟨rfl, rfl⟩⟩, UsedI.zero ts, B2.out⟩
 case round =>
  obtain ⟨f, A0, c0, xs, hf, rfl, rfl, o3, hu, b3⟩ := hrel; have O3 := hid o3; have HU := hid hu; have B3 := hid b3; have s3 := b3.size; have hxl := hu.len; clear o3 hu b3 t0 k2 B2; by_cases hlt : f < 8
  · have fI : (f : Int) < 8 := by omega
    obtain ⟨A', n', c', c1, hnc, hcm, hrg⟩ := HC.out f hlt; replace c1 := (B3.out.cell (p := ⟨b, off + f, none⟩) hbB).trans c1; have HL6 := hid (show (ts.getD f []).length = 6 from HOK.out.2.1 f hlt); obtain rfl : n' = 6 := by rw [← hrg.len]; exact HL6.out
    have HRG := hid hrg; clear hrg; go_wp2_with fail; go_loopw [3, 20] (fun v i wr => ∃ (k : Nat) (A0 : Option Addr) (c0 : Nat) (xs : List Int), k ≤ 6 ∧ i = .int .i64 k ∧ v = .slice A0 xs.length c0 ∧ wr.ownsRow w.heap.size 3 1 (.slice A0 xs.length c0) xs.length (xs.map (Value.int .i64)) ∧ UsedI ts f k xs ∧ Below w.heap.size w wr) (fun _ i _ => 6 - (intOf i).toNat)
    case atStart => exact ⟨0, _, _, xs, Nat.zero_le _, rfl, rfl, O3.out, HU.out, B3.out⟩
    case round =>
     obtain ⟨k, A1, c2, ys, hk, rfl, rfl, o4, hu4, b4⟩ := hrel; have O4 := hid o4; have HU4 := hid hu4; have B4 := hid b4; have s4 := b4.size; have hyl := hu4.len; clear o4 hu4 b4 O3 HU B3 c1; by_cases hk6 : k < 6
     · have kI : (k : Int) < 6 := by omega
       obtain ⟨b', off', rfl, hbB', hc'⟩ := HRG.out.at_ (by omega); have d1 := (B4.out.cell (p := ⟨b', off' + k, none⟩) hbB').trans (hc' k hk6); have HV := hid (show (ts.getD f []).getD k 0 = tE ts f k from rfl); rw [HV.out] at d1; have hkl : k < (ts.getD f []).length := by rw [HL6.out]; exact hk6
       have HY := hid (fun h0 => HU4.out.yes hkl (ent_of HOK.out hlt hk6) h0); have HN := hid (fun h0 => HU4.out.no hkl h0); clear hc' HV HRG hkl; generalize tE ts f k = v at *; by_cases h0 : 0 ≤ v
       · have HUY := hid (HY.out h0); clear HY HN; go_wp2_with (at_builtin; refine wpList_appI rfl rfl rfl O4.out rfl (by omega) s4 ?_; rintro g5 c5 w5 o5 gr5 hg5)
         have HO5 := hid o5; have HB5 := hid (below_app B4.out O4.out s4 gr5); clear o5 gr5; go_wp2; go_roundw
         case rel => exact ⟨k + 1, _, _, ys ++ [v], by omega, by go_num, by rw [List.length_append]; rfl, by rw [List.length_append]; exact HO5.out, HUY.out, HB5.out⟩
         case measure => simp [intOf]; omega
       · have HUN := hid (HN.out h0); clear HY HN; go_wp2; go_roundw
         case rel => exact ⟨k + 1, _, _, ys, by omega, by go_num, rfl, O4.out, HUN.out, B4.out⟩
         case measure => simp [intOf]; omega
     · obtain rfl : k = 6 := by omega
       have HU5 := hid (HU4.out.row HL6.out); go_wp2; go_roundw
       case rel => exact ⟨f + 1, _, _, ys, by omega, by go_num, rfl, O4.out, HU5.out, B4.out⟩
       case measure => simp [intOf]; omega
  · obtain rfl : f = 8 := by omega
    go_wp2_with fail; refine (sort_own O3.out s3 (by omega)).mono ?_
    rintro e w9 ⟨rfl, zs, hp, o9, b9, -⟩; have HP := hid (hp.trans (HU.out.perm HOK.out)); have HLE := hid hp.length_eq; have O9 := hid o9; have B9 := hid (B3.out.trans b9); clear hp o9 b9; go_wp2; go_returns; exact ⟨zs, HP.out, ownI_of HLE.out O9.out B9.out⟩
end Go.Proofs.YtefdjahaimnndaaGreatDoor
