/- Parts of the proof, one after the other. -/
import Derived.Test.YtefdjahaimnndaaGreatDoorC6
namespace Go.Proofs.YtefdjahaimnndaaGreatDoor
open Go.ChangeShapes Go.WideShapes Go.ChangeAt Go.RowKit Go.Deep
open Go.Lib (hid)
set_option linter.unusedVariables false
set_option linter.unusedSimpArgs false
def lastAt (bs : List BlockV) : Nat → Int
 | 0 => 0
 | k + 1 => if lastAt bs k < (pageN bs k).stamp then (pageN bs k).stamp else lastAt bs k
def lastStamp (bs : List BlockV) : Int := lastAt bs (4 * bs.length)
theorem pageN_ok {bs : List BlockV} (h : DevOk bs) {k : Nat} (hk : k < 4 * bs.length) : PageOk (pageN bs k) := ((h.2 (k / 4) (by omega)).2.2 (k % 4) (by omega)).1
theorem pageOk_stamp {p : PageV} (h : PageOk p) : 0 ≤ p.stamp ∧ p.stamp ≤ 1000000 := by
 unfold PageOk at h; split at h
 · omega
 · omega
theorem lastAt_range {bs : List BlockV} (h : DevOk bs) : ∀ {k : Nat}, k ≤ 4 * bs.length → 0 ≤ lastAt bs k ∧ lastAt bs k ≤ 1000000
 | 0, _ => by unfold lastAt; omega
 | k + 1, hk => by
  have h1 := lastAt_range h (k := k) (by omega); have h2 := pageOk_stamp (pageN_ok h (k := k) (by omega)); unfold lastAt; split <;> omega
theorem lastStamp_spec {A : Option Addr} {n c B : Nat} {bs : List BlockV} {w : World} (hr : RdB w B A n bs) (hB : B ≤ w.heap.size) (hn : n ≤ 1048576) (hok : DevOk bs) :
 Calls Tryz.prog 93 #[.slice A n c] w fun e w' => e = .returned (.int .i64 (lastStamp bs)) ∧ Below w.heap.size w w' := by
 have HL := hid hr.len; have hn12 : n ≤ 12 := by have := hok.1.2; have := HL.out; omega
 have hbt := bof_t.2 hok; have HOK := hid hok; have hr0 := hr.mono hB; clear hok hr; go_enter Tryz.func93, Tryz.ntmps93
 go_wp2_with fail; refine (deviceValid_spec hr0 (Nat.le_refl _) hn).mono ?_
 rw [hbt]; rintro e w1 ⟨rfl, hb1⟩; have hr1 := hr0.below hb1; have HB1 := hid hb1; have hs1 := hb1.size; clear hr0 hb1 hbt; go_wp2_with fail; go_loopw [3, 4] (fun s kk wr => ∃ k : Nat, k ≤ 4 * n ∧ kk = .int .i64 k ∧ s = .int .i64 (lastAt bs k) ∧ Below w1.heap.size w1 wr) (fun _ kk _ => 4 * n - (intOf kk).toNat)
 case atStart => exact ⟨0, Nat.zero_le _, rfl, rfl, Below.refl _ _⟩
 case round =>
  obtain ⟨k, hk, rfl, rfl, hbl⟩ := hrel; have HBL := hid hbl; have hlr := lastAt_range HOK.out (k := k) (by rw [HL.out]; exact hk); by_cases hlt : k < 4 * n
  · have hltz : (k : Int) < 4 * (n : Int) := by omega
    have hrw := (hr1.mono hs1).below hbl; have hsz := hbl.size; have HF := hid (show lastAt bs (k + 1) = if lastAt bs k < (pageN bs k).stamp then (pageN bs k).stamp else lastAt bs k from rfl); clear hbl; go_wp2_with fail; refine (readPage_c hrw hsz hn HOK.out hlt).mono ?_; rintro e w2 ⟨rfl, hb2⟩; have HB2 := hid (HBL.out.trans (hb2.mono hsz)); have hs2 := HB2.out.size; generalize lastAt bs k = q at *; generalize pageN bs k = P at *; obtain ⟨f, x, y, z, s⟩ := P; unfold pgv; clear hrw hb2; go_wp2; go_roundw
    case rel => exact ⟨k + 1, by omega, by go_num, by first | (rw [HF.out]; done) | (rw [HF.out]; simp only; congr 1; split <;> omega), HB2.out.alloc hs2 _⟩
    case measure => simp [intOf]; omega
  · obtain rfl : k = 4 * n := by omega
    have HE := hid (show lastAt bs (4 * n) = lastStamp bs by unfold lastStamp; rw [HL.out]); go_wp2; go_ret; exact ⟨ret_int HE.out, HB1.out.trans (HBL.out.mono hs1)⟩
theorem lastStamp_impl {A : Option Addr} {n c B : Nat} {bs : List BlockV} {w : World} (hr : RdB w B A n bs) (hB : B ≤ w.heap.size) (hn : n ≤ 1048576) (hok : DevOk bs) :
 Calls Tryz.prog 42 #[.slice A n c] w fun e w' => e = .returned (.int .i64 (lastStamp bs)) ∧ Below w.heap.size w w' := by
 have HL := hid hr.len; have hn12 : n ≤ 12 := by have := hok.1.2; have := HL.out; omega
 have hbt := bof_t.2 hok; have HOK := hid hok; have hr0 := hr.mono hB; clear hok hr; go_enter Tryz.func42, Tryz.ntmps42
 go_wp2_with fail; refine (deviceValid_impl hr0 (Nat.le_refl _) hn).mono ?_
 rw [hbt]; rintro e w1 ⟨rfl, hb1⟩; have hr1 := hr0.below hb1; have HB1 := hid hb1; have hs1 := hb1.size; clear hr0 hb1 hbt; go_wp2_with fail; go_loopw [3, 13] (fun s kk wr => ∃ k : Nat, k ≤ n ∧ kk = .int .i64 k ∧ s = .int .i64 (lastAt bs (4 * k)) ∧ Below w1.heap.size w1 wr) (fun _ kk _ => n - (intOf kk).toNat)
 case atStart => exact ⟨0, Nat.zero_le _, rfl, rfl, Below.refl _ _⟩
 case round =>
  obtain ⟨k, hk, rfl, rfl, hbl⟩ := hrel; have HBL := hid hbl; by_cases hlt : k < n
  · obtain ⟨b, off, rfl, hbB, hc⟩ := hr1.at_ (by omega); obtain ⟨A', n', c', c0, c1, hnc, hcm, hrg⟩ := hc k hlt; have hbs : b < w1.heap.size := by omega
    replace c0 := (hbl.cell (p := ⟨b, off + k * 2, none⟩) hbs).trans c0; replace c1 := (hbl.cell (p := ⟨b, off + k * 2 + 1, none⟩) hbs).trans c1; have hrp := (hrg.mono hs1).below hbl; have hbk := HOK.out.2 k (by rw [HL.out]; exact hlt); have hn4 : n' = 4 := by rw [← hrg.len, hbk.2.1]
    subst hn4; have HPN := hid (show ∀ j, j < 4 → pageN bs (4 * k + j) = (bs.getD k noBlock).pages.getD j noPage from fun j hj => by
     unfold pageN; rw [show (4 * k + j) / 4 = k by omega, show (4 * k + j) % 4 = j by omega])
    generalize (bs.getD k noBlock).wear = we at *; have hltd : decide (k < n) = true := decide_eq_true hlt; have hsz := hbl.size; clear hc hr1 hrg hbk hbl; obtain ⟨wo, rfl⟩ : ∃ wo : World, wo = wr := ⟨_, rfl⟩; go_wp2; have bx : Below w1.heap.size wo (wo.alloc (.cells #[.int .i64 we, .slice A' 4 c'] 127)) := (Below.refl _ _).alloc hsz _; have hrx := hrp.below bx; have HBX := hid (HBL.out.trans bx); clear hrp bx c0 c1; generalize wo.alloc (.cells #[.int .i64 we, .slice A' 4 c'] 127) = wx at *; go_loopw [3, 20] (fun s jj ws => ∃ j : Nat, j ≤ 4 ∧ jj = .int .i64 j ∧ s = .int .i64 (lastAt bs (4 * k + j)) ∧ Below w1.heap.size wx ws) (fun _ jj _ => 4 - (intOf jj).toNat)
    case atStart => exact ⟨0, Nat.zero_le _, rfl, rfl, Below.refl _ _⟩
    case round =>
     obtain ⟨j, hj, rfl, rfl, hb2⟩ := hrel; have HB2 := hid hb2; by_cases hl4 : j < 4
     · obtain ⟨b', off', rfl, hbB', hc'⟩ := hrx.at_ (by omega); obtain ⟨d0, d1, d2, d3, d4⟩ := hc' j hl4; replace d0 := (hb2.cell (p := ⟨b', off' + j * 5, none⟩) hbB').trans d0; replace d1 := (hb2.cell (p := ⟨b', off' + j * 5 + 1, none⟩) hbB').trans d1; replace d2 := (hb2.cell (p := ⟨b', off' + j * 5 + 2, none⟩) hbB').trans d2; replace d3 := (hb2.cell (p := ⟨b', off' + j * 5 + 3, none⟩) hbB').trans d3; replace d4 := (hb2.cell (p := ⟨b', off' + j * 5 + 4, none⟩) hbB').trans d4; have HF := hid (show lastAt bs (4 * k + (j + 1)) = if lastAt bs (4 * k + j) < (pageN bs (4 * k + j)).stamp then (pageN bs (4 * k + j)).stamp else lastAt bs (4 * k + j) from rfl); rw [HPN.out j hl4] at HF; generalize (bs.getD k noBlock).pages.getD j noPage = P at *; generalize lastAt bs (4 * k + j) = q at *; obtain ⟨f, x, y, z, s⟩ := P; simp only at d0 d1 d2 d3 d4; have hs2 : w1.heap.size ≤ wr.heap.size := by have := HBX.out.size; have := hb2.size; omega
       clear hc' hrx hb2; go_wp2; go_roundw
       case rel => exact ⟨j + 1, by omega, by go_num, by first | (rw [HF.out]; done) | (rw [HF.out]; simp only; congr 1; split <;> omega), HB2.out.alloc hs2 _⟩
       case measure => simp [intOf]; omega
     · obtain rfl : j = 4 := by omega
       go_wp2; go_roundw
       case rel => exact ⟨k + 1, by omega, by go_num, rfl, HBX.out.trans HB2.out⟩
       case measure => simp [intOf]; omega
  · obtain rfl : k = n := by omega
    have HE := hid (show lastAt bs (4 * k) = lastStamp bs by unfold lastStamp; rw [HL.out]); go_wp2; go_ret; exact ⟨ret_int HE.out, HB1.out.trans (HBL.out.mono hs1)⟩
def nmc (x : NameV) : List Value := [.string x.1, .int .i64 x.2]
theorem nmc_len (x : NameV) : (nmc x).length = 2 := rfl
def flatN (ns : List NameV) : List Value := ns.flatMap nmc
theorem flatN_len (ns : List NameV) : (flatN ns).length = ns.length * 2 := flatM_len nmc nmc_len ns
theorem flatN_append (ps qs : List NameV) : flatN (ps ++ qs) = flatN ps ++ flatN qs := by simp [flatN]
theorem flatN_one (p : NameV) : flatN [p] = nmc p := by simp [flatN]
theorem flatN_one_cell (ps : List NameV) : ∀ u ∈ flatN ps, u.oneCell' = true := by
 intro u hu
 simp only [flatN, List.mem_flatMap, nmc] at hu; obtain ⟨p, _, hp⟩ := hu; simp at hp; rcases hp with rfl | rfl <;> rfl
def OwN (w : World) (base : Nat) (A : Option Addr) (n c : Nat) (ns : List NameV) : Prop := w.ownsRow base 78 2 (.slice A n c) n (flatN ns)
theorem OwN.len {w base A n c ns} (h : OwN w base A n c ns) : ns.length = n := by have := h.1; rw [flatN_len] at this; omega
theorem OwN.below {w w' base A n c ns} (h : OwN w base A n c ns) (hb : Below w.heap.size w w') : OwN w' base A n c ns := own_below h hb
theorem OwN.lower {w base base' A n c ns} (h : OwN w base A n c ns) (hb : base' ≤ base) : OwN w base' A n c ns := own_lower h hb
theorem OwN.typed {ts : List Nat} {w w' base A n c ns} (h : OwN w base A n c ns) (hc : ChgT ts w w') (h1 : 78 ∉ ts) : OwN w' base A n c ns := own_typed h hc h1
theorem OwN.cap {w base A n c ns} (h : OwN w base A n c ns) : n ≤ c ∧ c ≤ 9223372036854775807 := own_cap h
theorem OwN.nil (w : World) (base : Nat) : OwN w base none 0 0 [] := World.ownsRow_nil _ _ _ _
theorem OwN.form {w base A n c ns} (h : OwN w base A n c ns) (hn : 0 < n) : ∃ g, A = some ⟨g, 0, none⟩ ∧ base ≤ g ∧ g < w.heap.size := by
 obtain ⟨g, cap, e, hg1, hg2⟩ := World.ownsRow.form h hn; injection e with e1 e2 e3; subst e1; exact ⟨g, rfl, hg1, hg2⟩
theorem OwN.cells {w base g n c ns} (h : OwN w base (some ⟨g, 0, none⟩) n c ns) (i : Nat) (hi : i < n) : w.cell? ⟨g, i * 2, none⟩ = some (.string (ns.getD i noName).1) ∧ w.cell? ⟨g, i * 2 + 1, none⟩ = some (.int .i64 (ns.getD i noName).2) ∧ w.frozen? ⟨g, i * 2, none⟩ = false ∧ w.frozen? ⟨g, i * 2 + 1, none⟩ = false := by
 have hl := h.len; have key : ∀ j, j < 2 → w.cell? ⟨g, i * 2 + j, none⟩ = (nmc (ns.getD i noName))[j]? := fun j hj => by
  rw [World.ownsRow.cellAt h (g := g) (cap := c) (i * 2 + j) (by omega)]; exact flatM_get nmc nmc_len noName ns i j (by omega) hj
 exact ⟨key 0 (by omega), key 1 (by omega), World.ownsRow.frozenAt h (g := g) (cap := c) _, World.ownsRow.frozenAt h (g := g) (cap := c) _⟩
theorem OwN.rd {w base A n c ns} (h : OwN w base A n c ns) : RdN w w.heap.size A n ns := by
 refine ⟨h.len, fun hn => ?_⟩; obtain ⟨g, rfl, hg1, hg2⟩ := h.form hn; refine ⟨g, 0, rfl, hg2, fun i hi => ?_⟩; obtain ⟨h0, h1, _⟩ := h.cells i hi; exact ⟨by rw [Nat.zero_add]; exact h0, by rw [Nat.zero_add]; exact h1⟩
theorem OwN.put {w : World} {base g n c : Nat} {ns : List NameV} (h : OwN w base (some ⟨g, 0, none⟩) n c ns) (i : Nat) (hi : i < n) (x : NameV) :
 OwN ((w.setCell ⟨g, i * 2, none⟩ (.string x.1)).setCell ⟨g, i * 2 + 1, none⟩ (.int .i64 x.2)) base (some ⟨g, 0, none⟩) n c (ns.set i x) ∧ w.grownBy ((w.setCell ⟨g, i * 2, none⟩ (.string x.1)).setCell ⟨g, i * 2 + 1, none⟩ (.int .i64 x.2)) (some g) := by
 have hl := h.len; obtain ⟨s, f⟩ := x; obtain ⟨P, hP⟩ : ∃ P, ns.getD i noName = P := ⟨_, rfl⟩; have f0 := flatM_set nmc nmc_len noName ns i 0 (by omega) (by omega) (.string s) (s, P.2) (by rw [hP]; rfl); have f1 := flatM_set nmc nmc_len noName (ns.set i (s, P.2)) i 1 (by simp; omega) (by omega) (.int .i64 f) (s, f) (by rw [getD_setG _ _ _ _ (by omega)]; rfl); rw [List.set_set] at f1; obtain ⟨o0, q0⟩ := World.ownsRow.stored h (g := g) (cap := c) (i * 2 + 0) (.string s); rw [show (flatN ns).set (i * 2 + 0) (.string s) = _ from f0] at o0; obtain ⟨o1, q1⟩ := o0.stored (g := g) (cap := c) (i * 2 + 1) (.int .i64 f); rw [f1] at o1; exact ⟨o1, gb_trans q0 q1⟩
theorem infoName : (Tryz.prog.info? 78).map (fun i => (i.zero, i.size, i.bytes)) = some (some (.agg #[.string ByteArray.empty, .int .i64 0]), 2, 24) := by kernel_rfl
def SmallN (ns : List NameV) (n : Nat) (left : Int) : Prop := ∀ i, i < n → ((ns.getD i noName).1.size : Int) ≤ left
def mtGo (k : Nat) (out : ByteArray) : ByteArray := if h : k = 0 then out else mtGo (k / 10) (strOfNums [48 + (k : Int) % 10] ++ out)
termination_by k
decreasing_by omega
def noStr : ByteArray := ⟨#[]⟩
def mt (k : Int) : ByteArray := if k ≤ 0 then ⟨#[109, 48]⟩ else (⟨#[109]⟩ : ByteArray) ++ mtGo k.toNat noStr
structure DiskV where
 bs : List BlockV
 ts : List (List Int)
 hot : Int
 warm : Int
 cold : Int
 stamp : Int
 ns : List NameV
structure DH where
 bA : Option Addr
 bn : Nat
 bc : Nat
 tA : Option Addr
 tn : Nat
 tc : Nat
 nA : Option Addr
 nn : Nat
 nc : Nat
abbrev dkv (h : DH) (d : DiskV) : Value := .agg (dc h.bA h.bn h.bc h.tA h.tn h.tc d.hot d.warm d.cold d.stamp h.nA h.nn h.nc)
structure RdD (w : World) (B : Nat) (h : DH) (d : DiskV) : Prop where
 b : RdB w B h.bA h.bn d.bs
 t : RdT w B h.tA h.tn d.ts
 n : RdN w B h.nA h.nn d.ns
theorem RdD.mono {w B B' h d} (r : RdD w B h d) (hB : B ≤ B') : RdD w B' h d := ⟨r.b.mono hB, r.t.mono hB, r.n.mono hB⟩
theorem RdD.below {w w' B h d} (r : RdD w B h d) (hb : Below B w w') : RdD w' B h d := ⟨r.b.below hb, r.t.below hb, r.n.below hb⟩
theorem RdD.drew {w B h d} (r : RdD w B h d) : RdD w.drew B h d := ⟨r.b.drew, r.t.drew, r.n.drew⟩
structure OwD (w : World) (base : Nat) (h : DH) (d : DiskV) : Prop where
 b : OwB w base h.bA h.bn h.bc d.bs
 t : OwT w base h.tA h.tn h.tc d.ts
 n : OwN w base h.nA h.nn h.nc d.ns
theorem OwD.below {w w' base h d} (r : OwD w base h d) (hb : Below w.heap.size w w') : OwD w' base h d := ⟨r.b.below hb, r.t.below hb, r.n.below hb⟩
theorem OwD.lower {w base base' h d} (r : OwD w base h d) (hb : base' ≤ base) : OwD w base' h d := ⟨r.b.lower hb, r.t.lower hb, r.n.lower hb⟩
theorem OwD.rd {w base h d} (r : OwD w base h d) : RdD w w.heap.size h d := ⟨r.b.rd, r.t.rd, r.n.rd⟩
theorem OwD.typed {ts : List Nat} {w w' base h d} (r : OwD w base h d) (hc : ChgT ts w w') (h1 : 127 ∉ ts) (h2 : 88 ∉ ts) (h3 : 57 ∉ ts) (h4 : 3 ∉ ts) (h5 : 78 ∉ ts) : OwD w' base h d :=
 ⟨r.b.typed hc h1 h2, r.t.typed hc h3 h4, r.n.typed hc h5⟩
structure SmallD (h : DH) (d : DiskV) : Prop where
 b : h.bn ≤ 1048576
 t : h.tn ≤ 1048576
 n : h.nn ≤ 1048576
 bs : SmallB d.bs h.bn 1048576
 ts : SmallT d.ts h.tn 1048576
 ns : SmallN d.ns h.nn 1048576
structure SmallDV (d : DiskV) : Prop where
 b : d.bs.length ≤ 1048576
 t : d.ts.length ≤ 1048576
 n : d.ns.length ≤ 1048576
 bs : SmallB d.bs d.bs.length 1048576
 ts : SmallT d.ts d.ts.length 1048576
 ns : SmallN d.ns d.ns.length 1048576
theorem SmallD.v {w B h d} (s : SmallD h d) (r : RdD w B h d) : SmallDV d := by
 have e1 := r.b.len; have e2 := r.t.len; have e3 := r.n.len; exact ⟨by rw [e1]; exact s.b, by rw [e2]; exact s.t, by rw [e3]; exact s.n, by rw [e1]; exact s.bs, by rw [e2]; exact s.ts, by rw [e3]; exact s.ns⟩
theorem SmallDV.h {w B h d} (s : SmallDV d) (r : RdD w B h d) : SmallD h d := by
 have e1 := r.b.len; have e2 := r.t.len; have e3 := r.n.len; exact ⟨by rw [← e1]; exact s.b, by rw [← e2]; exact s.t, by rw [← e3]; exact s.n, by rw [← e1]; exact s.bs, by rw [← e2]; exact s.ts, by rw [← e3]; exact s.ns⟩
abbrev putDisk (w : World) (g : Nat) (h : DH) (d : DiskV) : World :=
 ((((((w.setCell ⟨g, 0, none⟩ (.slice h.bA h.bn h.bc)).setCell ⟨g, 1, none⟩ (.slice h.tA h.tn h.tc)).setCell ⟨g, 2, none⟩ (.int .i64 d.hot)).setCell ⟨g, 3, none⟩ (.int .i64 d.warm)).setCell ⟨g, 4, none⟩ (.int .i64 d.cold)).setCell ⟨g, 5, none⟩ (.int .i64 d.stamp)).setCell ⟨g, 6, none⟩ (.slice h.nA h.nn h.nc)
abbrev BoxD (w : World) (g : Nat) (h : DH) (d : DiskV) : Prop := Blk w g 31 (dc h.bA h.bn h.bc h.tA h.tn h.tc d.hot d.warm d.cold d.stamp h.nA h.nn h.nc)
theorem blk_putDisk {w : World} {g : Nat} {v0 v1 v2 v3 v4 v5 v6 : Value} (k : Blk w g 31 #[v0, v1, v2, v3, v4, v5, v6]) (h : DH) (d : DiskV) : BoxD (putDisk w g h d) g h d ∧ ChgT [31] w (putDisk w g h d) := by
 have k0 := k.set_ 0 (.slice h.bA h.bn h.bc); have k1 := k0.set_ 1 (.slice h.tA h.tn h.tc); have k2 := k1.set_ 2 (.int .i64 d.hot); have k3 := k2.set_ 3 (.int .i64 d.warm); have k4 := k3.set_ 4 (.int .i64 d.cold); have k5 := k4.set_ 5 (.int .i64 d.stamp); have k6 := k5.set_ 6 (.slice h.nA h.nn h.nc); exact ⟨by simpa using k6, ((((((ChgT.blk k 0 _).trans (ChgT.blk k0 1 _)).trans (ChgT.blk k1 2 _)).trans (ChgT.blk k2 3 _)).trans (ChgT.blk k3 4 _)).trans (ChgT.blk k4 5 _)).trans (ChgT.blk k5 6 _)⟩
theorem below_putDisk {w0 w : World} {B g : Nat} (hb : Below B w0 w) (hg : B ≤ g) (h : DH) (d : DiskV) : Below B w0 (putDisk w g h d) :=
 ((((((hb.setCell (p := ⟨g, 0, none⟩) hg _).setCell (p := ⟨g, 1, none⟩) hg _).setCell (p := ⟨g, 2, none⟩) hg _).setCell (p := ⟨g, 3, none⟩) hg _).setCell (p := ⟨g, 4, none⟩) hg _).setCell (p := ⟨g, 5, none⟩) hg _).setCell (p := ⟨g, 6, none⟩) hg _
theorem BoxD.all {w g h d} (k : BoxD w g h d) : w.cell? ⟨g, 0, none⟩ = some (.slice h.bA h.bn h.bc) ∧ w.cell? ⟨g, 1, none⟩ = some (.slice h.tA h.tn h.tc) ∧ w.cell? ⟨g, 2, none⟩ = some (.int .i64 d.hot) ∧ w.cell? ⟨g, 3, none⟩ = some (.int .i64 d.warm) ∧ w.cell? ⟨g, 4, none⟩ = some (.int .i64 d.cold) ∧ w.cell? ⟨g, 5, none⟩ = some (.int .i64 d.stamp) ∧ w.cell? ⟨g, 6, none⟩ = some (.slice h.nA h.nn h.nc) :=
 ⟨Blk.cell k 0, Blk.cell k 1, Blk.cell k 2, Blk.cell k 3, Blk.cell k 4, Blk.cell k 5, Blk.cell k 6⟩
theorem Blk.free7 {w g t cs} (k : Blk w g t cs) : w.frozen? ⟨g, 0, none⟩ = false ∧ w.frozen? ⟨g, 1, none⟩ = false ∧ w.frozen? ⟨g, 2, none⟩ = false ∧ w.frozen? ⟨g, 3, none⟩ = false ∧ w.frozen? ⟨g, 4, none⟩ = false ∧ w.frozen? ⟨g, 5, none⟩ = false ∧ w.frozen? ⟨g, 6, none⟩ = false :=
 ⟨k.frozen 0, k.frozen 1, k.frozen 2, k.frozen 3, k.frozen 4, k.frozen 5, k.frozen 6⟩
theorem Blk.all7 {w g t} {v0 v1 v2 v3 v4 v5 v6 : Value} (k : Blk w g t #[v0, v1, v2, v3, v4, v5, v6]) : w.cell? ⟨g, 0, none⟩ = some v0 ∧ w.cell? ⟨g, 1, none⟩ = some v1 ∧ w.cell? ⟨g, 2, none⟩ = some v2 ∧ w.cell? ⟨g, 3, none⟩ = some v3 ∧ w.cell? ⟨g, 4, none⟩ = some v4 ∧ w.cell? ⟨g, 5, none⟩ = some v5 ∧ w.cell? ⟨g, 6, none⟩ = some v6 :=
 ⟨k.cell 0, k.cell 1, k.cell 2, k.cell 3, k.cell 4, k.cell 5, k.cell 6⟩
theorem OwD.put {w base h d g} {v0 v1 v2 v3 v4 v5 v6 : Value} (o : OwD w base h d) (k : Blk w g 31 #[v0, v1, v2, v3, v4, v5, v6]) (h' : DH) (d' : DiskV) : OwD (putDisk w g h' d') base h d :=
 o.typed (blk_putDisk k h' d').2 (by decide) (by decide) (by decide) (by decide) (by decide)
def findFrom (ns : List NameV) (t : ByteArray) : Nat → Nat → Int
 | _, 0 => -1
 | k, m + 1 => if nTxt ns k = t then nFil ns k else findFrom ns t (k + 1) m
def findN (ns : List NameV) (t : ByteArray) : Int := findFrom ns t 0 ns.length
theorem findFrom_at {ns : List NameV} {t : ByteArray} : ∀ {m k j : Nat}, k ≤ j → j < k + m → (∀ i, k ≤ i → i < j → nTxt ns i ≠ t) → nTxt ns j = t → findFrom ns t k m = nFil ns j
 | 0, k, j, h1, h2, _, _ => by omega
 | m + 1, k, j, h1, h2, h3, h4 => by
  unfold findFrom; by_cases e : k = j
  · subst e; rw [if_pos h4]
  · rw [if_neg (h3 k (Nat.le_refl _) (by omega))]; exact findFrom_at (by omega) (by omega) (fun i hi hj => h3 i (by omega) hj) h4
theorem findFrom_none {ns : List NameV} {t : ByteArray} : ∀ {m k : Nat}, (∀ i, k ≤ i → i < k + m → nTxt ns i ≠ t) → findFrom ns t k m = -1
 | 0, k, _ => rfl
 | m + 1, k, h => by
  unfold findFrom; rw [if_neg (h k (Nat.le_refl _) (by omega))]; exact findFrom_none (fun i hi hj => h i (by omega) (by omega))
theorem findN_at {ns : List NameV} {t : ByteArray} {j : Nat} (hj : j < ns.length) (h : ∀ i, i < j → nTxt ns i ≠ t) (he : nTxt ns j = t) : findN ns t = nFil ns j :=
 findFrom_at (Nat.zero_le _) (by omega) (fun i _ hi => h i hi) he
theorem findN_none {ns : List NameV} {t : ByteArray} (h : ∀ i, i < ns.length → nTxt ns i ≠ t) : findN ns t = -1 :=
 findFrom_none (fun i _ hi => h i (by omega))
set_option maxHeartbeats 1000000 in
theorem findName_spec {A : Option Addr} {n c B : Nat} {ns : List NameV} {t : ByteArray} {w : World} (hr : RdN w B A n ns) (hB : B ≤ w.heap.size) (hn : n ≤ 1048576) (hsm : ∀ i, i < n → (nTxt ns i).size ≤ 9223372036854775807) (hok : NamesOk ns) :
 Calls Tryz.prog 49 #[.slice A n c, .string t] w fun e w' => e = .returned (.int .i64 (findN ns t)) ∧ Below w.heap.size w w' := by
 obtain rfl : ns.length = n := hr.len; have HBT := hid (bof_t.2 hok); have HSM := hid hsm; have HR := hid (hr.mono hB); clear hok hsm hr; go_enter Tryz.func49, Tryz.ntmps49
 go_wp2_with fail; go_loopw [5] (fun i wr => ∃ k : Nat, k ≤ ns.length ∧ i = .int .i64 k ∧ (∀ i, i < k → nTxt ns i ≠ t) ∧ Below w.heap.size w wr) (fun i _ => ns.length - (intOf i).toNat)
 case atStart => exact ⟨0, Nat.zero_le _, rfl, fun i hi => absurd hi (Nat.not_lt_zero _), Below.refl _ _⟩
 case round =>
  obtain ⟨k, hk, rfl, hno, hbl⟩ := hrel; have HN := hid hno; have B1 := hid hbl; clear hno hbl; by_cases hlt : k < ns.length
  · have kI : (k : Int) < ns.length := by omega
    go_wp2_with fail; refine (namesValid_spec (HR.out.below B1.out) (by omega) HSM.out).mono ?_
    rw [HBT.out]; rintro e w2 ⟨rfl, m, rfl⟩; have B2 := hid (below_drewN B1.out m); obtain ⟨b, off, rfl, hbB, hc⟩ := (HR.out.below B2.out).at_ (by omega); obtain ⟨c0, c1⟩ := hc k hlt; have HT := hid (show nTxt ns k = (ns.getD k noName).1 from rfl); have HF := hid (show nFil ns k = (ns.getD k noName).2 from rfl); generalize ns.getD k noName = P at *; obtain ⟨s, f⟩ := P; simp only at c0 c1 HT HF; clear hc; by_cases he : s = t
    · subst he; have HX := hid (findN_at hlt HN.out HT.out); go_wp2; go_ret; exact ⟨by rw [HX.out, HF.out]; rfl, B2.out⟩
    · have hd : (s.toList == t.toList) = false := beq_eq_false_iff_ne.2 (fun h => he (toList_inj' h)); have HN2 := hid (show ∀ i, i < k + 1 → nTxt ns i ≠ t from fun i hi => by
       by_cases e : i = k
       · subst e; rw [HT.out]; exact he
       · exact HN.out i (by omega))
      go_wp2; go_roundw
      case rel => exact ⟨k + 1, by omega, by go_num, HN2.out, B2.out⟩
      case measure => simp [intOf]; omega
  · obtain rfl : k = ns.length := by omega
    have HX := hid (findN_none HN.out); go_wp2; go_ret; exact ⟨by rw [HX.out]; rfl, B1.out⟩
def dropTo (ns : List NameV) (t : ByteArray) : Nat → List NameV
 | 0 => []
 | k + 1 => if nTxt ns k = t then dropTo ns t k else dropTo ns t k ++ [ns.getD k noName]
def dropN (ns : List NameV) (t : ByteArray) : List NameV := dropTo ns t ns.length
theorem dropTo_len (ns : List NameV) (t : ByteArray) : ∀ k, (dropTo ns t k).length ≤ k
 | 0 => Nat.le_refl _
 | k + 1 => by
  have := dropTo_len ns t k; unfold dropTo; split
  · omega
  · simp; omega
def OwnN (w0 : World) (ns : List NameV) (b : Bool) (e : Ending) (w' : World) : Prop := ∃ A c, e = .returned (.tuple #[.slice A ns.length c, .bool b]) ∧ OwN w' w0.heap.size A ns.length c ns ∧ Below w0.heap.size w0 w'
theorem ownN_of {w0 w' : World} {ns : List NameV} {b : Bool} {A : Option Addr} {m c : Nat} (hm : ns.length = m) (h : OwN w' w0.heap.size A m c ns) (hb : Below w0.heap.size w0 w') : OwnN w0 ns b (.returned (.tuple #[.slice A m c, .bool b])) w' := by
 subst hm; exact ⟨A, c, rfl, h, hb⟩
theorem wpList_appN {ops : Array Oper} {rest : List Oper} {o : Oper} {a : Act} {Q : Exit → Act → World → Prop} {w : World} {s x : Operand} {base g0 : Nat} {c0 n : Nat} {ns : List NameV} {t : ByteArray} {f : Int} (hgd : o.guard = none)
 (ho : o.op = .call { callee := .builtin .append, args := #[s, x], argTypes := #[29, 29] })
 (hs : a.eval s = .slice (some ⟨g0, 0, none⟩) n c0) (hown : OwN w base (some ⟨g0, 0, none⟩) n c0 ns)
 (hx : a.eval x = .slice (some ⟨w.heap.size, 0, none⟩) 1 1) (hn : n ≤ 1000000000000) (hbase : base ≤ w.heap.size)
 (h : ∀ g c w', OwN w' base (some ⟨g, 0, none⟩) (n + 1) c (ns ++ [(t, f)]) → w.grownBy w' (some g0) → wpList Tryz.prog ops Q rest (a.put o.dst (.slice (some ⟨g, 0, none⟩) (n + 1) c)) w') :
 wpList Tryz.prog ops Q (o :: rest) a (w.alloc (.cells #[.string t, .int .i64 f] 78)) := by
 obtain ⟨i0, hi, hz0, hz1, hz2⟩ := info_parts infoName; refine wpList_app hgd s x 29 ho base 78 i0 _ 2 24 Tryz.underlying29 hi hz0 hz1 hz2 rfl (by decide) (.slice (some ⟨g0, 0, none⟩) n c0) n _ hs hown [.string t, .int .i64 f] hx rfl (by simp [Value.oneCell']) (by omega) (by omega) (by omega) ?_; intro g c w' g1 g2 g3
 exact h g c w' (by unfold OwN; rw [flatN_append, flatN_one]; exact g1) g2
set_option maxHeartbeats 2000000 in
theorem dropName_spec {A : Option Addr} {n c B : Nat} {ns : List NameV} {t : ByteArray} {w : World} (hr : RdN w B A n ns) (hB : B ≤ w.heap.size) (hn : n ≤ 1048576) (hsm : ∀ i, i < n → (nTxt ns i).size ≤ 9223372036854775807) (hok : NamesOk ns) :
 Calls Tryz.prog 57 #[.slice A n c, .string t] w (OwnN w (dropN ns t) (decide ((dropN ns t).length < ns.length))) := by
 obtain rfl : ns.length = n := hr.len; have HBT := hid (bof_t.2 hok); have HSM := hid hsm; have HR := hid (hr.mono hB); have o1 : OwN (w.alloc (.cells #[] 78)) w.heap.size (some ⟨w.heap.size, 0, none⟩) 0 0 [] := World.ownsRow_lit w #[] 0 (Nat.le_refl _) (by decide) rfl; have b1 : Below w.heap.size w (w.alloc (.cells #[] 78)) := (Below.refl _ _).alloc (Nat.le_refl _) _; have O1 := hid o1; have B1 := hid b1; clear hok hsm hr o1 b1; go_enter Tryz.func57, Tryz.ntmps57
 go_wp2_with fail; generalize w.alloc (.cells #[] 78) = w1 at *
 go_loopw [6, 7] (fun v i wr => ∃ k m g co : Nat, k ≤ ns.length ∧ i = .int .i64 k ∧ (dropTo ns t k).length = m ∧ v = .slice (some ⟨g, 0, none⟩) m co ∧ OwN wr w.heap.size (some ⟨g, 0, none⟩) m co (dropTo ns t k) ∧ Below w.heap.size w wr) (fun _ i _ => ns.length - (intOf i).toNat)
 case atStart => exact ⟨0, 0, w.heap.size, 0, Nat.zero_le _, rfl, rfl, rfl, O1.out, B1.out⟩
 case round =>
  obtain ⟨k, m, g, co, hk, rfl, hml, rfl, o2, hbl⟩ := hrel; have B2 := hid hbl; have O2 := hid o2; have HM := hid hml; have hmk : m ≤ k := by have := dropTo_len ns t k; omega
  clear hml hbl o2 O1 B1; by_cases hlt : k < ns.length
  · have kI : (k : Int) < ns.length := by omega
    go_wp2_with fail; refine (namesValid_spec (HR.out.below B2.out) (by omega) HSM.out).mono ?_
    rw [HBT.out]; rintro e w2 ⟨rfl, d, rfl⟩; have O3 := hid (O2.out.below (below_drewN (Below.refl _ _) d)); have B3 := hid (below_drewN B2.out d); have s3 := B3.out.size; obtain ⟨b, off, rfl, hbB, hc⟩ := (HR.out.below B3.out).at_ (by omega); obtain ⟨c0, c1⟩ := hc k hlt; have HT := hid (show nTxt ns k = (ns.getD k noName).1 from rfl); have HD := hid (show dropTo ns t (k + 1) = if nTxt ns k = t then dropTo ns t k else dropTo ns t k ++ [ns.getD k noName] from rfl); generalize ns.getD k noName = P at *; obtain ⟨s, f⟩ := P; simp only at c0 c1 HT; have bl : b < wr.heap.size := by have := B2.out.size; omega
    clear hc O2 B2; by_cases he : s = t
    · have hd : (s.toList == t.toList) = true := by rw [he]; exact beq_self_eq_true _
      have HD2 := hid (show dropTo ns t (k + 1) = dropTo ns t k from by rw [HD.out, if_pos (by rw [HT.out]; exact he)]); clear he; go_wp2; go_roundw
      case rel => exact ⟨k + 1, m, g, co, by omega, by go_num, by rw [HD2.out]; exact HM.out, rfl, by rw [HD2.out]; exact O3.out, B3.out⟩
      case measure => simp [intOf]; omega
    · have hd : (s.toList == t.toList) = false := beq_eq_false_iff_ne.2 (fun h => he (toList_inj' h)); have HD2 := hid (show dropTo ns t (k + 1) = dropTo ns t k ++ [(s, f)] from by rw [HD.out, if_neg (by rw [HT.out]; exact he)]); clear he; go_wp2_with (at_builtin; refine wpList_appN rfl rfl rfl O3.out rfl (by omega) s3 ?_; rintro g3 c3 w4 o4 gr4)
      have HO4 := hid (show OwN w4 w.heap.size (some ⟨g3, 0, none⟩) (m + 1) c3 (dropTo ns t (k + 1)) from by rw [HD2.out]; exact o4); have HB4 := hid (below_app B3.out O3.out s3 gr4); clear o4 gr4 O3; go_wp2; go_roundw
      case rel => exact ⟨k + 1, m + 1, g3, c3, by omega, by go_num, by rw [HD2.out, List.length_append, HM.out]; rfl, rfl, HO4.out, HB4.out⟩
      case measure => simp [intOf]; omega
  · obtain rfl : k = ns.length := by omega
    go_wp2_with fail; refine (namesValid_spec (HR.out.below B2.out) (by omega) HSM.out).mono ?_
    rw [HBT.out]; rintro e w2 ⟨rfl, d, rfl⟩; have O3 := hid (O2.out.below (below_drewN (Below.refl _ _) d)); have B3 := hid (below_drewN B2.out d); have HDN := hid (show dropN ns t = dropTo ns t ns.length from rfl); go_wp2; go_returns; have e9 : decide ((dropN ns t).length < ns.length) = decide (m < ns.length) := by rw [HDN.out, HM.out]
    rw [e9]; have := ownN_of (b := decide (m < ns.length)) HM.out O3.out B3.out; rw [HDN.out]; first | exact this | (simpa using this)
def OwnD (w0 : World) (d : DiskV) (e : Ending) (w' : World) : Prop := ∃ h, e = .returned (dkv h d) ∧ OwD w' w0.heap.size h d ∧ Below w0.heap.size w0 w'
def zeroDisk : DiskV := ⟨[], [], 0, 0, 0, 0, []⟩
theorem wpList_appPg {ops : Array Oper} {rest : List Oper} {o : Oper} {a : Act} {Q : Exit → Act → World → Prop} {w0 w : World} {B m c : Nat} {ad : Addr} {A0 : Option Addr} {c0 : Nat} {ps : List PageV} {s x : Operand} (hgd : o.guard = none)
 (ho : o.op = .call { callee := .builtin .append, args := #[s, x], argTypes := #[125, 125] })
 (hs : a.eval s = .slice A0 0 c0) (hx : a.eval x = .slice (some ad) m c) (hown : w.ownsRow w0.heap.size 88 5 (.slice A0 0 c0) 0 []) (hb : Below w0.heap.size w0 w)
 (hr : RdG w B (some ad) m ps) (hm : 0 < m) (hn : m ≤ 1000000000)
 (h : ∀ A' c' w', w'.ownsRow w0.heap.size 88 5 (.slice A' m c') m (flatG ps) → Below w0.heap.size w0 w' → wpList Tryz.prog ops Q rest (a.put o.dst (.slice A' m c')) w') :
 wpList Tryz.prog ops Q (o :: rest) a w := by
 refine wpList_plain hgd fun K hK => ?_
 have := step_appPg (ops := ops) (K := K) (Q := Q) (E := True) hgd s x ho hs hx hown hb hr hm hn (fun A' c' w' h1 h2 => hK _ _ (h A' c' w' h1 h2)); rwa [if_pos (by simp [Region.wanted, hgd])] at this
set_option maxRecDepth 8000 in
theorem clonePages_c {A : Option Addr} {n c B : Nat} {ps : List PageV} {w : World} (hr : RdG w B A n ps) (hB : B ≤ w.heap.size) (hn0 : 0 < n) (hn : n ≤ 1048576) :
 Calls Tryz.prog 175 #[.slice A n c] w fun e w' => ∃ A' c', e = .returned (.slice A' n c') ∧ w'.ownsRow w.heap.size 88 5 (.slice A' n c') n (flatG ps) ∧ Below w.heap.size w w' := by
 obtain ⟨b, off, rfl, hb, _⟩ := hr.at_ hn0; have bx : Below w.heap.size w (w.alloc (.cells #[] 88)) := (Below.refl _ _).alloc (Nat.le_refl _) _; have O := own_emptyRow w 88 5; have HR := (hr.mono hB).below bx; have hnil := fun (W : World) (a : Option Addr) (m k : Nat) => Lib.run_eql_slice_nil (P := Tryz.prog) W 125 88 a m k 0 0 Tryz.underlying125
 clear hr; go_enter Tryz.func175, Tryz.ntmps175
 go_wp2_with (at_builtin; refine wpList_appPg (w0 := w) rfl rfl rfl rfl O bx HR hn0 (by omega) ?_; rintro A' c' w' o' b')
 go_ret; exact ⟨A', c', rfl, o', b'⟩
theorem ownK_of {w0 w' : World} {we : Int} {ps : List PageV} {A : Option Addr} {n c : Nat} (hl : ps.length = n) (ho : w'.ownsRow w0.heap.size 88 5 (.slice A n c) n (flatG ps)) (hb : Below w0.heap.size w0 w') : OwnK w0 ⟨we, ps⟩ (.returned (.agg #[.int .i64 we, .slice A n c])) w' := by
 subst hl; exact ⟨A, c, rfl, ho, hb⟩
set_option maxRecDepth 8000 in
set_option maxHeartbeats 2000000 in
theorem cloneBlock_c {we : Int} {A : Option Addr} {n c B : Nat} {ps : List PageV} {w : World} (hr : RdG w B A n ps) (hB : B ≤ w.heap.size) (hn0 : 0 < n) (hn : n ≤ 1048576) :
 Calls Tryz.prog 143 #[.agg #[.int .i64 we, .slice A n c]] w (OwnK w ⟨we, ps⟩) := by
 have b2 : Below w.heap.size w ((w.alloc (.cells #[.int .i64 we, .slice A n c] 127)).alloc (.cells #[.int .i64 0, .slice none 0 0] 127)) := ((Below.refl _ _).alloc (Nat.le_refl _) _).alloc (by simp) _; have K2 := (Blk.new w 127 #[.int .i64 we, .slice A n c]).alloc (.cells #[.int .i64 0, .slice none 0 0] 127); have R2 := Blk.new (w.alloc (.cells #[.int .i64 we, .slice A n c] 127)) 127 #[.int .i64 0, .slice none 0 0]; rw [show (w.alloc (.cells #[.int .i64 we, .slice A n c] 127)).heap.size = w.heap.size + 1 by simp] at R2; have HR := hid (hr.mono hB); have HL := hid hr.len; clear hr; go_enter Tryz.func143, Tryz.ntmps143
 go_upto_region 1 with (fail)
 generalize (w.alloc (.cells #[.int .i64 we, .slice A n c] 127)).alloc (.cells #[.int .i64 0, .slice none 0 0] 127) = w2 at *; have t0 := K2.cell 0; have t1 := K2.cell 1; simp at t0 t1; refine wp_region_held_drew (S := fun w' => w'.cell? ⟨w.heap.size, 0, none⟩ = some (.int .i64 we) ∧ w'.cell? ⟨w.heap.size, 1, none⟩ = some (.slice A n c)) (by kernel_rfl) ?_ (fun h_ => ?_)
 · exact ⟨t0, t1⟩
 have K3 : Blk w2.drew w.heap.size 127 _ := K2; have R3 : Blk w2.drew (w.heap.size + 1) 127 _ := R2; have B3 := b2.drew; clear K2 R2 b2 t0 t1; generalize w2.drew = w3 at *; refine tk 0 ?_; refine tk 1 ?_; refine tk 2 ?_; refine tk 3 ?_; refine rd1 4 (fun K hK => ?_); go_simp; refine (clonePages_c (HR.out.below B3) B3.size hn0 hn).mono ?_; rintro e w4 ⟨A4, c4, rfl, o4, b4⟩; have K4 := K3.below b4 K3.lt; have R4 := R3.below b4 R3.lt; have B4 := hid (B3.trans (b4.mono B3.size)); have O4 := own_lower o4 (base' := w.heap.size) B3.size; clear K3 R3 B3 b4 o4; go_wp2_with fail; have t0 := K4.cell 0; have t1 := K4.cell 1; simp at t0 t1; refine hK.out _ _ (⟨t0, t1⟩) fun h_ => ?_
 clear hK K; refine pt ?_; refine tk 5 ?_; have y0 := R4.cell 0; have y1 := R4.cell 1; simp at y0 y1; have z0 := R4.frozen 0; have z1 := R4.frozen 1; have R5 := (R4.set_ 0 (.int .i64 we)).set_ 1 (.slice A4 n c4); simp at R5; have K5 := (K4.far (p := ⟨w.heap.size + 1, 0, none⟩) (by show w.heap.size ≠ w.heap.size + 1; omega) (.int .i64 we)).far (p := ⟨w.heap.size + 1, 1, none⟩) (by show w.heap.size ≠ w.heap.size + 1; omega) (.slice A4 n c4); have B5 := hid ((B4.out.setCell (p := ⟨w.heap.size + 1, 0, none⟩) (by show w.heap.size ≤ w.heap.size + 1; omega) (.int .i64 we)).setCell (p := ⟨w.heap.size + 1, 1, none⟩) (by show w.heap.size ≤ w.heap.size + 1; omega) (.slice A4 n c4)); have O5 := hid (own_typed (own_typed O4 (ChgT.blk R4 0 (.int .i64 we)) (by decide)) (ChgT.blk (R4.set_ 0 (.int .i64 we)) 1 (.slice A4 n c4)) (by decide)); have u0 := K5.cell 0; have u1 := K5.cell 1; simp at u0 u1; clear K4 R4 B4 O4 K5; refine rd1 6 (fun K hK => ?_); go_simp; refine hK.out _ _ (⟨u0, u1⟩) fun h_ => ?_
 clear hK K; refine pt ?_; refine dn ?_; clear h_ y0 y1 z0 z1 u0 u1 t0 t1; generalize (w4.setCell ⟨w.heap.size + 1, 0, none⟩ (.int .i64 we)).setCell ⟨w.heap.size + 1, 1, none⟩ (.slice A4 n c4) = wz at *; have e0 := R5.cell 0; have e1 := R5.cell 1; simp at e0 e1; repeat (first | go_values | go_skip | go_guarded | go_step | go_upon)
 refine bodyPost_ret (by simp [results, Tryz.results143, go_sem, e0, e1]; try rfl) rfl ?_; exact ownK_of HL.out O5.out B5.out
set_option maxRecDepth 8000 in
set_option maxHeartbeats 2000000 in
theorem cloneDevice_c {A : Option Addr} {n c B : Nat} {bs : List BlockV} {w : World} (hr : RdB w B A n bs) (hB : B ≤ w.heap.size) (hn : n ≤ 1048576) (hok : ∀ i, i < n → 0 < (bs.getD i noBlock).pages.length ∧ (bs.getD i noBlock).pages.length ≤ 1048576) :
 Calls Tryz.prog 87 #[.slice A n c] w (OwnB w bs) := by
 have HL := hid hr.len; have HOK := hid hok; have HR := hid (hr.mono hB); have hmk := makeBlock n (by omega); have hst := hid (own_madeBlocks w w.heap.size n bs hr.len (Nat.le_refl _) (by omega)); clear hok hr; go_enter Tryz.func87, Tryz.ntmps87
 go_wp2; go_loopw [11] (fun i wr => ∃ k : Nat, k ≤ n ∧ i = .int .i64 k ∧ OwB wr w.heap.size (some ⟨w.heap.size, 0, none⟩) n n (fillTo noBlock bs k) ∧ Below w.heap.size w wr) (fun i _ => n - (intOf i).toNat)
 case atStart => exact ⟨0, Nat.zero_le _, rfl, hst.out, (Below.refl _ _).alloc (Nat.le_refl _) _⟩
 case round =>
  obtain ⟨k, hk, rfl, hown, hbel⟩ := hrel; have HO := hid hown; have HB := hid hbel; have hsz := hbel.size; clear hown hmk; by_cases hlt : k < n
  · obtain ⟨b, off, rfl, hbB, hc⟩ := (HR.out.below hbel).at_ (by omega); obtain ⟨A', n', c', c0, c1', hnc, hcm, hrg⟩ := hc k hlt; have hn2 := HOK.out k hlt; have HF := hid (fillTo_set noBlock bs (k := k) (by rw [HL.out]; exact hlt)); generalize bs.getD k noBlock = P at *; obtain ⟨we, ps⟩ := P; simp only at c0 hrg hn2; obtain rfl : ps.length = n' := hrg.len; obtain ⟨hn3, hn4⟩ := hn2; clear hc hbel; go_upto_region 5 with (fail)
    have bx : Below wr.heap.size wr (wr.alloc (.cells #[.int .i64 we, .slice A' ps.length c'] 127)) := (Below.refl _ _).alloc (Nat.le_refl _) _; have KX := Blk.new wr 127 #[.int .i64 we, .slice A' ps.length c']; have HG := hid (hrg.below (bx.mono hsz)); have HO2 := hid (HO.out.below bx); have HB2 := hid (HB.out.trans (bx.mono hsz)); clear c0 c1' hrg bx HO HB; generalize wr.alloc (.cells #[.int .i64 we, .slice A' ps.length c'] 127) = w1 at *; have t0 := KX.cell 0; have t1 := KX.cell 1; simp at t0 t1; have hs1 := HB2.out.size; go_wp2_with fail; refine (cloneBlock_c HG.out hs1 hn3 hn4).mono ?_; rintro e w2 ⟨A2, c2, rfl, ho2, hb2⟩; simp only at ho2 ⊢; have oF := HO2.out.setBlock (we := we) hb2 ho2 hs1 hlt; obtain ⟨A3, n3, c3, f0, f1, z0, z1, _⟩ := (HO2.out.below hb2).cells k hlt; rw [HF.out] at oF; have OF := hid oF; have HB3 := hid (HB2.out.trans (hb2.mono hs1)); generalize ((fillTo noBlock bs k).getD k noBlock).wear = q at *; have KX2 := KX.below hb2 KX.lt; have t0 := KX2.cell 0; have t1 := KX2.cell 1; simp at t0 t1; clear hb2 oF ho2 KX KX2 HG; go_upto_region 6 with (fail)
    have HB4 := hid ((HB3.out.setCell (p := ⟨w.heap.size, k * 2, none⟩) (Nat.le_refl _) (.int .i64 we)).setCell (p := ⟨w.heap.size, k * 2 + 1, none⟩) (Nat.le_refl _) (.slice A2 ps.length c2)); generalize (w2.setCell ⟨w.heap.size, k * 2, none⟩ (.int .i64 we)).setCell ⟨w.heap.size, k * 2 + 1, none⟩ (.slice A2 ps.length c2) = wz at *; go_wp2_with fail; go_roundw
    case rel => exact ⟨k + 1, by omega, by go_num, OF.out, HB4.out⟩
    case measure => simp [intOf]; omega
  · obtain rfl : k = n := by omega
    have how : OwB wr w.heap.size (some ⟨w.heap.size, 0, none⟩) k k bs := by have := fillTo_all noBlock bs; rw [HL.out] at this; rw [this] at HO; exact HO.out
    have HO2 := hid how; clear how HO; go_wp2; go_ret; exact ownB_of HL.out HO2.out HB.out
theorem findName_impl {A : Option Addr} {n c B : Nat} {ns : List NameV} {t : ByteArray} {w : World} (hr : RdN w B A n ns) (hB : B ≤ w.heap.size) (hn : n ≤ 1048576) (hsm : ∀ i, i < n → (nTxt ns i).size ≤ 9223372036854775807) (hok : NamesOk ns) :
 Calls Tryz.prog 123 #[.slice A n c, .string t] w fun e w' => e = .returned (.int .i64 (findN ns t)) ∧ Below w.heap.size w w' := by
 obtain rfl : ns.length = n := hr.len; have HBT := hid (bof_t.2 hok); have HR := hid (hr.mono hB); go_enter Tryz.func123, Tryz.ntmps123
 go_wp2_with fail; refine (namesValid_impl HR.out (Nat.le_refl _) hn hsm).mono ?_
 rw [HBT.out]; rintro e w2 ⟨rfl, b2⟩; have B2 := hid b2; clear hok hsm hr b2; go_upto_region 4 with (fail)
 go_loopw [12] (fun i wr => ∃ k : Nat, k ≤ ns.length ∧ i = .int .i64 k ∧ (∀ i, i < k → nTxt ns i ≠ t) ∧ Below w.heap.size w wr) (fun i _ => ns.length - (intOf i).toNat)
 case atStart => exact ⟨0, Nat.zero_le _, rfl, fun i hi => absurd hi (Nat.not_lt_zero _), B2.out⟩
 case round =>
  obtain ⟨k, hk, rfl, hno, hbl⟩ := hrel; have HN := hid hno; have B1 := hid hbl; have hsz := hbl.size; clear hno hbl; by_cases hlt : k < ns.length
  · have kI : (k : Int) < ns.length := by omega
    obtain ⟨b, off, rfl, hbB, hc⟩ := (HR.out.below B1.out).at_ (by omega); obtain ⟨c0, c1⟩ := hc k hlt; have HT := hid (show nTxt ns k = (ns.getD k noName).1 from rfl); have HF := hid (show nFil ns k = (ns.getD k noName).2 from rfl); generalize ns.getD k noName = P at *; obtain ⟨s, f⟩ := P; simp only at c0 c1 HT HF; clear hc; go_upto_region 6 with (fail)
    have bx : Below wr.heap.size wr (wr.alloc (.cells #[.string s, .int .i64 f] 78)) := (Below.refl _ _).alloc (Nat.le_refl _) _; have KX := Blk.new wr 78 #[.string s, .int .i64 f]; have B3 := hid (B1.out.trans (bx.mono hsz)); clear bx c0 c1; generalize wr.alloc (.cells #[.string s, .int .i64 f] 78) = wx at *; have f0 := KX.cell 0; have f1 := KX.cell 1; simp at f0 f1; by_cases he : s = t
    · subst he; have HX := hid (findN_at hlt HN.out HT.out); go_wp2; go_ret; exact ⟨by rw [HX.out, HF.out]; rfl, B3.out⟩
    · have hd : (s.toList == t.toList) = false := beq_eq_false_iff_ne.2 (fun h => he (toList_inj' h)); have HN2 := hid (show ∀ i, i < k + 1 → nTxt ns i ≠ t from fun i hi => by
       by_cases e : i = k
       · subst e; rw [HT.out]; exact he
       · exact HN.out i (by omega))
      go_wp2; go_roundw
      case rel => exact ⟨k + 1, by omega, by go_num, HN2.out, B3.out⟩
      case measure => simp [intOf]; omega
  · obtain rfl : k = ns.length := by omega
    have HX := hid (findN_none HN.out); go_wp2; go_ret; exact ⟨by rw [HX.out]; rfl, B1.out⟩
theorem wpList_appN0 {ops : Array Oper} {rest : List Oper} {o : Oper} {a : Act} {Q : Exit → Act → World → Prop} {w : World} {s x : Operand} {base : Nat} {A0 : Option Addr} {c0 n : Nat} {ns : List NameV} {t : ByteArray} {f : Int} (hgd : o.guard = none)
 (ho : o.op = .call { callee := .builtin .append, args := #[s, x], argTypes := #[29, 29] })
 (hs : a.eval s = .slice A0 n c0) (hown : OwN w base A0 n c0 ns)
 (hx : a.eval x = .slice (some ⟨w.heap.size, 0, none⟩) 1 1) (hn : n ≤ 1000000000000) (hbase : base ≤ w.heap.size)
 (h : ∀ g c w', OwN w' base (some ⟨g, 0, none⟩) (n + 1) c (ns ++ [(t, f)]) → w.grownBy w' (Value.slice A0 n c0).ownBlock → wpList Tryz.prog ops Q rest (a.put o.dst (.slice (some ⟨g, 0, none⟩) (n + 1) c)) w') :
 wpList Tryz.prog ops Q (o :: rest) a (w.alloc (.cells #[.string t, .int .i64 f] 78)) := by
 obtain ⟨i0, hi, hz0, hz1, hz2⟩ := info_parts infoName; refine wpList_app hgd s x 29 ho base 78 i0 _ 2 24 Tryz.underlying29 hi hz0 hz1 hz2 rfl (by decide) (.slice A0 n c0) n _ hs hown [.string t, .int .i64 f] hx rfl (by simp [Value.oneCell']) (by omega) (by omega) (by omega) ?_; intro g c w' g1 g2 g3
 exact h g c w' (by unfold OwN; rw [flatN_append, flatN_one]; exact g1) g2
theorem dropName_impl {A : Option Addr} {n c B : Nat} {ns : List NameV} {t : ByteArray} {w : World} (hr : RdN w B A n ns) (hB : B ≤ w.heap.size) (hn : n ≤ 1048576) (hsm : ∀ i, i < n → (nTxt ns i).size ≤ 9223372036854775807) (hok : NamesOk ns) :
 Calls Tryz.prog 129 #[.slice A n c, .string t] w (OwnN w (dropN ns t) (decide ((dropN ns t).length < ns.length))) := by
 obtain rfl : ns.length = n := hr.len; have HBT := hid (bof_t.2 hok); have HR := hid (hr.mono hB); go_enter Tryz.func129, Tryz.ntmps129
 go_wp2_with fail; refine (namesValid_impl HR.out (Nat.le_refl _) hn hsm).mono ?_
 rw [HBT.out]; rintro e w2 ⟨rfl, b2⟩; have B2 := hid b2; have O2 := hid (OwN.nil w2 w.heap.size); clear hok hsm hr b2; go_upto_region 5 with (fail)
 go_loopw [6, 14] (fun v i wr => ∃ (k m co : Nat) (A' : Option Addr), k ≤ ns.length ∧ i = .int .i64 k ∧ (dropTo ns t k).length = m ∧ v = .slice A' m co ∧ OwN wr w.heap.size A' m co (dropTo ns t k) ∧ Below w.heap.size w wr) (fun _ i _ => ns.length - (intOf i).toNat)
 case atStart => exact ⟨0, 0, 0, none, Nat.zero_le _, rfl, rfl, rfl, O2.out, B2.out⟩
 case round =>
  obtain ⟨k, m, co, A1, hk, rfl, hml, rfl, o2, hbl⟩ := hrel; have B1 := hid hbl; have O1 := hid o2; have HM := hid hml; have hsz := hbl.size; have hmk : m ≤ k := by have := dropTo_len ns t k; omega
  clear hml hbl o2 O2 B2; by_cases hlt : k < ns.length
  · have kI : (k : Int) < ns.length := by omega
    obtain ⟨b, off, rfl, hbB, hc⟩ := (HR.out.below B1.out).at_ (by omega); obtain ⟨c0, c1⟩ := hc k hlt; have HT := hid (show nTxt ns k = (ns.getD k noName).1 from rfl); have HD := hid (show dropTo ns t (k + 1) = if nTxt ns k = t then dropTo ns t k else dropTo ns t k ++ [ns.getD k noName] from rfl); generalize ns.getD k noName = P at *; obtain ⟨s, f⟩ := P; simp only at c0 c1 HT; clear hc; go_upto_region 7 with (fail)
    have bx : Below wr.heap.size wr (wr.alloc (.cells #[.string s, .int .i64 f] 78)) := (Below.refl _ _).alloc (Nat.le_refl _) _; have KX := Blk.new wr 78 #[.string s, .int .i64 f]; have B3 := hid (B1.out.trans (bx.mono hsz)); have O3 := hid (O1.out.below bx); clear bx c0 c1 B1 O1; generalize wr.alloc (.cells #[.string s, .int .i64 f] 78) = wx at *; have s3 := B3.out.size; have f0 := KX.cell 0; have f1 := KX.cell 1; simp at f0 f1; by_cases he : s = t
    · have hd : (s.toList == t.toList) = true := by rw [he]; exact beq_self_eq_true _
      have hd2 : (s.toList != t.toList) = false := by rw [he]; simp
      have HD2 := hid (show dropTo ns t (k + 1) = dropTo ns t k from by rw [HD.out, if_pos (by rw [HT.out]; exact he)]); clear he; go_wp2; go_roundw
      case rel => exact ⟨k + 1, m, co, A1, by omega, by go_num, by rw [HD2.out]; exact HM.out, rfl, by rw [HD2.out]; exact O3.out, B3.out⟩
      case measure => simp [intOf]; omega
    · have hd : (s.toList == t.toList) = false := beq_eq_false_iff_ne.2 (fun h => he (toList_inj' h)); have hd2 : (s.toList != t.toList) = true := by simpa using (fun h => he (toList_inj' h))
      have HD2 := hid (show dropTo ns t (k + 1) = dropTo ns t k ++ [(s, f)] from by rw [HD.out, if_neg (by rw [HT.out]; exact he)]); clear he; go_wp2_with (at_builtin; refine wpList_appN0 rfl rfl rfl O3.out rfl (by omega) s3 ?_; rintro g3 c3 w4 o4 gr4)
      have HO4 := hid (show OwN w4 w.heap.size (some ⟨g3, 0, none⟩) (m + 1) c3 (dropTo ns t (k + 1)) from by rw [HD2.out]; exact o4); have HB4 := hid (below_app B3.out O3.out s3 gr4); clear o4 gr4 O3; go_wp2; go_roundw
      case rel => exact ⟨k + 1, m + 1, c3, _, by omega, by go_num, by rw [HD2.out, List.length_append, HM.out]; rfl, rfl, HO4.out, HB4.out⟩
      case measure => simp [intOf]; omega
  · obtain rfl : k = ns.length := by omega
    have HDN := hid (show dropN ns t = dropTo ns t ns.length from rfl); go_wp2; go_returns; have e9 : decide ((dropN ns t).length < ns.length) = decide (m < ns.length) := by rw [HDN.out, HM.out]
    rw [e9]; have := ownN_of (b := decide (m < ns.length)) HM.out O1.out B1.out; rw [HDN.out]; first | exact this | (simpa using this)
theorem isHead_c (h : HeadV) (k : Int) (w : World) : Calls Tryz.prog 168 #[hdv h, .int .i64 k] w fun e w' => e = .returned (.bool (h.has k)) ∧ Below w.heap.size w w' := by
 obtain ⟨x, y, z⟩ := h; have HH := hid (show HeadV.has ⟨x, y, z⟩ k = (k == x || k == y || k == z) from rfl); have b1 : Below w.heap.size w (w.alloc (.cells #[.int .i64 x, .int .i64 y, .int .i64 z] 28)) := (Below.refl _ _).alloc (Nat.le_refl _) _; have k1 := Blk.new w 28 #[.int .i64 x, .int .i64 y, .int .i64 z]; have B1 := hid b1; clear b1; go_enter Tryz.func168, Tryz.ntmps168
 go_upto_region 1 with (fail)
 generalize w.alloc (.cells #[.int .i64 x, .int .i64 y, .int .i64 z] 28) = w1 at *; have t0 := k1.cell 0; have t1 := k1.cell 1; have t2 := k1.cell 2; simp at t0 t1 t2; cases h0 : (k == x) with
 | true =>
  go_wp2; go_ret
  exact ⟨by rw [HH.out, h0]; rfl, B1.out⟩
 | false =>
  cases h1 : (k == y) with
  | true =>
   go_wp2; go_ret
   exact ⟨by rw [HH.out, h0, h1]; rfl, B1.out⟩
  | false =>
   go_wp2; go_ret
   exact ⟨by rw [HH.out, h0, h1]; rfl, B1.out⟩
theorem headOf_impl {A : Option Addr} {m c B : Nat} {bs : List BlockV} (h : HeadV) (heat : Nat) {w : World} (hr : RdB w B A m bs) (hB : B ≤ w.heap.size) (hm : m ≤ 1048576) (hok : HeadsOk bs h.x h.y h.z) (hh : heat ≤ 2) :
 Calls Tryz.prog 161 #[.slice A m c, hdv h, .int .i64 heat] w fun e w' => e = .returned (.int .i64 (h.get heat)) ∧ Below w.heap.size w w' := by
 obtain ⟨x, y, z⟩ := h; have HBT := hid (bof_t.2 hok); have b1 : Below w.heap.size w (w.alloc (.cells #[.int .i64 x, .int .i64 y, .int .i64 z] 28)) := (Below.refl _ _).alloc (Nat.le_refl _) _; have k1 := Blk.new w 28 #[.int .i64 x, .int .i64 y, .int .i64 z]; have r1 := (hr.mono hB).below b1; have l1 := k1.lt; have B1 := hid b1; clear b1 hr hok; go_enter Tryz.func161, Tryz.ntmps161
 go_upto_region 1 with (fail)
 generalize w.alloc (.cells #[.int .i64 x, .int .i64 y, .int .i64 z] 28) = w1 at *; have t0 := k1.cell 0; have t1 := k1.cell 1; have t2 := k1.cell 2; simp at t0 t1 t2; go_wp2_with fail; refine (headsValid_impl r1 B1.out.size hm).mono ?_; rw [HBT.out]; rintro e w2 ⟨rfl, b2⟩; have k2 := k1.below b2 l1; have B2 := hid (B1.out.trans (b2.mono B1.out.size)); clear b2 k1 r1 t0 t1 t2; have t0 := k2.cell 0; have t1 := k2.cell 1; have t2 := k2.cell 2; simp at t0 t1 t2; have hc : heat = 0 ∨ heat = 1 ∨ heat = 2 := by omega
 rcases hc with rfl | rfl | rfl
 all_goals
  go_wp2; go_ret
  exact ⟨rfl, B2.out⟩
set_option maxHeartbeats 2000000 in
theorem blockNext_impl {we : Int} {A : Option Addr} {n c B : Nat} {ps : List PageV} {w : World} (hr : RdG w B A n ps) (hB : B ≤ w.heap.size) (hnc : n ≤ c) (hcm : c ≤ 9223372036854775807) (hok : BlockOk ⟨we, ps⟩) :
 Calls Tryz.prog 162 #[.agg #[.int .i64 we, .slice A n c]] w fun e w' => e = .returned (.int .i64 (nextP ps)) ∧ Below w.heap.size w w' := by
 have HL := hid hr.len; have hbt := hid (bof_t.2 hok); have hn4 : n = 4 := by rw [← hr.len]; exact hok.2.1
 subst hn4; have b1 : Below w.heap.size w (w.alloc (.cells #[.int .i64 we, .slice A 4 c] 127)) := (Below.refl _ _).alloc (Nat.le_refl _) _; have k1 := Blk.new w 127 #[.int .i64 we, .slice A 4 c]; have hr1 := (hr.mono hB).below b1; have l1 := k1.lt; have B1 := hid b1; clear hok hr b1; go_enter Tryz.func162, Tryz.ntmps162
 go_upto_region 1 with (fail)
 generalize w.alloc (.cells #[.int .i64 we, .slice A 4 c] 127) = w1 at *; have t0 := k1.cell 0; have t1 := k1.cell 1; simp at t0 t1; go_wp2_with fail; refine (blockValid_impl hr1 B1.out.size hnc hcm).mono ?_; rw [hbt.out]; rintro e w2 ⟨rfl, b2⟩; have k2 := k1.below b2 l1; have HR2 := hid (hr1.below (b2.mono B1.out.size)); have HB2 := hid (B1.out.trans (b2.mono B1.out.size)); clear t0 t1 k1 hr1 b2; have t0 := k2.cell 0; have t1 := k2.cell 1; simp at t0 t1; go_upto_region 4 with (fail)
 clear t0 t1; go_loopw [11] (fun i wr => ∃ k : Nat, k ≤ 4 ∧ i = .int .i64 k ∧ (∀ i, i < k → (ps.getD i noPage).full = true) ∧ Below w.heap.size w2 wr) (fun i _ => 4 - (intOf i).toNat)
 case atStart => exact ⟨0, Nat.zero_le _, rfl, fun j h => absurd h (Nat.not_lt_zero _), Below.refl _ _⟩
 case round =>
  obtain ⟨k, hk, rfl, hall, hbl⟩ := hrel; have HA := hid hall; have HBL := hid (HB2.out.trans hbl); have HBW := hid hbl; have hsz := HBL.out.size; have hr3 := HR2.out.below hbl; clear hall hbl; by_cases hlt : k < 4
  · have kI : (k : Int) < 4 := by omega
    obtain ⟨b, off, e, hbB, hc⟩ := hr3.at_ (by omega); subst e; obtain ⟨c0, c1, c2, c3, c4⟩ := hc k hlt; clear hc hr3; have HF := hid (show (ps.getD k noPage).full = (ps.getD k noPage).full from rfl); obtain ⟨P, hP⟩ : ∃ P, ps.getD k noPage = P := ⟨_, rfl⟩; rw [hP] at c0 c1 c2 c3 c4; have HP := hid hP; obtain ⟨pf, pa, pb, pc, pd⟩ := P; simp only at c0 c1 c2 c3 c4; clear hP HF; go_upto_region 6 with (fail)
    have bx : Below wr.heap.size wr (wr.alloc (.cells #[.bool pf, .int .i64 pa, .int .i64 pb, .int .i64 pc, .int .i64 pd] 88)) := (Below.refl _ _).alloc (Nat.le_refl _) _; have KX := Blk.new wr 88 #[.bool pf, .int .i64 pa, .int .i64 pb, .int .i64 pc, .int .i64 pd]; have HB3 := hid (HBL.out.trans (bx.mono hsz)); have HB4 := hid (HBW.out.trans (bx.mono hsz)); clear bx c0 c1 c2 c3 c4; generalize wr.alloc (.cells #[.bool pf, .int .i64 pa, .int .i64 pb, .int .i64 pc, .int .i64 pd] 88) = wx at *; have t0 := KX.cell 0; simp at t0; cases pf
    · have HX := hid (nextP_at (ps := ps) (k := k) (by rw [HL.out]; exact hlt) HA.out (by rw [HP.out])); go_wp2; go_ret; exact ⟨by rw [HX.out]; rfl, HB3.out⟩
    · have HA2 := hid (show ∀ i, i < k + 1 → (ps.getD i noPage).full = true from fun i hi => by
       by_cases e : i = k
       · subst e; rw [HP.out]
       · exact HA.out i (by omega))
      go_wp2; go_roundw
      case rel => exact ⟨k + 1, by omega, by go_num, HA2.out, HB4.out⟩
      case measure => simp [intOf]; omega
  · obtain rfl : k = 4 := by omega
    have HX := hid (nextP_none (ps := ps) (fun i hi => HA.out i (by rw [HL.out] at hi; exact hi))); go_wp2; go_ret; exact ⟨by rw [HX.out]; rfl, HBL.out⟩
set_option maxRecDepth 8000 in
set_option maxHeartbeats 4000000 in
theorem freshBlock_impl {A : Option Addr} {m c B : Nat} {bs : List BlockV} {h : HeadV} {w : World} (hr : RdB w B A m bs) (hB : B ≤ w.heap.size) (hok : HeadsOk bs h.x h.y h.z) :
 Calls Tryz.prog 163 #[.slice A m c, hdv h] w fun e w' => e = .returned (.int .i64 (freshF bs h)) ∧ Below w.heap.size w w' := by
 obtain rfl : bs.length = m := hr.len; have hm12 : bs.length ≤ 12 := hok.1.1.2; obtain ⟨x, y, z⟩ := h; have HBT := hid (bof_t.2 hok); have HOK := hid hok.1; have b1 : Below w.heap.size w (w.alloc (.cells #[.int .i64 x, .int .i64 y, .int .i64 z] 28)) := (Below.refl _ _).alloc (Nat.le_refl _) _; have k1 := Blk.new w 28 #[.int .i64 x, .int .i64 y, .int .i64 z]; have r1 := (hr.mono hB).below b1; have l1 := k1.lt; have B1 := hid b1; have HRW := hid (hr.mono hB); clear b1 hr hok; go_enter Tryz.func163, Tryz.ntmps163
 go_upto_region 1 with (fail)
 generalize w.alloc (.cells #[.int .i64 x, .int .i64 y, .int .i64 z] 28) = w1 at *; have t0 := k1.cell 0; have t1 := k1.cell 1; have t2 := k1.cell 2; simp at t0 t1 t2; go_wp2_with fail; refine (headsValid_impl r1 B1.out.size (by omega)).mono ?_; rw [HBT.out]; rintro e w2 ⟨rfl, b2⟩; have k2 := k1.below b2 l1; have HR2 := hid (r1.below (b2.mono B1.out.size)); have HB2 := hid (B1.out.trans (b2.mono B1.out.size)); clear b2 k1 r1 t0 t1 t2; go_upto_region 5 with (fail)
 go_loopw [5, 14] (fun f i wr => ∃ k : Nat, k ≤ bs.length ∧ i = .int .i64 k ∧ f = .int .i64 (freshTo bs ⟨x, y, z⟩ k) ∧ Blk wr w.heap.size 28 #[.int .i64 x, .int .i64 y, .int .i64 z] ∧ Below w.heap.size w wr) (fun _ i _ => bs.length - (intOf i).toNat)
 case atStart => exact ⟨0, Nat.zero_le _, rfl, rfl, k2, HB2.out⟩
 case round =>
  obtain ⟨k, hk, rfl, rfl, hkb, hbl⟩ := hrel; have HB3 := hid hbl; have HK3 := hid hkb; have hsz := hbl.size; have hfr := freshTo_range bs ⟨x, y, z⟩ k; clear hkb hbl k2 HB2; by_cases hlt : k < bs.length
  · have kI : (k : Int) < bs.length := by omega
    obtain ⟨b, off, e, hbB, hc⟩ := (HRW.out.below HB3.out).at_ (by omega); subst e; obtain ⟨A', n', c', c0, c1, hnc, hcm, hrg⟩ := hc k hlt; have HC := hid (show ∀ i, i < bs.length → wr.cell? ⟨b, off + i * 2, none⟩ = some (.int .i64 (bs.getD i noBlock).wear) from fun i hi => by obtain ⟨_, _, _, h0, _⟩ := hc i hi; exact h0); have HBK := hid (HOK.out.2 k hlt); have HF := hid (show freshTo bs ⟨x, y, z⟩ (k + 1) = (if HeadV.has ⟨x, y, z⟩ k || !(nextP (bs.getD k noBlock).pages == 0) then freshTo bs ⟨x, y, z⟩ k else if freshTo bs ⟨x, y, z⟩ k < 0 ∨ (bs.getD k noBlock).wear < (bs.getD (freshTo bs ⟨x, y, z⟩ k).toNat noBlock).wear then (k : Int) else freshTo bs ⟨x, y, z⟩ k) from rfl); obtain ⟨P, hP⟩ : ∃ P, bs.getD k noBlock = P := ⟨_, rfl⟩; rw [hP] at c0 hrg HF HBK; obtain ⟨we, ps⟩ := P; simp only at c0 hrg HF; clear hc hP; go_upto_region 7 with (fail)
    have bx : Below wr.heap.size wr (wr.alloc (.cells #[.int .i64 we, .slice A' n' c'] 127)) := (Below.refl _ _).alloc (Nat.le_refl _) _; have KX := Blk.new wr 127 #[.int .i64 we, .slice A' n' c']; have K4 := HK3.out.below bx HK3.out.lt; have HB4 := hid (HB3.out.trans (bx.mono hsz)); have HC4 := hid (show ∀ i, i < bs.length → (wr.alloc (.cells #[.int .i64 we, .slice A' n' c'] 127)).cell? ⟨b, off + i * 2, none⟩ = some (.int .i64 (bs.getD i noBlock).wear) from fun i hi => (bx.cell (p := ⟨b, off + i * 2, none⟩) (show b < wr.heap.size by omega)).trans (HC.out i hi)); have G4 := hid (hrg.below (bx.mono hsz)); have lb4 : b < wr.heap.size := by omega
    have sz4 := bx.size; clear c0 c1 hrg bx HB3 HK3 HC; generalize wr.alloc (.cells #[.int .i64 we, .slice A' n' c'] 127) = w4 at *; generalize wr.heap.size = gx at *; have t0 := K4.cell 0; have t1 := K4.cell 1; have t2 := K4.cell 2; simp at t0 t1 t2; go_wp2_with fail; refine (isHead_c ⟨x, y, z⟩ (k : Int) _).mono ?_; cases hh : HeadV.has ⟨x, y, z⟩ (k : Int) with
    | true =>
     rintro e w5 ⟨rfl, b5⟩; have K5 := hid (K4.below b5 K4.lt); have HB5 := hid (HB4.out.trans (b5.mono HB4.out.size)); have HX := hid (show freshTo bs ⟨x, y, z⟩ (k + 1) = freshTo bs ⟨x, y, z⟩ k from by rw [HF.out, hh]; rfl); clear b5 t0 t1 t2 hh; go_wp2; go_roundw
     case rel => exact ⟨k + 1, by omega, by go_num, by rw [HX.out], K5.out, HB5.out⟩
     case measure => simp [intOf]; omega
    | false =>
     rintro e w5 ⟨rfl, b5⟩; have K5 := hid (K4.below b5 K4.lt); have KX5 := KX.below b5 KX.lt; have HB5 := hid (HB4.out.trans (b5.mono HB4.out.size)); have G5 := G4.out.below (b5.mono HB4.out.size); have HC5 := hid (show ∀ i, i < bs.length → w5.cell? ⟨b, off + i * 2, none⟩ = some (.int .i64 (bs.getD i noBlock).wear) from fun i hi => (b5.cell (p := ⟨b, off + i * 2, none⟩) (show b < w4.heap.size by omega)).trans (HC4.out i hi)); have sz5 := Nat.le_trans sz4 b5.size; clear b5 t0 t1 t2 K4 KX HB4 HC4 G4; have f0 := KX5.cell 0; have f1 := KX5.cell 1; simp at f0 f1; go_wp2_with fail; refine (blockNext_impl G5 HB5.out.size hnc hcm HBK.out).mono ?_; rintro e w6 ⟨rfl, b6⟩; have K6 := hid (K5.out.below b6 K5.out.lt); have KX6 := KX5.below b6 KX5.lt; have HB6 := hid (HB5.out.trans (b6.mono HB5.out.size)); have HC6 := hid (show ∀ i, i < bs.length → w6.cell? ⟨b, off + i * 2, none⟩ = some (.int .i64 (bs.getD i noBlock).wear) from fun i hi => (b6.cell (p := ⟨b, off + i * 2, none⟩) (show b < w5.heap.size by omega)).trans (HC5.out i hi)); clear b6 f0 f1 K5 KX5 HB5 HC5 G5; rw [hh] at HF; clear hh; generalize nextP ps = q at *; cases hq : (q != 0) with
     | true =>
      have HX := hid (show freshTo bs ⟨x, y, z⟩ (k + 1) = freshTo bs ⟨x, y, z⟩ k from by
       rw [HF.out]; have : (q == 0) = false := by simpa using hq
       rw [this]; rfl)
      go_wp2; go_roundw
      case rel => exact ⟨k + 1, by omega, by go_num, by rw [HX.out], K6.out, HB6.out⟩
      case measure => simp [intOf]; omega
     | false =>
      have HF2 := hid (show freshTo bs ⟨x, y, z⟩ (k + 1) = (if freshTo bs ⟨x, y, z⟩ k < 0 ∨ we < (bs.getD (freshTo bs ⟨x, y, z⟩ k).toNat noBlock).wear then (k : Int) else freshTo bs ⟨x, y, z⟩ k) from by
       rw [HF.out]; have : (q == 0) = true := by simpa using hq
       rw [this]; rfl)
      clear HF; have f0 := KX6.cell 0; simp at f0; generalize freshTo bs ⟨x, y, z⟩ k = f at *; go_upto_region 8 with (fail)
      clear hq; by_cases hf : f < 0
      · have HX := hid (show freshTo bs ⟨x, y, z⟩ (k + 1) = (k : Int) from by rw [HF2.out, if_pos (.inl hf)]); have hd : decide (f < 0) = true := decide_eq_true hf; go_quiet (fail)
        go_wp2_with fail; go_roundw
        case rel => exact ⟨k + 1, by omega, by go_num, by rw [HX.out], K6.out, below_drewN HB6.out _⟩
        case measure => simp [intOf]; omega
      · obtain ⟨j, rfl⟩ : ∃ j : Nat, f = j := ⟨f.toNat, by omega⟩; have hjl : j < bs.length := by omega
        have jI : (j : Int) < bs.length := by omega
        have d0 := HC6.out j hjl; have hd : decide ((j : Int) < 0) = false := decide_eq_false hf; rw [Int.toNat_natCast] at HF2; generalize (bs.getD j noBlock).wear = wj at *; by_cases hw : we < wj
        · have HX := hid (show freshTo bs ⟨x, y, z⟩ (k + 1) = (k : Int) from by rw [HF2.out, if_pos (.inr hw)]); go_quiet (fail)
          go_wp2_with fail; go_roundw
          case rel => exact ⟨k + 1, by omega, by go_num, by rw [HX.out], K6.out, below_drewN HB6.out _⟩
          case measure => simp [intOf]; omega
        · have HX := hid (show freshTo bs ⟨x, y, z⟩ (k + 1) = (j : Int) from by rw [HF2.out, if_neg (by omega)]); go_quiet (fail)
          go_wp2_with fail; go_roundw
          case rel => exact ⟨k + 1, by omega, by go_num, by rw [HX.out], K6.out, below_drewN HB6.out _⟩
          case measure => simp [intOf]; omega
  · obtain rfl : k = bs.length := by omega
    go_wp2; go_ret
    exact ⟨rfl, HB3.out⟩
end Go.Proofs.YtefdjahaimnndaaGreatDoor
