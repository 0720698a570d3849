/- Disks: how they read, how they are owned. No condition. -/
import Derived.Test.YtjnpgdhpneifjaaNamLaw
namespace Go.Proofs.Ytjnpgdhpneifjaa
open Go.ChangeShapes Go.WideShapes Go.ChangeAt Go.RowKit Go.Deep
set_option linter.unusedVariables false
set_option linter.unusedSimpArgs false

structure DiskV where
  bs : List BlockV
  ts : List (List Int)
  hot : Int
  warm : Int
  cold : Int
  stamp : Int
  ns : List NameV
/-- where the three slices of a disk lie -/
structure DH where
  bA : Option Addr
  bn : Nat
  bc : Nat
  tA : Option Addr
  tn : Nat
  tc : Nat
  nA : Option Addr
  nn : Nat
  nc : Nat
abbrev dkv (h : DH) (d : DiskV) : Value := .agg #[.slice h.bA h.bn h.bc, .slice h.tA h.tn h.tc, .int .i64 d.hot, .int .i64 d.warm, .int .i64 d.cold, .int .i64 d.stamp, .slice h.nA h.nn h.nc]
structure RdD (w : World) (B : Nat) (h : DH) (d : DiskV) : Prop where
  b : RdB w B h.bA h.bn d.bs
  t : RdT w B h.tA h.tn d.ts
  n : RdN w B h.nA h.nn d.ns
theorem RdD.mono {w B B' h d} (r : RdD w B h d) (hB : B ≤ B') : RdD w B' h d := ⟨r.b.mono hB, r.t.mono hB, r.n.mono hB⟩
theorem RdD.below {w w' B h d} (r : RdD w B h d) (hb : Below B w w') : RdD w' B h d := ⟨r.b.below hb, r.t.below hb, r.n.below hb⟩
theorem RdD.drew {w B h d} (r : RdD w B h d) : RdD w.drew B h d := ⟨r.b.drew, r.t.drew, r.n.drew⟩
structure OwD (w : World) (base : Nat) (h : DH) (d : DiskV) : Prop where
  b : OwB w base h.bA h.bn h.bc d.bs
  t : OwT w base h.tA h.tn h.tc d.ts
  n : OwN w base h.nA h.nn h.nc d.ns
theorem OwD.below {w w' base h d} (r : OwD w base h d) (hb : Below w.heap.size w w') : OwD w' base h d := ⟨r.b.below hb, r.t.below hb, r.n.below hb⟩
theorem OwD.lower {w base base' h d} (r : OwD w base h d) (hb : base' ≤ base) : OwD w base' h d := ⟨r.b.lower hb, r.t.lower hb, r.n.lower hb⟩
theorem OwD.rd {w base h d} (r : OwD w base h d) : RdD w w.heap.size h d := ⟨r.b.rd, r.t.rd, r.n.rd⟩
theorem OwD.typed {ts : List Nat} {w w' base h d} (r : OwD w base h d) (hc : ChgT ts w w') (h1 : 67 ∉ ts) (h2 : 102 ∉ ts) (h3 : 76 ∉ ts) (h4 : 3 ∉ ts) (h5 : 90 ∉ ts) : OwD w' base h d :=
  ⟨r.b.typed hc h1 h2, r.t.typed hc h3 h4, r.n.typed hc h5⟩
/-- sizes of a disk that the laws let in -/
structure SmallD (h : DH) (d : DiskV) : Prop where
  b : h.bn ≤ 1048576
  t : h.tn ≤ 1048576
  n : h.nn ≤ 1048576
  bs : SmallB d.bs h.bn 1048576
  ts : SmallT d.ts h.tn 1048576
  ns : SmallN d.ns h.nn 1048576
/-- the same sizes, said of the disk alone -/
structure SmallDV (d : DiskV) : Prop where
  b : d.bs.length ≤ 1048576
  t : d.ts.length ≤ 1048576
  n : d.ns.length ≤ 1048576
  bs : SmallB d.bs d.bs.length 1048576
  ts : SmallT d.ts d.ts.length 1048576
  ns : SmallN d.ns d.ns.length 1048576
theorem SmallD.v {w B h d} (s : SmallD h d) (r : RdD w B h d) : SmallDV d := by
  have e1 := r.b.len
  have e2 := r.t.len
  have e3 := r.n.len
  exact ⟨by rw [e1]; exact s.b, by rw [e2]; exact s.t, by rw [e3]; exact s.n, by rw [e1]; exact s.bs, by rw [e2]; exact s.ts, by rw [e3]; exact s.ns⟩
theorem SmallDV.h {w B h d} (s : SmallDV d) (r : RdD w B h d) : SmallD h d := by
  have e1 := r.b.len
  have e2 := r.t.len
  have e3 := r.n.len
  exact ⟨by rw [← e1]; exact s.b, by rw [← e2]; exact s.t, by rw [← e3]; exact s.n, by rw [← e1]; exact s.bs, by rw [← e2]; exact s.ts, by rw [← e3]; exact s.ns⟩
/-- the seven cells of a disk stored -/
abbrev putDisk (w : World) (g : Nat) (h : DH) (d : DiskV) : World :=
  ((((((w.setCell ⟨g, 0, none⟩ (.slice h.bA h.bn h.bc)).setCell ⟨g, 1, none⟩ (.slice h.tA h.tn h.tc)).setCell ⟨g, 2, none⟩ (.int .i64 d.hot)).setCell ⟨g, 3, none⟩ (.int .i64 d.warm)).setCell ⟨g, 4, none⟩ (.int .i64 d.cold)).setCell ⟨g, 5, none⟩ (.int .i64 d.stamp)).setCell ⟨g, 6, none⟩ (.slice h.nA h.nn h.nc)
/-- a box of a disk known whole -/
abbrev BoxD (w : World) (g : Nat) (h : DH) (d : DiskV) : Prop := Blk w g 42 #[.slice h.bA h.bn h.bc, .slice h.tA h.tn h.tc, .int .i64 d.hot, .int .i64 d.warm, .int .i64 d.cold, .int .i64 d.stamp, .slice h.nA h.nn h.nc]
theorem blk_putDisk {w : World} {g : Nat} {v0 v1 v2 v3 v4 v5 v6 : Value} (k : Blk w g 42 #[v0, v1, v2, v3, v4, v5, v6]) (h : DH) (d : DiskV) : BoxD (putDisk w g h d) g h d ∧ ChgT [42] w (putDisk w g h d) := by
  have k0 := k.set_ 0 (.slice h.bA h.bn h.bc)
  have k1 := k0.set_ 1 (.slice h.tA h.tn h.tc)
  have k2 := k1.set_ 2 (.int .i64 d.hot)
  have k3 := k2.set_ 3 (.int .i64 d.warm)
  have k4 := k3.set_ 4 (.int .i64 d.cold)
  have k5 := k4.set_ 5 (.int .i64 d.stamp)
  have k6 := k5.set_ 6 (.slice h.nA h.nn h.nc)
  exact ⟨by simpa using k6, ((((((ChgT.blk k 0 _).trans (ChgT.blk k0 1 _)).trans (ChgT.blk k1 2 _)).trans (ChgT.blk k2 3 _)).trans (ChgT.blk k3 4 _)).trans (ChgT.blk k4 5 _)).trans (ChgT.blk k5 6 _)⟩
theorem below_putDisk {w0 w : World} {B g : Nat} (hb : Below B w0 w) (hg : B ≤ g) (h : DH) (d : DiskV) : Below B w0 (putDisk w g h d) :=
  ((((((hb.setCell (p := ⟨g, 0, none⟩) hg _).setCell (p := ⟨g, 1, none⟩) hg _).setCell (p := ⟨g, 2, none⟩) hg _).setCell (p := ⟨g, 3, none⟩) hg _).setCell (p := ⟨g, 4, none⟩) hg _).setCell (p := ⟨g, 5, none⟩) hg _).setCell (p := ⟨g, 6, none⟩) hg _
/-- the cells of a disk's box -/
theorem BoxD.all {w g h d} (k : BoxD w g h d) : w.cell? ⟨g, 0, none⟩ = some (.slice h.bA h.bn h.bc) ∧ w.cell? ⟨g, 1, none⟩ = some (.slice h.tA h.tn h.tc) ∧ w.cell? ⟨g, 2, none⟩ = some (.int .i64 d.hot) ∧ w.cell? ⟨g, 3, none⟩ = some (.int .i64 d.warm) ∧ w.cell? ⟨g, 4, none⟩ = some (.int .i64 d.cold) ∧ w.cell? ⟨g, 5, none⟩ = some (.int .i64 d.stamp) ∧ w.cell? ⟨g, 6, none⟩ = some (.slice h.nA h.nn h.nc) :=
  ⟨Blk.cell k 0, Blk.cell k 1, Blk.cell k 2, Blk.cell k 3, Blk.cell k 4, Blk.cell k 5, Blk.cell k 6⟩
theorem Blk.free7 {w g t cs} (k : Blk w g t cs) : w.frozen? ⟨g, 0, none⟩ = false ∧ w.frozen? ⟨g, 1, none⟩ = false ∧ w.frozen? ⟨g, 2, none⟩ = false ∧ w.frozen? ⟨g, 3, none⟩ = false ∧ w.frozen? ⟨g, 4, none⟩ = false ∧ w.frozen? ⟨g, 5, none⟩ = false ∧ w.frozen? ⟨g, 6, none⟩ = false :=
  ⟨k.frozen 0, k.frozen 1, k.frozen 2, k.frozen 3, k.frozen 4, k.frozen 5, k.frozen 6⟩
/-- the cells of a block of seven known whole -/
theorem Blk.all7 {w g t} {v0 v1 v2 v3 v4 v5 v6 : Value} (k : Blk w g t #[v0, v1, v2, v3, v4, v5, v6]) : w.cell? ⟨g, 0, none⟩ = some v0 ∧ w.cell? ⟨g, 1, none⟩ = some v1 ∧ w.cell? ⟨g, 2, none⟩ = some v2 ∧ w.cell? ⟨g, 3, none⟩ = some v3 ∧ w.cell? ⟨g, 4, none⟩ = some v4 ∧ w.cell? ⟨g, 5, none⟩ = some v5 ∧ w.cell? ⟨g, 6, none⟩ = some v6 :=
  ⟨k.cell 0, k.cell 1, k.cell 2, k.cell 3, k.cell 4, k.cell 5, k.cell 6⟩
theorem OwD.put {w base h d g} {v0 v1 v2 v3 v4 v5 v6 : Value} (o : OwD w base h d) (k : Blk w g 42 #[v0, v1, v2, v3, v4, v5, v6]) (h' : DH) (d' : DiskV) : OwD (putDisk w g h' d') base h d :=
  o.typed (blk_putDisk k h' d').2 (by decide) (by decide) (by decide) (by decide) (by decide)
end Go.Proofs.Ytjnpgdhpneifjaa
