/-
 bF 49 of the proof of Pb: the engine and the walks, in their order.
-/
import Derived.Test.YtlaefellhnkfbaaGreatPb35
import Derived.Test.YtlaefellhnkfbaaGreatPb48
set_option linter.unusedSimpArgs false
set_option linter.unusedVariables false
set_option maxRecDepth 10000
namespace Go.Proofs.YtlaefellhnkfbaaGreat.V
open Go.Eng Go.ChangeShapes Go.WideShapes Go.RowKit
theorem aiD {n : Int} (h : (Lit.int .i32 n).wf = true) : -2147483648 ≤ n ∧ n ≤ 2147483647 := by
 simpa [Lit.wf, IntKind.min, IntKind.max, IntKind.signed, IntKind.bits] using h
theorem oC : Tryz.prog.cellsOf 145 = 2 := by kernel_rfl
theorem zu : Tryz.prog.cellsOf 34 = 4 := by kernel_rfl
theorem zj : Tryz.prog.cellsOf 31 = 1 := by kernel_rfl
theorem agB : Tryz.prog.cellsOf 23 = 1 := by kernel_rfl
theorem jZ : Tryz.prog.cellsOf 5 = 1 := by kernel_rfl
theorem jf : Tryz.prog.cellsOf 30 = 1 := by kernel_rfl
theorem m6 : Tryz.prog.cellsOf 24 = 1 := by kernel_rfl
theorem yG : Tryz.prog.cellsOf 21 = 1 := by kernel_rfl
theorem aim : Tryz.prog.cellsOf 3 = 1 := by kernel_rfl
theorem yA : Tryz.prog.cellsOf 71 = 3 := by kernel_rfl
theorem rl : Tryz.prog.cellsOf 64 = 3 := by kernel_rfl
theorem rA : Tryz.prog.cellsOf 59 = 3 := by kernel_rfl
theorem zk : Tryz.prog.cellsOf 63 = 5 := by kernel_rfl
theorem yq : Tryz.prog.cellsOf 67 = 17 := by kernel_rfl
theorem agY : Tryz.prog.cellsOf 26 = 15 := by kernel_rfl
theorem cells75 : Tryz.prog.cellsOf 75 = 22 := by kernel_rfl
theorem afC : Tryz.prog.cellsOf 60 = 1 := by kernel_rfl
theorem agp : Tryz.prog.cellsOf 61 = 1 := by kernel_rfl
theorem agl : Tryz.prog.cellsOf 32 = 1 := by kernel_rfl
theorem aha : Tryz.prog.cellsOf 39 = 1 := by kernel_rfl
theorem ahh : Tryz.prog.cellsOf 40 = 1 := by kernel_rfl
theorem ahF : Tryz.prog.cellsOf 65 = 1 := by kernel_rfl
theorem ag1 : Tryz.prog.cellsOf 73 = 1 := by kernel_rfl
section
variable {H : Type} {enc : TypeId × Value → H} {w : World} {base : Nat} {sp : Nat → Bool} {held : Bool}
theorem lL {n : Nat} {cs : List Value} {x : DataW H × List MemPlace} (h : DataW.trod enc Tryz.prog w base sp held n 5 cs = some x) : ∃ g : UInt8, HVs w [.v (.int .u8 g.toNat)] noB cs ∧ True := by
 obtain ⟨i0, rfl, _, w0⟩ := DataW.trod_int Tryz.underlying5 h
 obtain ⟨k0, rfl⟩ := ahO w0
 exact ⟨k0, HVs.one (HV.plain rfl), trivial⟩
theorem pS {n : Nat} {cs : List Value} {x : DataW H × List MemPlace} (h : DataW.trod enc Tryz.prog w base sp held n 30 cs = some x) : ∃ g : UInt16, HVs w [.v (.int .u16 g.toNat)] noB cs ∧ True := by
 obtain ⟨i0, rfl, _, w0⟩ := DataW.trod_int Tryz.underlying30 h
 obtain ⟨k0, rfl⟩ := aiW w0
 exact ⟨k0, HVs.one (HV.plain rfl), trivial⟩
theorem zi {n : Nat} {cs : List Value} {x : DataW H × List MemPlace} (h : DataW.trod enc Tryz.prog w base sp held n 24 cs = some x) : ∃ g : UInt32, HVs w [.v (.int .u32 g.toNat)] noB cs ∧ True := by
 obtain ⟨i0, rfl, _, w0⟩ := DataW.trod_int Tryz.underlying24 h
 obtain ⟨k0, rfl⟩ := aiA w0
 exact ⟨k0, HVs.one (HV.plain rfl), trivial⟩
theorem adj {n : Nat} {cs : List Value} {x : DataW H × List MemPlace} (h : DataW.trod enc Tryz.prog w base sp held n 21 cs = some x) : ∃ g : Int, HVs w [.v (.int .i32 g)] noB cs ∧ (-2147483648 ≤ g ∧ g ≤ 2147483647) := by
 obtain ⟨i0, rfl, _, w0⟩ := DataW.trod_int Tryz.underlying21 h
 exact ⟨i0, HVs.one (HV.plain rfl), aiD w0⟩
theorem gN {n : Nat} {cs : List Value} {x : DataW H × List MemPlace} (h : DataW.trod enc Tryz.prog w base sp held n 3 cs = some x) : ∃ g : Int, HVs w [.v (.int .i64 g)] noB cs ∧ (-9223372036854775808 ≤ g ∧ g ≤ 9223372036854775807) := by
 obtain ⟨i0, rfl, _, w0⟩ := DataW.trod_int Tryz.underlying3 h
 exact ⟨i0, HVs.one (HV.plain rfl), ai_ w0⟩
theorem acf {n : Nat} {cs : List Value} {x : DataW H × List MemPlace} (h : DataW.trod enc Tryz.prog w base sp held n 145 cs = some x) : ∃ g : GSpan, HVs w (aP g) noB cs ∧ okS g := by
 obtain ⟨y0, y1, m, _, hl, h0, h1⟩ := Eng.trod_struct2 Tryz.underlying145 h
 rw [oC] at hl
 simp only [yG] at h0 h1
 match cs, hl with
 | [a0, a1], _ =>
  obtain ⟨g0, e0, r0⟩ := adj h0
  obtain ⟨g1, e1, r1⟩ := adj h1
  exact ⟨⟨g0, g1⟩, HVs.append e0 e1, ⟨r0.1, r0.2, r1.1, r1.2⟩⟩
theorem ur {n : Nat} {cs : List Value} {x : DataW H × List MemPlace} (h : DataW.trod enc Tryz.prog w base sp held n 31 cs = some x) : ∃ l : List GSpan, HVs w [.fz 2 (l.map aP)] noB cs ∧ ((∀ g ∈ l, okS g) ∧ l.length ≤ 9223372036854775807) := by
 obtain ⟨l, h1, h2, h3⟩ := bW (R := fun g => okS g) (encα := aP) Tryz.underlying31 oC (by omega) (fun _ => rfl) (fun _ => rfl) (fun n cs x h => acf h) h
 exact ⟨l, h1, h2, h3⟩
theorem ade {n : Nat} {cs : List Value} {x : DataW H × List MemPlace} (h : DataW.trod enc Tryz.prog w base sp held n 23 cs = some x) : ∃ l : List GSpan, HVs w [.fz 2 (l.map aP)] noB cs ∧ ((∀ g ∈ l, okS g) ∧ l.length ≤ 9223372036854775807) := by
 obtain ⟨l, h1, h2, h3⟩ := bW (R := fun g => okS g) (encα := aP) Tryz.underlying23 oC (by omega) (fun _ => rfl) (fun _ => rfl) (fun n cs x h => acf h) h
 exact ⟨l, h1, h2, h3⟩
theorem ai3 {n : Nat} {cs : List Value} {x : DataW H × List MemPlace} (h : DataW.trod enc Tryz.prog w base sp held n 34 cs = some x) : ∃ g : GDesc, HVs w (ah g) noB cs ∧ ((∀ s ∈ g.filter, okS s) ∧ g.filter.length ≤ 9223372036854775807) := by
 obtain ⟨y0, y1, y2, y3, m, _, hl, h0, h1, h2, h3⟩ := Eng.trod_struct4 Tryz.underlying34 h
 rw [zu] at hl
 simp only [jZ, jf, zj] at h0 h1 h2 h3
 match cs, hl with
 | [a0, a1, a2, a3], _ =>
  obtain ⟨g0, e0, r0⟩ := lL h0
  obtain ⟨g1, e1, r1⟩ := pS h1
  obtain ⟨g2, e2, r2⟩ := lL h2
  obtain ⟨g3, e3, r3⟩ := ur h3
  exact ⟨⟨g0, g1, g2, g3⟩, HVs.append e0 (HVs.append e1 (HVs.append e2 e3)), r3⟩
theorem afm {n : Nat} {cs : List Value} {x : DataW H × List MemPlace} (h : DataW.trod enc Tryz.prog w base sp held n 71 cs = some x) : ∃ g : am, HVs w (aI g) noB cs ∧ True := by
 obtain ⟨y0, y1, y2, m, _, hl, h0, h1, h2⟩ := Eng.trod_struct3 Tryz.underlying71 h
 rw [yA] at hl
 simp only [jf, jZ] at h0 h1 h2
 match cs, hl with
 | [a0, a1, a2], _ =>
  obtain ⟨g0, e0, r0⟩ := pS h0
  obtain ⟨g1, e1, r1⟩ := lL h1
  obtain ⟨g2, e2, r2⟩ := lL h2
  exact ⟨⟨g0, g1, g2⟩, HVs.append e0 (HVs.append e1 e2), trivial⟩
theorem aco {n : Nat} {cs : List Value} {x : DataW H × List MemPlace} (h : DataW.trod enc Tryz.prog w base sp held n 64 cs = some x) : ∃ g : da, HVs w (bn g) noB cs ∧ True := by
 obtain ⟨y0, y1, y2, m, _, hl, h0, h1, h2⟩ := Eng.trod_struct3 Tryz.underlying64 h
 rw [rl] at hl
 simp only [jZ, jf, m6] at h0 h1 h2
 match cs, hl with
 | [a0, a1, a2], _ =>
  obtain ⟨g0, e0, r0⟩ := lL h0
  obtain ⟨g1, e1, r1⟩ := pS h1
  obtain ⟨g2, e2, r2⟩ := zi h2
  exact ⟨⟨g0, g1, g2⟩, HVs.append e0 (HVs.append e1 e2), trivial⟩
theorem akk {n : Nat} {cs : List Value} {x : DataW H × List MemPlace} (h : DataW.trod enc Tryz.prog w base sp held n 59 cs = some x) : ∃ g : GID, HVs w (zl g) noB cs ∧ True := by
 obtain ⟨y0, y1, y2, m, _, hl, h0, h1, h2⟩ := Eng.trod_struct3 Tryz.underlying59 h
 rw [rA] at hl
 simp only [jZ, jf, m6] at h0 h1 h2
 match cs, hl with
 | [a0, a1, a2], _ =>
  obtain ⟨g0, e0, r0⟩ := lL h0
  obtain ⟨g1, e1, r1⟩ := pS h1
  obtain ⟨g2, e2, r2⟩ := zi h2
  exact ⟨⟨g0, g1, g2⟩, HVs.append e0 (HVs.append e1 e2), trivial⟩
theorem aji {n : Nat} {cs : List Value} {x : DataW H × List MemPlace} (h : DataW.trod enc Tryz.prog w base sp held n 21 cs = some x) : ∃ g : Int, HVs w (ey g) noB cs ∧ (-2147483648 ≤ g ∧ g ≤ 2147483647) := adj h
theorem akX {n : Nat} {cs : List Value} {x : DataW H × List MemPlace} (h : DataW.trod enc Tryz.prog w base sp held n 5 cs = some x) : ∃ g : UInt8, HVs w (aU g) noB cs ∧ True := lL h
theorem ai6 {n : Nat} {cs : List Value} {x : DataW H × List MemPlace} (h : DataW.trod enc Tryz.prog w base sp held n 24 cs = some x) : ∃ g : UInt32, HVs w (aW g) noB cs ∧ True := zi h
theorem ait {n : Nat} {cs : List Value} {x : DataW H × List MemPlace} (h : DataW.trod enc Tryz.prog w base sp held n 60 cs = some x) : ∃ l : List Int, HVs w [.fz 1 (l.map ey)] noB cs ∧ ((∀ g ∈ l, -2147483648 ≤ g ∧ g ≤ 2147483647) ∧ l.length ≤ 9223372036854775807) := by
 obtain ⟨l, h1, h2, h3⟩ := bW (R := fun g => -2147483648 ≤ g ∧ g ≤ 2147483647) (encα := ey) Tryz.underlying60 yG (by omega) (fun _ => rfl) (fun _ => rfl) (fun n cs x h => aji h) h
 exact ⟨l, h1, h2, h3⟩
theorem alL {n : Nat} {cs : List Value} {x : DataW H × List MemPlace} (h : DataW.trod enc Tryz.prog w base sp held n 61 cs = some x) : ∃ l : List UInt8, HVs w [.fz 1 (l.map aU)] noB cs ∧ ((∀ g ∈ l, True) ∧ l.length ≤ 9223372036854775807) := by
 obtain ⟨l, h1, h2, h3⟩ := bW (R := fun g => True) (encα := aU) Tryz.underlying61 jZ (by omega) (fun _ => rfl) (fun _ => rfl) (fun n cs x h => akX h) h
 exact ⟨l, h1, h2, h3⟩
theorem aiR {n : Nat} {cs : List Value} {x : DataW H × List MemPlace} (h : DataW.trod enc Tryz.prog w base sp held n 73 cs = some x) : ∃ l : List UInt32, HVs w [.fz 1 (l.map aW)] noB cs ∧ ((∀ g ∈ l, True) ∧ l.length ≤ 9223372036854775807) := by
 obtain ⟨l, h1, h2, h3⟩ := bW (R := fun g => True) (encα := aW) Tryz.underlying73 m6 (by omega) (fun _ => rfl) (fun _ => rfl) (fun n cs x h => ai6 h) h
 exact ⟨l, h1, h2, h3⟩
theorem af8 {n : Nat} {cs : List Value} {x : DataW H × List MemPlace} (h : DataW.trod enc Tryz.prog w base sp held n 32 cs = some x) : ∃ l : List GDesc, HVs w [.fz 4 (l.map ah)] noB cs ∧ ((∀ g ∈ l, (∀ s ∈ g.filter, okS s) ∧ g.filter.length ≤ 9223372036854775807) ∧ l.length ≤ 9223372036854775807) := by
 obtain ⟨l, h1, h2, h3⟩ := bW (R := fun g => (∀ s ∈ g.filter, okS s) ∧ g.filter.length ≤ 9223372036854775807) (encα := ah) Tryz.underlying32 zu (by omega) (fun _ => rfl) (fun _ => rfl) (fun n cs x h => ai3 h) h
 exact ⟨l, h1, h2, h3⟩
theorem aa6 {n : Nat} {cs : List Value} {x : DataW H × List MemPlace} (h : DataW.trod enc Tryz.prog w base sp held n 39 cs = some x) : ∃ l : List am, HVs w [.fz 3 (l.map aI)] noB cs ∧ ((∀ g ∈ l, True) ∧ l.length ≤ 9223372036854775807) := by
 obtain ⟨l, h1, h2, h3⟩ := bW (R := fun g => True) (encα := aI) Tryz.underlying39 yA (by omega) (fun _ => rfl) (fun _ => rfl) (fun n cs x h => afm h) h
 exact ⟨l, h1, h2, h3⟩
theorem ahd {n : Nat} {cs : List Value} {x : DataW H × List MemPlace} (h : DataW.trod enc Tryz.prog w base sp held n 40 cs = some x) : ∃ l : List da, HVs w [.fz 3 (l.map bn)] noB cs ∧ ((∀ g ∈ l, True) ∧ l.length ≤ 9223372036854775807) := by
 obtain ⟨l, h1, h2, h3⟩ := bW (R := fun g => True) (encα := bn) Tryz.underlying40 rl (by omega) (fun _ => rfl) (fun _ => rfl) (fun n cs x h => aco h) h
 exact ⟨l, h1, h2, h3⟩
theorem aj0 {n : Nat} {cs : List Value} {x : DataW H × List MemPlace} (h : DataW.trod enc Tryz.prog w base sp held n 65 cs = some x) : ∃ l : List GID, HVs w [.fz 3 (l.map zl)] noB cs ∧ ((∀ g ∈ l, True) ∧ l.length ≤ 9223372036854775807) := by
 obtain ⟨l, h1, h2, h3⟩ := bW (R := fun g => True) (encα := zl) Tryz.underlying65 rA (by omega) (fun _ => rfl) (fun _ => rfl) (fun n cs x h => akk h) h
 exact ⟨l, h1, h2, h3⟩
theorem af5 {n : Nat} {cs : List Value} {x : DataW H × List MemPlace} (h : DataW.trod enc Tryz.prog w base sp held n 63 cs = some x) : ∃ g : abA, HVs w (bm g) noB cs ∧ (g.vals.length ≤ 9223372036854775807 ∧ g.data.length ≤ 9223372036854775807) := by
 obtain ⟨y0, y1, y2, m, _, hl, h0, h1, h2⟩ := Eng.trod_struct3 Tryz.underlying63 h
 rw [zk] at hl
 simp only [rA, afC, agp] at h0 h1 h2
 match cs, hl with
 | [a0, a1, a2, a3, a4], _ =>
  obtain ⟨g0, e0, r0⟩ := akk h0
  obtain ⟨g1, e1, r1⟩ := ait h1
  obtain ⟨g2, e2, r2⟩ := alL h2
  exact ⟨⟨g0, g1, g2⟩, HVs.append e0 (HVs.append e1 e2), ⟨r1.2, r2.2⟩⟩
theorem alu {n : Nat} {cs : List Value} {x : DataW H × List MemPlace} (h : DataW.trod enc Tryz.prog w base sp held n 67 cs = some x) : ∃ g : aY, HVs w (ar g) noB cs ∧ ((∀ d ∈ g.list, (∀ s ∈ d.filter, okS s) ∧ d.filter.length ≤ 9223372036854775807) ∧ g.list.length ≤ 9223372036854775807 ∧ g.table.length ≤ 9223372036854775807) := by
 obtain ⟨y0, y1, y2, y3, y4, y5, y6, y7, y8, y9, y10, m, hl, h0, h1, h2, h3, h4, h5, h6, h7, h8, h9, h10⟩ := Eng.trod_struct11 Tryz.underlying67 h
 rw [yq] at hl
 simp only [jZ, jf, agl, aha, zk, rl, ahh, ahF] at h0 h1 h2 h3 h4 h5 h6 h7 h8 h9 h10
 match cs, hl with
 | [a0, a1, a2, a3, a4, a5, a6, a7, a8, a9, a10, a11, a12, a13, a14, a15, a16], _ =>
  obtain ⟨g0, e0, r0⟩ := lL h0
  obtain ⟨g1, e1, r1⟩ := lL h1
  obtain ⟨g2, e2, r2⟩ := pS h2
  obtain ⟨g3, e3, r3⟩ := lL h3
  obtain ⟨g4, e4, r4⟩ := af8 h4
  obtain ⟨g5, e5, r5⟩ := aa6 h5
  obtain ⟨g6, e6, r6⟩ := af5 h6
  obtain ⟨g7, e7, r7⟩ := lL h7
  obtain ⟨g8, e8, r8⟩ := aco h8
  obtain ⟨g9, e9, r9⟩ := ahd h9
  obtain ⟨g10, e10, r10⟩ := aj0 h10
  exact ⟨⟨g0, g1, g2, g3, g4, g5, g6, g7, g8, g9, g10⟩, HVs.append e0 (HVs.append e1 (HVs.append e2 (HVs.append e3 (HVs.append e4 (HVs.append e5 (HVs.append e6 (HVs.append e7 (HVs.append e8 (HVs.append e9 e10))))))))), ⟨r4.1, r4.2, r5.2⟩⟩
theorem op_r {n : Nat} {cs : List Value} {x : DataW H × List MemPlace} (h : DataW.trod enc Tryz.prog w base sp held n 75 cs = some x) : ∃ g : GOp, HVs w (encOp g) noB cs ∧ ((∀ d ∈ g.m.list, (∀ s ∈ d.filter, okS s) ∧ d.filter.length ≤ 9223372036854775807) ∧ g.m.list.length ≤ 9223372036854775807 ∧ g.m.table.length ≤ 9223372036854775807 ∧ (∀ s ∈ g.filter, okS s) ∧ g.filter.length ≤ 9223372036854775807) := by
 obtain ⟨y0, y1, y2, y3, y4, y5, m, hl, h0, h1, h2, h3, h4, h5⟩ := Eng.trod_struct6 Tryz.underlying75 h
 rw [cells75] at hl
 simp only [jZ, jf, zj, yq, ag1] at h0 h1 h2 h3 h4 h5
 match cs, hl with
 | [a0, a1, a2, a3, a4, a5, a6, a7, a8, a9, a10, a11, a12, a13, a14, a15, a16, a17, a18, a19, a20, a21], _ =>
  obtain ⟨g0, e0, r0⟩ := lL h0
  obtain ⟨g1, e1, r1⟩ := lL h1
  obtain ⟨g2, e2, r2⟩ := pS h2
  obtain ⟨g3, e3, r3⟩ := ur h3
  obtain ⟨g4, e4, r4⟩ := alu h4
  obtain ⟨g5, e5, r5⟩ := aiR h5
  exact ⟨⟨g0, g1, g2, g3, g4, g5⟩, HVs.append e0 (HVs.append e1 (HVs.append e2 (HVs.append e3 (HVs.append e4 e5)))), ⟨r4.1, r4.2.1, r4.2.2, r3.1, r3.2⟩⟩
theorem ais {n : Nat} {cs : List Value} {x : DataW H × List MemPlace} (h : DataW.trod enc Tryz.prog w base sp held n 26 cs = some x) : ∃ g : av, HVs w (aE g) noB cs ∧ ((∀ s ∈ g.schema, okS s) ∧ g.schema.length ≤ 9223372036854775807) := by
 obtain ⟨y0, y1, y2, y3, y4, y5, y6, y7, y8, y9, y10, y11, y12, y13, y14, m, hl, h0, h1, h2, h3, h4, h5, h6, h7, h8, h9, h10, h11, h12, h13, h14⟩ := Eng.trod_struct15 Tryz.underlying26 h
 rw [agY] at hl
 simp only [aim, agB, m6] at h0 h1 h2 h3 h4 h5 h6 h7 h8 h9 h10 h11 h12 h13 h14
 match cs, hl with
 | [a0, a1, a2, a3, a4, a5, a6, a7, a8, a9, a10, a11, a12, a13, a14], _ =>
  obtain ⟨g0, e0, r0⟩ := gN h0
  obtain ⟨g1, e1, r1⟩ := ade h1
  obtain ⟨g2, e2, r2⟩ := gN h2
  obtain ⟨g3, e3, r3⟩ := gN h3
  obtain ⟨g4, e4, r4⟩ := gN h4
  obtain ⟨g5, e5, r5⟩ := gN h5
  obtain ⟨g6, e6, r6⟩ := gN h6
  obtain ⟨g7, e7, r7⟩ := gN h7
  obtain ⟨g8, e8, r8⟩ := gN h8
  obtain ⟨g9, e9, r9⟩ := gN h9
  obtain ⟨g10, e10, r10⟩ := gN h10
  obtain ⟨g11, e11, r11⟩ := gN h11
  obtain ⟨g12, e12, r12⟩ := gN h12
  obtain ⟨g13, e13, r13⟩ := gN h13
  obtain ⟨g14, e14, r14⟩ := zi h14
  exact ⟨⟨g0, g1, g2, g3, g4, g5, g6, g7, g8, g9, g10, g11, g12, g13, g14⟩, HVs.append e0 (HVs.append e1 (HVs.append e2 (HVs.append e3 (HVs.append e4 (HVs.append e5 (HVs.append e6 (HVs.append e7 (HVs.append e8 (HVs.append e9 (HVs.append e10 (HVs.append e11 (HVs.append e12 (HVs.append e13 e14))))))))))))), r1⟩
theorem conf_arg {v : Value} {d : DataW H} {ps : List MemPlace} {b0 : Nat} (hval : Value.okWide Tryz.prog w .any b0 26 v) (h : DataW.Trod enc Tryz.prog w base sp held 26 v d ps) :
  ∃ g : av, HV w (.agg (aE g)) noB v ∧ ((∀ s ∈ g.schema, okS s) ∧ g.schema.length ≤ 9223372036854775807) := by
 obtain ⟨n, hn⟩ := h
 obtain ⟨g, h1, h2⟩ := ais hn
 exact ⟨g, rq Tryz.underlying26 hval h1, h2⟩
end
end Go.Proofs.YtlaefellhnkfbaaGreat.V
