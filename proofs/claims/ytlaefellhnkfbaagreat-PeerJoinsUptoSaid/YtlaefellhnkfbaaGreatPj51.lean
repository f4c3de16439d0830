/-
 Part 51 of the proof of Pj: the engine and the walks, in their order.
-/
import Derived.Test.YtlaefellhnkfbaaGreatPj35
import Derived.Test.YtlaefellhnkfbaaGreatPj50
set_option linter.unusedSimpArgs false
set_option linter.unusedVariables false
set_option maxRecDepth 10000
namespace Go.Proofs.YtlaefellhnkfbaaGreat.V
open Go.Eng Go.ChangeShapes Go.WideShapes Go.RowKit
theorem akK {n : Int} (h : (Lit.int .i32 n).wf = true) : -2147483648 ≤ n ∧ n ≤ 2147483647 := by
 simpa [Lit.wf, IntKind.min, IntKind.max, IntKind.signed, IntKind.bits] using h
theorem pz : Tryz.prog.cellsOf 145 = 2 := by kernel_rfl
theorem aab : Tryz.prog.cellsOf 34 = 4 := by kernel_rfl
theorem zX : Tryz.prog.cellsOf 31 = 1 := by kernel_rfl
theorem ahm : Tryz.prog.cellsOf 23 = 1 := by kernel_rfl
theorem kD : Tryz.prog.cellsOf 5 = 1 := by kernel_rfl
theorem jE : Tryz.prog.cellsOf 30 = 1 := by kernel_rfl
theorem nW : Tryz.prog.cellsOf 24 = 1 := by kernel_rfl
theorem aaf : Tryz.prog.cellsOf 21 = 1 := by kernel_rfl
theorem ake : Tryz.prog.cellsOf 3 = 1 := by kernel_rfl
theorem z6 : Tryz.prog.cellsOf 71 = 3 := by kernel_rfl
theorem tq : Tryz.prog.cellsOf 64 = 3 := by kernel_rfl
theorem sZ : Tryz.prog.cellsOf 59 = 3 := by kernel_rfl
theorem aaH : Tryz.prog.cellsOf 63 = 5 := by kernel_rfl
theorem aar : Tryz.prog.cellsOf 67 = 17 := by kernel_rfl
theorem aje : Tryz.prog.cellsOf 26 = 15 := by kernel_rfl
theorem aaO : Tryz.prog.cellsOf 75 = 22 := by kernel_rfl
theorem ahk : Tryz.prog.cellsOf 60 = 1 := by kernel_rfl
theorem ag7 : Tryz.prog.cellsOf 61 = 1 := by kernel_rfl
theorem aiX : Tryz.prog.cellsOf 32 = 1 := by kernel_rfl
theorem ahY : Tryz.prog.cellsOf 39 = 1 := by kernel_rfl
theorem aiF : Tryz.prog.cellsOf 40 = 1 := by kernel_rfl
theorem aiW : Tryz.prog.cellsOf 65 = 1 := by kernel_rfl
theorem ahr : Tryz.prog.cellsOf 73 = 1 := by kernel_rfl
section
variable {H : Type} {enc : TypeId × Value → H} {w : World} {base : Nat} {sp : Nat → Bool} {held : Bool}
def Bk {H : Type} (d : DataW H) : Prop := Rows.uptoBulk d ≤ 1048576
theorem akq {H : Type} (d : DataW H) : 1 ≤ Rows.uptoBulk d := by
 cases d with
 | lit l => cases l <;> simp [Rows.uptoBulk]
 | nil => simp [Rows.uptoBulk]
 | ptr d => simp [Rows.uptoBulk]
 | slice elems spare => simp [Rows.uptoBulk]
 | agg parts => simp [Rows.uptoBulk]
 | iface t d => simp [Rows.uptoBulk]
 | map entries => simp [Rows.uptoBulk]
 | held h => simp [Rows.uptoBulk]
theorem bk_part {H : Type} {d : DataW H} : ∀ {l : List (DataW H)}, d ∈ l → Rows.uptoBulk d ≤ Rows.uptoBulkAll l
 | x :: r, h => by
  simp only [Rows.uptoBulkAll]
  cases List.mem_cons.1 h with
  | inl e => subst e; omega
  | inr e => have := bk_part e; omega
theorem afy {H : Type} : ∀ (l : List (DataW H)), l.length ≤ Rows.uptoBulkAll l
 | [] => Nat.zero_le _
 | x :: r => by have := akq x; have := afy r; simp only [Rows.uptoBulkAll, List.length_cons]; omega
theorem df (H : Type) : Sml (Bk (H := H)) 1048576 := ⟨fun ds h d hd => by have := bk_part hd; simp only [Bk, Rows.uptoBulk] at h ⊢; omega,
 fun es sp h => by have := afy es; simp only [Bk, Rows.uptoBulk] at h; exact ⟨fun d hd => by have := bk_part hd; simp only [Bk]; omega, by omega⟩⟩
theorem l6 {n : Nat} {cs : List Value} {x : DataW H × List MemPlace} (hb : Bk x.1) (h : DataW.trod enc Tryz.prog w base sp held n 5 cs = some x) : ∃ g : UInt8, HVs w [.v (.int .u8 g.toNat)] noB cs ∧ True := by
 obtain ⟨i0, rfl, _, w0⟩ := DataW.trod_int Tryz.underlying5 h
 obtain ⟨k0, rfl⟩ := afw w0
 exact ⟨k0, HVs.one (HV.plain rfl), trivial⟩
theorem qM {n : Nat} {cs : List Value} {x : DataW H × List MemPlace} (hb : Bk x.1) (h : DataW.trod enc Tryz.prog w base sp held n 30 cs = some x) : ∃ g : UInt16, HVs w [.v (.int .u16 g.toNat)] noB cs ∧ True := by
 obtain ⟨i0, rfl, _, w0⟩ := DataW.trod_int Tryz.underlying30 h
 obtain ⟨k0, rfl⟩ := akZ w0
 exact ⟨k0, HVs.one (HV.plain rfl), trivial⟩
theorem aai {n : Nat} {cs : List Value} {x : DataW H × List MemPlace} (hb : Bk x.1) (h : DataW.trod enc Tryz.prog w base sp held n 24 cs = some x) : ∃ g : UInt32, HVs w [.v (.int .u32 g.toNat)] noB cs ∧ True := by
 obtain ⟨i0, rfl, _, w0⟩ := DataW.trod_int Tryz.underlying24 h
 obtain ⟨k0, rfl⟩ := akL w0
 exact ⟨k0, HVs.one (HV.plain rfl), trivial⟩
theorem ag5 {n : Nat} {cs : List Value} {x : DataW H × List MemPlace} (hb : Bk x.1) (h : DataW.trod enc Tryz.prog w base sp held n 21 cs = some x) : ∃ g : Int, HVs w [.v (.int .i32 g)] noB cs ∧ (-2147483648 ≤ g ∧ g ≤ 2147483647) := by
 obtain ⟨i0, rfl, _, w0⟩ := DataW.trod_int Tryz.underlying21 h
 exact ⟨i0, HVs.one (HV.plain rfl), akK w0⟩
theorem ib {n : Nat} {cs : List Value} {x : DataW H × List MemPlace} (hb : Bk x.1) (h : DataW.trod enc Tryz.prog w base sp held n 3 cs = some x) : ∃ g : Int, HVs w [.v (.int .i64 g)] noB cs ∧ (-9223372036854775808 ≤ g ∧ g ≤ 9223372036854775807) := by
 obtain ⟨i0, rfl, _, w0⟩ := DataW.trod_int Tryz.underlying3 h
 exact ⟨i0, HVs.one (HV.plain rfl), akd w0⟩
theorem adF {n : Nat} {cs : List Value} {x : DataW H × List MemPlace} (hb : Bk x.1) (h : DataW.trod enc Tryz.prog w base sp held n 145 cs = some x) : ∃ g : GSpan, HVs w (aU g) noB cs ∧ okS g := by
 obtain ⟨hl, hf⟩ := cj (df H) Tryz.underlying145 hb h
 rw [pz] at hl
 obtain ⟨y0, n0, h0, b0⟩ := hf 0
 obtain ⟨y1, n1, h1, b1⟩ := hf 1
 simp only [aaf] at h0 h1
 match cs, hl with
 | [a0, a1], _ =>
  obtain ⟨g0, e0, r0⟩ := ag5 b0 h0
  obtain ⟨g1, e1, r1⟩ := ag5 b1 h1
  exact ⟨⟨g0, g1⟩, HVs.append e0 e1, ⟨r0.1, r0.2, r1.1, r1.2⟩⟩
theorem wA {n : Nat} {cs : List Value} {x : DataW H × List MemPlace} (hb : Bk x.1) (h : DataW.trod enc Tryz.prog w base sp held n 31 cs = some x) : ∃ l : List GSpan, HVs w [.fz 2 (l.map aU)] noB cs ∧ ((∀ g ∈ l, okS g) ∧ l.length ≤ 1048576) := by
 obtain ⟨l, h1, h2, h3⟩ := bP (df H) (R := fun g => okS g) (encα := aU) Tryz.underlying31 pz (by omega) (fun _ => rfl) (fun _ => rfl) hb (fun n cs x h b => adF b h) h
 exact ⟨l, h1, h2, h3⟩
theorem agG {n : Nat} {cs : List Value} {x : DataW H × List MemPlace} (hb : Bk x.1) (h : DataW.trod enc Tryz.prog w base sp held n 23 cs = some x) : ∃ l : List GSpan, HVs w [.fz 2 (l.map aU)] noB cs ∧ ((∀ g ∈ l, okS g) ∧ l.length ≤ 1048576) := by
 obtain ⟨l, h1, h2, h3⟩ := bP (df H) (R := fun g => okS g) (encα := aU) Tryz.underlying23 pz (by omega) (fun _ => rfl) (fun _ => rfl) hb (fun n cs x h b => adF b h) h
 exact ⟨l, h1, h2, h3⟩
theorem aki {n : Nat} {cs : List Value} {x : DataW H × List MemPlace} (hb : Bk x.1) (h : DataW.trod enc Tryz.prog w base sp held n 34 cs = some x) : ∃ g : GDesc, HVs w (ah g) noB cs ∧ ((∀ s ∈ g.filter, okS s) ∧ g.filter.length ≤ 1048576) := by
 obtain ⟨hl, hf⟩ := cj (df H) Tryz.underlying34 hb h
 rw [aab] at hl
 obtain ⟨y0, n0, h0, b0⟩ := hf 0
 obtain ⟨y1, n1, h1, b1⟩ := hf 1
 obtain ⟨y2, n2, h2, b2⟩ := hf 2
 obtain ⟨y3, n3, h3, b3⟩ := hf 3
 simp only [kD, jE, zX] at h0 h1 h2 h3
 match cs, hl with
 | [a0, a1, a2, a3], _ =>
  obtain ⟨g0, e0, r0⟩ := l6 b0 h0
  obtain ⟨g1, e1, r1⟩ := qM b1 h1
  obtain ⟨g2, e2, r2⟩ := l6 b2 h2
  obtain ⟨g3, e3, r3⟩ := wA b3 h3
  exact ⟨⟨g0, g1, g2, g3⟩, HVs.append e0 (HVs.append e1 (HVs.append e2 e3)), r3⟩
theorem ag2 {n : Nat} {cs : List Value} {x : DataW H × List MemPlace} (hb : Bk x.1) (h : DataW.trod enc Tryz.prog w base sp held n 71 cs = some x) : ∃ g : ao, HVs w (aM g) noB cs ∧ True := by
 obtain ⟨hl, hf⟩ := cj (df H) Tryz.underlying71 hb h
 rw [z6] at hl
 obtain ⟨y0, n0, h0, b0⟩ := hf 0
 obtain ⟨y1, n1, h1, b1⟩ := hf 1
 obtain ⟨y2, n2, h2, b2⟩ := hf 2
 simp only [jE, kD] at h0 h1 h2
 match cs, hl with
 | [a0, a1, a2], _ =>
  obtain ⟨g0, e0, r0⟩ := qM b0 h0
  obtain ⟨g1, e1, r1⟩ := l6 b1 h1
  obtain ⟨g2, e2, r2⟩ := l6 b2 h2
  exact ⟨⟨g0, g1, g2⟩, HVs.append e0 (HVs.append e1 e2), trivial⟩
theorem af3 {n : Nat} {cs : List Value} {x : DataW H × List MemPlace} (hb : Bk x.1) (h : DataW.trod enc Tryz.prog w base sp held n 64 cs = some x) : ∃ g : dv, HVs w (bw g) noB cs ∧ True := by
 obtain ⟨hl, hf⟩ := cj (df H) Tryz.underlying64 hb h
 rw [tq] at hl
 obtain ⟨y0, n0, h0, b0⟩ := hf 0
 obtain ⟨y1, n1, h1, b1⟩ := hf 1
 obtain ⟨y2, n2, h2, b2⟩ := hf 2
 simp only [kD, jE, nW] at h0 h1 h2
 match cs, hl with
 | [a0, a1, a2], _ =>
  obtain ⟨g0, e0, r0⟩ := l6 b0 h0
  obtain ⟨g1, e1, r1⟩ := qM b1 h1
  obtain ⟨g2, e2, r2⟩ := aai b2 h2
  exact ⟨⟨g0, g1, g2⟩, HVs.append e0 (HVs.append e1 e2), trivial⟩
theorem alg {n : Nat} {cs : List Value} {x : DataW H × List MemPlace} (hb : Bk x.1) (h : DataW.trod enc Tryz.prog w base sp held n 59 cs = some x) : ∃ g : GID, HVs w (aaG g) noB cs ∧ True := by
 obtain ⟨hl, hf⟩ := cj (df H) Tryz.underlying59 hb h
 rw [sZ] at hl
 obtain ⟨y0, n0, h0, b0⟩ := hf 0
 obtain ⟨y1, n1, h1, b1⟩ := hf 1
 obtain ⟨y2, n2, h2, b2⟩ := hf 2
 simp only [kD, jE, nW] at h0 h1 h2
 match cs, hl with
 | [a0, a1, a2], _ =>
  obtain ⟨g0, e0, r0⟩ := l6 b0 h0
  obtain ⟨g1, e1, r1⟩ := qM b1 h1
  obtain ⟨g2, e2, r2⟩ := aai b2 h2
  exact ⟨⟨g0, g1, g2⟩, HVs.append e0 (HVs.append e1 e2), trivial⟩
theorem ako {n : Nat} {cs : List Value} {x : DataW H × List MemPlace} (hb : Bk x.1) (h : DataW.trod enc Tryz.prog w base sp held n 21 cs = some x) : ∃ g : Int, HVs w (fa g) noB cs ∧ (-2147483648 ≤ g ∧ g ≤ 2147483647) := ag5 hb h
theorem ak5 {n : Nat} {cs : List Value} {x : DataW H × List MemPlace} (hb : Bk x.1) (h : DataW.trod enc Tryz.prog w base sp held n 5 cs = some x) : ∃ g : UInt8, HVs w (a_ g) noB cs ∧ True := l6 hb h
theorem akt {n : Nat} {cs : List Value} {x : DataW H × List MemPlace} (hb : Bk x.1) (h : DataW.trod enc Tryz.prog w base sp held n 24 cs = some x) : ∃ g : UInt32, HVs w (aX g) noB cs ∧ True := aai hb h
theorem akN {n : Nat} {cs : List Value} {x : DataW H × List MemPlace} (hb : Bk x.1) (h : DataW.trod enc Tryz.prog w base sp held n 60 cs = some x) : ∃ l : List Int, HVs w [.fz 1 (l.map fa)] noB cs ∧ ((∀ g ∈ l, -2147483648 ≤ g ∧ g ≤ 2147483647) ∧ l.length ≤ 1048576) := by
 obtain ⟨l, h1, h2, h3⟩ := bP (df H) (R := fun g => -2147483648 ≤ g ∧ g ≤ 2147483647) (encα := fa) Tryz.underlying60 aaf (by omega) (fun _ => rfl) (fun _ => rfl) hb (fun n cs x h b => ako b h) h
 exact ⟨l, h1, h2, h3⟩
theorem ald {n : Nat} {cs : List Value} {x : DataW H × List MemPlace} (hb : Bk x.1) (h : DataW.trod enc Tryz.prog w base sp held n 61 cs = some x) : ∃ l : List UInt8, HVs w [.fz 1 (l.map a_)] noB cs ∧ ((∀ g ∈ l, True) ∧ l.length ≤ 1048576) := by
 obtain ⟨l, h1, h2, h3⟩ := bP (df H) (R := fun g => True) (encα := a_) Tryz.underlying61 kD (by omega) (fun _ => rfl) (fun _ => rfl) hb (fun n cs x h b => ak5 b h) h
 exact ⟨l, h1, h2, h3⟩
theorem akB {n : Nat} {cs : List Value} {x : DataW H × List MemPlace} (hb : Bk x.1) (h : DataW.trod enc Tryz.prog w base sp held n 73 cs = some x) : ∃ l : List UInt32, HVs w [.fz 1 (l.map aX)] noB cs ∧ ((∀ g ∈ l, True) ∧ l.length ≤ 1048576) := by
 obtain ⟨l, h1, h2, h3⟩ := bP (df H) (R := fun g => True) (encα := aX) Tryz.underlying73 nW (by omega) (fun _ => rfl) (fun _ => rfl) hb (fun n cs x h b => akt b h) h
 exact ⟨l, h1, h2, h3⟩
theorem aiq {n : Nat} {cs : List Value} {x : DataW H × List MemPlace} (hb : Bk x.1) (h : DataW.trod enc Tryz.prog w base sp held n 32 cs = some x) : ∃ l : List GDesc, HVs w [.fz 4 (l.map ah)] noB cs ∧ ((∀ g ∈ l, (∀ s ∈ g.filter, okS s) ∧ g.filter.length ≤ 1048576) ∧ l.length ≤ 1048576) := by
 obtain ⟨l, h1, h2, h3⟩ := bP (df H) (R := fun g => (∀ s ∈ g.filter, okS s) ∧ g.filter.length ≤ 1048576) (encα := ah) Tryz.underlying32 aab (by omega) (fun _ => rfl) (fun _ => rfl) hb (fun n cs x h b => aki b h) h
 exact ⟨l, h1, h2, h3⟩
theorem abx {n : Nat} {cs : List Value} {x : DataW H × List MemPlace} (hb : Bk x.1) (h : DataW.trod enc Tryz.prog w base sp held n 39 cs = some x) : ∃ l : List ao, HVs w [.fz 3 (l.map aM)] noB cs ∧ ((∀ g ∈ l, True) ∧ l.length ≤ 1048576) := by
 obtain ⟨l, h1, h2, h3⟩ := bP (df H) (R := fun g => True) (encα := aM) Tryz.underlying39 z6 (by omega) (fun _ => rfl) (fun _ => rfl) hb (fun n cs x h b => ag2 b h) h
 exact ⟨l, h1, h2, h3⟩
theorem ahS {n : Nat} {cs : List Value} {x : DataW H × List MemPlace} (hb : Bk x.1) (h : DataW.trod enc Tryz.prog w base sp held n 40 cs = some x) : ∃ l : List dv, HVs w [.fz 3 (l.map bw)] noB cs ∧ ((∀ g ∈ l, True) ∧ l.length ≤ 1048576) := by
 obtain ⟨l, h1, h2, h3⟩ := bP (df H) (R := fun g => True) (encα := bw) Tryz.underlying40 tq (by omega) (fun _ => rfl) (fun _ => rfl) hb (fun n cs x h b => af3 b h) h
 exact ⟨l, h1, h2, h3⟩
theorem ak6 {n : Nat} {cs : List Value} {x : DataW H × List MemPlace} (hb : Bk x.1) (h : DataW.trod enc Tryz.prog w base sp held n 65 cs = some x) : ∃ l : List GID, HVs w [.fz 3 (l.map aaG)] noB cs ∧ ((∀ g ∈ l, True) ∧ l.length ≤ 1048576) := by
 obtain ⟨l, h1, h2, h3⟩ := bP (df H) (R := fun g => True) (encα := aaG) Tryz.underlying65 sZ (by omega) (fun _ => rfl) (fun _ => rfl) hb (fun n cs x h b => alg b h) h
 exact ⟨l, h1, h2, h3⟩
theorem ag_ {n : Nat} {cs : List Value} {x : DataW H × List MemPlace} (hb : Bk x.1) (h : DataW.trod enc Tryz.prog w base sp held n 63 cs = some x) : ∃ g : aa1, HVs w (bu g) noB cs ∧ (g.vals.length ≤ 1048576 ∧ g.data.length ≤ 1048576) := by
 obtain ⟨hl, hf⟩ := cj (df H) Tryz.underlying63 hb h
 rw [aaH] at hl
 obtain ⟨y0, n0, h0, b0⟩ := hf 0
 obtain ⟨y1, n1, h1, b1⟩ := hf 1
 obtain ⟨y2, n2, h2, b2⟩ := hf 2
 simp only [sZ, ahk, ag7] at h0 h1 h2
 match cs, hl with
 | [a0, a1, a2, a3, a4], _ =>
  obtain ⟨g0, e0, r0⟩ := alg b0 h0
  obtain ⟨g1, e1, r1⟩ := akN b1 h1
  obtain ⟨g2, e2, r2⟩ := ald b2 h2
  exact ⟨⟨g0, g1, g2⟩, HVs.append e0 (HVs.append e1 e2), ⟨r1.2, r2.2⟩⟩
theorem alI {n : Nat} {cs : List Value} {x : DataW H × List MemPlace} (hb : Bk x.1) (h : DataW.trod enc Tryz.prog w base sp held n 67 cs = some x) : ∃ g : aV, HVs w (ax g) noB cs ∧ ((∀ d ∈ g.list, (∀ s ∈ d.filter, okS s) ∧ d.filter.length ≤ 1048576) ∧ g.list.length ≤ 1048576 ∧ g.table.length ≤ 1048576) := by
 obtain ⟨hl, hf⟩ := cj (df H) Tryz.underlying67 hb h
 rw [aar] at hl
 obtain ⟨y0, n0, h0, b0⟩ := hf 0
 obtain ⟨y1, n1, h1, b1⟩ := hf 1
 obtain ⟨y2, n2, h2, b2⟩ := hf 2
 obtain ⟨y3, n3, h3, b3⟩ := hf 3
 obtain ⟨y4, n4, h4, b4⟩ := hf 4
 obtain ⟨y5, n5, h5, b5⟩ := hf 5
 obtain ⟨y6, n6, h6, b6⟩ := hf 6
 obtain ⟨y7, n7, h7, b7⟩ := hf 7
 obtain ⟨y8, n8, h8, b8⟩ := hf 8
 obtain ⟨y9, n9, h9, b9⟩ := hf 9
 obtain ⟨y10, n10, h10, b10⟩ := hf 10
 simp only [kD, jE, aiX, ahY, aaH, tq, aiF, aiW] at h0 h1 h2 h3 h4 h5 h6 h7 h8 h9 h10
 match cs, hl with
 | [a0, a1, a2, a3, a4, a5, a6, a7, a8, a9, a10, a11, a12, a13, a14, a15, a16], _ =>
  obtain ⟨g0, e0, r0⟩ := l6 b0 h0
  obtain ⟨g1, e1, r1⟩ := l6 b1 h1
  obtain ⟨g2, e2, r2⟩ := qM b2 h2
  obtain ⟨g3, e3, r3⟩ := l6 b3 h3
  obtain ⟨g4, e4, r4⟩ := aiq b4 h4
  obtain ⟨g5, e5, r5⟩ := abx b5 h5
  obtain ⟨g6, e6, r6⟩ := ag_ b6 h6
  obtain ⟨g7, e7, r7⟩ := l6 b7 h7
  obtain ⟨g8, e8, r8⟩ := af3 b8 h8
  obtain ⟨g9, e9, r9⟩ := ahS b9 h9
  obtain ⟨g10, e10, r10⟩ := ak6 b10 h10
  exact ⟨⟨g0, g1, g2, g3, g4, g5, g6, g7, g8, g9, g10⟩, HVs.append e0 (HVs.append e1 (HVs.append e2 (HVs.append e3 (HVs.append e4 (HVs.append e5 (HVs.append e6 (HVs.append e7 (HVs.append e8 (HVs.append e9 e10))))))))), ⟨r4.1, r4.2, r5.2⟩⟩
theorem amg {n : Nat} {cs : List Value} {x : DataW H × List MemPlace} (hb : Bk x.1) (h : DataW.trod enc Tryz.prog w base sp held n 75 cs = some x) : ∃ g : GOp, HVs w (dV g) noB cs ∧ ((∀ d ∈ g.m.list, (∀ s ∈ d.filter, okS s) ∧ d.filter.length ≤ 1048576) ∧ g.m.list.length ≤ 1048576 ∧ g.m.table.length ≤ 1048576 ∧ (∀ s ∈ g.filter, okS s) ∧ g.filter.length ≤ 1048576 ∧ g.draws.length ≤ 1048576) := by
 obtain ⟨hl, hf⟩ := cj (df H) Tryz.underlying75 hb h
 rw [aaO] at hl
 obtain ⟨y0, n0, h0, b0⟩ := hf 0
 obtain ⟨y1, n1, h1, b1⟩ := hf 1
 obtain ⟨y2, n2, h2, b2⟩ := hf 2
 obtain ⟨y3, n3, h3, b3⟩ := hf 3
 obtain ⟨y4, n4, h4, b4⟩ := hf 4
 obtain ⟨y5, n5, h5, b5⟩ := hf 5
 simp only [kD, jE, zX, aar, ahr] at h0 h1 h2 h3 h4 h5
 match cs, hl with
 | [a0, a1, a2, a3, a4, a5, a6, a7, a8, a9, a10, a11, a12, a13, a14, a15, a16, a17, a18, a19, a20, a21], _ =>
  obtain ⟨g0, e0, r0⟩ := l6 b0 h0
  obtain ⟨g1, e1, r1⟩ := l6 b1 h1
  obtain ⟨g2, e2, r2⟩ := qM b2 h2
  obtain ⟨g3, e3, r3⟩ := wA b3 h3
  obtain ⟨g4, e4, r4⟩ := alI b4 h4
  obtain ⟨g5, e5, r5⟩ := akB b5 h5
  exact ⟨⟨g0, g1, g2, g3, g4, g5⟩, HVs.append e0 (HVs.append e1 (HVs.append e2 (HVs.append e3 (HVs.append e4 e5)))), ⟨r4.1, r4.2.1, r4.2.2, r3.1, r3.2, r5.2⟩⟩
theorem akR {n : Nat} {cs : List Value} {x : DataW H × List MemPlace} (hb : Bk x.1) (h : DataW.trod enc Tryz.prog w base sp held n 26 cs = some x) : ∃ g : av, HVs w (aJ g) noB cs ∧ ((∀ s ∈ g.schema, okS s) ∧ g.schema.length ≤ 1048576) := by
 obtain ⟨hl, hf⟩ := cj (df H) Tryz.underlying26 hb h
 rw [aje] at hl
 obtain ⟨y0, n0, h0, b0⟩ := hf 0
 obtain ⟨y1, n1, h1, b1⟩ := hf 1
 obtain ⟨y2, n2, h2, b2⟩ := hf 2
 obtain ⟨y3, n3, h3, b3⟩ := hf 3
 obtain ⟨y4, n4, h4, b4⟩ := hf 4
 obtain ⟨y5, n5, h5, b5⟩ := hf 5
 obtain ⟨y6, n6, h6, b6⟩ := hf 6
 obtain ⟨y7, n7, h7, b7⟩ := hf 7
 obtain ⟨y8, n8, h8, b8⟩ := hf 8
 obtain ⟨y9, n9, h9, b9⟩ := hf 9
 obtain ⟨y10, n10, h10, b10⟩ := hf 10
 obtain ⟨y11, n11, h11, b11⟩ := hf 11
 obtain ⟨y12, n12, h12, b12⟩ := hf 12
 obtain ⟨y13, n13, h13, b13⟩ := hf 13
 obtain ⟨y14, n14, h14, b14⟩ := hf 14
 simp only [ake, ahm, nW] at h0 h1 h2 h3 h4 h5 h6 h7 h8 h9 h10 h11 h12 h13 h14
 match cs, hl with
 | [a0, a1, a2, a3, a4, a5, a6, a7, a8, a9, a10, a11, a12, a13, a14], _ =>
  obtain ⟨g0, e0, r0⟩ := ib b0 h0
  obtain ⟨g1, e1, r1⟩ := agG b1 h1
  obtain ⟨g2, e2, r2⟩ := ib b2 h2
  obtain ⟨g3, e3, r3⟩ := ib b3 h3
  obtain ⟨g4, e4, r4⟩ := ib b4 h4
  obtain ⟨g5, e5, r5⟩ := ib b5 h5
  obtain ⟨g6, e6, r6⟩ := ib b6 h6
  obtain ⟨g7, e7, r7⟩ := ib b7 h7
  obtain ⟨g8, e8, r8⟩ := ib b8 h8
  obtain ⟨g9, e9, r9⟩ := ib b9 h9
  obtain ⟨g10, e10, r10⟩ := ib b10 h10
  obtain ⟨g11, e11, r11⟩ := ib b11 h11
  obtain ⟨g12, e12, r12⟩ := ib b12 h12
  obtain ⟨g13, e13, r13⟩ := ib b13 h13
  obtain ⟨g14, e14, r14⟩ := aai b14 h14
  exact ⟨⟨g0, g1, g2, g3, g4, g5, g6, g7, g8, g9, g10, g11, g12, g13, g14⟩, HVs.append e0 (HVs.append e1 (HVs.append e2 (HVs.append e3 (HVs.append e4 (HVs.append e5 (HVs.append e6 (HVs.append e7 (HVs.append e8 (HVs.append e9 (HVs.append e10 (HVs.append e11 (HVs.append e12 (HVs.append e13 e14))))))))))))), r1⟩
theorem conf_arg {v : Value} {d : DataW H} {ps : List MemPlace} {b0 : Nat} (hval : Value.okWide Tryz.prog w .any b0 26 v) (hb : Bk d) (h : DataW.Trod enc Tryz.prog w base sp held 26 v d ps) :
  ∃ g : av, HV w (.agg (aJ g)) noB v ∧ ((∀ s ∈ g.schema, okS s) ∧ g.schema.length ≤ 1048576) := by
 obtain ⟨n, hn⟩ := h
 obtain ⟨g, h1, h2⟩ := akR (x := (d, ps)) hb hn
 exact ⟨g, tf Tryz.underlying26 hval h1, h2⟩
theorem ops_arg {v : Value} {d : DataW H} {ps : List MemPlace} {b0 : Nat} (hval : Value.okWide Tryz.prog w .any b0 27 v) (hb : Bk d) (h : DataW.Trod enc Tryz.prog w base sp held 27 v d ps) :
  ∃ l : List GOp, HV w (.fz 22 (l.map dV)) noB v ∧ (∀ g ∈ l, ((∀ d ∈ g.m.list, (∀ s ∈ d.filter, okS s) ∧ d.filter.length ≤ 1048576) ∧ g.m.list.length ≤ 1048576 ∧ g.m.table.length ≤ 1048576 ∧ (∀ s ∈ g.filter, okS s) ∧ g.filter.length ≤ 1048576 ∧ g.draws.length ≤ 1048576)) ∧ l.length ≤ 1048576 := by
 obtain ⟨a0, len0, cap0, rfl⟩ := okWide_slice Tryz.underlying27 hval
 obtain ⟨fuel, hf⟩ := h
 obtain ⟨l, ⟨v, V, e1, h1, h2⟩, h3, h4⟩ := bP (x := (d, ps)) (df H) (R := fun g => ((∀ d ∈ g.m.list, (∀ s ∈ d.filter, okS s) ∧ d.filter.length ≤ 1048576) ∧ g.m.list.length ≤ 1048576 ∧ g.m.table.length ≤ 1048576 ∧ (∀ s ∈ g.filter, okS s) ∧ g.filter.length ≤ 1048576 ∧ g.draws.length ≤ 1048576)) (encα := dV) Tryz.underlying27 aaO (by omega) (fun _ => rfl) (fun _ => rfl) hb (fun n cs x h b => amg b h) hf
 obtain rfl : v = .slice a0 len0 cap0 := by
  have : [Value.slice a0 len0 cap0] = v :: V := e1
  cases this; rfl
 exact ⟨l, h1, h3, h4⟩
end
end Go.Proofs.YtlaefellhnkfbaaGreat.V
