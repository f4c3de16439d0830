/-
  Part 40 of the proof of Pl: the engine and the walks, in their order.
-/
import Derived.Test.YtlaefellhnkfbaaGreatPl32
import Derived.Test.YtlaefellhnkfbaaGreatPl39
set_option linter.unusedSimpArgs false
set_option linter.unusedVariables false
set_option maxRecDepth 10000
namespace Go.Proofs.YtlaefellhnkfbaaGreat.V
open Go.Eng Go.ChangeShapes Go.WideShapes Go.RowKit
theorem i32_of {n : Int} (h : (Lit.int .i32 n).wf = true) : -2147483648 ≤ n ∧ n ≤ 2147483647 := by
  simpa [Lit.wf, IntKind.min, IntKind.max, IntKind.signed, IntKind.bits] using h
theorem cells145 : Tryz.prog.cellsOf 145 = 2 := by kernel_rfl
theorem cells34 : Tryz.prog.cellsOf 34 = 4 := by kernel_rfl
theorem cells31 : Tryz.prog.cellsOf 31 = 1 := by kernel_rfl
theorem cells23 : Tryz.prog.cellsOf 23 = 1 := by kernel_rfl
theorem cells5 : Tryz.prog.cellsOf 5 = 1 := by kernel_rfl
theorem cells30 : Tryz.prog.cellsOf 30 = 1 := by kernel_rfl
theorem cells24 : Tryz.prog.cellsOf 24 = 1 := by kernel_rfl
theorem cells21 : Tryz.prog.cellsOf 21 = 1 := by kernel_rfl
theorem cells3 : Tryz.prog.cellsOf 3 = 1 := by kernel_rfl
theorem cells71 : Tryz.prog.cellsOf 71 = 3 := by kernel_rfl
theorem cells64 : Tryz.prog.cellsOf 64 = 3 := by kernel_rfl
theorem cells59 : Tryz.prog.cellsOf 59 = 3 := by kernel_rfl
theorem cells63 : Tryz.prog.cellsOf 63 = 5 := by kernel_rfl
theorem cells67 : Tryz.prog.cellsOf 67 = 17 := by kernel_rfl
theorem cells26 : Tryz.prog.cellsOf 26 = 15 := by kernel_rfl
theorem cells75 : Tryz.prog.cellsOf 75 = 22 := by kernel_rfl
theorem cells60 : Tryz.prog.cellsOf 60 = 1 := by kernel_rfl
theorem cells61 : Tryz.prog.cellsOf 61 = 1 := by kernel_rfl
theorem cells32 : Tryz.prog.cellsOf 32 = 1 := by kernel_rfl
theorem cells39 : Tryz.prog.cellsOf 39 = 1 := by kernel_rfl
theorem cells40 : Tryz.prog.cellsOf 40 = 1 := by kernel_rfl
theorem cells65 : Tryz.prog.cellsOf 65 = 1 := by kernel_rfl
theorem cells73 : Tryz.prog.cellsOf 73 = 1 := by kernel_rfl
section
variable {H : Type} {enc : TypeId × Value → H} {w : World} {base : Nat} {sp : Nat → Bool} {held : Bool}
theorem u8_r {n : Nat} {cs : List Value} {x : DataW H × List MemPlace} (h : DataW.trod enc Tryz.prog w base sp held n 5 cs = some x) : ∃ g : UInt8, HVs w [.v (.int .u8 g.toNat)] noB cs ∧ True := by
  obtain ⟨i0, rfl, _, w0⟩ := DataW.trod_int Tryz.underlying5 h
  obtain ⟨k0, rfl⟩ := u8_of w0
  exact ⟨k0, HVs.one (HV.plain rfl), trivial⟩
theorem u16_r {n : Nat} {cs : List Value} {x : DataW H × List MemPlace} (h : DataW.trod enc Tryz.prog w base sp held n 30 cs = some x) : ∃ g : UInt16, HVs w [.v (.int .u16 g.toNat)] noB cs ∧ True := by
  obtain ⟨i0, rfl, _, w0⟩ := DataW.trod_int Tryz.underlying30 h
  obtain ⟨k0, rfl⟩ := u16_of w0
  exact ⟨k0, HVs.one (HV.plain rfl), trivial⟩
theorem u32_r {n : Nat} {cs : List Value} {x : DataW H × List MemPlace} (h : DataW.trod enc Tryz.prog w base sp held n 24 cs = some x) : ∃ g : UInt32, HVs w [.v (.int .u32 g.toNat)] noB cs ∧ True := by
  obtain ⟨i0, rfl, _, w0⟩ := DataW.trod_int Tryz.underlying24 h
  obtain ⟨k0, rfl⟩ := u32_of w0
  exact ⟨k0, HVs.one (HV.plain rfl), trivial⟩
theorem i32_r {n : Nat} {cs : List Value} {x : DataW H × List MemPlace} (h : DataW.trod enc Tryz.prog w base sp held n 21 cs = some x) : ∃ g : Int, HVs w [.v (.int .i32 g)] noB cs ∧ (-2147483648 ≤ g ∧ g ≤ 2147483647) := by
  obtain ⟨i0, rfl, _, w0⟩ := DataW.trod_int Tryz.underlying21 h
  exact ⟨i0, HVs.one (HV.plain rfl), i32_of w0⟩
theorem i64_r {n : Nat} {cs : List Value} {x : DataW H × List MemPlace} (h : DataW.trod enc Tryz.prog w base sp held n 3 cs = some x) : ∃ g : Int, HVs w [.v (.int .i64 g)] noB cs ∧ (-9223372036854775808 ≤ g ∧ g ≤ 9223372036854775807) := by
  obtain ⟨i0, rfl, _, w0⟩ := DataW.trod_int Tryz.underlying3 h
  exact ⟨i0, HVs.one (HV.plain rfl), i64_of w0⟩
theorem span_r {n : Nat} {cs : List Value} {x : DataW H × List MemPlace} (h : DataW.trod enc Tryz.prog w base sp held n 145 cs = some x) : ∃ g : GSpan, HVs w (encS g) noB cs ∧ okS g := by
  obtain ⟨y0, y1, m, _, hl, h0, h1⟩ := Eng.trod_struct2 Tryz.underlying145 h
  rw [cells145] at hl
  simp only [cells21] at h0 h1
  match cs, hl with
  | [a0, a1], _ =>
    obtain ⟨g0, e0, r0⟩ := i32_r h0
    obtain ⟨g1, e1, r1⟩ := i32_r h1
    exact ⟨⟨g0, g1⟩, HVs.append e0 e1, ⟨r0.1, r0.2, r1.1, r1.2⟩⟩
theorem filter_r {n : Nat} {cs : List Value} {x : DataW H × List MemPlace} (h : DataW.trod enc Tryz.prog w base sp held n 31 cs = some x) : ∃ l : List GSpan, HVs w [.fz 2 (l.map encS)] noB cs ∧ ((∀ g ∈ l, okS g) ∧ l.length ≤ 9223372036854775807) := by
  obtain ⟨l, h1, h2, h3⟩ := fz_of_cells (R := fun g => okS g) (encα := encS) Tryz.underlying31 cells145 (by omega) (fun _ => rfl) (fun _ => rfl) (fun n cs x h => span_r h) h
  exact ⟨l, h1, h2, h3⟩
theorem schema_r {n : Nat} {cs : List Value} {x : DataW H × List MemPlace} (h : DataW.trod enc Tryz.prog w base sp held n 23 cs = some x) : ∃ l : List GSpan, HVs w [.fz 2 (l.map encS)] noB cs ∧ ((∀ g ∈ l, okS g) ∧ l.length ≤ 9223372036854775807) := by
  obtain ⟨l, h1, h2, h3⟩ := fz_of_cells (R := fun g => okS g) (encα := encS) Tryz.underlying23 cells145 (by omega) (fun _ => rfl) (fun _ => rfl) (fun n cs x h => span_r h) h
  exact ⟨l, h1, h2, h3⟩
theorem desc_r {n : Nat} {cs : List Value} {x : DataW H × List MemPlace} (h : DataW.trod enc Tryz.prog w base sp held n 34 cs = some x) : ∃ g : GDesc, HVs w (encDD g) noB cs ∧ ((∀ s ∈ g.filter, okS s) ∧ g.filter.length ≤ 9223372036854775807) := by
  obtain ⟨y0, y1, y2, y3, m, _, hl, h0, h1, h2, h3⟩ := Eng.trod_struct4 Tryz.underlying34 h
  rw [cells34] at hl
  simp only [cells5, cells30, cells31] at h0 h1 h2 h3
  match cs, hl with
  | [a0, a1, a2, a3], _ =>
    obtain ⟨g0, e0, r0⟩ := u8_r h0
    obtain ⟨g1, e1, r1⟩ := u16_r h1
    obtain ⟨g2, e2, r2⟩ := u8_r h2
    obtain ⟨g3, e3, r3⟩ := filter_r h3
    exact ⟨⟨g0, g1, g2, g3⟩, HVs.append e0 (HVs.append e1 (HVs.append e2 e3)), r3⟩
theorem member_r {n : Nat} {cs : List Value} {x : DataW H × List MemPlace} (h : DataW.trod enc Tryz.prog w base sp held n 71 cs = some x) : ∃ g : GMember, HVs w (encM g) noB cs ∧ True := by
  obtain ⟨y0, y1, y2, m, _, hl, h0, h1, h2⟩ := Eng.trod_struct3 Tryz.underlying71 h
  rw [cells71] at hl
  simp only [cells30, cells5] at h0 h1 h2
  match cs, hl with
  | [a0, a1, a2], _ =>
    obtain ⟨g0, e0, r0⟩ := u16_r h0
    obtain ⟨g1, e1, r1⟩ := u8_r h1
    obtain ⟨g2, e2, r2⟩ := u8_r h2
    exact ⟨⟨g0, g1, g2⟩, HVs.append e0 (HVs.append e1 e2), trivial⟩
theorem mark_r {n : Nat} {cs : List Value} {x : DataW H × List MemPlace} (h : DataW.trod enc Tryz.prog w base sp held n 64 cs = some x) : ∃ g : GMark, HVs w (encK g) noB cs ∧ True := by
  obtain ⟨y0, y1, y2, m, _, hl, h0, h1, h2⟩ := Eng.trod_struct3 Tryz.underlying64 h
  rw [cells64] at hl
  simp only [cells5, cells30, cells24] at h0 h1 h2
  match cs, hl with
  | [a0, a1, a2], _ =>
    obtain ⟨g0, e0, r0⟩ := u8_r h0
    obtain ⟨g1, e1, r1⟩ := u16_r h1
    obtain ⟨g2, e2, r2⟩ := u32_r h2
    exact ⟨⟨g0, g1, g2⟩, HVs.append e0 (HVs.append e1 e2), trivial⟩
theorem id_r {n : Nat} {cs : List Value} {x : DataW H × List MemPlace} (h : DataW.trod enc Tryz.prog w base sp held n 59 cs = some x) : ∃ g : GID, HVs w (encId g) noB cs ∧ True := by
  obtain ⟨y0, y1, y2, m, _, hl, h0, h1, h2⟩ := Eng.trod_struct3 Tryz.underlying59 h
  rw [cells59] at hl
  simp only [cells5, cells30, cells24] at h0 h1 h2
  match cs, hl with
  | [a0, a1, a2], _ =>
    obtain ⟨g0, e0, r0⟩ := u8_r h0
    obtain ⟨g1, e1, r1⟩ := u16_r h1
    obtain ⟨g2, e2, r2⟩ := u32_r h2
    exact ⟨⟨g0, g1, g2⟩, HVs.append e0 (HVs.append e1 e2), trivial⟩
theorem i32e_r {n : Nat} {cs : List Value} {x : DataW H × List MemPlace} (h : DataW.trod enc Tryz.prog w base sp held n 21 cs = some x) : ∃ g : Int, HVs w (encI g) noB cs ∧ (-2147483648 ≤ g ∧ g ≤ 2147483647) := i32_r h
theorem u8e_r {n : Nat} {cs : List Value} {x : DataW H × List MemPlace} (h : DataW.trod enc Tryz.prog w base sp held n 5 cs = some x) : ∃ g : UInt8, HVs w (encBD g) noB cs ∧ True := u8_r h
theorem u32e_r {n : Nat} {cs : List Value} {x : DataW H × List MemPlace} (h : DataW.trod enc Tryz.prog w base sp held n 24 cs = some x) : ∃ g : UInt32, HVs w (enc32D g) noB cs ∧ True := u32_r h
theorem i32s_r {n : Nat} {cs : List Value} {x : DataW H × List MemPlace} (h : DataW.trod enc Tryz.prog w base sp held n 60 cs = some x) : ∃ l : List Int, HVs w [.fz 1 (l.map encI)] noB cs ∧ ((∀ g ∈ l, -2147483648 ≤ g ∧ g ≤ 2147483647) ∧ l.length ≤ 9223372036854775807) := by
  obtain ⟨l, h1, h2, h3⟩ := fz_of_cells (R := fun g => -2147483648 ≤ g ∧ g ≤ 2147483647) (encα := encI) Tryz.underlying60 cells21 (by omega) (fun _ => rfl) (fun _ => rfl) (fun n cs x h => i32e_r h) h
  exact ⟨l, h1, h2, h3⟩
theorem u8s_r {n : Nat} {cs : List Value} {x : DataW H × List MemPlace} (h : DataW.trod enc Tryz.prog w base sp held n 61 cs = some x) : ∃ l : List UInt8, HVs w [.fz 1 (l.map encBD)] noB cs ∧ ((∀ g ∈ l, True) ∧ l.length ≤ 9223372036854775807) := by
  obtain ⟨l, h1, h2, h3⟩ := fz_of_cells (R := fun g => True) (encα := encBD) Tryz.underlying61 cells5 (by omega) (fun _ => rfl) (fun _ => rfl) (fun n cs x h => u8e_r h) h
  exact ⟨l, h1, h2, h3⟩
theorem u32s_r {n : Nat} {cs : List Value} {x : DataW H × List MemPlace} (h : DataW.trod enc Tryz.prog w base sp held n 73 cs = some x) : ∃ l : List UInt32, HVs w [.fz 1 (l.map enc32D)] noB cs ∧ ((∀ g ∈ l, True) ∧ l.length ≤ 9223372036854775807) := by
  obtain ⟨l, h1, h2, h3⟩ := fz_of_cells (R := fun g => True) (encα := enc32D) Tryz.underlying73 cells24 (by omega) (fun _ => rfl) (fun _ => rfl) (fun n cs x h => u32e_r h) h
  exact ⟨l, h1, h2, h3⟩
theorem descs_r {n : Nat} {cs : List Value} {x : DataW H × List MemPlace} (h : DataW.trod enc Tryz.prog w base sp held n 32 cs = some x) : ∃ l : List GDesc, HVs w [.fz 4 (l.map encDD)] noB cs ∧ ((∀ g ∈ l, (∀ s ∈ g.filter, okS s) ∧ g.filter.length ≤ 9223372036854775807) ∧ l.length ≤ 9223372036854775807) := by
  obtain ⟨l, h1, h2, h3⟩ := fz_of_cells (R := fun g => (∀ s ∈ g.filter, okS s) ∧ g.filter.length ≤ 9223372036854775807) (encα := encDD) Tryz.underlying32 cells34 (by omega) (fun _ => rfl) (fun _ => rfl) (fun n cs x h => desc_r h) h
  exact ⟨l, h1, h2, h3⟩
theorem members_r {n : Nat} {cs : List Value} {x : DataW H × List MemPlace} (h : DataW.trod enc Tryz.prog w base sp held n 39 cs = some x) : ∃ l : List GMember, HVs w [.fz 3 (l.map encM)] noB cs ∧ ((∀ g ∈ l, True) ∧ l.length ≤ 9223372036854775807) := by
  obtain ⟨l, h1, h2, h3⟩ := fz_of_cells (R := fun g => True) (encα := encM) Tryz.underlying39 cells71 (by omega) (fun _ => rfl) (fun _ => rfl) (fun n cs x h => member_r h) h
  exact ⟨l, h1, h2, h3⟩
theorem marks_r {n : Nat} {cs : List Value} {x : DataW H × List MemPlace} (h : DataW.trod enc Tryz.prog w base sp held n 40 cs = some x) : ∃ l : List GMark, HVs w [.fz 3 (l.map encK)] noB cs ∧ ((∀ g ∈ l, True) ∧ l.length ≤ 9223372036854775807) := by
  obtain ⟨l, h1, h2, h3⟩ := fz_of_cells (R := fun g => True) (encα := encK) Tryz.underlying40 cells64 (by omega) (fun _ => rfl) (fun _ => rfl) (fun n cs x h => mark_r h) h
  exact ⟨l, h1, h2, h3⟩
theorem ids_r {n : Nat} {cs : List Value} {x : DataW H × List MemPlace} (h : DataW.trod enc Tryz.prog w base sp held n 65 cs = some x) : ∃ l : List GID, HVs w [.fz 3 (l.map encId)] noB cs ∧ ((∀ g ∈ l, True) ∧ l.length ≤ 9223372036854775807) := by
  obtain ⟨l, h1, h2, h3⟩ := fz_of_cells (R := fun g => True) (encα := encId) Tryz.underlying65 cells59 (by omega) (fun _ => rfl) (fun _ => rfl) (fun n cs x h => id_r h) h
  exact ⟨l, h1, h2, h3⟩
theorem event_r {n : Nat} {cs : List Value} {x : DataW H × List MemPlace} (h : DataW.trod enc Tryz.prog w base sp held n 63 cs = some x) : ∃ g : GEvt, HVs w (encEv g) noB cs ∧ (g.vals.length ≤ 9223372036854775807 ∧ g.data.length ≤ 9223372036854775807) := by
  obtain ⟨y0, y1, y2, m, _, hl, h0, h1, h2⟩ := Eng.trod_struct3 Tryz.underlying63 h
  rw [cells63] at hl
  simp only [cells59, cells60, cells61] at h0 h1 h2
  match cs, hl with
  | [a0, a1, a2, a3, a4], _ =>
    obtain ⟨g0, e0, r0⟩ := id_r h0
    obtain ⟨g1, e1, r1⟩ := i32s_r h1
    obtain ⟨g2, e2, r2⟩ := u8s_r h2
    exact ⟨⟨g0, g1, g2⟩, HVs.append e0 (HVs.append e1 e2), ⟨r1.2, r2.2⟩⟩
theorem msg_r {n : Nat} {cs : List Value} {x : DataW H × List MemPlace} (h : DataW.trod enc Tryz.prog w base sp held n 67 cs = some x) : ∃ g : GMsg, HVs w (encMg g) noB cs ∧ ((∀ d ∈ g.list, (∀ s ∈ d.filter, okS s) ∧ d.filter.length ≤ 9223372036854775807) ∧ g.list.length ≤ 9223372036854775807 ∧ g.table.length ≤ 9223372036854775807) := by
  obtain ⟨y0, y1, y2, y3, y4, y5, y6, y7, y8, y9, y10, m, hl, h0, h1, h2, h3, h4, h5, h6, h7, h8, h9, h10⟩ := Eng.trod_struct11 Tryz.underlying67 h
  rw [cells67] at hl
  simp only [cells5, cells30, cells32, cells39, cells63, cells64, cells40, cells65] at h0 h1 h2 h3 h4 h5 h6 h7 h8 h9 h10
  match cs, hl with
  | [a0, a1, a2, a3, a4, a5, a6, a7, a8, a9, a10, a11, a12, a13, a14, a15, a16], _ =>
    obtain ⟨g0, e0, r0⟩ := u8_r h0
    obtain ⟨g1, e1, r1⟩ := u8_r h1
    obtain ⟨g2, e2, r2⟩ := u16_r h2
    obtain ⟨g3, e3, r3⟩ := u8_r h3
    obtain ⟨g4, e4, r4⟩ := descs_r h4
    obtain ⟨g5, e5, r5⟩ := members_r h5
    obtain ⟨g6, e6, r6⟩ := event_r h6
    obtain ⟨g7, e7, r7⟩ := u8_r h7
    obtain ⟨g8, e8, r8⟩ := mark_r h8
    obtain ⟨g9, e9, r9⟩ := marks_r h9
    obtain ⟨g10, e10, r10⟩ := ids_r h10
    exact ⟨⟨g0, g1, g2, g3, g4, g5, g6, g7, g8, g9, g10⟩, HVs.append e0 (HVs.append e1 (HVs.append e2 (HVs.append e3 (HVs.append e4 (HVs.append e5 (HVs.append e6 (HVs.append e7 (HVs.append e8 (HVs.append e9 e10))))))))), ⟨r4.1, r4.2, r5.2⟩⟩
theorem op_r {n : Nat} {cs : List Value} {x : DataW H × List MemPlace} (h : DataW.trod enc Tryz.prog w base sp held n 75 cs = some x) : ∃ g : GOp, HVs w (encOp g) noB cs ∧ ((∀ d ∈ g.m.list, (∀ s ∈ d.filter, okS s) ∧ d.filter.length ≤ 9223372036854775807) ∧ g.m.list.length ≤ 9223372036854775807 ∧ g.m.table.length ≤ 9223372036854775807 ∧ (∀ s ∈ g.filter, okS s) ∧ g.filter.length ≤ 9223372036854775807) := by
  obtain ⟨y0, y1, y2, y3, y4, y5, m, hl, h0, h1, h2, h3, h4, h5⟩ := Eng.trod_struct6 Tryz.underlying75 h
  rw [cells75] at hl
  simp only [cells5, cells30, cells31, cells67, cells73] at h0 h1 h2 h3 h4 h5
  match cs, hl with
  | [a0, a1, a2, a3, a4, a5, a6, a7, a8, a9, a10, a11, a12, a13, a14, a15, a16, a17, a18, a19, a20, a21], _ =>
    obtain ⟨g0, e0, r0⟩ := u8_r h0
    obtain ⟨g1, e1, r1⟩ := u8_r h1
    obtain ⟨g2, e2, r2⟩ := u16_r h2
    obtain ⟨g3, e3, r3⟩ := filter_r h3
    obtain ⟨g4, e4, r4⟩ := msg_r h4
    obtain ⟨g5, e5, r5⟩ := u32s_r h5
    exact ⟨⟨g0, g1, g2, g3, g4, g5⟩, HVs.append e0 (HVs.append e1 (HVs.append e2 (HVs.append e3 (HVs.append e4 e5)))), ⟨r4.1, r4.2.1, r4.2.2, r3.1, r3.2⟩⟩
theorem conf_r {n : Nat} {cs : List Value} {x : DataW H × List MemPlace} (h : DataW.trod enc Tryz.prog w base sp held n 26 cs = some x) : ∃ g : GConf, HVs w (encC g) noB cs ∧ ((∀ s ∈ g.schema, okS s) ∧ g.schema.length ≤ 9223372036854775807) := by
  obtain ⟨y0, y1, y2, y3, y4, y5, y6, y7, y8, y9, y10, y11, y12, y13, y14, m, hl, h0, h1, h2, h3, h4, h5, h6, h7, h8, h9, h10, h11, h12, h13, h14⟩ := Eng.trod_struct15 Tryz.underlying26 h
  rw [cells26] at hl
  simp only [cells3, cells23, cells24] at h0 h1 h2 h3 h4 h5 h6 h7 h8 h9 h10 h11 h12 h13 h14
  match cs, hl with
  | [a0, a1, a2, a3, a4, a5, a6, a7, a8, a9, a10, a11, a12, a13, a14], _ =>
    obtain ⟨g0, e0, r0⟩ := i64_r h0
    obtain ⟨g1, e1, r1⟩ := schema_r h1
    obtain ⟨g2, e2, r2⟩ := i64_r h2
    obtain ⟨g3, e3, r3⟩ := i64_r h3
    obtain ⟨g4, e4, r4⟩ := i64_r h4
    obtain ⟨g5, e5, r5⟩ := i64_r h5
    obtain ⟨g6, e6, r6⟩ := i64_r h6
    obtain ⟨g7, e7, r7⟩ := i64_r h7
    obtain ⟨g8, e8, r8⟩ := i64_r h8
    obtain ⟨g9, e9, r9⟩ := i64_r h9
    obtain ⟨g10, e10, r10⟩ := i64_r h10
    obtain ⟨g11, e11, r11⟩ := i64_r h11
    obtain ⟨g12, e12, r12⟩ := i64_r h12
    obtain ⟨g13, e13, r13⟩ := i64_r h13
    obtain ⟨g14, e14, r14⟩ := u32_r h14
    exact ⟨⟨g0, g1, g2, g3, g4, g5, g6, g7, g8, g9, g10, g11, g12, g13, g14⟩, HVs.append e0 (HVs.append e1 (HVs.append e2 (HVs.append e3 (HVs.append e4 (HVs.append e5 (HVs.append e6 (HVs.append e7 (HVs.append e8 (HVs.append e9 (HVs.append e10 (HVs.append e11 (HVs.append e12 (HVs.append e13 e14))))))))))))), r1⟩
theorem conf_arg {v : Value} {d : DataW H} {ps : List MemPlace} {b0 : Nat} (hval : Value.okWide Tryz.prog w .any b0 26 v) (h : DataW.Trod enc Tryz.prog w base sp held 26 v d ps) :
    ∃ g : GConf, HV w (.agg (encC g)) noB v ∧ ((∀ s ∈ g.schema, okS s) ∧ g.schema.length ≤ 9223372036854775807) := by
  obtain ⟨n, hn⟩ := h
  obtain ⟨g, h1, h2⟩ := conf_r hn
  exact ⟨g, agg_of_cells Tryz.underlying26 hval h1, h2⟩
end
end Go.Proofs.YtlaefellhnkfbaaGreat.V
