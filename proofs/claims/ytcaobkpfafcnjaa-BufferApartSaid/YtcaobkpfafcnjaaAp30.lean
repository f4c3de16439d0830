/-
  Part 30 of the proof of Ap: the engine and the walks, in their order.
-/
import Derived.Test.YtcaobkpfafcnjaaAp20
import Derived.Test.YtcaobkpfafcnjaaAp29
set_option linter.unusedSimpArgs false
set_option linter.unusedVariables false
/-
  Opening the arguments: events.
-/
set_option linter.unusedVariables false
namespace Go.Proofs.Ytcaobkpfafcnjaa
open Go.Eng Go.ChangeShapes Go.WideShapes Go.RowKit

theorem cells5 : Try.prog.cellsOf 5 = 1 := by kernel_rfl
theorem cells23 : Try.prog.cellsOf 23 = 1 := by kernel_rfl
theorem cells28 : Try.prog.cellsOf 28 = 1 := by kernel_rfl
theorem cells21 : Try.prog.cellsOf 21 = 1 := by kernel_rfl
theorem cells31 : Try.prog.cellsOf 31 = 1 := by kernel_rfl
theorem cells32 : Try.prog.cellsOf 32 = 1 := by kernel_rfl
theorem cells30 : Try.prog.cellsOf 30 = 3 := by kernel_rfl
theorem cells3 : Try.prog.cellsOf 3 = 1 := by kernel_rfl
theorem cells22 : Try.prog.cellsOf 22 = 1 := by kernel_rfl
theorem cells27 : Try.prog.cellsOf 27 = 2 := by kernel_rfl
theorem cells60 : Try.prog.cellsOf 60 = 6 := by kernel_rfl
theorem cells34 : Try.prog.cellsOf 34 = 5 := by kernel_rfl

section
variable {H : Type} {enc : TypeId × Value → H} {w : World} {base : Nat} {sp : Nat → Bool} {held : Bool}

theorem i32_of_trod {n : Nat} {cs : List Value} {x : DataW H × List MemPlace} (h : DataW.trod enc Try.prog w base sp held n 21 cs = some x) : ∃ g : Int, cs = encI g ∧ True := by
  obtain ⟨i0, e0, _, w0⟩ := DataW.trod_int Try.underlying21 h
  exact ⟨i0, e0, trivial⟩
theorem u8_of_trod {n : Nat} {cs : List Value} {x : DataW H × List MemPlace} (h : DataW.trod enc Try.prog w base sp held n 5 cs = some x) : ∃ g : UInt8, cs = encB g ∧ True := by
  obtain ⟨i0, e0, _, w0⟩ := DataW.trod_int Try.underlying5 h
  obtain ⟨k0, rfl⟩ := u8_of w0
  exact ⟨k0, e0, trivial⟩

theorem id_of_trod {n : Nat} {cs : List Value} {x : DataW H × List MemPlace} (h : DataW.trod enc Try.prog w base sp held n 30 cs = some x) : ∃ g : GID, cs = g.enc ∧ True := by
  obtain ⟨y0, y1, y2, m, rfl, hl, h0, h1, h2⟩ := Eng.trod_struct3 Try.underlying30 h
  rw [cells30] at hl
  simp only [cells5, cells23, cells28] at h0 h1 h2
  match cs, hl with
  | [a, b, c], _ =>
    obtain ⟨i0, e0, _, w0⟩ := DataW.trod_int Try.underlying5 h0
    obtain ⟨i1, e1, _, w1⟩ := DataW.trod_int Try.underlying23 h1
    obtain ⟨i2, e2, _, w2⟩ := DataW.trod_int Try.underlying28 h2
    obtain ⟨k0, rfl⟩ := u8_of w0
    obtain ⟨k1, rfl⟩ := u16_of w1
    obtain ⟨k2, rfl⟩ := u32_of w2
    simp at e0 e1 e2
    exact ⟨⟨k0, k1, k2⟩, by rw [e0, e1, e2]; rfl, trivial⟩

theorem event_of_trod {n : Nat} {cs : List Value} {x : DataW H × List MemPlace} (h : DataW.trod enc Try.prog w base sp held n 34 cs = some x) : ∃ g : PE, cs = g.enc ∧ (There w (EvK.parts g) ∧ g.n ≤ 9223372036854775807 ∧ g.m ≤ 9223372036854775807) := by
  obtain ⟨y0, y1, y2, m, rfl, hl, h0, h1, h2⟩ := Eng.trod_struct3 Try.underlying34 h
  rw [cells34] at hl
  simp only [cells30, cells31, cells32] at h0 h1 h2
  match cs, hl with
  | [a, b, c, d, e], _ =>
    obtain ⟨i, ei, _⟩ := id_of_trod h0
    obtain ⟨p, n, cc, l, e3, hs, hcm, _, _⟩ := sl_of_cells (encα := encI) Try.underlying31 cells21 (by omega) (fun n cs x h => i32_of_trod h) (fun g => rfl) h1
    obtain ⟨q, m, dd, k, e4, hs2, hcm2, _, _⟩ := sl_of_cells (encα := encB) Try.underlying32 cells5 (by omega) (fun n cs x h => u8_of_trod h) (fun g => rfl) h2
    simp [GID.enc] at ei e3 e4
    refine ⟨⟨⟨i, l, k⟩, p, n, cc, q, m, dd⟩, by rw [ei.1, ei.2.1, ei.2.2, e3, e4]; rfl, ev_there hs hs2, ?_, ?_⟩
    · have := hs.cap
      simp only [maxLen] at hcm
      simp only
      omega
    · have := hs2.cap
      simp only [maxLen] at hcm2
      simp only
      omega

theorem events_of {v : Value} {d : DataW H} {ps : List MemPlace} {b0 : Nat} (hval : Value.okWide Try.prog w .any b0 22 v) (h : DataW.Trod enc Try.prog w base sp held 22 v d ps) :
    ∃ p n c l, v = .slice p n c ∧ EL EvK w p n c l ∧ n ≤ 9223372036854775807 ∧ ∀ x ∈ l, x.n ≤ 9223372036854775807 ∧ x.m ≤ 9223372036854775807 := by
  obtain ⟨p, n, c, l, rfl, hs, hcm, hR, _⟩ := sl_of_trodR (encα := PE.enc) Try.underlying22 cells34 (by omega) hval (fun n cs x h => event_of_trod h) (fun g => rfl) h
  have := hs.cap
  simp only [maxLen] at hcm
  exact ⟨p, n, c, l, rfl, ⟨hs, fun x hx => (hR x hx).1⟩, by omega, fun x hx => (hR x hx).2⟩

theorem event_arg {v : Value} {d : DataW H} {ps : List MemPlace} {b0 : Nat} (hval : Value.okWide Try.prog w .any b0 34 v) (h : DataW.Trod enc Try.prog w base sp held 34 v d ps) :
    ∃ g : PE, v = g.val ∧ There w (EvK.parts g) ∧ g.n ≤ 9223372036854775807 ∧ g.m ≤ 9223372036854775807 := by
  obtain ⟨cs, rfl, hs⟩ := okWide_struct Try.underlying34 hval
  obtain ⟨n, hn⟩ := h
  obtain ⟨g, hg, hf⟩ := event_of_trod hn
  refine ⟨g, ?_, hf⟩
  simp only [Value.cells] at hg
  show Value.agg cs = Value.agg _
  congr 1
  rw [← Array.toArray_toList (xs := cs), hg]
  rfl
theorem buffer_arg {v : Value} {d : DataW H} {ps : List MemPlace} {b0 : Nat} (hval : Value.okWide Try.prog w .any b0 27 v) (h : DataW.Trod enc Try.prog w base sp held 27 v d ps) :
    ∃ b : PB, v = b.val ∧ EL EvK w b.p b.n b.c b.l ∧ b.n ≤ 9223372036854775807 := by
  obtain ⟨cs, rfl, hs⟩ := okWide_struct Try.underlying27 hval
  obtain ⟨n, hn⟩ := h
  obtain ⟨y0, y1, m, _, hl, h0, h1⟩ := Eng.trod_struct2 Try.underlying27 hn
  rw [cells27] at hl
  simp only [Value.cells] at hl h0 h1
  simp only [cells3, cells22] at h0 h1
  generalize hcs : cs.toList = C at hl h0 h1
  match C, hl with
  | [a, b], _ =>
    obtain ⟨i0, e0, _, w0⟩ := DataW.trod_int Try.underlying3 h0
    obtain ⟨p, n, c, l, e1, hs, hcm, hR, _⟩ := sl_of_cells (encα := PE.enc) Try.underlying22 cells34 (by omega) (fun n cs x h => event_of_trod h) (fun g => rfl) h1
    simp at e0 e1
    refine ⟨⟨i0, p, n, c, l⟩, ?_, ⟨hs, fun x hx => (hR x hx).1⟩, ?_⟩
    · show Value.agg cs = Value.agg _
      congr 1
      rw [← Array.toArray_toList (xs := cs), hcs, e0, e1]
    · have := hs.cap
      simp only [maxLen] at hcm
      simp only
      omega
end
end Go.Proofs.Ytcaobkpfafcnjaa
