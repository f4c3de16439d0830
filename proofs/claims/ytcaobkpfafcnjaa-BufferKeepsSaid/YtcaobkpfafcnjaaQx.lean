/-
  BufferKeeps is true of every input and never panics: whatever is put, evicted, removed: a buffer stays right, and what is got of it is just what was put, as it was, and is not gone yet; at an error nothing is changed. No condition.
-/
import Derived.Test.YtcaobkpfafcnjaaBo
import Derived.Test.YtcaobkpfafcnjaaQd
set_option linter.unusedVariables false
namespace Go.Proofs.Ytcaobkpfafcnjaa
open Go.Eng Go.ChangeShapes Go.WideShapes Go.RowKit
section
variable {H : Type} {enc : TypeId × Value → H} {w : World} {base : Nat} {sp : Nat → Bool} {held : Bool}
theorem op_of_trod {n : Nat} {cs : List Value} {x : DataW H × List MemPlace} (h : DataW.trod enc Try.prog w base sp held n 60 cs = some x) : ∃ g : POp, cs = g.enc ∧ There w (EvK.parts g.e) := by
  obtain ⟨y0, y1, m, rfl, hl, h0, h1⟩ := Eng.trod_struct2 Try.underlying60 h
  rw [cells60] at hl
  simp only [cells5, cells34] at h0 h1
  match cs, hl with
  | [a, b, c, d, e, f], _ =>
    obtain ⟨i0, e0, _, w0⟩ := DataW.trod_int Try.underlying5 h0
    obtain ⟨k0, rfl⟩ := u8_of w0
    obtain ⟨g, eg, hg, _⟩ := event_of_trod h1
    simp at e0
    simp only [List.drop_succ_cons, List.drop_zero, List.take_succ_cons, List.take_zero, PE.enc, List.cons.injEq, and_true] at eg
    exact ⟨⟨k0, g⟩, by rw [e0, eg.1, eg.2.1, eg.2.2.1, eg.2.2.2.1, eg.2.2.2.2]; rfl, hg⟩
theorem ops_of {v : Value} {d : DataW H} {ps : List MemPlace} {b0 : Nat} (hval : Value.okWide Try.prog w .any b0 56 v) (h : DataW.Trod enc Try.prog w base sp held 56 v d ps) :
    ∃ p n c, ∃ l : List POp, v = .slice p n c ∧ Sl w 6 p n c (l.map POp.enc) ∧ (∀ o ∈ l, There w (EvK.parts o.e)) ∧ n ≤ 9223372036854775807 := by
  obtain ⟨p, n, c, l, rfl, hs, hcm, hR, _⟩ := sl_of_trodR (encα := POp.enc) Try.underlying56 cells60 (by omega) hval (fun n cs x h => op_of_trod h) (fun g => rfl) h
  have := hs.cap
  simp only [maxLen] at hcm
  exact ⟨p, n, c, l, rfl, hs, hR, by omega⟩
end
end Go.Proofs.Ytcaobkpfafcnjaa
namespace Go.Proofs.Ytcaobkpfafcnjaa.bufferKeeps
open Go.Eng Go.ChangeShapes Go.WideShapes Go.RowKit

set_option maxRecDepth 100000 in
theorem lifted (os : Os) (started : os.Started) (H : Type) (enc : TypeId × Value → H) :
    ReturnsInHanded {} Try.checked os 7 .any (Rows.bufferKeepsSpec.pre6 enc Try.prog Try.f7 Rows.bufferKeepsRow.domain false) (Rows.bufferKeepsSpec.post enc Try.prog Try.f7 false true false false) := by
  refine returnsInHanded_of_change_sized (C := Try.checked) own started (by kernel_rfl) Try.func7
    (ChangeSpec.witness6 (enc := enc) (C := Try.checked) false ⟨#[], #[(.int .u8 0), (.slice none 0 0)], []⟩ 8 (by kernel_rfl) (by kernel_rfl) (by kernel_rfl) (by kernel_rfl)) ?_
  intro W base args ds gs before hval0 hW hcnd hsz _
  have hval : ∀ (j : Nat) t v, Try.f7.params[j]? = some t → args[j]? = some v → Value.okWide Try.prog W .any base t v := hval0
  have hW' := hW
  obtain ⟨p, q, hA0, hV, rfl, hfz, hnd⟩ := hW
  have hA : DataW.TrodAll enc Try.prog W 0 (fun _ => true) true Try.f7.params.toList args.toList ds p := hA0
  rw [Try.params7] at hA hval
  obtain ⟨v0, vs0, d0, ds0, p0, q0, hargs, rfl, rfl, h0, r0⟩ := trodAll_cons hA
  obtain ⟨v1, vs1, d1, ds1, p1, q1, rfl, rfl, rfl, h1, r1⟩ := trodAll_cons r0
  obtain ⟨rfl, rfl, rfl⟩ := trodAll_nil r1
  obtain rfl : args = #[v0, v1] := by cases args; simp_all
  obtain ⟨rfl, rfl⟩ := trodVars_none hV
  have hv0 := hval 0 5 v0 rfl rfl
  have hv1 := hval 1 56 v1 rfl rfl
  obtain ⟨a1, rfl, _, _, w1⟩ := open_int Try.underlying5 hv0 h0
  obtain ⟨k1, rfl⟩ := u8_of w1
  obtain ⟨p, n, c, l, rfl, hl, hth, hc⟩ := ops_of hv1 h1
  exact calls_of_con (args := [_, _]) laid rowed full (by kernel_rfl) rfl Try.underlying4 (by kernel_rfl) hW' rfl (bkeeps_con k1 l p n c W hl hth hc)

theorem over : Rows.bufferKeepsRow.holds Try.pinned (OpenSpec.ofChange Rows.bufferKeepsSpec) :=
  OpenClaim.holds_of_wide 7 Try.f7 rfl rfl rfl rfl rfl rfl rfl ⟨rfl, rfl, rfl, rfl, rfl⟩ rfl rfl rfl rfl rfl (by kernel_rfl) Try.func7 (by kernel_rfl)
    (of_decide_eq_true (by kernel_rfl)) (by unfold Func.isWrapper; first | (rw [if_pos (by decide +kernel)]; kernel_rfl) | (rw [if_neg (by decide +kernel)]; exact ⟨rfl, rfl⟩))
    (fun os started H enc _ => lifted os started H enc)

theorem proved : Rows.BufferKeepsSaid := over
#print axioms proved
end Go.Proofs.Ytcaobkpfafcnjaa.bufferKeeps
