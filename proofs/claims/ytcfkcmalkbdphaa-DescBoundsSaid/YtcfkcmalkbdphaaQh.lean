/-
  DescBounds is true of every input and never panics: whatever is put, dropped and made older, a view stays one; a descriptor that was put is there, or a newer one is, or there was no room. No condition.
-/
import Derived.Test.YtcfkcmalkbdphaaHi
import Derived.Test.YtcfkcmalkbdphaaQb
set_option linter.unusedVariables false
namespace Go.Proofs.Ytcfkcmalkbdphaa.descBounds
open Go.Eng Go.ChangeShapes Go.WideShapes Go.RowKit

section
variable {H : Type} {enc : TypeId × Value → H} {w : World} {base : Nat} {sp : Nat → Bool} {held : Bool}
theorem u8_of_trod {n : Nat} {cs : List Value} {x : DataW H × List MemPlace} (h : DataW.trod enc Try.prog w base sp held n 5 cs = some x) : ∃ g : UInt8, cs = enc8 g ∧ True := by
  obtain ⟨i0, e0, _, w0⟩ := DataW.trod_int Try.underlying5 h
  obtain ⟨k0, rfl⟩ := u8_of w0
  exact ⟨k0, e0, trivial⟩
end

set_option maxRecDepth 100000 in
theorem lifted (os : Os) (started : os.Started) (H : Type) (enc : TypeId × Value → H) :
    ReturnsInHanded {} Try.checked os 6 .any (Rows.descBoundsSpec.pre6 enc Try.prog Try.f6 Rows.descBoundsRow.domain false) (Rows.descBoundsSpec.post enc Try.prog Try.f6 false true false false) := by
  refine returnsInHanded_of_change_sized (C := Try.checked) own started (by kernel_rfl) Try.func6
    (ChangeSpec.witness6 (enc := enc) (C := Try.checked) false ⟨#[], #[(.slice none 0 0), (.slice none 0 0), (.slice none 0 0), (.int .u8 0), (.int .u8 0)], []⟩ 8 (by kernel_rfl) (by kernel_rfl) (by kernel_rfl) (by kernel_rfl)) ?_
  intro W base args ds gs before hval0 hW hcnd hsz _
  have hval : ∀ (j : Nat) t v, Try.f6.params[j]? = some t → args[j]? = some v → Value.okWide Try.prog W .any base t v := hval0
  have hW' := hW
  obtain ⟨p, q, hA0, hV, rfl, hfz, hnd⟩ := hW
  have hA : DataW.TrodAll enc Try.prog W 0 (fun _ => true) true Try.f6.params.toList args.toList ds p := hA0
  rw [Try.params6] at hA hval
  obtain ⟨v0, vs0, d0, ds0, p0, q0, hargs, rfl, rfl, h0, r0⟩ := trodAll_cons hA
  obtain ⟨v1, vs1, d1, ds1, p1, q1, rfl, rfl, rfl, h1, r1⟩ := trodAll_cons r0
  obtain ⟨v2, vs2, d2, ds2, p2, q2, rfl, rfl, rfl, h2, r2⟩ := trodAll_cons r1
  obtain ⟨v3, vs3, d3, ds3, p3, q3, rfl, rfl, rfl, h3, r3⟩ := trodAll_cons r2
  obtain ⟨v4, vs4, d4, ds4, p4, q4, rfl, rfl, rfl, h4, r4⟩ := trodAll_cons r3
  obtain ⟨rfl, rfl, rfl⟩ := trodAll_nil r4
  obtain rfl : args = #[v0, v1, v2, v3, v4] := by cases args; simp_all
  obtain ⟨rfl, rfl⟩ := trodVars_none hV
  have hv0 := hval 0 22 v0 rfl rfl
  have hv1 := hval 1 22 v1 rfl rfl
  have hv2 := hval 2 47 v2 rfl rfl
  have hv3 := hval 3 5 v3 rfl rfl
  have hv4 := hval 4 5 v4 rfl rfl
  obtain ⟨pa, n, c, l, rfl, hl, hc, _⟩ := descs_of hv0 h0
  obtain ⟨pb, m, e, more, rfl, hm, hmn, _⟩ := descs_of hv1 h1
  obtain ⟨pd, nd, cd, drops, rfl, hd, _, _, _⟩ := sl_of_trodR (encα := enc8) Try.underlying47 cells5 (by omega) hv2 (fun n cs x h => u8_of_trod h) (fun g => rfl) h2
  obtain ⟨a3, rfl, _, _, w3⟩ := open_int Try.underlying5 hv3 h3
  obtain ⟨k3, rfl⟩ := u8_of w3
  obtain ⟨a4, rfl, _, _, w4⟩ := open_int Try.underlying5 hv4 h4
  obtain ⟨k4, rfl⟩ := u8_of w4
  exact calls_of_con (args := [_, _, _, _, _]) laid rowed full (by kernel_rfl) rfl Try.underlying4 (by kernel_rfl) hW' rfl (bounds_con l more drops k3 k4 pa pb pd n c m e nd cd W hl hm hd hc hmn)

theorem over : Rows.descBoundsRow.holds Try.pinned (OpenSpec.ofChange Rows.descBoundsSpec) :=
  OpenClaim.holds_of_wide 6 Try.f6 rfl rfl rfl rfl rfl rfl rfl ⟨rfl, rfl, rfl, rfl, rfl⟩ rfl rfl rfl rfl rfl (by kernel_rfl) Try.func6 (by kernel_rfl)
    (of_decide_eq_true (by kernel_rfl)) (by unfold Func.isWrapper; first | (rw [if_pos (by decide +kernel)]; kernel_rfl) | (rw [if_neg (by decide +kernel)]; exact ⟨rfl, rfl⟩))
    (fun os started H enc _ => lifted os started H enc)

theorem proved : Rows.DescBoundsSaid := over
#print axioms proved
end Go.Proofs.Ytcfkcmalkbdphaa.descBounds
