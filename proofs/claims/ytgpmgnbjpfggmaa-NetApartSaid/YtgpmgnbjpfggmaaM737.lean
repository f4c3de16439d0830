/-
  NetApart is true of every input and never panics: what is handed out, and in, is nobody else's; written over, the net is as it was. No condition: the frame may lie in the net's own memory.
-/
import Derived.Test.YtgpmgnbjpfggmaaM732
import Derived.Test.YtgpmgnbjpfggmaaM736
set_option linter.unusedSimpArgs false
set_option linter.unusedVariables false
/-
  NetApart is true of every input and never panics: what is handed out, and in, is nobody else's; written over, the net is as it was. No condition: the frame may lie in the net's own memory.
-/
set_option linter.unusedVariables false
namespace Go.Proofs.Ytgpmgnbjpfggmaa.netApart
open Go.Eng Go.ChangeShapes Go.WideShapes Go.RowKit

section
variable {H : Type} {enc : TypeId × Value → H} {w : World} {base : Nat} {held : Bool}
theorem head_place {p : Option Addr} {n c : Nat} {d : DataW H} {ps : List MemPlace} (h : DataW.Trod enc Try.prog w base (fun _ => true) held 26 (.slice p n c) d ps) (hn : 0 < n) : ∀ a, p = some a → MemPlace.cell a.block a.off ∈ ps := by
  rintro a rfl
  obtain ⟨fuel, hf⟩ := h
  rcases Go.Deep.open_slice1 Try.underlying26 cells5 hf with ⟨hcs, _⟩ | ⟨b, len, cap, m, k, V, D, Pl, hcs, _, hlc, _, hmm, hx, _⟩
  · simp [Value.cells] at hcs
  · simp [Value.cells] at hcs
    obtain ⟨rfl, rfl, rfl⟩ := hcs
    simp only [if_true] at hmm
    have h2 := congrArg Prod.snd hx
    simp only at h2
    rw [h2]
    refine List.mem_append_left _ (List.mem_map.2 ⟨0, by simp; omega, by simp⟩)
end

set_option maxRecDepth 100000 in
theorem lifted (os : Os) (started : os.Started) (H : Type) (enc : TypeId × Value → H) :
    ReturnsInHanded {} Try.checked os 6 .any (Rows.netApartSpec.pre6 enc Try.prog Try.f6 Rows.netApartRow.domain false) (Rows.netApartSpec.post enc Try.prog Try.f6 false true false false) := by
  refine returnsInHanded_of_change_sized (C := Try.checked) own started (by kernel_rfl) Try.func6
    (ChangeSpec.witness6 (enc := enc) (C := Try.checked) false ⟨#[], #[.agg #[(.int .i64 0),(.slice none 0 0),(.int .i64 0)], (.int .u8 0), (.slice none 0 0)], []⟩ 8 (by kernel_rfl) (by kernel_rfl) (by kernel_rfl) (by kernel_rfl)) ?_
  intro W base args ds gs before hval0 hW hcnd hsz _
  have hval : ∀ (j : Nat) t v, Try.f6.params[j]? = some t → args[j]? = some v → Value.okWide Try.prog W .any base t v := hval0
  have hW' := hW
  obtain ⟨p, q, hA0, hV, rfl, hfz, hnd⟩ := hW
  have hA : DataW.TrodAll enc Try.prog W 0 (fun _ => true) true Try.f6.params.toList args.toList ds p := hA0
  rw [Try.params6] at hA hval
  obtain ⟨v0, vs0, d0, ds0, p0, q0, hargs, rfl, rfl, h0, r0⟩ := trodAll_cons hA
  obtain ⟨v1, vs1, d1, ds1, p1, q1, rfl, rfl, rfl, h1, r1⟩ := trodAll_cons r0
  obtain ⟨v2, vs2, d2, ds2, p2, q2, rfl, rfl, rfl, h2, r2⟩ := trodAll_cons r1
  obtain ⟨rfl, rfl, rfl⟩ := trodAll_nil r2
  obtain rfl : args = #[v0, v1, v2] := by cases args; simp_all
  obtain ⟨rfl, rfl⟩ := trodVars_none hV
  have hv0 := hval 0 25 v0 rfl rfl
  have hv1 := hval 1 5 v1 rfl rfl
  have hv2 := hval 2 26 v2 rfl rfl
  obtain ⟨n, hn, hnl⟩ := net_arg hv0 h0
  obtain ⟨b, rfl, hbn, hb⟩ := hv_net 33 5 hn
  obtain ⟨a1, rfl, _, _, w1⟩ := open_int Try.underlying5 hv1 h1
  obtain ⟨k1, rfl⟩ := u8_of w1
  obtain ⟨f, hf, _⟩ := bytes_arg hv2 h2
  obtain ⟨pf, nf, cf, rfl, hfs⟩ := hv_bytes hf
  have hz : ∀ a, pf = some a → 0 < nf → W.frozen? a = false := by
    intro a ha h0
    have h5 := head_place h2 h0 a ha
    have h6 := (hfs.at_ a ha).1 h0
    have h7 := hfz a.block a.off (by simp only [List.mem_append]; simp [h5])
    obtain ⟨ab, ao, asp⟩ := a
    cases h6
    exact h7
  have hbl : b.n ≤ 9223372036854775807 := by
    have h5 := hb.len
    rw [← hbn] at hnl
    simp [PN.net] at hnl
    omega
  exact calls_of_con (args := [_, _, _]) laid rowed full (by kernel_rfl) rfl Try.underlying4 (by kernel_rfl) hW' rfl (napart_con b k1 f pf nf cf W hb hbl hfs hz)

theorem over : Rows.netApartRow.holds Try.pinned (OpenSpec.ofChange Rows.netApartSpec) :=
  OpenClaim.holds_of_wide 6 Try.f6 rfl rfl rfl rfl rfl rfl rfl ⟨rfl, rfl, rfl, rfl, rfl⟩ rfl rfl rfl rfl rfl (by kernel_rfl) Try.func6 (by kernel_rfl)
    (of_decide_eq_true (by kernel_rfl)) (by unfold Func.isWrapper; first | (rw [if_pos (by decide +kernel)]; kernel_rfl) | (rw [if_neg (by decide +kernel)]; exact ⟨rfl, rfl⟩))
    (fun os started H enc _ => lifted os started H enc)

theorem proved : Rows.NetApartSaid := over
#print axioms proved
end Go.Proofs.Ytgpmgnbjpfggmaa.netApart
