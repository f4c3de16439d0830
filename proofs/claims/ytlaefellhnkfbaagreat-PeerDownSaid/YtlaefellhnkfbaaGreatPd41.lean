/-
  PeerDown is true of every input and never panics: one that is down takes nothing, says nothing, wants nothing, and joins nobody; started it has an incarnation more, and nothing of what it had. No condition.
-/
import Derived.Test.YtlaefellhnkfbaaGreatPd38
import Derived.Test.YtlaefellhnkfbaaGreatPd40
set_option linter.unusedSimpArgs false
set_option linter.unusedVariables false
/-
  PeerDown is true of every input and never panics: one that is down takes nothing, says nothing, wants nothing, and joins nobody; started it has an incarnation more, and nothing of what it had. No condition.
-/
namespace Go.Proofs.YtlaefellhnkfbaaGreat.peerDown
open Go.Eng Go.ChangeShapes Go.WideShapes Go.RowKit
set_option maxRecDepth 100000 in
theorem lifted (os : Os) (started : os.Started) (H : Type) (enc : TypeId × Value → H) :
    ReturnsInHanded {} Tryz.checked os 4 .any (Rows.peerDownSpec.pre6 enc Tryz.prog Tryz.f4 Rows.peerDownRow.domain false) (Rows.peerDownSpec.post enc Tryz.prog Tryz.f4 false true false false) := by
  refine returnsInHanded_of_change_sized (C := Tryz.checked) own started (by kernel_rfl) Tryz.func4
    (ChangeSpec.witness6 (enc := enc) (C := Tryz.checked) false ⟨#[], #[.agg #[(.int .i64 0),(.slice none 0 0),(.int .i64 0),(.int .i64 0),(.int .i64 0),(.int .i64 0),(.int .i64 0),(.int .i64 0),(.int .i64 0),(.int .i64 0),(.int .i64 0),(.int .i64 0),(.int .i64 0),(.int .i64 0),(.int .u32 0)], (.int .u8 0), (.int .u16 0), .agg #[(.int .u8 0),(.int .u8 0),(.int .u16 0),(.slice none 0 0),(.int .u8 0),(.int .u8 0),(.int .u16 0),(.int .u8 0),(.slice none 0 0),(.slice none 0 0),(.int .u8 0),(.int .u16 0),(.int .u32 0),(.slice none 0 0),(.slice none 0 0),(.int .u8 0),(.int .u8 0),(.int .u16 0),(.int .u32 0),(.slice none 0 0),(.slice none 0 0),(.slice none 0 0)]], []⟩ 8 (by kernel_rfl) (by kernel_rfl) (by kernel_rfl) (by kernel_rfl)) ?_
  intro W base args ds gs before hval0 hW hcnd hsz _
  have hval : ∀ (j : Nat) t v, Tryz.f4.params[j]? = some t → args[j]? = some v → Value.okWide Tryz.prog W .any base t v := hval0
  have hW' := hW
  obtain ⟨p, q, hA0, hV, rfl, hfz, hnd⟩ := hW
  have hA : DataW.TrodAll enc Tryz.prog W 0 (fun _ => true) true Tryz.f4.params.toList args.toList ds p := hA0
  rw [Tryz.params4] at hA hval
  obtain ⟨v0, vs0, d0, ds0, p0, q0, hargs, rfl, rfl, h0, r0⟩ := trodAll_cons hA
  obtain ⟨v1, vs1, d1, ds1, p1, q1, rfl, rfl, rfl, h1, r1⟩ := trodAll_cons r0
  obtain ⟨v2, vs2, d2, ds2, p2, q2, rfl, rfl, rfl, h2, r2⟩ := trodAll_cons r1
  obtain ⟨v3, vs3, d3, ds3, p3, q3, rfl, rfl, rfl, h3, r3⟩ := trodAll_cons r2
  obtain ⟨rfl, rfl, rfl⟩ := trodAll_nil r3
  obtain rfl : args = #[v0, v1, v2, v3] := by cases args; simp_all
  obtain ⟨rfl, rfl⟩ := trodVars_none hV
  have hv0 := hval 0 26 v0 rfl rfl
  have hv1 := hval 1 5 v1 rfl rfl
  have hv2 := hval 2 30 v2 rfl rfl
  have hv3 := hval 3 75 v3 rfl rfl
  obtain ⟨c, hc, hcs, hcl⟩ := V.conf_arg hv0 h0
  obtain ⟨a1, rfl, _, _, w1⟩ := open_int Tryz.underlying5 hv1 h1
  obtain ⟨k1, rfl⟩ := u8_of w1
  obtain ⟨a2, rfl, _, _, w2⟩ := open_int Tryz.underlying30 hv2 h2
  obtain ⟨k2, rfl⟩ := u16_of w2
  obtain ⟨o, ho, hol, ho1, ho2, _⟩ := V.op_arg hv3 h3
  exact calls_of_con (args := [_, _, _, _]) laid rowed full (by kernel_rfl) rfl Tryz.underlying4 (by kernel_rfl) hW' rfl ((V.peerDown_con V.awake24_con c k1 k2 o hcl ho1 ho2).con (.cons hc (.cons (.plain rfl) (.cons (.plain rfl) (.one ho)))))
theorem over : Rows.peerDownRow.holds Tryz.pinned (OpenSpec.ofChange Rows.peerDownSpec) :=
  OpenClaim.holds_of_wide 4 Tryz.f4 rfl rfl rfl rfl rfl rfl rfl ⟨rfl, rfl, rfl, rfl, rfl⟩ rfl rfl rfl rfl rfl (by kernel_rfl) Tryz.func4 (by kernel_rfl)
    (of_decide_eq_true (by kernel_rfl)) (by unfold Func.isWrapper; first | (rw [if_pos (by decide +kernel)]; kernel_rfl) | (rw [if_neg (by decide +kernel)]; exact ⟨rfl, rfl⟩))
    (fun os started H enc _ => lifted os started H enc)
theorem proved : Rows.PeerDownSaid := over
#print axioms proved
end Go.Proofs.YtlaefellhnkfbaaGreat.peerDown
