/-
  Part 29 of the proof of W: the engine and the walks, in their order.
-/
import Derived.Test.YtcfkcmalkbdphaaW23
import Derived.Test.YtcfkcmalkbdphaaW28
set_option linter.unusedSimpArgs false
set_option linter.unusedVariables false
/-
  The law of descriptors: the chapter's examples, by the first engine's contract.
-/
set_option linter.unusedSimpArgs false
set_option linter.unusedVariables false
namespace Go.Eng
theorem resV_v {u u' : World} {x : Value} (hs : Sub u u') (hp : plain x = true) : ResV u u' (plR (.v x)) x := by
  refine ⟨noB, u, ⟨[(0, .v x)], []⟩, ⟨⟨Sub.refl u, Sub.refl u⟩, hs, fun t => ?_, fun k => ?_, fun id r hr => ?_, fun id _ => rfl, fun id _ => rfl, Nat.le_refl _, fun i j ri rj b _ hi => ?_⟩, rfl⟩
  · show HS u noB (DS.get ⟨[(0, .d (.v x))], [], [], 0, 0⟩ t) (S.get ⟨[(0, .v x)], []⟩ t)
    by_cases h : t = 0
    · subst h; exact ⟨x, rfl, rfl, hp⟩
    · have : DS.get ⟨[(0, .d (.v x))], [], [], 0, 0⟩ t = .unk := by (have hb : ((0 : Nat) == t) = false := by simp; omega); simp [DS.get, lk, hb]
      rw [this]; trivial
  · exact rfl
  · cases hr
  · cases hi
end Go.Eng
namespace Go.Proofs.Ytcfkcmalkbdphaa.V
open Go.Eng
theorem awake_con2 : Con2 Try.prog 14 [] (· = plR (.v (.bool true))) := by
  intro u vs hv
  cases hv
  obtain ⟨hb, h⟩ := Go.Proofs.Ytcfkcmalkbdphaa.awake_con u
  refine ⟨hb, fun w hw => ?_⟩
  refine (h w hw).mono ?_
  rintro e w' ⟨r, u', rfl, h1, h2, rfl⟩
  exact ⟨_, u', rfl, h1, h2, _, rfl, resV_v h2 rfl⟩
end Go.Proofs.Ytcfkcmalkbdphaa.V
