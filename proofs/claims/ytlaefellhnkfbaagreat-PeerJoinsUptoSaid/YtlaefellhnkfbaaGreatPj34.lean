/-
 Part 34 of the proof of Pj: the engine and the walks, in their order.
-/
import Derived.Test.YtlaefellhnkfbaaGreatPj32
import Derived.Test.YtlaefellhnkfbaaGreatPj33
set_option linter.unusedSimpArgs false
set_option linter.unusedVariables false
namespace Go.Eng
def aam {γ : Type} (st : γ → DS) (F : γ → Prop) (Q : Exit → DS → Prop) (e : Exit) (ds : DS) : Prop :=
 match e with
 | .normal => ∃ g, leD (st g) ds ∧ F g
 | e => Q e ds
section
variable {γ : Type} {st : γ → DS} {F : γ → Prop} {Q : Exit → DS → Prop} {ds : DS} {P : Program} {x y : Code} {id : Nat}
theorem te : aam st F Q .normal ds = ∃ g, leD (st g) ds ∧ F g := rfl
theorem abF : aam st F Q .ret ds = Q .ret ds := rfl
theorem yU {j : Nat} : aam st F Q (.exit j) ds = Q (.exit j) ds := rfl
attribute [go_sem] te abF yU
theorem Vc2.seqJ (st : γ → DS) (F : γ → Prop) (hx : vc2 P x (aam st F Q) ds) (k : ∀ g, F g → Vc2 P y Q (st g)) : Vc2 P (.seq x y) Q ds := by
 intro u0 β0 β us s u h
 refine Vc.seq (Vc.mono ?_ (Vc2.of hx u0 β0 β us s u h))
 rintro e s' u' ⟨β', us', ds', h1, h2⟩
 cases e with
 | normal =>
  obtain ⟨g, hle, hF⟩ := h2
  obtain ⟨β1, s1, h3, h4⟩ := hle _ _ _ _ _ _ h1
  exact Vc.le h3 (k g hF _ _ _ _ _ _ h4)
 | exit j => exact ⟨β', us', ds', h1, h2⟩
 | ret => exact ⟨β', us', ds', h1, h2⟩
 | goto l => exact ⟨β', us', ds', h1, h2⟩
 | panic c => exact ⟨β', us', ds', h1, h2⟩
 | outgrown => exact ⟨β', us', ds', h1, h2⟩
theorem Vc2.blockV (h : Vc2 P x (cf id Q) ds) : Vc2 P (.block id x) Q ds := by
 intro u0 β0 β us s u hr
 refine Vc.blockW (Vc.mono ?_ (h u0 β0 β us s u hr))
 intro e s' u' hl
 cases e with
 | normal => exact LeK2.sound hl
 | exit j =>
  obtain ⟨β', us', ds', h1, h2⟩ := hl
  simp only [cf] at h2
  simp only [dZ]
  cases hb : (j == id) with
  | true => rw [hb] at h2; exact LeK2.sound ⟨β', us', ds', h1, h2⟩
  | false => rw [hb] at h2; exact ⟨β', us', ds', h1, h2⟩
 | ret => exact hl
 | goto l => exact hl
 | panic c => exact hl
 | outgrown => exact hl
theorem ag0 {body : Code} (st : γ → DS) (F : γ → Prop) (μ : γ → Nat) (g0 : γ) (hle : leD (st g0) ds) (hF : F g0)
  (hround : ∀ g, F g → Vc2 P body (fL st F μ g (cf id Q)) (st g)) : vc2 P (.block id (.loop body)) Q ds := ⟨γ, st, F, μ, ⟨g0, hle, hF⟩, hround⟩
theorem ta : lZ P y Q .normal ds = Vc2 P y Q ds := rfl
theorem abE : lZ P y Q .ret ds = Q .ret ds := rfl
theorem xb {j : Nat} : lZ P y Q (.exit j) ds = Q (.exit j) ds := rfl
attribute [go_sem] ta abE xb
theorem vf {body : Code} (st : γ → DS) (F : γ → Prop) (μ : γ → Nat) (g0 : γ) (hle : leD (st g0) ds) (hF : F g0)
  (hround : ∀ g, F g → vc2 P body (fL st F μ g (cf id Q)) (st g)) : vc2 P (.block id (.loop body)) Q ds := ⟨γ, st, F, μ, ⟨g0, hle, hF⟩, fun g h => Vc2.of (hround g h)⟩
theorem Vc2.sq (h : vc2 P x (lZ P y Q) ds) : Vc2 P (.seq x y) Q ds := Vc2.seq (Vc2.of h)
end
end Go.Eng
