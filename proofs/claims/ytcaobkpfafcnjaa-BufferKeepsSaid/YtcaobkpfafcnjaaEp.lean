/-
  Engine, part P: trees of orders in which local variables are written.
-/
import Derived.Test.YtcaobkpfafcnjaaEo
set_option linter.unusedSimpArgs false
set_option linter.unusedVariables false
namespace Go.Eng

/-- Where orders meet again: some slots, some local variables, and what is known. -/
def JoinL {γ : Type} (pre : γ → List (Nat × SV)) (loc : γ → List (Nat × Loc)) (ρ : List (Nat × SV)) (σ : List (Nat × Loc)) (F : γ → World → Prop) (s : S) (u : World) : Prop := ∃ g, (⟨pre g ++ ρ, loc g ++ σ⟩ : S).le s ∧ F g u

theorem draw_treeL {P : Program} {u0 : World} {ops : Array Oper} {K : S → World → Prop} {ρ : List (Nat × SV)} {σ : List (Nat × Loc)} {u : World} (t : OT) (hok : okTreeF ops t = true) {γ : Type} (pre : γ → List (Nat × SV)) (loc : γ → List (Nat × Loc)) (F : γ → World → Prop)
    (h1 : vcT P u0 ops.toList (JoinL pre loc ρ σ F) t ⟨ρ, σ⟩ u) (h2 : ∀ g u', F g u' → K ⟨pre g ++ ρ, loc g ++ σ⟩ u') : AtDraw P u0 ops K ⟨ρ, σ⟩ u :=
  .inr (.inl ⟨t, hok, vcT_mono (fun _ u' ⟨g, hle, hF⟩ => .inr ⟨_, hle, h2 g u' hF⟩) t _ u h1⟩)

theorem JoinL_eq {γ : Type} {pre : γ → List (Nat × SV)} {loc : γ → List (Nat × Loc)} {ρ : List (Nat × SV)} {σ : List (Nat × Loc)} {F : γ → World → Prop} {s : S} {u : World} : JoinL pre loc ρ σ F s u = ∃ g, (⟨pre g ++ ρ, loc g ++ σ⟩ : S).le s ∧ F g u := rfl
attribute [go_sem] JoinL_eq

/-- A variable in memory. -/
def Cel (u : World) (b : Nat) (cs : List Value) (T : TypeId) : Prop := u.heap[b]? = some (.cells cs.toArray T (0, 0))
theorem Cel.mono {u u' : World} {b : Nat} {cs : List Value} {T : TypeId} (hs : Sub u u') (h : Cel u b cs T) : Cel u' b cs T := hs _ _ h cells_ne_junk

end Go.Eng
