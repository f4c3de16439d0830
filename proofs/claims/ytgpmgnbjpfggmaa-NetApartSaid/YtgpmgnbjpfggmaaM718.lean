/-
  Part 18 of the proof of M7: the engine and the walks, in their order.
-/
import Derived.Test.YtgpmgnbjpfggmaaM711
import Derived.Test.YtgpmgnbjpfggmaaM712
set_option linter.unusedSimpArgs false
set_option linter.unusedVariables false
/-
  Engine: ways that meet at a block's end, with local variables that differ; what stays behind a write to a map.
-/
set_option linter.unusedSimpArgs false
set_option linter.unusedVariables false
set_option linter.unusedSectionVars false
namespace Go.Eng
def JoinG {γ : Type} (id : Nat) (pre : γ → List (Nat × SV)) (ρ : List (Nat × SV)) (loc : γ → List (Nat × Loc)) (F : γ → World → Prop) (Q : Exit → S → World → Prop) (e : Exit) (s : S) (u : World) : Prop :=
  match e with
  | .normal => ∃ g, (⟨pre g ++ ρ, loc g⟩ : S).le s ∧ F g u
  | .exit j => bif j == id then (∃ g, (⟨pre g ++ ρ, loc g⟩ : S).le s ∧ F g u) else Q (.exit j) s u
  | e => Q e s u
section
variable {P : Program} {u0 : World}
theorem block_joinG {id : Nat} {x : Code} {Q : Exit → S → World → Prop} {ρ : List (Nat × SV)} {σ : List (Nat × Loc)} {u : World} {γ : Type} (pre : γ → List (Nat × SV)) (loc : γ → List (Nat × Loc)) (F : γ → World → Prop)
    (h1 : vc P u0 x (JoinG id pre ρ loc F Q) ⟨ρ, σ⟩ u) (h2 : ∀ g u', F g u' → Q .normal ⟨pre g ++ ρ, loc g⟩ u') : vc P u0 (.block id x) Q ⟨ρ, σ⟩ u := by
  refine vc_mono x _ _ _ u ?_ h1
  intro e s' u' hk
  cases e with
  | exit j =>
    simp only [BlockW, JoinG] at hk ⊢
    cases hb : (j == id) <;> simp only [hb, cond_true, cond_false] at hk ⊢
    · exact hk
    · obtain ⟨g, hle, hF⟩ := hk; exact .inr ⟨_, hle, h2 g u' hF⟩
  | normal => obtain ⟨g, hle, hF⟩ := hk; exact .inr ⟨_, hle, h2 g u' hF⟩
  | _ => exact hk
variable {Q : Exit → S → World → Prop} {u : World}
@[go_sem] theorem JoinG_normal {γ : Type} {id : Nat} {pre : γ → List (Nat × SV)} {ρ : List (Nat × SV)} {loc : γ → List (Nat × Loc)} {F : γ → World → Prop} {s : S} : JoinG id pre ρ loc F Q .normal s u = ∃ g, (⟨pre g ++ ρ, loc g⟩ : S).le s ∧ F g u := rfl
@[go_sem] theorem JoinG_exit {γ : Type} {id j : Nat} {pre : γ → List (Nat × SV)} {ρ : List (Nat × SV)} {loc : γ → List (Nat × Loc)} {F : γ → World → Prop} {s : S} : JoinG id pre ρ loc F Q (.exit j) s u = bif j == id then (∃ g, (⟨pre g ++ ρ, loc g⟩ : S).le s ∧ F g u) else Q (.exit j) s u := rfl
@[go_sem] theorem JoinG_ret {γ : Type} {id : Nat} {pre : γ → List (Nat × SV)} {ρ : List (Nat × SV)} {loc : γ → List (Nat × Loc)} {F : γ → World → Prop} {s : S} : JoinG id pre ρ loc F Q .ret s u = Q .ret s u := rfl
end

section
variable {κ : Type} [DecidableEq κ] {kv : κ → Value} {u u' : World} {r : Nat} {es : List (κ × Value)}
theorem SubR.cell (hs : SubR r u u') (hm : MapIs u kv r es) {a : Addr} {v : Value} (h : u.cell? a = some v) : u'.cell? a = some v := by
  obtain ⟨c, t, f, h1, h2, h3⟩ := cell?_some h
  obtain ⟨ts, ⟨⟨clock, h4, _⟩, _, _⟩, _⟩ := hm
  have hne : a.block ≠ r := fun e => by rw [e, h4] at h1; cases h1
  have h5 := hs _ _ hne h1 cells_ne_junk
  obtain ⟨b, o, s⟩ := a
  simp only at h2 h3 h5
  subst h2
  exact cell?_of h5 h3
theorem Sl.subR {sz : Nat} {p : Option Addr} {n c : Nat} {xs : List (List Value)} (hs : SubR r u u') (hm : MapIs u kv r es) (h : Sl u sz p n c xs) : Sl u' sz p n c xs :=
  ⟨h.len, h.cap, h.each, h.nil, fun a ha => ⟨(h.at_ a ha).1, fun i x hx j v hv => hs.cell hm ((h.at_ a ha).2 i x hx j v hv)⟩⟩
theorem There.subR {ps : List Part} (hs : SubR r u u') (hm : MapIs u kv r es) (h : There u ps) : There u' ps := fun s hx => (h s hx).subR hs hm
theorem EL.subR {α : Type} {k : Kind α} {p : Option Addr} {n c : Nat} {l : List α} (hs : SubR r u u') (hm : MapIs u kv r es) (h : EL k u p n c l) : EL k u' p n c l := ⟨h.sl.subR hs hm, fun x hx => (h.fl x hx).subR hs hm⟩
end
end Go.Eng
