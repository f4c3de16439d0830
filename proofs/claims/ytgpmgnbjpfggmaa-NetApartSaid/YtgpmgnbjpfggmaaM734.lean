/-
  Part 34 of the proof of M7: the engine and the walks, in their order.
-/
import Derived.Test.YtgpmgnbjpfggmaaM728
import Derived.Test.YtgpmgnbjpfggmaaM733
set_option linter.unusedSimpArgs false
set_option linter.unusedVariables false
/-
  Arguments as data of the data level.
-/
set_option linter.unusedSimpArgs false
set_option linter.unusedVariables false
namespace Go.Eng
open Go.ChangeShapes Go.WideShapes Go.RowKit

section
variable {H : Type} {enc : TypeId × Value → H} {P : Program} {W : World}

theorem HVss.choose {α : Type} {R : α → Prop} {encα : α → List DV} {us : World} : ∀ {V : List (List Value)}, (∀ cs ∈ V, ∃ g : α, HVs us (encα g) noB cs ∧ R g) → ∃ l : List α, HVss us (l.map encα) V ∧ ∀ g ∈ l, R g
  | [], _ => ⟨[], rfl, by simp⟩
  | cs :: V, h => by
    obtain ⟨g, h1, h2⟩ := h cs List.mem_cons_self
    obtain ⟨l, h3, h4⟩ := HVss.choose (V := V) (fun c hc => h c (List.mem_cons_of_mem _ hc))
    exact ⟨g :: l, ⟨cs, V, rfl, h1, h3⟩, fun x hx => by
      rcases List.mem_cons.1 hx with rfl | hx
      · exact h2
      · exact h4 x hx⟩

/-- A slice, of elements that are read. -/
theorem fz_of_cells {α : Type} {R : α → Prop} {t e : TypeId} {sz base fuel : Nat} {sp : Nat → Bool} {held : Bool} {cs : List Value} {x : DataW H × List MemPlace} {encα : α → List DV} (ht : P.underlying t = some (.slice e)) (hc : P.cellsOf e = sz)
    (hsz : 0 < sz) (hone : ∀ g, onesD (encα g) = true) (hlen : ∀ g, (encα g).length = sz) (helt : ∀ n cs x, DataW.trod enc P W base sp held n e cs = some x → ∃ g, HVs W (encα g) noB cs ∧ R g)
    (h : DataW.trod enc P W base sp held fuel t cs = some x) : ∃ l : List α, HVs W [.fz sz (l.map encα)] noB cs ∧ (∀ g ∈ l, R g) ∧ l.length ≤ 9223372036854775807 := by
  obtain ⟨p, n, c, l, rfl, hs, hcm, hR, _⟩ := sl_of_cells (α := {cs : List Value // cs.length = sz}) (R := fun cs => ∃ g, HVs W (encα g) noB cs.1 ∧ R g) (encα := fun cs => cs.1) ht hc hsz
    (fun n cs x h => by
      obtain ⟨g, h1, h2⟩ := helt n cs x h
      exact ⟨⟨cs, by rw [h1.length, hlen]⟩, rfl, g, h1, h2⟩) (fun g => g.2) h
  obtain ⟨l', h1, h2⟩ := HVss.choose (us := W) (R := R) (encα := encα) (V := l.map fun cs => cs.1) (fun cs hcs => by
    obtain ⟨y, hy, rfl⟩ := List.mem_map.1 hcs
    exact hR y hy)
  have hl := h1.length
  have hcap := hs.cap
  have hln := hs.len
  simp only [maxLen] at hcm
  refine ⟨l', ⟨_, [], rfl, ⟨p, n, c, _, rfl, hs, fun y hy => ?_, h1⟩, rfl⟩, h2, ?_⟩
  · refine HVs.allOnes_ h1 (fun y hy => ?_) y hy
    obtain ⟨g, _, rfl⟩ := List.mem_map.1 hy
    exact hone g
  · simp only [List.length_map] at hl hln
    omega
/-- .. an argument. -/
theorem fz_of_trod {α : Type} {R : α → Prop} {t e : TypeId} {sz base b0 : Nat} {sp : Nat → Bool} {held : Bool} {v : Value} {d : DataW H} {ps : List MemPlace} {encα : α → List DV} (ht : P.underlying t = some (.slice e)) (hc : P.cellsOf e = sz)
    (hsz : 0 < sz) (hval : Value.okWide P W .any b0 t v) (hone : ∀ g, onesD (encα g) = true) (hlen : ∀ g, (encα g).length = sz) (helt : ∀ n cs x, DataW.trod enc P W base sp held n e cs = some x → ∃ g, HVs W (encα g) noB cs ∧ R g)
    (h : DataW.Trod enc P W base sp held t v d ps) : ∃ l : List α, HV W (.fz sz (l.map encα)) noB v ∧ (∀ g ∈ l, R g) ∧ l.length ≤ 9223372036854775807 := by
  obtain ⟨a0, len0, cap0, rfl⟩ := okWide_slice ht hval
  obtain ⟨fuel, hf⟩ := h
  obtain ⟨l, ⟨v, V, e1, h1, h2⟩, h3, h4⟩ := fz_of_cells ht hc hsz hone hlen helt hf
  have : v = .slice a0 len0 cap0 := by
    have : [Value.slice a0 len0 cap0] = v :: V := e1
    cases this; rfl
  subst this
  exact ⟨l, h1, h3, h4⟩
/-- A struct argument. -/
theorem agg_of_cells {b0 : Nat} {t : TypeId} {fs : Array Field} {v : Value} {ds : List DV} (ht : P.underlying t = some (.struct fs)) (hval : Value.okWide P W .any b0 t v) (h : HVs W ds noB v.cells.toList) : HV W (.agg ds) noB v := by
  obtain ⟨cs, rfl, hs⟩ := okWide_struct ht hval
  exact ⟨cs.toList, by simp, h⟩
theorem HV.plain {x : Value} (h : plain x = true) : HV W (.v x) noB x := ⟨rfl, h⟩
theorem HVs.cons {d : DV} {ds : List DV} {v : Value} {V : List Value} (h1 : HV W d noB v) (h2 : HVs W ds noB V) : HVs W (d :: ds) noB (v :: V) := ⟨v, V, rfl, h1, h2⟩
/-- From a contract on data to the row's words. -/
theorem Con2.con {f : FuncId} {fargs : List DV} {vs : List Value} (h : Con2 P f fargs (· = plR (.v (.bool true)))) (hv : HVs W fargs noB vs) : Con P f vs W (fun r _ => r = .bool true) := by
  obtain ⟨h1, h2⟩ := h W vs hv
  refine ⟨h1, fun w hw => (h2 w hw).mono ?_⟩
  rintro e w' ⟨r, u', rfl, hst, hs, r', rfl, β, us, s, hr, hg⟩
  have h0 := hr.slot 0
  rw [hg] at h0
  obtain ⟨w0, e0, hd⟩ : ∃ w, SV.v r = .v w ∧ HV us (.v (.bool true)) β w := h0
  cases e0
  exact ⟨r, u', rfl, hst, hs, hd.1⟩
end
end Go.Eng
