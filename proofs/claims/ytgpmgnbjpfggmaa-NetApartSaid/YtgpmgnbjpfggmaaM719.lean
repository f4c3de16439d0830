/-
  Part 19 of the proof of M7: the engine and the walks, in their order.
-/
import Derived.Test.YtgpmgnbjpfggmaaM712
set_option linter.unusedSimpArgs false
set_option linter.unusedVariables false
/-
  Engine: a world in which some blocks are forgotten: what the call owns may then be written over, and all else stays known.
-/
set_option linter.unusedSimpArgs false
set_option linter.unusedVariables false
namespace Go.Eng
def forget (u : World) : Option Addr → World
  | none => u
  | some a => { u with heap := u.heap.setIfInBounds a.block junk }
section
variable {u v u0 : World} {q : Option Addr}
theorem forget_ne {a : Addr} {b : Nat} (h : b ≠ a.block) : (forget u (some a)).heap[b]? = u.heap[b]? := by
  unfold forget
  simp only []
  rw [Array.getElem?_setIfInBounds_ne (fun e => h e.symm)]
theorem forget_eq {a : Addr} {o : Obj} (h : (forget u (some a)).heap[a.block]? = some o) : o = junk := by
  unfold forget at h
  simp only [] at h
  rw [Array.getElem?_setIfInBounds] at h
  simp only [if_true] at h
  split at h
  · cases h; rfl
  · cases h
theorem forget_sub (u : World) (q : Option Addr) : Sub (forget u q) u := fun b o hb ho => by
  cases q with
  | none => exact hb
  | some a =>
    by_cases e : b = a.block
    · subst e; exact absurd (forget_eq hb) ho
    · rw [forget_ne e] at hb; exact hb
theorem forget_fresh (u : World) (q : Option Addr) : FreshP (forget u q) q := fun a ha => by
  subst ha
  exact fun o ho => forget_eq ho
theorem forget_subX (u : World) (q : Option Addr) : SubX q u (forget u q) := fun b o hb h ho => by
  cases q with
  | none => exact h
  | some a => rw [forget_ne (hb a rfl)]; exact h
theorem forget_mono (h : Sub u v) (q : Option Addr) : Sub (forget u q) (forget v q) := fun b o hb ho => by
  cases q with
  | none => exact h b o hb ho
  | some a =>
    by_cases e : b = a.block
    · subst e; exact absurd (forget_eq hb) ho
    · rw [forget_ne e] at hb ⊢; exact h b o hb ho
theorem EO.forget {α : Type} {κ : Kind α} {p : Option Addr} {n c T sz m d : Nat} {l : List α} {xs : List (List Value)} {w : World} (hc : EO κ u v p n c l) (ho : Own u0 w T sz q m d xs) (hw : Sub w u) : EO κ u (forget v q) p n c l :=
  hc.subX (forget_subX v q) (NEP.symm (ne_of_fresh (ho.mono hw) hc.own.fresh)) (fun x hx => Away.of_fresh (ho.mono hw) (hc.fl x hx).fresh)
theorem Own.forget {p : Option Addr} {e sz' n c T sz m d : Nat} {ys xs : List (List Value)} {w : World} (hc : Own u v e sz' p n c ys) (ho : Own u0 w T sz q m d xs) (hw : Sub w u) : Own u (forget v q) e sz' p n c ys :=
  hc.subX (forget_subX v q) (NEP.symm (ne_of_fresh (ho.mono hw) hc.fresh))
theorem forget_of (h : Sub u0 u) (hf : FreshP u0 q) : Sub u0 (forget u q) := (forget_subX u q).sub h hf
/-- append to a slice without room: what is new lies apart from what was known. -/
theorem eff_append0f {x : Bool} {P : Program} {T e sz bytes ty : Nat} {u0 v u : World} {p q : Option Addr} {m d : Nat} {ys : List (List Value)} (hv : Sub v u) (hf : FreshP v p) (hT : elemT P T e sz bytes = true)
    (ho : Own u0 u e sz p 0 0 []) (hs : Sl u sz q m d ys) (h1 : allOnes ys) (hb : m * bytes ≤ 140737488355328) (hm : m ≤ 9223372036854775807) {K : Value → World → Prop}
    (hK : ∀ p' c' u', Own u0 u' e sz p' m c' ys → FreshP v p' → Sub u u' → K (.slice p' m c') u') :
    AtEff x P (bApp #[T, T] ty #[.slice p 0 0, .slice q m d]) u0 u K := by
  refine eff_append_s hT ho hs h1 (by rw [Nat.zero_add]; exact hb) (by omega) (.inr rfl) fun p' c' u' h1 h2 h3 => ?_
  rw [Nat.zero_add, List.nil_append] at h1
  rw [Nat.zero_add]
  rcases h3 with ⟨e1, e2, h3⟩ | ⟨hn, h3⟩
  · subst e1 e2
    refine hK p' 0 u' h1 hf ?_
    intro b o hb hn
    by_cases hbb : ∀ a, p' = some a → b ≠ a.block
    · exact h2 b o hbb hb hn
    · have : ∃ a, p' = some a ∧ b = a.block := Classical.byContradiction fun hc => hbb fun a ha e => hc ⟨a, ha, e⟩
      obtain ⟨a, ha, rfl⟩ := this
      rcases ho.at_ with ⟨k1, _⟩ | ⟨g, cur, k1, hg, _, _, k2, _⟩
      · rw [k1] at ha; cases ha
      rcases h1.at_ with ⟨l1, _⟩ | ⟨g2, cur2, l1, hg2, _, _, l2, _⟩
      · rw [l1] at ha; cases ha
      rw [k1] at ha l1
      cases ha; cases l1
      simp only at hb ⊢
      rw [hg] at hb; cases hb
      rw [hg2]
      rw [Nat.zero_mul] at k2 l2
      rw [Array.eq_empty_of_size_eq_zero k2, Array.eq_empty_of_size_eq_zero l2]
  · exact hK p' c' u' h1 (hn.anti hv) h3
end
end Go.Eng
