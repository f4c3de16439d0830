/-
  Part 12 of the proof of M7: the engine and the walks, in their order.
-/
import Derived.Test.YtgpmgnbjpfggmaaM710
set_option linter.unusedSimpArgs false
set_option linter.unusedVariables false
/-
  Elements with parts: structs that hold slices, and lists of them.
-/
set_option linter.unusedSimpArgs false
set_option linter.unusedVariables false
namespace Go.Eng

@[go_sem] theorem BoxK_func {K : S → World → Prop} {s : S} {u : World} {T : TypeId} {f : Fn} {a b : Array Value} {e : Nat} : BoxK (some e) K s u T (.v (.func f a b)) = (s.find e = none ∧ ∀ c, NewK K s e [.func f a b] T u c) := rfl
@[go_sem] theorem BoxK_map {K : S → World → Prop} {s : S} {u : World} {T : TypeId} {r : Option Nat} {e : Nat} : BoxK (some e) K s u T (.v (.map r)) = (s.find e = none ∧ ∀ c, NewK K s e [.map r] T u c) := rfl
@[go_sem] theorem BoxK_ptr {K : S → World → Prop} {s : S} {u : World} {T : TypeId} {r : Option Addr} {e : Nat} : BoxK (some e) K s u T (.v (.pointer r)) = (s.find e = none ∧ ∀ c, NewK K s e [.pointer r] T u c) := rfl
abbrev NEP (p q : Option Addr) : Prop := ∀ a b, p = some a → q = some b → a.block ≠ b.block
theorem NEP.symm {p q : Option Addr} (h : NEP p q) : NEP q p := fun a b ha hb e => h b a hb ha e.symm
theorem SubX.tr {p : Option Addr} {u v w : World} (h1 : SubX p u v) (h2 : SubX p v w) : SubX p u w := fun b o hb h hn => h2 b o hb (h1 b o hb h hn) hn
theorem SubX.thenS {p : Option Addr} {u v w : World} (h1 : SubX p u v) (h2 : Sub v w) : SubX p u w := fun b o hb h hn => h2 b o (h1 b o hb h hn) hn

/-- A slice that an element holds: what its elements are, where it lies, what is in it. -/
structure Part where
  T : TypeId
  sz : Nat
  p : Option Addr
  n : Nat
  c : Nat
  xs : List (List Value)

def There (u : World) (ps : List Part) : Prop := ∀ s ∈ ps, Sl u s.sz s.p s.n s.c s.xs
def Owned (u0 u : World) (ps : List Part) : Prop := ∀ s ∈ ps, Own u0 u s.T s.sz s.p s.n s.c s.xs
def Away (q : Option Addr) (ps : List Part) : Prop := ∀ s ∈ ps, NEP s.p q
def FreshPs (u : World) (ps : List Part) : Prop := ∀ s ∈ ps, FreshP u s.p

section
variable {u0 u u' : World} {ps qs : List Part} {q : Option Addr}
theorem There.mono (hs : Sub u u') (h : There u ps) : There u' ps := fun s hx => (h s hx).mono hs
theorem Owned.mono (hs : Sub u u') (h : Owned u0 u ps) : Owned u0 u' ps := fun s hx => (h s hx).mono hs
theorem Owned.anti {u1 : World} (hs : Sub u1 u0) (h : Owned u0 u ps) : Owned u1 u ps := fun s hx => (h s hx).anti hs
theorem Owned.there (h : Owned u0 u ps) : There u ps := fun s hx => (h s hx).sl
theorem Owned.fresh (h : Owned u0 u ps) : FreshPs u0 ps := fun s hx => (h s hx).fresh
theorem Owned.subX (h : Owned u0 u ps) (hx : SubX q u u') (ha : Away q ps) : Owned u0 u' ps := fun s hs => (h s hs).subX hx (ha s hs)
theorem There.subX (h : There u ps) (hx : SubX q u u') (ha : Away q ps) : There u' ps := fun s hs => (h s hs).subX hx (ha s hs)
theorem There.nil : There u [] := fun s hs => by cases hs
theorem Owned.nil : Owned u0 u [] := fun s hs => by cases hs
theorem There.append (h : There u ps) (h' : There u qs) : There u (ps ++ qs) := fun s hs => (List.mem_append.1 hs).elim (h s) (h' s)
theorem Owned.append (h : Owned u0 u ps) (h' : Owned u0 u qs) : Owned u0 u (ps ++ qs) := fun s hs => (List.mem_append.1 hs).elim (h s) (h' s)
theorem Away.append (h : Away q ps) (h' : Away q qs) : Away q (ps ++ qs) := fun s hs => (List.mem_append.1 hs).elim (h s) (h' s)
/-- What is new lies apart from what was known. -/
theorem Away.of_fresh {e sz n c : Nat} {xs : List (List Value)} (ho : Own u0 u e sz q n c xs) (hf : FreshPs u ps) : Away q ps := fun s hs => NEP.symm (ne_of_fresh ho (hf s hs))
theorem Away.of_new (h : Owned u0 u ps) (hf : FreshP u q) : Away q ps := fun s hs => ne_of_fresh (h s hs) hf
theorem Away.none : Away none ps := fun s hs a b _ hb => by cases hb
end

/-- How elements lie: their type, how many cells, their cells, their parts. -/
structure Kind (α : Type) where
  T : TypeId
  sz : Nat
  enc : α → List Value
  parts : α → List Part

section
variable {α : Type} (κ : Kind α)
/-- A list that is there. -/
structure EL (u : World) (p : Option Addr) (n c : Nat) (l : List α) : Prop where
  sl : Sl u κ.sz p n c (l.map κ.enc)
  fl : ∀ x ∈ l, There u (κ.parts x)
/-- A list of the call's own, with parts of its own. -/
structure EO (u0 u : World) (p : Option Addr) (n c : Nat) (l : List α) : Prop where
  own : Own u0 u κ.T κ.sz p n c (l.map κ.enc)
  fl : ∀ x ∈ l, Owned u0 u (κ.parts x)
  ne : ∀ x ∈ l, Away p (κ.parts x)
end

section
variable {α : Type} {κ : Kind α} {u0 u u' : World} {p : Option Addr} {n c : Nat} {l : List α}
theorem EL.mono (hs : Sub u u') (h : EL κ u p n c l) : EL κ u' p n c l := ⟨h.sl.mono hs, fun x hx => (h.fl x hx).mono hs⟩
theorem EO.mono (hs : Sub u u') (h : EO κ u0 u p n c l) : EO κ u0 u' p n c l := ⟨h.own.mono hs, fun x hx => (h.fl x hx).mono hs, h.ne⟩
theorem EO.anti {u1 : World} (hs : Sub u1 u0) (h : EO κ u0 u p n c l) : EO κ u1 u p n c l := ⟨h.own.anti hs, fun x hx => (h.fl x hx).anti hs, h.ne⟩
theorem EO.el (h : EO κ u0 u p n c l) : EL κ u p n c l := ⟨h.own.sl, fun x hx => (h.fl x hx).there⟩
theorem EL.len (h : EL κ u p n c l) : l.length = n := by simpa using h.sl.len
theorem EO.len (h : EO κ u0 u p n c l) : l.length = n := by simpa using h.own.len
theorem EL.nil_ (κ : Kind α) (u : World) : EL κ u none 0 0 [] := ⟨Sl.none_ _ _, by simp⟩
theorem EO.nil_ (κ : Kind α) (u0 u : World) : EO κ u0 u none 0 0 [] := ⟨Own.nil_ _ _ _ _, by simp, by simp⟩
theorem EL.at_ {k : Nat} {x : α} (h : EL κ u p n c l) (hx : l[k]? = some x) : There u (κ.parts x) := h.fl x (List.mem_of_getElem? hx)
theorem EO.subX {q : Option Addr} (h : EO κ u0 u p n c l) (hs : SubX q u u') (h1 : NEP p q) (h2 : ∀ x ∈ l, Away q (κ.parts x)) : EO κ u0 u' p n c l :=
  ⟨h.own.subX hs h1, fun x hx => (h.fl x hx).subX hs (h2 x hx), h.ne⟩
/-- One more at the end. -/
theorem EO.push {y : α} {p' : Option Addr} {c' : Nat} (h : EO κ u0 u p n c l) (hy : Owned u0 u (κ.parts y)) (ha : Away p (κ.parts y)) (ho : Own u0 u' κ.T κ.sz p' (n + 1) c' (l.map κ.enc ++ [κ.enc y]))
    (hx : SubX p u u') (hp : p' = p ∨ FreshP u p') : EO κ u0 u' p' (n + 1) c' (l ++ [y]) := by
  have hall : ∀ z ∈ l ++ [y], Owned u0 u (κ.parts z) ∧ Away p (κ.parts z) := fun z hz => by
    rcases List.mem_append.1 hz with hz | hz
    · exact ⟨h.fl z hz, h.ne z hz⟩
    · simp at hz; subst hz; exact ⟨hy, ha⟩
  refine ⟨by simpa using ho, fun z hz => (hall z hz).1.subX hx (hall z hz).2, fun z hz => ?_⟩
  rcases hp with rfl | hf
  · exact (hall z hz).2
  · exact Away.of_new (hall z hz).1 hf
/-- A list anew: of what was there, and of what is the call's own. -/
theorem EO.any {l' : List α} {p' : Option Addr} {n' c' : Nat} (h : EO κ u0 u p n c l) (hx : SubX p u u') (ho : Own u0 u' κ.T κ.sz p' n' c' (l'.map κ.enc)) (hp : p' = p ∨ FreshP u p')
    (hl : ∀ y ∈ l', (∃ x ∈ l, κ.parts y = κ.parts x) ∨ (Owned u0 u (κ.parts y) ∧ Away p (κ.parts y))) : EO κ u0 u' p' n' c' l' := by
  have hall : ∀ z ∈ l', Owned u0 u (κ.parts z) ∧ Away p (κ.parts z) := fun z hz => by
    rcases hl z hz with ⟨x, hxl, e⟩ | h1
    · rw [e]; exact ⟨h.fl x hxl, h.ne x hxl⟩
    · exact h1
  refine ⟨ho, fun z hz => (hall z hz).1.subX hx (hall z hz).2, fun z hz => ?_⟩
  rcases hp with rfl | hf
  · exact (hall z hz).2
  · exact Away.of_new (hall z hz).1 hf
/-- The block of the list is written anew; what is there now has parts as they were. -/
theorem EO.write {n' c' : Nat} {l' : List α} (h : EO κ u0 u p n c l) (hx : SubX p u u') (ho : Own u0 u' κ.T κ.sz p n' c' (l'.map κ.enc)) (hl : ∀ y ∈ l', ∃ x ∈ l, κ.parts y = κ.parts x) : EO κ u0 u' p n' c' l' := by
  refine ⟨ho, fun y hy => ?_, fun y hy => ?_⟩
  · obtain ⟨x, hxl, e⟩ := hl y hy
    rw [e]; exact (h.fl x hxl).subX hx (h.ne x hxl)
  · obtain ⟨x, hxl, e⟩ := hl y hy
    rw [e]; exact h.ne x hxl
end
end Go.Eng
