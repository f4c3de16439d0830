/-
 Part 21 of the proof of Pj: the engine and the walks, in their order.
-/
import Derived.Test.YtlaefellhnkfbaaGreatPj5
import Derived.Test.YtlaefellhnkfbaaGreatPj7
import Derived.Test.YtlaefellhnkfbaaGreatPj11
set_option linter.unusedSimpArgs false
set_option linter.unusedVariables false
namespace Go.Eng
theorem GSpan.ones (xs : List GSpan) : aW (xs.map GSpan.enc) := by intro y hy; obtain ⟨x, _, rfl⟩ := List.mem_map.1 hy; rfl
structure PD where
 d : GDesc
 p : Option Addr
 n : Nat
 c : Nat
def PD.enc (x : PD) : List Value := [.int .u8 x.d.node.toNat, .int .u16 x.d.inc.toNat, .int .u8 x.d.age.toNat, .slice x.p x.n x.c]
def PD.val (x : PD) : Value := .agg #[.int .u8 x.d.node.toNat, .int .u16 x.d.inc.toNat, .int .u8 x.d.age.toNat, .slice x.p x.n x.c]
theorem PD.cells (x : PD) : x.val.cells.toList = x.enc := rfl
theorem PD.ones (xs : List PD) : aW (xs.map PD.enc) := by intro y hy; obtain ⟨x, _, rfl⟩ := List.mem_map.1 hy; rfl
def Fl (u : World) (x : PD) : Prop := Sl u 2 x.p x.n x.c (x.d.filter.map GSpan.enc)
def Fo (u0 u : World) (TS : TypeId) (x : PD) : Prop := Own u0 u TS 2 x.p x.n x.c (x.d.filter.map GSpan.enc)
theorem Fl.mono {u u' : World} {x : PD} (hs : Sub u u') (h : Fl u x) : Fl u' x := Sl.mono hs h
theorem Fo.mono {u0 u u' : World} {TS : TypeId} {x : PD} (hs : Sub u u') (h : Fo u0 u TS x) : Fo u0 u' TS x := Own.mono hs h
theorem Fo.fl {u0 u : World} {TS : TypeId} {x : PD} (h : Fo u0 u TS x) : Fl u x := Own.sl h
theorem Fl.len {u : World} {x : PD} (h : Fl u x) : x.d.filter.length = x.n := by simpa using Sl.len h
structure DL (u : World) (p : Option Addr) (n c : Nat) (l : List PD) : Prop where
 sl : Sl u 4 p n c (l.map PD.enc)
 fl : ∀ x ∈ l, Fl u x
structure DSo (u0 u : World) (TD : TypeId) (p : Option Addr) (n c : Nat) (l : List PD) : Prop where
 own : Own u0 u TD 4 p n c (l.map PD.enc)
 fl : ∀ x ∈ l, Fl u x
structure DO (u0 u : World) (TD TS : TypeId) (p : Option Addr) (n c : Nat) (l : List PD) : Prop where
 own : Own u0 u TD 4 p n c (l.map PD.enc)
 fl : ∀ x ∈ l, Fo u0 u TS x
 ne : ∀ x ∈ l, ∀ a b, x.p = some a → p = some b → a.block ≠ b.block
section
variable {u0 u u' : World} {TD TS : TypeId} {p : Option Addr} {n c : Nat} {l : List PD}
theorem DL.mono (hs : Sub u u') (h : DL u p n c l) : DL u' p n c l := ⟨h.sl.mono hs, fun x hx => (h.fl x hx).mono hs⟩
theorem DSo.mono (hs : Sub u u') (h : DSo u0 u TD p n c l) : DSo u0 u' TD p n c l := ⟨h.own.mono hs, fun x hx => (h.fl x hx).mono hs⟩
theorem DO.mono (hs : Sub u u') (h : DO u0 u TD TS p n c l) : DO u0 u' TD TS p n c l := ⟨h.own.mono hs, fun x hx => (h.fl x hx).mono hs, h.ne⟩
theorem DO.ds (h : DO u0 u TD TS p n c l) : DSo u0 u TD p n c l := ⟨h.own, fun x hx => (h.fl x hx).fl⟩
theorem DSo.dl (h : DSo u0 u TD p n c l) : DL u p n c l := ⟨h.own.sl, h.fl⟩
theorem DO.dl (h : DO u0 u TD TS p n c l) : DL u p n c l := h.ds.dl
theorem DL.len (h : DL u p n c l) : l.length = n := by simpa using h.sl.len
theorem DSo.len (h : DSo u0 u TD p n c l) : l.length = n := by simpa using h.own.len
theorem DO.len (h : DO u0 u TD TS p n c l) : l.length = n := by simpa using h.own.len
theorem DO.write {n' : Nat} {l' : List PD} (h : DO u0 u TD TS p n c l) (hx : SubX p u u') (ho : Own u0 u' TD 4 p n' c (l'.map PD.enc))
  (hl : ∀ y ∈ l', ∃ x ∈ l, y.p = x.p ∧ y.n = x.n ∧ y.c = x.c ∧ y.d.filter = x.d.filter) : DO u0 u' TD TS p n' c l' := by
 refine ⟨ho, fun y hy => ?_, fun y hy => ?_⟩
 ·obtain ⟨x, hxl, h1, h2, h3, h4⟩ := hl y hy
  have := (h.fl x hxl).subX hx (h.ne x hxl)
  unfold Fo
  rw [h1, h2, h3, h4]
  exact this
 ·obtain ⟨x, hxl, h1, _⟩ := hl y hy
  rw [h1]
  exact h.ne x hxl
theorem DL.at_ {k : Nat} {x : PD} (h : DL u p n c l) (hx : l[k]? = some x) : Fl u x := h.fl x (List.mem_of_getElem? hx)
end
abbrev ds (l : List PD) : List GDesc := l.map PD.d
end Go.Eng
