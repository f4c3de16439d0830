/-
 Part 31 of the proof of Pj: the engine and the walks, in their order.
-/
import Derived.Test.YtlaefellhnkfbaaGreatPj11
import Derived.Test.YtlaefellhnkfbaaGreatPj24
import Derived.Test.YtlaefellhnkfbaaGreatPj30
set_option linter.unusedSimpArgs false
set_option linter.unusedVariables false
set_option maxRecDepth 10000
namespace Go.Eng
abbrev NE (p q : Option Addr) : Prop := ∀ a b, p = some a → q = some b → a.block ≠ b.block
theorem NE.symm {p q : Option Addr} (h : NE p q) : NE q p := fun a b ha hb e => h b a hb ha e.symm
theorem SubX.trans {p : Option Addr} {u v w : World} (h1 : SubX p u v) (h2 : SubX p v w) : SubX p u w := fun b o hb h hn => h2 b o hb (h1 b o hb h hn) hn
theorem SubX.then {p : Option Addr} {u v w : World} (h1 : SubX p u v) (h2 : Sub v w) : SubX p u w := fun b o hb h hn => h2 b o (h1 b o hb h hn) hn
theorem Cel.subX {u u' : World} {b : Nat} {cs : List Value} {T : TypeId} {p : Option Addr} (h : Cel u b cs T) (hs : SubX p u u') (hne : ∀ a, p = some a → b ≠ a.block) : Cel u' b cs T := hs _ _ hne h ar
theorem Cel.ne {u : World} {b : Nat} {cs : List Value} {T : TypeId} {p : Option Addr} (h : Cel u b cs T) (hf : bU u p) : ∀ a, p = some a → b ≠ a.block := fun a ha e => by
 have := hf a ha
 subst e
 exact ar (this _ h)
theorem DO.subX {u0 u u' : World} {TD TS : TypeId} {p q : Option Addr} {n c : Nat} {l : List PD} (h : DO u0 u TD TS p n c l) (hs : SubX q u u') (h1 : NE p q) (h2 : ∀ x ∈ l, NE x.p q) : DO u0 u' TD TS p n c l :=
 ⟨h.own.subX hs h1, fun x hx => (h.fl x hx).subX hs (h2 x hx), h.ne⟩
def cN (many : Int) : List GDesc → List GDesc → List UInt32 → List GDesc
 | _, out, [] => out
 | left, out, d :: r => if many ≤ (out.length : Int) then out else match left[d.toNat % left.length]? with
  | some x => cN many (left.take (d.toNat % left.length) ++ left.drop (d.toNat % left.length + 1)) (out ++ [x]) r
  | none => out
theorem aed (many : Int) (out : List GDesc) (r : List UInt32) : cN many [] out r = out := by
 cases r with
 | nil => rfl
 | cons d r => simp [cN]
theorem acX {many : Int} {left out : List GDesc} {r : List UInt32} (h : many ≤ (out.length : Int)) : cN many left out r = out := by
 cases r with
 | nil => rfl
 | cons d r => simp [cN, h]
def aja (l : List GDesc) (self : GDesc) (many : Int) (draws : List UInt32) (node : UInt8) : List GDesc := ⟨self.node, self.inc, 0, self.filter⟩ :: cN (many - 1) (bb l node) [] draws
theorem af9 {L : List UInt32} {k : Nat} {x : UInt32} (hx : L[k]? = some x) : L.drop k = x :: L.drop (k + 1) := by
 obtain ⟨h, rfl⟩ := List.getElem?_eq_some_iff.1 hx
 exact (List.getElem_cons_drop h).symm
end Go.Eng
namespace Go.Proofs.YtlaefellhnkfbaaGreat
open Go.Eng
attribute [local go_sem] GSpan.val GSpan.enc PD.val PD.enc
theorem find_neg {L : List GDesc} {node : UInt8} : gI L node < 0 ↔ bX L node = none := by
 unfold gI
 cases h : bX L node with
 | none => simp
 | some i => simp only; constructor; intro h; omega; intro h; cases h
end Go.Proofs.YtlaefellhnkfbaaGreat

set_option maxRecDepth 10000
namespace Go.Eng
theorem agr (many : Int) : ∀ (r : List UInt32) (left out : List GDesc) (x : GDesc), x ∈ cN many left out r → x ∈ left ∨ x ∈ out := by
 intro r
 induction r with
 | nil => intro left out x h; exact .inr h
 | cons d r ih =>
  intro left out x h
  rw [cN] at h
  split at h
  ·exact .inr h
  ·split at h
   ·rename_i y hy
    rcases ih _ _ x h with h | h
    ·rcases List.mem_append.1 h with h | h
     ·exact .inl (List.mem_of_mem_take h)
     ·exact .inl (List.mem_of_mem_drop h)
    ·rcases List.mem_append.1 h with h | h
     ·exact .inr h
     ·simp at h; subst h; exact .inl (List.mem_of_getElem? hy)
   ·exact .inr h
end Go.Eng
namespace Go.Proofs.YtlaefellhnkfbaaGreat
open Go.Eng
attribute [local go_sem] GSpan.val GSpan.enc PD.val PD.enc
end Go.Proofs.YtlaefellhnkfbaaGreat

set_option maxRecDepth 10000
namespace Go.Eng
def cy (L got : List GDesc) : List GDesc → List GDesc × Bool × List GDesc
 | [] => (L, false, [])
 | s :: r => if bX L s.node ≠ none ∧ bX got s.node = none then (bb L s.node, true, r) else cy L got r
def dt (got0 : List GDesc) (self : UInt8) (room : Int) : List GDesc → List GDesc → List GDesc → List GDesc
 | L, _, [] => L
 | L, S, d :: r =>
  if (bB L d self room).2 = true then dt got0 self room (bB L d self room).1 S r
  else if d.node = self ∨ d.inc = 0 ∨ bX L d.node ≠ none then dt got0 self room L S r
  else if (cy L got0 S).2.1 = true then dt got0 self room (bB (cy L got0 S).1 d self ((cy L got0 S).1.length + 1)).1 (cy L got0 S).2.2 r
  else dt got0 self room L (cy L got0 S).2.2 r
end Go.Eng
namespace Go.Proofs.YtlaefellhnkfbaaGreat
open Go.Eng
attribute [local go_sem] GSpan.val GSpan.enc PD.val PD.enc
end Go.Proofs.YtlaefellhnkfbaaGreat

set_option maxRecDepth 10000
namespace Go.Eng
end Go.Eng
namespace Go.Proofs.YtlaefellhnkfbaaGreat
open Go.Eng
attribute [local go_sem] GSpan.val GSpan.enc PD.val PD.enc
end Go.Proofs.YtlaefellhnkfbaaGreat
