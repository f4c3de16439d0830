/-
 bF 31 of the proof of Pb: the engine and the walks, in their order.
-/
import Derived.Test.YtlaefellhnkfbaaGreatPb11
import Derived.Test.YtlaefellhnkfbaaGreatPb24
import Derived.Test.YtlaefellhnkfbaaGreatPb30
set_option linter.unusedSimpArgs false
set_option linter.unusedVariables false
set_option maxRecDepth 10000
namespace Go.Eng
abbrev NE (p q : Option Addr) : Prop := ∀ a b, p = some a → q = some b → a.block ≠ b.block
theorem NE.symm {p q : Option Addr} (h : NE p q) : NE q p := fun a b ha hb e => h b a hb ha e.symm
theorem SubX.trans {p : Option Addr} {u v w : World} (h1 : SubX p u v) (h2 : SubX p v w) : SubX p u w := fun b o hb h hn => h2 b o hb (h1 b o hb h hn) hn
theorem SubX.then {p : Option Addr} {u v w : World} (h1 : SubX p u v) (h2 : Sub v w) : SubX p u w := fun b o hb h hn => h2 b o (h1 b o hb h hn) hn
theorem Cel.subX {u u' : World} {b : Nat} {cs : List Value} {T : TypeId} {p : Option Addr} (h : Cel u b cs T) (hs : SubX p u u') (hne : ∀ a, p = some a → b ≠ a.block) : Cel u' b cs T := hs _ _ hne h ap
theorem Cel.ne {u : World} {b : Nat} {cs : List Value} {T : TypeId} {p : Option Addr} (h : Cel u b cs T) (hf : bL u p) : ∀ a, p = some a → b ≠ a.block := fun a ha e => by
 have := hf a ha
 subst e
 exact ap (this _ h)
theorem DO.subX {u0 u u' : World} {TD TS : TypeId} {p q : Option Addr} {n c : Nat} {l : List PD} (h : DO u0 u TD TS p n c l) (hs : SubX q u u') (h1 : NE p q) (h2 : ∀ x ∈ l, NE x.p q) : DO u0 u' TD TS p n c l :=
 ⟨h.own.subX hs h1, fun x hx => (h.fl x hx).subX hs (h2 x hx), h.ne⟩
def cy (many : Int) : List GDesc → List GDesc → List UInt32 → List GDesc
 | _, out, [] => out
 | left, out, d :: r => if many ≤ (out.length : Int) then out else match left[d.toNat % left.length]? with
  | some x => cy many (left.take (d.toNat % left.length) ++ left.drop (d.toNat % left.length + 1)) (out ++ [x]) r
  | none => out
theorem aeR (many : Int) (out : List GDesc) (r : List UInt32) : cy many [] out r = out := by
 cases r with
 | nil => rfl
 | cons d r => simp [cy]
theorem zF {many : Int} {left out : List GDesc} {r : List UInt32} (h : many ≤ (out.length : Int)) : cy many left out r = out := by
 cases r with
 | nil => rfl
 | cons d r => simp [cy, h]
def ag3 (l : List GDesc) (self : GDesc) (many : Int) (draws : List UInt32) (node : UInt8) : List GDesc := ⟨self.node, self.inc, 0, self.filter⟩ :: cy (many - 1) (bb l node) [] draws
theorem adu {L : List UInt32} {k : Nat} {x : UInt32} (hx : L[k]? = some x) : L.drop k = x :: L.drop (k + 1) := by
 obtain ⟨h, rfl⟩ := List.getElem?_eq_some_iff.1 hx
 exact (List.getElem_cons_drop h).symm
end Go.Eng
namespace Go.Proofs.YtlaefellhnkfbaaGreat
open Go.Eng
attribute [local go_sem] GSpan.val GSpan.enc PD.val PD.enc
theorem find_neg {L : List GDesc} {node : UInt8} : kD L node < 0 ↔ cC L node = none := by
 unfold kD
 cases h : cC L node with
 | none => simp
 | some i => simp only; constructor; intro h; omega; intro h; cases h
end Go.Proofs.YtlaefellhnkfbaaGreat

set_option maxRecDepth 10000
namespace Go.Eng
theorem aeI (many : Int) : ∀ (r : List UInt32) (left out : List GDesc) (x : GDesc), x ∈ cy many left out r → x ∈ left ∨ x ∈ out := by
 intro r
 induction r with
 | nil => intro left out x h; exact .inr h
 | cons d r ih =>
  intro left out x h
  rw [cy] at h
  split at h
  ·exact .inr h
  ·split at h
   ·rename_i y hy
    rcases ih _ _ x h with h | h
    ·rcases List.mem_append.1 h with h | h
     ·exact .inl (List.mem_of_mem_take h)
     ·exact .inl (List.mem_of_mem_drop h)
    ·rcases List.mem_append.1 h with h | h
     ·exact .inr h
     ·simp at h; subst h; exact .inl (List.mem_of_getElem? hy)
   ·exact .inr h
end Go.Eng
namespace Go.Proofs.YtlaefellhnkfbaaGreat
open Go.Eng
attribute [local go_sem] GSpan.val GSpan.enc PD.val PD.enc
end Go.Proofs.YtlaefellhnkfbaaGreat

set_option maxRecDepth 10000
namespace Go.Eng
def cf (L got : List GDesc) : List GDesc → List GDesc × Bool × List GDesc
 | [] => (L, false, [])
 | s :: r => if cC L s.node ≠ none ∧ cC got s.node = none then (bb L s.node, true, r) else cf L got r
def cV (got0 : List GDesc) (self : UInt8) (room : Int) : List GDesc → List GDesc → List GDesc → List GDesc
 | L, _, [] => L
 | L, S, d :: r =>
  if (cP L d self room).2 = true then cV got0 self room (cP L d self room).1 S r
  else if d.node = self ∨ d.inc = 0 ∨ cC L d.node ≠ none then cV got0 self room L S r
  else if (cf L got0 S).2.1 = true then cV got0 self room (cP (cf L got0 S).1 d self ((cf L got0 S).1.length + 1)).1 (cf L got0 S).2.2 r
  else cV got0 self room L (cf L got0 S).2.2 r
end Go.Eng
namespace Go.Proofs.YtlaefellhnkfbaaGreat
open Go.Eng
attribute [local go_sem] GSpan.val GSpan.enc PD.val PD.enc
end Go.Proofs.YtlaefellhnkfbaaGreat

set_option maxRecDepth 10000
namespace Go.Eng
end Go.Eng
namespace Go.Proofs.YtlaefellhnkfbaaGreat
open Go.Eng
attribute [local go_sem] GSpan.val GSpan.enc PD.val PD.enc
end Go.Proofs.YtlaefellhnkfbaaGreat
