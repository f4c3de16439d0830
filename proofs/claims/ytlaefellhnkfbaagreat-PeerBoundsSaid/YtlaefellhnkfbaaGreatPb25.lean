/-
 bF 25 of the proof of Pb: the engine and the walks, in their order.
-/
import Derived.Test.YtlaefellhnkfbaaGreatPb11
import Derived.Test.YtlaefellhnkfbaaGreatPb22
import Derived.Test.YtlaefellhnkfbaaGreatPb24
set_option linter.unusedSimpArgs false
set_option linter.unusedVariables false
set_option maxRecDepth 10000
namespace Go.Eng
structure GW where
 some : Bool
 node : UInt8
 left : UInt8
 sent : List GDesc
deriving DecidableEq
structure PW where
 some : Bool
 node : UInt8
 left : UInt8
 p : Option Addr
 n : Nat
 c : Nat
 l : List PD
def PW.enc (w : PW) : List Value := [.bool w.some, .int .u8 w.node.toNat, .int .u8 w.left.toNat, .slice w.p w.n w.c]
def PW.val (w : PW) : Value := .agg #[.bool w.some, .int .u8 w.node.toNat, .int .u8 w.left.toNat, .slice w.p w.n w.c]
def PW.g (w : PW) : GW := ⟨w.some, w.node, w.left, ds w.l⟩
def u1 (x : UInt8) : UInt8 := if x = 0 then 1 else x
theorem xQ (i : UInt8) : (if (i.toNat : Int) < 1 then 1 else (i.toNat : Int)) = ((u1 i).toNat : Int) := by
 unfold u1
 by_cases h : i = 0
 ·subst h; simp
 ·rw [if_neg h, if_neg]
  have : i.toNat ≠ 0 := fun e => h (UInt8.toNat_inj.1 (by simpa using e))
  omega
def qb : GW := ⟨false, 0, 0, []⟩
def j7 (node left : UInt8) (sent : List GDesc) : GW := ⟨true, node, u1 left, sent⟩
def fw (w : GW) : GW × UInt8 × Bool := if w.some = true then (if w.left ≤ 1 then (qb, w.node, true) else (⟨true, w.node, w.left - 1, w.sent⟩, 0, false)) else (qb, 0, false)
def fO (w : GW) (frm : UInt8) : GW × List GDesc × Bool := if w.some = true ∧ w.node = frm then (qb, w.sent, true) else (w, [], false)
def dF (self : UInt8) (room : Int) : List GDesc → List GDesc → List GDesc
 | v, [] => v
 | v, d :: r => dF self room (cP v d self room).1 r
def eM (l : List GDesc) (d : GDesc) (self : UInt8) (room : Int) : List GDesc :=
 if (cP l d self room).2 = true then (cP l d self room).1
 else if d.node = self ∨ d.inc = 0 ∨ cC l d.node ≠ none then l
 else match xB l with
  | none => l
  | some i => match l[i]? with
   | some o => (cP (bb l o.node) d self l.length).1
   | none => l
end Go.Eng
namespace Go.Proofs.YtlaefellhnkfbaaGreat
open Go.Eng
attribute [local go_sem] GSpan.val GSpan.enc PD.val PD.enc PW.val PW.enc
structure WL (u : World) (w : PW) : Prop where
 dl : DL u w.p w.n w.c w.l
 len : w.n ≤ 100
 small : ∀ x ∈ w.l, x.n ≤ 8
theorem WL.mono {u u' : World} {w : PW} (hs : Sub u u') (h : WL u w) : WL u' w := ⟨h.dl.mono hs, h.len, h.small⟩
theorem aag (self : UInt8) (room : Int) : ∀ (r : List GDesc) (v : List GDesc) (d : GDesc), dF self room v (r ++ [d]) = (cP (dF self room v r) d self room).1 := by
 intro r
 induction r with
 | nil => intro v d; rfl
 | cons x r ih => intro v d; simp only [List.cons_append, dF]; exact ih _ d
theorem find_neg {L : List GDesc} {node : UInt8} : kD L node < 0 ↔ cC L node = none := by
 unfold kD
 cases h : cC L node with
 | none => simp
 | some i => simp only; constructor; intro h; omega; intro h; cases h
end Go.Proofs.YtlaefellhnkfbaaGreat
