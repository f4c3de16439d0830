/-
 Part 25 of the proof of Pj: the engine and the walks, in their order.
-/
import Derived.Test.YtlaefellhnkfbaaGreatPj11
import Derived.Test.YtlaefellhnkfbaaGreatPj22
import Derived.Test.YtlaefellhnkfbaaGreatPj24
set_option linter.unusedSimpArgs false
set_option linter.unusedVariables false
set_option maxRecDepth 10000
namespace Go.Eng
structure GW where
 some : Bool
 node : UInt8
 left : UInt8
 sent : List GDesc
deriving DecidableEq
structure PW where
 some : Bool
 node : UInt8
 left : UInt8
 p : Option Addr
 n : Nat
 c : Nat
 l : List PD
def PW.enc (w : PW) : List Value := [.bool w.some, .int .u8 w.node.toNat, .int .u8 w.left.toNat, .slice w.p w.n w.c]
def PW.val (w : PW) : Value := .agg #[.bool w.some, .int .u8 w.node.toNat, .int .u8 w.left.toNat, .slice w.p w.n w.c]
def PW.g (w : PW) : GW := ⟨w.some, w.node, w.left, ds w.l⟩
def u1 (x : UInt8) : UInt8 := if x = 0 then 1 else x
theorem yC (i : UInt8) : (if (i.toNat : Int) < 1 then 1 else (i.toNat : Int)) = ((u1 i).toNat : Int) := by
 unfold u1
 by_cases h : i = 0
 ·subst h; simp
 ·rw [if_neg h, if_neg]
  have : i.toNat ≠ 0 := fun e => h (UInt8.toNat_inj.1 (by simpa using e))
  omega
def sa : GW := ⟨false, 0, 0, []⟩
def kB (node left : UInt8) (sent : List GDesc) : GW := ⟨true, node, u1 left, sent⟩
def fR (w : GW) : GW × UInt8 × Bool := if w.some = true then (if w.left ≤ 1 then (sa, w.node, true) else (⟨true, w.node, w.left - 1, w.sent⟩, 0, false)) else (sa, 0, false)
def gJ (w : GW) (frm : UInt8) : GW × List GDesc × Bool := if w.some = true ∧ w.node = frm then (sa, w.sent, true) else (w, [], false)
def cZ (self : UInt8) (room : Int) : List GDesc → List GDesc → List GDesc
 | v, [] => v
 | v, d :: r => cZ self room (bB v d self room).1 r
def db (l : List GDesc) (d : GDesc) (self : UInt8) (room : Int) : List GDesc :=
 if (bB l d self room).2 = true then (bB l d self room).1
 else if d.node = self ∨ d.inc = 0 ∨ bX l d.node ≠ none then l
 else match o0 l with
  | none => l
  | some i => match l[i]? with
   | some o => (bB (bb l o.node) d self l.length).1
   | none => l
end Go.Eng
namespace Go.Proofs.YtlaefellhnkfbaaGreat
open Go.Eng
attribute [local go_sem] GSpan.val GSpan.enc PD.val PD.enc PW.val PW.enc
structure WL (u : World) (w : PW) : Prop where
 dl : DL u w.p w.n w.c w.l
 len : w.n ≤ 100
 small : ∀ x ∈ w.l, x.n ≤ 8
theorem WL.mono {u u' : World} {w : PW} (hs : Sub u u') (h : WL u w) : WL u' w := ⟨h.dl.mono hs, h.len, h.small⟩
theorem acj (self : UInt8) (room : Int) : ∀ (r : List GDesc) (v : List GDesc) (d : GDesc), cZ self room v (r ++ [d]) = (bB (cZ self room v r) d self room).1 := by
 intro r
 induction r with
 | nil => intro v d; rfl
 | cons x r ih => intro v d; simp only [List.cons_append, cZ]; exact ih _ d
theorem find_neg {L : List GDesc} {node : UInt8} : gI L node < 0 ↔ bX L node = none := by
 unfold gI
 cases h : bX L node with
 | none => simp
 | some i => simp only; constructor; intro h; omega; intro h; cases h
end Go.Proofs.YtlaefellhnkfbaaGreat
