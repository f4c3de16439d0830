/-
 Part 24 of the proof of Pj: the engine and the walks, in their order.
-/
import Derived.Test.YtlaefellhnkfbaaGreatPj22
import Derived.Test.YtlaefellhnkfbaaGreatPj23
set_option linter.unusedSimpArgs false
set_option linter.unusedVariables false
set_option maxRecDepth 10000
namespace Go.Eng
end Go.Eng
namespace Go.Proofs.YtlaefellhnkfbaaGreat
open Go.Eng
attribute [local go_sem] GSpan.val GSpan.enc PD.val PD.enc
structure VL (u : World) (me : UInt8) (N : Nat) (g : Option Addr × Nat × Nat) (l : List PD) : Prop where
 dl : DL u g.1 g.2.1 g.2.2 l
 vw : Vw me (ds l)
 len : g.2.1 ≤ N
 small : ∀ d ∈ ds l, d.filter.length ≤ 8
theorem VL.mono {u u' : World} {self : UInt8} {N : Nat} {g : Option Addr × Nat × Nat} {l : List PD} (hs : Sub u u') (h : VL u self N g l) : VL u' self N g l := ⟨h.dl.mono hs, h.vw, h.len, h.small⟩
theorem put_mem {l : List GDesc} {x : GDesc} {self : UInt8} {room : Int} : ∀ d ∈ (bB l x self room).1, d ∈ l ∨ d = x := by
 unfold bB
 intro d hd
 split at hd
 ·exact .inl hd
 ·split at hd
  ·split at hd
   ·split at hd
    ·exact List.mem_or_eq_of_mem_set hd
    ·exact .inl hd
   ·exact .inl hd
  ·split at hd
   ·exact .inl hd
   ·exact (lQ.1 hd).symm
end Go.Proofs.YtlaefellhnkfbaaGreat
