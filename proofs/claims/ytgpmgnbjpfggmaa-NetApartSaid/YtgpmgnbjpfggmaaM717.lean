/-
  Part 17 of the proof of M7: the engine and the walks, in their order.
-/
import Derived.Test.YtgpmgnbjpfggmaaM78
import Derived.Test.YtgpmgnbjpfggmaaM716
set_option linter.unusedSimpArgs false
set_option linter.unusedVariables false
/-
  Closed facts on the types of the program, for the data level.
-/
namespace Go.Proofs.Ytgpmgnbjpfggmaa.Ty
open Go.Eng
@[go_sem] theorem zeroD3 : zeroD Try.prog 3 = some [.v (.int .i64 0)] := by kernel_rfl
@[go_sem] theorem zeroD4 : zeroD Try.prog 4 = some [.v (.bool false)] := by kernel_rfl
@[go_sem] theorem zeroD5 : zeroD Try.prog 5 = some [.v (.int .u8 0)] := by kernel_rfl
@[go_sem] theorem undI5 : Program.underlying Try.prog 5 = some (.int .u8) := by kernel_rfl
@[go_sem] theorem zeroD9 : zeroD Try.prog 9 = some [.v (.string ByteArray.empty)] := by kernel_rfl
@[go_sem] theorem undS9 : Program.underlying Try.prog 9 = some .string := by kernel_rfl
@[go_sem] theorem zeroD22 : zeroD Try.prog 22 = some [.v (.slice none 0 0)] := by kernel_rfl
@[go_sem] theorem elOf22 : elOf Try.prog 22 = some (26, 1, 24) := by kernel_rfl
@[go_sem] theorem zeroD23 : zeroD Try.prog 23 = some [.v (.slice none 0 0)] := by kernel_rfl
@[go_sem] theorem elOf23 : elOf Try.prog 23 = some (33, 3, 32) := by kernel_rfl
@[go_sem] theorem zeroD25 : zeroD Try.prog 25 = some [.v (.int .i64 0), .v (.slice none 0 0), .v (.int .i64 0)] := by kernel_rfl
@[go_sem] theorem places25 : places Try.prog 25 = some [(0, 1), (1, 1), (2, 1)] := by kernel_rfl
@[go_sem] theorem zeroD26 : zeroD Try.prog 26 = some [.v (.slice none 0 0)] := by kernel_rfl
@[go_sem] theorem isBy26 : isBy Try.prog 26 = true := by kernel_rfl
@[go_sem] theorem undSl26 : Program.underlying Try.prog 26 = some (.slice 5) := by kernel_rfl
@[go_sem] theorem elOf26 : elOf Try.prog 26 = some (5, 1, 1) := by kernel_rfl
@[go_sem] theorem zeroD29 : zeroD Try.prog 29 = some [.v (.int .i64 0)] := by kernel_rfl
@[go_sem] theorem zeroD33 : zeroD Try.prog 33 = some [.v (.int .u8 0), .v (.bool false), .v (.slice none 0 0)] := by kernel_rfl
@[go_sem] theorem places33 : places Try.prog 33 = some [(0, 1), (1, 1), (2, 1)] := by kernel_rfl
@[go_sem] theorem zeroD37 : zeroD Try.prog 37 = some [.v (.int .u32 0)] := by kernel_rfl
@[go_sem] theorem zeroD49 : zeroD Try.prog 49 = some [.v (.nilFunc)] := by kernel_rfl
@[go_sem] theorem isFnT49 : isFnT Try.prog 49 = True := by kernel_rfl
@[go_sem] theorem zeroD58 : zeroD Try.prog 58 = some [.v (.nilFunc)] := by kernel_rfl
@[go_sem] theorem isFnT58 : isFnT Try.prog 58 = True := by kernel_rfl

end Go.Proofs.Ytgpmgnbjpfggmaa.Ty

/-
  Net: data; the document's copies.
-/
set_option linter.unusedSimpArgs false
set_option linter.unusedVariables false
namespace Go.Eng
structure GPar where
  to : UInt8
  bent : Bool
  b : List UInt8
deriving DecidableEq
structure GNet where
  room : Int
  l : List GPar
  lost : Int
deriving DecidableEq
def bytesD (b : List UInt8) : DV := .fz 1 (b.map encBD)
def GPar.enc (p : GPar) : List DV := [.v (.int .u8 p.to.toNat), .v (.bool p.bent), bytesD p.b]
def GNet.dv (n : GNet) : DV := .agg [.v (.int .i64 n.room), .fz 3 (n.l.map GPar.enc), .v (.int .i64 n.lost)]
/-- A net, small. -/
def GNet.ok (n : GNet) : Prop := n.l.length ≤ 1000 ∧ ∀ p ∈ n.l, p.b.length ≤ 1000
def GNet.res (n : GNet) : Res := ⟨.agg [.v (.int .i64 n.room), .rf 0 0 n.l.length, .v (.int .i64 n.lost)], [(0, .arr 33 3 (n.l.map GPar.enc) false)], 1⟩
def GNet.put (n : GNet) (p : GPar) : GNet := if (n.l.length : Int) < n.room then { n with l := n.l ++ [p] } else { n with lost := IntKind.i64.wrap (n.lost + 1) }
def GNet.del (n : GNet) (i : Nat) : GNet := { n with l := n.l.eraseIdx i }
def GNet.there (n : GNet) (at_ : Int) : Bool := decide (0 ≤ at_) && decide (at_ < n.l.length)
/-- What is taken, and what is left; an error. -/
def GNet.takeR (n : GNet) (p : GPar) (m : GNet) : Res := ⟨.tup [.agg [.v (.int .u8 p.to.toNat), .v (.bool p.bent), .rf 0 0 p.b.length], .agg [.v (.int .i64 m.room), .rf 1 0 m.l.length, .v (.int .i64 m.lost)], .v (.int .i64 0)], [(1, .arr 33 3 (m.l.map GPar.enc) false), (0, .arr 5 1 (p.b.map encBD) false)], 2⟩
def GNet.takeN (n : GNet) : Res := ⟨.tup [.agg [.v (.int .u8 0), .v (.bool false), .v (.slice none 0 0)], .agg [.v (.int .i64 n.room), .rf 0 0 n.l.length, .v (.int .i64 n.lost)], .v (.int .i64 2)], [(0, .arr 33 3 (n.l.map GPar.enc) false)], 1⟩
def GNet.resE (n : GNet) (e : Int) : Res := ⟨.tup [.agg [.v (.int .i64 n.room), .rf 0 0 n.l.length, .v (.int .i64 n.lost)], .v (.int .i64 e)], [(0, .arr 33 3 (n.l.map GPar.enc) false)], 1⟩
theorem GNet.there_nat {n : GNet} {k : Nat} (h : k < n.l.length) : n.there k = true := by simp [GNet.there, h]
theorem GNet.there_get {n : GNet} {i : Int} (h : n.there i = true) : ∃ k : Nat, i = k ∧ k < n.l.length := by
  simp only [GNet.there, Bool.and_eq_true, decide_eq_true_eq] at h
  exact ⟨i.toNat, by omega, by omega⟩
end Go.Eng
namespace Go.Proofs.Ytgpmgnbjpfggmaa
open Go.Eng
attribute [local go_sem] GPar.enc bytesD GNet.dv

theorem rparcel_con (p : GPar) (hb : p.b.length ≤ 1000) : Con2 Try.prog 31 [.agg p.enc] (· = ⟨.agg [.v (.int .u8 p.to.toNat), .v (.bool p.bent), .rf 0 0 p.b.length], [(0, .arr 5 1 (p.b.map encBD) false)], 1⟩) := by
  refine con2_of Ty.mixed Try.func31 rfl (by kernel_rfl) (by kernel_rfl) rfl [.cell 2 33] rfl ?_
  ((try (with_reducible refine leK2_refl ?_)); simp -implicitDefEqProofs only [go_sem, vc2_blk]; repeat ((with_reducible refine leK2_refl ?_); simp -implicitDefEqProofs only [go_sem, vc2_blk]))
  refine .inl ⟨[(0, false), (2, false), (4, false), (5, false), (1, false), (3, false), (6, false), (7, true), (8, false), (9, false)], by kernel_rfl, ?_⟩
  ((try (with_reducible refine leK2_refl ?_)); (try simp -implicitDefEqProofs only [go_sem, vc2_blk]); repeat ((first | (with_reducible refine leK2_refl ?_) | (with_reducible refine ar_i64 (by omega) ?_) | (with_reducible refine And.intro (by omega) ?_)); (try simp -implicitDefEqProofs only [go_sem, vc2_blk])))
  exact ⟨_, rfl, le2_of [] (by simp -implicitDefEqProofs only [go_sem, vc2_blk])⟩
end Go.Proofs.Ytgpmgnbjpfggmaa
