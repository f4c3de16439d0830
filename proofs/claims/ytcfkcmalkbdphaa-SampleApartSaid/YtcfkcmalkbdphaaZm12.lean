/-
  Part 12 of the proof of Zm: the engine and the walks, in their order.
-/
import Derived.Test.YtcfkcmalkbdphaaZm11
import Derived.Laws.MakeOwn
set_option linter.unusedSimpArgs false
set_option linter.unusedVariables false
/-
  Engine, part N: make of a slice.
-/
set_option linter.unusedSimpArgs false
set_option linter.unusedVariables false
namespace Go.Eng

theorem freshP_app {u u1 : World} {p p' : Option Addr} (h : p' = p ∨ FreshP u1 p') (hf : FreshP u p) (hs : Sub u u1) : FreshP u p' := by
  rcases h with rfl | h
  · exact hf
  · exact h.anti hs
/-- The known and the fresh are apart. -/
theorem ne_of_fresh {u0 u : World} {e sz n c : Nat} {p q : Option Addr} {xs : List (List Value)} (ho : Own u0 u e sz p n c xs) (hf : FreshP u q) : ∀ a b, p = some a → q = some b → a.block ≠ b.block := fun a b ha hb e =>
  ho.known ha (by rw [e]; exact hf b hb)

theorem madeCells_flatten (z : Array Value) (n : Nat) : (madeCells z (n * z.size)).toList = (List.replicate n z.toList).flatten := by
  rw [← zeroCells_flatten]
  apply List.ext_getElem?
  intro j
  simp only [madeCells, Builtin.zeroCells]

theorem take_replicate_flatten {z : List Value} {sz : Nat} (hz : z.length = sz) : ∀ (l c : Nat), l ≤ c → ((List.replicate c z).flatten).take (l * sz) = (List.replicate l z).flatten := by
  intro l
  induction l with
  | zero => intro c _; simp
  | succ l ih =>
    intro c hc
    obtain ⟨c, rfl⟩ : ∃ d, c = d + 1 := ⟨c - 1, by omega⟩
    rw [List.replicate_succ, List.replicate_succ, List.flatten_cons, List.flatten_cons, Nat.add_mul, Nat.one_mul, Nat.add_comm]
    rw [List.take_append, List.take_of_length_le (by omega), hz]
    rw [show sz + l * sz - sz = l * sz by omega, ih c (by omega)]

/-- make([]T, l, c). -/
theorem eff_make {x : Bool} {P : Program} {T e sz bytes : Nat} (hT : elemT P T e sz bytes = true) {z : List Value} (hz0 : zeroOf P e = some z) {u0 u : World} {kl kc : IntKind} {l c : Int} {ln cn : Nat} (hl : l = ln) (hc : c = cn)
    (hlc : ln ≤ cn) (hb : cn * bytes ≤ 140737488355328) (hm : cn ≤ 9223372036854775807) {K : Value → World → Prop}
    (hK : ∀ p u', Own u0 u' e sz p ln cn (List.replicate ln z) → Sub u u' → FreshP u p → p.isSome = true → K (.slice p ln cn) u') :
    AtEff x P (iMake T (.int kl l) (.int kc c)) u0 u K := by
  obtain ⟨ht, hsz, i, zv, hi, rfl, rfl, hz, hzs⟩ := elemT_spec hT
  have hzz : zv.cells.toList = z := by
    simp only [zeroOf, hi, hz, Option.map_some, Option.some.injEq] at hz0
    exact hz0
  subst hl
  subst hc
  intro w hu h0
  have hb' : (i.bytes : Int) * (cn : Int) ≤ 281474976710656 := by
    have h : ((i.bytes * cn : Nat) : Int) ≤ 281474976710656 := by rw [Nat.mul_comm]; omega
    rwa [Int.natCast_mul] at h
  have hr := run_make (P := P) w T e i zv ht hi hz kl kc ln cn (by omega) (by omega) hb' (by omega)
  simp only [Int.toNat_natCast] at hr
  have hzl : z.length = i.size := by rw [← hzz]; simpa using hzs
  have hcells : (madeCells zv.cells (cn * i.size)).toList = (List.replicate cn z).flatten := by
    rw [← hzz, ← madeCells_flatten, ← hzs]
  refine ⟨_, _, _, hr, step_new hu rfl, hK _ _ ⟨by simp, ?_, .inr ⟨w.heap.size, _, rfl, learn_at _ _ _, hlc, ?_, ?_, ?_, fresh_of_ge h0 (Nat.le_refl _)⟩⟩ (learn_sub (fresh_of_ge hu (Nat.le_refl _))) (fun a ha => by cases ha; exact fresh_of_ge hu (Nat.le_refl _)) rfl⟩
  · intro y hy
    rw [(List.mem_replicate.1 hy).2]; exact hzl
  · simp only [maxLen]; omega
  · simp [madeCells]
  · rw [hcells, take_replicate_flatten hzl ln cn hlc]

section
variable {P : Program} {T : TypeId} {y z : Operand} {Kv : Value → Prop} {k k2 : IntKind}
theorem bin_rem {a b : Int} (h : b ≠ 0) : AtPure P (binS .rem T y z (.int k a) (.int k b)) Kv = Kv (.int k (a.tmod b)) := atPure_of fun w => by simp [binS, eqGuard, binOp, Op.intDiv, h]
theorem bin_quo {a b : Int} (h : b ≠ 0) : AtPure P (binS .quo T y z (.int k a) (.int k b)) Kv = AtArith k (a.tdiv b) Kv := atPure_of fun w => by simp [binS, eqGuard, binOp, Op.intDiv, h]
theorem bin_shl {a b : Int} (h : 0 ≤ b) : AtPure P (binS .shl T y z (.int k a) (.int k2 b)) Kv = AtArith k (a * 2 ^ min b.toNat k.bits) Kv := atPure_of fun w => by
  have : ¬ b < 0 := by omega
  simp [binS, eqGuard, binOp, Op.shift, this]
theorem bin_shr {a b : Int} (h : 0 ≤ b) : AtPure P (binS .shr T y z (.int k a) (.int k2 b)) Kv = Kv (.int k (a.fdiv (2 ^ min b.toNat k.bits))) := atPure_of fun w => by
  have : ¬ b < 0 := by omega
  simp [binS, eqGuard, binOp, Op.shift, this]
theorem slice_toN {e sz bytes n c k0 : Nat} {i : Int} {p : Option Addr} (hT : elemT P T e sz bytes = true) (hi : i = (k0 : Nat)) (h : k0 ≤ c) : AtPure P (iSlice T (.slice p n c) none (some (.int k i)) none) Kv = Kv (.slice p k0 c) := by
  subst hi; rw [slice_toE hT (by omega) (by omega)]; rfl
theorem slice_fromN {e sz bytes n c k0 : Nat} {i : Int} {p : Option Addr} (hT : elemT P T e sz bytes = true) (hi : i = (k0 : Nat)) (h : k0 ≤ n) : AtPure P (iSlice T (.slice p n c) (some (.int k i)) none none) Kv = Kv (.slice (cutP p c k0 sz) (n - k0) (c - k0)) := by
  subst hi; rw [slice_fromE hT (by omega) (by omega)]; rfl
/-- '%' of what is not negative. -/
theorem bin_remN {a b : Nat} {ai bi : Int} (ha : ai = a) (hb : bi = b) (h : 0 < b) : AtPure P (binS .rem T y z (.int k ai) (.int k bi)) Kv = Kv (.int k (a % b : Nat)) := by
  subst ha; subst hb
  rw [bin_rem (by omega)]
  rfl
theorem bin_quoN {a b : Nat} {ai bi : Int} (ha : ai = a) (hb : bi = b) (h : 0 < b) : AtPure P (binS .quo T y z (.int k ai) (.int k bi)) Kv = AtArith k (a / b : Nat) Kv := by
  subst ha; subst hb
  rw [bin_quo (by omega)]
  rfl
end

end Go.Eng
