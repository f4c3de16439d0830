/-
  Maps whose keys are ids.
-/
import Derived.Test.YtcaobkpfafcnjaaTy
import Derived.Test.YtcaobkpfafcnjaaDa
import Derived.Test.YtcaobkpfafcnjaaDm
set_option linter.unusedSimpArgs false
set_option linter.unusedVariables false
namespace Go.Proofs.Ytcaobkpfafcnjaa
open Go.Eng
theorem id_equal (x y : GID) (w : World) : (Op.equal 30 x.val y.val).run Try.prog w = .ok (decide (x = y)) w := by
  have h := Ty.eqRun30 x.node.toNat x.inc.toNat x.seq.toNat y.node.toNat y.inc.toNat y.seq.toNat w
  rw [eqB_id] at h
  have h2 : (binOp .eql 30 x.val y.val).run Try.prog w = (Op.equal 30 x.val y.val >>= fun b => pure (Value.bool b)).run Try.prog w := rfl
  have h3 : (binOp .eql 30 x.val y.val).run Try.prog w = .ok (.bool (decide (x = y))) w := h
  rw [h2, Sem.run_bind] at h3
  cases hr : (Op.equal 30 x.val y.val).run Try.prog w with
  | ok b w' => rw [hr] at h3; simp only [Result.andThen_ok, Sem.run_pure, Result.ok.injEq, Value.bool.injEq] at h3; rw [h3.1, h3.2]
  | _ => rw [hr] at h3; cases h3
theorem id_chk (b : Bool) (x : GID) (w : World) : (Instr.checkKey b 10000 30 x.val).run Try.prog w = .ok () w := by
  unfold GID.val
  kernel_rfl
theorem id_bits (x : GID) : Instr.sameBits 10000 x.val x.val = true := by
  simp [Instr.sameBits, GID.val]
theorem id_key : KeyT Try.prog 30 GID.val := keyT_struct Try.underlying30 id_equal id_chk id_bits
end Go.Proofs.Ytcaobkpfafcnjaa
