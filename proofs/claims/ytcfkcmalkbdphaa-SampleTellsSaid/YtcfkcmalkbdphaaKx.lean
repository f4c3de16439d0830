/-
  Lemmas for the walks of sample.
-/
import Derived.Test.YtcfkcmalkbdphaaKb
import Derived.Test.YtcfkcmalkbdphaaHj
import Derived.Test.YtcfkcmalkbdphaaDj
set_option linter.unusedSimpArgs false
set_option linter.unusedVariables false
namespace Go.Proofs.Ytcfkcmalkbdphaa
open Go.Eng
attribute [local go_sem] GSpan.val GSpan.enc PD.val PD.enc PW.val PW.enc

theorem vl_mk {u u' : World} {self : UInt8} {p : Option Addr} {n c : Nat} {l : List PD} {T : Nat} {N : Nat} (o : DS u u' T p n c l) (hv : Vw self (ds l)) (hn : n ≤ N) (h8 : ∀ x ∈ l, x.n ≤ 8) : VL u' self N (p, n, c) l :=
  ⟨o.dl, hv, hn, fun d hd => by obtain ⟨y, hy, rfl⟩ := List.mem_map.1 hd; rw [(o.fl y hy).len]; exact h8 y hy⟩
theorem find_iff {L : List GDesc} {node : UInt8} : ¬ dFind L node < 0 ↔ Nd L node := by rw [find_neg, nd_idx]
theorem inc_pos {x : UInt16} : (0 : Int) < (x.toNat : Int) ↔ x ≠ 0 := by
  constructor
  · rintro h rfl; simp at h
  · intro h
    have : x.toNat ≠ 0 := fun e => h (UInt16.toNat_inj.1 (by simpa using e))
    omega

end Go.Proofs.Ytcfkcmalkbdphaa
