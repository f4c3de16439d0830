/-
  Part 30 of the proof of M7: the engine and the walks, in their order.
-/
import Derived.Test.YtgpmgnbjpfggmaaM726
import Derived.Test.YtgpmgnbjpfggmaaM729
set_option linter.unusedSimpArgs false
set_option linter.unusedVariables false
/-
  Net: what is taken, lost, moved.
-/
set_option linter.unusedSimpArgs false
set_option linter.unusedVariables false
namespace Go.Eng
/-- What is taken, as it lay; what is left. -/
def GNet.takeF (p : GPar) (m : GNet) (e : Int) : Res := ⟨.tup [.agg p.enc, .agg [.v (.int .i64 m.room), .rf 0 0 m.l.length, .v (.int .i64 m.lost)], .v (.int .i64 e)], [(0, .arr 33 3 (m.l.map GPar.enc) false)], 1⟩
/-- The place moved to another one. -/
def GNet.mov (n : GNet) (i j : Nat) (x : GPar) : GNet := { n with l := (n.l.eraseIdx i).take j ++ [x] ++ (n.l.eraseIdx i).drop j }
theorem map_erase {α β : Type} {f : α → β} : ∀ (l : List α) (i : Nat), (l.map f).eraseIdx i = (l.eraseIdx i).map f
  | [], i => by simp
  | x :: r, 0 => by simp
  | x :: r, i + 1 => by simp [map_erase r i]
theorem erase_len {α : Type} {l : List α} {i : Nat} (h : i < l.length) : (l.eraseIdx i).length = l.length - 1 := List.length_eraseIdx_of_lt h
theorem GNet.there_no {n : GNet} {i : Int} (h : n.there i = false) : i < 0 ∨ (n.l.length : Int) ≤ i := by
  simp only [GNet.there, Bool.and_eq_false_iff, decide_eq_false_iff_not] at h
  omega
end Go.Eng
namespace Go.Proofs.Ytgpmgnbjpfggmaa
open Go.Eng
attribute [local go_sem] GPar.enc bytesD GNet.dv GNet.res plR GNet.takeR GNet.takeN GNet.resE GNet.del GNet.takeF GNet.mov map_erase

theorem Lose_ok (n : GNet) (k : Nat) (hk : k < n.l.length) (hn : n.ok) : Con2 Try.prog 18 [n.dv, .v (.int .i64 k)] (· = (n.del k).resE 0) := by
  have hb := hn.1
  refine con2_of Ty.mixed Try.func18 rfl (by kernel_rfl) (by kernel_rfl) rfl [.cell 4 25, .tmp 5] rfl ?_
  ((try (with_reducible refine leK2_refl ?_)); simp -implicitDefEqProofs only [go_sem, vc2_blk]; repeat ((with_reducible refine leK2_refl ?_); simp -implicitDefEqProofs only [go_sem, vc2_blk]))
  refine CallS.inline Ty.mixed Try.func25 rfl (by kernel_rfl) (by kernel_rfl) rfl [.cell 6 25, .tmp 7] rfl (Vc2.of ?_)
  ((try (with_reducible refine leK2_refl ?_)); simp -implicitDefEqProofs only [go_sem, vc2_blk]; repeat ((with_reducible refine leK2_refl ?_); simp -implicitDefEqProofs only [go_sem, vc2_blk]))
  refine CallS.eq (fresh_con n hn) (by simp -implicitDefEqProofs only [go_sem, vc2_blk]) (.inl (by simp -implicitDefEqProofs only [go_sem, vc2_blk])) ?_
  ((try (with_reducible refine leK2_refl ?_)); (try simp -implicitDefEqProofs only [go_sem, vc2_blk, le_false hk]); repeat ((first | (with_reducible refine leK2_refl ?_) | (with_reducible refine ar_i64 (by omega) ?_) | (with_reducible refine And.intro (by omega) ?_)); (try simp -implicitDefEqProofs only [go_sem, vc2_blk, le_false hk])))
  refine CallS.inline Ty.mixed Try.func38 rfl (by kernel_rfl) (by kernel_rfl) rfl [.cell 3 25, .tmp 4] rfl (Vc2.of ?_)
  ((try (with_reducible refine leK2_refl ?_)); simp -implicitDefEqProofs only [go_sem, vc2_blk]; repeat ((with_reducible refine leK2_refl ?_); simp -implicitDefEqProofs only [go_sem, vc2_blk]))
  ((try (with_reducible refine leK2_refl ?_)); (try simp -implicitDefEqProofs only [go_sem, vc2_blk]); repeat ((first | (with_reducible refine leK2_refl ?_) | (with_reducible refine ar_i64 (by omega) ?_) | (with_reducible refine And.intro (by omega) ?_)); (try simp -implicitDefEqProofs only [go_sem, vc2_blk])))
  refine CallS.del delPar_call rfl (by simp) (by simpa using hk) (by simp; omega) ?_
  ((try (with_reducible refine leK2_refl ?_)); (try simp -implicitDefEqProofs only [go_sem, vc2_blk]); repeat ((first | (with_reducible refine leK2_refl ?_) | (with_reducible refine ar_i64 (by omega) ?_) | (with_reducible refine And.intro (by omega) ?_)); (try simp -implicitDefEqProofs only [go_sem, vc2_blk])))
  exact ⟨_, rfl, le2_of [(0, .to 1)] (by simp -implicitDefEqProofs only [go_sem, vc2_blk, erase_len hk])⟩

theorem Take_ok (n : GNet) (k : Nat) (hk : k < n.l.length) (hn : n.ok) : Con2 Try.prog 10 [n.dv, .v (.int .i64 k)] (· = GNet.takeF n.l[k] (n.del k) 0) := by
  have hb := hn.1
  refine con2_of Ty.mixed Try.func10 rfl (by kernel_rfl) (by kernel_rfl) rfl [.cell 4 33, .cell 5 25, .tmp 6] rfl ?_
  ((try (with_reducible refine leK2_refl ?_)); simp -implicitDefEqProofs only [go_sem, vc2_blk]; repeat ((with_reducible refine leK2_refl ?_); simp -implicitDefEqProofs only [go_sem, vc2_blk]))
  refine CallS.inline Ty.mixed Try.func25 rfl (by kernel_rfl) (by kernel_rfl) rfl [.cell 6 25, .tmp 7] rfl (Vc2.of ?_)
  ((try (with_reducible refine leK2_refl ?_)); simp -implicitDefEqProofs only [go_sem, vc2_blk]; repeat ((with_reducible refine leK2_refl ?_); simp -implicitDefEqProofs only [go_sem, vc2_blk]))
  refine CallS.eq (fresh_con n hn) (by simp -implicitDefEqProofs only [go_sem, vc2_blk]) (.inl (by simp -implicitDefEqProofs only [go_sem, vc2_blk])) ?_
  ((try (with_reducible refine leK2_refl ?_)); (try simp -implicitDefEqProofs only [go_sem, vc2_blk, le_false hk]); repeat ((first | (with_reducible refine leK2_refl ?_) | (with_reducible refine ar_i64 (by omega) ?_) | (with_reducible refine And.intro (by omega) ?_)); (try simp -implicitDefEqProofs only [go_sem, vc2_blk, le_false hk])))
  refine CallS.inline Ty.mixed Try.func27 rfl (by kernel_rfl) (by kernel_rfl) rfl [.cell 4 25, .tmp 5] rfl (Vc2.of ?_)
  ((try (with_reducible refine leK2_refl ?_)); simp -implicitDefEqProofs only [go_sem, vc2_blk]; repeat ((with_reducible refine leK2_refl ?_); simp -implicitDefEqProofs only [go_sem, vc2_blk]))
  ((try (with_reducible refine leK2_refl ?_)); (try simp -implicitDefEqProofs only [go_sem, vc2_blk, mapE_get hk]); repeat ((first | (with_reducible refine leK2_refl ?_) | (with_reducible refine ar_i64 (by omega) ?_) | (with_reducible refine And.intro (by omega) ?_)); (try simp -implicitDefEqProofs only [go_sem, vc2_blk, mapE_get hk])))
  refine CallS.del delPar_call rfl (by simp) (by simpa using hk) (by simp; omega) ?_
  ((try (with_reducible refine leK2_refl ?_)); (try simp -implicitDefEqProofs only [go_sem, vc2_blk]); repeat ((first | (with_reducible refine leK2_refl ?_) | (with_reducible refine ar_i64 (by omega) ?_) | (with_reducible refine And.intro (by omega) ?_)); (try simp -implicitDefEqProofs only [go_sem, vc2_blk])))
  refine .inr (.inr (.inl ⟨[(0, false), (1, false), (2, false), (3, true), (4, false), (5, false)], [4], by kernel_rfl, ?_⟩))
  ((try (with_reducible refine leK2_refl ?_)); (try simp -implicitDefEqProofs only [go_sem, vc2_blk]); repeat ((first | (with_reducible refine leK2_refl ?_) | (with_reducible refine ar_i64 (by omega) ?_) | (with_reducible refine And.intro (by omega) ?_)); (try simp -implicitDefEqProofs only [go_sem, vc2_blk])))
  exact ⟨_, rfl, le2_of [(0, .to 2)] (by simp -implicitDefEqProofs only [go_sem, vc2_blk, erase_len hk])⟩

theorem Lose_no (n : GNet) (i : Int) (hi : n.there i = false) (hn : n.ok) : Con2 Try.prog 18 [n.dv, .v (.int .i64 i)] (· = n.resE 2) := by
  have hb := hn.1
  refine con2_of Ty.mixed Try.func18 rfl (by kernel_rfl) (by kernel_rfl) rfl [.cell 4 25, .tmp 5] rfl ?_
  ((try (with_reducible refine leK2_refl ?_)); simp -implicitDefEqProofs only [go_sem, vc2_blk]; repeat ((with_reducible refine leK2_refl ?_); simp -implicitDefEqProofs only [go_sem, vc2_blk]))
  refine CallS.inline Ty.mixed Try.func25 rfl (by kernel_rfl) (by kernel_rfl) rfl [.cell 6 25, .tmp 7] rfl (Vc2.of ?_)
  ((try (with_reducible refine leK2_refl ?_)); simp -implicitDefEqProofs only [go_sem, vc2_blk]; repeat ((with_reducible refine leK2_refl ?_); simp -implicitDefEqProofs only [go_sem, vc2_blk]))
  refine CallS.eq (fresh_con n hn) (by simp -implicitDefEqProofs only [go_sem, vc2_blk]) (.inl (by simp -implicitDefEqProofs only [go_sem, vc2_blk])) ?_
  ((try (with_reducible refine leK2_refl ?_)); (try simp -implicitDefEqProofs only [go_sem, vc2_blk]); repeat ((first | (with_reducible refine leK2_refl ?_) | (with_reducible refine ar_i64 (by omega) ?_) | (with_reducible refine And.intro (by omega) ?_)); (try simp -implicitDefEqProofs only [go_sem, vc2_blk])))
  refine guard2 (fun h => ?_) (fun h => ?_)
  · ((try (with_reducible refine leK2_refl ?_)); (try simp -implicitDefEqProofs only [go_sem, vc2_blk, h]); repeat ((first | (with_reducible refine leK2_refl ?_) | (with_reducible refine ar_i64 (by omega) ?_) | (with_reducible refine And.intro (by omega) ?_)); (try simp -implicitDefEqProofs only [go_sem, vc2_blk, h])))
    rw [show decide ((n.l.length : Int) ≤ i) = true from by have := GNet.there_no hi; simp at h ⊢; omega]
    ((try (with_reducible refine leK2_refl ?_)); (try simp -implicitDefEqProofs only [go_sem, vc2_blk]); repeat ((first | (with_reducible refine leK2_refl ?_) | (with_reducible refine ar_i64 (by omega) ?_) | (with_reducible refine And.intro (by omega) ?_)); (try simp -implicitDefEqProofs only [go_sem, vc2_blk])))
    exact ⟨_, rfl, le2_of [(0, .to 1)] (by simp -implicitDefEqProofs only [go_sem, vc2_blk])⟩
  · ((try (with_reducible refine leK2_refl ?_)); (try simp -implicitDefEqProofs only [go_sem, vc2_blk, h]); repeat ((first | (with_reducible refine leK2_refl ?_) | (with_reducible refine ar_i64 (by omega) ?_) | (with_reducible refine And.intro (by omega) ?_)); (try simp -implicitDefEqProofs only [go_sem, vc2_blk, h])))
    exact ⟨_, rfl, le2_of [(0, .to 1)] (by simp -implicitDefEqProofs only [go_sem, vc2_blk])⟩
end Go.Proofs.Ytgpmgnbjpfggmaa
