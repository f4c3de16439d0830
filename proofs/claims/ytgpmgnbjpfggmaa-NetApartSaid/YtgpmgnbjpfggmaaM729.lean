/-
  Part 29 of the proof of M7: the engine and the walks, in their order.
-/
import Derived.Test.YtgpmgnbjpfggmaaM725
set_option linter.unusedSimpArgs false
set_option linter.unusedVariables false
/-
  Net: when two are the same.
-/
set_option linter.unusedSimpArgs false
set_option linter.unusedVariables false
namespace Go.Proofs.Ytgpmgnbjpfggmaa
open Go.Eng
attribute [local go_sem] GPar.enc bytesD GNet.dv GNet.res plR GNet.takeR GNet.takeN GNet.resE GNet.del

theorem u8_beq (a b : UInt8) : ((a.toNat : Int) == (b.toNat : Int)) = decide (a = b) := by
  by_cases h : a = b
  · subst h; simp
  · have : ¬ ((a.toNat : Int) = b.toNat) := fun e => h (UInt8.toNat_inj.1 (by exact_mod_cast e))
    simp [h, this]
theorem gpar_dec (x y : GPar) : decide (x = y) = (((x.to.toNat : Int) == (y.to.toNat : Int)) && (x.bent == y.bent) && decide (x.b = y.b)) := by
  rw [u8_beq]
  cases x; cases y
  simp only [GPar.mk.injEq]
  simp [Bool.and_assoc, Bool.beq_eq_decide_eq]

theorem bequal_con (a b : List UInt8) : Con2 Try.prog 41 [bytesD a, bytesD b] (· = plR (.v (.bool (decide (a = b))))) := by
  refine con2_of Ty.mixed Try.func41 rfl (by kernel_rfl) (by kernel_rfl) rfl [.tmp 4] rfl ?_
  ((try (with_reducible refine leK2_refl ?_)); simp -implicitDefEqProofs only [go_sem, vc2_blk]; repeat ((with_reducible refine leK2_refl ?_); simp -implicitDefEqProofs only [go_sem, vc2_blk]))
  ((try (with_reducible refine leK2_refl ?_)); (try simp -implicitDefEqProofs only [go_sem, vc2_blk]); repeat ((first | (with_reducible refine leK2_refl ?_) | (with_reducible refine ar_i64 (by omega) ?_) | (with_reducible refine And.intro (by omega) ?_)); (try simp -implicitDefEqProofs only [go_sem, vc2_blk])))
  exact ⟨_, rfl, le2_of [] (by simp -implicitDefEqProofs only [go_sem, vc2_blk])⟩

theorem same1_con (x y : GPar) : Con2 Try.prog 40 [.agg x.enc, .agg y.enc] (· = plR (.v (.bool (decide (x = y))))) := by
  refine con2_of Ty.mixed Try.func40 rfl (by kernel_rfl) (by kernel_rfl) rfl [.tmp 4] rfl ?_
  ((try (with_reducible refine leK2_refl ?_)); simp -implicitDefEqProofs only [go_sem, vc2_blk]; repeat ((with_reducible refine leK2_refl ?_); simp -implicitDefEqProofs only [go_sem, vc2_blk]))
  refine guard2 (fun h1 => ?_) (fun h1 => ?_)
  · ((try (with_reducible refine leK2_refl ?_)); (try simp -implicitDefEqProofs only [go_sem, vc2_blk, h1]); repeat ((first | (with_reducible refine leK2_refl ?_) | (with_reducible refine ar_i64 (by omega) ?_) | (with_reducible refine And.intro (by omega) ?_)); (try simp -implicitDefEqProofs only [go_sem, vc2_blk, h1])))
    refine guard2 (fun h2 => ?_) (fun h2 => ?_)
    · ((try (with_reducible refine leK2_refl ?_)); (try simp -implicitDefEqProofs only [go_sem, vc2_blk, h1, h2]); repeat ((first | (with_reducible refine leK2_refl ?_) | (with_reducible refine ar_i64 (by omega) ?_) | (with_reducible refine And.intro (by omega) ?_)); (try simp -implicitDefEqProofs only [go_sem, vc2_blk, h1, h2])))
      refine CallS.eq (bequal_con x.b y.b) (by simp -implicitDefEqProofs only [go_sem, vc2_blk]) (.inl (by simp -implicitDefEqProofs only [go_sem, vc2_blk])) ?_
      ((try (with_reducible refine leK2_refl ?_)); (try simp -implicitDefEqProofs only [go_sem, vc2_blk]); repeat ((first | (with_reducible refine leK2_refl ?_) | (with_reducible refine ar_i64 (by omega) ?_) | (with_reducible refine And.intro (by omega) ?_)); (try simp -implicitDefEqProofs only [go_sem, vc2_blk])))
      exact ⟨_, rfl, le2_of [] (by simp -implicitDefEqProofs only [go_sem, vc2_blk, gpar_dec, h1, h2])⟩
    · ((try (with_reducible refine leK2_refl ?_)); (try simp -implicitDefEqProofs only [go_sem, vc2_blk, h1, h2]); repeat ((first | (with_reducible refine leK2_refl ?_) | (with_reducible refine ar_i64 (by omega) ?_) | (with_reducible refine And.intro (by omega) ?_)); (try simp -implicitDefEqProofs only [go_sem, vc2_blk, h1, h2])))
      exact ⟨_, rfl, le2_of [] (by simp -implicitDefEqProofs only [go_sem, vc2_blk, gpar_dec, h1, h2])⟩
  · ((try (with_reducible refine leK2_refl ?_)); (try simp -implicitDefEqProofs only [go_sem, vc2_blk, h1]); repeat ((first | (with_reducible refine leK2_refl ?_) | (with_reducible refine ar_i64 (by omega) ?_) | (with_reducible refine And.intro (by omega) ?_)); (try simp -implicitDefEqProofs only [go_sem, vc2_blk, h1])))
    exact ⟨_, rfl, le2_of [] (by simp -implicitDefEqProofs only [go_sem, vc2_blk, gpar_dec, h1])⟩

theorem equalF_con (l m : List GPar) (hl : l.length ≤ 1000) : Con2 Try.prog 39 [.fz 3 (l.map GPar.enc), .fz 3 (m.map GPar.enc), .fn 40 [] []] (· = plR (.v (.bool (decide (l = m))))) := by
  refine con2_of Ty.mixed Try.func39 rfl (by kernel_rfl) (by kernel_rfl) rfl [.tmp 6] rfl ?_
  ((try (with_reducible refine leK2_refl ?_)); simp -implicitDefEqProofs only [go_sem, vc2_blk]; repeat ((with_reducible refine leK2_refl ?_); simp -implicitDefEqProofs only [go_sem, vc2_blk]))
  refine cond2_ne (fun h => ?_) (fun h => ?_)
  · ((try (with_reducible refine leK2_refl ?_)); (try simp -implicitDefEqProofs only [go_sem, vc2_blk]); repeat ((first | (with_reducible refine leK2_refl ?_) | (with_reducible refine ar_i64 (by omega) ?_) | (with_reducible refine And.intro (by omega) ?_)); (try simp -implicitDefEqProofs only [go_sem, vc2_blk])))
    have hne : l ≠ m := fun e => h (by rw [e])
    exact ⟨_, rfl, le2_of [] (by simp -implicitDefEqProofs only [go_sem, vc2_blk, hne])⟩
  · ((try (with_reducible refine leK2_refl ?_)); (try simp -implicitDefEqProofs only [go_sem, vc2_blk]); repeat ((first | (with_reducible refine leK2_refl ?_) | (with_reducible refine ar_i64 (by omega) ?_) | (with_reducible refine And.intro (by omega) ?_)); (try simp -implicitDefEqProofs only [go_sem, vc2_blk])))
    have hlm : l.length = m.length := by omega
    refine vc2_rangeA l.length (fun k => []) (fun _ => []) (fun k => []) 0 (fun k => l.take k = m.take k) (le2_of [] ?_) rfl (fun g k => by simp -implicitDefEqProofs only [go_sem, vc2_blk]) (by omega) (fun g => by simp -implicitDefEqProofs only [go_sem, vc2_blk]) (fun k hk hF => ?_) (fun hF => ?_)
    · ((try (with_reducible refine leK2_refl ?_)); simp -implicitDefEqProofs only [go_sem, vc2_blk]; repeat ((with_reducible refine leK2_refl ?_); simp -implicitDefEqProofs only [go_sem, vc2_blk]))
      first | rfl | exact ⟨rfl, rfl⟩
    · have hk2 : k < m.length := by omega
      ((try (with_reducible refine leK2_refl ?_)); (try simp -implicitDefEqProofs only [go_sem, vc2_blk, mapE_get hk, mapE_get hk2]); repeat ((first | (with_reducible refine leK2_refl ?_) | (with_reducible refine ar_i64 (by omega) ?_) | (with_reducible refine And.intro (by omega) ?_)); (try simp -implicitDefEqProofs only [go_sem, vc2_blk, mapE_get hk, mapE_get hk2])))
      refine CallS.eq (same1_con l[k] m[k]) (by simp -implicitDefEqProofs only [go_sem, vc2_blk]) (.inl (by simp -implicitDefEqProofs only [go_sem, vc2_blk])) ?_
      ((try (with_reducible refine leK2_refl ?_)); (try simp -implicitDefEqProofs only [go_sem, vc2_blk]); repeat ((first | (with_reducible refine leK2_refl ?_) | (with_reducible refine ar_i64 (by omega) ?_) | (with_reducible refine And.intro (by omega) ?_)); (try simp -implicitDefEqProofs only [go_sem, vc2_blk])))
      refine cond2_dec (fun he => ?_) (fun he => ?_)
      · ((try (with_reducible refine leK2_refl ?_)); (try simp -implicitDefEqProofs only [go_sem, vc2_blk]); repeat ((first | (with_reducible refine leK2_refl ?_) | (with_reducible refine ar_i64 (by omega) ?_) | (with_reducible refine And.intro (by omega) ?_)); (try simp -implicitDefEqProofs only [go_sem, vc2_blk])))
        refine ⟨k + 1, le2_of [] (by simp -implicitDefEqProofs only [go_sem, vc2_blk]), rfl, ?_⟩
        rw [List.take_add_one, List.take_add_one, List.getElem?_eq_getElem hk, List.getElem?_eq_getElem hk2, he, hF]
      · ((try (with_reducible refine leK2_refl ?_)); (try simp -implicitDefEqProofs only [go_sem, vc2_blk]); repeat ((first | (with_reducible refine leK2_refl ?_) | (with_reducible refine ar_i64 (by omega) ?_) | (with_reducible refine And.intro (by omega) ?_)); (try simp -implicitDefEqProofs only [go_sem, vc2_blk])))
        have hne : l ≠ m := fun e => he (by subst e; rfl)
        exact ⟨_, rfl, le2_of [] (by simp -implicitDefEqProofs only [go_sem, vc2_blk, hne])⟩
    · ((try (with_reducible refine leK2_refl ?_)); (try simp -implicitDefEqProofs only [go_sem, vc2_blk]); repeat ((first | (with_reducible refine leK2_refl ?_) | (with_reducible refine ar_i64 (by omega) ?_) | (with_reducible refine And.intro (by omega) ?_)); (try simp -implicitDefEqProofs only [go_sem, vc2_blk])))
      have hee : l = m := by
        have := hF
        rwa [List.take_of_length_le (Nat.le_refl _), List.take_of_length_le (by omega)] at this
      exact ⟨_, rfl, le2_of [] (by simp -implicitDefEqProofs only [go_sem, vc2_blk, hee, plR])⟩

theorem gnet_dec (x y : GNet) : decide (x = y) = ((x.room == y.room) && (x.lost == y.lost) && decide (x.l = y.l)) := by
  cases x; cases y
  rw [Bool.eq_iff_iff]
  simp [and_comm, and_left_comm, and_assoc]
theorem Same_con (a b : GNet) (ha : a.ok) : Con2 Try.prog 21 [a.dv, b.dv] (· = plR (.v (.bool (decide (a = b))))) := by
  refine con2_of Ty.mixed Try.func21 rfl (by kernel_rfl) (by kernel_rfl) rfl [.tmp 4] rfl ?_
  ((try (with_reducible refine leK2_refl ?_)); simp -implicitDefEqProofs only [go_sem, vc2_blk]; repeat ((with_reducible refine leK2_refl ?_); simp -implicitDefEqProofs only [go_sem, vc2_blk]))
  refine guard2 (fun h1 => ?_) (fun h1 => ?_)
  · ((try (with_reducible refine leK2_refl ?_)); (try simp -implicitDefEqProofs only [go_sem, vc2_blk, h1]); repeat ((first | (with_reducible refine leK2_refl ?_) | (with_reducible refine ar_i64 (by omega) ?_) | (with_reducible refine And.intro (by omega) ?_)); (try simp -implicitDefEqProofs only [go_sem, vc2_blk, h1])))
    refine guard2 (fun h2 => ?_) (fun h2 => ?_)
    · ((try (with_reducible refine leK2_refl ?_)); (try simp -implicitDefEqProofs only [go_sem, vc2_blk, h2]); repeat ((first | (with_reducible refine leK2_refl ?_) | (with_reducible refine ar_i64 (by omega) ?_) | (with_reducible refine And.intro (by omega) ?_)); (try simp -implicitDefEqProofs only [go_sem, vc2_blk, h2])))
      refine CallS.eq (equalF_con a.l b.l ha.1) (by simp -implicitDefEqProofs only [go_sem, vc2_blk]) (.inr (by simp -implicitDefEqProofs only [go_sem, vc2_blk])) ?_
      ((try (with_reducible refine leK2_refl ?_)); (try simp -implicitDefEqProofs only [go_sem, vc2_blk]); repeat ((first | (with_reducible refine leK2_refl ?_) | (with_reducible refine ar_i64 (by omega) ?_) | (with_reducible refine And.intro (by omega) ?_)); (try simp -implicitDefEqProofs only [go_sem, vc2_blk])))
      exact ⟨_, rfl, le2_of [] (by simp -implicitDefEqProofs only [go_sem, vc2_blk, gnet_dec, h1, h2])⟩
    · ((try (with_reducible refine leK2_refl ?_)); (try simp -implicitDefEqProofs only [go_sem, vc2_blk, h2]); repeat ((first | (with_reducible refine leK2_refl ?_) | (with_reducible refine ar_i64 (by omega) ?_) | (with_reducible refine And.intro (by omega) ?_)); (try simp -implicitDefEqProofs only [go_sem, vc2_blk, h2])))
      exact ⟨_, rfl, le2_of [] (by simp -implicitDefEqProofs only [go_sem, vc2_blk, gnet_dec, h1, h2])⟩
  · ((try (with_reducible refine leK2_refl ?_)); (try simp -implicitDefEqProofs only [go_sem, vc2_blk, h1]); repeat ((first | (with_reducible refine leK2_refl ?_) | (with_reducible refine ar_i64 (by omega) ?_) | (with_reducible refine And.intro (by omega) ?_)); (try simp -implicitDefEqProofs only [go_sem, vc2_blk, h1])))
    exact ⟨_, rfl, le2_of [] (by simp -implicitDefEqProofs only [go_sem, vc2_blk, gnet_dec, h1])⟩
end Go.Proofs.Ytgpmgnbjpfggmaa
