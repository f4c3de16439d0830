/-
  Part 19 of the proof of W: the engine and the walks, in their order.
-/
import Derived.Test.YtcfkcmalkbdphaaW14
import Derived.Test.YtcfkcmalkbdphaaW15
import Derived.Test.YtcfkcmalkbdphaaW18
set_option linter.unusedSimpArgs false
set_option linter.unusedVariables false
/-
  Descriptors as data: the same; in memory of their own.
-/
set_option linter.unusedSimpArgs false
set_option linter.unusedVariables false
namespace Go.Eng
def encS (s : GSpan) : List DV := [.v (.int .i32 s.a), .v (.int .i32 s.b)]
def encDD (d : GDesc) : List DV := [.v (.int .u8 d.node.toNat), .v (.int .u16 d.inc.toNat), .v (.int .u8 d.age.toNat), .fz 2 (d.filter.map encS)]
/-- Descriptors that nobody writes; of the call's own. -/
def fzD (l : List GDesc) : DV := .fz 4 (l.map encDD)
theorem gdesc_dec (x y : GDesc) : decide (x = y) = (((x.node.toNat : Int) == y.node.toNat) && ((x.inc.toNat : Int) == y.inc.toNat) && ((x.age.toNat : Int) == y.age.toNat) && decide (x.filter = y.filter)) := by
  rw [u8_beq, u16_beq, u8_beq]
  cases x; cases y
  rw [Bool.eq_iff_iff]
  simp [and_comm, and_left_comm, and_assoc]
end Go.Eng
namespace Go.Proofs.Ytcfkcmalkbdphaa.V
open Go.Eng
attribute [local go_sem] encS encDD fzD plR

theorem eqSpan_con (l m : List GSpan) (hl : l.length ≤ 9223372036854775807) : Con2 Try.prog 53 [.fz 2 (l.map encS), .fz 2 (m.map encS)] (· = plR (.v (.bool (decide (l = m))))) := by
  refine con2_of Ty.mixed Try.func53 rfl (by kernel_rfl) (by kernel_rfl) rfl [.tmp 4] rfl ?_
  ((try (with_reducible refine leK2_refl ?_)); simp -implicitDefEqProofs only [go_sem, vc2_blk]; repeat ((with_reducible refine leK2_refl ?_); simp -implicitDefEqProofs only [go_sem, vc2_blk]))
  refine cond2_ne (fun h => ?_) (fun h => ?_)
  · ((try (with_reducible refine leK2_refl ?_)); (try simp -implicitDefEqProofs only [go_sem, vc2_blk]); repeat ((first | (with_reducible refine leK2_refl ?_) | (with_reducible refine ar_i64 (by omega) ?_) | (with_reducible refine And.intro (by omega) ?_)); (try simp -implicitDefEqProofs only [go_sem, vc2_blk])))
    have hne : l ≠ m := fun e => h (by rw [e])
    exact ⟨_, rfl, le2_of [] (by simp -implicitDefEqProofs only [go_sem, vc2_blk, hne])⟩
  · ((try (with_reducible refine leK2_refl ?_)); (try simp -implicitDefEqProofs only [go_sem, vc2_blk]); repeat ((first | (with_reducible refine leK2_refl ?_) | (with_reducible refine ar_i64 (by omega) ?_) | (with_reducible refine And.intro (by omega) ?_)); (try simp -implicitDefEqProofs only [go_sem, vc2_blk])))
    have hlm : l.length = m.length := by omega
    refine vc2_rangeA l.length (fun k => []) (fun _ => []) (fun k => []) 0 (fun k => l.take k = m.take k) (le2_of [] ?_) rfl (fun g k => by simp -implicitDefEqProofs only [go_sem, vc2_blk]) (by omega) (fun g => by simp -implicitDefEqProofs only [go_sem, vc2_blk]) (fun k hk hF => ?_) (fun hF => ?_)
    · ((try (with_reducible refine leK2_refl ?_)); simp -implicitDefEqProofs only [go_sem, vc2_blk]; repeat ((with_reducible refine leK2_refl ?_); simp -implicitDefEqProofs only [go_sem, vc2_blk]))
      first | rfl | exact ⟨rfl, rfl⟩
    · have hk2 : k < m.length := by omega
      ((try (with_reducible refine leK2_refl ?_)); (try simp -implicitDefEqProofs only [go_sem, vc2_blk]); repeat ((first | (with_reducible refine leK2_refl ?_) | (with_reducible refine ar_i64 (by omega) ?_) | (with_reducible refine And.intro (by omega) ?_)); (try simp -implicitDefEqProofs only [go_sem, vc2_blk])))
      refine .inl ⟨[(0, false), (1, false), (4, false), (5, false), (2, false), (6, false), (3, false), (7, false), (8, false)], by kernel_rfl, ?_⟩
      ((try (with_reducible refine leK2_refl ?_)); (try simp -implicitDefEqProofs only [go_sem, vc2_blk, mapE_get hk, mapE_get hk2]); repeat ((first | (with_reducible refine leK2_refl ?_) | (with_reducible refine ar_i64 (by omega) ?_) | (with_reducible refine And.intro (by omega) ?_)); (try simp -implicitDefEqProofs only [go_sem, vc2_blk, mapE_get hk, mapE_get hk2])))
      refine cond2_dec (fun he => ?_) (fun he => ?_)
      · ((try (with_reducible refine leK2_refl ?_)); (try simp -implicitDefEqProofs only [go_sem, vc2_blk]); repeat ((first | (with_reducible refine leK2_refl ?_) | (with_reducible refine ar_i64 (by omega) ?_) | (with_reducible refine And.intro (by omega) ?_)); (try simp -implicitDefEqProofs only [go_sem, vc2_blk])))
        refine ⟨k + 1, le2_of [] (by simp -implicitDefEqProofs only [go_sem, vc2_blk]), rfl, ?_⟩
        rw [List.take_add_one, List.take_add_one, List.getElem?_eq_getElem hk, List.getElem?_eq_getElem hk2, he, hF]
      · ((try (with_reducible refine leK2_refl ?_)); (try simp -implicitDefEqProofs only [go_sem, vc2_blk]); repeat ((first | (with_reducible refine leK2_refl ?_) | (with_reducible refine ar_i64 (by omega) ?_) | (with_reducible refine And.intro (by omega) ?_)); (try simp -implicitDefEqProofs only [go_sem, vc2_blk])))
        have hne : l ≠ m := fun e => he (by subst e; rfl)
        exact ⟨_, rfl, le2_of [] (by simp -implicitDefEqProofs only [go_sem, vc2_blk, hne])⟩
    · ((try (with_reducible refine leK2_refl ?_)); (try simp -implicitDefEqProofs only [go_sem, vc2_blk]); repeat ((first | (with_reducible refine leK2_refl ?_) | (with_reducible refine ar_i64 (by omega) ?_) | (with_reducible refine And.intro (by omega) ?_)); (try simp -implicitDefEqProofs only [go_sem, vc2_blk])))
      have hee : l = m := by
        have := hF
        rwa [List.take_of_length_le (Nat.le_refl _), List.take_of_length_le (by omega)] at this
      exact ⟨_, rfl, le2_of [] (by simp -implicitDefEqProofs only [go_sem, vc2_blk, hee])⟩

theorem lSpans_con (l m : List GSpan) (hl : l.length ≤ 9223372036854775807) : Con2 Try.prog 54 [.fz 2 (l.map encS), .fz 2 (m.map encS)] (· = plR (.v (.bool (decide (l = m))))) := by
  refine con2_of Ty.mixed Try.func54 rfl (by kernel_rfl) (by kernel_rfl) rfl [.tmp 4] rfl ?_
  ((try (with_reducible refine leK2_refl ?_)); simp -implicitDefEqProofs only [go_sem, vc2_blk]; repeat ((with_reducible refine leK2_refl ?_); simp -implicitDefEqProofs only [go_sem, vc2_blk]))
  refine cond2_ne (fun h => ?_) (fun h => ?_)
  · ((try (with_reducible refine leK2_refl ?_)); (try simp -implicitDefEqProofs only [go_sem, vc2_blk]); repeat ((first | (with_reducible refine leK2_refl ?_) | (with_reducible refine ar_i64 (by omega) ?_) | (with_reducible refine And.intro (by omega) ?_)); (try simp -implicitDefEqProofs only [go_sem, vc2_blk])))
    have hne : l ≠ m := fun e => h (by rw [e])
    exact ⟨_, rfl, le2_of [] (by simp -implicitDefEqProofs only [go_sem, vc2_blk, hne])⟩
  · ((try (with_reducible refine leK2_refl ?_)); (try simp -implicitDefEqProofs only [go_sem, vc2_blk]); repeat ((first | (with_reducible refine leK2_refl ?_) | (with_reducible refine ar_i64 (by omega) ?_) | (with_reducible refine And.intro (by omega) ?_)); (try simp -implicitDefEqProofs only [go_sem, vc2_blk])))
    have hlm : l.length = m.length := by omega
    refine vc2_rangeA l.length (fun k => []) (fun _ => []) (fun k => []) 0 (fun k => l.take k = m.take k) (le2_of [] ?_) rfl (fun g k => by simp -implicitDefEqProofs only [go_sem, vc2_blk]) (by omega) (fun g => by simp -implicitDefEqProofs only [go_sem, vc2_blk]) (fun k hk hF => ?_) (fun hF => ?_)
    · ((try (with_reducible refine leK2_refl ?_)); simp -implicitDefEqProofs only [go_sem, vc2_blk]; repeat ((with_reducible refine leK2_refl ?_); simp -implicitDefEqProofs only [go_sem, vc2_blk]))
      first | rfl | exact ⟨rfl, rfl⟩
    · have hk2 : k < m.length := by omega
      ((try (with_reducible refine leK2_refl ?_)); (try simp -implicitDefEqProofs only [go_sem, vc2_blk]); repeat ((first | (with_reducible refine leK2_refl ?_) | (with_reducible refine ar_i64 (by omega) ?_) | (with_reducible refine And.intro (by omega) ?_)); (try simp -implicitDefEqProofs only [go_sem, vc2_blk])))
      refine .inl ⟨[(0, false), (1, false), (4, false), (5, false), (2, false), (6, false), (3, false), (7, false), (8, false)], by kernel_rfl, ?_⟩
      ((try (with_reducible refine leK2_refl ?_)); (try simp -implicitDefEqProofs only [go_sem, vc2_blk, mapE_get hk, mapE_get hk2]); repeat ((first | (with_reducible refine leK2_refl ?_) | (with_reducible refine ar_i64 (by omega) ?_) | (with_reducible refine And.intro (by omega) ?_)); (try simp -implicitDefEqProofs only [go_sem, vc2_blk, mapE_get hk, mapE_get hk2])))
      refine cond2_dec (fun he => ?_) (fun he => ?_)
      · ((try (with_reducible refine leK2_refl ?_)); (try simp -implicitDefEqProofs only [go_sem, vc2_blk]); repeat ((first | (with_reducible refine leK2_refl ?_) | (with_reducible refine ar_i64 (by omega) ?_) | (with_reducible refine And.intro (by omega) ?_)); (try simp -implicitDefEqProofs only [go_sem, vc2_blk])))
        refine ⟨k + 1, le2_of [] (by simp -implicitDefEqProofs only [go_sem, vc2_blk]), rfl, ?_⟩
        rw [List.take_add_one, List.take_add_one, List.getElem?_eq_getElem hk, List.getElem?_eq_getElem hk2, he, hF]
      · ((try (with_reducible refine leK2_refl ?_)); (try simp -implicitDefEqProofs only [go_sem, vc2_blk]); repeat ((first | (with_reducible refine leK2_refl ?_) | (with_reducible refine ar_i64 (by omega) ?_) | (with_reducible refine And.intro (by omega) ?_)); (try simp -implicitDefEqProofs only [go_sem, vc2_blk])))
        have hne : l ≠ m := fun e => he (by subst e; rfl)
        exact ⟨_, rfl, le2_of [] (by simp -implicitDefEqProofs only [go_sem, vc2_blk, hne])⟩
    · ((try (with_reducible refine leK2_refl ?_)); (try simp -implicitDefEqProofs only [go_sem, vc2_blk]); repeat ((first | (with_reducible refine leK2_refl ?_) | (with_reducible refine ar_i64 (by omega) ?_) | (with_reducible refine And.intro (by omega) ?_)); (try simp -implicitDefEqProofs only [go_sem, vc2_blk])))
      have hee : l = m := by
        have := hF
        rwa [List.take_of_length_le (Nat.le_refl _), List.take_of_length_le (by omega)] at this
      exact ⟨_, rfl, le2_of [] (by simp -implicitDefEqProofs only [go_sem, vc2_blk, hee])⟩

theorem dSame_con (a b : GDesc) (ha : a.filter.length ≤ 9223372036854775807) : Con2 Try.prog 23 [.agg (encDD a), .agg (encDD b)] (· = plR (.v (.bool (decide (a = b))))) := by
  refine con2_of Ty.mixed Try.func23 rfl (by kernel_rfl) (by kernel_rfl) rfl [.tmp 4] rfl ?_
  ((try (with_reducible refine leK2_refl ?_)); simp -implicitDefEqProofs only [go_sem, vc2_blk]; repeat ((with_reducible refine leK2_refl ?_); simp -implicitDefEqProofs only [go_sem, vc2_blk]))
  refine guard2 (fun h1 => ?_) (fun h1 => ?_)
  · ((try (with_reducible refine leK2_refl ?_)); (try simp -implicitDefEqProofs only [go_sem, vc2_blk, h1]); repeat ((first | (with_reducible refine leK2_refl ?_) | (with_reducible refine ar_i64 (by omega) ?_) | (with_reducible refine And.intro (by omega) ?_)); (try simp -implicitDefEqProofs only [go_sem, vc2_blk, h1])))
    refine guard2 (fun h2 => ?_) (fun h2 => ?_)
    · ((try (with_reducible refine leK2_refl ?_)); (try simp -implicitDefEqProofs only [go_sem, vc2_blk, h2]); repeat ((first | (with_reducible refine leK2_refl ?_) | (with_reducible refine ar_i64 (by omega) ?_) | (with_reducible refine And.intro (by omega) ?_)); (try simp -implicitDefEqProofs only [go_sem, vc2_blk, h2])))
      refine guard2 (fun h3 => ?_) (fun h3 => ?_)
      · ((try (with_reducible refine leK2_refl ?_)); (try simp -implicitDefEqProofs only [go_sem, vc2_blk, h3]); repeat ((first | (with_reducible refine leK2_refl ?_) | (with_reducible refine ar_i64 (by omega) ?_) | (with_reducible refine And.intro (by omega) ?_)); (try simp -implicitDefEqProofs only [go_sem, vc2_blk, h3])))
        refine CallS.eq (eqSpan_con a.filter b.filter ha) (by simp -implicitDefEqProofs only [go_sem, vc2_blk]) (.inl (by simp -implicitDefEqProofs only [go_sem, vc2_blk])) ?_
        ((try (with_reducible refine leK2_refl ?_)); (try simp -implicitDefEqProofs only [go_sem, vc2_blk]); repeat ((first | (with_reducible refine leK2_refl ?_) | (with_reducible refine ar_i64 (by omega) ?_) | (with_reducible refine And.intro (by omega) ?_)); (try simp -implicitDefEqProofs only [go_sem, vc2_blk])))
        exact ⟨_, rfl, le2_of [] (by simp -implicitDefEqProofs only [go_sem, vc2_blk, gdesc_dec, h1, h2, h3])⟩
      · ((try (with_reducible refine leK2_refl ?_)); (try simp -implicitDefEqProofs only [go_sem, vc2_blk, h3]); repeat ((first | (with_reducible refine leK2_refl ?_) | (with_reducible refine ar_i64 (by omega) ?_) | (with_reducible refine And.intro (by omega) ?_)); (try simp -implicitDefEqProofs only [go_sem, vc2_blk, h3])))
        exact ⟨_, rfl, le2_of [] (by simp -implicitDefEqProofs only [go_sem, vc2_blk, gdesc_dec, h1, h2, h3])⟩
    · ((try (with_reducible refine leK2_refl ?_)); (try simp -implicitDefEqProofs only [go_sem, vc2_blk, h2]); repeat ((first | (with_reducible refine leK2_refl ?_) | (with_reducible refine ar_i64 (by omega) ?_) | (with_reducible refine And.intro (by omega) ?_)); (try simp -implicitDefEqProofs only [go_sem, vc2_blk, h2])))
      exact ⟨_, rfl, le2_of [] (by simp -implicitDefEqProofs only [go_sem, vc2_blk, gdesc_dec, h1, h2])⟩
  · ((try (with_reducible refine leK2_refl ?_)); (try simp -implicitDefEqProofs only [go_sem, vc2_blk, h1]); repeat ((first | (with_reducible refine leK2_refl ?_) | (with_reducible refine ar_i64 (by omega) ?_) | (with_reducible refine And.intro (by omega) ?_)); (try simp -implicitDefEqProofs only [go_sem, vc2_blk, h1])))
    exact ⟨_, rfl, le2_of [] (by simp -implicitDefEqProofs only [go_sem, vc2_blk, gdesc_dec, h1])⟩

theorem lDesc_con (a b : GDesc) (ha : a.filter.length ≤ 9223372036854775807) : Con2 Try.prog 27 [.agg (encDD a), .agg (encDD b)] (· = plR (.v (.bool (decide (a = b))))) := by
  refine con2_of Ty.mixed Try.func27 rfl (by kernel_rfl) (by kernel_rfl) rfl [.tmp 4] rfl ?_
  ((try (with_reducible refine leK2_refl ?_)); simp -implicitDefEqProofs only [go_sem, vc2_blk]; repeat ((with_reducible refine leK2_refl ?_); simp -implicitDefEqProofs only [go_sem, vc2_blk]))
  refine guard2 (fun h1 => ?_) (fun h1 => ?_)
  · ((try (with_reducible refine leK2_refl ?_)); (try simp -implicitDefEqProofs only [go_sem, vc2_blk, h1]); repeat ((first | (with_reducible refine leK2_refl ?_) | (with_reducible refine ar_i64 (by omega) ?_) | (with_reducible refine And.intro (by omega) ?_)); (try simp -implicitDefEqProofs only [go_sem, vc2_blk, h1])))
    refine guard2 (fun h2 => ?_) (fun h2 => ?_)
    · ((try (with_reducible refine leK2_refl ?_)); (try simp -implicitDefEqProofs only [go_sem, vc2_blk, h2]); repeat ((first | (with_reducible refine leK2_refl ?_) | (with_reducible refine ar_i64 (by omega) ?_) | (with_reducible refine And.intro (by omega) ?_)); (try simp -implicitDefEqProofs only [go_sem, vc2_blk, h2])))
      refine guard2 (fun h3 => ?_) (fun h3 => ?_)
      · ((try (with_reducible refine leK2_refl ?_)); (try simp -implicitDefEqProofs only [go_sem, vc2_blk, h3]); repeat ((first | (with_reducible refine leK2_refl ?_) | (with_reducible refine ar_i64 (by omega) ?_) | (with_reducible refine And.intro (by omega) ?_)); (try simp -implicitDefEqProofs only [go_sem, vc2_blk, h3])))
        refine CallS.eq (lSpans_con a.filter b.filter ha) (by simp -implicitDefEqProofs only [go_sem, vc2_blk]) (.inl (by simp -implicitDefEqProofs only [go_sem, vc2_blk])) ?_
        ((try (with_reducible refine leK2_refl ?_)); (try simp -implicitDefEqProofs only [go_sem, vc2_blk]); repeat ((first | (with_reducible refine leK2_refl ?_) | (with_reducible refine ar_i64 (by omega) ?_) | (with_reducible refine And.intro (by omega) ?_)); (try simp -implicitDefEqProofs only [go_sem, vc2_blk])))
        exact ⟨_, rfl, le2_of [] (by simp -implicitDefEqProofs only [go_sem, vc2_blk, gdesc_dec, h1, h2, h3])⟩
      · ((try (with_reducible refine leK2_refl ?_)); (try simp -implicitDefEqProofs only [go_sem, vc2_blk, h3]); repeat ((first | (with_reducible refine leK2_refl ?_) | (with_reducible refine ar_i64 (by omega) ?_) | (with_reducible refine And.intro (by omega) ?_)); (try simp -implicitDefEqProofs only [go_sem, vc2_blk, h3])))
        exact ⟨_, rfl, le2_of [] (by simp -implicitDefEqProofs only [go_sem, vc2_blk, gdesc_dec, h1, h2, h3])⟩
    · ((try (with_reducible refine leK2_refl ?_)); (try simp -implicitDefEqProofs only [go_sem, vc2_blk, h2]); repeat ((first | (with_reducible refine leK2_refl ?_) | (with_reducible refine ar_i64 (by omega) ?_) | (with_reducible refine And.intro (by omega) ?_)); (try simp -implicitDefEqProofs only [go_sem, vc2_blk, h2])))
      exact ⟨_, rfl, le2_of [] (by simp -implicitDefEqProofs only [go_sem, vc2_blk, gdesc_dec, h1, h2])⟩
  · ((try (with_reducible refine leK2_refl ?_)); (try simp -implicitDefEqProofs only [go_sem, vc2_blk, h1]); repeat ((first | (with_reducible refine leK2_refl ?_) | (with_reducible refine ar_i64 (by omega) ?_) | (with_reducible refine And.intro (by omega) ?_)); (try simp -implicitDefEqProofs only [go_sem, vc2_blk, h1])))
    exact ⟨_, rfl, le2_of [] (by simp -implicitDefEqProofs only [go_sem, vc2_blk, gdesc_dec, h1])⟩

end Go.Proofs.Ytcfkcmalkbdphaa.V
