/-
  Part 31 of the proof of W: the engine and the walks, in their order.
-/
import Derived.Test.YtcfkcmalkbdphaaW23
import Derived.Test.YtcfkcmalkbdphaaW30
set_option linter.unusedSimpArgs false
set_option linter.unusedVariables false
/-
  The law of descriptors: one that differs in one thing.
-/
set_option linter.unusedSimpArgs false
set_option linter.unusedVariables false
namespace Go.Eng
theorem ar_u8w {a : UInt8} {K : Value → Prop} : AtArith .u8 ((a.toNat : Int) + 1) K = K (.int .u8 ((a + 1).toNat : Nat)) := by
  unfold AtArith
  have : IntKind.u8.wrap ((a.toNat : Int) + 1) = ((a + 1).toNat : Nat) := by
    rw [UInt8.toNat_add]
    show IntKind.u8.wrap ((a.toNat : Int) + 1) = (((a.toNat + 1) % 256 : Nat) : Int)
    have hb := a.toNat_lt
    by_cases h : a.toNat = 255
    · rw [h]; rfl
    · rw [IntWalk.u8_in _ (by omega)]; omega
  rw [this]
theorem ar_u16w {a : UInt16} {K : Value → Prop} : AtArith .u16 ((a.toNat : Int) + 1) K = K (.int .u16 ((a + 1).toNat : Nat)) := by
  unfold AtArith
  have : IntKind.u16.wrap ((a.toNat : Int) + 1) = ((a + 1).toNat : Nat) := by
    rw [UInt16.toNat_add]
    show IntKind.u16.wrap ((a.toNat : Int) + 1) = (((a.toNat + 1) % 65536 : Nat) : Int)
    have hb := a.toNat_lt
    by_cases h : a.toNat = 65535
    · rw [h]; rfl
    · rw [IntWalk.u16_in _ (by omega)]; omega
  rw [this]
end Go.Eng
namespace Go.Proofs.Ytcfkcmalkbdphaa.V
open Go.Eng
attribute [local go_sem] encS encDD fzD plR rowR putR ar_u8w ar_u16w

set_option maxRecDepth 8000 in
theorem sames_con (d : GDesc) (hd : d.filter.length ≤ 8) : Con2 Try.prog 26 [.agg (encDD d)] (· = plR (.v (.bool true))) := by
  have n1 : decide (d = ⟨d.node + 1, d.inc, d.age, d.filter⟩) = false := decide_eq_false fun e => by
    have h := congrArg (fun x => x.node.toNat) e
    have hb := d.node.toNat_lt
    simp only [UInt8.toNat_add, UInt8.reduceToNat] at h
    omega
  have n2 : decide (d = ⟨d.node, d.inc + 1, d.age, d.filter⟩) = false := decide_eq_false fun e => by
    have h := congrArg (fun x => x.inc.toNat) e
    have hb := d.inc.toNat_lt
    simp only [UInt16.toNat_add, UInt16.reduceToNat] at h
    omega
  have n3 : decide ((⟨d.node, d.inc, d.age + 1, d.filter⟩ : GDesc) = d) = false := decide_eq_false fun e => by
    have h := congrArg (fun x => x.age.toNat) e
    have hb := d.age.toNat_lt
    simp only [UInt8.toNat_add, UInt8.reduceToNat] at h
    omega
  have n4 : ∀ x, decide (d = ⟨d.node, d.inc, d.age, d.filter ++ [x]⟩) = false := fun x => decide_eq_false fun e => by
    have h := congrArg (fun x => x.filter.length) e
    simp at h
  have n5 : ∀ x, decide ((⟨d.node, d.inc, d.age, d.filter ++ [x]⟩ : GDesc) = d) = false := fun x => decide_eq_false fun e => by
    have h := congrArg (fun x => x.filter.length) e
    simp at h
  have n6 : decide ((⟨d.node, d.inc, d.age, d.filter ++ [⟨0, 0⟩]⟩ : GDesc) = ⟨d.node, d.inc, d.age, d.filter ++ [⟨0, 1⟩]⟩) = false := decide_eq_false fun e => by
    have h := congrArg (fun x => x.filter) e
    simp at h
  have n0 : decide (d = d) = true := decide_eq_true rfl
  refine con2_of Ty.mixed Try.func26 rfl (by kernel_rfl) (by kernel_rfl) rfl [.tmp 2] rfl ?_
  ((try (with_reducible refine leK2_refl ?_)); simp -implicitDefEqProofs only [go_sem, vc2_blk]; repeat ((with_reducible refine leK2_refl ?_); simp -implicitDefEqProofs only [go_sem, vc2_blk]))
  refine draw_allocs (.fl 0 (.fl 1 (.fl 2 (.fl 3 (.fl 4 (permT (.eff 10 false (.eff 11 false (.eff 12 false (.eff 13 false (.eff 14 false .done .no) .no) .no) .no) .no) 5 [⟨5, 3, 32, [.v (.int .u8 0), .v (.int .u16 0), .v (.int .u8 0), .v (.slice none 0 0)]⟩, ⟨6, 4, 32, [.v (.int .u8 0), .v (.int .u16 0), .v (.int .u8 0), .v (.slice none 0 0)]⟩, ⟨7, 5, 32, [.v (.int .u8 0), .v (.int .u16 0), .v (.int .u8 0), .v (.slice none 0 0)]⟩, ⟨8, 6, 32, [.v (.int .u8 0), .v (.int .u16 0), .v (.int .u8 0), .v (.slice none 0 0)]⟩, ⟨9, 7, 32, [.v (.int .u8 0), .v (.int .u16 0), .v (.int .u8 0), .v (.slice none 0 0)]⟩])))))) [0, 1, 2, 3, 4] [1] (by kernel_rfl) ?_
  ((try (with_reducible refine leK2_refl ?_)); (try simp -implicitDefEqProofs only [go_sem, vc2_blk]); repeat ((first | (with_reducible refine leK2_refl ?_) | (with_reducible refine And.intro (by omega) ?_)); (try simp -implicitDefEqProofs only [go_sem, vc2_blk])))
  refine allocs_ [⟨5, 3, 32, [.v (.int .u8 0), .v (.int .u16 0), .v (.int .u8 0), .v (.slice none 0 0)]⟩, ⟨6, 4, 32, [.v (.int .u8 0), .v (.int .u16 0), .v (.int .u8 0), .v (.slice none 0 0)]⟩, ⟨7, 5, 32, [.v (.int .u8 0), .v (.int .u16 0), .v (.int .u8 0), .v (.slice none 0 0)]⟩, ⟨8, 6, 32, [.v (.int .u8 0), .v (.int .u16 0), .v (.int .u8 0), .v (.slice none 0 0)]⟩, ⟨9, 7, 32, [.v (.int .u8 0), .v (.int .u16 0), .v (.int .u8 0), .v (.slice none 0 0)]⟩] rfl rfl (by simp -implicitDefEqProofs only [go_sem, vc2_blk]) ⟨⟨by simp -implicitDefEqProofs only [go_sem, vc2_blk], rfl, _, rfl, rfl, rfl, rfl, Ty.zeroD32, rfl⟩, ⟨by simp -implicitDefEqProofs only [go_sem, vc2_blk], rfl, _, rfl, rfl, rfl, rfl, Ty.zeroD32, rfl⟩, ⟨by simp -implicitDefEqProofs only [go_sem, vc2_blk], rfl, _, rfl, rfl, rfl, rfl, Ty.zeroD32, rfl⟩, ⟨by simp -implicitDefEqProofs only [go_sem, vc2_blk], rfl, _, rfl, rfl, rfl, rfl, Ty.zeroD32, rfl⟩, ⟨by simp -implicitDefEqProofs only [go_sem, vc2_blk], rfl, _, rfl, rfl, rfl, rfl, Ty.zeroD32, rfl⟩, trivial⟩ ?_
  ((try (with_reducible refine leK2_refl ?_)); (try simp -implicitDefEqProofs only [go_sem, vc2_blk]); repeat ((first | (with_reducible refine leK2_refl ?_) | (with_reducible refine And.intro (by omega) ?_)); (try simp -implicitDefEqProofs only [go_sem, vc2_blk])))
  have f1 : decide (d.filter.length + 1 ≤ d.filter.length + 1) = true := decide_eq_true (Nat.le_refl _)
  have f4 : ∀ x, (d.filter.map encS ++ [x]).length = d.filter.length + 1 := fun x => by simp
  have f2 : ∀ x, (d.filter.map encS ++ [x]).take (d.filter.length + 1) = d.filter.map encS ++ [x] := fun x => List.take_of_length_le (by simp)
  have f3 : ∀ x, (d.filter.map encS ++ [x])[d.filter.length]? = some x := fun x => by simp
  have f5 : ∀ (K : Value → Prop), AtArith .i32 1 K = K (.int .i32 1) := fun K => rfl
  have f6 : ∀ x y, (d.filter.map encS ++ [x]).set d.filter.length y = d.filter.map encS ++ [y] := fun x y => by
    simp
  ((try (with_reducible refine leK2_refl ?_)); (try simp -implicitDefEqProofs only [go_sem, vc2_blk, f5, f6, f1, f2, f3, f4]); repeat ((first | (with_reducible refine leK2_refl ?_) | (with_reducible refine ar_i64 (by omega) ?_) | (with_reducible refine And.intro (by omega) ?_)); (try simp -implicitDefEqProofs only [go_sem, vc2_blk, f5, f6, f1, f2, f3, f4])))
  have hb : d.filter.length ≤ 9223372036854775807 := by omega
  have hm : ∀ (x : GSpan), (d.filter ++ [x]).length ≤ 9223372036854775807 := fun x => by simp; omega
  refine ⟨rfl, ?_⟩
  refine CallS.eq (dSame_con d d hb) (by simp -implicitDefEqProofs only [go_sem, vc2_blk]) (.inl (by simp -implicitDefEqProofs only [go_sem, vc2_blk])) ?_
  ((try (with_reducible refine leK2_refl ?_)); (try simp -implicitDefEqProofs only [go_sem, vc2_blk, n0, n1, n2, n3, n4, n5, n6]); repeat ((first | (with_reducible refine leK2_refl ?_) | (with_reducible refine ar_i64 (by omega) ?_) | (with_reducible refine And.intro (by omega) ?_)); (try simp -implicitDefEqProofs only [go_sem, vc2_blk, n0, n1, n2, n3, n4, n5, n6])))
  refine CallS.eq (dSame_con d ⟨d.node + 1, d.inc, d.age, d.filter⟩ hb ) (by simp -implicitDefEqProofs only [go_sem, vc2_blk, f1, f2, f4, List.map_append, List.map_cons, List.map_nil]) (.inl (by simp -implicitDefEqProofs only [go_sem, vc2_blk])) ?_
  ((try (with_reducible refine leK2_refl ?_)); (try simp -implicitDefEqProofs only [go_sem, vc2_blk, n0, n1, n2, n3, n4, n5, n6, f1, f2, f4]); repeat ((first | (with_reducible refine leK2_refl ?_) | (with_reducible refine ar_i64 (by omega) ?_) | (with_reducible refine And.intro (by omega) ?_)); (try simp -implicitDefEqProofs only [go_sem, vc2_blk, n0, n1, n2, n3, n4, n5, n6, f1, f2, f4])))
  refine CallS.eq (dSame_con d ⟨d.node, d.inc + 1, d.age, d.filter⟩ hb ) (by simp -implicitDefEqProofs only [go_sem, vc2_blk, f1, f2, f4, List.map_append, List.map_cons, List.map_nil]) (.inl (by simp -implicitDefEqProofs only [go_sem, vc2_blk])) ?_
  ((try (with_reducible refine leK2_refl ?_)); (try simp -implicitDefEqProofs only [go_sem, vc2_blk, n0, n1, n2, n3, n4, n5, n6, f1, f2, f4]); repeat ((first | (with_reducible refine leK2_refl ?_) | (with_reducible refine ar_i64 (by omega) ?_) | (with_reducible refine And.intro (by omega) ?_)); (try simp -implicitDefEqProofs only [go_sem, vc2_blk, n0, n1, n2, n3, n4, n5, n6, f1, f2, f4])))
  refine CallS.eq (dSame_con ⟨d.node, d.inc, d.age + 1, d.filter⟩ d hb ) (by simp -implicitDefEqProofs only [go_sem, vc2_blk, f1, f2, f4, List.map_append, List.map_cons, List.map_nil]) (.inl (by simp -implicitDefEqProofs only [go_sem, vc2_blk])) ?_
  ((try (with_reducible refine leK2_refl ?_)); (try simp -implicitDefEqProofs only [go_sem, vc2_blk, n0, n1, n2, n3, n4, n5, n6, f1, f2, f4]); repeat ((first | (with_reducible refine leK2_refl ?_) | (with_reducible refine ar_i64 (by omega) ?_) | (with_reducible refine And.intro (by omega) ?_)); (try simp -implicitDefEqProofs only [go_sem, vc2_blk, n0, n1, n2, n3, n4, n5, n6, f1, f2, f4])))
  refine CallS.eq (dSame_con d ⟨d.node, d.inc, d.age, d.filter ++ [⟨0, 0⟩]⟩ hb ) (by simp -implicitDefEqProofs only [go_sem, vc2_blk, f1, f2, f4, List.map_append, List.map_cons, List.map_nil]) (.inl (by simp -implicitDefEqProofs only [go_sem, vc2_blk])) ?_
  ((try (with_reducible refine leK2_refl ?_)); (try simp -implicitDefEqProofs only [go_sem, vc2_blk, n0, n1, n2, n3, n4, n5, n6, f1, f2, f4]); repeat ((first | (with_reducible refine leK2_refl ?_) | (with_reducible refine ar_i64 (by omega) ?_) | (with_reducible refine And.intro (by omega) ?_)); (try simp -implicitDefEqProofs only [go_sem, vc2_blk, n0, n1, n2, n3, n4, n5, n6, f1, f2, f4])))
  refine CallS.eq (dSame_con (⟨d.node, d.inc, d.age, d.filter ++ [⟨0, 0⟩]⟩ : GDesc) d (hm _)) (by simp -implicitDefEqProofs only [go_sem, vc2_blk, f1, f2, f4, List.map_append, List.map_cons, List.map_nil]) (.inl (by simp -implicitDefEqProofs only [go_sem, vc2_blk])) ?_
  ((try (with_reducible refine leK2_refl ?_)); (try simp -implicitDefEqProofs only [go_sem, vc2_blk, n0, n1, n2, n3, n4, n5, n6, f1, f2, f4]); repeat ((first | (with_reducible refine leK2_refl ?_) | (with_reducible refine ar_i64 (by omega) ?_) | (with_reducible refine And.intro (by omega) ?_)); (try simp -implicitDefEqProofs only [go_sem, vc2_blk, n0, n1, n2, n3, n4, n5, n6, f1, f2, f4])))
  refine CallS.eq (dSame_con (⟨d.node, d.inc, d.age, d.filter ++ [⟨0, 0⟩]⟩ : GDesc) ⟨d.node, d.inc, d.age, d.filter ++ [⟨0, 1⟩]⟩ (hm _)) (by simp -implicitDefEqProofs only [go_sem, vc2_blk, f1, f2, f4, List.map_append, List.map_cons, List.map_nil]) (.inl (by simp -implicitDefEqProofs only [go_sem, vc2_blk])) ?_
  ((try (with_reducible refine leK2_refl ?_)); (try simp -implicitDefEqProofs only [go_sem, vc2_blk, n0, n1, n2, n3, n4, n5, n6, f1, f2, f4]); repeat ((first | (with_reducible refine leK2_refl ?_) | (with_reducible refine ar_i64 (by omega) ?_) | (with_reducible refine And.intro (by omega) ?_)); (try simp -implicitDefEqProofs only [go_sem, vc2_blk, n0, n1, n2, n3, n4, n5, n6, f1, f2, f4])))
  exact ⟨_, rfl, le2_of [] (by simp -implicitDefEqProofs only [go_sem, vc2_blk])⟩
end Go.Proofs.Ytcfkcmalkbdphaa.V
