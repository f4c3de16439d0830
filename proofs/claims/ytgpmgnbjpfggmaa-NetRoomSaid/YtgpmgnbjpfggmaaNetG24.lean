/-
  Part 24 of the proof of NetG: the engine and the walks, in their order.
-/
import Derived.Test.YtgpmgnbjpfggmaaNetG18
set_option linter.unusedSimpArgs false
set_option linter.unusedVariables false
/-
  Net: NetRoom walked.
-/
set_option linter.unusedSimpArgs false
set_option linter.unusedVariables false
namespace Go.Eng
def encF (b : List UInt8) : List DV := [bytesD b]
def pkN (F : List (List UInt8)) (k : Nat) : GPar := ⟨UInt8.ofNat k, false, F.getD k []⟩
def mkN (F : List (List UInt8)) (h : Nat) : List GPar := (List.range h).map (pkN F)
def hvN (R : Int) (i : Nat) : Nat := min i R.toNat
def stN (R : Int) (F : List (List UInt8)) (i : Nat) : GNet := ⟨R, mkN F (hvN R i), (i : Int) - hvN R i⟩
theorem mkN_len {F : List (List UInt8)} {h : Nat} : (mkN F h).length = h := by simp [mkN]
theorem mkN_succ {F : List (List UInt8)} {h : Nat} : mkN F (h + 1) = mkN F h ++ [pkN F h] := by simp [mkN, List.range_succ]
theorem mkN_small {F : List (List UInt8)} {h i : Nat} (hF : ∀ b ∈ F.take i, b.length ≤ 60) (hi : h ≤ i) : ∀ p ∈ mkN F h, p.b.length ≤ 60 := by
  intro p hp
  obtain ⟨k, hk, rfl⟩ := List.mem_map.1 hp
  have hk' : k < h := by simpa using hk
  simp only [pkN]
  by_cases hl : k < F.length
  · rw [getD_at hl]
    exact hF _ (List.mem_take_iff_getElem.2 ⟨k, by omega, rfl⟩)
  · simp [List.getD, hl]
theorem stN_ok {R : Int} {F : List (List UInt8)} {i : Nat} (h30 : i ≤ 30) (hF : ∀ b ∈ F.take i, b.length ≤ 60) : (stN R F i).ok := by
  have h : hvN R i ≤ i := by simp only [hvN]; omega
  exact ⟨by simp only [stN, mkN_len]; omega, fun p hp => Nat.le_trans (mkN_small hF h p hp) (by decide)⟩
theorem hvN_up {R : Int} {i : Nat} (h : ((hvN R i : Nat) : Int) < R) : hvN R (i + 1) = hvN R i + 1 := by simp only [hvN] at h ⊢; omega
theorem hvN_st {R : Int} {i : Nat} (h : ¬ ((hvN R i : Nat) : Int) < R) : hvN R (i + 1) = hvN R i := by simp only [hvN] at h ⊢; omega
theorem hvN_le {R : Int} {i : Nat} : hvN R i ≤ i := by simp only [hvN]; omega
theorem drop_ok {R lost : Int} {l : List GPar} {j : Nat} (h : (⟨R, l, lost⟩ : GNet).ok) : (⟨R, l.drop j, lost⟩ : GNet).ok :=
  ⟨by have := h.1; simp only [List.length_drop] at this ⊢; omega, fun p hp => h.2 p (List.mem_of_mem_drop hp)⟩
theorem tk_first {R lost : Int} {l : List GPar} {j : Nat} (h : j < l.length) :
    DV.tup [.agg ((⟨R, l.drop j, lost⟩ : GNet).tkP 0).enc, ((⟨R, l.drop j, lost⟩ : GNet).tkN 0).dv, .v (.int .i64 ((⟨R, l.drop j, lost⟩ : GNet).tkE 0))] = .tup [.agg (l[j]).enc, (⟨R, l.drop (j + 1), lost⟩ : GNet).dv, .v (.int .i64 0)] := by
  have ht : (⟨R, l.drop j, lost⟩ : GNet).there 0 = true := by simp [GNet.there]; omega
  simp only [GNet.tkP, GNet.tkN, GNet.tkE, ht, if_true, GNet.del]
  have h1 : (l.drop j).getD 0 parZ = l[j] := by rw [getD_at (by simp; omega)]; simp
  have h2 : (l.drop j).eraseIdx 0 = l.drop (j + 1) := by
    rw [List.drop_eq_getElem_cons h]; rfl
  show DV.tup [.agg ((l.drop j).getD 0 parZ).enc, (⟨R, (l.drop j).eraseIdx 0, lost⟩ : GNet).dv, _] = _
  rw [h1, h2]
theorem u8_nat {i : Nat} (h : i < 256) : ((UInt8.ofNat i).toNat : Int) = i := by rw [UInt8.toNat_ofNat', Nat.mod_eq_of_lt h]
theorem stN_put {R : Int} {F : List (List UInt8)} {i : Nat} (hi : i < F.length) (h30 : F.length ≤ 30) : (stN R F i).put ⟨UInt8.ofNat i, false, F[i]⟩ = stN R F (i + 1) := by
  unfold GNet.put
  simp only [stN, mkN_len]
  by_cases h : ((hvN R i : Nat) : Int) < R
  · have e1 : hvN R i = i := by simp only [hvN] at h ⊢; omega
    have e2 : hvN R (i + 1) = i + 1 := by simp only [hvN] at h ⊢; omega
    rw [if_pos h, e1, e2, mkN_succ]
    simp only [GNet.mk.injEq, true_and]
    exact ⟨by rw [pkN, getD_at hi], by omega⟩
  · have e2 : hvN R (i + 1) = hvN R i := by simp only [hvN] at h ⊢; omega
    have e3 : hvN R i ≤ i := by simp only [hvN]; omega
    rw [if_neg h, e2]
    simp only [GNet.mk.injEq, true_and]
    rw [IntWalk.i64_in _ ⟨by omega, by omega⟩]
    omega
end Go.Eng
namespace Go.Proofs.Ytgpmgnbjpfggmaa
open Go.Eng
attribute [local go_sem] GPar.enc bytesD GNet.dv GNet.res plR takD losD dblD movD bndD encF stN

set_option maxHeartbeats 2000000 in
theorem nroom_con (room : UInt8) (G : List (List UInt8)) (hG : G.length ≤ 9223372036854775807) (hGb : ∀ b ∈ G, b.length ≤ 9223372036854775807) :
    Con2 Try.prog 3 [.v (.int .u8 room.toNat), .fz 1 (G.map encF)] (· = plR (.v (.bool true))) := by
  refine con2_of Ty.mixed Try.func3 rfl (by kernel_rfl) (by kernel_rfl) rfl [.tmp 4] rfl ?_
  ((try (with_reducible refine leK2_refl ?_)); simp -implicitDefEqProofs only [go_sem, vc2_blk]; repeat ((with_reducible refine leK2_refl ?_); simp -implicitDefEqProofs only [go_sem, vc2_blk]))
  rw [rem_nn (by omega) (by omega)]
  ((try (with_reducible refine leK2_refl ?_)); (try simp -implicitDefEqProofs only [go_sem, vc2_blk]); repeat ((first | (with_reducible refine leK2_refl ?_) | (with_reducible refine ar_i64 (by omega) ?_) | (with_reducible refine And.intro (by omega) ?_)); (try simp -implicitDefEqProofs only [go_sem, vc2_blk])))
  rw [show (if (30 : Int) < (G.length : Int) then 30 else (G.length : Int)) = ((min G.length 30 : Nat) : Int) from by split <;> omega]
  ((try (with_reducible refine leK2_refl ?_)); (try simp -implicitDefEqProofs only [go_sem, vc2_blk]); repeat ((first | (with_reducible refine leK2_refl ?_) | (with_reducible refine ar_i64 (by omega) ?_) | (with_reducible refine And.intro (by omega) ?_)); (try simp -implicitDefEqProofs only [go_sem, vc2_blk])))
  ((try (with_reducible refine leK2_refl ?_)); (try simp -implicitDefEqProofs only [go_sem, vc2_blk, Int.toNat_natCast, List.drop_zero, Nat.sub_zero]); repeat ((first | (with_reducible refine leK2_refl ?_) | (with_reducible refine ar_i64 (by omega) ?_) | (with_reducible refine And.intro (by omega) ?_)); (try simp -implicitDefEqProofs only [go_sem, vc2_blk, Int.toNat_natCast, List.drop_zero, Nat.sub_zero])))
  rw [← List.map_take]
  generalize hF : G.take (min G.length 30) = F
  have hF30 : F.length ≤ 30 := by rw [← hF, List.length_take]; omega
  have hFb : ∀ b ∈ F, b.length ≤ 9223372036854775807 := fun b hb => hGb b (by rw [← hF] at hb; exact List.mem_of_mem_take hb)
  generalize hR : (room.toNat : Int) % 16 - 3 = R
  refine vc2_rangeA F.length (fun i => [(6, .d (.v (.int .i64 (hvN R i : Nat)))), (7, .unk), (8, .unk)]) (fun i => [(5, ⟨[.v (.int .i64 R), .fz 3 ((mkN F (hvN R i)).map GPar.enc), .v (.int .i64 ((i : Int) - hvN R i))], 25⟩)]) (fun i => []) 0 (fun i => ∀ b ∈ F.take i, b.length ≤ 60) (le2_of [] ?_) (by simp) (fun g k => by simp -implicitDefEqProofs only [go_sem, vc2_blk]) (by omega) (fun g => by simp -implicitDefEqProofs only [go_sem, vc2_blk]) (fun i hi hs => ?_) (fun hs => ?_)
  · ((try (with_reducible refine leK2_refl ?_)); simp -implicitDefEqProofs only [go_sem, vc2_blk]; repeat ((with_reducible refine leK2_refl ?_); simp -implicitDefEqProofs only [go_sem, vc2_blk]))
    simp [hvN, mkN]
  · ((try (with_reducible refine leK2_refl ?_)); (try simp -implicitDefEqProofs only [go_sem, vc2_blk, mapE_get hi, encF]); repeat ((first | (with_reducible refine leK2_refl ?_) | (with_reducible refine ar_i64 (by omega) ?_) | (with_reducible refine And.intro (by omega) ?_)); (try simp -implicitDefEqProofs only [go_sem, vc2_blk, mapE_get hi, encF])))
    refine cond2_dec (fun h => ?_) (fun h => ?_)
    · ((try (with_reducible refine leK2_refl ?_)); (try simp -implicitDefEqProofs only [go_sem, vc2_blk]); repeat ((first | (with_reducible refine leK2_refl ?_) | (with_reducible refine ar_i64 (by omega) ?_) | (with_reducible refine And.intro (by omega) ?_)); (try simp -implicitDefEqProofs only [go_sem, vc2_blk])))
      refine CallS.eq nawake_con (by simp -implicitDefEqProofs only [go_sem, vc2_blk]) (.inl (by simp -implicitDefEqProofs only [go_sem, vc2_blk])) ?_
      ((try (with_reducible refine leK2_refl ?_)); (try simp -implicitDefEqProofs only [go_sem, vc2_blk]); repeat ((first | (with_reducible refine leK2_refl ?_) | (with_reducible refine ar_i64 (by omega) ?_) | (with_reducible refine And.intro (by omega) ?_)); (try simp -implicitDefEqProofs only [go_sem, vc2_blk])))
      exact ⟨_, rfl, le2_of [] (by simp -implicitDefEqProofs only [go_sem, vc2_blk])⟩
    · have hb60 : F[i].length ≤ 60 := by omega
      have hc := Send_any (stN R F i) (UInt8.ofNat i) F[i] (stN_ok (by omega) hs) (by omega)
      rw [stN_put hi hF30] at hc
      have hu := u8_nat (i := i) (by omega)
      have hs' : ∀ b ∈ F.take (i + 1), b.length ≤ 60 := fun b hb => by
        rw [take_snoc hi] at hb
        rcases List.mem_append.1 hb with hb | hb
        · exact hs b hb
        · simp at hb; subst hb; exact hb60
      have hle : hvN R i ≤ i := hvN_le
      ((try (with_reducible refine leK2_refl ?_)); (try simp -implicitDefEqProofs only [go_sem, vc2_blk]); repeat ((first | (with_reducible refine leK2_refl ?_) | (with_reducible refine ar_i64 (by omega) ?_) | (with_reducible refine And.intro (by omega) ?_)); (try simp -implicitDefEqProofs only [go_sem, vc2_blk])))
      refine ar_u8 ⟨by omega, by omega⟩ ?_
      ((try (with_reducible refine leK2_refl ?_)); (try simp -implicitDefEqProofs only [go_sem, vc2_blk]); repeat ((first | (with_reducible refine leK2_refl ?_) | (with_reducible refine ar_i64 (by omega) ?_) | (with_reducible refine And.intro (by omega) ?_)); (try simp -implicitDefEqProofs only [go_sem, vc2_blk])))
      refine CallS.eq hc (by simp -implicitDefEqProofs only [go_sem, vc2_blk, hu]) (.inl (by simp -implicitDefEqProofs only [go_sem, vc2_blk])) ?_
      ((try (with_reducible refine leK2_refl ?_)); (try simp -implicitDefEqProofs only [go_sem, vc2_blk]); repeat ((first | (with_reducible refine leK2_refl ?_) | (with_reducible refine ar_i64 (by omega) ?_) | (with_reducible refine And.intro (by omega) ?_)); (try simp -implicitDefEqProofs only [go_sem, vc2_blk])))
      by_cases h1 : ((hvN R i : Nat) : Int) < R
      · have e1 := hvN_up h1
        rw [decide_eq_true h1]
        ((try (with_reducible refine leK2_refl ?_)); (try simp -implicitDefEqProofs only [go_sem, vc2_blk, mkN_len, e1]); repeat ((first | (with_reducible refine leK2_refl ?_) | (with_reducible refine ar_i64 (by omega) ?_) | (with_reducible refine And.intro (by omega) ?_)); (try simp -implicitDefEqProofs only [go_sem, vc2_blk, mkN_len, e1])))
        refine guard2 (fun h2 => ?_) (fun h2 => absurd h2 (by simp))
        rw [h2]
        ((try (with_reducible refine leK2_refl ?_)); (try simp -implicitDefEqProofs only [go_sem, vc2_blk]); repeat ((first | (with_reducible refine leK2_refl ?_) | (with_reducible refine ar_i64 (by omega) ?_) | (with_reducible refine And.intro (by omega) ?_)); (try simp -implicitDefEqProofs only [go_sem, vc2_blk])))
        refine cond2_ne (fun h3 => absurd (by omega) h3) (fun h3 => ?_)
        ((try (with_reducible refine leK2_refl ?_)); (try simp -implicitDefEqProofs only [go_sem, vc2_blk]); repeat ((first | (with_reducible refine leK2_refl ?_) | (with_reducible refine ar_i64 (by omega) ?_) | (with_reducible refine And.intro (by omega) ?_)); (try simp -implicitDefEqProofs only [go_sem, vc2_blk])))
        refine ⟨i + 1, le2_of [] ?_, rfl, hs'⟩
        ((try (with_reducible refine leK2_refl ?_)); simp -implicitDefEqProofs only [go_sem, vc2_blk, e1]; repeat ((with_reducible refine leK2_refl ?_); simp -implicitDefEqProofs only [go_sem, vc2_blk, e1]))
        simp
      · have e1 := hvN_st h1
        rw [decide_eq_false h1]
        ((try (with_reducible refine leK2_refl ?_)); (try simp -implicitDefEqProofs only [go_sem, vc2_blk, mkN_len, e1]); repeat ((first | (with_reducible refine leK2_refl ?_) | (with_reducible refine ar_i64 (by omega) ?_) | (with_reducible refine And.intro (by omega) ?_)); (try simp -implicitDefEqProofs only [go_sem, vc2_blk, mkN_len, e1])))
        refine guard2 (fun h2 => ?_) (fun h2 => absurd h2 (by simp))
        rw [h2]
        ((try (with_reducible refine leK2_refl ?_)); (try simp -implicitDefEqProofs only [go_sem, vc2_blk]); repeat ((first | (with_reducible refine leK2_refl ?_) | (with_reducible refine ar_i64 (by omega) ?_) | (with_reducible refine And.intro (by omega) ?_)); (try simp -implicitDefEqProofs only [go_sem, vc2_blk])))
        refine cond2_ne (fun h3 => absurd (by omega) h3) (fun h3 => ?_)
        ((try (with_reducible refine leK2_refl ?_)); (try simp -implicitDefEqProofs only [go_sem, vc2_blk]); repeat ((first | (with_reducible refine leK2_refl ?_) | (with_reducible refine ar_i64 (by omega) ?_) | (with_reducible refine And.intro (by omega) ?_)); (try simp -implicitDefEqProofs only [go_sem, vc2_blk])))
        refine ⟨i + 1, le2_of [] ?_, rfl, hs'⟩
        ((try (with_reducible refine leK2_refl ?_)); simp -implicitDefEqProofs only [go_sem, vc2_blk, e1]; repeat ((with_reducible refine leK2_refl ?_); simp -implicitDefEqProofs only [go_sem, vc2_blk, e1]))
  · have hsF : ∀ b ∈ F, b.length ≤ 60 := fun b hb => hs b (by rw [List.take_of_length_le (Nat.le_refl _)]; exact hb)
    have hok := stN_ok (R := R) (F := F) (i := F.length) hF30 hs
    have hle : hvN R F.length ≤ F.length := hvN_le
    have hle2 : ((hvN R F.length : Nat) : Int) ≤ R ∨ hvN R F.length = 0 := by simp only [hvN]; omega
    generalize hh : hvN R F.length = h at hle hle2
    have hn : (⟨R, mkN F h, (F.length : Int) - h⟩ : GNet).ok := by rw [← hh]; exact hok
    ((try (with_reducible refine leK2_refl ?_)); (try simp -implicitDefEqProofs only [go_sem, vc2_blk]); repeat ((first | (with_reducible refine leK2_refl ?_) | (with_reducible refine ar_i64 (by omega) ?_) | (with_reducible refine And.intro (by omega) ?_)); (try simp -implicitDefEqProofs only [go_sem, vc2_blk])))
    by_cases h0 : 0 < h
    obtain ⟨tw, hc, t1⟩ : ∃ tw : GNet, Con2 Try.prog 9 [(⟨R, mkN F h, (F.length : Int) - h⟩ : GNet).dv, .v (.int .i64 ((h : Int) - 1))] (· = plR (.tup [tw.dv, .v (.int .i64 0)])) ∧
          ((h : Int) < R ∧ tw.l.length = h + 1 ∧ tw.lost = F.length - h ∨ ¬ (h : Int) < R ∧ tw.l.length = h ∧ tw.lost = F.length - h + 1) := by
        have hc := Double_any _ ((h : Int) - 1) hn
        have ht : (⟨R, mkN F h, (F.length : Int) - h⟩ : GNet).there ((h : Int) - 1) = true := by simp [GNet.there, mkN_len]; omega
        rw [dblD, GNet.dbN, GNet.tkE, ht] at hc
        refine ⟨_, hc, ?_⟩
        simp only [if_true, GNet.put, mkN_len]
        by_cases hr : (h : Int) < R
        · rw [if_pos hr]; exact .inl ⟨hr, by simp [mkN_len], rfl⟩
        · rw [if_neg hr]; exact .inr ⟨hr, mkN_len, IntWalk.i64_in _ ⟨by omega, by omega⟩⟩
    rw [decide_eq_true (show (0 : Int) < (h : Int) by omega)]
    ((try (with_reducible refine leK2_refl ?_)); (try simp -implicitDefEqProofs only [go_sem, vc2_blk]); repeat ((first | (with_reducible refine leK2_refl ?_) | (with_reducible refine ar_i64 (by omega) ?_) | (with_reducible refine And.intro (by omega) ?_)); (try simp -implicitDefEqProofs only [go_sem, vc2_blk])))
    refine CallS.eq hc (by simp -implicitDefEqProofs only [go_sem, vc2_blk]) (.inl (by simp -implicitDefEqProofs only [go_sem, vc2_blk])) ?_
    ((try (with_reducible refine leK2_refl ?_)); (try simp -implicitDefEqProofs only [go_sem, vc2_blk]); repeat ((first | (with_reducible refine leK2_refl ?_) | (with_reducible refine ar_i64 (by omega) ?_) | (with_reducible refine And.intro (by omega) ?_)); (try simp -implicitDefEqProofs only [go_sem, vc2_blk])))
    rcases t1 with ⟨r1, r2, r3⟩ | ⟨r1, r2, r3⟩
    ((try (with_reducible refine leK2_refl ?_)); (try simp -implicitDefEqProofs only [go_sem, vc2_blk, r2, r3]); repeat ((first | (with_reducible refine leK2_refl ?_) | (with_reducible refine ar_i64 (by omega) ?_) | (with_reducible refine And.intro (by omega) ?_)); (try simp -implicitDefEqProofs only [go_sem, vc2_blk, r2, r3])))
    refine guard2 (fun h2 => ?_) (fun h2 => absurd h2 (by simp [r1]))
    rw [h2]
    ((try (with_reducible refine leK2_refl ?_)); (try simp -implicitDefEqProofs only [go_sem, vc2_blk, mkN_len]); repeat ((first | (with_reducible refine leK2_refl ?_) | (with_reducible refine ar_i64 (by omega) ?_) | (with_reducible refine And.intro (by omega) ?_)); (try simp -implicitDefEqProofs only [go_sem, vc2_blk, mkN_len])))
    refine cond2_ne (fun h3 => absurd (by omega) h3) (fun h3 => ?_)
    ((try (with_reducible refine leK2_refl ?_)); (try simp -implicitDefEqProofs only [go_sem, vc2_blk]); repeat ((first | (with_reducible refine leK2_refl ?_) | (with_reducible refine ar_i64 (by omega) ?_) | (with_reducible refine And.intro (by omega) ?_)); (try simp -implicitDefEqProofs only [go_sem, vc2_blk])))
    rotate_left
    ((try (with_reducible refine leK2_refl ?_)); (try simp -implicitDefEqProofs only [go_sem, vc2_blk, r2, r3]); repeat ((first | (with_reducible refine leK2_refl ?_) | (with_reducible refine ar_i64 (by omega) ?_) | (with_reducible refine And.intro (by omega) ?_)); (try simp -implicitDefEqProofs only [go_sem, vc2_blk, r2, r3])))
    refine guard2 (fun h2 => ?_) (fun h2 => absurd h2 (by simp [r1]; omega))
    rw [h2]
    ((try (with_reducible refine leK2_refl ?_)); (try simp -implicitDefEqProofs only [go_sem, vc2_blk, mkN_len]); repeat ((first | (with_reducible refine leK2_refl ?_) | (with_reducible refine ar_i64 (by omega) ?_) | (with_reducible refine And.intro (by omega) ?_)); (try simp -implicitDefEqProofs only [go_sem, vc2_blk, mkN_len])))
    refine cond2_ne (fun h3 => absurd (by omega) h3) (fun h3 => ?_)
    ((try (with_reducible refine leK2_refl ?_)); (try simp -implicitDefEqProofs only [go_sem, vc2_blk]); repeat ((first | (with_reducible refine leK2_refl ?_) | (with_reducible refine ar_i64 (by omega) ?_) | (with_reducible refine And.intro (by omega) ?_)); (try simp -implicitDefEqProofs only [go_sem, vc2_blk])))
    rotate_left
    rw [decide_eq_false (show ¬ (0 : Int) < (h : Int) by omega)]
    ((try (with_reducible refine leK2_refl ?_)); (try simp -implicitDefEqProofs only [go_sem, vc2_blk]); repeat ((first | (with_reducible refine leK2_refl ?_) | (with_reducible refine ar_i64 (by omega) ?_) | (with_reducible refine And.intro (by omega) ?_)); (try simp -implicitDefEqProofs only [go_sem, vc2_blk])))
    all_goals
      refine vc2_rangeA h (fun j => [(11, .unk), (14, .unk)]) (fun j => [(5, ⟨[.v (.int .i64 R), .fz 3 (((mkN F h).drop j).map GPar.enc), .v (.int .i64 ((F.length : Int) - h))], 25⟩)]) (fun i => []) 0 (fun i => True) (le2_of [] (by simp -implicitDefEqProofs only [go_sem, vc2_blk]; rfl)) trivial (fun g k => by simp -implicitDefEqProofs only [go_sem, vc2_blk]) (by omega) (fun g => by simp -implicitDefEqProofs only [go_sem, vc2_blk]) (fun j hj _ => ?_) (fun _ => ?_)
      · have hjF : j < F.length := by omega
        have hu := u8_nat (i := j) (by omega)
        have hc := Take_any ⟨R, (mkN F h).drop j, (F.length : Int) - h⟩ 0 (drop_ok hn)
        rw [takD, tk_first (show j < (mkN F h).length by rw [mkN_len]; exact hj)] at hc
        rw [show (mkN F h)[j]'(by rw [mkN_len]; exact hj) = ⟨UInt8.ofNat j, false, F[j]⟩ from by simp [mkN, pkN, hjF]] at hc
        have hsd : decide (F[j] = F[j]) = true := by simp
        ((try (with_reducible refine leK2_refl ?_)); (try simp -implicitDefEqProofs only [go_sem, vc2_blk]); repeat ((first | (with_reducible refine leK2_refl ?_) | (with_reducible refine ar_i64 (by omega) ?_) | (with_reducible refine And.intro (by omega) ?_)); (try simp -implicitDefEqProofs only [go_sem, vc2_blk])))
        refine CallS.eq hc (by simp -implicitDefEqProofs only [go_sem, vc2_blk]) (.inl (by simp -implicitDefEqProofs only [go_sem, vc2_blk])) ?_
        ((try (with_reducible refine leK2_refl ?_)); (try simp -implicitDefEqProofs only [go_sem, vc2_blk]); repeat ((first | (with_reducible refine leK2_refl ?_) | (with_reducible refine ar_i64 (by omega) ?_) | (with_reducible refine And.intro (by omega) ?_)); (try simp -implicitDefEqProofs only [go_sem, vc2_blk])))
        refine .inl ⟨[(0, false), (1, false), (2, false), (3, false), (6, false), (4, false), (5, false), (7, false), (8, false), (9, false), (10, false), (13, false), (14, false), (11, false), (15, false), (12, false), (16, false), (17, false), (18, false), (19, false), (20, false), (21, false), (22, false), (23, false)], by kernel_rfl, ?_⟩
        ((try (with_reducible refine leK2_refl ?_)); (try simp -implicitDefEqProofs only [go_sem, vc2_blk, mapE_get hjF, encF, hu, hsd, bne_self_eq_false]); repeat ((first | (with_reducible refine leK2_refl ?_) | (with_reducible refine ar_i64 (by omega) ?_) | (with_reducible refine And.intro (by omega) ?_)); (try simp -implicitDefEqProofs only [go_sem, vc2_blk, mapE_get hjF, encF, hu, hsd, bne_self_eq_false])))
        exact ⟨j + 1, le2_of [] (by simp -implicitDefEqProofs only [go_sem, vc2_blk]), rfl⟩
      · have hc := Take_any ⟨R, (mkN F h).drop h, (F.length : Int) - h⟩ 0 (drop_ok hn)
        have hd : (mkN F h).drop h = [] := List.drop_eq_nil_of_le (by rw [mkN_len]; omega)
        rw [hd] at hc
        rw [takD, show (⟨R, [], (F.length : Int) - h⟩ : GNet).tkP 0 = parZ from rfl, show (⟨R, [], (F.length : Int) - h⟩ : GNet).tkN 0 = ⟨R, [], (F.length : Int) - h⟩ from rfl, show (⟨R, [], (F.length : Int) - h⟩ : GNet).tkE 0 = 2 from rfl] at hc
        ((try (with_reducible refine leK2_refl ?_)); (try simp -implicitDefEqProofs only [go_sem, vc2_blk, hd]); repeat ((first | (with_reducible refine leK2_refl ?_) | (with_reducible refine ar_i64 (by omega) ?_) | (with_reducible refine And.intro (by omega) ?_)); (try simp -implicitDefEqProofs only [go_sem, vc2_blk, hd])))
        refine CallS.eq hc (by simp -implicitDefEqProofs only [go_sem, vc2_blk]) (.inl (by simp -implicitDefEqProofs only [go_sem, vc2_blk])) ?_
        ((try (with_reducible refine leK2_refl ?_)); (try simp -implicitDefEqProofs only [go_sem, vc2_blk, Int.cast_ofNat_Int]); repeat ((first | (with_reducible refine leK2_refl ?_) | (with_reducible refine ar_i64 (by omega) ?_) | (with_reducible refine And.intro (by omega) ?_)); (try simp -implicitDefEqProofs only [go_sem, vc2_blk, Int.cast_ofNat_Int])))
        refine CallS.eq nawake_con (by simp -implicitDefEqProofs only [go_sem, vc2_blk]) (.inl (by simp -implicitDefEqProofs only [go_sem, vc2_blk])) ?_
        ((try (with_reducible refine leK2_refl ?_)); (try simp -implicitDefEqProofs only [go_sem, vc2_blk]); repeat ((first | (with_reducible refine leK2_refl ?_) | (with_reducible refine ar_i64 (by omega) ?_) | (with_reducible refine And.intro (by omega) ?_)); (try simp -implicitDefEqProofs only [go_sem, vc2_blk])))
        exact ⟨_, rfl, le2_of [] (by simp -implicitDefEqProofs only [go_sem, vc2_blk])⟩
end Go.Proofs.Ytgpmgnbjpfggmaa
