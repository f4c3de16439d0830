/-
  Part 31 of the proof of M7: the engine and the walks, in their order.
-/
import Derived.Test.YtgpmgnbjpfggmaaM728
import Derived.Test.YtgpmgnbjpfggmaaM730
set_option linter.unusedSimpArgs false
set_option linter.unusedVariables false
/-
  Net: bits are turned (the program).
-/
set_option linter.unusedSimpArgs false
set_option linter.unusedVariables false
namespace Go.Eng
def bendStep (f t i : Nat) (s : List UInt8 × Bool) : List UInt8 × Bool :=
  if t / 2 ^ i % 2 = 1 ∧ f + i < 8 * s.1.length then (s.1.set ((f + i) / 8) (s.1.getD ((f + i) / 8) 0 ^^^ UInt8.ofNat (2 ^ ((f + i) % 8))), true) else s
def bendN (f t : Nat) (b : List UInt8) : Nat → List UInt8 × Bool
  | 0 => (b, false)
  | n + 1 => bendStep f t n (bendN f t b n)
theorem bendN_len (f t : Nat) (b : List UInt8) : ∀ n, (bendN f t b n).1.length = b.length
  | 0 => rfl
  | n + 1 => by
    simp only [bendN, bendStep]
    split
    · simp [bendN_len f t b n]
    · exact bendN_len f t b n
theorem bendN_out {f t : Nat} {b : List UInt8} {i : Nat} (h : 8 * b.length ≤ f + i) : ∀ m, bendN f t b (i + m) = bendN f t b i
  | 0 => rfl
  | m + 1 => by
    show bendStep f t (i + m) (bendN f t b (i + m)) = _
    rw [bendN_out h m, bendStep, if_neg]
    rw [bendN_len]; omega
theorem bendN_skip {f t i : Nat} {b : List UInt8} (h : t / 2 ^ i % 2 = 0) : bendN f t b (i + 1) = bendN f t b i := by
  show bendStep f t i _ = _
  rw [bendStep, if_neg (by omega)]
theorem bendN_do {f t i : Nat} {b : List UInt8} (h : t / 2 ^ i % 2 = 1) (h2 : f + i < 8 * b.length) : bendN f t b (i + 1) = ((bendN f t b i).1.set ((f + i) / 8) ((bendN f t b i).1.getD ((f + i) / 8) 0 ^^^ UInt8.ofNat (2 ^ ((f + i) % 8))), true) := by
  show bendStep f t i _ = _
  rw [bendStep, if_pos ⟨h, by rw [bendN_len]; exact h2⟩]
theorem getD_at {α : Type} {l : List α} {i : Nat} {d : α} (h : i < l.length) : l.getD i d = l[i] := by simp [List.getD, h]
theorem fdiv_pow (a i : Nat) (h : i < 32) : Int.fdiv (a : Int) (2 ^ min (Int.toNat (i : Int)) IntKind.u32.bits) = ((a / 2 ^ i : Nat) : Int) := by
  have : min (Int.toNat (i : Int)) IntKind.u32.bits = i := by
    show min (Int.toNat (i : Int)) 32 = i
    simp; omega
  rw [this, Int.fdiv_eq_ediv_of_nonneg _ (by exact Int.le_of_lt (Int.pow_pos (by decide)))]
  simp
end Go.Eng
namespace Go.Proofs.Ytgpmgnbjpfggmaa
open Go.Eng
attribute [local go_sem] GPar.enc bytesD GNet.dv GNet.res plR GNet.takeR GNet.takeN GNet.resE GNet.del GNet.takeF GNet.mov map_erase

theorem invert_S {ds : DS} {K : DV → DS → Prop} {id : Nat} {b : List UInt8} {f t : Nat} (hrow : lk ds.H id = some (.nst 5 1 (b.map encBD))) (hb : b.length ≤ 1000) (hf : f ≤ 9223372036854775807) (ht : t < 4294967296)
    (hK : K (.v (.bool (bendN f t b 32).2)) ⟨ds.ρ, ds.σ, setH id (.nst 5 1 ((bendN f t b 32).1.map encBD)) ds.H, ds.nx, ds.nb⟩) : CallS Try.prog false 35 [.rf id 0 b.length, .v (.int .i64 f), .v (.int .u32 t)] ds K := by
  refine CallS.inline Ty.mixed Try.func35 rfl (by kernel_rfl) (by kernel_rfl) rfl [.tmp 6] rfl (Vc2.of ?_)
  ((try (with_reducible refine leK2_refl ?_)); simp -implicitDefEqProofs only [go_sem, vc2_blk]; repeat ((with_reducible refine leK2_refl ?_); simp -implicitDefEqProofs only [go_sem, vc2_blk]))
  refine vc2_rangeA 32 (fun i => [(7, .d (.v (.bool (bendN f t b i).2))), (8, .unk)]) (fun _ => []) (fun i => setH id (.nst 5 1 ((bendN f t b i).1.map encBD)) ds.H) ds.nx (fun _ => True) (leD_R (by simp -implicitDefEqProofs only [go_sem, vc2_blk, bendN]; rfl) rfl (setH_self hrow) rfl rfl) trivial (fun g k => by simp -implicitDefEqProofs only [go_sem, vc2_blk]; rfl) (by omega) (fun g => by simp -implicitDefEqProofs only [go_sem, vc2_blk]) (fun i hi _ => ?_) (fun _ => ?_)
  · have hsm : t / 2 ^ i < 4294967296 := Nat.lt_of_le_of_lt (Nat.div_le_self _ _) ht
    ((try (with_reducible refine leK2_refl ?_)); (try simp -implicitDefEqProofs only [go_sem, vc2_blk]); repeat ((first | (with_reducible refine leK2_refl ?_) | (with_reducible refine ar_i64 (by omega) ?_) | (with_reducible refine And.intro (by omega) ?_)); (try simp -implicitDefEqProofs only [go_sem, vc2_blk])))
    rw [bin_shr (by omega), fdiv_pow t i hi]
    ((try (with_reducible refine leK2_refl ?_)); (try simp -implicitDefEqProofs only [go_sem, vc2_blk]); repeat ((first | (with_reducible refine leK2_refl ?_) | (with_reducible refine ar_i64 (by omega) ?_) | (with_reducible refine And.intro (by omega) ?_)); (try simp -implicitDefEqProofs only [go_sem, vc2_blk])))
    rw [and1_u32 hsm]
    ((try (with_reducible refine leK2_refl ?_)); (try simp -implicitDefEqProofs only [go_sem, vc2_blk]); repeat ((first | (with_reducible refine leK2_refl ?_) | (with_reducible refine ar_i64 (by omega) ?_) | (with_reducible refine And.intro (by omega) ?_)); (try simp -implicitDefEqProofs only [go_sem, vc2_blk])))
    refine cond2_eq (fun h => ?_) (fun h => ?_)
    · ((try (with_reducible refine leK2_refl ?_)); (try simp -implicitDefEqProofs only [go_sem, vc2_blk]); repeat ((first | (with_reducible refine leK2_refl ?_) | (with_reducible refine ar_i64 (by omega) ?_) | (with_reducible refine And.intro (by omega) ?_)); (try simp -implicitDefEqProofs only [go_sem, vc2_blk])))
      exact ⟨i + 1, leD_R (by simp -implicitDefEqProofs only [go_sem, vc2_blk, bendN_skip (show t / 2 ^ i % 2 = 0 by omega)]) rfl (by rw [bendN_skip (by omega)]) rfl rfl, rfl⟩
    · ((try (with_reducible refine leK2_refl ?_)); (try simp -implicitDefEqProofs only [go_sem, vc2_blk]); repeat ((first | (with_reducible refine leK2_refl ?_) | (with_reducible refine ar_i64 (by omega) ?_) | (with_reducible refine And.intro (by omega) ?_)); (try simp -implicitDefEqProofs only [go_sem, vc2_blk])))
      rw [quo_i64 (by omega) (by omega) (by omega)]
      ((try (with_reducible refine leK2_refl ?_)); (try simp -implicitDefEqProofs only [go_sem, vc2_blk]); repeat ((first | (with_reducible refine leK2_refl ?_) | (with_reducible refine ar_i64 (by omega) ?_) | (with_reducible refine And.intro (by omega) ?_)); (try simp -implicitDefEqProofs only [go_sem, vc2_blk])))
      by_cases hq : f / 8 < b.length
      · rw [show decide ((b.length : Int) ≤ (f : Int) / 8) = false from by first | exact decide_eq_false (by omega) | exact decide_eq_true (by omega)]
        ((try (with_reducible refine leK2_refl ?_)); (try simp -implicitDefEqProofs only [go_sem, vc2_blk]); repeat ((first | (with_reducible refine leK2_refl ?_) | (with_reducible refine ar_i64 (by omega) ?_) | (with_reducible refine And.intro (by omega) ?_)); (try simp -implicitDefEqProofs only [go_sem, vc2_blk])))
        rw [quo_i64 (by omega) (by omega) (by omega)]
        ((try (with_reducible refine leK2_refl ?_)); (try simp -implicitDefEqProofs only [go_sem, vc2_blk]); repeat ((first | (with_reducible refine leK2_refl ?_) | (with_reducible refine ar_i64 (by omega) ?_) | (with_reducible refine And.intro (by omega) ?_)); (try simp -implicitDefEqProofs only [go_sem, vc2_blk])))
        by_cases hq2 : f + i < 8 * b.length
        · rw [show decide ((b.length : Int) ≤ ((f : Int) + i) / 8) = false from decide_eq_false (by omega)]
          ((try (with_reducible refine leK2_refl ?_)); (try simp -implicitDefEqProofs only [go_sem, vc2_blk]); repeat ((first | (with_reducible refine leK2_refl ?_) | (with_reducible refine ar_i64 (by omega) ?_) | (with_reducible refine And.intro (by omega) ?_)); (try simp -implicitDefEqProofs only [go_sem, vc2_blk])))
          refine .inl ⟨[(0, false), (1, false), (2, false), (7, false), (8, false), (3, false), (9, false), (4, false), (10, false), (5, false), (11, false), (6, false), (12, false), (13, false), (14, false)], by kernel_rfl, ?_⟩
          ((try (with_reducible refine leK2_refl ?_)); (try simp -implicitDefEqProofs only [go_sem, vc2_blk]); repeat ((first | (with_reducible refine leK2_refl ?_) | (with_reducible refine ar_i64 (by omega) ?_) | (with_reducible refine And.intro (by omega) ?_)); (try simp -implicitDefEqProofs only [go_sem, vc2_blk])))
          rw [quo_i64 (by omega) (by omega) (by omega)]
          obtain ⟨q, hq3⟩ : ∃ q, q = (f + i) / 8 := ⟨_, rfl⟩
          have hq4 : ((f : Int) + i) / 8 = (q : Int) := by omega
          have hql : q < (bendN f t b i).1.length := by rw [bendN_len]; omega
          have hS : ∀ r, lk (setH id r ds.H) id = some r := fun r => lk_setH_eq hrow
          ((try (with_reducible refine leK2_refl ?_)); (try simp -implicitDefEqProofs only [go_sem, vc2_blk, hq4, hS, mapE_get hql, encBD]); repeat ((first | (with_reducible refine leK2_refl ?_) | (with_reducible refine ar_i64 (by omega) ?_) | (with_reducible refine And.intro (by omega) ?_)); (try simp -implicitDefEqProofs only [go_sem, vc2_blk, hq4, hS, mapE_get hql, encBD])))
          rw [rem_nn (by omega) (by omega)]
          ((try (with_reducible refine leK2_refl ?_)); (try simp -implicitDefEqProofs only [go_sem, vc2_blk]); repeat ((first | (with_reducible refine leK2_refl ?_) | (with_reducible refine ar_i64 (by omega) ?_) | (with_reducible refine And.intro (by omega) ?_)); (try simp -implicitDefEqProofs only [go_sem, vc2_blk])))
          rw [shl1_u8 (n := (f + i) % 8) (by omega) (by omega)]
          ((try (with_reducible refine leK2_refl ?_)); (try simp -implicitDefEqProofs only [go_sem, vc2_blk, hS, mapE_get hql, encBD]); repeat ((first | (with_reducible refine leK2_refl ?_) | (with_reducible refine ar_i64 (by omega) ?_) | (with_reducible refine And.intro (by omega) ?_)); (try simp -implicitDefEqProofs only [go_sem, vc2_blk, hS, mapE_get hql, encBD])))
          rw [xor_u8]
          ((try (with_reducible refine leK2_refl ?_)); (try simp -implicitDefEqProofs only [go_sem, vc2_blk, hS, mapE_get hql, encBD, setH_setH]); repeat ((first | (with_reducible refine leK2_refl ?_) | (with_reducible refine ar_i64 (by omega) ?_) | (with_reducible refine And.intro (by omega) ?_)); (try simp -implicitDefEqProofs only [go_sem, vc2_blk, hS, mapE_get hql, encBD, setH_setH])))
          exact ⟨i + 1, leD_R (by simp -implicitDefEqProofs only [go_sem, vc2_blk, bendN_do (show t / 2 ^ i % 2 = 1 by omega) hq2]) rfl (by rw [bendN_do (by omega) hq2, List.map_set, ← hq3, getD_at hql]; rfl) rfl rfl, rfl⟩
        · rw [show decide ((b.length : Int) ≤ ((f : Int) + i) / 8) = true from decide_eq_true (by omega)]
          ((try (with_reducible refine leK2_refl ?_)); (try simp -implicitDefEqProofs only [go_sem, vc2_blk]); repeat ((first | (with_reducible refine leK2_refl ?_) | (with_reducible refine ar_i64 (by omega) ?_) | (with_reducible refine And.intro (by omega) ?_)); (try simp -implicitDefEqProofs only [go_sem, vc2_blk])))
          have e : bendN f t b 32 = bendN f t b i := by
            have := bendN_out (f := f) (t := t) (b := b) (i := i) (by omega) (32 - i)
            rwa [show i + (32 - i) = 32 by omega] at this
          rw [e] at hK
          exact hK
      · rw [show decide ((b.length : Int) ≤ (f : Int) / 8) = true from decide_eq_true (by omega)]
        ((try (with_reducible refine leK2_refl ?_)); (try simp -implicitDefEqProofs only [go_sem, vc2_blk]); repeat ((first | (with_reducible refine leK2_refl ?_) | (with_reducible refine ar_i64 (by omega) ?_) | (with_reducible refine And.intro (by omega) ?_)); (try simp -implicitDefEqProofs only [go_sem, vc2_blk])))
        have e : bendN f t b 32 = bendN f t b i := by
          have := bendN_out (f := f) (t := t) (b := b) (i := i) (by omega) (32 - i)
          rwa [show i + (32 - i) = 32 by omega] at this
        rw [e] at hK
        exact hK
  · ((try (with_reducible refine leK2_refl ?_)); (try simp -implicitDefEqProofs only [go_sem, vc2_blk]); repeat ((first | (with_reducible refine leK2_refl ?_) | (with_reducible refine ar_i64 (by omega) ?_) | (with_reducible refine And.intro (by omega) ?_)); (try simp -implicitDefEqProofs only [go_sem, vc2_blk])))
    exact hK

theorem parcel_conN (p : GPar) (hb : p.b.length ≤ 1000) : Con2 Try.prog 42 [.agg p.enc] (· = ⟨.agg [.v (.int .u8 p.to.toNat), .v (.bool p.bent), .rf 0 0 p.b.length], [(0, .nst 5 1 (p.b.map encBD))], 1⟩) :=
  (parcel_con p hb).le (le2_of [] (by simp -implicitDefEqProofs only [go_sem, vc2_blk]))
end Go.Proofs.Ytgpmgnbjpfggmaa

/-
  Net: bits are turned (the program), a net's copy of which one place is not what nobody writes.
-/
set_option linter.unusedSimpArgs false
set_option linter.unusedVariables false
namespace Go.Eng
/-- A parcel whose bytes are a row. -/
def GPar.encR (p : GPar) (id : Nat) : List DV := [.v (.int .u8 p.to.toNat), .v (.bool p.bent), .rf id 0 p.b.length]
def GNet.lM (n : GNet) (k : Nat) (p : GPar) (id : Nat) : List (List DV) := (n.l.map GPar.enc).set k (p.encR id)
abbrev GNet.lN (n : GNet) (k : Nat) (p : GPar) : List (List DV) := n.lM k p 1
theorem lM_sh {n : GNet} {k m id : Nat} {p : GPar} : (n.lM k p id).map (shDs m) = n.lM k p (m + id) := by
  rw [GNet.lM, List.map_set, shDss_map (fun _ => rfl)]; rfl
theorem lM_len {n : GNet} {k id : Nat} {p : GPar} : (n.lM k p id).length = n.l.length := by simp [GNet.lM]
theorem lM_get {n : GNet} {k id : Nat} {p : GPar} (h : k < n.l.length) : (n.lM k p id)[k]? = some (p.encR id) := by simp [GNet.lM, h]
theorem lM_set {n : GNet} {k id : Nat} {p q : GPar} : (n.lM k p id).set k (q.encR id) = n.lM k q id := by simp [GNet.lM]
def GNet.resNE (n : GNet) (k : Nat) (p : GPar) (e : Int) : Res := ⟨.tup [.agg [.v (.int .i64 n.room), .rf 0 0 n.l.length, .v (.int .i64 n.lost)], .v (.int .i64 e)], [(0, .nst 33 3 (n.lN k p)), (1, .nst 5 1 (p.b.map encBD))], 2⟩
def GNet.resN (n : GNet) (k : Nat) (p : GPar) : Res := ⟨.agg [.v (.int .i64 n.room), .rf 0 0 n.l.length, .v (.int .i64 n.lost)], [(0, .nst 33 3 (n.lN k p)), (1, .nst 5 1 (p.b.map encBD))], 2⟩
theorem lN_take_le {n : GNet} {k i : Nat} {p : GPar} (h : i ≤ k) : (n.lN k p).take i = (n.l.take i).map GPar.enc := by
  rw [GNet.lN, GNet.lM, List.take_set, List.set_eq_of_length_le (by simp; omega), List.map_take]
theorem take_snoc {α : Type} {l : List α} {i : Nat} (h : i < l.length) : l.take (i + 1) = l.take i ++ [l[i]] := by
  rw [List.take_add_one, List.getElem?_eq_getElem h]; rfl
theorem wk_enc {r : Nat → Option Rn} (x : GPar) : wkDs r x.enc x.enc := by simp [GPar.enc, wkDs, wkD, wkV, bytesD, wkFz]
theorem wk_b {r : Nat → Option Rn} (x : UInt8) : wkDs r (encBD x) (encBD x) := by simp [encBD, wkDs, wkD, wkV]
theorem wk_lN {n : GNet} {k : Nat} {p : GPar} {r : Nat → Option Rn} (h : r 1 = some (.to 1)) (i : Nat) : wkDss r ((n.lN k p).take i) ((n.lN k p).take i) := by
  refine wkDss_fix fun cs hc => ?_
  rcases List.mem_or_eq_of_mem_set (List.mem_of_mem_take hc) with h1 | rfl
  · obtain ⟨x, _, rfl⟩ := List.mem_map.1 h1; exact wk_enc x
  · simp [GPar.encR, wkDs, wkD, wkV, wkRf, h]
theorem wk_lM {n : GNet} {k i j : Nat} {p : GPar} {r : Nat → Option Rn} (h : r i = some (.to j)) : wkDss r (n.lM k p i) (n.lM k p j) := by
  have : ∀ (l : List GPar) (k : Nat), wkDss r ((l.map GPar.enc).set k (p.encR i)) ((l.map GPar.enc).set k (p.encR j)) := by
    intro l
    induction l with
    | nil => intro k; exact rfl
    | cons x l ih =>
      intro k
      cases k with
      | zero => exact ⟨by simp [GPar.encR, wkDs, wkD, wkV, wkRf, h], wkDss_map wk_enc l⟩
      | succ k => exact ⟨wk_enc x, ih k⟩
  exact this n.l k
end Go.Eng
namespace Go.Proofs.Ytgpmgnbjpfggmaa
open Go.Eng
attribute [local go_sem] GPar.enc bytesD GNet.dv GNet.res plR GNet.takeR GNet.takeN GNet.resE GNet.del GNet.takeF GNet.mov map_erase GNet.resN

theorem fresh_conN (n : GNet) (k : Nat) (hk : k < n.l.length) (hn : n.ok) : Con2 Try.prog 24 [n.dv] (· = n.resN k n.l[k]) := by
  have hb := hn.1
  have hbl : ∀ (i : Nat) (h : i < n.l.length), n.l[i].b.length ≤ 1000 := fun i h => hn.2 _ (List.getElem_mem h)
  have hlen : ∀ p, (n.lN k p).length = n.l.length := fun p => by simp [GNet.lN, GNet.lM]
  refine con2_of Ty.mixed Try.func24 rfl (by kernel_rfl) (by kernel_rfl) rfl [.cell 2 25] rfl ?_
  ((try (with_reducible refine leK2_refl ?_)); simp -implicitDefEqProofs only [go_sem, vc2_blk]; repeat ((with_reducible refine leK2_refl ?_); simp -implicitDefEqProofs only [go_sem, vc2_blk]))
  ((try (with_reducible refine leK2_refl ?_)); (try simp -implicitDefEqProofs only [go_sem, vc2_blk]); repeat ((first | (with_reducible refine leK2_refl ?_) | (with_reducible refine ar_i64 (by omega) ?_) | (with_reducible refine And.intro (by omega) ?_)); (try simp -implicitDefEqProofs only [go_sem, vc2_blk])))
  refine vc2_rangeA n.l.length (fun i => [(3, .d (.rf 0 0 i)), (10, .unk)]) (fun _ => []) (fun i => [(0, .nst 33 3 ((n.lN k n.l[k]).take i)), (1, .nst 5 1 (if k < i then n.l[k].b.map encBD else []))]) 2 (fun _ => True) (le2_of [(1, .nil 1)] ?_) trivial (fun g k => by simp -implicitDefEqProofs only [go_sem, vc2_blk]) (by omega) (fun g => by simp -implicitDefEqProofs only [go_sem, vc2_blk]) (fun i hi _ => ?_) (fun _ => ?_)
  · ((try (with_reducible refine leK2_refl ?_)); simp -implicitDefEqProofs only [go_sem, vc2_blk]; repeat ((with_reducible refine leK2_refl ?_); simp -implicitDefEqProofs only [go_sem, vc2_blk]))
    first | rfl | exact ⟨rfl, rfl⟩ | simp
  · have htl : (List.take i (n.lN k n.l[k])).length = i := by rw [List.length_take, hlen]; omega
    have hts : List.take (i + 1) (n.lN k n.l[k]) = List.take i (n.lN k n.l[k]) ++ [(n.lN k n.l[k])[i]'(by rw [hlen]; exact hi)] := take_snoc (by rw [hlen]; exact hi)
    by_cases hik : i = k
    · subst hik
      have hii : (n.lN i n.l[i])[i]'(by rw [hlen]; exact hi) = n.l[i].encR 1 := by simp [GNet.lN, GNet.lM]
      rw [hii] at hts
      have hno : ¬ i < i := by omega
      have hyes : i < i + 1 := by omega
      ((try (with_reducible refine leK2_refl ?_)); (try simp -implicitDefEqProofs only [go_sem, vc2_blk, mapE_get hi]); repeat ((first | (with_reducible refine leK2_refl ?_) | (with_reducible refine ar_i64 (by omega) ?_) | (with_reducible refine And.intro (by omega) ?_)); (try simp -implicitDefEqProofs only [go_sem, vc2_blk, mapE_get hi])))
      refine CallS.eq (parcel_conN n.l[i] (hbl i hi)) (by simp -implicitDefEqProofs only [go_sem, vc2_blk]) (.inl (by simp -implicitDefEqProofs only [go_sem, vc2_blk])) ?_
      ((try (with_reducible refine leK2_refl ?_)); (try simp -implicitDefEqProofs only [go_sem, vc2_blk, htl]); repeat ((first | (with_reducible refine leK2_refl ?_) | (with_reducible refine ar_i64 (by omega) ?_) | (with_reducible refine And.intro (by omega) ?_)); (try simp -implicitDefEqProofs only [go_sem, vc2_blk, htl])))
      refine ⟨i + 1, le2_of [(0, .to 4), (1, .to 2)] ?_, rfl⟩
      ((try (with_reducible refine leK2_refl ?_)); simp -implicitDefEqProofs only [go_sem, vc2_blk, hts, htl, hyes]; repeat ((with_reducible refine leK2_refl ?_); simp -implicitDefEqProofs only [go_sem, vc2_blk, hts, htl, hyes]))
      refine ⟨wkDss_append ?_ ⟨?_, rfl⟩, ?_⟩
      · rw [lN_take_le (Nat.le_refl _)]; exact wkDss_map wk_enc _
      · exact ⟨rfl, rfl, ⟨rfl, rfl, rfl⟩, rfl⟩
      · rw [shDss_map (fun _ => rfl)]; exact wkDss_map wk_b _
    · have hii : (n.lN k n.l[k])[i]'(by rw [hlen]; exact hi) = n.l[i].enc := by
        have : k ≠ i := fun e => hik e.symm
        simp [GNet.lN, GNet.lM, this]
      rw [hii] at hts
      ((try (with_reducible refine leK2_refl ?_)); (try simp -implicitDefEqProofs only [go_sem, vc2_blk, mapE_get hi]); repeat ((first | (with_reducible refine leK2_refl ?_) | (with_reducible refine ar_i64 (by omega) ?_) | (with_reducible refine And.intro (by omega) ?_)); (try simp -implicitDefEqProofs only [go_sem, vc2_blk, mapE_get hi])))
      refine CallS.eq (parcel_con n.l[i] (hbl i hi)) (by simp -implicitDefEqProofs only [go_sem, vc2_blk]) (.inl (by simp -implicitDefEqProofs only [go_sem, vc2_blk])) ?_
      ((try (with_reducible refine leK2_refl ?_)); (try simp -implicitDefEqProofs only [go_sem, vc2_blk, htl]); repeat ((first | (with_reducible refine leK2_refl ?_) | (with_reducible refine ar_i64 (by omega) ?_) | (with_reducible refine And.intro (by omega) ?_)); (try simp -implicitDefEqProofs only [go_sem, vc2_blk, htl])))
      refine ⟨i + 1, le2_of [(0, .to 4)] ?_, rfl⟩
      ((try (with_reducible refine leK2_refl ?_)); simp -implicitDefEqProofs only [go_sem, vc2_blk, hts, htl]; repeat ((with_reducible refine leK2_refl ?_); simp -implicitDefEqProofs only [go_sem, vc2_blk, hts, htl]))
      refine ⟨wkDss_append (wk_lN rfl i) ⟨⟨rfl, rfl, ⟨rfl, rfl⟩, rfl⟩, rfl⟩, ?_⟩
      by_cases hki : k < i
      · rw [if_pos hki, if_pos (by omega)]; exact wkDss_map wk_b _
      · rw [if_neg hki, if_neg (by omega)]; exact rfl
  · ((try (with_reducible refine leK2_refl ?_)); (try simp -implicitDefEqProofs only [go_sem, vc2_blk]); repeat ((first | (with_reducible refine leK2_refl ?_) | (with_reducible refine ar_i64 (by omega) ?_) | (with_reducible refine And.intro (by omega) ?_)); (try simp -implicitDefEqProofs only [go_sem, vc2_blk])))
    refine ⟨_, rfl, le2_of [] ?_⟩
    ((try (with_reducible refine leK2_refl ?_)); simp -implicitDefEqProofs only [go_sem, vc2_blk]; repeat ((with_reducible refine leK2_refl ?_); simp -implicitDefEqProofs only [go_sem, vc2_blk]))
    rw [if_pos hk]
    refine ⟨?_, wkDss_map wk_b _⟩
    have e : List.take n.l.length (n.lN k n.l[k]) = n.lN k n.l[k] := List.take_of_length_le (by rw [hlen]; omega)
    have := wk_lN (n := n) (k := k) (p := n.l[k]) (r := rnOf [] 2) rfl n.l.length
    rw [e] at this ⊢
    exact this
end Go.Proofs.Ytgpmgnbjpfggmaa

/-
  Net: Bend of the program.
-/
set_option linter.unusedSimpArgs false
set_option linter.unusedVariables false
namespace Go.Proofs.Ytgpmgnbjpfggmaa
open Go.Eng
attribute [local go_sem] GPar.enc bytesD GNet.dv GNet.res plR GNet.takeR GNet.takeN GNet.resE GNet.del GNet.takeF GNet.mov map_erase GNet.resN GNet.resNE

theorem Bend_N (n : GNet) (k f t : Nat) (hk : k < n.l.length) (hn : n.ok) (hf : f ≤ 9223372036854775807) (ht : t < 4294967296) (hbt : n.l[k].bent = false) :
    Con2 Try.prog 14 [n.dv, .v (.int .i64 k), .v (.int .i64 f), .v (.int .u32 t)] (· = if (bendN f t n.l[k].b 32).2 = true then n.resNE k ⟨n.l[k].to, true, (bendN f t n.l[k].b 32).1⟩ 0 else n.resNE k ⟨n.l[k].to, false, (bendN f t n.l[k].b 32).1⟩ 2) := by
  have hb := hn.1
  have hbl : n.l[k].b.length ≤ 1000 := hn.2 _ (List.getElem_mem hk)
  refine con2_of Ty.mixed Try.func14 rfl (by kernel_rfl) (by kernel_rfl) rfl [.cell 8 25, .tmp 9] rfl ?_
  ((try (with_reducible refine leK2_refl ?_)); simp -implicitDefEqProofs only [go_sem, vc2_blk]; repeat ((with_reducible refine leK2_refl ?_); simp -implicitDefEqProofs only [go_sem, vc2_blk]))
  refine CallS.inline Ty.mixed Try.func25 rfl (by kernel_rfl) (by kernel_rfl) rfl [.cell 6 25, .tmp 7] rfl (Vc2.of ?_)
  ((try (with_reducible refine leK2_refl ?_)); simp -implicitDefEqProofs only [go_sem, vc2_blk]; repeat ((with_reducible refine leK2_refl ?_); simp -implicitDefEqProofs only [go_sem, vc2_blk]))
  refine CallS.eq (fresh_conN n k hk hn) (by simp -implicitDefEqProofs only [go_sem, vc2_blk]) (.inl (by simp -implicitDefEqProofs only [go_sem, vc2_blk])) ?_
  have hshb : (n.l[k].b.map encBD).map (shDs 3) = n.l[k].b.map encBD := shDss_map (fun _ => rfl) _
  ((try (with_reducible refine leK2_refl ?_)); (try simp -implicitDefEqProofs only [go_sem, vc2_blk, le_false hk, lM_sh, hshb]); repeat ((first | (with_reducible refine leK2_refl ?_) | (with_reducible refine ar_i64 (by omega) ?_) | (with_reducible refine And.intro (by omega) ?_)); (try simp -implicitDefEqProofs only [go_sem, vc2_blk, le_false hk, lM_sh, hshb])))
  refine CallS.inline Ty.mixed Try.func34 rfl (by kernel_rfl) (by kernel_rfl) rfl [.cell 5 25, .tmp 6] rfl (Vc2.of ?_)
  ((try (with_reducible refine leK2_refl ?_)); simp -implicitDefEqProofs only [go_sem, vc2_blk]; repeat ((with_reducible refine leK2_refl ?_); simp -implicitDefEqProofs only [go_sem, vc2_blk]))
  ((try (with_reducible refine leK2_refl ?_)); (try simp -implicitDefEqProofs only [go_sem, vc2_blk]); repeat ((first | (with_reducible refine leK2_refl ?_) | (with_reducible refine ar_i64 (by omega) ?_) | (with_reducible refine And.intro (by omega) ?_)); (try simp -implicitDefEqProofs only [go_sem, vc2_blk])))
  refine .inl ⟨[(0, false), (1, false), (2, false), (3, false), (4, false), (5, false), (6, false), (7, false), (8, false), (9, false), (13, false), (14, false), (10, false), (11, false), (12, false), (15, false), (16, false), (17, false)], by kernel_rfl, ?_⟩
  ((try (with_reducible refine leK2_refl ?_)); (try simp -implicitDefEqProofs only [go_sem, vc2_blk, lM_get hk, GPar.encR, hbt]); repeat ((first | (with_reducible refine leK2_refl ?_) | (with_reducible refine ar_i64 (by omega) ?_) | (with_reducible refine And.intro (by omega) ?_)); (try simp -implicitDefEqProofs only [go_sem, vc2_blk, lM_get hk, GPar.encR, hbt])))
  refine invert_S rfl hbl hf ht ?_
  have hbe : (bendN f t n.l[k].b 32).1.length = n.l[k].b.length := bendN_len _ _ _ _
  cases hany : (bendN f t n.l[k].b 32).2 with
  | true =>
    ((try (with_reducible refine leK2_refl ?_)); (try simp -implicitDefEqProofs only [go_sem, vc2_blk, lM_get hk, GPar.encR]); repeat ((first | (with_reducible refine leK2_refl ?_) | (with_reducible refine ar_i64 (by omega) ?_) | (with_reducible refine And.intro (by omega) ?_)); (try simp -implicitDefEqProofs only [go_sem, vc2_blk, lM_get hk, GPar.encR])))
    refine ⟨_, rfl, le2_of [(0, .to 3), (1, .to 4)] ?_⟩
    ((try (with_reducible refine leK2_refl ?_)); simp -implicitDefEqProofs only [go_sem, vc2_blk]; repeat ((with_reducible refine leK2_refl ?_); simp -implicitDefEqProofs only [go_sem, vc2_blk]))
    rw [show (n.lM k n.l[k] 4).set k [.v (.int .u8 n.l[k].to.toNat), .v (.bool true), .rf 4 0 n.l[k].b.length] = n.lM k ⟨n.l[k].to, true, (bendN f t n.l[k].b 32).1⟩ 4 from by simp [GNet.lM, GPar.encR, hbe]]
    exact ⟨wk_lM rfl, wkDss_map wk_b _⟩
  | false =>
    ((try (with_reducible refine leK2_refl ?_)); (try simp -implicitDefEqProofs only [go_sem, vc2_blk]); repeat ((first | (with_reducible refine leK2_refl ?_) | (with_reducible refine ar_i64 (by omega) ?_) | (with_reducible refine And.intro (by omega) ?_)); (try simp -implicitDefEqProofs only [go_sem, vc2_blk])))
    simp only [if_false, Bool.false_eq_true]
    refine ⟨_, rfl, le2_of [(0, .to 3), (1, .to 4)] ?_⟩
    ((try (with_reducible refine leK2_refl ?_)); simp -implicitDefEqProofs only [go_sem, vc2_blk]; repeat ((with_reducible refine leK2_refl ?_); simp -implicitDefEqProofs only [go_sem, vc2_blk]))
    rw [show n.lM k n.l[k] 4 = n.lM k ⟨n.l[k].to, false, (bendN f t n.l[k].b 32).1⟩ 4 from by simp [GNet.lM, GPar.encR, hbe, hbt]]
    exact ⟨wk_lM rfl, wkDss_map wk_b _⟩

theorem emb_b {H : List (Nat × Row)} (x : UInt8) : embDs H (encBD x) = some (encBD x) ∧ noPts (encBD x) = true ∧ idsDs H (encBD x) = [] := ⟨rfl, rfl, rfl⟩
theorem emb_enc {H : List (Nat × Row)} (x : GPar) : embDs H x.enc = some x.enc ∧ noPts x.enc = true ∧ idsDs H x.enc = [] := ⟨rfl, rfl, rfl⟩
/-- Frozen. -/
theorem resNE_frz {f : FuncId} {args : List DV} {n : GNet} {k : Nat} {p : GPar} {e : Int} (h : Con2 Try.prog f args (· = n.resNE k p e)) : Con2 Try.prog f args (· = ({ n with l := n.l.set k p } : GNet).resE e) := by
  have h1 := Con2.frz (l' := p.b.map encBD) [] h (id := 1) rfl (embRows_map emb_b _)
  have h2 := Con2.frz (l' := (n.l.set k p).map GPar.enc) [1] h1 (id := 0) rfl (by
    rw [List.map_set]
    refine embRows_set (c := p.encR 1) (c' := p.enc) ⟨?_, rfl, fun i hi => hi⟩ k (embRows_map emb_enc _)
    simp [GPar.encR, GPar.enc, bytesD, embDs, embD, rfD, embC, lk, setH, roHs, take_map_len])
  refine h2.le (le2_of [] ?_)
  ((try (with_reducible refine leK2_refl ?_)); simp -implicitDefEqProofs only [go_sem, vc2_blk, List.length_set]; repeat ((with_reducible refine leK2_refl ?_); simp -implicitDefEqProofs only [go_sem, vc2_blk, List.length_set]))

/-- The net, bent at a place; and an error. -/
def bendNet (n : GNet) (k f t : Nat) (h : k < n.l.length) : GNet := { n with l := n.l.set k ⟨n.l[k].to, true, (bendN f t n.l[k].b 32).1⟩ }
theorem bendN_none {f t : Nat} {b : List UInt8} : ∀ {m : Nat}, (bendN f t b m).2 = false → (bendN f t b m).1 = b
  | 0, _ => rfl
  | m + 1, h => by
    simp only [bendN, bendStep] at h ⊢
    split at h
    · cases h
    · rename_i hc; rw [if_neg hc]; exact bendN_none h
theorem Bend_yes (n : GNet) (k f t : Nat) (hk : k < n.l.length) (hn : n.ok) (hf : f ≤ 9223372036854775807) (ht : t < 4294967296) (hbt : n.l[k].bent = false) (hy : (bendN f t n.l[k].b 32).2 = true) :
    Con2 Try.prog 14 [n.dv, .v (.int .i64 k), .v (.int .i64 f), .v (.int .u32 t)] (· = (bendNet n k f t hk).resE 0) := by
  have h := Bend_N n k f t hk hn hf ht hbt
  rw [hy] at h
  exact resNE_frz h
theorem Bend_none (n : GNet) (k f t : Nat) (hk : k < n.l.length) (hn : n.ok) (hf : f ≤ 9223372036854775807) (ht : t < 4294967296) (hbt : n.l[k].bent = false) (hy : (bendN f t n.l[k].b 32).2 = false) :
    Con2 Try.prog 14 [n.dv, .v (.int .i64 k), .v (.int .i64 f), .v (.int .u32 t)] (· = n.resE 2) := by
  have h := Bend_N n k f t hk hn hf ht hbt
  rw [hy] at h
  have h2 := resNE_frz h
  have e : n.l.set k ⟨n.l[k].to, false, (bendN f t n.l[k].b 32).1⟩ = n.l := by
    rw [bendN_none hy, ← hbt]; exact List.set_getElem_self hk
  rw [e] at h2
  exact h2
theorem Bend_bad (n : GNet) (k : Nat) (f : Int) (t : Nat) (hk : k < n.l.length) (hn : n.ok) (hbt : n.l[k].bent = true ∨ f < 0) :
    Con2 Try.prog 14 [n.dv, .v (.int .i64 k), .v (.int .i64 f), .v (.int .u32 t)] (· = n.resE 2) := by
  have hb := hn.1
  refine con2_of Ty.mixed Try.func14 rfl (by kernel_rfl) (by kernel_rfl) rfl [.cell 8 25, .tmp 9] rfl ?_
  ((try (with_reducible refine leK2_refl ?_)); simp -implicitDefEqProofs only [go_sem, vc2_blk]; repeat ((with_reducible refine leK2_refl ?_); simp -implicitDefEqProofs only [go_sem, vc2_blk]))
  refine CallS.inline Ty.mixed Try.func25 rfl (by kernel_rfl) (by kernel_rfl) rfl [.cell 6 25, .tmp 7] rfl (Vc2.of ?_)
  ((try (with_reducible refine leK2_refl ?_)); simp -implicitDefEqProofs only [go_sem, vc2_blk]; repeat ((with_reducible refine leK2_refl ?_); simp -implicitDefEqProofs only [go_sem, vc2_blk]))
  refine CallS.eq (fresh_con n hn) (by simp -implicitDefEqProofs only [go_sem, vc2_blk]) (.inl (by simp -implicitDefEqProofs only [go_sem, vc2_blk])) ?_
  ((try (with_reducible refine leK2_refl ?_)); (try simp -implicitDefEqProofs only [go_sem, vc2_blk, le_false hk]); repeat ((first | (with_reducible refine leK2_refl ?_) | (with_reducible refine ar_i64 (by omega) ?_) | (with_reducible refine And.intro (by omega) ?_)); (try simp -implicitDefEqProofs only [go_sem, vc2_blk, le_false hk])))
  refine CallS.inline Ty.mixed Try.func34 rfl (by kernel_rfl) (by kernel_rfl) rfl [.cell 5 25, .tmp 6] rfl (Vc2.of ?_)
  ((try (with_reducible refine leK2_refl ?_)); simp -implicitDefEqProofs only [go_sem, vc2_blk]; repeat ((with_reducible refine leK2_refl ?_); simp -implicitDefEqProofs only [go_sem, vc2_blk]))
  ((try (with_reducible refine leK2_refl ?_)); (try simp -implicitDefEqProofs only [go_sem, vc2_blk]); repeat ((first | (with_reducible refine leK2_refl ?_) | (with_reducible refine ar_i64 (by omega) ?_) | (with_reducible refine And.intro (by omega) ?_)); (try simp -implicitDefEqProofs only [go_sem, vc2_blk])))
  refine .inl ⟨[(0, false), (1, false), (2, false), (3, false), (4, false), (5, false), (6, false), (7, false), (8, false), (9, false), (13, false), (14, false), (10, false), (11, false), (12, false), (15, false), (16, false), (17, false)], by kernel_rfl, ?_⟩
  ((try (with_reducible refine leK2_refl ?_)); (try simp -implicitDefEqProofs only [go_sem, vc2_blk, mapE_get hk]); repeat ((first | (with_reducible refine leK2_refl ?_) | (with_reducible refine ar_i64 (by omega) ?_) | (with_reducible refine And.intro (by omega) ?_)); (try simp -implicitDefEqProofs only [go_sem, vc2_blk, mapE_get hk])))
  cases hbb : n.l[k].bent with
  | true =>
    ((try (with_reducible refine leK2_refl ?_)); (try simp -implicitDefEqProofs only [go_sem, vc2_blk]); repeat ((first | (with_reducible refine leK2_refl ?_) | (with_reducible refine ar_i64 (by omega) ?_) | (with_reducible refine And.intro (by omega) ?_)); (try simp -implicitDefEqProofs only [go_sem, vc2_blk])))
    exact ⟨_, rfl, le2_of [(0, .to 3)] (by simp -implicitDefEqProofs only [go_sem, vc2_blk])⟩
  | false =>
    have hf : f < 0 := by rcases hbt with h | h; rw [hbb] at h; cases h; exact h
    ((try (with_reducible refine leK2_refl ?_)); (try simp -implicitDefEqProofs only [go_sem, vc2_blk]); repeat ((first | (with_reducible refine leK2_refl ?_) | (with_reducible refine ar_i64 (by omega) ?_) | (with_reducible refine And.intro (by omega) ?_)); (try simp -implicitDefEqProofs only [go_sem, vc2_blk])))
    rw [show decide (f < 0) = true from decide_eq_true hf]
    ((try (with_reducible refine leK2_refl ?_)); (try simp -implicitDefEqProofs only [go_sem, vc2_blk]); repeat ((first | (with_reducible refine leK2_refl ?_) | (with_reducible refine ar_i64 (by omega) ?_) | (with_reducible refine And.intro (by omega) ?_)); (try simp -implicitDefEqProofs only [go_sem, vc2_blk])))
    exact ⟨_, rfl, le2_of [(0, .to 3)] (by simp -implicitDefEqProofs only [go_sem, vc2_blk])⟩
theorem Bend_no (n : GNet) (i f : Int) (t : Nat) (hi : n.there i = false) (hn : n.ok) : Con2 Try.prog 14 [n.dv, .v (.int .i64 i), .v (.int .i64 f), .v (.int .u32 t)] (· = n.resE 2) := by
  have hb := hn.1
  refine con2_of Ty.mixed Try.func14 rfl (by kernel_rfl) (by kernel_rfl) rfl [.cell 8 25, .tmp 9] rfl ?_
  ((try (with_reducible refine leK2_refl ?_)); simp -implicitDefEqProofs only [go_sem, vc2_blk]; repeat ((with_reducible refine leK2_refl ?_); simp -implicitDefEqProofs only [go_sem, vc2_blk]))
  refine CallS.inline Ty.mixed Try.func25 rfl (by kernel_rfl) (by kernel_rfl) rfl [.cell 6 25, .tmp 7] rfl (Vc2.of ?_)
  ((try (with_reducible refine leK2_refl ?_)); simp -implicitDefEqProofs only [go_sem, vc2_blk]; repeat ((with_reducible refine leK2_refl ?_); simp -implicitDefEqProofs only [go_sem, vc2_blk]))
  refine CallS.eq (fresh_con n hn) (by simp -implicitDefEqProofs only [go_sem, vc2_blk]) (.inl (by simp -implicitDefEqProofs only [go_sem, vc2_blk])) ?_
  ((try (with_reducible refine leK2_refl ?_)); (try simp -implicitDefEqProofs only [go_sem, vc2_blk]); repeat ((first | (with_reducible refine leK2_refl ?_) | (with_reducible refine ar_i64 (by omega) ?_) | (with_reducible refine And.intro (by omega) ?_)); (try simp -implicitDefEqProofs only [go_sem, vc2_blk])))
  refine guard2 (fun h => ?_) (fun h => ?_)
  · ((try (with_reducible refine leK2_refl ?_)); (try simp -implicitDefEqProofs only [go_sem, vc2_blk, h]); repeat ((first | (with_reducible refine leK2_refl ?_) | (with_reducible refine ar_i64 (by omega) ?_) | (with_reducible refine And.intro (by omega) ?_)); (try simp -implicitDefEqProofs only [go_sem, vc2_blk, h])))
    rw [show decide ((n.l.length : Int) ≤ i) = true from by have := GNet.there_no hi; simp at h ⊢; omega]
    ((try (with_reducible refine leK2_refl ?_)); (try simp -implicitDefEqProofs only [go_sem, vc2_blk]); repeat ((first | (with_reducible refine leK2_refl ?_) | (with_reducible refine ar_i64 (by omega) ?_) | (with_reducible refine And.intro (by omega) ?_)); (try simp -implicitDefEqProofs only [go_sem, vc2_blk])))
    exact ⟨_, rfl, le2_of [(0, .to 3)] (by simp -implicitDefEqProofs only [go_sem, vc2_blk])⟩
  · ((try (with_reducible refine leK2_refl ?_)); (try simp -implicitDefEqProofs only [go_sem, vc2_blk, h]); repeat ((first | (with_reducible refine leK2_refl ?_) | (with_reducible refine ar_i64 (by omega) ?_) | (with_reducible refine And.intro (by omega) ?_)); (try simp -implicitDefEqProofs only [go_sem, vc2_blk, h])))
    exact ⟨_, rfl, le2_of [(0, .to 3)] (by simp -implicitDefEqProofs only [go_sem, vc2_blk])⟩
end Go.Proofs.Ytgpmgnbjpfggmaa

/-
  Net: Bend of the document.
-/
set_option linter.unusedSimpArgs false
set_option linter.unusedVariables false
namespace Go.Proofs.Ytgpmgnbjpfggmaa
open Go.Eng
attribute [local go_sem] GPar.enc bytesD GNet.dv GNet.res plR GNet.takeR GNet.takeN GNet.resE GNet.del GNet.takeF GNet.mov map_erase GNet.resN GNet.resNE

theorem rparcel_conN (p : GPar) (hb : p.b.length ≤ 1000) : Con2 Try.prog 31 [.agg p.enc] (· = ⟨.agg [.v (.int .u8 p.to.toNat), .v (.bool p.bent), .rf 0 0 p.b.length], [(0, .nst 5 1 (p.b.map encBD))], 1⟩) :=
  (rparcel_con p hb).le (le2_of [] (by simp -implicitDefEqProofs only [go_sem, vc2_blk]))

theorem rCopy_conN (n : GNet) (k : Nat) (hk : k < n.l.length) (hn : n.ok) : Con2 Try.prog 30 [n.dv] (· = n.resN k n.l[k]) := by
  have hb := hn.1
  have hbl : ∀ (i : Nat) (h : i < n.l.length), n.l[i].b.length ≤ 1000 := fun i h => hn.2 _ (List.getElem_mem h)
  have hlen : ∀ p, (n.lN k p).length = n.l.length := fun p => by simp [GNet.lN, GNet.lM]
  refine con2_of Ty.mixed Try.func30 rfl (by kernel_rfl) (by kernel_rfl) rfl [.cell 2 25] rfl ?_
  ((try (with_reducible refine leK2_refl ?_)); simp -implicitDefEqProofs only [go_sem, vc2_blk]; repeat ((with_reducible refine leK2_refl ?_); simp -implicitDefEqProofs only [go_sem, vc2_blk]))
  refine vc2_for (γ := Nat) (fun i => [(4, .d (.v (.int .i64 (i : Nat))))])
    (fun i => [(3, ⟨[.v (.int .i64 n.room), .rf 0 0 i, .v (.int .i64 n.lost)], 25⟩), (2, ⟨[.v (.int .i64 0), .v (.slice none 0 0), .v (.int .i64 0)], 25⟩), (1, ⟨[.v (.int .i64 n.room), .fz 3 (List.map GPar.enc n.l), .v (.int .i64 n.lost)], 25⟩)])
    (fun i => [(0, .nst 33 3 ((n.lN k n.l[k]).take i)), (1, .nst 5 1 (if k < i then n.l[k].b.map encBD else []))]) 2 (fun i => i ≤ n.l.length) (fun i => n.l.length - i) 0 (le2_of [(0, .nil 3), (1, .nil 1)] ?_) (Nat.zero_le _) (fun i hi0 => ?_)
  · ((try (with_reducible refine leK2_refl ?_)); simp -implicitDefEqProofs only [go_sem, vc2_blk]; repeat ((with_reducible refine leK2_refl ?_); simp -implicitDefEqProofs only [go_sem, vc2_blk]))
    exact ⟨rfl, by simp⟩
  · ((try (with_reducible refine leK2_refl ?_)); simp -implicitDefEqProofs only [go_sem, vc2_blk]; repeat ((with_reducible refine leK2_refl ?_); simp -implicitDefEqProofs only [go_sem, vc2_blk]))
    refine cond2_dec (fun h => ?_) (fun h => ?_)
    · have hi : i < n.l.length := by omega
      have htl : (List.take i (n.lN k n.l[k])).length = i := by rw [List.length_take, hlen]; omega
      have hts : List.take (i + 1) (n.lN k n.l[k]) = List.take i (n.lN k n.l[k]) ++ [(n.lN k n.l[k])[i]'(by rw [hlen]; exact hi)] := take_snoc (by rw [hlen]; exact hi)
      by_cases hik : i = k
      · subst hik
        have hii : (n.lN i n.l[i])[i]'(by rw [hlen]; exact hi) = n.l[i].encR 1 := by simp [GNet.lN, GNet.lM]
        rw [hii] at hts
        have hno : ¬ i < i := by omega
        have hyes : i < i + 1 := by omega
        ((try (with_reducible refine leK2_refl ?_)); simp -implicitDefEqProofs only [go_sem, vc2_blk]; repeat ((with_reducible refine leK2_refl ?_); simp -implicitDefEqProofs only [go_sem, vc2_blk]))
        refine .inl ⟨[(0, false), (2, false), (4, false), (1, false), (3, false), (5, false), (6, false), (7, true), (8, true), (9, false), (10, false), (11, false)], by kernel_rfl, ?_⟩
        ((try (with_reducible refine leK2_refl ?_)); (try simp -implicitDefEqProofs only [go_sem, vc2_blk, mapE_get hi]); repeat ((first | (with_reducible refine leK2_refl ?_) | (with_reducible refine ar_i64 (by omega) ?_) | (with_reducible refine And.intro (by omega) ?_)); (try simp -implicitDefEqProofs only [go_sem, vc2_blk, mapE_get hi])))
        refine CallS.eq (rparcel_conN n.l[i] (hbl i hi)) (by simp -implicitDefEqProofs only [go_sem, vc2_blk]) (.inl (by simp -implicitDefEqProofs only [go_sem, vc2_blk])) ?_
        ((try (with_reducible refine leK2_refl ?_)); (try simp -implicitDefEqProofs only [go_sem, vc2_blk, htl]); repeat ((first | (with_reducible refine leK2_refl ?_) | (with_reducible refine ar_i64 (by omega) ?_) | (with_reducible refine And.intro (by omega) ?_)); (try simp -implicitDefEqProofs only [go_sem, vc2_blk, htl])))
        refine ⟨i + 1, le2_of [(0, .to 4), (1, .to 2)] ?_, by omega, by omega⟩
        ((try (with_reducible refine leK2_refl ?_)); simp -implicitDefEqProofs only [go_sem, vc2_blk, hts, htl, hyes]; repeat ((with_reducible refine leK2_refl ?_); simp -implicitDefEqProofs only [go_sem, vc2_blk, hts, htl, hyes]))
        refine ⟨rfl, wkDss_append ?_ ⟨?_, rfl⟩, ?_⟩
        · rw [lN_take_le (Nat.le_refl _)]; exact wkDss_map wk_enc _
        · exact ⟨rfl, rfl, ⟨rfl, rfl, rfl⟩, rfl⟩
        · rw [shDss_map (fun _ => rfl)]; exact wkDss_map wk_b _
      · have hii : (n.lN k n.l[k])[i]'(by rw [hlen]; exact hi) = n.l[i].enc := by
          have : k ≠ i := fun e => hik e.symm
          simp [GNet.lN, GNet.lM, this]
        rw [hii] at hts
        ((try (with_reducible refine leK2_refl ?_)); simp -implicitDefEqProofs only [go_sem, vc2_blk]; repeat ((with_reducible refine leK2_refl ?_); simp -implicitDefEqProofs only [go_sem, vc2_blk]))
        refine .inl ⟨[(0, false), (2, false), (4, false), (1, false), (3, false), (5, false), (6, false), (7, true), (8, true), (9, false), (10, false), (11, false)], by kernel_rfl, ?_⟩
        ((try (with_reducible refine leK2_refl ?_)); (try simp -implicitDefEqProofs only [go_sem, vc2_blk, mapE_get hi]); repeat ((first | (with_reducible refine leK2_refl ?_) | (with_reducible refine ar_i64 (by omega) ?_) | (with_reducible refine And.intro (by omega) ?_)); (try simp -implicitDefEqProofs only [go_sem, vc2_blk, mapE_get hi])))
        refine CallS.eq (rparcel_con n.l[i] (hbl i hi)) (by simp -implicitDefEqProofs only [go_sem, vc2_blk]) (.inl (by simp -implicitDefEqProofs only [go_sem, vc2_blk])) ?_
        ((try (with_reducible refine leK2_refl ?_)); (try simp -implicitDefEqProofs only [go_sem, vc2_blk, htl]); repeat ((first | (with_reducible refine leK2_refl ?_) | (with_reducible refine ar_i64 (by omega) ?_) | (with_reducible refine And.intro (by omega) ?_)); (try simp -implicitDefEqProofs only [go_sem, vc2_blk, htl])))
        refine ⟨i + 1, le2_of [(0, .to 4)] ?_, by omega, by omega⟩
        ((try (with_reducible refine leK2_refl ?_)); simp -implicitDefEqProofs only [go_sem, vc2_blk, hts, htl]; repeat ((with_reducible refine leK2_refl ?_); simp -implicitDefEqProofs only [go_sem, vc2_blk, hts, htl]))
        refine ⟨rfl, wkDss_append (wk_lN rfl i) ⟨⟨rfl, rfl, ⟨rfl, rfl⟩, rfl⟩, rfl⟩, ?_⟩
        by_cases hki : k < i
        · rw [if_pos hki, if_pos (by omega)]; exact wkDss_map wk_b _
        · rw [if_neg hki, if_neg (by omega)]; exact rfl
    · ((try (with_reducible refine leK2_refl ?_)); simp -implicitDefEqProofs only [go_sem, vc2_blk]; repeat ((with_reducible refine leK2_refl ?_); simp -implicitDefEqProofs only [go_sem, vc2_blk]))
      have hkn : i = n.l.length := by omega
      subst hkn
      refine ⟨_, rfl, le2_of [] ?_⟩
      ((try (with_reducible refine leK2_refl ?_)); simp -implicitDefEqProofs only [go_sem, vc2_blk]; repeat ((with_reducible refine leK2_refl ?_); simp -implicitDefEqProofs only [go_sem, vc2_blk]))
      rw [if_pos hk]
      refine ⟨?_, wkDss_map wk_b _⟩
      have e : List.take n.l.length (n.lN k n.l[k]) = n.lN k n.l[k] := List.take_of_length_le (by rw [hlen]; omega)
      have := wk_lN (n := n) (k := k) (p := n.l[k]) (r := rnOf [] 2) rfl n.l.length
      rw [e] at this ⊢
      exact this

theorem wk_setb {r : Nat → Option Rn} (B : List UInt8) (q : Nat) (y : UInt8) : wkDss r ((B.map encBD).set q (encBD y)) ((B.map encBD).set q (encBD y)) :=
  wkDss_fix fun cs hc => (List.mem_or_eq_of_mem_set hc).elim (fun h1 => by obtain ⟨x, _, rfl⟩ := List.mem_map.1 h1; exact wk_b x) (fun e => by rw [e]; exact wk_b _)
theorem pow_half (t i : Nat) : t / 2 ^ (i + 1) = t / 2 ^ i / 2 := by rw [Nat.pow_succ, Nat.div_div_eq_div_mul]
theorem bit_lt {j r : Nat} (h : j < r) (hr : r ≤ 7) : 2 ^ j * 2 ≤ 128 := by
  have : 2 ^ (j + 1) ≤ 2 ^ 7 := Nat.pow_le_pow_right (by decide) (by omega)
  rw [Nat.pow_succ] at this
  exact this
theorem bit_u8 {r : Nat} (hr : r < 8) : (UInt8.ofNat (2 ^ r)).toNat = 2 ^ r := by
  rw [UInt8.toNat_ofNat']; exact Nat.mod_eq_of_lt (Nat.lt_of_le_of_lt (Nat.pow_le_pow_right (by decide) (show r ≤ 7 by omega)) (by decide))

set_option maxHeartbeats 1000000 in
theorem rBend_N (n : GNet) (k f t : Nat) (hk : k < n.l.length) (hn : n.ok) (hf : f ≤ 9223372036854775807) (ht : t < 4294967296) (hbt : n.l[k].bent = false) :
    Con2 Try.prog 15 [n.dv, .v (.int .i64 k), .v (.int .i64 f), .v (.int .u32 t)] (· = if (bendN f t n.l[k].b 32).2 = true then n.resNE k ⟨n.l[k].to, true, (bendN f t n.l[k].b 32).1⟩ 0 else n.resE 2) := by
  have hb := hn.1
  have hbl : n.l[k].b.length ≤ 1000 := hn.2 _ (List.getElem_mem hk)
  refine con2_of Ty.mixed Try.func15 rfl (by kernel_rfl) (by kernel_rfl) rfl [.cell 8 25, .tmp 9] rfl ?_
  ((try (with_reducible refine leK2_refl ?_)); simp -implicitDefEqProofs only [go_sem, vc2_blk]; repeat ((with_reducible refine leK2_refl ?_); simp -implicitDefEqProofs only [go_sem, vc2_blk]))
  refine CallS.eq (rCopy_conN n k hk hn) (by simp -implicitDefEqProofs only [go_sem, vc2_blk]) (.inl (by simp -implicitDefEqProofs only [go_sem, vc2_blk])) ?_
  have hshb : (n.l[k].b.map encBD).map (shDs 0) = n.l[k].b.map encBD := shDss_map (fun _ => rfl) _
  ((try (with_reducible refine leK2_refl ?_)); (try simp -implicitDefEqProofs only [go_sem, vc2_blk, lM_sh, hshb]); repeat ((first | (with_reducible refine leK2_refl ?_) | (with_reducible refine ar_i64 (by omega) ?_) | (with_reducible refine And.intro (by omega) ?_)); (try simp -implicitDefEqProofs only [go_sem, vc2_blk, lM_sh, hshb])))
  refine CallS.eq (rthere_con n k) (by simp -implicitDefEqProofs only [go_sem, vc2_blk]) (.inl (by simp -implicitDefEqProofs only [go_sem, vc2_blk])) ?_
  ((try (with_reducible refine leK2_refl ?_)); (try simp -implicitDefEqProofs only [go_sem, vc2_blk, GNet.there_nat hk, mapE_get hk, hbt]); repeat ((first | (with_reducible refine leK2_refl ?_) | (with_reducible refine ar_i64 (by omega) ?_) | (with_reducible refine And.intro (by omega) ?_)); (try simp -implicitDefEqProofs only [go_sem, vc2_blk, GNet.there_nat hk, mapE_get hk, hbt])))
  ((try (with_reducible refine leK2_refl ?_)); (try simp -implicitDefEqProofs only [go_sem, vc2_blk, lM_get hk, GPar.encR]); repeat ((first | (with_reducible refine leK2_refl ?_) | (with_reducible refine ar_i64 (by omega) ?_) | (with_reducible refine And.intro (by omega) ?_)); (try simp -implicitDefEqProofs only [go_sem, vc2_blk, lM_get hk, GPar.encR])))
  refine vc2_forA (γ := Nat) (fun i => [(13, .d (.v (.int .i64 (i : Nat)))), (3, .d (.v (.int .u32 (t / 2 ^ i : Nat)))), (11, .d (.v (.bool (bendN f t n.l[k].b i).2))), (14, .unk), (15, .unk), (16, .unk)]) (fun _ => [])
    (fun i => [(0, .nst 33 3 (n.lN k n.l[k])), (1, .nst 5 1 ((bendN f t n.l[k].b i).1.map encBD))]) 2 (fun i => i ≤ 32) (fun i => 32 - i) 0 (le2_of [] ?_) (by omega) (fun i hi => ?_)
  · ((try (with_reducible refine leK2_refl ?_)); simp -implicitDefEqProofs only [go_sem, vc2_blk]; repeat ((with_reducible refine leK2_refl ?_); simp -implicitDefEqProofs only [go_sem, vc2_blk]))
    exact ⟨by simp [bendN], wk_lM rfl, wkDss_map wk_b _⟩
  · ((try (with_reducible refine leK2_refl ?_)); simp -implicitDefEqProofs only [go_sem, vc2_blk]; repeat ((with_reducible refine leK2_refl ?_); simp -implicitDefEqProofs only [go_sem, vc2_blk]))
    refine cond2_dec (fun h => ?_) (fun h => ?_)
    · have hsm : t / 2 ^ i < 4294967296 := Nat.lt_of_le_of_lt (Nat.div_le_self _ _) ht
      have hp := pow_half t i
      have hbe : (bendN f t n.l[k].b i).1.length = n.l[k].b.length := bendN_len _ _ _ _
      generalize ha : t / 2 ^ i = a at hsm hp ⊢
      have hskip : a % 2 = 0 → bendN f t n.l[k].b (i + 1) = bendN f t n.l[k].b i := fun h => bendN_skip (by rw [ha]; exact h)
      ((try (with_reducible refine leK2_refl ?_)); (try simp -implicitDefEqProofs only [go_sem, vc2_blk]); repeat ((first | (with_reducible refine leK2_refl ?_) | (with_reducible refine ar_i64 (by omega) ?_) | (with_reducible refine And.intro (by omega) ?_)); (try simp -implicitDefEqProofs only [go_sem, vc2_blk])))
      rw [rem_nn (by omega) (by omega)]
      ((try (with_reducible refine leK2_refl ?_)); (try simp -implicitDefEqProofs only [go_sem, vc2_blk]); repeat ((first | (with_reducible refine leK2_refl ?_) | (with_reducible refine ar_i64 (by omega) ?_) | (with_reducible refine And.intro (by omega) ?_)); (try simp -implicitDefEqProofs only [go_sem, vc2_blk])))
      by_cases h1 : a % 2 = 1
      · rw [show ((a : Int) % 2 == 1) = true from by simp; omega]
        ((try (with_reducible refine leK2_refl ?_)); (try simp -implicitDefEqProofs only [go_sem, vc2_blk]); repeat ((first | (with_reducible refine leK2_refl ?_) | (with_reducible refine ar_i64 (by omega) ?_) | (with_reducible refine And.intro (by omega) ?_)); (try simp -implicitDefEqProofs only [go_sem, vc2_blk])))
        rw [quo_i64 (by omega) (by omega) (by omega)]
        ((try (with_reducible refine leK2_refl ?_)); (try simp -implicitDefEqProofs only [go_sem, vc2_blk]); repeat ((first | (with_reducible refine leK2_refl ?_) | (with_reducible refine ar_i64 (by omega) ?_) | (with_reducible refine And.intro (by omega) ?_)); (try simp -implicitDefEqProofs only [go_sem, vc2_blk])))
        by_cases h2 : f + i < 8 * n.l[k].b.length
        · rw [show decide ((f : Int) / 8 < (n.l[k].b.length : Int)) = true from decide_eq_true (by omega)]
          ((try (with_reducible refine leK2_refl ?_)); (try simp -implicitDefEqProofs only [go_sem, vc2_blk]); repeat ((first | (with_reducible refine leK2_refl ?_) | (with_reducible refine ar_i64 (by omega) ?_) | (with_reducible refine And.intro (by omega) ?_)); (try simp -implicitDefEqProofs only [go_sem, vc2_blk])))
          rw [show decide ((f : Int) + (i : Int) < 8 * (n.l[k].b.length : Int)) = true from decide_eq_true (by omega)]
          ((try (with_reducible refine leK2_refl ?_)); (try simp -implicitDefEqProofs only [go_sem, vc2_blk]); repeat ((first | (with_reducible refine leK2_refl ?_) | (with_reducible refine ar_i64 (by omega) ?_) | (with_reducible refine And.intro (by omega) ?_)); (try simp -implicitDefEqProofs only [go_sem, vc2_blk])))
          obtain ⟨r, hr⟩ : ∃ r, r = (f + i) % 8 := ⟨_, rfl⟩
          have hr7 : r ≤ 7 := by omega
          refine vc2_forA (γ := Nat) (fun j => [(16, .d (.v (.int .i64 (j : Nat)))), (15, .d (.v (.int .u8 (2 ^ j : Nat))))]) (fun _ => [])
            (fun _ => [(0, .nst 33 3 (n.lN k n.l[k])), (1, .nst 5 1 ((bendN f t n.l[k].b i).1.map encBD))]) 2 (fun j => j ≤ r) (fun j => r - j) 0 (le2_of [] ?_) (by omega) (fun j hj => ?_)
          · ((try (with_reducible refine leK2_refl ?_)); simp -implicitDefEqProofs only [go_sem, vc2_blk]; repeat ((with_reducible refine leK2_refl ?_); simp -implicitDefEqProofs only [go_sem, vc2_blk]))
            exact ⟨by simp, wk_lM rfl, wkDss_map wk_b _⟩
          · ((try (with_reducible refine leK2_refl ?_)); (try simp -implicitDefEqProofs only [go_sem, vc2_blk]); repeat ((first | (with_reducible refine leK2_refl ?_) | (with_reducible refine ar_i64 (by omega) ?_) | (with_reducible refine And.intro (by omega) ?_)); (try simp -implicitDefEqProofs only [go_sem, vc2_blk])))
            rw [rem_nn (by omega) (by omega)]
            ((try (with_reducible refine leK2_refl ?_)); (try simp -implicitDefEqProofs only [go_sem, vc2_blk]); repeat ((first | (with_reducible refine leK2_refl ?_) | (with_reducible refine ar_i64 (by omega) ?_) | (with_reducible refine And.intro (by omega) ?_)); (try simp -implicitDefEqProofs only [go_sem, vc2_blk])))
            refine cond2_dec (fun h5 => ?_) (fun h5 => ?_)
            · have hjr : j < r := by omega
              have hbit := bit_lt hjr hr7
              ((try (with_reducible refine leK2_refl ?_)); (try simp -implicitDefEqProofs only [go_sem, vc2_blk]); repeat ((first | (with_reducible refine leK2_refl ?_) | (with_reducible refine ar_i64 (by omega) ?_) | (with_reducible refine And.intro (by omega) ?_)); (try simp -implicitDefEqProofs only [go_sem, vc2_blk])))
              refine ar_u8 ⟨by omega, by omega⟩ ?_
              ((try (with_reducible refine leK2_refl ?_)); (try simp -implicitDefEqProofs only [go_sem, vc2_blk]); repeat ((first | (with_reducible refine leK2_refl ?_) | (with_reducible refine ar_i64 (by omega) ?_) | (with_reducible refine And.intro (by omega) ?_)); (try simp -implicitDefEqProofs only [go_sem, vc2_blk])))
              refine ⟨j + 1, le2_of [] ?_, by omega, by omega⟩
              ((try (with_reducible refine leK2_refl ?_)); simp -implicitDefEqProofs only [go_sem, vc2_blk, Nat.pow_succ]; repeat ((with_reducible refine leK2_refl ?_); simp -implicitDefEqProofs only [go_sem, vc2_blk, Nat.pow_succ]))
              exact ⟨by simp, wk_lM rfl, wkDss_map wk_b _⟩
            · have hjr : j = r := by omega
              subst hjr
              ((try (with_reducible refine leK2_refl ?_)); (try simp -implicitDefEqProofs only [go_sem, vc2_blk]); repeat ((first | (with_reducible refine leK2_refl ?_) | (with_reducible refine ar_i64 (by omega) ?_) | (with_reducible refine And.intro (by omega) ?_)); (try simp -implicitDefEqProofs only [go_sem, vc2_blk])))
              rw [quo_i64 (by omega) (by omega) (by omega)]
              ((try (with_reducible refine leK2_refl ?_)); (try simp -implicitDefEqProofs only [go_sem, vc2_blk]); repeat ((first | (with_reducible refine leK2_refl ?_) | (with_reducible refine ar_i64 (by omega) ?_) | (with_reducible refine And.intro (by omega) ?_)); (try simp -implicitDefEqProofs only [go_sem, vc2_blk])))
              rw [quo_i64 (by omega) (by omega) (by omega)]
              obtain ⟨q, hq3⟩ : ∃ q, q = (f + i) / 8 := ⟨_, rfl⟩
              have hq4 : ((f : Int) + i) / 8 = (q : Int) := by omega
              have hql : q < (bendN f t n.l[k].b i).1.length := by rw [hbe]; omega
              ((try (with_reducible refine leK2_refl ?_)); (try simp -implicitDefEqProofs only [go_sem, vc2_blk, hq4, mapE_get hql, encBD]); repeat ((first | (with_reducible refine leK2_refl ?_) | (with_reducible refine ar_i64 (by omega) ?_) | (with_reducible refine And.intro (by omega) ?_)); (try simp -implicitDefEqProofs only [go_sem, vc2_blk, hq4, mapE_get hql, encBD])))
              rw [← bit_u8 (show j < 8 by omega), xor_u8]
              ((try (with_reducible refine leK2_refl ?_)); (try simp -implicitDefEqProofs only [go_sem, vc2_blk, mapE_get hql, encBD]); repeat ((first | (with_reducible refine leK2_refl ?_) | (with_reducible refine ar_i64 (by omega) ?_) | (with_reducible refine And.intro (by omega) ?_)); (try simp -implicitDefEqProofs only [go_sem, vc2_blk, mapE_get hql, encBD])))
              rw [quo_u32 (by omega) (by omega) (by omega)]
              ((try (with_reducible refine leK2_refl ?_)); (try simp -implicitDefEqProofs only [go_sem, vc2_blk]); repeat ((first | (with_reducible refine leK2_refl ?_) | (with_reducible refine ar_i64 (by omega) ?_) | (with_reducible refine And.intro (by omega) ?_)); (try simp -implicitDefEqProofs only [go_sem, vc2_blk])))
              refine ⟨i + 1, le2_of [] ?_, by omega, by omega⟩
              have hdo := bendN_do (b := n.l[k].b) (show t / 2 ^ i % 2 = 1 by rw [ha]; exact h1) h2
              rw [← hq3, ← hr, getD_at hql] at hdo
              ((try (with_reducible refine leK2_refl ?_)); simp -implicitDefEqProofs only [go_sem, vc2_blk, hdo, hp]; repeat ((with_reducible refine leK2_refl ?_); simp -implicitDefEqProofs only [go_sem, vc2_blk, hdo, hp]))
              refine ⟨by simp, wk_lM rfl, ?_⟩
              rw [List.map_set]
              exact wk_setb _ _ _
        · have hout : bendN f t n.l[k].b (i + 1) = bendN f t n.l[k].b i := bendN_out (by omega) 1
          by_cases h3 : f / 8 < n.l[k].b.length
          · rw [show decide ((f : Int) / 8 < (n.l[k].b.length : Int)) = true from decide_eq_true (by omega)]
            ((try (with_reducible refine leK2_refl ?_)); (try simp -implicitDefEqProofs only [go_sem, vc2_blk]); repeat ((first | (with_reducible refine leK2_refl ?_) | (with_reducible refine ar_i64 (by omega) ?_) | (with_reducible refine And.intro (by omega) ?_)); (try simp -implicitDefEqProofs only [go_sem, vc2_blk])))
            rw [show decide ((f : Int) + (i : Int) < 8 * (n.l[k].b.length : Int)) = false from decide_eq_false (by omega)]
            ((try (with_reducible refine leK2_refl ?_)); (try simp -implicitDefEqProofs only [go_sem, vc2_blk]); repeat ((first | (with_reducible refine leK2_refl ?_) | (with_reducible refine ar_i64 (by omega) ?_) | (with_reducible refine And.intro (by omega) ?_)); (try simp -implicitDefEqProofs only [go_sem, vc2_blk])))
            rw [quo_u32 (by omega) (by omega) (by omega)]
            ((try (with_reducible refine leK2_refl ?_)); (try simp -implicitDefEqProofs only [go_sem, vc2_blk]); repeat ((first | (with_reducible refine leK2_refl ?_) | (with_reducible refine ar_i64 (by omega) ?_) | (with_reducible refine And.intro (by omega) ?_)); (try simp -implicitDefEqProofs only [go_sem, vc2_blk])))
            refine ⟨i + 1, le2_of [] ?_, by omega, by omega⟩
            ((try (with_reducible refine leK2_refl ?_)); simp -implicitDefEqProofs only [go_sem, vc2_blk, hout, hp]; repeat ((with_reducible refine leK2_refl ?_); simp -implicitDefEqProofs only [go_sem, vc2_blk, hout, hp]))
            exact ⟨⟨rfl, rfl, rfl, rfl⟩, wk_lM rfl, wkDss_map wk_b _⟩
          · rw [show decide ((f : Int) / 8 < (n.l[k].b.length : Int)) = false from decide_eq_false (by omega)]
            ((try (with_reducible refine leK2_refl ?_)); (try simp -implicitDefEqProofs only [go_sem, vc2_blk]); repeat ((first | (with_reducible refine leK2_refl ?_) | (with_reducible refine ar_i64 (by omega) ?_) | (with_reducible refine And.intro (by omega) ?_)); (try simp -implicitDefEqProofs only [go_sem, vc2_blk])))
            rw [quo_u32 (by omega) (by omega) (by omega)]
            ((try (with_reducible refine leK2_refl ?_)); (try simp -implicitDefEqProofs only [go_sem, vc2_blk]); repeat ((first | (with_reducible refine leK2_refl ?_) | (with_reducible refine ar_i64 (by omega) ?_) | (with_reducible refine And.intro (by omega) ?_)); (try simp -implicitDefEqProofs only [go_sem, vc2_blk])))
            refine ⟨i + 1, le2_of [] ?_, by omega, by omega⟩
            ((try (with_reducible refine leK2_refl ?_)); simp -implicitDefEqProofs only [go_sem, vc2_blk, hout, hp]; repeat ((with_reducible refine leK2_refl ?_); simp -implicitDefEqProofs only [go_sem, vc2_blk, hout, hp]))
            exact ⟨⟨rfl, rfl, rfl, rfl⟩, wk_lM rfl, wkDss_map wk_b _⟩
      · rw [show ((a : Int) % 2 == 1) = false from by simp; omega]
        ((try (with_reducible refine leK2_refl ?_)); (try simp -implicitDefEqProofs only [go_sem, vc2_blk]); repeat ((first | (with_reducible refine leK2_refl ?_) | (with_reducible refine ar_i64 (by omega) ?_) | (with_reducible refine And.intro (by omega) ?_)); (try simp -implicitDefEqProofs only [go_sem, vc2_blk])))
        rw [quo_u32 (by omega) (by omega) (by omega)]
        ((try (with_reducible refine leK2_refl ?_)); (try simp -implicitDefEqProofs only [go_sem, vc2_blk]); repeat ((first | (with_reducible refine leK2_refl ?_) | (with_reducible refine ar_i64 (by omega) ?_) | (with_reducible refine And.intro (by omega) ?_)); (try simp -implicitDefEqProofs only [go_sem, vc2_blk])))
        refine ⟨i + 1, le2_of [] ?_, by omega, by omega⟩
        ((try (with_reducible refine leK2_refl ?_)); simp -implicitDefEqProofs only [go_sem, vc2_blk, hskip (by omega), hp]; repeat ((with_reducible refine leK2_refl ?_); simp -implicitDefEqProofs only [go_sem, vc2_blk, hskip (by omega), hp]))
        exact ⟨⟨rfl, rfl, rfl, rfl⟩, wk_lM rfl, wkDss_map wk_b _⟩
    · ((try (with_reducible refine leK2_refl ?_)); (try simp -implicitDefEqProofs only [go_sem, vc2_blk]); repeat ((first | (with_reducible refine leK2_refl ?_) | (with_reducible refine ar_i64 (by omega) ?_) | (with_reducible refine And.intro (by omega) ?_)); (try simp -implicitDefEqProofs only [go_sem, vc2_blk])))
      have hi32 : i = 32 := by omega
      subst hi32
      cases hy : (bendN f t n.l[k].b 32).2 with
      | true =>
        ((try (with_reducible refine leK2_refl ?_)); (try simp -implicitDefEqProofs only [go_sem, vc2_blk, lM_get hk, GPar.encR]); repeat ((first | (with_reducible refine leK2_refl ?_) | (with_reducible refine ar_i64 (by omega) ?_) | (with_reducible refine And.intro (by omega) ?_)); (try simp -implicitDefEqProofs only [go_sem, vc2_blk, lM_get hk, GPar.encR])))
        refine ⟨_, rfl, le2_of [] ?_⟩
        ((try (with_reducible refine leK2_refl ?_)); simp -implicitDefEqProofs only [go_sem, vc2_blk]; repeat ((with_reducible refine leK2_refl ?_); simp -implicitDefEqProofs only [go_sem, vc2_blk]))
        rw [show (n.lM k n.l[k] 1).set k [.v (.int .u8 n.l[k].to.toNat), .v (.bool true), .rf 1 0 n.l[k].b.length] = n.lM k ⟨n.l[k].to, true, (bendN f t n.l[k].b 32).1⟩ 1 from by simp [GNet.lM, GPar.encR, bendN_len]]
        exact ⟨wk_lM rfl, wkDss_map wk_b _⟩
      | false =>
        ((try (with_reducible refine leK2_refl ?_)); (try simp -implicitDefEqProofs only [go_sem, vc2_blk]); repeat ((first | (with_reducible refine leK2_refl ?_) | (with_reducible refine ar_i64 (by omega) ?_) | (with_reducible refine And.intro (by omega) ?_)); (try simp -implicitDefEqProofs only [go_sem, vc2_blk])))
        refine CallS.eq (rCopy_con n hn) (by simp -implicitDefEqProofs only [go_sem, vc2_blk]) (.inl (by simp -implicitDefEqProofs only [go_sem, vc2_blk])) ?_
        ((try (with_reducible refine leK2_refl ?_)); (try simp -implicitDefEqProofs only [go_sem, vc2_blk]); repeat ((first | (with_reducible refine leK2_refl ?_) | (with_reducible refine ar_i64 (by omega) ?_) | (with_reducible refine And.intro (by omega) ?_)); (try simp -implicitDefEqProofs only [go_sem, vc2_blk])))
        simp only [if_false, Bool.false_eq_true]
        exact ⟨_, rfl, le2_of [(0, .to 2)] (by simp -implicitDefEqProofs only [go_sem, vc2_blk])⟩

theorem rBend_yes (n : GNet) (k f t : Nat) (hk : k < n.l.length) (hn : n.ok) (hf : f ≤ 9223372036854775807) (ht : t < 4294967296) (hbt : n.l[k].bent = false) (hy : (bendN f t n.l[k].b 32).2 = true) :
    Con2 Try.prog 15 [n.dv, .v (.int .i64 k), .v (.int .i64 f), .v (.int .u32 t)] (· = (bendNet n k f t hk).resE 0) := by
  have h := rBend_N n k f t hk hn hf ht hbt
  rw [hy] at h
  exact resNE_frz h
theorem rBend_none (n : GNet) (k f t : Nat) (hk : k < n.l.length) (hn : n.ok) (hf : f ≤ 9223372036854775807) (ht : t < 4294967296) (hbt : n.l[k].bent = false) (hy : (bendN f t n.l[k].b 32).2 = false) :
    Con2 Try.prog 15 [n.dv, .v (.int .i64 k), .v (.int .i64 f), .v (.int .u32 t)] (· = n.resE 2) := by
  have h := rBend_N n k f t hk hn hf ht hbt
  rw [hy] at h
  exact h
theorem rBend_bad (n : GNet) (k : Nat) (f : Int) (t : Nat) (hk : k < n.l.length) (hn : n.ok) (hbt : n.l[k].bent = true ∨ f < 0) :
    Con2 Try.prog 15 [n.dv, .v (.int .i64 k), .v (.int .i64 f), .v (.int .u32 t)] (· = n.resE 2) := by
  have hb := hn.1
  refine con2_of Ty.mixed Try.func15 rfl (by kernel_rfl) (by kernel_rfl) rfl [.cell 8 25, .tmp 9] rfl ?_
  ((try (with_reducible refine leK2_refl ?_)); simp -implicitDefEqProofs only [go_sem, vc2_blk]; repeat ((with_reducible refine leK2_refl ?_); simp -implicitDefEqProofs only [go_sem, vc2_blk]))
  refine CallS.eq (rCopy_con n hn) (by simp -implicitDefEqProofs only [go_sem, vc2_blk]) (.inl (by simp -implicitDefEqProofs only [go_sem, vc2_blk])) ?_
  ((try (with_reducible refine leK2_refl ?_)); (try simp -implicitDefEqProofs only [go_sem, vc2_blk]); repeat ((first | (with_reducible refine leK2_refl ?_) | (with_reducible refine ar_i64 (by omega) ?_) | (with_reducible refine And.intro (by omega) ?_)); (try simp -implicitDefEqProofs only [go_sem, vc2_blk])))
  refine CallS.eq (rthere_con n k) (by simp -implicitDefEqProofs only [go_sem, vc2_blk]) (.inl (by simp -implicitDefEqProofs only [go_sem, vc2_blk])) ?_
  ((try (with_reducible refine leK2_refl ?_)); (try simp -implicitDefEqProofs only [go_sem, vc2_blk, GNet.there_nat hk, mapE_get hk]); repeat ((first | (with_reducible refine leK2_refl ?_) | (with_reducible refine ar_i64 (by omega) ?_) | (with_reducible refine And.intro (by omega) ?_)); (try simp -implicitDefEqProofs only [go_sem, vc2_blk, GNet.there_nat hk, mapE_get hk])))
  cases hbb : n.l[k].bent with
  | true =>
    ((try (with_reducible refine leK2_refl ?_)); (try simp -implicitDefEqProofs only [go_sem, vc2_blk]); repeat ((first | (with_reducible refine leK2_refl ?_) | (with_reducible refine ar_i64 (by omega) ?_) | (with_reducible refine And.intro (by omega) ?_)); (try simp -implicitDefEqProofs only [go_sem, vc2_blk])))
    exact ⟨_, rfl, le2_of [] (by simp -implicitDefEqProofs only [go_sem, vc2_blk])⟩
  | false =>
    have hf : f < 0 := by rcases hbt with h | h; rw [hbb] at h; cases h; exact h
    ((try (with_reducible refine leK2_refl ?_)); (try simp -implicitDefEqProofs only [go_sem, vc2_blk]); repeat ((first | (with_reducible refine leK2_refl ?_) | (with_reducible refine ar_i64 (by omega) ?_) | (with_reducible refine And.intro (by omega) ?_)); (try simp -implicitDefEqProofs only [go_sem, vc2_blk])))
    rw [show decide (f < 0) = true from decide_eq_true hf]
    ((try (with_reducible refine leK2_refl ?_)); (try simp -implicitDefEqProofs only [go_sem, vc2_blk]); repeat ((first | (with_reducible refine leK2_refl ?_) | (with_reducible refine ar_i64 (by omega) ?_) | (with_reducible refine And.intro (by omega) ?_)); (try simp -implicitDefEqProofs only [go_sem, vc2_blk])))
    exact ⟨_, rfl, le2_of [] (by simp -implicitDefEqProofs only [go_sem, vc2_blk])⟩
theorem rBend_no (n : GNet) (i f : Int) (t : Nat) (hi : n.there i = false) (hn : n.ok) : Con2 Try.prog 15 [n.dv, .v (.int .i64 i), .v (.int .i64 f), .v (.int .u32 t)] (· = n.resE 2) := by
  have hb := hn.1
  refine con2_of Ty.mixed Try.func15 rfl (by kernel_rfl) (by kernel_rfl) rfl [.cell 8 25, .tmp 9] rfl ?_
  ((try (with_reducible refine leK2_refl ?_)); simp -implicitDefEqProofs only [go_sem, vc2_blk]; repeat ((with_reducible refine leK2_refl ?_); simp -implicitDefEqProofs only [go_sem, vc2_blk]))
  refine CallS.eq (rCopy_con n hn) (by simp -implicitDefEqProofs only [go_sem, vc2_blk]) (.inl (by simp -implicitDefEqProofs only [go_sem, vc2_blk])) ?_
  ((try (with_reducible refine leK2_refl ?_)); (try simp -implicitDefEqProofs only [go_sem, vc2_blk]); repeat ((first | (with_reducible refine leK2_refl ?_) | (with_reducible refine ar_i64 (by omega) ?_) | (with_reducible refine And.intro (by omega) ?_)); (try simp -implicitDefEqProofs only [go_sem, vc2_blk])))
  refine CallS.eq (rthere_con n i) (by simp -implicitDefEqProofs only [go_sem, vc2_blk]) (.inl (by simp -implicitDefEqProofs only [go_sem, vc2_blk])) ?_
  ((try (with_reducible refine leK2_refl ?_)); (try simp -implicitDefEqProofs only [go_sem, vc2_blk, hi]); repeat ((first | (with_reducible refine leK2_refl ?_) | (with_reducible refine ar_i64 (by omega) ?_) | (with_reducible refine And.intro (by omega) ?_)); (try simp -implicitDefEqProofs only [go_sem, vc2_blk, hi])))
  exact ⟨_, rfl, le2_of [] (by simp -implicitDefEqProofs only [go_sem, vc2_blk])⟩
end Go.Proofs.Ytgpmgnbjpfggmaa

/-
  Net: what is moved; what is not there.
-/
set_option linter.unusedSimpArgs false
set_option linter.unusedVariables false
namespace Go.Eng
def mvL {α : Type} (l : List α) (to : Nat) (x : α) : List α := l.take to ++ [x] ++ l.drop to
theorem mvL_len {α : Type} {l : List α} {to : Nat} {x : α} (h : to ≤ l.length) : (mvL l to x).length = l.length + 1 := by simp [mvL]; omega
theorem mvL_lt {α : Type} {l : List α} {to i : Nat} {x : α} (h : i < to) (ht : to ≤ l.length) : (mvL l to x)[i]? = l[i]? := by
  rw [mvL, List.append_assoc, List.getElem?_append_left (by simp; omega), List.getElem?_take_of_lt h]
theorem mvL_eq {α : Type} {l : List α} {to : Nat} {x : α} (ht : to ≤ l.length) : (mvL l to x)[to]? = some x := by
  rw [mvL, List.append_assoc, List.getElem?_append_right (by simp; omega)]
  simp [Nat.min_eq_left ht]
theorem mvL_gt {α : Type} {l : List α} {to i : Nat} {x : α} (h : to ≤ i) (ht : to ≤ l.length) : (mvL l to x)[i + 1]? = l[i]? := by
  rw [mvL, List.getElem?_append_right (by simp; omega)]
  simp only [List.length_append, List.length_take, List.length_cons, List.length_nil, Nat.min_eq_left ht, List.getElem?_drop]
  congr 1; omega
/-- What is there behind i rounds. -/
def mvO {α : Type} (l : List α) (to : Nat) (x : α) (i : Nat) : List α := (mvL l to x).take (if i ≤ to then i else i + 1)
theorem mvO_lt {α : Type} {l : List α} {to i : Nat} {x : α} (h : i < to) (ht : to ≤ l.length) (hi : i < l.length) : mvO l to x (i + 1) = mvO l to x i ++ [l[i]] := by
  rw [mvO, mvO, if_pos (by omega), if_pos (by omega), List.take_add_one, mvL_lt h ht, List.getElem?_eq_getElem hi]; rfl
theorem mvO_eq {α : Type} {l : List α} {to : Nat} {x : α} (ht : to < l.length) : mvO l to x (to + 1) = mvO l to x to ++ [x] ++ [l[to]] := by
  rw [mvO, mvO, if_neg (by omega), if_pos (by omega), List.take_add_one, List.take_add_one, mvL_eq (by omega), mvL_gt (Nat.le_refl _) (by omega), List.getElem?_eq_getElem ht]; rfl
theorem mvO_end {α : Type} {l : List α} {x : α} : mvO l l.length x (l.length + 1) = mvO l l.length x l.length ++ [x] := by
  rw [mvO, mvO, if_neg (by omega), if_pos (by omega), List.take_add_one, List.take_add_one, mvL_eq (by omega), mvL_gt (Nat.le_refl _) (by omega), List.getElem?_eq_none (Nat.le_refl _)]
  simp
theorem mvO_gt {α : Type} {l : List α} {to i : Nat} {x : α} (h : to < i) (ht : to ≤ l.length) (hi : i < l.length) : mvO l to x (i + 1) = mvO l to x i ++ [l[i]] := by
  rw [mvO, mvO, if_neg (by omega), if_neg (by omega), List.take_add_one, mvL_gt (by omega) ht, List.getElem?_eq_getElem hi]; rfl
theorem mvO_fin {α : Type} {l : List α} {to : Nat} {x : α} (h : to < l.length) : mvO l to x (l.length + 1) = mvO l to x l.length := by
  rw [mvO, mvO, if_neg (by omega), if_neg (by omega), List.take_of_length_le (by rw [mvL_len (by omega)]; omega), List.take_of_length_le (by rw [mvL_len (by omega)]; omega)]
theorem mvO_all {α : Type} {l : List α} {to : Nat} {x : α} (h : to ≤ l.length) : mvO l to x (l.length + 1) = mvL l to x := by
  rw [mvO, if_neg (by omega), List.take_of_length_le (by rw [mvL_len h]; omega)]
theorem mvO_len {α : Type} {l : List α} {to i : Nat} {x : α} (h : to ≤ l.length) : (mvO l to x i).length ≤ l.length + 1 := by
  have := mvL_len (x := x) h
  simp only [mvO, List.length_take]; omega
end Go.Eng
namespace Go.Proofs.Ytgpmgnbjpfggmaa
open Go.Eng
attribute [local go_sem] GPar.enc bytesD GNet.dv GNet.res plR GNet.takeR GNet.takeN GNet.resE GNet.del GNet.takeF GNet.mov map_erase

theorem rMove_ok (n : GNet) (k j : Nat) (hk : k < n.l.length) (hj : j < n.l.length) (hn : n.ok) : Con2 Try.prog 17 [n.dv, .v (.int .i64 k), .v (.int .i64 j)] (· = (n.mov k j n.l[k]).resE 0) := by
  have hb := hn.1
  have hel : (n.l.eraseIdx k).length = n.l.length - 1 := erase_len hk
  have hel1 : (n.l.eraseIdx k).length ≤ 1000 := by omega
  have hx := hn.2 _ (List.getElem_mem hk)
  refine con2_of Ty.mixed Try.func17 rfl (by kernel_rfl) (by kernel_rfl) rfl [.cell 6 25, .tmp 7] rfl ?_
  ((try (with_reducible refine leK2_refl ?_)); simp -implicitDefEqProofs only [go_sem, vc2_blk]; repeat ((with_reducible refine leK2_refl ?_); simp -implicitDefEqProofs only [go_sem, vc2_blk]))
  refine CallS.eq (rthere_con n k) (by simp -implicitDefEqProofs only [go_sem, vc2_blk]) (.inl (by simp -implicitDefEqProofs only [go_sem, vc2_blk])) ?_
  ((try (with_reducible refine leK2_refl ?_)); (try simp -implicitDefEqProofs only [go_sem, vc2_blk, GNet.there_nat hk]); repeat ((first | (with_reducible refine leK2_refl ?_) | (with_reducible refine ar_i64 (by omega) ?_) | (with_reducible refine And.intro (by omega) ?_)); (try simp -implicitDefEqProofs only [go_sem, vc2_blk, GNet.there_nat hk])))
  refine CallS.eq (rthere_con n j) (by simp -implicitDefEqProofs only [go_sem, vc2_blk]) (.inl (by simp -implicitDefEqProofs only [go_sem, vc2_blk])) ?_
  ((try (with_reducible refine leK2_refl ?_)); (try simp -implicitDefEqProofs only [go_sem, vc2_blk, GNet.there_nat hj]); repeat ((first | (with_reducible refine leK2_refl ?_) | (with_reducible refine ar_i64 (by omega) ?_) | (with_reducible refine And.intro (by omega) ?_)); (try simp -implicitDefEqProofs only [go_sem, vc2_blk, GNet.there_nat hj])))
  refine CallS.eq (rwithout_con n k hk hn) (by simp -implicitDefEqProofs only [go_sem, vc2_blk]) (.inl (by simp -implicitDefEqProofs only [go_sem, vc2_blk])) ?_
  ((try (with_reducible refine leK2_refl ?_)); (try simp -implicitDefEqProofs only [go_sem, vc2_blk]); repeat ((first | (with_reducible refine leK2_refl ?_) | (with_reducible refine ar_i64 (by omega) ?_) | (with_reducible refine And.intro (by omega) ?_)); (try simp -implicitDefEqProofs only [go_sem, vc2_blk])))
  generalize hl : n.l.eraseIdx k = l at hel hel1
  have hjl : j ≤ l.length := by omega
  refine vc2_forA (γ := Nat) (fun i => [(10, .d (.v (.int .i64 (i : Nat))))]) (fun i => [(9, ⟨[.v (.int .i64 n.room), .rf 1 0 (mvO l j n.l[k] i).length, .v (.int .i64 n.lost)], 25⟩)])
    (fun i => [(0, .arr 33 3 (l.map GPar.enc) false), (1, .arr 33 3 ((mvO l j n.l[k] i).map GPar.enc) false)]) 2 (fun i => i ≤ l.length + 1) (fun i => l.length + 1 - i) 0 (le2_of [(1, .nil 3)] ?_) (by omega) (fun i hi => ?_)
  · ((try (with_reducible refine leK2_refl ?_)); simp -implicitDefEqProofs only [go_sem, vc2_blk]; repeat ((with_reducible refine leK2_refl ?_); simp -implicitDefEqProofs only [go_sem, vc2_blk]))
    exact ⟨rfl, by simp [mvO]⟩
  · have hol := mvO_len (x := n.l[k]) (i := i) hjl
    ((try (with_reducible refine leK2_refl ?_)); (try simp -implicitDefEqProofs only [go_sem, vc2_blk]); repeat ((first | (with_reducible refine leK2_refl ?_) | (with_reducible refine ar_i64 (by omega) ?_) | (with_reducible refine And.intro (by omega) ?_)); (try simp -implicitDefEqProofs only [go_sem, vc2_blk])))
    refine cond2_dec (fun h => ?_) (fun h => ?_)
    · ((try (with_reducible refine leK2_refl ?_)); (try simp -implicitDefEqProofs only [go_sem, vc2_blk]); repeat ((first | (with_reducible refine leK2_refl ?_) | (with_reducible refine ar_i64 (by omega) ?_) | (with_reducible refine And.intro (by omega) ?_)); (try simp -implicitDefEqProofs only [go_sem, vc2_blk])))
      refine cond2_eq (fun h1 => ?_) (fun h1 => ?_)
      · have hij : i = j := by omega
        subst hij
        ((try (with_reducible refine leK2_refl ?_)); (try simp -implicitDefEqProofs only [go_sem, vc2_blk]); repeat ((first | (with_reducible refine leK2_refl ?_) | (with_reducible refine ar_i64 (by omega) ?_) | (with_reducible refine And.intro (by omega) ?_)); (try simp -implicitDefEqProofs only [go_sem, vc2_blk])))
        refine .inl ⟨[(0, false), (2, false), (4, false), (1, false), (3, false), (5, false), (6, false), (7, true), (8, true), (9, false), (10, false), (11, false)], by kernel_rfl, ?_⟩
        ((try (with_reducible refine leK2_refl ?_)); (try simp -implicitDefEqProofs only [go_sem, vc2_blk, mapE_get hk]); repeat ((first | (with_reducible refine leK2_refl ?_) | (with_reducible refine ar_i64 (by omega) ?_) | (with_reducible refine And.intro (by omega) ?_)); (try simp -implicitDefEqProofs only [go_sem, vc2_blk, mapE_get hk])))
        refine CallS.eq (rparcel_con n.l[k] hx) (by simp -implicitDefEqProofs only [go_sem, vc2_blk]) (.inl (by simp -implicitDefEqProofs only [go_sem, vc2_blk])) ?_
        ((try (with_reducible refine leK2_refl ?_)); (try simp -implicitDefEqProofs only [go_sem, vc2_blk]); repeat ((first | (with_reducible refine leK2_refl ?_) | (with_reducible refine ar_i64 (by omega) ?_) | (with_reducible refine And.intro (by omega) ?_)); (try simp -implicitDefEqProofs only [go_sem, vc2_blk])))
        by_cases h2 : i < l.length
        · rw [show decide ((i : Int) < (l.length : Int)) = true from decide_eq_true (by omega)]
          ((try (with_reducible refine leK2_refl ?_)); (try simp -implicitDefEqProofs only [go_sem, vc2_blk]); repeat ((first | (with_reducible refine leK2_refl ?_) | (with_reducible refine ar_i64 (by omega) ?_) | (with_reducible refine And.intro (by omega) ?_)); (try simp -implicitDefEqProofs only [go_sem, vc2_blk])))
          refine .inl ⟨[(0, false), (2, false), (3, false), (1, false), (4, false), (5, false), (6, true), (7, false), (8, false), (9, false)], by kernel_rfl, ?_⟩
          ((try (with_reducible refine leK2_refl ?_)); (try simp -implicitDefEqProofs only [go_sem, vc2_blk, mapE_get h2, List.length_append]); repeat ((first | (with_reducible refine leK2_refl ?_) | (with_reducible refine ar_i64 (by omega) ?_) | (with_reducible refine And.intro (by omega) ?_)); (try simp -implicitDefEqProofs only [go_sem, vc2_blk, mapE_get h2, List.length_append])))
          refine ⟨i + 1, le2_of [(1, .to 6)] ?_, by omega, by omega⟩
          ((try (with_reducible refine leK2_refl ?_)); simp -implicitDefEqProofs only [go_sem, vc2_blk, mvO_eq h2, List.length_append]; repeat ((with_reducible refine leK2_refl ?_); simp -implicitDefEqProofs only [go_sem, vc2_blk, mvO_eq h2, List.length_append]))
          exact ⟨rfl, by simp [GPar.enc, bytesD]⟩
        · rw [show decide ((i : Int) < (l.length : Int)) = false from decide_eq_false (by omega)]
          ((try (with_reducible refine leK2_refl ?_)); (try simp -implicitDefEqProofs only [go_sem, vc2_blk]); repeat ((first | (with_reducible refine leK2_refl ?_) | (with_reducible refine ar_i64 (by omega) ?_) | (with_reducible refine And.intro (by omega) ?_)); (try simp -implicitDefEqProofs only [go_sem, vc2_blk])))
          have hil : i = l.length := by omega
          refine ⟨i + 1, le2_of [(1, .to 4)] ?_, by omega, by omega⟩
          subst hil
          ((try (with_reducible refine leK2_refl ?_)); simp -implicitDefEqProofs only [go_sem, vc2_blk, mvO_end, List.length_append]; repeat ((with_reducible refine leK2_refl ?_); simp -implicitDefEqProofs only [go_sem, vc2_blk, mvO_end, List.length_append]))
          exact ⟨rfl, by simp [GPar.enc, bytesD]⟩
      · ((try (with_reducible refine leK2_refl ?_)); (try simp -implicitDefEqProofs only [go_sem, vc2_blk]); repeat ((first | (with_reducible refine leK2_refl ?_) | (with_reducible refine ar_i64 (by omega) ?_) | (with_reducible refine And.intro (by omega) ?_)); (try simp -implicitDefEqProofs only [go_sem, vc2_blk])))
        by_cases h2 : i < l.length
        · rw [show decide ((i : Int) < (l.length : Int)) = true from decide_eq_true (by omega)]
          have hstep : mvO l j n.l[k] (i + 1) = mvO l j n.l[k] i ++ [l[i]] := by
            by_cases h3 : i < j
            · exact mvO_lt h3 hjl h2
            · exact mvO_gt (by omega) hjl h2
          ((try (with_reducible refine leK2_refl ?_)); (try simp -implicitDefEqProofs only [go_sem, vc2_blk]); repeat ((first | (with_reducible refine leK2_refl ?_) | (with_reducible refine ar_i64 (by omega) ?_) | (with_reducible refine And.intro (by omega) ?_)); (try simp -implicitDefEqProofs only [go_sem, vc2_blk])))
          refine .inl ⟨[(0, false), (2, false), (3, false), (1, false), (4, false), (5, false), (6, true), (7, false), (8, false), (9, false)], by kernel_rfl, ?_⟩
          ((try (with_reducible refine leK2_refl ?_)); (try simp -implicitDefEqProofs only [go_sem, vc2_blk, mapE_get h2]); repeat ((first | (with_reducible refine leK2_refl ?_) | (with_reducible refine ar_i64 (by omega) ?_) | (with_reducible refine And.intro (by omega) ?_)); (try simp -implicitDefEqProofs only [go_sem, vc2_blk, mapE_get h2])))
          refine ⟨i + 1, le2_of [(1, .to 3)] ?_, by omega, by omega⟩
          ((try (with_reducible refine leK2_refl ?_)); simp -implicitDefEqProofs only [go_sem, vc2_blk, hstep, List.length_append]; repeat ((with_reducible refine leK2_refl ?_); simp -implicitDefEqProofs only [go_sem, vc2_blk, hstep, List.length_append]))
          exact ⟨rfl, by simp [GPar.enc, bytesD]⟩
        · rw [show decide ((i : Int) < (l.length : Int)) = false from decide_eq_false (by omega)]
          ((try (with_reducible refine leK2_refl ?_)); (try simp -implicitDefEqProofs only [go_sem, vc2_blk]); repeat ((first | (with_reducible refine leK2_refl ?_) | (with_reducible refine ar_i64 (by omega) ?_) | (with_reducible refine And.intro (by omega) ?_)); (try simp -implicitDefEqProofs only [go_sem, vc2_blk])))
          have hil : i = l.length := by omega
          have hstep : mvO l j n.l[k] (i + 1) = mvO l j n.l[k] i := by subst hil; exact mvO_fin (by omega)
          refine ⟨i + 1, le2_of [] ?_, by omega, by omega⟩
          ((try (with_reducible refine leK2_refl ?_)); simp -implicitDefEqProofs only [go_sem, vc2_blk, hstep]; repeat ((with_reducible refine leK2_refl ?_); simp -implicitDefEqProofs only [go_sem, vc2_blk, hstep]))
          rfl
    · have hil : i = l.length + 1 := by omega
      subst hil
      ((try (with_reducible refine leK2_refl ?_)); (try simp -implicitDefEqProofs only [go_sem, vc2_blk]); repeat ((first | (with_reducible refine leK2_refl ?_) | (with_reducible refine ar_i64 (by omega) ?_) | (with_reducible refine And.intro (by omega) ?_)); (try simp -implicitDefEqProofs only [go_sem, vc2_blk])))
      refine ⟨_, rfl, le2_of [(0, .to 1)] ?_⟩
      ((try (with_reducible refine leK2_refl ?_)); simp -implicitDefEqProofs only [go_sem, vc2_blk, mvO_all hjl]; repeat ((with_reducible refine leK2_refl ?_); simp -implicitDefEqProofs only [go_sem, vc2_blk, mvO_all hjl]))
      exact ⟨rfl, rfl⟩
theorem rMove_no (n : GNet) (i j : Int) (hi : n.there i = false ∨ n.there j = false) (hn : n.ok) : Con2 Try.prog 17 [n.dv, .v (.int .i64 i), .v (.int .i64 j)] (· = n.resE 2) := by
  have hb := hn.1
  refine con2_of Ty.mixed Try.func17 rfl (by kernel_rfl) (by kernel_rfl) rfl [.cell 6 25, .tmp 7] rfl ?_
  ((try (with_reducible refine leK2_refl ?_)); simp -implicitDefEqProofs only [go_sem, vc2_blk]; repeat ((with_reducible refine leK2_refl ?_); simp -implicitDefEqProofs only [go_sem, vc2_blk]))
  refine CallS.eq (rthere_con n i) (by simp -implicitDefEqProofs only [go_sem, vc2_blk]) (.inl (by simp -implicitDefEqProofs only [go_sem, vc2_blk])) ?_
  cases h1 : n.there i with
  | false =>
    ((try (with_reducible refine leK2_refl ?_)); (try simp -implicitDefEqProofs only [go_sem, vc2_blk, h1]); repeat ((first | (with_reducible refine leK2_refl ?_) | (with_reducible refine ar_i64 (by omega) ?_) | (with_reducible refine And.intro (by omega) ?_)); (try simp -implicitDefEqProofs only [go_sem, vc2_blk, h1])))
    refine CallS.eq (rCopy_con n hn) (by simp -implicitDefEqProofs only [go_sem, vc2_blk]) (.inl (by simp -implicitDefEqProofs only [go_sem, vc2_blk])) ?_
    ((try (with_reducible refine leK2_refl ?_)); (try simp -implicitDefEqProofs only [go_sem, vc2_blk]); repeat ((first | (with_reducible refine leK2_refl ?_) | (with_reducible refine ar_i64 (by omega) ?_) | (with_reducible refine And.intro (by omega) ?_)); (try simp -implicitDefEqProofs only [go_sem, vc2_blk])))
    exact ⟨_, rfl, le2_of [] (by simp -implicitDefEqProofs only [go_sem, vc2_blk])⟩
  | true =>
    have h2 : n.there j = false := by rcases hi with h | h; rw [h1] at h; cases h; exact h
    ((try (with_reducible refine leK2_refl ?_)); (try simp -implicitDefEqProofs only [go_sem, vc2_blk, h1]); repeat ((first | (with_reducible refine leK2_refl ?_) | (with_reducible refine ar_i64 (by omega) ?_) | (with_reducible refine And.intro (by omega) ?_)); (try simp -implicitDefEqProofs only [go_sem, vc2_blk, h1])))
    refine CallS.eq (rthere_con n j) (by simp -implicitDefEqProofs only [go_sem, vc2_blk]) (.inl (by simp -implicitDefEqProofs only [go_sem, vc2_blk])) ?_
    ((try (with_reducible refine leK2_refl ?_)); (try simp -implicitDefEqProofs only [go_sem, vc2_blk, h2]); repeat ((first | (with_reducible refine leK2_refl ?_) | (with_reducible refine ar_i64 (by omega) ?_) | (with_reducible refine And.intro (by omega) ?_)); (try simp -implicitDefEqProofs only [go_sem, vc2_blk, h2])))
    refine CallS.eq (rCopy_con n hn) (by simp -implicitDefEqProofs only [go_sem, vc2_blk]) (.inl (by simp -implicitDefEqProofs only [go_sem, vc2_blk])) ?_
    ((try (with_reducible refine leK2_refl ?_)); (try simp -implicitDefEqProofs only [go_sem, vc2_blk]); repeat ((first | (with_reducible refine leK2_refl ?_) | (with_reducible refine ar_i64 (by omega) ?_) | (with_reducible refine And.intro (by omega) ?_)); (try simp -implicitDefEqProofs only [go_sem, vc2_blk])))
    exact ⟨_, rfl, le2_of [] (by simp -implicitDefEqProofs only [go_sem, vc2_blk])⟩

theorem Move_ok (n : GNet) (k j : Nat) (hk : k < n.l.length) (hj : j < n.l.length) (hn : n.ok) : Con2 Try.prog 16 [n.dv, .v (.int .i64 k), .v (.int .i64 j)] (· = (n.mov k j n.l[k]).resE 0) := by
  have hb := hn.1
  have hel := erase_len hk
  refine con2_of Ty.mixed Try.func16 rfl (by kernel_rfl) (by kernel_rfl) rfl [.cell 6 25, .tmp 7] rfl ?_
  ((try (with_reducible refine leK2_refl ?_)); simp -implicitDefEqProofs only [go_sem, vc2_blk]; repeat ((with_reducible refine leK2_refl ?_); simp -implicitDefEqProofs only [go_sem, vc2_blk]))
  refine CallS.inline Ty.mixed Try.func25 rfl (by kernel_rfl) (by kernel_rfl) rfl [.cell 6 25, .tmp 7] rfl (Vc2.of ?_)
  ((try (with_reducible refine leK2_refl ?_)); simp -implicitDefEqProofs only [go_sem, vc2_blk]; repeat ((with_reducible refine leK2_refl ?_); simp -implicitDefEqProofs only [go_sem, vc2_blk]))
  refine CallS.eq (fresh_con n hn) (by simp -implicitDefEqProofs only [go_sem, vc2_blk]) (.inl (by simp -implicitDefEqProofs only [go_sem, vc2_blk])) ?_
  ((try (with_reducible refine leK2_refl ?_)); (try simp -implicitDefEqProofs only [go_sem, vc2_blk, le_false hk]); repeat ((first | (with_reducible refine leK2_refl ?_) | (with_reducible refine ar_i64 (by omega) ?_) | (with_reducible refine And.intro (by omega) ?_)); (try simp -implicitDefEqProofs only [go_sem, vc2_blk, le_false hk])))
  refine CallS.inline Ty.mixed Try.func36 rfl (by kernel_rfl) (by kernel_rfl) rfl [.cell 4 25, .tmp 5] rfl (Vc2.of ?_)
  ((try (with_reducible refine leK2_refl ?_)); simp -implicitDefEqProofs only [go_sem, vc2_blk]; repeat ((with_reducible refine leK2_refl ?_); simp -implicitDefEqProofs only [go_sem, vc2_blk]))
  ((try (with_reducible refine leK2_refl ?_)); (try simp -implicitDefEqProofs only [go_sem, vc2_blk, le_false hj, mapE_get hk]); repeat ((first | (with_reducible refine leK2_refl ?_) | (with_reducible refine ar_i64 (by omega) ?_) | (with_reducible refine And.intro (by omega) ?_)); (try simp -implicitDefEqProofs only [go_sem, vc2_blk, le_false hj, mapE_get hk])))
  refine CallS.del delPar_call rfl (by simp) (by simpa using hk) (by simp; omega) ?_
  ((try (with_reducible refine leK2_refl ?_)); (try simp -implicitDefEqProofs only [go_sem, vc2_blk]); repeat ((first | (with_reducible refine leK2_refl ?_) | (with_reducible refine ar_i64 (by omega) ?_) | (with_reducible refine And.intro (by omega) ?_)); (try simp -implicitDefEqProofs only [go_sem, vc2_blk])))
  refine CallS.ins insPar_call insPar_call0 (l := (n.l.eraseIdx k).map GPar.enc) (x := n.l[k].enc) rfl rfl (by decide) (by simp [hel]) (by simp [hel]; omega) (by simp [hel]; omega) ?_
  ((try (with_reducible refine leK2_refl ?_)); (try simp -implicitDefEqProofs only [go_sem, vc2_blk]); repeat ((first | (with_reducible refine leK2_refl ?_) | (with_reducible refine ar_i64 (by omega) ?_) | (with_reducible refine And.intro (by omega) ?_)); (try simp -implicitDefEqProofs only [go_sem, vc2_blk])))
  refine ⟨_, rfl, le2_of [(0, .to 4)] ?_⟩
  ((try (with_reducible refine leK2_refl ?_)); simp -implicitDefEqProofs only [go_sem, vc2_blk]; repeat ((with_reducible refine leK2_refl ?_); simp -implicitDefEqProofs only [go_sem, vc2_blk]))
  refine ⟨by simp [hel]; omega, by simp [GPar.enc, bytesD]⟩
theorem Move_no (n : GNet) (i j : Int) (hi : n.there i = false ∨ n.there j = false) (hn : n.ok) : Con2 Try.prog 16 [n.dv, .v (.int .i64 i), .v (.int .i64 j)] (· = n.resE 2) := by
  have hb := hn.1
  cases h1 : n.there i with
  | true =>
    obtain ⟨k, rfl, hk⟩ := GNet.there_get h1
    have h2 : n.there j = false := by rcases hi with h | h; rw [h1] at h; cases h; exact h
    refine con2_of Ty.mixed Try.func16 rfl (by kernel_rfl) (by kernel_rfl) rfl [.cell 6 25, .tmp 7] rfl ?_
    ((try (with_reducible refine leK2_refl ?_)); simp -implicitDefEqProofs only [go_sem, vc2_blk]; repeat ((with_reducible refine leK2_refl ?_); simp -implicitDefEqProofs only [go_sem, vc2_blk]))
    refine CallS.inline Ty.mixed Try.func25 rfl (by kernel_rfl) (by kernel_rfl) rfl [.cell 6 25, .tmp 7] rfl (Vc2.of ?_)
    ((try (with_reducible refine leK2_refl ?_)); simp -implicitDefEqProofs only [go_sem, vc2_blk]; repeat ((with_reducible refine leK2_refl ?_); simp -implicitDefEqProofs only [go_sem, vc2_blk]))
    refine CallS.eq (fresh_con n hn) (by simp -implicitDefEqProofs only [go_sem, vc2_blk]) (.inl (by simp -implicitDefEqProofs only [go_sem, vc2_blk])) ?_
    ((try (with_reducible refine leK2_refl ?_)); (try simp -implicitDefEqProofs only [go_sem, vc2_blk, le_false hk]); repeat ((first | (with_reducible refine leK2_refl ?_) | (with_reducible refine ar_i64 (by omega) ?_) | (with_reducible refine And.intro (by omega) ?_)); (try simp -implicitDefEqProofs only [go_sem, vc2_blk, le_false hk])))
    refine CallS.inline Ty.mixed Try.func36 rfl (by kernel_rfl) (by kernel_rfl) rfl [.cell 4 25, .tmp 5] rfl (Vc2.of ?_)
    ((try (with_reducible refine leK2_refl ?_)); simp -implicitDefEqProofs only [go_sem, vc2_blk]; repeat ((with_reducible refine leK2_refl ?_); simp -implicitDefEqProofs only [go_sem, vc2_blk]))
    refine guard2 (fun h => ?_) (fun h => ?_)
    · ((try (with_reducible refine leK2_refl ?_)); (try simp -implicitDefEqProofs only [go_sem, vc2_blk, h]); repeat ((first | (with_reducible refine leK2_refl ?_) | (with_reducible refine ar_i64 (by omega) ?_) | (with_reducible refine And.intro (by omega) ?_)); (try simp -implicitDefEqProofs only [go_sem, vc2_blk, h])))
      rw [show decide ((n.l.length : Int) ≤ j) = true from by have := GNet.there_no h2; simp at h ⊢; omega]
      ((try (with_reducible refine leK2_refl ?_)); (try simp -implicitDefEqProofs only [go_sem, vc2_blk]); repeat ((first | (with_reducible refine leK2_refl ?_) | (with_reducible refine ar_i64 (by omega) ?_) | (with_reducible refine And.intro (by omega) ?_)); (try simp -implicitDefEqProofs only [go_sem, vc2_blk])))
      exact ⟨_, rfl, le2_of [(0, .to 2)] (by simp -implicitDefEqProofs only [go_sem, vc2_blk])⟩
    · ((try (with_reducible refine leK2_refl ?_)); (try simp -implicitDefEqProofs only [go_sem, vc2_blk, h]); repeat ((first | (with_reducible refine leK2_refl ?_) | (with_reducible refine ar_i64 (by omega) ?_) | (with_reducible refine And.intro (by omega) ?_)); (try simp -implicitDefEqProofs only [go_sem, vc2_blk, h])))
      exact ⟨_, rfl, le2_of [(0, .to 2)] (by simp -implicitDefEqProofs only [go_sem, vc2_blk])⟩
  | false =>
    refine con2_of Ty.mixed Try.func16 rfl (by kernel_rfl) (by kernel_rfl) rfl [.cell 6 25, .tmp 7] rfl ?_
    ((try (with_reducible refine leK2_refl ?_)); simp -implicitDefEqProofs only [go_sem, vc2_blk]; repeat ((with_reducible refine leK2_refl ?_); simp -implicitDefEqProofs only [go_sem, vc2_blk]))
    refine CallS.inline Ty.mixed Try.func25 rfl (by kernel_rfl) (by kernel_rfl) rfl [.cell 6 25, .tmp 7] rfl (Vc2.of ?_)
    ((try (with_reducible refine leK2_refl ?_)); simp -implicitDefEqProofs only [go_sem, vc2_blk]; repeat ((with_reducible refine leK2_refl ?_); simp -implicitDefEqProofs only [go_sem, vc2_blk]))
    refine CallS.eq (fresh_con n hn) (by simp -implicitDefEqProofs only [go_sem, vc2_blk]) (.inl (by simp -implicitDefEqProofs only [go_sem, vc2_blk])) ?_
    ((try (with_reducible refine leK2_refl ?_)); (try simp -implicitDefEqProofs only [go_sem, vc2_blk]); repeat ((first | (with_reducible refine leK2_refl ?_) | (with_reducible refine ar_i64 (by omega) ?_) | (with_reducible refine And.intro (by omega) ?_)); (try simp -implicitDefEqProofs only [go_sem, vc2_blk])))
    refine guard2 (fun h => ?_) (fun h => ?_)
    · ((try (with_reducible refine leK2_refl ?_)); (try simp -implicitDefEqProofs only [go_sem, vc2_blk, h]); repeat ((first | (with_reducible refine leK2_refl ?_) | (with_reducible refine ar_i64 (by omega) ?_) | (with_reducible refine And.intro (by omega) ?_)); (try simp -implicitDefEqProofs only [go_sem, vc2_blk, h])))
      rw [show decide ((n.l.length : Int) ≤ i) = true from by have := GNet.there_no h1; simp at h ⊢; omega]
      ((try (with_reducible refine leK2_refl ?_)); (try simp -implicitDefEqProofs only [go_sem, vc2_blk]); repeat ((first | (with_reducible refine leK2_refl ?_) | (with_reducible refine ar_i64 (by omega) ?_) | (with_reducible refine And.intro (by omega) ?_)); (try simp -implicitDefEqProofs only [go_sem, vc2_blk])))
      exact ⟨_, rfl, le2_of [(0, .to 2)] (by simp -implicitDefEqProofs only [go_sem, vc2_blk])⟩
    · ((try (with_reducible refine leK2_refl ?_)); (try simp -implicitDefEqProofs only [go_sem, vc2_blk, h]); repeat ((first | (with_reducible refine leK2_refl ?_) | (with_reducible refine ar_i64 (by omega) ?_) | (with_reducible refine And.intro (by omega) ?_)); (try simp -implicitDefEqProofs only [go_sem, vc2_blk, h])))
      exact ⟨_, rfl, le2_of [(0, .to 2)] (by simp -implicitDefEqProofs only [go_sem, vc2_blk])⟩

theorem Double_no (n : GNet) (i : Int) (hi : n.there i = false) (hn : n.ok) : Con2 Try.prog 9 [n.dv, .v (.int .i64 i)] (· = n.resE 2) := by
  have hb := hn.1
  refine con2_of Ty.mixed Try.func9 rfl (by kernel_rfl) (by kernel_rfl) rfl [.cell 4 25, .tmp 5] rfl ?_
  ((try (with_reducible refine leK2_refl ?_)); simp -implicitDefEqProofs only [go_sem, vc2_blk]; repeat ((with_reducible refine leK2_refl ?_); simp -implicitDefEqProofs only [go_sem, vc2_blk]))
  refine CallS.inline Ty.mixed Try.func25 rfl (by kernel_rfl) (by kernel_rfl) rfl [.cell 6 25, .tmp 7] rfl (Vc2.of ?_)
  ((try (with_reducible refine leK2_refl ?_)); simp -implicitDefEqProofs only [go_sem, vc2_blk]; repeat ((with_reducible refine leK2_refl ?_); simp -implicitDefEqProofs only [go_sem, vc2_blk]))
  refine CallS.eq (fresh_con n hn) (by simp -implicitDefEqProofs only [go_sem, vc2_blk]) (.inl (by simp -implicitDefEqProofs only [go_sem, vc2_blk])) ?_
  ((try (with_reducible refine leK2_refl ?_)); (try simp -implicitDefEqProofs only [go_sem, vc2_blk]); repeat ((first | (with_reducible refine leK2_refl ?_) | (with_reducible refine ar_i64 (by omega) ?_) | (with_reducible refine And.intro (by omega) ?_)); (try simp -implicitDefEqProofs only [go_sem, vc2_blk])))
  refine guard2 (fun h => ?_) (fun h => ?_)
  · ((try (with_reducible refine leK2_refl ?_)); (try simp -implicitDefEqProofs only [go_sem, vc2_blk, h]); repeat ((first | (with_reducible refine leK2_refl ?_) | (with_reducible refine ar_i64 (by omega) ?_) | (with_reducible refine And.intro (by omega) ?_)); (try simp -implicitDefEqProofs only [go_sem, vc2_blk, h])))
    rw [show decide ((n.l.length : Int) ≤ i) = true from by have := GNet.there_no hi; simp at h ⊢; omega]
    ((try (with_reducible refine leK2_refl ?_)); (try simp -implicitDefEqProofs only [go_sem, vc2_blk]); repeat ((first | (with_reducible refine leK2_refl ?_) | (with_reducible refine ar_i64 (by omega) ?_) | (with_reducible refine And.intro (by omega) ?_)); (try simp -implicitDefEqProofs only [go_sem, vc2_blk])))
    exact ⟨_, rfl, le2_of [(0, .to 1)] (by simp -implicitDefEqProofs only [go_sem, vc2_blk])⟩
  · ((try (with_reducible refine leK2_refl ?_)); (try simp -implicitDefEqProofs only [go_sem, vc2_blk, h]); repeat ((first | (with_reducible refine leK2_refl ?_) | (with_reducible refine ar_i64 (by omega) ?_) | (with_reducible refine And.intro (by omega) ?_)); (try simp -implicitDefEqProofs only [go_sem, vc2_blk, h])))
    exact ⟨_, rfl, le2_of [(0, .to 1)] (by simp -implicitDefEqProofs only [go_sem, vc2_blk])⟩

theorem Take_no (n : GNet) (i : Int) (hi : n.there i = false) (hn : n.ok) : Con2 Try.prog 10 [n.dv, .v (.int .i64 i)] (· = n.takeN) := by
  have hb := hn.1
  refine con2_of Ty.mixed Try.func10 rfl (by kernel_rfl) (by kernel_rfl) rfl [.cell 4 33, .cell 5 25, .tmp 6] rfl ?_
  ((try (with_reducible refine leK2_refl ?_)); simp -implicitDefEqProofs only [go_sem, vc2_blk]; repeat ((with_reducible refine leK2_refl ?_); simp -implicitDefEqProofs only [go_sem, vc2_blk]))
  refine CallS.inline Ty.mixed Try.func25 rfl (by kernel_rfl) (by kernel_rfl) rfl [.cell 6 25, .tmp 7] rfl (Vc2.of ?_)
  ((try (with_reducible refine leK2_refl ?_)); simp -implicitDefEqProofs only [go_sem, vc2_blk]; repeat ((with_reducible refine leK2_refl ?_); simp -implicitDefEqProofs only [go_sem, vc2_blk]))
  refine CallS.eq (fresh_con n hn) (by simp -implicitDefEqProofs only [go_sem, vc2_blk]) (.inl (by simp -implicitDefEqProofs only [go_sem, vc2_blk])) ?_
  ((try (with_reducible refine leK2_refl ?_)); (try simp -implicitDefEqProofs only [go_sem, vc2_blk]); repeat ((first | (with_reducible refine leK2_refl ?_) | (with_reducible refine ar_i64 (by omega) ?_) | (with_reducible refine And.intro (by omega) ?_)); (try simp -implicitDefEqProofs only [go_sem, vc2_blk])))
  refine guard2 (fun h => ?_) (fun h => ?_)
  · ((try (with_reducible refine leK2_refl ?_)); (try simp -implicitDefEqProofs only [go_sem, vc2_blk, h]); repeat ((first | (with_reducible refine leK2_refl ?_) | (with_reducible refine ar_i64 (by omega) ?_) | (with_reducible refine And.intro (by omega) ?_)); (try simp -implicitDefEqProofs only [go_sem, vc2_blk, h])))
    rw [show decide ((n.l.length : Int) ≤ i) = true from by have := GNet.there_no hi; simp at h ⊢; omega]
    ((try (with_reducible refine leK2_refl ?_)); (try simp -implicitDefEqProofs only [go_sem, vc2_blk]); repeat ((first | (with_reducible refine leK2_refl ?_) | (with_reducible refine ar_i64 (by omega) ?_) | (with_reducible refine And.intro (by omega) ?_)); (try simp -implicitDefEqProofs only [go_sem, vc2_blk])))
    refine .inr (.inr (.inl ⟨[(0, false), (1, false), (2, false), (3, true), (4, false), (5, false)], [4], by kernel_rfl, ?_⟩))
    ((try (with_reducible refine leK2_refl ?_)); (try simp -implicitDefEqProofs only [go_sem, vc2_blk]); repeat ((first | (with_reducible refine leK2_refl ?_) | (with_reducible refine ar_i64 (by omega) ?_) | (with_reducible refine And.intro (by omega) ?_)); (try simp -implicitDefEqProofs only [go_sem, vc2_blk])))
    exact ⟨_, rfl, le2_of [(0, .to 2)] (by simp -implicitDefEqProofs only [go_sem, vc2_blk])⟩
  · ((try (with_reducible refine leK2_refl ?_)); (try simp -implicitDefEqProofs only [go_sem, vc2_blk, h]); repeat ((first | (with_reducible refine leK2_refl ?_) | (with_reducible refine ar_i64 (by omega) ?_) | (with_reducible refine And.intro (by omega) ?_)); (try simp -implicitDefEqProofs only [go_sem, vc2_blk, h])))
    refine .inr (.inr (.inl ⟨[(0, false), (1, false), (2, false), (3, true), (4, false), (5, false)], [4], by kernel_rfl, ?_⟩))
    ((try (with_reducible refine leK2_refl ?_)); (try simp -implicitDefEqProofs only [go_sem, vc2_blk]); repeat ((first | (with_reducible refine leK2_refl ?_) | (with_reducible refine ar_i64 (by omega) ?_) | (with_reducible refine And.intro (by omega) ?_)); (try simp -implicitDefEqProofs only [go_sem, vc2_blk])))
    exact ⟨_, rfl, le2_of [(0, .to 2)] (by simp -implicitDefEqProofs only [go_sem, vc2_blk])⟩
end Go.Proofs.Ytgpmgnbjpfggmaa

/-
  Net: the chapter's examples; whether a net is small.
-/
set_option linter.unusedSimpArgs false
set_option linter.unusedVariables false
namespace Go.Eng
def nP1 : GPar := ⟨1, false, [97, 98]⟩
def nP2 : GPar := ⟨2, false, [99]⟩
def nP3 : GPar := ⟨3, false, [100]⟩
def nPb : GPar := ⟨2, true, [98]⟩
end Go.Eng
namespace Go.Proofs.Ytgpmgnbjpfggmaa
open Go.Eng
attribute [local go_sem] GPar.enc bytesD GNet.dv GNet.res plR GNet.takeR GNet.takeN GNet.resE GNet.takeF encBD
theorem ok2 {r : Int} {a b : GPar} {k : Int} (ha : a.b.length ≤ 1000) (hb : b.b.length ≤ 1000) : (⟨r, [a, b], k⟩ : GNet).ok := ⟨by simp, by simp [ha, hb]⟩

theorem aw1 : Con2 Try.prog 8 [(⟨2, [], 0⟩ : GNet).dv, .v (.int .u8 (1 : UInt8).toNat), bytesD [97, 98]] (· = (⟨2, [nP1], 0⟩ : GNet).res) := Send_con ⟨2, [], 0⟩ 1 [97, 98] ⟨by simp, by simp⟩ (by simp)
theorem aw2 : Con2 Try.prog 8 [(⟨2, [nP1], 0⟩ : GNet).dv, .v (.int .u8 (2 : UInt8).toNat), bytesD [99]] (· = (⟨2, [nP1, nP2], 0⟩ : GNet).res) := Send_con ⟨2, [nP1], 0⟩ 2 [99] ⟨by simp, by simp [nP1]⟩ (by simp)
theorem aw3 : Con2 Try.prog 8 [(⟨2, [nP1, nP2], 0⟩ : GNet).dv, .v (.int .u8 (3 : UInt8).toNat), bytesD [100]] (· = (⟨2, [nP1, nP2], 1⟩ : GNet).res) := Send_con ⟨2, [nP1, nP2], 0⟩ 3 [100] (ok2 (by decide) (by decide)) (by simp)
theorem aw4 : Con2 Try.prog 9 [(⟨2, [nP1, nP2], 1⟩ : GNet).dv, .v (.int .i64 (0 : Nat))] (· = (⟨2, [nP1, nP2], 2⟩ : GNet).resE 0) := Double_ok ⟨2, [nP1, nP2], 1⟩ 0 (by decide) (ok2 (by decide) (by decide))
theorem aw5 : Con2 Try.prog 16 [(⟨2, [nP1, nP2], 1⟩ : GNet).dv, .v (.int .i64 (0 : Nat)), .v (.int .i64 (1 : Nat))] (· = (⟨2, [nP2, nP1], 1⟩ : GNet).resE 0) := Move_ok ⟨2, [nP1, nP2], 1⟩ 0 1 (by decide) (by decide) (ok2 (by decide) (by decide))
theorem aw6 : Con2 Try.prog 14 [(⟨2, [nP2, nP1], 1⟩ : GNet).dv, .v (.int .i64 (0 : Nat)), .v (.int .i64 (0 : Nat)), .v (.int .u32 (1 : Nat))] (· = (⟨2, [nPb, nP1], 1⟩ : GNet).resE 0) := by
  have h := Bend_yes ⟨2, [nP2, nP1], 1⟩ 0 0 1 (by decide) (ok2 (by decide) (by decide)) (by decide) (by decide) rfl (by decide)
  rw [show bendNet ⟨2, [nP2, nP1], 1⟩ 0 0 1 (by decide) = ⟨2, [nPb, nP1], 1⟩ from by decide] at h
  exact h
theorem aw7 : Con2 Try.prog 14 [(⟨2, [nPb, nP1], 1⟩ : GNet).dv, .v (.int .i64 (0 : Nat)), .v (.int .i64 (0 : Nat)), .v (.int .u32 (1 : Nat))] (· = (⟨2, [nPb, nP1], 1⟩ : GNet).resE 2) :=
  Bend_bad ⟨2, [nPb, nP1], 1⟩ 0 0 1 (by decide) (ok2 (by decide) (by decide)) (.inl rfl)
theorem aw8 : Con2 Try.prog 10 [(⟨2, [nP2, nP1], 1⟩ : GNet).dv, .v (.int .i64 (1 : Nat))] (· = GNet.takeF nP1 ⟨2, [nP2], 1⟩ 0) := Take_ok ⟨2, [nP2, nP1], 1⟩ 1 (by decide) (ok2 (by decide) (by decide))
theorem aw9 : Con2 Try.prog 18 [(⟨2, [nP2, nP1], 1⟩ : GNet).dv, .v (.int .i64 5)] (· = (⟨2, [nP2, nP1], 1⟩ : GNet).resE 2) := Lose_no ⟨2, [nP2, nP1], 1⟩ 5 rfl (ok2 (by decide) (by decide))
theorem aw10 : Con2 Try.prog 14 [(⟨2, [nP2, nP1], 1⟩ : GNet).dv, .v (.int .i64 (0 : Nat)), .v (.int .i64 (8 : Nat)), .v (.int .u32 (1 : Nat))] (· = (⟨2, [nP2, nP1], 1⟩ : GNet).resE 2) :=
  Bend_none ⟨2, [nP2, nP1], 1⟩ 0 8 1 (by decide) (ok2 (by decide) (by decide)) (by decide) (by decide) rfl (by decide)
attribute [local go_sem] nP1 nP2 nP3 nPb

theorem nawake_con : Con2 Try.prog 7 [] (· = plR (.v (.bool true))) := by
  refine con2_of Ty.mixed Try.func7 rfl (by kernel_rfl) (by kernel_rfl) rfl [.tmp 0] rfl ?_
  ((try (with_reducible refine leK2_refl ?_)); simp -implicitDefEqProofs only [go_sem, vc2_blk]; repeat ((with_reducible refine leK2_refl ?_); simp -implicitDefEqProofs only [go_sem, vc2_blk]))
  ((try (with_reducible refine leK2_refl ?_)); (try simp -implicitDefEqProofs only [go_sem, vc2_blk, Int.cast_ofNat_Int, UInt8.reduceToNat]); repeat ((first | (with_reducible refine leK2_refl ?_) | (with_reducible refine ar_i64 (by omega) ?_) | (with_reducible refine And.intro (by omega) ?_)); (try simp -implicitDefEqProofs only [go_sem, vc2_blk, Int.cast_ofNat_Int, UInt8.reduceToNat])))
  refine CallS.eqW aw1 (by simp -implicitDefEqProofs only [go_sem, vc2_blk, Int.cast_ofNat_Int, UInt8.reduceToNat]) (.inl (by simp -implicitDefEqProofs only [go_sem, vc2_blk])) ?_
  ((try (with_reducible refine leK2_refl ?_)); (try simp -implicitDefEqProofs only [go_sem, vc2_blk, Int.cast_ofNat_Int, UInt8.reduceToNat]); repeat ((first | (with_reducible refine leK2_refl ?_) | (with_reducible refine ar_i64 (by omega) ?_) | (with_reducible refine And.intro (by omega) ?_)); (try simp -implicitDefEqProofs only [go_sem, vc2_blk, Int.cast_ofNat_Int, UInt8.reduceToNat])))
  refine CallS.eqW aw2 (by simp -implicitDefEqProofs only [go_sem, vc2_blk, Int.cast_ofNat_Int, UInt8.reduceToNat]) (.inl (by simp -implicitDefEqProofs only [go_sem, vc2_blk])) ?_
  ((try (with_reducible refine leK2_refl ?_)); (try simp -implicitDefEqProofs only [go_sem, vc2_blk, Int.cast_ofNat_Int, UInt8.reduceToNat]); repeat ((first | (with_reducible refine leK2_refl ?_) | (with_reducible refine ar_i64 (by omega) ?_) | (with_reducible refine And.intro (by omega) ?_)); (try simp -implicitDefEqProofs only [go_sem, vc2_blk, Int.cast_ofNat_Int, UInt8.reduceToNat])))
  refine CallS.eqW aw3 (by simp -implicitDefEqProofs only [go_sem, vc2_blk, Int.cast_ofNat_Int, UInt8.reduceToNat]) (.inl (by simp -implicitDefEqProofs only [go_sem, vc2_blk])) ?_
  ((try (with_reducible refine leK2_refl ?_)); (try simp -implicitDefEqProofs only [go_sem, vc2_blk, Int.cast_ofNat_Int, UInt8.reduceToNat]); repeat ((first | (with_reducible refine leK2_refl ?_) | (with_reducible refine ar_i64 (by omega) ?_) | (with_reducible refine And.intro (by omega) ?_)); (try simp -implicitDefEqProofs only [go_sem, vc2_blk, Int.cast_ofNat_Int, UInt8.reduceToNat])))
  refine CallS.eqW aw4 (by simp -implicitDefEqProofs only [go_sem, vc2_blk, Int.cast_ofNat_Int, UInt8.reduceToNat]) (.inl (by simp -implicitDefEqProofs only [go_sem, vc2_blk])) ?_
  ((try (with_reducible refine leK2_refl ?_)); (try simp -implicitDefEqProofs only [go_sem, vc2_blk, Int.cast_ofNat_Int, UInt8.reduceToNat]); repeat ((first | (with_reducible refine leK2_refl ?_) | (with_reducible refine ar_i64 (by omega) ?_) | (with_reducible refine And.intro (by omega) ?_)); (try simp -implicitDefEqProofs only [go_sem, vc2_blk, Int.cast_ofNat_Int, UInt8.reduceToNat])))
  refine CallS.eqW aw5 (by simp -implicitDefEqProofs only [go_sem, vc2_blk, Int.cast_ofNat_Int, UInt8.reduceToNat]) (.inl (by simp -implicitDefEqProofs only [go_sem, vc2_blk])) ?_
  ((try (with_reducible refine leK2_refl ?_)); (try simp -implicitDefEqProofs only [go_sem, vc2_blk, Int.cast_ofNat_Int, UInt8.reduceToNat]); repeat ((first | (with_reducible refine leK2_refl ?_) | (with_reducible refine ar_i64 (by omega) ?_) | (with_reducible refine And.intro (by omega) ?_)); (try simp -implicitDefEqProofs only [go_sem, vc2_blk, Int.cast_ofNat_Int, UInt8.reduceToNat])))
  refine CallS.eqW aw6 (by simp -implicitDefEqProofs only [go_sem, vc2_blk, Int.cast_ofNat_Int, UInt8.reduceToNat]) (.inl (by simp -implicitDefEqProofs only [go_sem, vc2_blk])) ?_
  ((try (with_reducible refine leK2_refl ?_)); (try simp -implicitDefEqProofs only [go_sem, vc2_blk, Int.cast_ofNat_Int, UInt8.reduceToNat]); repeat ((first | (with_reducible refine leK2_refl ?_) | (with_reducible refine ar_i64 (by omega) ?_) | (with_reducible refine And.intro (by omega) ?_)); (try simp -implicitDefEqProofs only [go_sem, vc2_blk, Int.cast_ofNat_Int, UInt8.reduceToNat])))
  refine CallS.eqW aw7 (by simp -implicitDefEqProofs only [go_sem, vc2_blk, Int.cast_ofNat_Int, UInt8.reduceToNat]) (.inl (by simp -implicitDefEqProofs only [go_sem, vc2_blk])) ?_
  ((try (with_reducible refine leK2_refl ?_)); (try simp -implicitDefEqProofs only [go_sem, vc2_blk, Int.cast_ofNat_Int, UInt8.reduceToNat]); repeat ((first | (with_reducible refine leK2_refl ?_) | (with_reducible refine ar_i64 (by omega) ?_) | (with_reducible refine And.intro (by omega) ?_)); (try simp -implicitDefEqProofs only [go_sem, vc2_blk, Int.cast_ofNat_Int, UInt8.reduceToNat])))
  refine CallS.eqW aw8 (by simp -implicitDefEqProofs only [go_sem, vc2_blk, Int.cast_ofNat_Int, UInt8.reduceToNat]) (.inl (by simp -implicitDefEqProofs only [go_sem, vc2_blk])) ?_
  ((try (with_reducible refine leK2_refl ?_)); (try simp -implicitDefEqProofs only [go_sem, vc2_blk, Int.cast_ofNat_Int, UInt8.reduceToNat]); repeat ((first | (with_reducible refine leK2_refl ?_) | (with_reducible refine ar_i64 (by omega) ?_) | (with_reducible refine And.intro (by omega) ?_)); (try simp -implicitDefEqProofs only [go_sem, vc2_blk, Int.cast_ofNat_Int, UInt8.reduceToNat])))
  refine CallS.eqW aw9 (by simp -implicitDefEqProofs only [go_sem, vc2_blk, Int.cast_ofNat_Int, UInt8.reduceToNat]) (.inl (by simp -implicitDefEqProofs only [go_sem, vc2_blk])) ?_
  ((try (with_reducible refine leK2_refl ?_)); (try simp -implicitDefEqProofs only [go_sem, vc2_blk, Int.cast_ofNat_Int, UInt8.reduceToNat]); repeat ((first | (with_reducible refine leK2_refl ?_) | (with_reducible refine ar_i64 (by omega) ?_) | (with_reducible refine And.intro (by omega) ?_)); (try simp -implicitDefEqProofs only [go_sem, vc2_blk, Int.cast_ofNat_Int, UInt8.reduceToNat])))
  refine CallS.eqW aw10 (by simp -implicitDefEqProofs only [go_sem, vc2_blk, Int.cast_ofNat_Int, UInt8.reduceToNat]) (.inl (by simp -implicitDefEqProofs only [go_sem, vc2_blk])) ?_
  ((try (with_reducible refine leK2_refl ?_)); (try simp -implicitDefEqProofs only [go_sem, vc2_blk, Int.cast_ofNat_Int, UInt8.reduceToNat]); repeat ((first | (with_reducible refine leK2_refl ?_) | (with_reducible refine ar_i64 (by omega) ?_) | (with_reducible refine And.intro (by omega) ?_)); (try simp -implicitDefEqProofs only [go_sem, vc2_blk, Int.cast_ofNat_Int, UInt8.reduceToNat])))
  refine ⟨by simp -implicitDefEqProofs only [go_sem, vc2_blk], by simp -implicitDefEqProofs only [go_sem, vc2_blk], [99], rfl, ?_⟩
  ((try (with_reducible refine leK2_refl ?_)); (try simp -implicitDefEqProofs only [go_sem, vc2_blk, Int.cast_ofNat_Int, UInt8.reduceToNat, mk_str, decide_true, eq_self]); repeat ((first | (with_reducible refine leK2_refl ?_) | (with_reducible refine ar_i64 (by omega) ?_) | (with_reducible refine And.intro (by omega) ?_)); (try simp -implicitDefEqProofs only [go_sem, vc2_blk, Int.cast_ofNat_Int, UInt8.reduceToNat, mk_str, decide_true, eq_self])))
  refine ⟨by simp -implicitDefEqProofs only [go_sem, vc2_blk], by simp -implicitDefEqProofs only [go_sem, vc2_blk], [98], rfl, ?_⟩
  ((try (with_reducible refine leK2_refl ?_)); (try simp -implicitDefEqProofs only [go_sem, vc2_blk, Int.cast_ofNat_Int, UInt8.reduceToNat, mk_str, decide_true, eq_self]); repeat ((first | (with_reducible refine leK2_refl ?_) | (with_reducible refine ar_i64 (by omega) ?_) | (with_reducible refine And.intro (by omega) ?_)); (try simp -implicitDefEqProofs only [go_sem, vc2_blk, Int.cast_ofNat_Int, UInt8.reduceToNat, mk_str, decide_true, eq_self])))
  refine ⟨by simp -implicitDefEqProofs only [go_sem, vc2_blk], by simp -implicitDefEqProofs only [go_sem, vc2_blk], [97, 98], rfl, ?_⟩
  ((try (with_reducible refine leK2_refl ?_)); (try simp -implicitDefEqProofs only [go_sem, vc2_blk, Int.cast_ofNat_Int, UInt8.reduceToNat, mk_str, decide_true, eq_self]); repeat ((first | (with_reducible refine leK2_refl ?_) | (with_reducible refine ar_i64 (by omega) ?_) | (with_reducible refine And.intro (by omega) ?_)); (try simp -implicitDefEqProofs only [go_sem, vc2_blk, Int.cast_ofNat_Int, UInt8.reduceToNat, mk_str, decide_true, eq_self])))
  exact ⟨_, rfl, le2_of [] (by simp -implicitDefEqProofs only [go_sem, vc2_blk])⟩
end Go.Proofs.Ytgpmgnbjpfggmaa

/-
  Net: the steps at any place, as what nobody writes; whether nets are small, and the same.
-/
set_option linter.unusedSimpArgs false
set_option linter.unusedVariables false
namespace Go.Eng
def parZ : GPar := ⟨0, false, []⟩
def GNet.tkP (n : GNet) (i : Int) : GPar := if n.there i = true then n.l.getD i.toNat parZ else parZ
def GNet.tkN (n : GNet) (i : Int) : GNet := if n.there i = true then n.del i.toNat else n
def GNet.tkE (n : GNet) (i : Int) : Int := if n.there i = true then 0 else 2
def GNet.dbN (n : GNet) (i : Int) : GNet := if n.there i = true then n.put (n.l.getD i.toNat parZ) else n
def GNet.bdY (n : GNet) (i f : Int) (t : Nat) : Bool := n.there i && !(n.l.getD i.toNat parZ).bent && decide (0 ≤ f) && (bendN f.toNat t (n.l.getD i.toNat parZ).b 32).2
def GNet.bdN (n : GNet) (i f : Int) (t : Nat) : GNet :=
  if n.bdY i f t = true then { n with l := n.l.set i.toNat ⟨(n.l.getD i.toNat parZ).to, true, (bendN f.toNat t (n.l.getD i.toNat parZ).b 32).1⟩ } else n
def GNet.bdE (n : GNet) (i f : Int) (t : Nat) : Int := if n.bdY i f t = true then 0 else 2
def GNet.mvY (n : GNet) (i j : Int) : Bool := n.there i && n.there j
def GNet.mvN (n : GNet) (i j : Int) : GNet := if n.mvY i j = true then n.mov i.toNat j.toNat (n.l.getD i.toNat parZ) else n
def GNet.mvE (n : GNet) (i j : Int) : Int := if n.mvY i j = true then 0 else 2
def fewB (n : GNet) (most : Int) : Bool := n.l.all (fun p => decide (p.b.length ≤ 100)) && decide ((n.l.length : Int) ≤ most)
theorem fewB_ok {n : GNet} {most : Int} (h : fewB n most = true) (hm : most ≤ 900) : n.ok := by
  simp only [fewB, Bool.and_eq_true, List.all_eq_true, decide_eq_true_eq] at h
  exact ⟨by omega, fun p hp => Nat.le_trans (h.1 p hp) (by decide)⟩
theorem fewB_len {n : GNet} {most : Int} (h : fewB n most = true) : (n.l.length : Int) ≤ most ∧ ∀ p ∈ n.l, p.b.length ≤ 100 := by
  simp only [fewB, Bool.and_eq_true, List.all_eq_true, decide_eq_true_eq] at h
  exact ⟨h.2, h.1⟩
theorem resE_emb {n : GNet} {e : Int} : embD (n.resE e).H (n.resE e).d = some (.tup [n.dv, .v (.int .i64 e)]) := by
  simp [GNet.resE, GNet.dv, embD, embDs, embC, lk, rfD, take_map_len]
theorem takeF_emb {p : GPar} {n : GNet} {e : Int} : embD (GNet.takeF p n e).H (GNet.takeF p n e).d = some (.tup [.agg p.enc, n.dv, .v (.int .i64 e)]) := by
  simp [GNet.takeF, GPar.enc, bytesD, GNet.dv, embD, embDs, embC, lk, rfD, take_map_len]
theorem res_emb {n : GNet} : embD n.res.H n.res.d = some n.dv := by
  simp [GNet.res, GNet.dv, embD, embDs, embC, lk, rfD, take_map_len]
theorem takeR_emb {n m : GNet} {p : GPar} : embD (n.takeR p m).H (n.takeR p m).d = some (.tup [.agg p.enc, m.dv, .v (.int .i64 0)]) := by
  simp [GNet.takeR, GPar.enc, bytesD, GNet.dv, embD, embDs, embC, lk, rfD, take_map_len]
theorem takeN_emb {n : GNet} : embD n.takeN.H n.takeN.d = some (.tup [.agg [.v (.int .u8 0), .v (.bool false), .v (.slice none 0 0)], n.dv, .v (.int .i64 2)]) := by
  simp [GNet.takeN, GNet.dv, embD, embDs, embC, lk, rfD, take_map_len]
end Go.Eng
namespace Go.Proofs.Ytgpmgnbjpfggmaa
open Go.Eng
attribute [local go_sem] GPar.enc bytesD GNet.dv GNet.res plR GNet.takeR GNet.takeN GNet.resE GNet.takeF

def takD (n : GNet) (i : Int) : DV := .tup [.agg (n.tkP i).enc, (n.tkN i).dv, .v (.int .i64 (n.tkE i))]
theorem takZ {f : FuncId} {args : List DV} {n : GNet} (h : Con2 Try.prog f args (· = n.takeN)) : Con2 Try.prog f args (· = plR (.tup [.agg parZ.enc, n.dv, .v (.int .i64 2)])) := by
  refine (h.emb takeN_emb rfl).le (le2_of [] ?_)
  ((try (with_reducible refine leK2_refl ?_)); simp -implicitDefEqProofs only [go_sem, vc2_blk, parZ, List.map_nil, eq_self]; repeat ((with_reducible refine leK2_refl ?_); simp -implicitDefEqProofs only [go_sem, vc2_blk, parZ, List.map_nil, eq_self]))
  rfl
theorem Take_any (n : GNet) (i : Int) (hn : n.ok) : Con2 Try.prog 10 [n.dv, .v (.int .i64 i)] (· = plR (takD n i)) := by
  unfold takD GNet.tkP GNet.tkN GNet.tkE
  cases h : n.there i with
  | true =>
    obtain ⟨k, rfl, hk⟩ := GNet.there_get h
    simp only [if_true, Int.toNat_natCast, getD_at hk]
    exact (Take_ok n k hk hn).emb takeF_emb rfl
  | false => exact takZ (Take_no n i h hn)
theorem rTake_any (n : GNet) (i : Int) (hn : n.ok) : Con2 Try.prog 12 [n.dv, .v (.int .i64 i)] (· = plR (takD n i)) := by
  unfold takD GNet.tkP GNet.tkN GNet.tkE
  cases h : n.there i with
  | true =>
    obtain ⟨k, rfl, hk⟩ := GNet.there_get h
    simp only [if_true, Int.toNat_natCast, getD_at hk]
    exact (rTake_ok n k hk hn).emb (takeR_emb (n := n)) rfl
  | false => exact takZ (rTake_no n i h hn)
def losD (n : GNet) (i : Int) : DV := .tup [(n.tkN i).dv, .v (.int .i64 (n.tkE i))]
theorem Lose_any (n : GNet) (i : Int) (hn : n.ok) : Con2 Try.prog 18 [n.dv, .v (.int .i64 i)] (· = plR (losD n i)) := by
  unfold losD GNet.tkN GNet.tkE
  cases h : n.there i with
  | true =>
    obtain ⟨k, rfl, hk⟩ := GNet.there_get h
    exact (Lose_ok n k hk hn).emb resE_emb rfl
  | false => exact (Lose_no n i h hn).emb resE_emb rfl
def dblD (n : GNet) (i : Int) : DV := .tup [(n.dbN i).dv, .v (.int .i64 (n.tkE i))]
theorem Double_any (n : GNet) (i : Int) (hn : n.ok) : Con2 Try.prog 9 [n.dv, .v (.int .i64 i)] (· = plR (dblD n i)) := by
  unfold dblD GNet.dbN GNet.tkE
  cases h : n.there i with
  | true =>
    obtain ⟨k, rfl, hk⟩ := GNet.there_get h
    simp only [if_true, Int.toNat_natCast, getD_at hk]
    exact (Double_ok n k hk hn).emb resE_emb rfl
  | false => exact (Double_no n i h hn).emb resE_emb rfl
theorem rDouble_any (n : GNet) (i : Int) (hn : n.ok) : Con2 Try.prog 13 [n.dv, .v (.int .i64 i)] (· = plR (dblD n i)) := by
  unfold dblD GNet.dbN GNet.tkE
  cases h : n.there i with
  | true =>
    obtain ⟨k, rfl, hk⟩ := GNet.there_get h
    simp only [if_true, Int.toNat_natCast, getD_at hk]
    exact (rDouble_ok n k hk hn).emb resE_emb rfl
  | false => exact (rDouble_no n i h hn).emb resE_emb rfl
def movD (n : GNet) (i j : Int) : DV := .tup [(n.mvN i j).dv, .v (.int .i64 (n.mvE i j))]
theorem Move_any (n : GNet) (i j : Int) (hn : n.ok) : Con2 Try.prog 16 [n.dv, .v (.int .i64 i), .v (.int .i64 j)] (· = plR (movD n i j)) := by
  unfold movD GNet.mvN GNet.mvE GNet.mvY
  cases h : n.there i with
  | false => exact (Move_no n i j (.inl h) hn).emb resE_emb rfl
  | true =>
    cases h2 : n.there j with
    | false => exact (Move_no n i j (.inr h2) hn).emb resE_emb rfl
    | true =>
      obtain ⟨k, rfl, hk⟩ := GNet.there_get h
      obtain ⟨m, rfl, hm⟩ := GNet.there_get h2
      simp only [Bool.and_self, if_true, Int.toNat_natCast, getD_at hk]
      exact (Move_ok n k m hk hm hn).emb resE_emb rfl
theorem rMove_any (n : GNet) (i j : Int) (hn : n.ok) : Con2 Try.prog 17 [n.dv, .v (.int .i64 i), .v (.int .i64 j)] (· = plR (movD n i j)) := by
  unfold movD GNet.mvN GNet.mvE GNet.mvY
  cases h : n.there i with
  | false => exact (rMove_no n i j (.inl h) hn).emb resE_emb rfl
  | true =>
    cases h2 : n.there j with
    | false => exact (rMove_no n i j (.inr h2) hn).emb resE_emb rfl
    | true =>
      obtain ⟨k, rfl, hk⟩ := GNet.there_get h
      obtain ⟨m, rfl, hm⟩ := GNet.there_get h2
      simp only [Bool.and_self, if_true, Int.toNat_natCast, getD_at hk]
      exact (rMove_ok n k m hk hm hn).emb resE_emb rfl
def bndD (n : GNet) (i f : Int) (t : Nat) : DV := .tup [(n.bdN i f t).dv, .v (.int .i64 (n.bdE i f t))]
theorem Bend_any (n : GNet) (i f : Int) (t : Nat) (hn : n.ok) (hf : f ≤ 9223372036854775807) (ht : t < 4294967296) : Con2 Try.prog 14 [n.dv, .v (.int .i64 i), .v (.int .i64 f), .v (.int .u32 t)] (· = plR (bndD n i f t)) := by
  unfold bndD GNet.bdN GNet.bdE GNet.bdY
  cases h : n.there i with
  | false => exact (Bend_no n i f t h hn).emb resE_emb rfl
  | true =>
    obtain ⟨k, rfl, hk⟩ := GNet.there_get h
    simp only [Bool.true_and, Int.toNat_natCast, getD_at hk]
    cases hb : n.l[k].bent with
    | true => exact (Bend_bad n k f t hk hn (.inl hb)).emb resE_emb rfl
    | false =>
      by_cases hf0 : 0 ≤ f
      · obtain ⟨m, rfl⟩ := Int.eq_ofNat_of_zero_le hf0
        simp only [Bool.not_false, Bool.true_and, Int.toNat_natCast, hf0, decide_true]
        cases hy : (bendN m t n.l[k].b 32).2 with
        | true => exact (Bend_yes n k m t hk hn (by omega) ht hb hy).emb resE_emb rfl
        | false => exact (Bend_none n k m t hk hn (by omega) ht hb hy).emb resE_emb rfl
      · simp only [hf0, decide_false, Bool.and_false, Bool.false_and]
        exact (Bend_bad n k f t hk hn (.inr (by omega))).emb resE_emb rfl
theorem rBend_any (n : GNet) (i f : Int) (t : Nat) (hn : n.ok) (hf : f ≤ 9223372036854775807) (ht : t < 4294967296) : Con2 Try.prog 15 [n.dv, .v (.int .i64 i), .v (.int .i64 f), .v (.int .u32 t)] (· = plR (bndD n i f t)) := by
  unfold bndD GNet.bdN GNet.bdE GNet.bdY
  cases h : n.there i with
  | false => exact (rBend_no n i f t h hn).emb resE_emb rfl
  | true =>
    obtain ⟨k, rfl, hk⟩ := GNet.there_get h
    simp only [Bool.true_and, Int.toNat_natCast, getD_at hk]
    cases hb : n.l[k].bent with
    | true => exact (rBend_bad n k f t hk hn (.inl hb)).emb resE_emb rfl
    | false =>
      by_cases hf0 : 0 ≤ f
      · obtain ⟨m, rfl⟩ := Int.eq_ofNat_of_zero_le hf0
        simp only [Bool.not_false, Bool.true_and, Int.toNat_natCast, hf0, decide_true]
        cases hy : (bendN m t n.l[k].b 32).2 with
        | true => exact (rBend_yes n k m t hk hn (by omega) ht hb hy).emb resE_emb rfl
        | false => exact (rBend_none n k m t hk hn (by omega) ht hb hy).emb resE_emb rfl
      · simp only [hf0, decide_false, Bool.and_false, Bool.false_and]
        exact (rBend_bad n k f t hk hn (.inr (by omega))).emb resE_emb rfl

theorem few_con (n : GNet) (most : Int) (hl : n.l.length ≤ 9223372036854775807) : Con2 Try.prog 11 [n.dv, .v (.int .i64 most)] (· = plR (.v (.bool (fewB n most)))) := by
  refine con2_of Ty.mixed Try.func11 rfl (by kernel_rfl) (by kernel_rfl) rfl [.tmp 4] rfl ?_
  ((try (with_reducible refine leK2_refl ?_)); simp -implicitDefEqProofs only [go_sem, vc2_blk]; repeat ((with_reducible refine leK2_refl ?_); simp -implicitDefEqProofs only [go_sem, vc2_blk]))
  refine vc2_rangeA n.l.length (fun k => [(6, .unk)]) (fun _ => []) (fun k => []) 0 (fun k => ∀ p ∈ n.l.take k, p.b.length ≤ 100) (le2_of [] ?_) (by simp) (fun g k => by simp -implicitDefEqProofs only [go_sem, vc2_blk]) (by omega) (fun g => by simp -implicitDefEqProofs only [go_sem, vc2_blk]) (fun k hk hF => ?_) (fun hF => ?_)
  · ((try (with_reducible refine leK2_refl ?_)); simp -implicitDefEqProofs only [go_sem, vc2_blk]; repeat ((with_reducible refine leK2_refl ?_); simp -implicitDefEqProofs only [go_sem, vc2_blk]))
    first | rfl | exact ⟨rfl, rfl⟩
  · ((try (with_reducible refine leK2_refl ?_)); (try simp -implicitDefEqProofs only [go_sem, vc2_blk, mapE_get hk]); repeat ((first | (with_reducible refine leK2_refl ?_) | (with_reducible refine ar_i64 (by omega) ?_) | (with_reducible refine And.intro (by omega) ?_)); (try simp -implicitDefEqProofs only [go_sem, vc2_blk, mapE_get hk])))
    refine cond2_dec (fun h => ?_) (fun h => ?_)
    · ((try (with_reducible refine leK2_refl ?_)); (try simp -implicitDefEqProofs only [go_sem, vc2_blk]); repeat ((first | (with_reducible refine leK2_refl ?_) | (with_reducible refine ar_i64 (by omega) ?_) | (with_reducible refine And.intro (by omega) ?_)); (try simp -implicitDefEqProofs only [go_sem, vc2_blk])))
      have hno : fewB n most = false := by
        simp only [fewB, Bool.and_eq_false_iff]
        exact .inl (by rw [List.all_eq_false]; exact ⟨n.l[k], List.getElem_mem hk, by simp; omega⟩)
      exact ⟨_, rfl, le2_of [] (by simp -implicitDefEqProofs only [go_sem, vc2_blk, hno])⟩
    · ((try (with_reducible refine leK2_refl ?_)); (try simp -implicitDefEqProofs only [go_sem, vc2_blk]); repeat ((first | (with_reducible refine leK2_refl ?_) | (with_reducible refine ar_i64 (by omega) ?_) | (with_reducible refine And.intro (by omega) ?_)); (try simp -implicitDefEqProofs only [go_sem, vc2_blk])))
      refine ⟨k + 1, le2_of [] (by simp -implicitDefEqProofs only [go_sem, vc2_blk]), rfl, fun p hp => ?_⟩
      rw [take_snoc hk] at hp
      rcases List.mem_append.1 hp with hp | hp
      · exact hF p hp
      · simp at hp; subst hp; omega
  · ((try (with_reducible refine leK2_refl ?_)); (try simp -implicitDefEqProofs only [go_sem, vc2_blk]); repeat ((first | (with_reducible refine leK2_refl ?_) | (with_reducible refine ar_i64 (by omega) ?_) | (with_reducible refine And.intro (by omega) ?_)); (try simp -implicitDefEqProofs only [go_sem, vc2_blk])))
    have hall : n.l.all (fun p => decide (p.b.length ≤ 100)) = true := by
      rw [List.all_eq_true]; intro p hp
      have := hF p (by rw [List.take_of_length_le (Nat.le_refl _)]; exact hp)
      simpa using this
    exact ⟨_, rfl, le2_of [] (by simp -implicitDefEqProofs only [go_sem, vc2_blk, fewB, hall])⟩

theorem rSame_con (a b : GNet) (ha : a.ok) : Con2 Try.prog 19 [a.dv, b.dv] (· = plR (.v (.bool (decide (a = b))))) := by
  have hal := ha.1
  have no : a ≠ b → ∀ {ds : DS}, ds.get 0 = .d (.v (.bool false)) → ds.nb = 0 → ∃ r, r = plR (.v (.bool (decide (a = b)))) ∧ leD (resS r.d r.H r.nx) ds := fun h ds hd hn => ⟨_, rfl, by
    refine le2_of [] ?_
    rw [decide_eq_false h]
    refine ⟨hn.symm, Nat.le_refl _, rfl, rfl, ⟨?_, trivial⟩, trivial, trivial⟩
    show wkS _ _ (.d (.v (.bool false))) (ds.get 0)
    rw [hd]; exact rfl⟩
  refine con2_of Ty.mixed Try.func19 rfl (by kernel_rfl) (by kernel_rfl) rfl [.tmp 4] rfl ?_
  ((try (with_reducible refine leK2_refl ?_)); simp -implicitDefEqProofs only [go_sem, vc2_blk]; repeat ((with_reducible refine leK2_refl ?_); simp -implicitDefEqProofs only [go_sem, vc2_blk]))
  by_cases h1 : a.room = b.room
  · have h1' : (a.room != b.room) = false := by simp [h1]
    by_cases h2 : a.lost = b.lost
    · have h2' : (a.lost != b.lost) = false := by simp [h2]
      by_cases h3 : a.l.length = b.l.length
      · have h3' : ((a.l.length : Int) != (b.l.length : Int)) = false := by simp [h3]
        ((try (with_reducible refine leK2_refl ?_)); (try simp -implicitDefEqProofs only [go_sem, vc2_blk, h1', h2', h3']); repeat ((first | (with_reducible refine leK2_refl ?_) | (with_reducible refine ar_i64 (by omega) ?_) | (with_reducible refine And.intro (by omega) ?_)); (try simp -implicitDefEqProofs only [go_sem, vc2_blk, h1', h2', h3'])))
        refine vc2_forA (γ := Nat) (fun i => [(5, .d (.v (.int .i64 (i : Nat))))]) (fun _ => []) (fun _ => []) 0 (fun i => i ≤ a.l.length ∧ a.l.take i = b.l.take i) (fun i => a.l.length - i) 0 (le2_of [] ?_) ⟨by omega, by simp⟩ (fun i hi => ?_)
        · ((try (with_reducible refine leK2_refl ?_)); simp -implicitDefEqProofs only [go_sem, vc2_blk]; repeat ((with_reducible refine leK2_refl ?_); simp -implicitDefEqProofs only [go_sem, vc2_blk]))
          rfl
        · obtain ⟨hi, hF⟩ := hi
          ((try (with_reducible refine leK2_refl ?_)); (try simp -implicitDefEqProofs only [go_sem, vc2_blk]); repeat ((first | (with_reducible refine leK2_refl ?_) | (with_reducible refine ar_i64 (by omega) ?_) | (with_reducible refine And.intro (by omega) ?_)); (try simp -implicitDefEqProofs only [go_sem, vc2_blk])))
          refine cond2_dec (fun h => ?_) (fun h => ?_)
          · have hi1 : i < a.l.length := by omega
            have hi2 : i < b.l.length := by omega
            have hne : a.l[i] ≠ b.l[i] → a ≠ b := fun h e => by subst e; exact h rfl
            ((try (with_reducible refine leK2_refl ?_)); (try simp -implicitDefEqProofs only [go_sem, vc2_blk]); repeat ((first | (with_reducible refine leK2_refl ?_) | (with_reducible refine ar_i64 (by omega) ?_) | (with_reducible refine And.intro (by omega) ?_)); (try simp -implicitDefEqProofs only [go_sem, vc2_blk])))
            refine .inl ⟨[(0, false), (2, false), (6, false), (8, false), (1, false), (7, false), (3, false), (9, false), (4, false), (10, false), (5, false), (11, false), (12, false), (13, false), (14, false), (16, false), (20, false), (22, false), (15, false), (21, false), (17, false), (23, false), (18, false), (24, false), (19, false), (25, false), (26, false), (27, false), (28, false), (29, false), (31, false), (36, false), (38, false), (30, false), (37, false), (32, false), (39, false), (33, false), (40, false), (34, false), (41, false), (35, false), (42, false), (43, false), (44, false)], by kernel_rfl, ?_⟩
            ((try (with_reducible refine leK2_refl ?_)); (try simp -implicitDefEqProofs only [go_sem, vc2_blk, mapE_get hi1, mapE_get hi2]); repeat ((first | (with_reducible refine leK2_refl ?_) | (with_reducible refine ar_i64 (by omega) ?_) | (with_reducible refine And.intro (by omega) ?_)); (try simp -implicitDefEqProofs only [go_sem, vc2_blk, mapE_get hi1, mapE_get hi2])))
            by_cases g1 : a.l[i].to = b.l[i].to
            · have g1' : ((a.l[i].to.toNat : Int) != (b.l[i].to.toNat : Int)) = false := by simp [g1]
              ((try (with_reducible refine leK2_refl ?_)); (try simp -implicitDefEqProofs only [go_sem, vc2_blk, g1', mapE_get hi1, mapE_get hi2]); repeat ((first | (with_reducible refine leK2_refl ?_) | (with_reducible refine ar_i64 (by omega) ?_) | (with_reducible refine And.intro (by omega) ?_)); (try simp -implicitDefEqProofs only [go_sem, vc2_blk, g1', mapE_get hi1, mapE_get hi2])))
              by_cases g2 : a.l[i].bent = b.l[i].bent
              · have g2' : (a.l[i].bent == b.l[i].bent) = true := by simp [g2]
                ((try (with_reducible refine leK2_refl ?_)); (try simp -implicitDefEqProofs only [go_sem, vc2_blk, g2', mapE_get hi1, mapE_get hi2]); repeat ((first | (with_reducible refine leK2_refl ?_) | (with_reducible refine ar_i64 (by omega) ?_) | (with_reducible refine And.intro (by omega) ?_)); (try simp -implicitDefEqProofs only [go_sem, vc2_blk, g2', mapE_get hi1, mapE_get hi2])))
                by_cases g3 : a.l[i].b = b.l[i].b
                · have g3' : decide (a.l[i].b = b.l[i].b) = true := by simp [g3]
                  ((try (with_reducible refine leK2_refl ?_)); (try simp -implicitDefEqProofs only [go_sem, vc2_blk, g3']); repeat ((first | (with_reducible refine leK2_refl ?_) | (with_reducible refine ar_i64 (by omega) ?_) | (with_reducible refine And.intro (by omega) ?_)); (try simp -implicitDefEqProofs only [go_sem, vc2_blk, g3'])))
                  refine ⟨i + 1, le2_of [] (by simp -implicitDefEqProofs only [go_sem, vc2_blk]; rfl), ⟨by omega, ?_⟩, by omega⟩
                  rw [take_snoc hi1, take_snoc hi2, hF]
                  congr 2
                  cases hx : a.l[i]; cases hy : b.l[i]
                  rw [hx, hy] at g1 g2 g3
                  simp only at g1 g2 g3
                  rw [g1, g2, g3]
                · have g3' : decide (a.l[i].b = b.l[i].b) = false := by simp [g3]
                  ((try (with_reducible refine leK2_refl ?_)); (try simp -implicitDefEqProofs only [go_sem, vc2_blk, g3']); repeat ((first | (with_reducible refine leK2_refl ?_) | (with_reducible refine ar_i64 (by omega) ?_) | (with_reducible refine And.intro (by omega) ?_)); (try simp -implicitDefEqProofs only [go_sem, vc2_blk, g3'])))
                  exact no (hne (fun e => g3 (by rw [e]))) rfl rfl
              · have g2' : (a.l[i].bent == b.l[i].bent) = false := by simp [g2]
                ((try (with_reducible refine leK2_refl ?_)); (try simp -implicitDefEqProofs only [go_sem, vc2_blk, g2', mapE_get hi1, mapE_get hi2]); repeat ((first | (with_reducible refine leK2_refl ?_) | (with_reducible refine ar_i64 (by omega) ?_) | (with_reducible refine And.intro (by omega) ?_)); (try simp -implicitDefEqProofs only [go_sem, vc2_blk, g2', mapE_get hi1, mapE_get hi2])))
                exact no (hne (fun e => g2 (by rw [e]))) rfl rfl
            · have g1' : ((a.l[i].to.toNat : Int) != (b.l[i].to.toNat : Int)) = true := by
                simp; exact fun e => g1 (UInt8.toNat_inj.1 (by exact_mod_cast e))
              ((try (with_reducible refine leK2_refl ?_)); (try simp -implicitDefEqProofs only [go_sem, vc2_blk, g1', mapE_get hi1, mapE_get hi2]); repeat ((first | (with_reducible refine leK2_refl ?_) | (with_reducible refine ar_i64 (by omega) ?_) | (with_reducible refine And.intro (by omega) ?_)); (try simp -implicitDefEqProofs only [go_sem, vc2_blk, g1', mapE_get hi1, mapE_get hi2])))
              exact no (hne (fun e => g1 (by rw [e]))) rfl rfl
          · ((try (with_reducible refine leK2_refl ?_)); (try simp -implicitDefEqProofs only [go_sem, vc2_blk]); repeat ((first | (with_reducible refine leK2_refl ?_) | (with_reducible refine ar_i64 (by omega) ?_) | (with_reducible refine And.intro (by omega) ?_)); (try simp -implicitDefEqProofs only [go_sem, vc2_blk])))
            have hil : i = a.l.length := by omega
            have hee : a = b := by
              cases a; cases b
              simp only at h1 h2 h3 hil hF
              subst hil
              rw [List.take_of_length_le (Nat.le_refl _), List.take_of_length_le (by omega)] at hF
              simp only [GNet.mk.injEq]
              exact ⟨h1, hF, h2⟩
            exact ⟨_, rfl, le2_of [] (by simp -implicitDefEqProofs only [go_sem, vc2_blk, decide_eq_true hee])⟩
      · have h3' : ((a.l.length : Int) != (b.l.length : Int)) = true := by simp; omega
        ((try (with_reducible refine leK2_refl ?_)); (try simp -implicitDefEqProofs only [go_sem, vc2_blk, h1', h2', h3']); repeat ((first | (with_reducible refine leK2_refl ?_) | (with_reducible refine ar_i64 (by omega) ?_) | (with_reducible refine And.intro (by omega) ?_)); (try simp -implicitDefEqProofs only [go_sem, vc2_blk, h1', h2', h3'])))
        exact no (fun e => h3 (by rw [e])) rfl rfl
    · have h2' : (a.lost != b.lost) = true := by simp [h2]
      ((try (with_reducible refine leK2_refl ?_)); (try simp -implicitDefEqProofs only [go_sem, vc2_blk, h1', h2']); repeat ((first | (with_reducible refine leK2_refl ?_) | (with_reducible refine ar_i64 (by omega) ?_) | (with_reducible refine And.intro (by omega) ?_)); (try simp -implicitDefEqProofs only [go_sem, vc2_blk, h1', h2'])))
      exact no (fun e => h2 (by rw [e])) rfl rfl
  · have h1' : (a.room != b.room) = true := by simp [h1]
    ((try (with_reducible refine leK2_refl ?_)); (try simp -implicitDefEqProofs only [go_sem, vc2_blk, h1']); repeat ((first | (with_reducible refine leK2_refl ?_) | (with_reducible refine ar_i64 (by omega) ?_) | (with_reducible refine And.intro (by omega) ?_)); (try simp -implicitDefEqProofs only [go_sem, vc2_blk, h1'])))
    exact no (fun e => h1 (by rw [e])) rfl rfl
end Go.Proofs.Ytgpmgnbjpfggmaa
