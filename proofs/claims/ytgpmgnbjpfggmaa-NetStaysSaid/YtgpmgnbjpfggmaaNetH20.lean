/-
  Part 20 of the proof of NetH: the engine and the walks, in their order.
-/
import Derived.Test.YtgpmgnbjpfggmaaNetH18
import Derived.Test.YtgpmgnbjpfggmaaNetH19
set_option linter.unusedSimpArgs false
set_option linter.unusedVariables false
/-
  Net: NetStays walked.
-/
set_option linter.unusedSimpArgs false
set_option linter.unusedVariables false
namespace Go.Eng
theorem mov_back {α : Type} {l : List α} {k t : Nat} (hk : k < l.length) (ht : t < l.length) : (mvL (l.eraseIdx k) t l[k]).eraseIdx t = l.eraseIdx k := by
  have he : (l.eraseIdx k).length = l.length - 1 := List.length_eraseIdx_of_lt hk
  rw [mvL, List.append_assoc, List.eraseIdx_append_of_length_le (by simp; omega)]
  have : t - (List.take t (l.eraseIdx k)).length = 0 := by rw [List.length_take]; omega
  rw [this]
  simp
theorem mvL_self {α : Type} {l : List α} {k : Nat} (hk : k < l.length) : mvL (l.eraseIdx k) k l[k] = l := by
  rw [mvL, List.eraseIdx_eq_take_drop_succ]
  have h1 : (l.take k).length = k := by simp; omega
  rw [List.take_left' h1, List.drop_left' h1]
  simp
end Go.Eng
namespace Go.Proofs.Ytgpmgnbjpfggmaa
open Go.Eng
attribute [local go_sem] GPar.enc bytesD GNet.dv GNet.res plR takD losD dblD movD bndD

/-- What 'part' makes. -/
theorem npart_con (m : GNet) (l : List GPar) : Con2 Try.prog 22 [m.dv, .fz 3 (l.map GPar.enc)] (· = plR (⟨m.room, l, m.lost⟩ : GNet).dv) := by
  refine con2_of Ty.mixed Try.func22 rfl (by kernel_rfl) (by kernel_rfl) rfl [.cell 4 25] rfl ?_
  ((try (with_reducible refine leK2_refl ?_)); simp -implicitDefEqProofs only [go_sem, vc2_blk]; repeat ((with_reducible refine leK2_refl ?_); simp -implicitDefEqProofs only [go_sem, vc2_blk]))
  ((try (with_reducible refine leK2_refl ?_)); (try simp -implicitDefEqProofs only [go_sem, vc2_blk]); repeat ((first | (with_reducible refine leK2_refl ?_) | (with_reducible refine ar_i64 (by omega) ?_) | (with_reducible refine And.intro (by omega) ?_)); (try simp -implicitDefEqProofs only [go_sem, vc2_blk])))
  exact ⟨_, rfl, le2_of [] (by simp -implicitDefEqProofs only [go_sem, vc2_blk])⟩

theorem k_mod (x L : Nat) (hL : 0 < L) : Int.tmod (x : Int) (L : Int) = ((x % L : Nat) : Int) := by
  rw [Int.tmod_eq_emod_of_nonneg (by omega)]; rfl

theorem lose_e {r lo : Int} {l : List GPar} {k : Nat} (hk : k < l.length) (hn : (⟨r, l, lo⟩ : GNet).ok) : Con2 Try.prog 18 [(⟨r, l, lo⟩ : GNet).dv, .v (.int .i64 k)] (· = plR (.tup [(⟨r, l.eraseIdx k, lo⟩ : GNet).dv, .v (.int .i64 0)])) := (Lose_ok ⟨r, l, lo⟩ k hk hn).emb resE_emb rfl
theorem dbl_e {r lo : Int} {l : List GPar} {k : Nat} (hk : k < l.length) (hr : (l.length : Int) < r) (hn : (⟨r, l, lo⟩ : GNet).ok) : Con2 Try.prog 9 [(⟨r, l, lo⟩ : GNet).dv, .v (.int .i64 k)] (· = plR (.tup [(⟨r, l ++ [l[k]], lo⟩ : GNet).dv, .v (.int .i64 0)])) := by
  have h := (Double_ok ⟨r, l, lo⟩ k hk hn).emb resE_emb rfl
  rw [GNet.put, if_pos hr] at h
  exact h
theorem mov_e {r lo : Int} {l : List GPar} {k m : Nat} (hk : k < l.length) (hm : m < l.length) (hn : (⟨r, l, lo⟩ : GNet).ok) : Con2 Try.prog 16 [(⟨r, l, lo⟩ : GNet).dv, .v (.int .i64 k), .v (.int .i64 m)] (· = plR (.tup [(⟨r, mvL (l.eraseIdx k) m l[k], lo⟩ : GNet).dv, .v (.int .i64 0)])) := (Move_ok ⟨r, l, lo⟩ k m hk hm hn).emb resE_emb rfl
theorem bend_e {r lo : Int} {l : List GPar} {k t : Nat} {f : Int} (hk : k < l.length) (hn : (⟨r, l, lo⟩ : GNet).ok) (hf : f ≤ 9223372036854775807) (ht : t < 4294967296) :
    (∃ b : List UInt8, b.length = l[k].b.length ∧ l[k].bent = false ∧ Con2 Try.prog 14 [(⟨r, l, lo⟩ : GNet).dv, .v (.int .i64 k), .v (.int .i64 f), .v (.int .u32 t)] (· = plR (.tup [(⟨r, l.set k ⟨l[k].to, true, b⟩, lo⟩ : GNet).dv, .v (.int .i64 0)]))) ∨
    Con2 Try.prog 14 [(⟨r, l, lo⟩ : GNet).dv, .v (.int .i64 k), .v (.int .i64 f), .v (.int .u32 t)] (· = plR (.tup [(⟨r, l, lo⟩ : GNet).dv, .v (.int .i64 2)])) := by
  have h := Bend_any ⟨r, l, lo⟩ k f t hn hf ht
  unfold bndD GNet.bdN GNet.bdE at h
  cases hy : GNet.bdY ⟨r, l, lo⟩ k f t with
  | true =>
    rw [hy] at h
    simp only [if_true, Int.toNat_natCast, getD_at hk] at h
    unfold GNet.bdY at hy
    simp only [Int.toNat_natCast, getD_at hk, Bool.and_eq_true, Bool.not_eq_true'] at hy
    exact .inl ⟨_, bendN_len _ _ _ _, hy.1.1.2, h⟩
  | false =>
    rw [hy] at h
    exact .inr h

theorem movb_e {r lo : Int} {l : List GPar} {k m : Nat} (hk : k < l.length) (hm : m < l.length) (hn : (⟨r, mvL (l.eraseIdx k) m l[k], lo⟩ : GNet).ok) : Con2 Try.prog 16 [(⟨r, mvL (l.eraseIdx k) m l[k], lo⟩ : GNet).dv, .v (.int .i64 m), .v (.int .i64 k)] (· = plR (.tup [(⟨r, l, lo⟩ : GNet).dv, .v (.int .i64 0)])) := by
  have he := erase_len hk
  have hL : (mvL (l.eraseIdx k) m l[k]).length = l.length := by rw [mvL_len (by omega)]; omega
  have h := mov_e (r := r) (lo := lo) (l := mvL (l.eraseIdx k) m l[k]) (k := m) (m := k) (by omega) (by omega) hn
  have hx : (mvL (l.eraseIdx k) m l[k])[m]'(by omega) = l[k] := by
    have := mvL_eq (l := l.eraseIdx k) (to := m) (x := l[k]) (by omega)
    rw [List.getElem?_eq_getElem (by omega)] at this
    exact Option.some.inj this
  rw [hx, mov_back hk hm, mvL_self hk] at h
  exact h

theorem same_e {r lo : Int} {l : List GPar} (hn : (⟨r, l, lo⟩ : GNet).ok) : Con2 Try.prog 21 [(⟨r, l, lo⟩ : GNet).dv, (⟨r, l, lo⟩ : GNet).dv] (· = plR (.v (.bool true))) := by
  have h := Same_con ⟨r, l, lo⟩ ⟨r, l, lo⟩ hn
  rw [decide_eq_true rfl] at h
  exact h

theorem same2_e {r lo : Int} {x y : GPar} (hn : (⟨r, [x], lo⟩ : GNet).ok) : Con2 Try.prog 21 [(⟨r, [x], lo⟩ : GNet).dv, (⟨r, [y], lo⟩ : GNet).dv] (· = plR (.v (.bool (decide (x = y))))) := by
  have h := Same_con ⟨r, [x], lo⟩ ⟨r, [y], lo⟩ hn
  have e : decide ((⟨r, [x], lo⟩ : GNet) = ⟨r, [y], lo⟩) = decide (x = y) := by simp
  rw [e] at h
  exact h

set_option maxRecDepth 4000 in
set_option maxHeartbeats 4000000 in
theorem nstays_con (n : GNet) (a b : UInt8) (f : Int) (t : Nat) (hn : n.l.length ≤ 9223372036854775807) (hf : f ≤ 9223372036854775807) (ht : t < 4294967296) :
    Con2 Try.prog 5 [n.dv, .v (.int .u8 a.toNat), .v (.int .u8 b.toNat), .v (.int .i64 f), .v (.int .u32 t)] (· = plR (.v (.bool true))) := by
  refine con2_of Ty.mixed Try.func5 rfl (by kernel_rfl) (by kernel_rfl) rfl [.tmp 10] rfl ?_
  ((try (with_reducible refine leK2_refl ?_)); simp -implicitDefEqProofs only [go_sem, vc2_blk]; repeat ((with_reducible refine leK2_refl ?_); simp -implicitDefEqProofs only [go_sem, vc2_blk]))
  refine cl (few_con n 30 hn) ?_
  cases h1 : fewB n 30 with
  | false =>
    ((try (with_reducible refine leK2_refl ?_)); (try simp -implicitDefEqProofs only [go_sem, vc2_blk]); repeat ((first | (with_reducible refine leK2_refl ?_) | (with_reducible refine ar_i64 (by omega) ?_) | (with_reducible refine And.intro (by omega) ?_)); (try simp -implicitDefEqProofs only [go_sem, vc2_blk])))
    refine cl nawake_con ?_
    exact ⟨_, rfl, l2 []⟩
  | true =>
    obtain ⟨hl30, hb100⟩ := fewB_len h1
    ((try (with_reducible refine leK2_refl ?_)); (try simp -implicitDefEqProofs only [go_sem, vc2_blk]); repeat ((first | (with_reducible refine leK2_refl ?_) | (with_reducible refine ar_i64 (by omega) ?_) | (with_reducible refine And.intro (by omega) ?_)); (try simp -implicitDefEqProofs only [go_sem, vc2_blk])))
    refine cond2_eq (fun h2 => ?_) (fun h2 => ?_)
    · ((try (with_reducible refine leK2_refl ?_)); (try simp -implicitDefEqProofs only [go_sem, vc2_blk]); repeat ((first | (with_reducible refine leK2_refl ?_) | (with_reducible refine ar_i64 (by omega) ?_) | (with_reducible refine And.intro (by omega) ?_)); (try simp -implicitDefEqProofs only [go_sem, vc2_blk])))
      refine cl nawake_con ?_
      exact ⟨_, rfl, l2 []⟩
    · have hpos : 0 < n.l.length := by omega
      have ha := a.toNat_lt
      have hb := b.toNat_lt
      ((try (with_reducible refine leK2_refl ?_)); (try simp -implicitDefEqProofs only [go_sem, vc2_blk]); repeat ((first | (with_reducible refine leK2_refl ?_) | (with_reducible refine ar_i64 (by omega) ?_) | (with_reducible refine And.intro (by omega) ?_)); (try simp -implicitDefEqProofs only [go_sem, vc2_blk])))
      obtain ⟨R, hR, hRl⟩ : ∃ R, (if (if 1000 < n.room then 1000 else n.room) < (n.l.length : Int) + 1 then (n.l.length : Int) + 1 else if 1000 < n.room then 1000 else n.room) = R ∧ (n.l.length : Int) < R := ⟨_, rfl, by split <;> omega⟩
      rw [hR]
      refine .inl ⟨[(0, false), (2, false), (6, false), (8, false), (1, false), (3, false), (7, false), (9, false), (4, false), (10, false), (5, false), (11, false), (12, false), (13, false)], by kernel_rfl, ?_⟩
      ((try (with_reducible refine leK2_refl ?_)); (try simp -implicitDefEqProofs only [go_sem, vc2_blk]); repeat ((first | (with_reducible refine leK2_refl ?_) | (with_reducible refine ar_i64 (by omega) ?_) | (with_reducible refine And.intro (by omega) ?_)); (try simp -implicitDefEqProofs only [go_sem, vc2_blk])))
      rw [rem_nn (by omega) (by omega)]
      ((try (with_reducible refine leK2_refl ?_)); (try simp -implicitDefEqProofs only [go_sem, vc2_blk]); repeat ((first | (with_reducible refine leK2_refl ?_) | (with_reducible refine ar_i64 (by omega) ?_) | (with_reducible refine And.intro (by omega) ?_)); (try simp -implicitDefEqProofs only [go_sem, vc2_blk])))
      rw [rem_nn (by omega) (by omega)]
      ((try (with_reducible refine leK2_refl ?_)); (try simp -implicitDefEqProofs only [go_sem, vc2_blk]); repeat ((first | (with_reducible refine leK2_refl ?_) | (with_reducible refine ar_i64 (by omega) ?_) | (with_reducible refine And.intro (by omega) ?_)); (try simp -implicitDefEqProofs only [go_sem, vc2_blk])))
      obtain ⟨k, hk, hkl⟩ : ∃ k : Nat, (a.toNat : Int) % (n.l.length : Int) = k ∧ k < n.l.length := ⟨a.toNat % n.l.length, rfl, Nat.mod_lt _ hpos⟩
      obtain ⟨m, hm, hml⟩ : ∃ m : Nat, (b.toNat : Int) % (n.l.length : Int) = m ∧ m < n.l.length := ⟨b.toNat % n.l.length, rfl, Nat.mod_lt _ hpos⟩
      rw [hk, hm]
      have hok : (⟨R, n.l, n.lost⟩ : GNet).ok := ⟨by simp only; omega, fun p hp => Nat.le_trans (hb100 p hp) (by decide)⟩
      refine cl (lose_e hkl hok) ?_
      have hT1 : List.take (k - 0) (n.l.map GPar.enc) = (n.l.take k).map GPar.enc := by rw [Nat.sub_zero, List.map_take]
      have hT2 : List.take (n.l.length - ((k : Int) + 1).toNat) (List.drop ((k : Int) + 1).toNat (n.l.map GPar.enc)) = (n.l.drop (k + 1)).map GPar.enc := by
        rw [show ((k : Int) + 1).toNat = k + 1 from by omega, ← List.map_drop, List.take_of_length_le (by simp)]
      have hL1 : (n.l.take k).length = k := by simp; omega
      have hL2 : (n.l.drop (k + 1)).length = n.l.length - (k + 1) := by simp
      have hE : (n.l.take k).map GPar.enc ++ (n.l.drop (k + 1)).map GPar.enc = (n.l.eraseIdx k).map GPar.enc := by rw [← List.map_append, List.eraseIdx_eq_take_drop_succ]
      have hEl : k + (n.l.length - (k + 1)) = (n.l.eraseIdx k).length := by rw [erase_len hkl]; omega
      have hel := erase_len hkl
      refine .inr (.inr (.inr ⟨[(0, false), (1, false), (2, false), (3, false), (4, false), (6, false), (8, false), (11, false), (13, false), (18, false), (7, false), (12, false), (14, false), (9, false), (15, false), (5, false), (10, false), (16, false), (17, false), (19, false), (20, false), (21, false)], [4, 7, 12, 18], [5, 14], by kernel_rfl, ?_⟩))
      ((try (with_reducible refine leK2_refl ?_)); (try simp -implicitDefEqProofs only [go_sem, vc2_blk, hT1, hT2, List.length_map, hL1, hL2, hE, hEl]); repeat ((first | (with_reducible refine leK2_refl ?_) | (with_reducible refine ar_i64 (by omega) ?_) | (with_reducible refine And.intro (by omega) ?_)); (try simp -implicitDefEqProofs only [go_sem, vc2_blk, hT1, hT2, List.length_map, hL1, hL2, hE, hEl])))
      have hokE : (⟨R, n.l.eraseIdx k, n.lost⟩ : GNet).ok := ⟨by simp only; omega, fun p hp => hok.2 p (List.mem_of_mem_eraseIdx hp)⟩
      refine cl (npart_con (⟨R, n.l, n.lost⟩ : GNet) (n.l.eraseIdx k)) ?_
      refine cl (same_e hokE) ?_
      refine cl (dbl_e hkl hRl hok) ?_
      have hD1 : List.length (n.l ++ [n.l[k]]) = n.l.length + 1 := by simp
      have hD2 : (((n.l.length + 1 : Nat) : Int) != (n.l.length : Int) + 1) = false := by simp
      have hD3 : List.take (n.l.length - 0) ((n.l ++ [n.l[k]]).map GPar.enc) = n.l.map GPar.enc := by rw [Nat.sub_zero, ← List.map_take, List.take_left']; rfl
      have hG : ((n.l ++ [n.l[k]]).map GPar.enc)[n.l.length]? = some (GPar.enc n.l[k]) := by simp
      have ok1 : ∀ x : GPar, (⟨R, [x], n.lost⟩ : GNet).ok ↔ x.b.length ≤ 1000 := fun x => by simp [GNet.ok]
      have okk := (ok1 n.l[k]).2 (hok.2 _ (List.getElem_mem hkl))
      refine join_ (.fl 0 (.fl 1 (.fl 2 (.fl 3 (.fl 6 (.fl 4 (.fl 7 (.fl 5 (.fl 8 (.fl 9 (.fl 10 (.fl 11 (.fl 12 (.fl 13 (.fl 14 (.fl 15 (.fl 17 (.fl 22 (.fl 16 (.fl 18 (.fl 19 (.fl 20 (.eff 21 true (.eff 23 false (.fl 24 (.fl 25 (.fl 26 (.fl 27 (.fl 28 (.fl 29 (.fl 31 (.fl 38 (.fl 39 (.fl 40 (.fl 42 (.fl 30 (.fl 32 (.fl 41 (.fl 33 (.fl 43 (.fl 34 (.fl 44 (.fl 35 (.eff 36 true (.eff 37 true (.eff 45 true (.eff 46 false (.eff 47 false (.fl 48 (.fl 49 .done)) .no) .no) .no) (.eff 45 true (.eff 37 true (.eff 46 false (.eff 47 false (.fl 48 (.fl 49 .done)) .no) .no) .no) .no)) (.eff 45 true (.eff 36 true (.eff 37 true (.eff 46 false (.eff 47 false (.fl 48 (.fl 49 .done)) .no) .no) .no) .no) .no))))))))))))))))))))) .no) .no))))))))))))))))))))))) [(141, .d (.v (.bool false)))] ?_ ?_
      · ((try (with_reducible refine leK2_refl ?_)); (try simp -implicitDefEqProofs only [go_sem, vc2_blk, hD1, hD2, hD3, hG, mapE_get hkl]); repeat ((first | (with_reducible refine leK2_refl ?_) | (with_reducible refine ar_i64 (by omega) ?_) | (with_reducible refine And.intro (by omega) ?_)); (try simp -implicitDefEqProofs only [go_sem, vc2_blk, hD1, hD2, hD3, hG, mapE_get hkl])))
        refine cl (npart_con (⟨R, n.l, n.lost⟩ : GNet) n.l) ?_
        refine cl (same_e hok) ?_
        ((try (with_reducible refine leK2_refl ?_)); (try simp -implicitDefEqProofs only [go_sem, vc2_blk, hD1, hD2, hD3, hG, mapE_get hkl]); repeat ((first | (with_reducible refine leK2_refl ?_) | (with_reducible refine ar_i64 (by omega) ?_) | (with_reducible refine And.intro (by omega) ?_)); (try simp -implicitDefEqProofs only [go_sem, vc2_blk, hD1, hD2, hD3, hG, mapE_get hkl])))
        repeat' (first | (refine cl (npart_con (⟨R, n.l, n.lost⟩ : GNet) [n.l[k]]) ?_; ((try (with_reducible refine leK2_refl ?_)); (try simp -implicitDefEqProofs only [go_sem, vc2_blk, hD1, hD2, hD3, hG, mapE_get hkl]); repeat ((first | (with_reducible refine leK2_refl ?_) | (with_reducible refine ar_i64 (by omega) ?_) | (with_reducible refine And.intro (by omega) ?_)); (try simp -implicitDefEqProofs only [go_sem, vc2_blk, hD1, hD2, hD3, hG, mapE_get hkl])))) | (refine cl (same_e okk) ?_) | exact l2 [] | refine ⟨?_, ?_⟩)
      · have hxk : (mvL (n.l.eraseIdx k) m n.l[k])[m]? = some n.l[k] := mvL_eq (by omega)
        have hML : (mvL (n.l.eraseIdx k) m n.l[k]).length = n.l.length := by rw [mvL_len (by omega)]; omega
        have hokM : (⟨R, mvL (n.l.eraseIdx k) m n.l[k], n.lost⟩ : GNet).ok := ⟨by simp only [hML]; omega, fun p hp => by
          simp only [mvL, List.append_assoc, List.mem_append, List.mem_singleton] at hp
          rcases hp with hp | rfl | hp
          · exact hokE.2 p (List.mem_of_mem_take hp)
          · exact hok.2 _ (List.getElem_mem hkl)
          · exact hokE.2 p (List.mem_of_mem_drop hp)⟩
        refine cl (mov_e hkl hml hok) ?_
        refine cl (movb_e hkl hml hokM) ?_
        have hM2 : ((mvL (n.l.eraseIdx k) m n.l[k]).map GPar.enc)[m]? = some (GPar.enc n.l[k]) := by rw [List.getElem?_map, hxk]; rfl
        have hM3 : ((n.l.length : Int) != (n.l.length : Int)) = false := by simp
        refine join_ (.fl 0 (.fl 1 (.fl 2 (.fl 3 (.fl 4 (.fl 5 (.fl 6 (.fl 7 (.fl 8 (.eff 9 false (.fl 10 (.fl 11 (.fl 12 (.fl 13 (.fl 16 (.fl 14 (.fl 17 (.fl 15 (.fl 18 (.fl 19 (.fl 20 (.fl 21 (.fl 22 (.fl 23 (.fl 24 (.fl 26 (.fl 31 (.fl 32 (.fl 33 (.fl 35 (.fl 25 (.fl 34 (.fl 27 (.fl 36 (.fl 28 (.fl 37 (.eff 29 true (.eff 30 true (.eff 38 true (.eff 39 false (.eff 40 false (.fl 41 (.fl 42 .done)) .no) .no) .no) (.eff 38 true (.eff 30 true (.eff 39 false (.eff 40 false (.fl 41 (.fl 42 .done)) .no) .no) .no) .no)) (.eff 38 true (.eff 29 true (.eff 30 true (.eff 39 false (.eff 40 false (.fl 41 (.fl 42 .done)) .no) .no) .no) .no) .no)))))))))))))))))))))))))))) .no)))))))))) [(198, .d (.v (.bool false)))] ?_ ?_
        · ((try (with_reducible refine leK2_refl ?_)); (try simp -implicitDefEqProofs only [go_sem, vc2_blk]); repeat ((first | (with_reducible refine leK2_refl ?_) | (with_reducible refine ar_i64 (by omega) ?_) | (with_reducible refine And.intro (by omega) ?_)); (try simp -implicitDefEqProofs only [go_sem, vc2_blk])))
          refine cl (same_e hok) ?_
          ((try (with_reducible refine leK2_refl ?_)); (try simp -implicitDefEqProofs only [go_sem, vc2_blk, hML, hM2, hM3, mapE_get hkl]); repeat ((first | (with_reducible refine leK2_refl ?_) | (with_reducible refine ar_i64 (by omega) ?_) | (with_reducible refine And.intro (by omega) ?_)); (try simp -implicitDefEqProofs only [go_sem, vc2_blk, hML, hM2, hM3, mapE_get hkl])))
          repeat' (first | (refine cl (npart_con (⟨R, n.l, n.lost⟩ : GNet) [n.l[k]]) ?_; ((try (with_reducible refine leK2_refl ?_)); (try simp -implicitDefEqProofs only [go_sem, vc2_blk, hML, hM2, hM3, mapE_get hkl]); repeat ((first | (with_reducible refine leK2_refl ?_) | (with_reducible refine ar_i64 (by omega) ?_) | (with_reducible refine And.intro (by omega) ?_)); (try simp -implicitDefEqProofs only [go_sem, vc2_blk, hML, hM2, hM3, mapE_get hkl])))) | (refine cl (same_e okk) ?_) | exact l2 [] | refine ⟨?_, ?_⟩)
        · rcases bend_e hkl hok hf ht with ⟨B, hBl, hbk, hc⟩ | hc
          rotate_left
          · refine cl hc ?_
            refine cl (same_e hok) ?_
            refine cl nawake_con ?_
            exact ⟨_, rfl, l2 []⟩
          · refine cl hc ?_
            have hSl : (n.l.set k ⟨n.l[k].to, true, B⟩).length = n.l.length := List.length_set ..
            generalize hX : n.l.set k ⟨n.l[k].to, true, B⟩ = X at hSl
            have hXg : ∀ j (hj : j < n.l.length) (hj' : j < X.length), X[j].to = n.l[j].to ∧ X[j].b.length = n.l[j].b.length ∧ decide (X[j] = n.l[j]) = (!decide (j = k)) := by
              intro j hj hj'
              subst hX
              rw [List.getElem_set]
              by_cases e : k = j
              · subst e
                have : decide ((⟨n.l[k].to, true, B⟩ : GPar) = n.l[k]) = false := decide_eq_false (fun e => by have h := congrArg GPar.bent e; rw [hbk] at h; cases h)
                simp [hBl, this]
              · simp [e, Ne.symm e]
            have hXk : (X.map GPar.enc)[k]? = some (GPar.enc ⟨n.l[k].to, true, B⟩) := by subst hX; simp [hkl]
            ((try (with_reducible refine leK2_refl ?_)); (try simp -implicitDefEqProofs only [go_sem, vc2_blk, hSl]); repeat ((first | (with_reducible refine leK2_refl ?_) | (with_reducible refine ar_i64 (by omega) ?_) | (with_reducible refine And.intro (by omega) ?_)); (try simp -implicitDefEqProofs only [go_sem, vc2_blk, hSl])))
            refine vc2_rangeA n.l.length (fun k => []) (fun _ => []) (fun _ => [(1, .arr 33 3 ((n.l.eraseIdx k).map GPar.enc) true)]) 2 (fun _ => True) (le2_of [] ?_) trivial (fun g k => by simp -implicitDefEqProofs only [go_sem, vc2_blk]) (by omega) (fun g => by simp -implicitDefEqProofs only [go_sem, vc2_blk]) (fun j hj _ => ?_) (fun _ => ?_)
            · ((try (with_reducible refine leK2_refl ?_)); simp -implicitDefEqProofs only [go_sem, vc2_blk]; repeat ((with_reducible refine leK2_refl ?_); simp -implicitDefEqProofs only [go_sem, vc2_blk]))
              first | rfl | exact ⟨rfl, rfl⟩
            · have hjX : j < X.length := by omega
              obtain ⟨e1, e2, e3⟩ := hXg j hj hjX
              have hq : ((!decide (j = k)) == ((j : Int) == (k : Int))) = false := by
                have : ((j : Int) == (k : Int)) = decide (j = k) := by
                  by_cases e : j = k
                  · simp [e]
                  · have e' : (j : Int) ≠ k := by omega
                    simp [e, e']
                rw [this]; cases decide (j = k) <;> rfl
              have hb1 : ((X[j].b.length : Int) != (n.l[j].b.length : Int)) = false := by simp [e2]
              have hb2 : ((X[j].to.toNat : Int) != (n.l[j].to.toNat : Int)) = false := by simp [e1]
              have okj : (⟨R, [X[j]], n.lost⟩ : GNet).ok := (ok1 _).2 (by rw [e2]; exact hok.2 _ (List.getElem_mem hj))
              have cS := same2_e (r := R) (lo := n.lost) (x := X[j]) (y := n.l[j]) okj
              rw [e3] at cS
              ((try (with_reducible refine leK2_refl ?_)); (try simp -implicitDefEqProofs only [go_sem, vc2_blk, mapE_get hjX]); repeat ((first | (with_reducible refine leK2_refl ?_) | (with_reducible refine ar_i64 (by omega) ?_) | (with_reducible refine And.intro (by omega) ?_)); (try simp -implicitDefEqProofs only [go_sem, vc2_blk, mapE_get hjX])))
              refine join_ (.fl 0 (.fl 1 (.fl 2 (.fl 5 (.fl 6 (.fl 7 (.fl 9 (.fl 8 (.fl 10 (.fl 11 (.eff 3 true (.eff 4 true (.eff 12 true (.eff 13 false (.eff 14 false (.fl 15 .done) .no) .no) .no) (.eff 12 true (.eff 4 true (.eff 13 false (.eff 14 false (.fl 15 .done) .no) .no) .no) .no)) (.eff 12 true (.eff 3 true (.eff 4 true (.eff 13 false (.eff 14 false (.fl 15 .done) .no) .no) .no) .no) .no)))))))))))) [(26, .d (.v (.bool (!decide (j = k)))))] ?_ ?_
              · ((try (with_reducible refine leK2_refl ?_)); (try simp -implicitDefEqProofs only [go_sem, vc2_blk, mapE_get hj]); repeat ((first | (with_reducible refine leK2_refl ?_) | (with_reducible refine ar_i64 (by omega) ?_) | (with_reducible refine And.intro (by omega) ?_)); (try simp -implicitDefEqProofs only [go_sem, vc2_blk, mapE_get hj])))
                repeat' (first | (refine CallS.eq (npart_con (⟨R, n.l, n.lost⟩ : GNet) [X[j]]) ?_ (.inl rfl) ?_; (focus (((try (with_reducible refine leK2_refl ?_)); simp -implicitDefEqProofs only [go_sem, vc2_blk]; repeat ((with_reducible refine leK2_refl ?_); simp -implicitDefEqProofs only [go_sem, vc2_blk])); done)); ((try (with_reducible refine leK2_refl ?_)); (try simp -implicitDefEqProofs only [go_sem, vc2_blk, mapE_get hj]); repeat ((first | (with_reducible refine leK2_refl ?_) | (with_reducible refine ar_i64 (by omega) ?_) | (with_reducible refine And.intro (by omega) ?_)); (try simp -implicitDefEqProofs only [go_sem, vc2_blk, mapE_get hj])))) | (refine CallS.eq (npart_con (⟨R, n.l, n.lost⟩ : GNet) [n.l[j]]) ?_ (.inl rfl) ?_; (focus (((try (with_reducible refine leK2_refl ?_)); simp -implicitDefEqProofs only [go_sem, vc2_blk]; repeat ((with_reducible refine leK2_refl ?_); simp -implicitDefEqProofs only [go_sem, vc2_blk])); done)); ((try (with_reducible refine leK2_refl ?_)); (try simp -implicitDefEqProofs only [go_sem, vc2_blk, mapE_get hj]); repeat ((first | (with_reducible refine leK2_refl ?_) | (with_reducible refine ar_i64 (by omega) ?_) | (with_reducible refine And.intro (by omega) ?_)); (try simp -implicitDefEqProofs only [go_sem, vc2_blk, mapE_get hj])))) | (refine CallS.eq cS ?_ (.inl rfl) ?_; (focus (((try (with_reducible refine leK2_refl ?_)); simp -implicitDefEqProofs only [go_sem, vc2_blk]; repeat ((with_reducible refine leK2_refl ?_); simp -implicitDefEqProofs only [go_sem, vc2_blk])); done)); ((try (with_reducible refine leK2_refl ?_)); (try simp -implicitDefEqProofs only [go_sem, vc2_blk]); repeat ((first | (with_reducible refine leK2_refl ?_) | (with_reducible refine ar_i64 (by omega) ?_) | (with_reducible refine And.intro (by omega) ?_)); (try simp -implicitDefEqProofs only [go_sem, vc2_blk])))) | exact l2 [] | refine ⟨?_, ?_⟩)
              · refine .inl ⟨[(0, false), (1, false), (2, false), (3, false), (4, false), (5, false), (6, false), (9, false), (11, false), (7, false), (10, false), (8, false), (12, false), (13, false), (14, false), (15, false), (16, false), (17, false), (18, false), (19, false), (21, false), (23, false), (20, false), (22, false), (24, false), (25, false), (26, false), (27, false), (28, false)], by kernel_rfl, ?_⟩
                ((try (with_reducible refine leK2_refl ?_)); (try simp -implicitDefEqProofs only [go_sem, vc2_blk, hq, hb1, hb2, mapE_get hj]); repeat ((first | (with_reducible refine leK2_refl ?_) | (with_reducible refine ar_i64 (by omega) ?_) | (with_reducible refine And.intro (by omega) ?_)); (try simp -implicitDefEqProofs only [go_sem, vc2_blk, hq, hb1, hb2, mapE_get hj])))
                exact ⟨j + 1, l2 [], rfl⟩
            · ((try (with_reducible refine leK2_refl ?_)); (try simp -implicitDefEqProofs only [go_sem, vc2_blk, hXk, hbk, mapE_get hkl]); repeat ((first | (with_reducible refine leK2_refl ?_) | (with_reducible refine ar_i64 (by omega) ?_) | (with_reducible refine And.intro (by omega) ?_)); (try simp -implicitDefEqProofs only [go_sem, vc2_blk, hXk, hbk, mapE_get hkl])))
              refine cl nawake_con ?_
              exact ⟨_, rfl, l2 []⟩
end Go.Proofs.Ytgpmgnbjpfggmaa
