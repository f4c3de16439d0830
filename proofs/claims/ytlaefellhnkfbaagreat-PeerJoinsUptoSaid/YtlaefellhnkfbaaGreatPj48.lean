/-
 Part 48 of the proof of Pj: the engine and the walks, in their order.
-/
import Derived.Test.YtlaefellhnkfbaaGreatPj42
import Derived.Test.YtlaefellhnkfbaaGreatPj47
set_option linter.unusedSimpArgs false
set_option linter.unusedVariables false
namespace Go.Proofs.YtlaefellhnkfbaaGreat.V
open Go.Eng
section
variable {c : av} {nd : UInt8} {p q : ak} {o : GOp}
theorem wB (hc : aA c = true) (hB : Bd c nd p) : Con2 Tryz.prog 14 [.agg (au p)] (· = plR (.fz 1 ((bG p).map a_))) := by
 have h1 := kQ hc hB
 have h2 := hB.h.g.ok
 exact z0 p (by omega) (by omega) h2.succ h2.pred (o8 hc hB)
theorem ait (hc : aA c = true) (hcs : ∀ s ∈ c.schema, okS s) (hB : Bd c nd p) (hm : okMg o.m) (hdr : o.draws.length ≤ 4000000) (hf : o.filter.length ≤ 1048576) (hfs : ∀ s ∈ o.filter, okS s) (hup : p.up = true ∨ ¬ (o.what = 6 ∨ o.what = 7)) :
  Con2 Tryz.prog 26 [.agg (aJ c), .agg (au p), .agg (dV o)] (· = plR (.tup [.agg (au (eG c p o).1), .fz 17 ((eG c p o).2.1.map ax), .v (.int .i64 (eG c p o).2.2)])) := by
 have hr := cV hc
 obtain ⟨n1, n2⟩ := rJ (f := o.filter) hcs hfs (by omega)
 have key : p.up = true → Bd c p.node (aH c (bx c p) []) ∧ Bd c p.node (dE c (aH c (bx c p) []) o.draws).1 := fun hu => by
  have s1 := (aaX hB).meet hc hu gK i_ (ms := []) fT
  exact ⟨s1.bd, (ae9 (dr := o.draws) hc s1.bd (by rw [s1.up, hu])).1⟩
 refine aee c p o (by omega) hcs hB.h hm hdr hf hB.ws (by omega) hB.f8 (pn hB.h.g n1 n2) (wB hc hB) (Nat.le_trans (kU hc hB) (by omega)) (fun hu => wB hc (key hu).2) (fun hu => Nat.le_trans (kU hc (key hu).2) (by omega)) (fun hu => ?_) (fun hu => (key hu).1.h.v8)
 exact aat (key hu).1.h.v8 (by have := (kQ hc (key hu).1).1; omega) (key hu).1.f8
theorem eJ {a b : ak} {M : List aV} {t : Bool} (h : M.length ≤ 1) : (if t = true then (a, M) else (b, [])).2.length ≤ 1 := by
 cases t
 ·exact Nat.zero_le _
 ·exact h
theorem ago {m : aV} : (dz c q m).2.length ≤ 1 := by
 unfold dz
 split
 ·split
  ·exact Nat.le_refl _
  ·exact Nat.zero_le _
 ·exact Nat.zero_le _
theorem take_len {m : aV} {dr : List UInt32} : (eO dr c p m).2.length ≤ 1 := by
 unfold eO
 repeat' split
 ·exact Nat.zero_le _
 ·exact eJ ago
 ·exact eJ (Nat.zero_le _)
 ·exact eJ (Nat.le_refl _)
 ·exact eJ (Nat.zero_le _)
 ·exact eJ (Nat.zero_le _)
 ·exact eJ (Nat.le_refl _)
 ·exact eJ (Nat.zero_le _)
 ·exact eJ (Nat.zero_le _)
 ·exact eJ (Nat.zero_le _)
theorem agz {dr : List UInt32} {L : List UInt8} : (eZ c p dr L).2.length ≤ 5 := by
 unfold eZ
 simp only
 generalize hq : dE c (aH c (bx c p) []) dr = k
 have h1 : k.2.length ≤ 1 := by
  rw [← hq]; unfold dE; simp only; split
  ·exact Nat.le_refl _
  ·exact Nat.zero_le _
 have h2 : (iw c k.1 dr L).length ≤ 1 := by
  unfold iw; split
  ·exact Nat.zero_le _
  ·exact Nat.le_refl _
 have h3 : (gD k.1).length ≤ 1 := by
  unfold gD; split
  ·exact Nat.le_refl _
  ·exact Nat.zero_le _
 have h4 := eD k.1.ring
 rw [List.length_append, List.length_append, List.length_append, List.length_map]
 omega
theorem afu (hl : (bG p).length ≤ 26) : (eG c p o).2.1.length ≤ 26 := by
 unfold eG
 split
 ·exact Nat.zero_le _
 split
 ·exact Nat.zero_le _
 split
 ·exact Nat.zero_le _
 split
 ·show (eB c p o.node).1.length ≤ 26
  unfold eB
  split
  ·exact Nat.zero_le _
  split
  ·exact Nat.zero_le _
  ·exact Nat.le_of_ble_eq_true rfl
 split
 ·show (if p.up = false then [] else (bG p).map (bV p 9)).length ≤ 26
  split
  ·exact Nat.zero_le _
  ·rw [List.length_map]; exact hl
 split
 ·show (if p.up = false then [] else (eZ c p o.draws (bG (dE c (aH c (bx c p) []) o.draws).1)).2).length ≤ 26
  split
  ·exact Nat.zero_le _
  ·exact Nat.le_trans agz (by omega)
 split
 ·exact Nat.zero_le _
 split
 ·exact Nat.zero_le _
 ·exact Nat.le_trans take_len (by omega)
end
end Go.Proofs.YtlaefellhnkfbaaGreat.V
