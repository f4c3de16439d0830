/-
 bF 36 of the proof of Pb: the engine and the walks, in their order.
-/
import Derived.Test.YtlaefellhnkfbaaGreatPb35
set_option linter.unusedSimpArgs false
set_option linter.unusedVariables false
set_option maxRecDepth 10000
namespace Go.Eng
def fh (l : List GDesc) : List DV := l.flatMap ah
def zA : List DV := (List.replicate 256 ()).flatMap fun _ => [.v (.int .u8 0), .v (.int .u16 0), .v (.int .u8 0), .v (.slice none 0 0)]
theorem ch (d : GDesc) : (ah d).length = 4 := rfl
theorem m0 : ∀ (l : List GDesc), (fh l).length = l.length * 4
 | [] => rfl
 | x :: r => by
  have := m0 r
  unfold fh at this ⊢
  rw [List.flatMap_cons, List.length_append, ch, this, List.length_cons]; omega
theorem sF : ∀ (l : List GDesc) {n : Nat} (h : n < l.length), ((fh l).drop (n * 4)).take 4 = ah l[n]
 | x :: r, 0, _ => by
  show ((ah x ++ fh r).drop 0).take 4 = _
  rw [List.drop_zero, List.take_append_of_le_length (by rw [ch]; omega), List.take_of_length_le (by rw [ch]; omega)]; rfl
 | x :: r, n + 1, hn => by
  show ((ah x ++ fh r).drop ((n + 1) * 4)).take 4 = _
  rw [List.drop_append, List.drop_of_length_le (by rw [ch]; omega), List.nil_append, ch, show (n + 1) * 4 - 4 = n * 4 by omega]
  exact sF r (by simpa using hn)
theorem afv (l : List GDesc) {n : Nat} (h : l.length * 4 = n) : (fh l).take n = fh l := List.take_of_length_le (by rw [m0]; omega)
theorem nP : ∀ (l : List GDesc) (d : GDesc) {n : Nat} (h : n < l.length), spliceD (fh l) (n * 4) (ah d) = fh (l.set n d)
 | x :: r, d, 0, _ => by
  show (ah x ++ fh r).take (0 * 4) ++ ah d ++ (ah x ++ fh r).drop (0 * 4 + (ah d).length) = ah d ++ fh r
  rw [ch, List.drop_append, List.drop_of_length_le (by rw [ch]; omega), ch]
  simp
 | x :: r, d, n + 1, hn => by
  have ih := nP r d (n := n) (by simpa using hn)
  unfold spliceD at ih ⊢
  rw [ch] at ih ⊢
  show (ah x ++ fh r).take ((n + 1) * 4) ++ ah d ++ (ah x ++ fh r).drop ((n + 1) * 4 + 4) = ah x ++ fh (r.set n d)
  rw [List.take_append, List.drop_append, List.take_of_length_le (by rw [ch]; omega), List.drop_of_length_le (l := ah x) (by rw [ch]; omega), ch, show (n + 1) * 4 - 4 = n * 4 by omega, show (n + 1) * 4 + 4 - 4 = n * 4 + 4 by omega, ← ih]
  simp
theorem iQ {r : Nat → Option Rn} : ∀ {a a' b b' : List DV}, wkDs r a a' → wkDs r b b' → wkDs r (a ++ b) (a' ++ b')
 | [], a', b, b', h, h' => by simp only [wkDs] at h; subst h; exact h'
 | d :: l, [], b, b', h, _ => by simp [wkDs] at h
 | d :: l, e :: m, b, b', h, h' => by
  simp only [wkDs] at h
  show wkDs r (d :: (l ++ b)) (e :: (m ++ b'))
  simp only [wkDs]
  exact ⟨h.1, iQ h.2 h'⟩
def zL : List GDesc := List.replicate 256 aR
theorem zo (r : Nat → Option Rn) : wkDs r (fh zL) zA := by
 unfold fh zL zA
 generalize 256 = n
 induction n with
 | zero => rfl
 | succ n ih =>
  rw [List.replicate_succ, List.replicate_succ, List.flatMap_cons, List.flatMap_cons]
  refine iQ ?_ ih
  simp [ah, aR, wkDs, wkD, wkV, wkFz]
theorem dq (r : Nat → Option Rn) : ∀ (l : List GDesc), wkDs r (fh l) (fh l)
 | [] => rfl
 | x :: l => iQ (a := ah x) (a' := ah x) (by simp [ah, wkDs, wkD, wkV, wkFz]) (dq r l)
def iy (self : UInt8) (l : List GDesc) (d : GDesc) : List GDesc :=
 if d.node = self ∨ d.inc = 0 then l else match l[d.node.toNat]? with
  | some e => if e.inc = 0 ∨ ge d e = true then l.set d.node.toNat d else l
  | none => l
theorem ab4 {self : UInt8} {l : List GDesc} {d : GDesc} : (iy self l d).length = l.length := by
 unfold iy
 split
 ·rfl
 ·split
  ·split <;> simp
  ·rfl
def eA (self : UInt8) (l : List GDesc) (ds : List GDesc) : List GDesc := ds.foldl (iy self) l
theorem lB {self : UInt8} : ∀ {ds l : List GDesc}, (eA self l ds).length = l.length
 | [], l => rfl
 | d :: r, l => by
  show (eA self (iy self l d) r).length = _
  rw [lB, ab4]
def bx (self : UInt8) (L : List (List GDesc)) : List GDesc := (eA self zL L.flatten).filter fun d => decide ((0 : Int) < (d.inc.toNat : Int))
end Go.Eng
namespace Go.Proofs.YtlaefellhnkfbaaGreat.V
open Go.Eng
attribute [local go_sem] aP ah fzD plR bB bn aI bC aE aq bm dd z8 z16 z32 z64 ar aT
@[local go_sem] theorem alN : bV Tryz.prog 238 = some zA := by kernel_rfl
theorem ain : onesD zA = true := by kernel_rfl
def kZ (L : List (List GDesc)) : List (List DV) := L.map fun l => [fzD l]
theorem qt (self : UInt8) (L : List (List GDesc)) (hL : L.length ≤ 1000) (hl : ∀ l ∈ L, bO l) : Con2 Tryz.prog 169 [.v (.int .u8 self.toNat), .fz 1 (kZ L)] (· = plR (fzD (bx self L))) := by
 refine Con2.ofEmb ?_
 have hLl : (kZ L).length = L.length := by rw [kZ, List.length_map]
 have hge0 : ∀ k (hk : k < L.length), (kZ L)[k]? = some [fzD L[k]] := fun k hk => by rw [kZ, List.getElem?_map, List.getElem?_eq_getElem hk]; rfl
 generalize kZ L = E at hLl hge0
 refine af Ty.mixed Tryz.func169 rfl (by kernel_rfl) (by kernel_rfl) rfl [.tmp 4] rfl ?_
 refine g2_ ?_
 refine ⟨ain, ?_⟩
 repeat first | simp -implicitDefEqProofs only [go_sem, aa, hLl] | with_reducible first | refine gl_ ?_ | refine ga_ ?_ | refine gn_ ?_
 refine ax L.length (fun k => []) (fun k => [(5, ⟨fh (eA self zL (L.take k).flatten), 238⟩)]) (fun k => []) 0 (fun _ => True) (ac [] ?_) trivial (fun g k => by simp -implicitDefEqProofs only [go_sem, aa]) (by omega) (fun g => by simp -implicitDefEqProofs only [go_sem, aa]) (fun k hk _ => ?_) (fun _ => ?_)
 ·repeat first | simp -implicitDefEqProofs only [go_sem, aa, List.take_zero, List.flatten_nil] | with_reducible refine gl_ ?_
  exact ⟨rfl, zo _⟩
 ·have hge := hge0 k hk
  obtain ⟨hb, hb2⟩ := hl _ (List.getElem_mem hk)
  repeat first | simp -implicitDefEqProofs only [go_sem, aa, hge] | with_reducible first | refine gl_ ?_ | refine ga_ ?_ | refine gn_ ?_
  generalize hlk : L[k] = lk at hb hb2
  refine ax lk.length (fun j => []) (fun j => [(5, ⟨fh (eA self zL ((L.take k).flatten ++ lk.take j)), 238⟩)]) (fun j => []) 0 (fun _ => True) (ac [] ?_) trivial (fun g j => by simp -implicitDefEqProofs only [go_sem, aa]) (by omega) (fun g => by simp -implicitDefEqProofs only [go_sem, aa]) (fun j hj _ => ?_) (fun _ => ?_)
  ·repeat first | simp -implicitDefEqProofs only [go_sem, aa, List.take_zero, List.append_nil] | with_reducible refine gl_ ?_
   exact ⟨rfl, dq _ _⟩
  ·have hnd := lk[j].node.toNat_lt
   have hstep : eA self zL ((L.take k).flatten ++ lk.take (j + 1)) = iy self (eA self zL ((L.take k).flatten ++ lk.take j)) lk[j] := by
    rw [List.take_add_one, List.getElem?_eq_getElem hj, ← List.append_assoc, eA, List.foldl_append]; rfl
   have hlen : (eA self zL ((L.take k).flatten ++ lk.take j)).length = 256 := by rw [lB]; simp [zL]
   repeat first | simp -implicitDefEqProofs only [go_sem, aa, au hj] | with_reducible first | refine gl_ ?_ | refine ga_ ?_ | refine gn_ ?_
   generalize lk[j] = d at hstep hnd
   generalize hA : eA self zL ((L.take k).flatten ++ lk.take j) = A at hstep hlen
   have hn : d.node.toNat < A.length := by omega
   have hA1 : (fh A).length = 1024 := by rw [m0, hlen]
   have hw := sF A hn
   have hsp := nP A d hn
   have hge2 := List.getElem?_eq_getElem hn
   have hnw := wS d A[d.node.toNat]
   have hst : iy self A d = if d.node = self ∨ d.inc = 0 then A else if A[d.node.toNat].inc = 0 ∨ ge d A[d.node.toNat] = true then A.set d.node.toNat d else A := by
    unfold iy; rw [hge2]
   generalize A[d.node.toNat] = e at hw hnw hst
   rw [hst] at hstep
   simp only [ah] at hw hsp
   rw [co]
   by_cases h1 : d.node = self
   ·rw [if_pos (.inl h1)] at hstep
    rw [decide_eq_true h1]
    refine g2_ ?_
    refine ⟨j + 1, ac [] ?_, rfl⟩
    repeat first | simp -implicitDefEqProofs only [go_sem, aa, hstep] | with_reducible refine gl_ ?_
    first | done | exact dq _ _ | exact ⟨rfl, dq _ _⟩ | trace_state
   rw [decide_eq_false h1]
   refine g2_ ?_
   rw [pW]
   by_cases h2 : d.inc = 0
   ·rw [if_pos (.inr h2)] at hstep
    rw [decide_eq_true h2]
    refine g2_ ?_
    refine ⟨j + 1, ac [] ?_, rfl⟩
    repeat first | simp -implicitDefEqProofs only [go_sem, aa, hstep] | with_reducible refine gl_ ?_
    first | done | exact dq _ _ | exact ⟨rfl, dq _ _⟩ | trace_state
   rw [if_neg (by simp [h1, h2])] at hstep
   rw [decide_eq_false h2]
   have hle : decide (d.node.toNat * 4 ≤ 1020) = true := decide_eq_true (by omega)
   have hle2 : d.node.toNat * 4 ≤ 1020 := by omega
   repeat first | simp -implicitDefEqProofs only [go_sem, aa, hA1, hw, hle] | with_reducible first | refine gl_ ?_ | refine ga_ ?_ | refine gn_ ?_
   rw [pW]
   by_cases h3 : e.inc = 0
   ·rw [if_pos (.inl h3)] at hstep
    rw [decide_eq_true h3]
    repeat first | simp -implicitDefEqProofs only [go_sem, aa, hA1, hw, hle, hle2, hsp] | with_reducible first | refine gl_ ?_ | refine ga_ ?_ | refine gn_ ?_
    refine ⟨j + 1, ac [] ?_, rfl⟩
    repeat first | simp -implicitDefEqProofs only [go_sem, aa, hstep] | with_reducible refine gl_ ?_
    first | done | exact dq _ _ | exact ⟨rfl, dq _ _⟩ | trace_state
   rw [decide_eq_false h3]
   refine g2_ ?_
   refine CallS.eq hnw ws_ (.inl ws_) ?_
   refine g2_ ?_
   cases h4 : ge d e with
   | true =>
    rw [if_pos (.inr h4)] at hstep
    repeat first | simp -implicitDefEqProofs only [go_sem, aa, hA1, hw, hle, hle2, hsp] | with_reducible first | refine gl_ ?_ | refine ga_ ?_ | refine gn_ ?_
    refine ⟨j + 1, ac [] ?_, rfl⟩
    repeat first | simp -implicitDefEqProofs only [go_sem, aa, hstep] | with_reducible refine gl_ ?_
    first | done | exact dq _ _ | exact ⟨rfl, dq _ _⟩ | trace_state
   | false =>
    rw [if_neg (by simp [h3, h4])] at hstep
    refine g2_ ?_
    refine ⟨j + 1, ac [] ?_, rfl⟩
    repeat first | simp -implicitDefEqProofs only [go_sem, aa, hstep] | with_reducible refine gl_ ?_
    first | done | exact dq _ _ | exact ⟨rfl, dq _ _⟩ | trace_state
  ·have hend : (L.take (k + 1)).flatten = (L.take k).flatten ++ lk.take lk.length := by
    rw [List.take_add_one, List.getElem?_eq_getElem hk, hlk, List.take_of_length_le (Nat.le_refl _)]; simp
   refine g2_ ?_
   refine ⟨k + 1, ac [] ?_, rfl⟩
   repeat first | simp -implicitDefEqProofs only [go_sem, aa, hend] | with_reducible refine gl_ ?_
   first | done | exact dq _ _ | exact ⟨rfl, dq _ _⟩ | trace_state
 ·rw [List.take_of_length_le (Nat.le_refl _)]
  have hlen : (eA self zL L.flatten).length = 256 := by rw [lB]; simp [zL]
  have hok : ∀ d ∈ eA self zL L.flatten, d.filter.length ≤ 1000 := by
   have key : ∀ (D A : List GDesc), (∀ d ∈ A, d.filter.length ≤ 1000) → (∀ d ∈ D, d.filter.length ≤ 1000) → ∀ d ∈ eA self A D, d.filter.length ≤ 1000 := by
    intro D
    induction D with
    | nil => intro A hA _; exact hA
    | cons x r ih =>
     intro A hA hD
     refine ih (iy self A x) ?_ (fun d hd => hD d (List.mem_cons_of_mem _ hd))
     intro d hd
     unfold iy at hd
     split at hd
     ·exact hA d hd
     ·split at hd
      ·split at hd
       ·rcases List.mem_or_eq_of_mem_set hd with h | rfl
        ·exact hA d h
        ·exact hD _ List.mem_cons_self
       ·exact hA d hd
      ·exact hA d hd
   refine key _ _ ?_ ?_
   ·intro d hd
    rw [List.eq_of_mem_replicate hd]; simp [aR]
   ·intro d hd
    obtain ⟨l, h1, h2⟩ := List.mem_flatten.1 hd
    exact (hl l h1).2 d h2
  unfold bx
  generalize eA self zL L.flatten = A at hlen hok
  have hA1 : (fh A).length = 1024 := by rw [m0, hlen]
  have hA2 : (fh A).take 1024 = fh A := afv A (by rw [hlen])
  repeat first | simp -implicitDefEqProofs only [go_sem, aa, hA1, hA2] | with_reducible first | refine gl_ ?_ | refine ga_ ?_ | refine gn_ ?_
  generalize hP : (fun d : GDesc => decide ((0 : Int) < (d.inc.toNat : Int))) = P
  have hPd : ∀ d, P d = decide ((0 : Int) < (d.inc.toNat : Int)) := fun d => by rw [← hP]
  have hle3 : ∀ k, ((A.take k).filter P).length ≤ 256 := fun k => by have := lW (f := P) A k; omega
  refine ax 256 (fun k => [(11, .d (.rf 0 0 ((A.take k).filter P).length))]) (fun _ => []) (fun k => [(0, .arr 34 4 (((A.take k).filter P).map ah) false)]) 1 (fun _ => True) (ac [(0, .nil 4)] ?_) trivial (fun g k => by first | rfl | (((try (with_reducible refine ab ?_)); simp -implicitDefEqProofs only [go_sem, aa]; repeat ((with_reducible refine ab ?_); simp -implicitDefEqProofs only [go_sem, aa])); rfl)) (by omega) (fun g => by simp -implicitDefEqProofs only [go_sem, aa]) (fun k hk _ => ?_) (fun _ => ?_)
  ·repeat first | simp -implicitDefEqProofs only [go_sem, aa, List.take_zero, List.filter_nil] | with_reducible refine gl_ ?_
   repeat' (first | exact dq _ _ | rfl | exact zo _ | (refine And.intro ?_ ?_))
   all_goals trace_state
  ·have hk2 : k < A.length := by omega
   have hw := sF A hk2
   have hsn := i4 (f := P) hk2
   have hle4 := hle3 k
   have hle : decide (k * 4 ≤ 1020) = true := decide_eq_true (by omega)
   rw [hPd] at hsn
   generalize A[k] = d at hw hsn
   simp only [ah] at hw
   repeat first | simp -implicitDefEqProofs only [go_sem, aa, hA1, hw, hle] | with_reducible first | refine gl_ ?_ | refine ga_ ?_ | refine gn_ ?_
   by_cases h : (0 : Int) < (d.inc.toNat : Int)
   ·rw [decide_eq_true h]
    repeat first | simp -implicitDefEqProofs only [go_sem, aa, List.length_map] | with_reducible first | refine gl_ ?_ | refine ga_ ?_ | refine gn_ ?_
    refine ⟨k + 1, ac [(0, .to 2)] ?_, rfl⟩
    repeat first | simp -implicitDefEqProofs only [go_sem, aa, hsn, h, decide_true, if_true, List.length_append] | with_reducible refine gl_ ?_
    repeat' (first | exact dq _ _ | exact zo _ | (refine And.intro ?_ ?_) | (with_reducible rfl) | (simp [ah]; done))
   ·rw [decide_eq_false h]
    refine g2_ ?_
    refine ⟨k + 1, ac [(0, .to 0)] ?_, rfl⟩
    repeat first | simp -implicitDefEqProofs only [go_sem, aa, hsn, h, decide_false, if_false, List.append_nil] | with_reducible refine gl_ ?_
    repeat' (first | exact dq _ _ | exact zo _ | (refine And.intro ?_ ?_) | (with_reducible rfl) | (simp [ah]; done))
  ·rw [List.take_of_length_le (by omega)]
   have hcp := aO (A.filter P) ⟨by have := List.length_filter_le P A; omega, fun d hd => hok d (List.mem_filter.1 hd).1⟩
   refine g2_ ?_
   refine CallS.eq hcp ws_ (.inl ws_) ?_
   refine g2_ ?_
   refine ae ?_ rfl
   exact ws_
end Go.Proofs.YtlaefellhnkfbaaGreat.V
