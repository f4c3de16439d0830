/-
 Part 36 of the proof of Pj: the engine and the walks, in their order.
-/
import Derived.Test.YtlaefellhnkfbaaGreatPj35
set_option linter.unusedSimpArgs false
set_option linter.unusedVariables false
set_option maxRecDepth 10000
namespace Go.Eng
def fM (l : List GDesc) : List DV := l.flatMap ah
def zA : List DV := (List.replicate 256 ()).flatMap fun _ => [.v (.int .u8 0), .v (.int .u16 0), .v (.int .u8 0), .v (.slice none 0 0)]
theorem cz (d : GDesc) : (ah d).length = 4 := rfl
theorem nQ : ∀ (l : List GDesc), (fM l).length = l.length * 4
 | [] => rfl
 | x :: r => by
  have := nQ r
  unfold fM at this ⊢
  rw [List.flatMap_cons, List.length_append, cz, this, List.length_cons]; omega
theorem tH : ∀ (l : List GDesc) {n : Nat} (h : n < l.length), ((fM l).drop (n * 4)).take 4 = ah l[n]
 | x :: r, 0, _ => by
  show ((ah x ++ fM r).drop 0).take 4 = _
  rw [List.drop_zero, List.take_append_of_le_length (by rw [cz]; omega), List.take_of_length_le (by rw [cz]; omega)]; rfl
 | x :: r, n + 1, hn => by
  show ((ah x ++ fM r).drop ((n + 1) * 4)).take 4 = _
  rw [List.drop_append, List.drop_of_length_le (by rw [cz]; omega), List.nil_append, cz, show (n + 1) * 4 - 4 = n * 4 by omega]
  exact tH r (by simpa using hn)
theorem aiw (l : List GDesc) {n : Nat} (h : l.length * 4 = n) : (fM l).take n = fM l := List.take_of_length_le (by rw [nQ]; omega)
theorem oe : ∀ (l : List GDesc) (d : GDesc) {n : Nat} (h : n < l.length), spliceD (fM l) (n * 4) (ah d) = fM (l.set n d)
 | x :: r, d, 0, _ => by
  show (ah x ++ fM r).take (0 * 4) ++ ah d ++ (ah x ++ fM r).drop (0 * 4 + (ah d).length) = ah d ++ fM r
  rw [cz, List.drop_append, List.drop_of_length_le (by rw [cz]; omega), cz]
  simp
 | x :: r, d, n + 1, hn => by
  have ih := oe r d (n := n) (by simpa using hn)
  unfold spliceD at ih ⊢
  rw [cz] at ih ⊢
  show (ah x ++ fM r).take ((n + 1) * 4) ++ ah d ++ (ah x ++ fM r).drop ((n + 1) * 4 + 4) = ah x ++ fM (r.set n d)
  rw [List.take_append, List.drop_append, List.take_of_length_le (by rw [cz]; omega), List.drop_of_length_le (l := ah x) (by rw [cz]; omega), cz, show (n + 1) * 4 - 4 = n * 4 by omega, show (n + 1) * 4 + 4 - 4 = n * 4 + 4 by omega, ← ih]
  simp
theorem js {r : Nat → Option Rn} : ∀ {a a' b b' : List DV}, wkDs r a a' → wkDs r b b' → wkDs r (a ++ b) (a' ++ b')
 | [], a', b, b', h, h' => by simp only [wkDs] at h; subst h; exact h'
 | d :: l, [], b, b', h, _ => by simp [wkDs] at h
 | d :: l, e :: m, b, b', h, h' => by
  simp only [wkDs] at h
  show wkDs r (d :: (l ++ b)) (e :: (m ++ b'))
  simp only [wkDs]
  exact ⟨h.1, js h.2 h'⟩
def zL : List GDesc := List.replicate 256 aO
theorem aaW (r : Nat → Option Rn) : wkDs r (fM zL) zA := by
 unfold fM zL zA
 generalize 256 = n
 induction n with
 | zero => rfl
 | succ n ih =>
  rw [List.replicate_succ, List.replicate_succ, List.flatMap_cons, List.flatMap_cons]
  refine js ?_ ih
  simp [ah, aO, wkDs, wkD, wkV, wkFz]
theorem dO (r : Nat → Option Rn) : ∀ (l : List GDesc), wkDs r (fM l) (fM l)
 | [] => rfl
 | x :: l => js (a := ah x) (a' := ah x) (by simp [ah, wkDs, wkD, wkV, wkFz]) (dO r l)
def f_ (self : UInt8) (l : List GDesc) (d : GDesc) : List GDesc :=
 if d.node = self ∨ d.inc = 0 then l else match l[d.node.toNat]? with
  | some e => if e.inc = 0 ∨ eQ d e = true then l.set d.node.toNat d else l
  | none => l
theorem abz {self : UInt8} {l : List GDesc} {d : GDesc} : (f_ self l d).length = l.length := by
 unfold f_
 split
 ·rfl
 ·split
  ·split <;> simp
  ·rfl
def eI (self : UInt8) (l : List GDesc) (ds : List GDesc) : List GDesc := ds.foldl (f_ self) l
theorem mL {self : UInt8} : ∀ {ds l : List GDesc}, (eI self l ds).length = l.length
 | [], l => rfl
 | d :: r, l => by
  show (eI self (f_ self l d) r).length = _
  rw [mL, abz]
def bl (self : UInt8) (L : List (List GDesc)) : List GDesc := (eI self zL L.flatten).filter fun d => decide ((0 : Int) < (d.inc.toNat : Int))
end Go.Eng
namespace Go.Proofs.YtlaefellhnkfbaaGreat.V
open Go.Eng
attribute [local go_sem] aU ah fzD plR bH bw aM bL aJ au bu dC z8 z16 z32 z64 ax aZ
@[local go_sem] theorem al6 : cm Tryz.prog 238 = some zA := by kernel_rfl
theorem akf : onesD zA = true := by kernel_rfl
def lE (L : List (List GDesc)) : List (List DV) := L.map fun l => [fzD l]
theorem qX (self : UInt8) (L : List (List GDesc)) (hL : L.length ≤ 4000000) (hl : ∀ l ∈ L, bZ l) : Con2 Tryz.prog 169 [.v (.int .u8 self.toNat), .fz 1 (lE L)] (· = plR (fzD (bl self L))) := by
 refine Con2.ofEmb ?_
 have hLl : (lE L).length = L.length := by rw [lE, List.length_map]
 have hge0 : ∀ k (hk : k < L.length), (lE L)[k]? = some [fzD L[k]] := fun k hk => by rw [lE, List.getElem?_map, List.getElem?_eq_getElem hk]; rfl
 generalize lE L = E at hLl hge0
 refine af Ty.mixed Tryz.func169 rfl (by kernel_rfl) (by kernel_rfl) rfl [.tmp 4] rfl ?_
 refine g2_ ?_
 refine ⟨akf, ?_⟩
 refine gf_ hLl ?_
 refine aB L.length (fun k => []) (fun k => [(5, ⟨fM (eI self zL (L.take k).flatten), 238⟩)]) (fun k => []) 0 (fun _ => True) (ab [] ?_) trivial (fun g k => by simp -implicitDefEqProofs only [go_sem, aa]) (by omega) (fun g => by simp -implicitDefEqProofs only [go_sem, aa]) (fun k hk _ => ?_) (fun _ => ?_)
 ·repeat first | simp -implicitDefEqProofs only [go_sem, aa, List.take_zero, List.flatten_nil] | with_reducible refine gl_ ?_
  exact ⟨rfl, aaW _⟩
 ·have hge := hge0 k hk
  obtain ⟨hb, hb2⟩ := hl _ (List.getElem_mem hk)
  refine gf_ hge ?_
  generalize hlk : L[k] = lk at hb hb2
  refine aB lk.length (fun j => []) (fun j => [(5, ⟨fM (eI self zL ((L.take k).flatten ++ lk.take j)), 238⟩)]) (fun j => []) 0 (fun _ => True) (ab [] ?_) trivial (fun g j => by simp -implicitDefEqProofs only [go_sem, aa]) (by omega) (fun g => by simp -implicitDefEqProofs only [go_sem, aa]) (fun j hj _ => ?_) (fun _ => ?_)
  ·repeat first | simp -implicitDefEqProofs only [go_sem, aa, List.take_zero, List.append_nil] | with_reducible refine gl_ ?_
   exact ⟨rfl, dO _ _⟩
  ·have hnd := lk[j].node.toNat_lt
   have hstep : eI self zL ((L.take k).flatten ++ lk.take (j + 1)) = f_ self (eI self zL ((L.take k).flatten ++ lk.take j)) lk[j] := by
    rw [List.take_add_one, List.getElem?_eq_getElem hj, ← List.append_assoc, eI, List.foldl_append]; rfl
   have hlen : (eI self zL ((L.take k).flatten ++ lk.take j)).length = 256 := by rw [mL]; simp [zL]
   repeat first | simp -implicitDefEqProofs only [go_sem, aa, aw hj] | with_reducible first | refine gl_ ?_ | refine ga_ ?_ | refine gn_ ?_
   generalize lk[j] = d at hstep hnd
   generalize hA : eI self zL ((L.take k).flatten ++ lk.take j) = A at hstep hlen
   have hn : d.node.toNat < A.length := by omega
   have hA1 : (fM A).length = 1024 := by rw [nQ, hlen]
   have hw := tH A hn
   have hsp := oe A d hn
   have hge2 := List.getElem?_eq_getElem hn
   have hnw := ze d A[d.node.toNat]
   have hst : f_ self A d = if d.node = self ∨ d.inc = 0 then A else if A[d.node.toNat].inc = 0 ∨ eQ d A[d.node.toNat] = true then A.set d.node.toNat d else A := by
    unfold f_; rw [hge2]
   generalize A[d.node.toNat] = e at hw hnw hst
   rw [hst] at hstep
   simp only [ah] at hw hsp
   rw [cM]
   by_cases h1 : d.node = self
   ·rw [if_pos (.inl h1)] at hstep
    rw [decide_eq_true h1]
    refine g2_ ?_
    refine ⟨j + 1, ab [] ?_, rfl⟩
    repeat first | simp -implicitDefEqProofs only [go_sem, aa, hstep] | with_reducible refine gl_ ?_
    first | done | exact dO _ _ | exact ⟨rfl, dO _ _⟩ | trace_state
   rw [decide_eq_false h1]
   refine g2_ ?_
   rw [qY]
   by_cases h2 : d.inc = 0
   ·rw [if_pos (.inr h2)] at hstep
    rw [decide_eq_true h2]
    refine g2_ ?_
    refine ⟨j + 1, ab [] ?_, rfl⟩
    repeat first | simp -implicitDefEqProofs only [go_sem, aa, hstep] | with_reducible refine gl_ ?_
    first | done | exact dO _ _ | exact ⟨rfl, dO _ _⟩ | trace_state
   rw [if_neg (by simp [h1, h2])] at hstep
   rw [decide_eq_false h2]
   have hle : decide (d.node.toNat * 4 ≤ 1020) = true := decide_eq_true (by omega)
   have hle2 : d.node.toNat * 4 ≤ 1020 := by omega
   refine gh_ hA1 hw hle ?_
   rw [qY]
   by_cases h3 : e.inc = 0
   ·rw [if_pos (.inl h3)] at hstep
    rw [decide_eq_true h3]
    repeat first | simp -implicitDefEqProofs only [go_sem, aa, hA1, hw, hle, hle2, hsp] | with_reducible first | refine gl_ ?_ | refine ga_ ?_ | refine gn_ ?_
    refine ⟨j + 1, ab [] ?_, rfl⟩
    repeat first | simp -implicitDefEqProofs only [go_sem, aa, hstep] | with_reducible refine gl_ ?_
    first | done | exact dO _ _ | exact ⟨rfl, dO _ _⟩ | trace_state
   rw [decide_eq_false h3]
   refine g2_ ?_
   refine CallS.eq hnw ws_ (.inl ws_) ?_
   refine g2_ ?_
   cases h4 : eQ d e with
   | true =>
    rw [if_pos (.inr h4)] at hstep
    repeat first | simp -implicitDefEqProofs only [go_sem, aa, hA1, hw, hle, hle2, hsp] | with_reducible first | refine gl_ ?_ | refine ga_ ?_ | refine gn_ ?_
    refine ⟨j + 1, ab [] ?_, rfl⟩
    repeat first | simp -implicitDefEqProofs only [go_sem, aa, hstep] | with_reducible refine gl_ ?_
    first | done | exact dO _ _ | exact ⟨rfl, dO _ _⟩ | trace_state
   | false =>
    rw [if_neg (by simp [h3, h4])] at hstep
    refine g2_ ?_
    refine ⟨j + 1, ab [] ?_, rfl⟩
    repeat first | simp -implicitDefEqProofs only [go_sem, aa, hstep] | with_reducible refine gl_ ?_
    first | done | exact dO _ _ | exact ⟨rfl, dO _ _⟩ | trace_state
  ·have hend : (L.take (k + 1)).flatten = (L.take k).flatten ++ lk.take lk.length := by
    rw [List.take_add_one, List.getElem?_eq_getElem hk, hlk, List.take_of_length_le (Nat.le_refl _)]; simp
   refine g2_ ?_
   refine ⟨k + 1, ab [] ?_, rfl⟩
   repeat first | simp -implicitDefEqProofs only [go_sem, aa, hend] | with_reducible refine gl_ ?_
   first | done | exact dO _ _ | exact ⟨rfl, dO _ _⟩ | trace_state
 ·rw [List.take_of_length_le (Nat.le_refl _)]
  have hlen : (eI self zL L.flatten).length = 256 := by rw [mL]; simp [zL]
  have hok : ∀ d ∈ eI self zL L.flatten, d.filter.length ≤ 4000000 := by
   have key : ∀ (D A : List GDesc), (∀ d ∈ A, d.filter.length ≤ 4000000) → (∀ d ∈ D, d.filter.length ≤ 4000000) → ∀ d ∈ eI self A D, d.filter.length ≤ 4000000 := by
    intro D
    induction D with
    | nil => intro A hA _; exact hA
    | cons x r ih =>
     intro A hA hD
     refine ih (f_ self A x) ?_ (fun d hd => hD d (List.mem_cons_of_mem _ hd))
     intro d hd
     unfold f_ at hd
     split at hd
     ·exact hA d hd
     ·split at hd
      ·split at hd
       ·rcases List.mem_or_eq_of_mem_set hd with h | rfl
        ·exact hA d h
        ·exact hD _ List.mem_cons_self
       ·exact hA d hd
      ·exact hA d hd
   refine key _ _ ?_ ?_
   ·intro d hd
    rw [List.eq_of_mem_replicate hd]; simp [aO]
   ·intro d hd
    obtain ⟨l, h1, h2⟩ := List.mem_flatten.1 hd
    exact (hl l h1).2 d h2
  unfold bl
  generalize eI self zL L.flatten = A at hlen hok
  have hA1 : (fM A).length = 1024 := by rw [nQ, hlen]
  have hA2 : (fM A).take 1024 = fM A := aiw A (by rw [hlen])
  refine gg_ hA1 hA2 ?_
  generalize hP : (fun d : GDesc => decide ((0 : Int) < (d.inc.toNat : Int))) = P
  have hPd : ∀ d, P d = decide ((0 : Int) < (d.inc.toNat : Int)) := fun d => by rw [← hP]
  have hle3 : ∀ k, ((A.take k).filter P).length ≤ 256 := fun k => by have := mH (f := P) A k; omega
  refine aB 256 (fun k => [(11, .d (.rf 0 0 ((A.take k).filter P).length))]) (fun _ => []) (fun k => [(0, .arr 34 4 (((A.take k).filter P).map ah) false)]) 1 (fun _ => True) (ab [(0, .nil 4)] ?_) trivial (fun g k => by first | rfl | ((repeat first | simp -implicitDefEqProofs only [go_sem, aa] | with_reducible refine gl_ ?_); rfl)) (by omega) (fun g => by simp -implicitDefEqProofs only [go_sem, aa]) (fun k hk _ => ?_) (fun _ => ?_)
  ·repeat first | simp -implicitDefEqProofs only [go_sem, aa, List.take_zero, List.filter_nil] | with_reducible refine gl_ ?_
   repeat' (first | exact dO _ _ | rfl | exact aaW _ | (refine And.intro ?_ ?_))
   all_goals trace_state
  ·have hk2 : k < A.length := by omega
   have hw := tH A hk2
   have hsn := i4 (f := P) hk2
   have hle4 := hle3 k
   have hle : decide (k * 4 ≤ 1020) = true := decide_eq_true (by omega)
   rw [hPd] at hsn
   generalize A[k] = d at hw hsn
   simp only [ah] at hw
   refine gh_ hA1 hw hle ?_
   by_cases h : (0 : Int) < (d.inc.toNat : Int)
   ·rw [decide_eq_true h]
    refine gx_ ?_
    refine ⟨k + 1, ab [(0, .to 2)] ?_, rfl⟩
    repeat first | simp -implicitDefEqProofs only [go_sem, aa, hsn, h, decide_true, if_true, List.length_append] | with_reducible refine gl_ ?_
    repeat' (first | exact dO _ _ | exact aaW _ | (refine And.intro ?_ ?_) | (with_reducible rfl) | (simp [ah]; done))
   ·rw [decide_eq_false h]
    refine g2_ ?_
    refine ⟨k + 1, ab [(0, .to 0)] ?_, rfl⟩
    repeat first | simp -implicitDefEqProofs only [go_sem, aa, hsn, h, decide_false, if_false, List.append_nil] | with_reducible refine gl_ ?_
    repeat' (first | exact dO _ _ | exact aaW _ | (refine And.intro ?_ ?_) | (with_reducible rfl) | (simp [ah]; done))
  ·rw [List.take_of_length_le (by omega)]
   have hcp := aS (A.filter P) ⟨by have := List.length_filter_le P A; omega, fun d hd => hok d (List.mem_filter.1 hd).1⟩
   refine g2_ ?_
   refine CallS.eq hcp ws_ (.inl ws_) ?_
   refine g2_ ?_
   refine ae ?_ rfl
   exact ws_
end Go.Proofs.YtlaefellhnkfbaaGreat.V
