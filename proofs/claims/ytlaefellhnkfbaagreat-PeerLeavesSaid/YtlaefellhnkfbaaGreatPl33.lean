/-
  Part 33 of the proof of Pl: the engine and the walks, in their order.
-/
import Derived.Test.YtlaefellhnkfbaaGreatPl32
set_option linter.unusedSimpArgs false
set_option linter.unusedVariables false
set_option maxRecDepth 10000
namespace Go.Eng
def arrC (l : List GDesc) : List DV := l.flatMap encDD
def zA : List DV := (List.replicate 256 ()).flatMap fun _ => [.v (.int .u8 0), .v (.int .u16 0), .v (.int .u8 0), .v (.slice none 0 0)]
theorem encDD_len (d : GDesc) : (encDD d).length = 4 := rfl
theorem arr_len : ∀ (l : List GDesc), (arrC l).length = l.length * 4
  | [] => rfl
  | x :: r => by
    have := arr_len r
    unfold arrC at this ⊢
    rw [List.flatMap_cons, List.length_append, encDD_len, this, List.length_cons]; omega
theorem arr_win : ∀ (l : List GDesc) {n : Nat} (h : n < l.length), ((arrC l).drop (n * 4)).take 4 = encDD l[n]
  | x :: r, 0, _ => by
    show ((encDD x ++ arrC r).drop 0).take 4 = _
    rw [List.drop_zero, List.take_append_of_le_length (by rw [encDD_len]; omega), List.take_of_length_le (by rw [encDD_len]; omega)]; rfl
  | x :: r, n + 1, hn => by
    show ((encDD x ++ arrC r).drop ((n + 1) * 4)).take 4 = _
    rw [List.drop_append, List.drop_of_length_le (by rw [encDD_len]; omega), List.nil_append, encDD_len, show (n + 1) * 4 - 4 = n * 4 by omega]
    exact arr_win r (by simpa using hn)
theorem arr_all (l : List GDesc) {n : Nat} (h : l.length * 4 = n) : (arrC l).take n = arrC l := List.take_of_length_le (by rw [arr_len]; omega)
theorem arr_splice : ∀ (l : List GDesc) (d : GDesc) {n : Nat} (h : n < l.length), spliceD (arrC l) (n * 4) (encDD d) = arrC (l.set n d)
  | x :: r, d, 0, _ => by
    show (encDD x ++ arrC r).take (0 * 4) ++ encDD d ++ (encDD x ++ arrC r).drop (0 * 4 + (encDD d).length) = encDD d ++ arrC r
    rw [encDD_len, List.drop_append, List.drop_of_length_le (by rw [encDD_len]; omega), encDD_len]
    simp
  | x :: r, d, n + 1, hn => by
    have ih := arr_splice r d (n := n) (by simpa using hn)
    unfold spliceD at ih ⊢
    rw [encDD_len] at ih ⊢
    show (encDD x ++ arrC r).take ((n + 1) * 4) ++ encDD d ++ (encDD x ++ arrC r).drop ((n + 1) * 4 + 4) = encDD x ++ arrC (r.set n d)
    rw [List.take_append, List.drop_append, List.take_of_length_le (by rw [encDD_len]; omega), List.drop_of_length_le (l := encDD x) (by rw [encDD_len]; omega), encDD_len, show (n + 1) * 4 - 4 = n * 4 by omega, show (n + 1) * 4 + 4 - 4 = n * 4 + 4 by omega, ← ih]
    simp
theorem wkDs_append {r : Nat → Option Rn} : ∀ {a a' b b' : List DV}, wkDs r a a' → wkDs r b b' → wkDs r (a ++ b) (a' ++ b')
  | [], a', b, b', h, h' => by simp only [wkDs] at h; subst h; exact h'
  | d :: l, [], b, b', h, _ => by simp [wkDs] at h
  | d :: l, e :: m, b, b', h, h' => by
    simp only [wkDs] at h
    show wkDs r (d :: (l ++ b)) (e :: (m ++ b'))
    simp only [wkDs]
    exact ⟨h.1, wkDs_append h.2 h'⟩
def zL : List GDesc := List.replicate 256 zDesc
theorem zA_wk (r : Nat → Option Rn) : wkDs r (arrC zL) zA := by
  unfold arrC zL zA
  generalize 256 = n
  induction n with
  | zero => rfl
  | succ n ih =>
    rw [List.replicate_succ, List.replicate_succ, List.flatMap_cons, List.flatMap_cons]
    refine wkDs_append ?_ ih
    simp [encDD, zDesc, wkDs, wkD, wkV, wkFz]
theorem arr_wk (r : Nat → Option Rn) : ∀ (l : List GDesc), wkDs r (arrC l) (arrC l)
  | [] => rfl
  | x :: l => wkDs_append (a := encDD x) (a' := encDD x) (by simp [encDD, wkDs, wkD, wkV, wkFz]) (arr_wk r l)
def uStep (self : UInt8) (l : List GDesc) (d : GDesc) : List GDesc :=
  if d.node = self ∨ d.inc = 0 then l else match l[d.node.toNat]? with
    | some e => if e.inc = 0 ∨ dNewer d e = true then l.set d.node.toNat d else l
    | none => l
theorem uStep_len {self : UInt8} {l : List GDesc} {d : GDesc} : (uStep self l d).length = l.length := by
  unfold uStep
  split
  · rfl
  · split
    · split <;> simp
    · rfl
def uFold (self : UInt8) (l : List GDesc) (ds : List GDesc) : List GDesc := ds.foldl (uStep self) l
theorem uFold_len {self : UInt8} : ∀ {ds l : List GDesc}, (uFold self l ds).length = l.length
  | [], l => rfl
  | d :: r, l => by
    show (uFold self (uStep self l d) r).length = _
    rw [uFold_len, uStep_len]
def nUnion (self : UInt8) (L : List (List GDesc)) : List GDesc := (uFold self zL L.flatten).filter fun d => decide ((0 : Int) < (d.inc.toNat : Int))
end Go.Eng
namespace Go.Proofs.YtlaefellhnkfbaaGreat.V
open Go.Eng
attribute [local go_sem] encS encDD fzD plR rowR encK encM encRw encC encP encEv encA z8 z16 z32 z64 encMg encRing
@[local go_sem] theorem zeroD238 : zeroD Tryz.prog 238 = some zA := by kernel_rfl
theorem zA_one : onesD zA = true := by kernel_rfl
def encLs (L : List (List GDesc)) : List (List DV) := L.map fun l => [fzD l]
theorem union_con (self : UInt8) (L : List (List GDesc)) (hL : L.length ≤ 1000) (hl : ∀ l ∈ L, okDs l) : Con2 Tryz.prog 169 [.v (.int .u8 self.toNat), .fz 1 (encLs L)] (· = plR (fzD (nUnion self L))) := by
  refine Con2.ofEmb ?_
  have hLl : (encLs L).length = L.length := by rw [encLs, List.length_map]
  have hge0 : ∀ k (hk : k < L.length), (encLs L)[k]? = some [fzD L[k]] := fun k hk => by rw [encLs, List.getElem?_map, List.getElem?_eq_getElem hk]; rfl
  generalize encLs L = E at hLl hge0
  refine con2_of Ty.mixed Tryz.func169 rfl (by kernel_rfl) (by kernel_rfl) rfl [.tmp 4] rfl ?_
  refine g2_ ?_
  refine ⟨zA_one, ?_⟩
  repeat first | simp -implicitDefEqProofs only [go_sem, vc2_blk, hLl] | with_reducible first | refine gl_ ?_ | refine ga_ ?_ | refine gn_ ?_
  refine vc2_rangeA L.length (fun k => []) (fun k => [(5, ⟨arrC (uFold self zL (L.take k).flatten), 238⟩)]) (fun k => []) 0 (fun _ => True) (le2_of [] ?_) trivial (fun g k => by simp -implicitDefEqProofs only [go_sem, vc2_blk]) (by omega) (fun g => by simp -implicitDefEqProofs only [go_sem, vc2_blk]) (fun k hk _ => ?_) (fun _ => ?_)
  · repeat first | simp -implicitDefEqProofs only [go_sem, vc2_blk, List.take_zero, List.flatten_nil] | with_reducible refine gl_ ?_
    exact ⟨rfl, zA_wk _⟩
  · have hge := hge0 k hk
    obtain ⟨hb, hb2⟩ := hl _ (List.getElem_mem hk)
    repeat first | simp -implicitDefEqProofs only [go_sem, vc2_blk, hge] | with_reducible first | refine gl_ ?_ | refine ga_ ?_ | refine gn_ ?_
    generalize hlk : L[k] = lk at hb hb2
    refine vc2_rangeA lk.length (fun j => []) (fun j => [(5, ⟨arrC (uFold self zL ((L.take k).flatten ++ lk.take j)), 238⟩)]) (fun j => []) 0 (fun _ => True) (le2_of [] ?_) trivial (fun g j => by simp -implicitDefEqProofs only [go_sem, vc2_blk]) (by omega) (fun g => by simp -implicitDefEqProofs only [go_sem, vc2_blk]) (fun j hj _ => ?_) (fun _ => ?_)
    · repeat first | simp -implicitDefEqProofs only [go_sem, vc2_blk, List.take_zero, List.append_nil] | with_reducible refine gl_ ?_
      exact ⟨rfl, arr_wk _ _⟩
    · have hnd := lk[j].node.toNat_lt
      have hstep : uFold self zL ((L.take k).flatten ++ lk.take (j + 1)) = uStep self (uFold self zL ((L.take k).flatten ++ lk.take j)) lk[j] := by
        rw [List.take_add_one, List.getElem?_eq_getElem hj, ← List.append_assoc, uFold, List.foldl_append]; rfl
      have hlen : (uFold self zL ((L.take k).flatten ++ lk.take j)).length = 256 := by rw [uFold_len]; simp [zL]
      repeat first | simp -implicitDefEqProofs only [go_sem, vc2_blk, mapE_get hj] | with_reducible first | refine gl_ ?_ | refine ga_ ?_ | refine gn_ ?_
      generalize lk[j] = d at hstep hnd
      generalize hA : uFold self zL ((L.take k).flatten ++ lk.take j) = A at hstep hlen
      have hn : d.node.toNat < A.length := by omega
      have hA1 : (arrC A).length = 1024 := by rw [arr_len, hlen]
      have hw := arr_win A hn
      have hsp := arr_splice A d hn
      have hge2 := List.getElem?_eq_getElem hn
      have hnw := nnewer_con d A[d.node.toNat]
      have hst : uStep self A d = if d.node = self ∨ d.inc = 0 then A else if A[d.node.toNat].inc = 0 ∨ dNewer d A[d.node.toNat] = true then A.set d.node.toNat d else A := by
        unfold uStep; rw [hge2]
      generalize A[d.node.toNat] = e at hw hnw hst
      rw [hst] at hstep
      simp only [encDD] at hw hsp
      rw [u8_beq]
      by_cases h1 : d.node = self
      · rw [if_pos (.inl h1)] at hstep
        rw [decide_eq_true h1]
        refine g2_ ?_
        refine ⟨j + 1, le2_of [] ?_, rfl⟩
        repeat first | simp -implicitDefEqProofs only [go_sem, vc2_blk, hstep] | with_reducible refine gl_ ?_
        first | done | exact arr_wk _ _ | exact ⟨rfl, arr_wk _ _⟩ | trace_state
      rw [decide_eq_false h1]
      refine g2_ ?_
      rw [u16_z]
      by_cases h2 : d.inc = 0
      · rw [if_pos (.inr h2)] at hstep
        rw [decide_eq_true h2]
        refine g2_ ?_
        refine ⟨j + 1, le2_of [] ?_, rfl⟩
        repeat first | simp -implicitDefEqProofs only [go_sem, vc2_blk, hstep] | with_reducible refine gl_ ?_
        first | done | exact arr_wk _ _ | exact ⟨rfl, arr_wk _ _⟩ | trace_state
      rw [if_neg (by simp [h1, h2])] at hstep
      rw [decide_eq_false h2]
      have hle : decide (d.node.toNat * 4 ≤ 1020) = true := decide_eq_true (by omega)
      have hle2 : d.node.toNat * 4 ≤ 1020 := by omega
      repeat first | simp -implicitDefEqProofs only [go_sem, vc2_blk, hA1, hw, hle] | with_reducible first | refine gl_ ?_ | refine ga_ ?_ | refine gn_ ?_
      rw [u16_z]
      by_cases h3 : e.inc = 0
      · rw [if_pos (.inl h3)] at hstep
        rw [decide_eq_true h3]
        repeat first | simp -implicitDefEqProofs only [go_sem, vc2_blk, hA1, hw, hle, hle2, hsp] | with_reducible first | refine gl_ ?_ | refine ga_ ?_ | refine gn_ ?_
        refine ⟨j + 1, le2_of [] ?_, rfl⟩
        repeat first | simp -implicitDefEqProofs only [go_sem, vc2_blk, hstep] | with_reducible refine gl_ ?_
        first | done | exact arr_wk _ _ | exact ⟨rfl, arr_wk _ _⟩ | trace_state
      rw [decide_eq_false h3]
      refine g2_ ?_
      refine CallS.eq hnw ws_ (.inl ws_) ?_
      refine g2_ ?_
      cases h4 : dNewer d e with
      | true =>
        rw [if_pos (.inr h4)] at hstep
        repeat first | simp -implicitDefEqProofs only [go_sem, vc2_blk, hA1, hw, hle, hle2, hsp] | with_reducible first | refine gl_ ?_ | refine ga_ ?_ | refine gn_ ?_
        refine ⟨j + 1, le2_of [] ?_, rfl⟩
        repeat first | simp -implicitDefEqProofs only [go_sem, vc2_blk, hstep] | with_reducible refine gl_ ?_
        first | done | exact arr_wk _ _ | exact ⟨rfl, arr_wk _ _⟩ | trace_state
      | false =>
        rw [if_neg (by simp [h3, h4])] at hstep
        refine g2_ ?_
        refine ⟨j + 1, le2_of [] ?_, rfl⟩
        repeat first | simp -implicitDefEqProofs only [go_sem, vc2_blk, hstep] | with_reducible refine gl_ ?_
        first | done | exact arr_wk _ _ | exact ⟨rfl, arr_wk _ _⟩ | trace_state
    · have hend : (L.take (k + 1)).flatten = (L.take k).flatten ++ lk.take lk.length := by
        rw [List.take_add_one, List.getElem?_eq_getElem hk, hlk, List.take_of_length_le (Nat.le_refl _)]; simp
      refine g2_ ?_
      refine ⟨k + 1, le2_of [] ?_, rfl⟩
      repeat first | simp -implicitDefEqProofs only [go_sem, vc2_blk, hend] | with_reducible refine gl_ ?_
      first | done | exact arr_wk _ _ | exact ⟨rfl, arr_wk _ _⟩ | trace_state
  · rw [List.take_of_length_le (Nat.le_refl _)]
    have hlen : (uFold self zL L.flatten).length = 256 := by rw [uFold_len]; simp [zL]
    have hok : ∀ d ∈ uFold self zL L.flatten, d.filter.length ≤ 1000 := by
      have key : ∀ (D A : List GDesc), (∀ d ∈ A, d.filter.length ≤ 1000) → (∀ d ∈ D, d.filter.length ≤ 1000) → ∀ d ∈ uFold self A D, d.filter.length ≤ 1000 := by
        intro D
        induction D with
        | nil => intro A hA _; exact hA
        | cons x r ih =>
          intro A hA hD
          refine ih (uStep self A x) ?_ (fun d hd => hD d (List.mem_cons_of_mem _ hd))
          intro d hd
          unfold uStep at hd
          split at hd
          · exact hA d hd
          · split at hd
            · split at hd
              · rcases List.mem_or_eq_of_mem_set hd with h | rfl
                · exact hA d h
                · exact hD _ List.mem_cons_self
              · exact hA d hd
            · exact hA d hd
      refine key _ _ ?_ ?_
      · intro d hd
        rw [List.eq_of_mem_replicate hd]; simp [zDesc]
      · intro d hd
        obtain ⟨l, h1, h2⟩ := List.mem_flatten.1 hd
        exact (hl l h1).2 d h2
    unfold nUnion
    generalize uFold self zL L.flatten = A at hlen hok
    have hA1 : (arrC A).length = 1024 := by rw [arr_len, hlen]
    have hA2 : (arrC A).take 1024 = arrC A := arr_all A (by rw [hlen])
    repeat first | simp -implicitDefEqProofs only [go_sem, vc2_blk, hA1, hA2] | with_reducible first | refine gl_ ?_ | refine ga_ ?_ | refine gn_ ?_
    generalize hP : (fun d : GDesc => decide ((0 : Int) < (d.inc.toNat : Int))) = P
    have hPd : ∀ d, P d = decide ((0 : Int) < (d.inc.toNat : Int)) := fun d => by rw [← hP]
    have hle3 : ∀ k, ((A.take k).filter P).length ≤ 256 := fun k => by have := filter_tl (f := P) A k; omega
    refine vc2_rangeA 256 (fun k => [(11, .d (.rf 0 0 ((A.take k).filter P).length))]) (fun _ => []) (fun k => [(0, .arr 34 4 (((A.take k).filter P).map encDD) false)]) 1 (fun _ => True) (le2_of [(0, .nil 4)] ?_) trivial (fun g k => by first | rfl | (((try (with_reducible refine leK2_refl ?_)); simp -implicitDefEqProofs only [go_sem, vc2_blk]; repeat ((with_reducible refine leK2_refl ?_); simp -implicitDefEqProofs only [go_sem, vc2_blk])); rfl)) (by omega) (fun g => by simp -implicitDefEqProofs only [go_sem, vc2_blk]) (fun k hk _ => ?_) (fun _ => ?_)
    · repeat first | simp -implicitDefEqProofs only [go_sem, vc2_blk, List.take_zero, List.filter_nil] | with_reducible refine gl_ ?_
      repeat' (first | exact arr_wk _ _ | rfl | exact zA_wk _ | (refine And.intro ?_ ?_))
      all_goals trace_state
    · have hk2 : k < A.length := by omega
      have hw := arr_win A hk2
      have hsn := filter_snoc (f := P) hk2
      have hle4 := hle3 k
      have hle : decide (k * 4 ≤ 1020) = true := decide_eq_true (by omega)
      rw [hPd] at hsn
      generalize A[k] = d at hw hsn
      simp only [encDD] at hw
      repeat first | simp -implicitDefEqProofs only [go_sem, vc2_blk, hA1, hw, hle] | with_reducible first | refine gl_ ?_ | refine ga_ ?_ | refine gn_ ?_
      by_cases h : (0 : Int) < (d.inc.toNat : Int)
      · rw [decide_eq_true h]
        repeat first | simp -implicitDefEqProofs only [go_sem, vc2_blk, List.length_map] | with_reducible first | refine gl_ ?_ | refine ga_ ?_ | refine gn_ ?_
        refine ⟨k + 1, le2_of [(0, .to 2)] ?_, rfl⟩
        repeat first | simp -implicitDefEqProofs only [go_sem, vc2_blk, hsn, h, decide_true, if_true, List.length_append] | with_reducible refine gl_ ?_
        repeat' (first | exact arr_wk _ _ | exact zA_wk _ | (refine And.intro ?_ ?_) | (with_reducible rfl) | (simp [encDD]; done))
      · rw [decide_eq_false h]
        refine g2_ ?_
        refine ⟨k + 1, le2_of [(0, .to 0)] ?_, rfl⟩
        repeat first | simp -implicitDefEqProofs only [go_sem, vc2_blk, hsn, h, decide_false, if_false, List.append_nil] | with_reducible refine gl_ ?_
        repeat' (first | exact arr_wk _ _ | exact zA_wk _ | (refine And.intro ?_ ?_) | (with_reducible rfl) | (simp [encDD]; done))
    · rw [List.take_of_length_le (by omega)]
      have hcp := copyF_con (A.filter P) ⟨by have := List.length_filter_le P A; omega, fun d hd => hok d (List.mem_filter.1 hd).1⟩
      refine g2_ ?_
      refine CallS.eq hcp ws_ (.inl ws_) ?_
      refine g2_ ?_
      refine ret_emb ?_ rfl
      exact ws_
end Go.Proofs.YtlaefellhnkfbaaGreat.V
