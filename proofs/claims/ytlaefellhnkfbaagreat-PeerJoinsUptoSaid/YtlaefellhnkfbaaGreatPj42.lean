/-
 Part 42 of the proof of Pj: the engine and the walks, in their order.
-/
import Derived.Test.YtlaefellhnkfbaaGreatPj34
import Derived.Test.YtlaefellhnkfbaaGreatPj41
import Derived.Sort.AssemblyPlain
set_option linter.unusedSimpArgs false
set_option linter.unusedVariables false
namespace Go.Eng
open Go.Sort
theorem swoU : SWO ltU where
 irrefl x := by simp [ltU]
 trans x y z := by simp only [ltU, decide_eq_true_eq]; exact UInt8.lt_trans
 ntrans x y z := by
  simp only [ltU, decide_eq_false_iff_not, UInt8.not_lt]
  intro h1 h2
  exact UInt8.le_trans h2 h1
theorem al9 (x y : UInt8) (h1 : ltU x y = false) (h2 : ltU y x = false) : x = y := by
 simp only [ltU, decide_eq_false_iff_not, UInt8.not_lt] at h1 h2
 exact UInt8.le_antisymm h2 h1
def bR (d : Array UInt8) : List (List DV) := d.toList.map a_
theorem agb (d : Array UInt8) : (bR d).length = d.size := by simp [bR]
theorem aG {d : Array UInt8} {i : Nat} (h : i < d.size) : (bR d)[i]? = some [.v (.int .u8 d[i]!.toNat)] := by
 rw [bR, List.getElem?_map, Array.getElem?_toList, Array.getElem?_eq_getElem h, getElem!_pos d i h]; rfl
theorem dH {d : Array UInt8} {i : Nat} {x : UInt8} : (bR d).set i [.v (.int .u8 x.toNat)] = bR (d.setIfInBounds i x) := by
 rw [bR, bR, Array.toList_setIfInBounds, List.map_set]; rfl
theorem cE {d : Array UInt8} {i j : Nat} {x : UInt8} (h : j < d.size) : (bR (d.setIfInBounds i x))[j]? = some [.v (.int .u8 (d.setIfInBounds i x)[j]!.toNat)] := aG (by simpa using h)
theorem alN (l : List UInt8) : l.map a_ = bR l.toArray := rfl
theorem cX {d : Array UInt8} {i j : Nat} : bR ((d.setIfInBounds i d[j]!).setIfInBounds j d[i]!) = bR (swp d i j) := rfl
section
variable {α : Type} {lt : α → α → Bool}
theorem oN {x : α} {P : List α} : ∀ j, j ≤ P.length → c_ lt x P j ≤ j ∧ (∀ i y, c_ lt x P j ≤ i → i < j → P[i]? = some y → lt x y = true) ∧ (c_ lt x P j = 0 ∨ ∃ y, P[c_ lt x P j - 1]? = some y ∧ lt x y = false)
 | 0, _ => ⟨Nat.le_refl _, fun i y _ h => absurd h (Nat.not_lt_zero _), .inl rfl⟩
 | j + 1, h => by
  have hj : j < P.length := h
  cases hc : lt x P[j] with
  | true =>
   rw [kW hj hc]
   obtain ⟨h1, h2, h3⟩ := oN (x := x) (P := P) j (by omega)
   refine ⟨by omega, fun i y hi hij hy => ?_, h3⟩
   by_cases e : i = j
   ·subst e
    rw [List.getElem?_eq_getElem hj] at hy
    cases hy; exact hc
   ·exact h2 i y hi (by omega) hy
  | false =>
   rw [kC hj hc]
   refine ⟨Nat.le_refl _, fun i y hi hij => by omega, .inr ⟨P[j], ?_, hc⟩⟩
   rw [Nat.add_sub_cancel, List.getElem?_eq_getElem hj]
abbrev Asc (lt : α → α → Bool) (P : List α) : Prop := P.Pairwise fun a b => lt b a = false
theorem adB [Inhabited α] (hS : SWO lt) {P : List α} {x : α} (h : Asc lt P) : Asc lt (iZ lt P x) := by
 obtain ⟨h1, h2, h3⟩ := oN (lt := lt) (x := x) (P := P) P.length (Nat.le_refl _)
 rw [iZ, bK]
 generalize c_ lt x P P.length = k at h1 h2 h3
 have hd : ∀ y ∈ P.drop k, lt x y = true := fun y hy => by
  obtain ⟨i, hi, rfl⟩ := List.mem_iff_getElem.1 hy
  rw [List.length_drop] at hi
  exact h2 (k + i) _ (by omega) (by omega) (by rw [List.getElem_drop]; exact List.getElem?_eq_getElem (by omega))
 have ht : ∀ y ∈ P.take k, lt x y = false := fun y hy => by
  obtain ⟨i, hi, rfl⟩ := List.mem_iff_getElem.1 hy
  rw [List.length_take] at hi
  rcases h3 with h3 | ⟨z, hz, h4⟩
  ·omega
  ·obtain ⟨hk, rfl⟩ := List.getElem?_eq_some_iff.1 hz
   rw [List.getElem_take]
   by_cases e : i = k - 1
   ·subst e; exact h4
   ·exact hS.ntrans _ _ _ h4 (List.pairwise_iff_getElem.1 h i (k - 1) (by omega) hk (by omega))
 have hasym : ∀ y, lt x y = true → lt y x = false := fun y hy => by
  cases hc : lt y x with
  | false => rfl
  | true => have := hS.trans x y x hy hc; rw [hS.irrefl] at this; cases this
 refine List.pairwise_append.2 ⟨h.sublist (List.take_sublist _ _), List.pairwise_cons.2 ⟨fun y hy => hasym y (hd y hy), h.sublist (List.drop_sublist _ _)⟩, fun a ha b hb => ?_⟩
 rcases List.mem_cons.1 hb with rfl | hb
 ·exact ht a ha
 ·have := (List.take_append_drop k P).symm ▸ h
  exact (List.pairwise_append.1 this).2.2 a ha b hb
theorem rY {P : List α} {x : α} : (iZ lt P x).Perm (x :: P) := by
 rw [iZ, bK]
 refine List.perm_middle.trans ?_
 rw [List.take_append_drop]
theorem je [Inhabited α] (hS : SWO lt) : ∀ (l P : List α), Asc lt P → Asc lt (l.foldl (iZ lt) P) ∧ (l.foldl (iZ lt) P).Perm (l ++ P)
 | [], P, h => ⟨h, List.Perm.refl _⟩
 | x :: r, P, h => by
  obtain ⟨h1, h2⟩ := je hS r (iZ lt P x) (adB hS h)
  refine ⟨h1, h2.trans ?_⟩
  have e1 : (r ++ iZ lt P x).Perm (r ++ (x :: P)) := (List.Perm.refl r).append rY
  exact e1.trans List.perm_middle
theorem pT [Inhabited α] (hS : SWO lt) (l : List α) : Asc lt (aL lt l) := (je hS l [] List.Pairwise.nil).1
theorem wF [Inhabited α] (hS : SWO lt) (l : List α) : (aL lt l).Perm l := by
 have := (je hS l [] List.Pairwise.nil).2
 rwa [List.append_nil] at this
end
def Todo (R : Array UInt8 → Prop) (a b : Nat) (d : Array UInt8) : Prop := ∀ d', PermIn a b d d' → SortedIn ltU a b d' → R d'
section
variable {R : Array UInt8 → Prop} {a b mid : Nat} {d d1 d2 : Array UInt8}
theorem Todo.perm (h : Todo R a b d) (hp : PermIn a b d d1) : Todo R a b d1 := fun d' h1 h2 => h d' (permIn_trans _ _ _ _ _ hp h1) h2
theorem Todo.done (h : Todo R a b d) (hs : SortedIn ltU a b d) : R d := h d (permIn_refl _ _ _) hs
theorem yi (l : List UInt8) : Todo (fun d => d.toList = aL ltU l) 0 l.length l.toArray := by
 have key : ∀ d' : Array UInt8, PermIn 0 l.length l.toArray d' → SortedIn ltU 0 l.length d' → d'.toList = l.mergeSort (fun x y => !ltU y x) := fun d' h1 h2 =>
  sorted_unique_holds swoU al9 l.toArray d' (by simpa using h1) (by simpa using h2)
 intro d' h1 h2
 show d'.toList = aL ltU l
 rw [key d' h1 h2]
 refine (key (aL ltU l).toArray ⟨by simp [bD], fun i hi => ?_, ?_⟩ fun i j _ hij hj => ?_).symm
 ·have hi : l.length ≤ i := by omega
  rw [getElem!_neg _ _ (by simp [bD]; omega), getElem!_neg _ _ (by simp; omega)]
 ·have e1 : ((aL ltU l).toArray.extract 0 l.length).toList = aL ltU l := by
   simp; rw [List.take_of_length_le (by rw [bD]; omega)]
  have e2 : (l.toArray.extract 0 l.length).toList = l := by simp
  rw [e1, e2]
  exact wF swoU l
 ·have hl : (aL ltU l).length = l.length := bD
  have := List.pairwise_iff_getElem.1 (pT swoU l) i j (by omega) (by omega) hij
  rw [getElem!_pos _ j (by simp; omega), getElem!_pos _ i (by simp; omega)]
  simpa using this
theorem Todo.right (h : Todo R a b d) (hb : b ≤ d.size) (h1 : a ≤ mid) (h2 : mid < b) (hp : PermIn a b d d1) (hlo : ∀ i, a ≤ i → i < mid → ltU d1[i]! d1[mid]! = true) (hhi : ∀ i, mid < i → i < b → ltU d1[i]! d1[mid]! = false)
  (hp2 : PermIn a mid d1 d2) (hs2 : SortedIn ltU a mid d2) : Todo R (mid + 1) b d2 ∧ Below ltU (mid + 1) b d2 := by
 have z1 : d1.size = d.size := hp.1
 have z2 : d2.size = d1.size := hp2.1
 refine ⟨fun d' g1 g2 => h d' ?_ ?_, .inr fun i hi hib => ?_⟩
 ·exact permIn_trans _ _ _ _ _ hp (permIn_trans _ _ _ _ _ (permIn_mono _ _ _ _ a b (Nat.le_refl _) (by omega) (by omega) hp2) (permIn_mono _ _ _ _ a b (by omega) (Nat.le_refl _) (by omega) g1))
 ·have em : d'[mid]! = d1[mid]! := (g1.2.1 mid (.inl (by omega))).trans (hp2.2.1 mid (.inr (Nat.le_refl _)))
  refine sorted_glue swoU (mid := mid) (hs2.congr fun i hi him => g1.2.1 i (.inl (by omega))) g2 (fun i hi him => ?_) (fun i him hib => ?_)
  ·rw [em, g1.2.1 i (.inl (by omega))]
   exact permIn_all d1 d2 a mid (fun x => ltU x d1[mid]! = true) (by omega) hp2 hlo i hi him
  ·rw [em]
   refine permIn_all d2 d' (mid + 1) b (fun x => ltU x d1[mid]! = false) (by omega) g1 (fun j hj hjb => ?_) i (by omega) hib
   rw [hp2.2.1 j (.inr (by omega))]
   exact hhi j (by omega) hjb
 ·rw [Nat.add_sub_cancel, hp2.2.1 i (.inr (by omega)), hp2.2.1 mid (.inr (Nat.le_refl _))]
  exact hhi i (by omega) hib
theorem Todo.left (h : Todo R a b d) (hb : b ≤ d.size) (h1 : a ≤ mid) (h2 : mid < b) (hp : PermIn a b d d1) (hlo : ∀ i, a ≤ i → i < mid → ltU d1[i]! d1[mid]! = true) (hhi : ∀ i, mid < i → i < b → ltU d1[i]! d1[mid]! = false)
  (hbl : Below ltU a b d) (hp2 : PermIn (mid + 1) b d1 d2) (hs2 : SortedIn ltU (mid + 1) b d2) : Todo R a mid d2 ∧ Below ltU a mid d2 := by
 have z1 : d1.size = d.size := hp.1
 have z2 : d2.size = d1.size := hp2.1
 have hpa : PermIn a b d d2 := permIn_trans _ _ _ _ _ hp (permIn_mono _ _ _ _ a b (by omega) (Nat.le_refl _) (by omega) hp2)
 refine ⟨fun d' g1 g2 => h d' ?_ ?_, (hbl.perm hb hpa).mono (by omega)⟩
 ·exact permIn_trans _ _ _ _ _ hpa (permIn_mono _ _ _ _ a b (Nat.le_refl _) (by omega) (by omega) g1)
 ·have em : d'[mid]! = d1[mid]! := (g1.2.1 mid (.inr (Nat.le_refl _))).trans (hp2.2.1 mid (.inl (by omega)))
  refine sorted_glue swoU (mid := mid) g2 (hs2.congr fun i hi him => g1.2.1 i (.inr (by omega))) (fun i hi him => ?_) (fun i him hib => ?_)
  ·rw [em]
   refine permIn_all d2 d' a mid (fun x => ltU x d1[mid]! = true) (by omega) g1 (fun j hj hjm => ?_) i hi him
   rw [hp2.2.1 j (.inl (by omega))]
   exact hlo j hj hjm
  ·rw [em, g1.2.1 i (.inr (by omega))]
   exact permIn_all d1 d2 (mid + 1) b (fun x => ltU x d1[mid]! = false) (by omega) hp2 (fun j hj hjb => hhi j (by omega) hjb) i (by omega) hib
theorem Todo.equal {p : UInt8} (h : Todo R a b d) (hb : b ≤ d.size) (h1 : a < mid) (h2 : mid ≤ b) (hp : PermIn a b d d1) (hlo : ∀ i, a ≤ i → i < mid → ltU p d1[i]! = false) (hhi : ∀ i, mid ≤ i → i < b → ltU p d1[i]! = true)
  (hge : ∀ i, a ≤ i → i < b → ltU d[i]! p = false) : Todo R mid b d1 ∧ Below ltU mid b d1 := by
 have z1 : d1.size = d.size := hp.1
 have hge1 := permIn_all d d1 a b (fun x => ltU x p = false) hb hp hge
 refine ⟨fun d' g1 g2 => h d' ?_ ?_, .inr fun i hi hib => ?_⟩
 ·exact permIn_trans _ _ _ _ _ hp (permIn_mono _ _ _ _ a b (by omega) (Nat.le_refl _) (by omega) g1)
 ·refine sorted_glue_eq swoU p g2 (fun i hi him => ?_) (fun i hi him => ?_) (fun i him hib => ?_)
  ·rw [g1.2.1 i (.inl (by omega))]; exact hlo i hi him
  ·rw [g1.2.1 i (.inl (by omega))]; exact hge1 i hi (by omega)
  ·exact permIn_all d1 d' mid b (fun x => ltU p x = true) (by omega) g1 hhi i him hib
 ·have g1 := hlo (mid - 1) (by omega) (by omega)
  have g2 := hhi i hi hib
  cases hc : ltU d1[i]! d1[mid - 1]! with
  | false => rfl
  | true => have := swoU.trans _ _ _ g2 hc; rw [g1] at this; cases this
end
end Go.Eng

set_option maxRecDepth 10000
set_option maxHeartbeats 4000000
namespace Go.Eng
open Go.Sort
theorem dB (a b : UInt8) : decide ((a.toNat : Int) < (b.toNat : Int)) = ltU a b := by
 unfold ltU
 congr 1
 exact propext (gQ a b)
@[reducible] def rB (E : TypeId) (T : TypeId) (d : Array UInt8) (L0 : List (List DV)) : List (Nat × Row) := [(1, .arr E 1 (bR d) false), (0, .arr T 1 L0 false)]
theorem qv {a j : Nat} {d : Array UInt8} (h : j ≤ a) : insInner ltU a j d = d := by
 cases j with
 | zero => rfl
 | succ j => rw [insInner, if_neg (by simp; omega)]
theorem qe {a j : Nat} {d : Array UInt8} (h : a < j + 1) : insInner ltU a (j + 1) d = if ltU d[j + 1]! d[j]! = true then insInner ltU a j (swp d (j + 1) j) else d := by
 rw [insInner]
 have h1 : decide (a < j + 1) = true := decide_eq_true h
 cases hc : ltU d[j + 1]! d[j]! <;> simp [h]
end Go.Eng
namespace Go.Proofs.YtlaefellhnkfbaaGreat.V
open Go.Eng Go.Sort
attribute [local go_sem] plR List.map_cons List.map_nil
theorem amf (d : Array UInt8) (a b n : Nat) (hn : d.size = n) (hab : a ≤ b) (hb : b ≤ n) (h50 : n ≤ 50) {L0 : List (List DV)} {ρ σ nb K} (hk : K (.tup []) ⟨ρ, σ, rB 5 32 (insertionSort ltU d a b) L0, 2, nb⟩) :
  CallS Tryz.prog false 182 [.rf 1 0 n, .v (.int .i64 a), .v (.int .i64 b)] ⟨ρ, σ, rB 5 32 d L0, 2, nb⟩ K := by
 refine CallS.inline Ty.mixed Tryz.func182 rfl (by kernel_rfl) (by kernel_rfl) rfl [] rfl (Vc2.of ?_)
 refine g2_ ?_
 refine g2_ ?_
 refine bF (γ := Nat × Array UInt8) (fun g => [(6, .d (.v (.int .i64 (g.1 : Nat))))]) (fun _ => []) (fun g => rB 5 32 g.2 L0) 2 (fun g => g.2.size = n ∧ insOuter ltU a b g.1 g.2 = insertionSort ltU d a b ∧ a + 1 ≤ g.1 ∧ (g.1 ≤ b ∨ g.1 = a + 1)) (fun g => b + 2 - g.1) (a + 1, d) (ab [] ?_) ⟨hn, rfl, Nat.le_refl _, .inr rfl⟩ (fun g hg => ?_)
 ·refine g2_ ?_
  first | done | rfl | exact ⟨rfl, rfl⟩
 obtain ⟨i, D⟩ := g
 obtain ⟨hz, hR, hi1, hi2⟩ := hg
 simp only at hz hR hi1 hi2 ⊢
 refine g2_ ?_
 by_cases hlt : i < b
 ·rw [decide_eq_true (show (i : Int) < (b : Int) by omega)]
  rw [insOuter, if_pos hlt] at hR
  refine g2_ ?_
  refine bF (γ := Nat × Array UInt8) (fun g => [(7, .d (.v (.int .i64 (g.1 : Nat))))]) (fun _ => []) (fun g => rB 5 32 g.2 L0) 2 (fun g => g.2.size = n ∧ insInner ltU a g.1 g.2 = insInner ltU a i D ∧ g.1 ≤ i) (fun g => g.1) (i, D) (ab [] ?_) ⟨hz, rfl, Nat.le_refl _⟩ (fun g hg => ?_)
  ·repeat first | simp -implicitDefEqProofs only [go_sem, aa] | with_reducible refine gl_ ?_
   first | done | rfl | exact ⟨rfl, rfl⟩
  obtain ⟨j, E⟩ := g
  obtain ⟨hz2, hj1, hj2⟩ := hg
  simp only at hz2 hj1 hj2 ⊢
  refine g2_ ?_
  refine .inl ⟨oF [0, 1, 2, 3, 4, 5, 8, 9, 6, 10, 7, 11, 12, 13, 14] [], by kernel_rfl, ?_⟩
  refine g2_ ?_
  by_cases hja : a < j
  ·rw [decide_eq_true (show (a : Int) < (j : Int) by omega)]
   obtain ⟨k, rfl⟩ : ∃ k, j = k + 1 := ⟨j - 1, by omega⟩
   have e1 : ((k + 1 : Nat) : Int) - 1 = (k : Nat) := by omega
   have q1 := aG (d := E) (i := k + 1) (by omega)
   have q2 := aG (d := E) (i := k) (by omega)
   have q3 := cE (d := E) (i := k + 1) (j := k) (x := E[k]!) (by omega)
   have q4 := agb E
   have q5 : ((bR (E.setIfInBounds (k + 1) E[k]!))).length = n := by rw [agb]; simpa using hz2
   have hcc := dA E[k + 1]! E[k]!
   rw [dB] at hcc
   rw [qe hja] at hj1
   refine gh_ q1 q2 e1 ?_
   refine CallS.eq hcc ws_ (.inl ws_) ?_
   refine g2_ ?_
   cases hc : ltU E[k + 1]! E[k]! with
   | true =>
    rw [hc, if_pos rfl] at hj1
    refine g2_ ?_
    refine .inl ⟨oF [0, 1, 2, 3, 5, 6, 10, 11, 4, 7, 12, 8, 13, 9, 14, 15, 16, 17] [], by kernel_rfl, ?_⟩
    repeat first | simp -implicitDefEqProofs only [go_sem, aa, q1, q2, q3, dH, e1, Int.toNat_natCast, List.contains_nil] | with_reducible first | refine gl_ ?_ | refine ga_ ?_ | refine gn_ ?_
    refine ⟨(k, swp E (k + 1) k), ab [] ?_, ⟨by rw [← hz2]; simp [swp], hj1, by simp only []; omega⟩, by simp only []; omega⟩
    exact wf_ @cX
   | false =>
    rw [hc, if_neg (by decide)] at hj1
    rw [hj1]
    refine g2_ ?_
    refine ⟨(i + 1, insInner ltU a i D), ab [] ?_, ⟨by simp only []; rw [← hj1]; exact hz2, hR, by simp only []; omega, by simp only []; omega⟩, by simp only []; omega⟩
    refine g2_ ?_
    rfl
  ·rw [decide_eq_false (show ¬ (a : Int) < (j : Int) by omega)]
   rw [qv (by omega)] at hj1
   rw [hj1]
   refine g2_ ?_
   refine ⟨(i + 1, insInner ltU a i D), ab [] ?_, ⟨by simp only []; rw [← hj1]; exact hz2, hR, by simp only []; omega, by simp only []; omega⟩, by simp only []; omega⟩
   refine g2_ ?_
   rfl
 ·rw [decide_eq_false (show ¬ (i : Int) < (b : Int) by omega)]
  rw [insOuter, if_neg hlt] at hR
  rw [hR]
  refine g2_ ?_
  exact hk
end Go.Proofs.YtlaefellhnkfbaaGreat.V

set_option maxRecDepth 10000
set_option maxHeartbeats 4000000
namespace Go.Eng
open Go.Sort
def gw (hi F r : Nat) (d : Array UInt8) : Nat := if 2 * r + 1 + 1 < hi ∧ ltU d[F + (2 * r + 1)]! d[F + (2 * r + 1) + 1]! = true then 2 * r + 2 else 2 * r + 1
theorem pN {hi F r : Nat} {d : Array UInt8} (h : hi ≤ 2 * r + 1) : siftDown ltU hi F r d = d := by
 rw [siftDown, dif_pos h]
theorem jW {hi F r : Nat} {d : Array UInt8} (h : 2 * r + 1 < hi) : gw hi F r d < hi ∧ r < gw hi F r d := by
 unfold gw
 split <;> omega
theorem qT {hi F r : Nat} {d : Array UInt8} (h : 2 * r + 1 < hi) :
  siftDown ltU hi F r d = if ltU d[F + r]! d[F + gw hi F r d]! = true then siftDown ltU hi F (gw hi F r d) (swp d (F + r) (F + gw hi F r d)) else d := by
 rw [siftDown, dif_neg (by omega)]
 unfold gw
 by_cases h1 : 2 * r + 1 + 1 < hi ∧ ltU d[F + (2 * r + 1)]! d[F + (2 * r + 1) + 1]! = true
 ·rw [if_pos (by simpa using h1), if_pos h1]
  have h2 : 2 * r + 2 < hi := h1.1
  cases hc : ltU d[F + r]! d[F + (2 * r + 2)]! with
  | true => simp [h2]
  | false => simp
 ·rw [if_neg (by simpa using h1), if_neg h1]
  cases hc : ltU d[F + r]! d[F + (2 * r + 1)]! with
  | true => simp
  | false => simp
theorem sj (hi F : Nat) : ∀ (r : Nat) (d : Array UInt8), (siftDown ltU hi F r d).size = d.size := by
 have key : ∀ m r (d : Array UInt8), hi - r ≤ m → (siftDown ltU hi F r d).size = d.size := by
  intro m
  induction m with
  | zero => intro r d h; rw [pN (by omega)]
  | succ m ih =>
   intro r d h
   by_cases h1 : 2 * r + 1 < hi
   ·have h2 := jW (F := F) (d := d) h1
    rw [qT h1]
    split
    ·rw [ih _ _ (by omega)]; simp [swp]
    ·rfl
   ·rw [pN (by omega)]
 exact fun r d => key _ r d (Nat.le_refl _)
end Go.Eng
namespace Go.Proofs.YtlaefellhnkfbaaGreat.V
open Go.Eng Go.Sort
attribute [local go_sem] plR List.map_cons List.map_nil
theorem ajS (d : Array UInt8) (lo hi first n : Nat) (hn : d.size = n) (hb : first + hi ≤ n) (hlo : lo ≤ n) (h50 : n ≤ 50) {L0 : List (List DV)} {ρ σ nb K} (hk : K (.tup []) ⟨ρ, σ, rB 5 32 (siftDown ltU hi first lo d) L0, 2, nb⟩) :
  CallS Tryz.prog false 223 [.rf 1 0 n, .v (.int .i64 lo), .v (.int .i64 hi), .v (.int .i64 first)] ⟨ρ, σ, rB 5 32 d L0, 2, nb⟩ K := by
 refine CallS.inline Ty.mixed Tryz.func223 rfl (by kernel_rfl) (by kernel_rfl) rfl [] rfl (Vc2.of ?_)
 refine g2_ ?_
 refine g2_ ?_
 refine bF (γ := Nat × Array UInt8) (fun g => [(8, .d (.v (.int .i64 (g.1 : Nat))))]) (fun _ => []) (fun g => rB 5 32 g.2 L0) 2 (fun g => g.2.size = n ∧ siftDown ltU hi first g.1 g.2 = siftDown ltU hi first lo d ∧ g.1 ≤ n) (fun g => hi - g.1) (lo, d) (ab [] ?_) ⟨hn, rfl, hlo⟩ (fun g hg => ?_)
 ·repeat first | simp -implicitDefEqProofs only [go_sem, aa] | with_reducible refine gl_ ?_
  first | done | rfl | exact ⟨rfl, rfl⟩
 obtain ⟨r, D⟩ := g
 obtain ⟨hz, hR, hr⟩ := hg
 simp only at hz hR hr ⊢
 have e1 : 2 * (r : Int) + 1 = ((2 * r + 1 : Nat) : Int) := by omega
 have e2 : (first : Int) + (r : Int) = ((first + r : Nat) : Int) := by omega
 have e3 : (first : Int) + ((2 * r + 1 : Nat) : Int) = ((first + (2 * r + 1) : Nat) : Int) := by omega
 have e4 : ((first + (2 * r + 1) : Nat) : Int) + 1 = ((first + (2 * r + 1) + 1 : Nat) : Int) := by omega
 have e5 : ((2 * r + 1 : Nat) : Int) + 1 = ((2 * r + 2 : Nat) : Int) := by omega
 refine gf_ e1 ?_
 by_cases hlt : 2 * r + 1 < hi
 ·rw [decide_eq_false (show ¬ (hi : Int) ≤ ((2 * r + 1 : Nat) : Int) by omega)]
  rw [qT hlt] at hR
  obtain ⟨C, hch⟩ : ∃ C, gw hi first r D = C := ⟨_, rfl⟩
  have q1 := aG (d := D) (i := first + (2 * r + 1)) (by omega)
  refine gf_ e5 ?_
  refine .inl ⟨oF [0, 2, 1, 3, 4, 5, 6, 7, 11, 12, 13, 8, 14, 9, 15, 10, 16, 17, 18, 19] [], by kernel_rfl, ?_⟩
  refine gf_ e5 ?_
  by_cases h2 : 2 * r + 2 < hi
  ·rw [decide_eq_true (show ((2 * r + 2 : Nat) : Int) < (hi : Int) by omega)]
   have q2 := aG (d := D) (i := first + (2 * r + 1) + 1) (by omega)
   have hcc := dA D[first + (2 * r + 1)]! D[first + (2 * r + 1) + 1]!
   rw [dB] at hcc
   refine gi_ q1 q2 e3 e4 ?_
   refine CallS.eq hcc ws_ (.inl ws_) ?_
   refine g2_ ?_
   cases hc : ltU D[first + (2 * r + 1)]! D[first + (2 * r + 1) + 1]! with
   | true =>
    have hC : C = 2 * r + 2 := by rw [← hch, gw, if_pos ⟨h2, hc⟩]
    have eC : (first : Int) + ((2 * r + 2 : Nat) : Int) = ((first + C : Nat) : Int) := by omega
    have hC2 : ((2 * r + 2 : Nat) : Int) = (C : Int) := by omega
    refine gf_ e5 ?_
    have hcl := jW (hi := hi) (F := first) (r := r) (d := D) hlt
    rw [hch] at hcl hR
    have q3 := aG (d := D) (i := first + r) (by omega)
    have q4 := aG (d := D) (i := first + C) (by omega)
    have q5 := cE (d := D) (i := first + r) (j := first + C) (x := D[first + C]!) (by omega)
    have hcc := dA D[first + r]! D[first + C]!
    rw [dB] at hcc
    refine g2_ ?_
    refine .inl ⟨oF [0, 1, 2, 6, 7, 8, 3, 9, 4, 10, 5, 11, 12, 13] [], by kernel_rfl, ?_⟩
    refine gi_ q3 q4 e2 eC ?_
    refine CallS.eq hcc ws_ (.inl ws_) ?_
    refine g2_ ?_
    cases hc2 : ltU D[first + r]! D[first + C]! with
    | true =>
     rw [hc2, if_pos rfl] at hR
     refine g2_ ?_
     refine .inl ⟨oF [0, 1, 2, 4, 5, 6, 8, 9, 10, 14, 15, 16, 3, 7, 11, 17, 12, 18, 13, 19, 20, 21, 22, 23] [], by kernel_rfl, ?_⟩
     repeat first | simp -implicitDefEqProofs only [go_sem, aa, q3, q4, q5, e2, eC, dH, Int.toNat_natCast, List.contains_nil] | with_reducible first | refine gl_ ?_ | refine ga_ ?_ | refine gn_ ?_
     refine ⟨(C, swp D (first + r) (first + C)), ab [] ?_, ⟨by rw [← hz]; simp [swp], hR, by simp only []; omega⟩, by simp only []; omega⟩
     repeat first | simp -implicitDefEqProofs only [go_sem, aa, cX] | with_reducible refine gl_ ?_
     rw [hC2]
    | false =>
     rw [hc2, if_neg (by decide)] at hR
     rw [hR]
     refine g2_ ?_
     exact hk
   | false =>
    have hC : C = 2 * r + 1 := by rw [← hch, gw, if_neg (by rw [hc]; simp)]
    have eC : (first : Int) + ((2 * r + 1 : Nat) : Int) = ((first + C : Nat) : Int) := by omega
    have hC2 : ((2 * r + 1 : Nat) : Int) = (C : Int) := by omega
    refine g2_ ?_
    have hcl := jW (hi := hi) (F := first) (r := r) (d := D) hlt
    rw [hch] at hcl hR
    have q3 := aG (d := D) (i := first + r) (by omega)
    have q4 := aG (d := D) (i := first + C) (by omega)
    have q5 := cE (d := D) (i := first + r) (j := first + C) (x := D[first + C]!) (by omega)
    have hcc := dA D[first + r]! D[first + C]!
    rw [dB] at hcc
    refine g2_ ?_
    refine .inl ⟨oF [0, 1, 2, 6, 7, 8, 3, 9, 4, 10, 5, 11, 12, 13] [], by kernel_rfl, ?_⟩
    refine gi_ q3 q4 e2 eC ?_
    refine CallS.eq hcc ws_ (.inl ws_) ?_
    refine g2_ ?_
    cases hc2 : ltU D[first + r]! D[first + C]! with
    | true =>
     rw [hc2, if_pos rfl] at hR
     refine g2_ ?_
     refine .inl ⟨oF [0, 1, 2, 4, 5, 6, 8, 9, 10, 14, 15, 16, 3, 7, 11, 17, 12, 18, 13, 19, 20, 21, 22, 23] [], by kernel_rfl, ?_⟩
     repeat first | simp -implicitDefEqProofs only [go_sem, aa, q3, q4, q5, e2, eC, dH, Int.toNat_natCast, List.contains_nil] | with_reducible first | refine gl_ ?_ | refine ga_ ?_ | refine gn_ ?_
     refine ⟨(C, swp D (first + r) (first + C)), ab [] ?_, ⟨by rw [← hz]; simp [swp], hR, by simp only []; omega⟩, by simp only []; omega⟩
     repeat first | simp -implicitDefEqProofs only [go_sem, aa, cX] | with_reducible refine gl_ ?_
     rw [hC2]
    | false =>
     rw [hc2, if_neg (by decide)] at hR
     rw [hR]
     refine g2_ ?_
     exact hk
  ·rw [decide_eq_false (show ¬ ((2 * r + 2 : Nat) : Int) < (hi : Int) by omega)]
   have hC : C = 2 * r + 1 := by rw [← hch, gw, if_neg (by omega)]
   have eC : (first : Int) + ((2 * r + 1 : Nat) : Int) = ((first + C : Nat) : Int) := by omega
   have hC2 : ((2 * r + 1 : Nat) : Int) = (C : Int) := by omega
   refine g2_ ?_
   have hcl := jW (hi := hi) (F := first) (r := r) (d := D) hlt
   rw [hch] at hcl hR
   have q3 := aG (d := D) (i := first + r) (by omega)
   have q4 := aG (d := D) (i := first + C) (by omega)
   have q5 := cE (d := D) (i := first + r) (j := first + C) (x := D[first + C]!) (by omega)
   have hcc := dA D[first + r]! D[first + C]!
   rw [dB] at hcc
   refine g2_ ?_
   refine .inl ⟨oF [0, 1, 2, 6, 7, 8, 3, 9, 4, 10, 5, 11, 12, 13] [], by kernel_rfl, ?_⟩
   refine gi_ q3 q4 e2 eC ?_
   refine CallS.eq hcc ws_ (.inl ws_) ?_
   refine g2_ ?_
   cases hc2 : ltU D[first + r]! D[first + C]! with
   | true =>
    rw [hc2, if_pos rfl] at hR
    refine g2_ ?_
    refine .inl ⟨oF [0, 1, 2, 4, 5, 6, 8, 9, 10, 14, 15, 16, 3, 7, 11, 17, 12, 18, 13, 19, 20, 21, 22, 23] [], by kernel_rfl, ?_⟩
    repeat first | simp -implicitDefEqProofs only [go_sem, aa, q3, q4, q5, e2, eC, dH, Int.toNat_natCast, List.contains_nil] | with_reducible first | refine gl_ ?_ | refine ga_ ?_ | refine gn_ ?_
    refine ⟨(C, swp D (first + r) (first + C)), ab [] ?_, ⟨by rw [← hz]; simp [swp], hR, by simp only []; omega⟩, by simp only []; omega⟩
    repeat first | simp -implicitDefEqProofs only [go_sem, aa, cX] | with_reducible refine gl_ ?_
    rw [hC2]
   | false =>
    rw [hc2, if_neg (by decide)] at hR
    rw [hR]
    refine g2_ ?_
    exact hk
 ·rw [decide_eq_true (show (hi : Int) ≤ ((2 * r + 1 : Nat) : Int) by omega)]
  rw [pN (by omega)] at hR
  rw [hR]
  refine g2_ ?_
  exact hk
theorem aly (d : Array UInt8) (a b n : Nat) (hn : d.size = n) (hab : a < b) (hb : b ≤ n) (h50 : n ≤ 50) {L0 : List (List DV)} {ρ σ nb K} (hk : K (.tup []) ⟨ρ, σ, rB 5 32 (heapSort ltU d a b) L0, 2, nb⟩) :
  CallS Tryz.prog false 183 [.rf 1 0 n, .v (.int .i64 a), .v (.int .i64 b)] ⟨ρ, σ, rB 5 32 d L0, 2, nb⟩ K := by
 refine CallS.inline Ty.mixed Tryz.func183 rfl (by kernel_rfl) (by kernel_rfl) rfl [] rfl (Vc2.of ?_)
 refine g2_ ?_
 have e0 : (b : Int) - (a : Int) = ((b - a : Nat) : Int) := by omega
 have e1 : ((b - a : Nat) : Int) - 1 = ((b - a - 1 : Nat) : Int) := by omega
 obtain ⟨H, hH⟩ : ∃ H, b - a = H := ⟨_, rfl⟩
 have hH1 : 1 ≤ H ∧ a + H ≤ n := by omega
 unfold heapSort at hk
 rw [hH] at hk e0 e1
 refine gg_ e0 e1 ?_
 refine Eq.mpr (eX (a := H - 1) (b := 2) rfl rfl (by omega)) ?_
 refine g2_ ?_
 refine bF (γ := Nat × Array UInt8) (fun g => [(9, .d (.v (.int .i64 ((g.1 : Nat) - 1 : Int))))]) (fun _ => []) (fun g => rB 5 32 g.2 L0) 2 (fun g => g.2.size = n ∧ heapBuild ltU H a g.1 g.2 = heapBuild ltU H a ((H - 1) / 2 + 1) d ∧ g.1 ≤ H) (fun g => g.1) ((H - 1) / 2 + 1, d) (ab [] ?_) ⟨hn, rfl, by simp only []; omega⟩ (fun g hg => ?_)
 ·have e2 : ((((H - 1) / 2 + 1 : Nat) : Int)) - 1 = (((H - 1) / 2 : Nat) : Int) := by omega
  repeat first | simp -implicitDefEqProofs only [go_sem, aa, e2] | with_reducible refine gl_ ?_
  first | done | rfl | exact ⟨rfl, rfl⟩
 obtain ⟨k, D⟩ := g
 obtain ⟨hz, hR, hk5⟩ := hg
 simp only at hz hR hk5 ⊢
 refine g2_ ?_
 cases k with
 | succ k =>
  have e3 : ((k + 1 : Nat) : Int) - 1 = (k : Int) := by omega
  rw [e3, decide_eq_true (show (0 : Int) ≤ (k : Int) by omega)]
  rw [heapBuild] at hR
  refine gf_ e3 ?_
  refine ajS D k H a n hz (by omega) (by omega) h50 ?_
  refine g2_ ?_
  refine ⟨(k, siftDown ltU H a k D), ab [] ?_, ⟨?_, hR, by simp only []; omega⟩, by simp only []; omega⟩
  ·exact ws_
  ·exact (sj _ _ _ _).trans hz
 | zero =>
  rw [show decide ((0 : Int) ≤ ((0 : Nat) : Int) - 1) = false from rfl]
  rw [heapBuild] at hR
  rw [← hR] at hk
  clear hR
  refine gf_ e1 ?_
  refine bF (γ := Nat × Array UInt8) (fun g => [(10, .d (.v (.int .i64 ((g.1 : Nat) - 1 : Int))))]) (fun _ => []) (fun g => rB 5 32 g.2 L0) 2 (fun g => g.2.size = n ∧ heapPop ltU a g.1 g.2 = heapPop ltU a H D ∧ g.1 ≤ H) (fun g => g.1) (H, D) (ab [] ?_) ⟨hz, rfl, Nat.le_refl _⟩ (fun g hg => ?_)
  ·repeat first | simp -implicitDefEqProofs only [go_sem, aa, e1] | with_reducible refine gl_ ?_
   first | done | rfl | exact ⟨rfl, rfl⟩
  obtain ⟨k, E⟩ := g
  obtain ⟨hz2, hR, hkH⟩ := hg
  simp only at hz2 hR hkH ⊢
  refine g2_ ?_
  cases k with
  | succ k =>
   have e3 : ((k + 1 : Nat) : Int) - 1 = (k : Int) := by omega
   have e4 : (a : Int) + (k : Int) = ((a + k : Nat) : Int) := by omega
   have q1 := aG (d := E) (i := a) (by omega)
   have q2 := aG (d := E) (i := a + k) (by omega)
   have q3 := cE (d := E) (i := a) (j := a + k) (x := E[a + k]!) (by omega)
   rw [e3, decide_eq_true (show (0 : Int) ≤ (k : Int) by omega)]
   rw [heapPop] at hR
   refine gf_ e3 ?_
   refine .inl ⟨oF [0, 1, 2, 3, 4, 6, 7, 8, 12, 13, 5, 9, 14, 10, 15, 11, 16, 17, 18, 19] [], by kernel_rfl, ?_⟩
   repeat first | simp -implicitDefEqProofs only [go_sem, aa, e3, e4, q1, q2, q3, dH, Int.toNat_natCast, List.contains_nil] | with_reducible first | refine gl_ ?_ | refine ga_ ?_ | refine gn_ ?_
   refine ajS (swp E a (a + k)) 0 k a n (by rw [← hz2]; simp [swp]) (by omega) (by omega) h50 ?_
   refine g2_ ?_
   refine ⟨(k, siftDown ltU k a 0 (swp E a (a + k))), ab [] ?_, ⟨?_, hR, by simp only []; omega⟩, by simp only []; omega⟩
   ·exact ws_
   ·exact (sj _ _ _ _).trans (by rw [← hz2]; simp [swp])
  | zero =>
   rw [show decide ((0 : Int) ≤ ((0 : Nat) : Int) - 1) = false from rfl]
   rw [heapPop] at hR
   rw [hR]
   refine g2_ ?_
   exact hk
end Go.Proofs.YtlaefellhnkfbaaGreat.V

set_option maxRecDepth 10000
set_option maxHeartbeats 4000000
namespace Go.Eng
open Go.Sort
@[reducible] def rV (T : TypeId) (s : Nat) (H : List (Nat × Row)) : List (Nat × Row) := (2, .var T [.v (.int .i64 s)]) :: H
theorem aas {d : Array UInt8} {a b s n : Nat} (ha : a < n) (hb : b < n) : (order2 ltU d a b s).1 < n ∧ (order2 ltU d a b s).2.1 < n ∧ (order2 ltU d a b s).2.2 ≤ s + 1 := by
 unfold order2
 split
 ·exact ⟨hb, ha, Nat.le_refl _⟩
 ·exact ⟨ha, hb, Nat.le_succ _⟩
def ajF : Hint → Int
 | .unknown => 0
 | .increasing => 1
 | .decreasing => 2
end Go.Eng
namespace Go.Proofs.YtlaefellhnkfbaaGreat.V
open Go.Eng Go.Sort
attribute [local go_sem] plR List.map_cons List.map_nil
theorem agY (n : Nat) (hn : n ≤ 26) : Con2 Tryz.prog 192 [.v (.int .u64 n)] (· = plR (.v (.int .i64 (bitsLen n)))) := by
 refine af Ty.mixed Tryz.func192 rfl (by kernel_rfl) (by kernel_rfl) rfl [.tmp 2] rfl ?_
 refine g2_ ?_
 refine g2_ ?_
 rw [show decide ((4294967296 : Int) ≤ n) = false from decide_eq_false (by omega)]
 refine g2_ ?_
 rw [show decide ((65536 : Int) ≤ n) = false from decide_eq_false (by omega)]
 refine g2_ ?_
 rw [show decide ((256 : Int) ≤ n) = false from decide_eq_false (by omega)]
 refine g2_ ?_
 refine jg (by omega) ?_
 refine g2_ ?_
 refine ⟨.int .u8 (bitsLen n), fun w => ?_, ?_⟩
 ·iterate 27 (rcases n with _ | n; · (show _ = _; kernel_rfl))
  omega
 have hb : bitsLen n ≤ 9 := by
  iterate 27 (rcases n with _ | n; · decide)
  omega
 refine gf_ @Int.zero_add ?_
 exact ⟨_, rfl, ab [] (wf_ @Int.zero_add)⟩
theorem oL (n : Nat) (hn : n ≤ 26) : Con2 Tryz.prog 115 [.v (.int .u64 n)] (· = plR (.v (.int .i64 (bitsLen n)))) := by
 refine af Ty.mixed Tryz.func115 rfl (by kernel_rfl) (by kernel_rfl) rfl [.tmp 2] rfl ?_
 refine g2_ ?_
 refine g2_ ?_
 refine CallS.eq (agY n hn) ws_ (.inl ws_) ?_
 refine g2_ ?_
 exact ⟨_, rfl, ab [] ws_⟩
theorem afI (d : Array UInt8) (a b s n : Nat) (hn : d.size = n) (ha : a < n) (hb : b < n) (h50 : n ≤ 50) (hs : s ≤ 100) {L0 : List (List DV)} {ρ σ nb K}
  (hk : K (.tup [.v (.int .i64 ((order2 ltU d a b s).1 : Nat)), .v (.int .i64 ((order2 ltU d a b s).2.1 : Nat))]) ⟨ρ, σ, rV 3 (order2 ltU d a b s).2.2 (rB 5 32 d L0), 3, nb⟩) :
  CallS Tryz.prog false 256 [.rf 1 0 n, .v (.int .i64 a), .v (.int .i64 b), .pt 2 0] ⟨ρ, σ, rV 3 s (rB 5 32 d L0), 3, nb⟩ K := by
 have q1 := aG (d := d) (i := a) (by omega)
 have q2 := aG (d := d) (i := b) (by omega)
 have hcc := dA d[b]! d[a]!
 rw [dB] at hcc
 refine CallS.inline Ty.mixed Tryz.func256 rfl (by kernel_rfl) (by kernel_rfl) rfl [.tmp 8, .tmp 9] rfl (Vc2.of ?_)
 refine g2_ ?_
 refine g2_ ?_
 refine .inl ⟨oF [0, 1, 4, 5, 2, 6, 3, 7, 8] [], by kernel_rfl, ?_⟩
 refine gg_ q1 q2 ?_
 refine CallS.eq hcc ws_ (.inl ws_) ?_
 refine g2_ ?_
 unfold order2 at hk
 cases hc : ltU d[b]! d[a]! with
 | true =>
  rw [hc, if_pos rfl] at hk
  have e1 : (s : Int) + 1 = ((s + 1 : Nat) : Int) := by omega
  refine gf_ e1 ?_
  exact hk
 | false =>
  rw [hc, if_neg (by decide)] at hk
  refine g2_ ?_
  exact hk
theorem ams (d : Array UInt8) (a b c s n : Nat) (hn : d.size = n) (ha : a < n) (hb : b < n) (hc : c < n) (h50 : n ≤ 50) (hs : s ≤ 50) {L0 : List (List DV)} {ρ σ nb K}
  (hk : K (.v (.int .i64 ((median ltU d a b c s).1 : Nat))) ⟨ρ, σ, rV 3 (median ltU d a b c s).2 (rB 5 32 d L0), 3, nb⟩) :
  CallS Tryz.prog false 227 [.rf 1 0 n, .v (.int .i64 a), .v (.int .i64 b), .v (.int .i64 c), .pt 2 0] ⟨ρ, σ, rV 3 s (rB 5 32 d L0), 3, nb⟩ K := by
 obtain ⟨r1, h1⟩ : ∃ r, order2 ltU d a b s = r := ⟨_, rfl⟩
 have l1 := aas (d := d) (s := s) ha hb
 rw [h1] at l1
 obtain ⟨r2, h2⟩ : ∃ r, order2 ltU d r1.2.1 c r1.2.2 = r := ⟨_, rfl⟩
 have l2 := aas (d := d) (s := r1.2.2) l1.2.1 hc
 rw [h2] at l2
 obtain ⟨r3, h3⟩ : ∃ r, order2 ltU d r1.1 r2.1 r2.2.2 = r := ⟨_, rfl⟩
 have hm : median ltU d a b c s = (r3.2.1, r3.2.2) := by subst h1 h2 h3; rfl
 rw [hm] at hk
 obtain ⟨a1, a2, a3⟩ := r1
 obtain ⟨b1, b2, b3⟩ := r2
 obtain ⟨c1, c2, c3⟩ := r3
 simp only at h1 h2 h3 l1 l2 hk
 refine CallS.inline Ty.mixed Tryz.func227 rfl (by kernel_rfl) (by kernel_rfl) rfl [.tmp 10] rfl (Vc2.of ?_)
 refine g2_ ?_
 refine g2_ ?_
 refine afI d a b s n hn ha hb h50 (by omega) ?_
 rw [h1]
 refine g2_ ?_
 refine afI d a2 c a3 n hn l1.2.1 hc h50 (by omega) ?_
 rw [h2]
 refine g2_ ?_
 refine afI d a1 b1 b3 n hn l1.1 l2.1 h50 (by omega) ?_
 rw [h3]
 refine g2_ ?_
 exact hk
theorem akO {d : Array UInt8} {a b c : Nat} : (median ltU d a b c 0).2 ≤ 3 := by
 unfold median order2
 simp only
 repeat' split
 all_goals simp
theorem akU (d : Array UInt8) (a b n : Nat) (hn : d.size = n) (hab : a + 12 < b) (hb : b ≤ n) (h50 : n < 50) {L0 : List (List DV)} {ρ σ nb K}
  (hk : ∀ s, K (.tup [.v (.int .i64 ((choosePivot ltU d a b).1 : Nat)), .v (.int .i64 (ajF (choosePivot ltU d a b).2))]) ⟨ρ, σ, rV 3 s (rB 5 32 d L0), 3, nb⟩) :
  CallS Tryz.prog false 185 [.rf 1 0 n, .v (.int .i64 a), .v (.int .i64 b)] ⟨ρ, σ, rB 5 32 d L0, 2, nb⟩ K := by
 obtain ⟨l, hl⟩ : ∃ l, b - a = l := ⟨_, rfl⟩
 have e0 : (b : Int) - (a : Int) = (l : Nat) := by omega
 obtain ⟨M, hM⟩ : ∃ M, median ltU d (a + l / 4 * 1) (a + l / 4 * 2) (a + l / 4 * 3) 0 = M := ⟨_, rfl⟩
 have hM3 : M.2 ≤ 3 := by rw [← hM]; exact akO
 have hc : choosePivot ltU d a b = (M.1, if M.2 = 0 then .increasing else if M.2 = 12 then .decreasing else .unknown) := by
  unfold choosePivot
  simp only
  rw [hl, if_pos (show l ≥ 8 by omega), if_neg (show ¬ l ≥ 50 by omega), hM]
 rw [hc] at hk
 have e1 : (a : Int) + ((l / 4 : Nat) : Int) * 1 = ((a + l / 4 * 1 : Nat) : Int) := by omega
 have e2 : (a : Int) + ((l / 4 : Nat) : Int) * 2 = ((a + l / 4 * 2 : Nat) : Int) := by omega
 have e3 : (a : Int) + ((l / 4 : Nat) : Int) * 3 = ((a + l / 4 * 3 : Nat) : Int) := by omega
 refine CallS.inline Ty.mixed Tryz.func185 rfl (by kernel_rfl) (by kernel_rfl) rfl [.tmp 6, .tmp 7] rfl (Vc2.of ?_)
 refine g2_ ?_
 refine gf_ e0 ?_
 refine Eq.mpr (eX (a := l) (b := 4) rfl rfl (by omega)) ?_
 refine gf_ e1 ?_
 refine Eq.mpr (eX (a := l) (b := 4) rfl rfl (by omega)) ?_
 refine gf_ e2 ?_
 refine Eq.mpr (eX (a := l) (b := 4) rfl rfl (by omega)) ?_
 refine gf_ e3 ?_
 rw [decide_eq_true (show (8 : Int) ≤ (l : Int) by omega)]
 refine g2_ ?_
 rw [decide_eq_false (show ¬ (50 : Int) ≤ (l : Int) by omega)]
 refine g2_ ?_
 refine ams d (a + l / 4 * 1) (a + l / 4 * 2) (a + l / 4 * 3) 0 n hn (by omega) (by omega) (by omega) (by omega) (by omega) ?_
 rw [hM]
 obtain ⟨m, s⟩ := M
 simp only at hk hM3 ⊢
 have hks := hk s
 refine g2_ ?_
 by_cases h0 : s = 0
 ·rw [if_pos h0] at hks
  rw [show ((s : Int) == 0) = true by rw [h0]; rfl]
  refine g2_ ?_
  exact hks
 ·rw [if_neg h0, if_neg (show ¬ s = 12 by omega)] at hks
  rw [show ((s : Int) == 0) = false from beq_eq_false_iff_ne.2 (by omega)]
  refine g2_ ?_
  rw [show ((s : Int) == 12) = false from beq_eq_false_iff_ne.2 (by omega)]
  refine g2_ ?_
  exact hks
theorem aml (d : Array UInt8) (a b n : Nat) (hn : d.size = n) (hab : a < b) (hb : b ≤ n) (h50 : n ≤ 50) {L0 : List (List DV)} {ρ σ nb K}
  (hk : K (.tup []) ⟨ρ, σ, rB 5 32 (reverseRange d a b) L0, 2, nb⟩) :
  CallS Tryz.prog false 186 [.rf 1 0 n, .v (.int .i64 a), .v (.int .i64 b)] ⟨ρ, σ, rB 5 32 d L0, 2, nb⟩ K := by
 unfold reverseRange at hk
 have e1 : (b : Int) - 1 = ((b - 1 : Nat) : Int) := by omega
 refine CallS.inline Ty.mixed Tryz.func186 rfl (by kernel_rfl) (by kernel_rfl) rfl [] rfl (Vc2.of ?_)
 refine g2_ ?_
 refine gf_ e1 ?_
 refine bF (γ := Nat × Nat × Array UInt8) (fun g => [(6, .d (.v (.int .i64 (g.1 : Nat)))), (7, .d (.v (.int .i64 (g.2.1 : Nat))))]) (fun _ => []) (fun g => rB 5 32 g.2.2 L0) 2 (fun g => g.2.2.size = n ∧ reverseLoop g.1 g.2.1 g.2.2 = reverseLoop a (b - 1) d ∧ g.2.1 < n) (fun g => g.2.1 - g.1) (a, b - 1, d) (ab [] ?_) ⟨hn, rfl, by simp only []; omega⟩ (fun g hg => ?_)
 ·repeat first | simp -implicitDefEqProofs only [go_sem, aa] | with_reducible refine gl_ ?_
  first | done | rfl | exact ⟨rfl, rfl⟩
 obtain ⟨i, j, D⟩ := g
 obtain ⟨hz, hR, hj⟩ := hg
 simp only at hz hR hj ⊢
 refine g2_ ?_
 by_cases hlt : i < j
 ·rw [decide_eq_true (show (i : Int) < (j : Int) by omega)]
  rw [reverseLoop, if_pos hlt] at hR
  have q1 := aG (d := D) (i := i) (by omega)
  have q2 := aG (d := D) (i := j) (by omega)
  have q3 := cE (d := D) (i := i) (j := j) (x := D[j]!) (by omega)
  have e2 : (i : Int) + 1 = ((i + 1 : Nat) : Int) := by omega
  have e3 : (j : Int) - 1 = ((j - 1 : Nat) : Int) := by omega
  refine g2_ ?_
  refine .inl ⟨oF [0, 1, 2, 3, 4, 5, 8, 9, 6, 10, 7, 11, 12, 13, 14, 15] [], by kernel_rfl, ?_⟩
  repeat first | simp -implicitDefEqProofs only [go_sem, aa, q1, q2, q3, dH, e2, e3, Int.toNat_natCast, List.contains_nil] | with_reducible first | refine gl_ ?_ | refine ga_ ?_ | refine gn_ ?_
  refine ⟨(i + 1, j - 1, swp D i j), ab [] ?_, ⟨by rw [← hz]; simp [swp], hR, by simp only []; omega⟩, by simp only []; omega⟩
  repeat first | simp -implicitDefEqProofs only [go_sem, aa, cX] | with_reducible refine gl_ ?_
  first | done | rfl | trace_state
 ·rw [decide_eq_false (show ¬ (i : Int) < (j : Int) by omega)]
  rw [reverseLoop, if_neg hlt] at hR
  rw [← hR] at hk
  refine g2_ ?_
  exact hk
end Go.Proofs.YtlaefellhnkfbaaGreat.V

set_option maxRecDepth 10000
set_option maxHeartbeats 4000000
namespace Go.Eng
open Go.Sort
theorem fw {P : Program} {Q : Exit → DS → Prop} {ρ : List (Nat × DSV)} {σ : List (Nat × d6)} {H : List (Nat × Row)} {nx nb : Nat} {γ : Type} {body : Code} (pre : γ → List (Nat × DSV)) (loc : γ → List (Nat × d6)) (Hf : γ → List (Nat × Row)) (nx1 : Nat) (F : γ → Prop) (μ : γ → Nat) (g0 : γ)
  (hle : leD ⟨pre g0 ++ ρ, loc g0 ++ σ, Hf g0, nx1, nb⟩ ⟨ρ, σ, H, nx, nb⟩) (hF : F g0)
  (hround : ∀ g, F g → vc2 P body (fL (fun g => ⟨pre g ++ ρ, loc g ++ σ, Hf g, nx1, nb⟩) F μ g Q) ⟨pre g ++ ρ, loc g ++ σ, Hf g, nx1, nb⟩) : vc2 P (.loop body) Q ⟨ρ, σ, H, nx, nb⟩ :=
 ⟨γ, fun g => ⟨pre g ++ ρ, loc g ++ σ, Hf g, nx1, nb⟩, F, μ, ⟨g0, hle, hF⟩, fun g h => Vc2.of (hround g h)⟩
theorem ru {P : Program} {Q : Exit → DS → Prop} {ds : DS} {γ : Type} {body : Code} (st : γ → DS) (F : γ → Prop) (μ : γ → Nat) (g0 : γ) (hle : leD (st g0) ds) (hF : F g0)
  (hround : ∀ g, F g → vc2 P body (fL st F μ g Q) (st g)) : vc2 P (.loop body) Q ds := ⟨γ, st, F, μ, ⟨g0, hle, hF⟩, fun g h => Vc2.of (hround g h)⟩
section
variable {p : UInt8 → Bool} {d D : Array UInt8} {i j a b I J pv : Nat}
theorem o7 (h : i ≤ j) (hp : p d[i]! = true) : scanUp p d j i = scanUp p d j (i + 1) := by
 conv => lhs; rw [scanUp]
 rw [if_pos (by simp [h, hp])]
theorem ic (h : ¬ i ≤ j ∨ p d[i]! = false) : scanUp p d j i = i := by
 rw [scanUp, if_neg (by rcases h with h | h <;> simp [h])]
theorem pZ (h : i ≤ j + 1) (hp : p d[j + 1]! = true) : scanDown p d i (j + 1) = scanDown p d i j := by
 conv => lhs; rw [scanDown]
 rw [if_pos (by simp [h, hp])]
theorem im (h : ¬ i ≤ j ∨ p d[j]! = false) : scanDown p d i j = j := by
 cases j with
 | zero => rfl
 | succ j => rw [scanDown, if_neg (by rcases h with h | h <;> simp [h])]
theorem akP (hD : swp d a pv = D) (hI : scanUp (fun x => ltU x D[a]!) D (b - 1) (a + 1) = I) (hJ : scanDown (fun x => !ltU x D[a]!) D I (b - 1) = J) :
  partition ltU d a b pv = if I > J then (J, true, swp D J a) else ((partLoop ltU a (I + 1) (J - 1) (swp D I J)).1, false, swp (partLoop ltU a (I + 1) (J - 1) (swp D I J)).2 (partLoop ltU a (I + 1) (J - 1) (swp D I J)).1 a) := by
 subst hD hI hJ; rfl
theorem akM (hI : scanUp (fun x => ltU x D[a]!) D j i = I) (hJ : scanDown (fun x => !ltU x D[a]!) D I j = J) :
  partLoop ltU a i j D = if I > J then (J, D) else partLoop ltU a (I + 1) (J - 1) (swp D I J) := by
 subst hI hJ; exact partLoop_eq ltU a i j D
theorem ahA (hI : scanUp (fun x => !ltU D[a]! x) D j i = I) (hJ : scanDown (fun x => ltU D[a]! x) D I j = J) :
  partEqLoop ltU a i j D = if I > J then (I, D) else partEqLoop ltU a (I + 1) (J - 1) (swp D I J) := by
 subst hI hJ; exact partEqLoop_eq ltU a i j D
theorem akc (h : b - a < 50) : partialInsertionSort ltU d a b = (d, decide (scanSorted ltU d b (a + 1) = b)) := by
 rw [partialInsertionSort, partialIns_succ]
 by_cases h1 : scanSorted ltU d b (a + 1) = b
 ·rw [if_pos h1, decide_eq_true h1]
 ·rw [if_neg h1, if_pos h, decide_eq_false h1]
theorem afh (h : i < b) (hp : ltU d[i]! d[i - 1]! = false) : scanSorted ltU d b i = scanSorted ltU d b (i + 1) := by
 conv => lhs; rw [scanSorted]
 rw [if_pos (by simp [h, hp])]
theorem vG (h : ¬ i < b ∨ ltU d[i]! d[i - 1]! = true) : scanSorted ltU d b i = i := by
 rw [scanSorted, if_neg (by rcases h with h | h <;> simp [h])]
end
end Go.Eng
namespace Go.Proofs.YtlaefellhnkfbaaGreat.V
open Go.Eng Go.Sort
attribute [local go_sem] plR List.map_cons List.map_nil
theorem alr (d : Array UInt8) (a b p n : Nat) (hn : d.size = n) (ha : a ≤ p) (hp : p < b) (hb : b ≤ n) (h50 : n ≤ 50) {L0 : List (List DV)} {ρ σ nb K}
  (hk : K (.tup [.v (.int .i64 ((partition ltU d a b p).1 : Nat)), .v (.bool (partition ltU d a b p).2.1)]) ⟨ρ, σ, rB 5 32 (partition ltU d a b p).2.2 L0, 2, nb⟩) :
  CallS Tryz.prog false 190 [.rf 1 0 n, .v (.int .i64 a), .v (.int .i64 b), .v (.int .i64 p)] ⟨ρ, σ, rB 5 32 d L0, 2, nb⟩ K := by
 obtain ⟨R, hR⟩ : ∃ R, partition ltU d a b p = R := ⟨_, rfl⟩
 rw [hR] at hk
 have q1 := aG (d := d) (i := a) (by omega)
 have q2 := aG (d := d) (i := p) (by omega)
 have q3 := cE (d := d) (i := a) (j := p) (x := d[p]!) (by omega)
 have e1 : (a : Int) + 1 = ((a + 1 : Nat) : Int) := by omega
 have e2 : (b : Int) - 1 = ((b - 1 : Nat) : Int) := by omega
 refine CallS.inline Ty.mixed Tryz.func190 rfl (by kernel_rfl) (by kernel_rfl) rfl [.tmp 8, .tmp 9] rfl (Vc2.of ?_)
 repeat first | simp -implicitDefEqProofs only [go_sem, aa] | with_reducible refine gl_ ?_
 refine g2_ ?_
 refine .inl ⟨oF [0, 1, 2, 3, 4, 5, 8, 9, 6, 10, 7, 11, 12, 13, 14, 15] [], by kernel_rfl, ?_⟩
 repeat first | simp -implicitDefEqProofs only [go_sem, aa, q1, q2, q3, dH, Int.toNat_natCast, List.contains_nil, e1, e2] | with_reducible first | refine gl_ ?_ | refine ga_ ?_ | refine gn_ ?_
 obtain ⟨D, hD⟩ : ∃ D, swp d a p = D := ⟨_, rfl⟩
 have hz : D.size = n := by rw [← hD, ← hn]; simp [swp]
 obtain ⟨I, hI⟩ : ∃ I, scanUp (fun x => ltU x D[a]!) D (b - 1) (a + 1) = I := ⟨_, rfl⟩
 obtain ⟨J, hJ⟩ : ∃ J, scanDown (fun x => !ltU x D[a]!) D I (b - 1) = J := ⟨_, rfl⟩
 have hI1 : a + 1 ≤ I := by rw [← hI]; exact scanUp_ge _ _ _ _
 have hJ1 : J ≤ b - 1 := by rw [← hJ]; exact scanDown_le _ _ _ _
 rw [akP hD hI hJ] at hR
 clear q1 q2 q3
 rw [cX, hD]
 clear hD
 refine cI (γ := Unit) (fun _ => ⟨[(10, .d (.v (.int .i64 ((I : Nat) : Int)))), (11, .d (.v (.int .i64 (((b - 1) : Nat) : Int)))), (0, .d (.rf 1 0 n)), (1, .d (.v (.int .i64 ((a : Nat) : Int))))], [], rB 5 32 D L0, 2, 2⟩) (fun _ => True) ?_ (fun _ _ => ?_)
 ·refine fw (γ := Nat) (fun k => [(10, .d (.v (.int .i64 ((k : Nat) : Int))))]) (fun _ => []) (fun _ => rB 5 32 D L0) 2 (fun k => scanUp (fun x => ltU x D[a]!) D (b - 1) k = I ∧ (a + 1) ≤ k) (fun k => (b - 1) + 1 - k) (a + 1) (ab [] ?_) ⟨hI, Nat.le_refl _⟩ (fun k hk5 => ?_)
  ·repeat first | simp -implicitDefEqProofs only [go_sem, aa, cX] | with_reducible refine gl_ ?_
   first | done | rfl | exact ⟨rfl, rfl⟩
  obtain ⟨hk6, hk7⟩ := hk5
  refine g2_ ?_
  refine .inl ⟨oF [0, 1, 2, 3, 4, 5, 8, 9, 6, 10, 7, 11, 12, 13] [], by kernel_rfl, ?_⟩
  refine g2_ ?_
  by_cases hle : k ≤ (b - 1)
  ·rw [decide_eq_true (show (k : Int) ≤ (((b - 1) : Nat) : Int) by omega)]
   have q1 := aG (d := D) (i := k) (by omega)
   have q2 := aG (d := D) (i := a) (by omega)
   have hcc := dA D[k]! D[a]!
   rw [dB] at hcc
   refine gg_ q1 q2 ?_
   refine CallS.eq hcc (by simp -implicitDefEqProofs only [go_sem, aa]) (.inl (by simp -implicitDefEqProofs only [go_sem, aa])) ?_
   refine g2_ ?_
   cases hc : ltU D[k]! D[a]! with
   | true =>
    rw [o7 (p := (fun x => ltU x D[a]!)) hle (hc)] at hk6
    have e9 : (k : Int) + 1 = ((k + 1 : Nat) : Int) := by omega
    refine gf_ e9 ?_
    refine ⟨k + 1, ab [] ?_, ⟨hk6, by omega⟩, by omega⟩
    repeat first | simp -implicitDefEqProofs only [go_sem, aa] | with_reducible refine gl_ ?_
    first | done | rfl | trace_state
   | false =>
    rw [ic (p := (fun x => ltU x D[a]!)) (.inr (hc))] at hk6
    refine g2_ ?_
    refine ⟨(), ab [] ?_⟩
    repeat first | simp -implicitDefEqProofs only [go_sem, aa, hk6] | with_reducible refine gl_ ?_
    first | done | rfl | trace_state
  ·rw [decide_eq_false (show ¬ (k : Int) ≤ (((b - 1) : Nat) : Int) by omega)]
   rw [ic (.inl hle)] at hk6
   refine g2_ ?_
   refine ⟨(), ab [] ?_⟩
   repeat first | simp -implicitDefEqProofs only [go_sem, aa, hk6] | with_reducible refine gl_ ?_
   first | done | rfl | trace_state
 refine g2_ ?_
 refine cI (γ := Unit) (fun _ => ⟨[(10, .d (.v (.int .i64 ((I : Nat) : Int)))), (11, .d (.v (.int .i64 ((J : Nat) : Int)))), (0, .d (.rf 1 0 n)), (1, .d (.v (.int .i64 ((a : Nat) : Int))))], [], rB 5 32 D L0, 2, 2⟩) (fun _ => True) ?_ (fun _ _ => ?_)
 ·refine fw (γ := Nat) (fun k => [(11, .d (.v (.int .i64 ((k : Nat) : Int))))]) (fun _ => []) (fun _ => rB 5 32 D L0) 2 (fun k => scanDown (fun x => !ltU x D[a]!) D I k = J ∧ k ≤ (b - 1)) (fun k => k) ((b - 1)) (ab [] ?_) ⟨hJ, Nat.le_refl _⟩ (fun k hk5 => ?_)
  ·repeat first | simp -implicitDefEqProofs only [go_sem, aa, cX] | with_reducible refine gl_ ?_
   first | done | rfl | exact ⟨rfl, rfl⟩
  obtain ⟨hk6, hk7⟩ := hk5
  refine g2_ ?_
  refine .inl ⟨oF [0, 1, 2, 3, 4, 5, 8, 9, 6, 10, 7, 11, 12, 13, 14] [], by kernel_rfl, ?_⟩
  refine g2_ ?_
  by_cases hle : I ≤ k
  ·rw [decide_eq_true (show ((I : Nat) : Int) ≤ (k : Int) by omega)]
   obtain ⟨k, rfl⟩ : ∃ m, k = m + 1 := ⟨k - 1, by omega⟩
   have q1 := aG (d := D) (i := k + 1) (by omega)
   have q2 := aG (d := D) (i := a) (by omega)
   have hcc := dA D[k + 1]! D[a]!
   rw [dB] at hcc
   refine gg_ q1 q2 ?_
   refine CallS.eq hcc (by simp -implicitDefEqProofs only [go_sem, aa]) (.inl (by simp -implicitDefEqProofs only [go_sem, aa])) ?_
   refine g2_ ?_
   cases hc : ltU D[k + 1]! D[a]! with
   | false =>
    rw [pZ (p := (fun x => !ltU x D[a]!)) hle (show (!ltU D[k + 1]! D[a]!) = true by rw [hc]; rfl)] at hk6
    have e9 : ((k + 1 : Nat) : Int) - 1 = (k : Int) := by omega
    refine gf_ e9 ?_
    refine ⟨k, ab [] ?_, ⟨hk6, by omega⟩, by omega⟩
    repeat first | simp -implicitDefEqProofs only [go_sem, aa] | with_reducible refine gl_ ?_
    first | done | rfl | trace_state
   | true =>
    rw [im (p := (fun x => !ltU x D[a]!)) (.inr (show (!ltU D[k + 1]! D[a]!) = false by rw [hc]; rfl))] at hk6
    refine g2_ ?_
    refine ⟨(), ab [] ?_⟩
    repeat first | simp -implicitDefEqProofs only [go_sem, aa, hk6] | with_reducible refine gl_ ?_
    first | done | rfl | trace_state
  ·rw [decide_eq_false (show ¬ ((I : Nat) : Int) ≤ (k : Int) by omega)]
   rw [im (.inl hle)] at hk6
   refine g2_ ?_
   refine ⟨(), ab [] ?_⟩
   repeat first | simp -implicitDefEqProofs only [go_sem, aa, hk6] | with_reducible refine gl_ ?_
   first | done | rfl | trace_state
 refine g2_ ?_
 by_cases hc : J < I
 ·rw [if_pos hc] at hR
  rw [decide_eq_true (show (J : Int) < (I : Int) by omega)]
  have q1 := aG (d := D) (i := J) (by omega)
  have q2 := aG (d := D) (i := a) (by omega)
  have q3 := cE (d := D) (i := J) (j := a) (x := D[a]!) (by omega)
  refine g2_ ?_
  refine .inl ⟨oF [0, 1, 2, 3, 4, 5, 8, 9, 6, 10, 7, 11, 12, 13, 14, 15] [], by kernel_rfl, ?_⟩
  subst hR
  refine gi_ q1 q2 q3 @dH ?_
  exact hk
 ·rw [if_neg hc] at hR
  rw [decide_eq_false (show ¬ (J : Int) < (I : Int) by omega)]
  have q1 := aG (d := D) (i := J) (by omega)
  have q2 := aG (d := D) (i := I) (by omega)
  have q3 := cE (d := D) (i := I) (j := J) (x := D[J]!) (by omega)
  have e3 : (I : Int) + 1 = ((I + 1 : Nat) : Int) := by omega
  have e4 : (J : Int) - 1 = ((J - 1 : Nat) : Int) := by omega
  refine g2_ ?_
  refine .inl ⟨oF [0, 1, 2, 3, 4, 5, 8, 9, 6, 10, 7, 11, 12, 13, 14, 15] [], by kernel_rfl, ?_⟩
  repeat first | simp -implicitDefEqProofs only [go_sem, aa, q1, q2, q3, dH, Int.toNat_natCast, List.contains_nil, e3, e4] | with_reducible first | refine gl_ ?_ | refine ga_ ?_ | refine gn_ ?_
  obtain ⟨PL, hPL⟩ : ∃ PL, partLoop ltU a (I + 1) (J - 1) (swp D I J) = PL := ⟨_, rfl⟩
  rw [hPL] at hR
  refine cI (γ := Unit) (fun _ => ⟨[(11, .d (.v (.int .i64 ((PL.1 : Nat) : Int)))), (0, .d (.rf 1 0 n)), (1, .d (.v (.int .i64 ((a : Nat) : Int))))], [], rB 5 32 PL.2 L0, 2, 2⟩) (fun _ => PL.1 < b ∧ PL.2.size = n) ?_ (fun _ hF => ?_)
  ·refine ru (γ := Nat × Nat × Array UInt8) (fun g => ⟨[(10, .d (.v (.int .i64 ((g.1 : Nat) : Int)))), (11, .d (.v (.int .i64 ((g.2.1 : Nat) : Int)))), (0, .d (.rf 1 0 n)), (1, .d (.v (.int .i64 ((a : Nat) : Int))))], [], rB 5 32 g.2.2 L0, 2, 2⟩) (fun g => g.2.2.size = n ∧ partLoop ltU a g.1 g.2.1 g.2.2 = PL ∧ a + 1 ≤ g.1 ∧ g.2.1 < b) (fun g => g.2.1 + 1 - g.1) (I + 1, J - 1, swp D I J) (ab [] ?_) ⟨by rw [← hz]; simp [swp], hPL, by simp only []; omega, by simp only []; omega⟩ (fun g hg => ?_)
   ·repeat first | simp -implicitDefEqProofs only [go_sem, aa, cX] | with_reducible refine gl_ ?_
    first | done | rfl | exact ⟨rfl, rfl⟩
   obtain ⟨i, j, E⟩ := g
   obtain ⟨hz2, hR2, hi, hj⟩ := hg
   simp only at hz2 hR2 hi hj ⊢
   clear hI hJ q1 q2 q3 e3 e4 hPL
   obtain ⟨I2, hI⟩ : ∃ I, scanUp (fun x => ltU x E[a]!) E j i = I := ⟨_, rfl⟩
   obtain ⟨J2, hJ⟩ : ∃ J, scanDown (fun x => !ltU x E[a]!) E I2 j = J := ⟨_, rfl⟩
   have hI2 : i ≤ I2 := by rw [← hI]; exact scanUp_ge _ _ _ _
   have hJ2 : J2 ≤ j := by rw [← hJ]; exact scanDown_le _ _ _ _
   rw [akM hI hJ] at hR2
   refine g2_ ?_
   refine cI (γ := Unit) (fun _ => ⟨[(10, .d (.v (.int .i64 ((I2 : Nat) : Int)))), (11, .d (.v (.int .i64 ((j : Nat) : Int)))), (0, .d (.rf 1 0 n)), (1, .d (.v (.int .i64 ((a : Nat) : Int))))], [], rB 5 32 E L0, 2, 2⟩) (fun _ => True) ?_ (fun _ _ => ?_)
   ·refine fw (γ := Nat) (fun k => [(10, .d (.v (.int .i64 ((k : Nat) : Int))))]) (fun _ => []) (fun _ => rB 5 32 E L0) 2 (fun k => scanUp (fun x => ltU x E[a]!) E j k = I2 ∧ i ≤ k) (fun k => j + 1 - k) i (ab [] ?_) ⟨hI, Nat.le_refl _⟩ (fun k hk5 => ?_)
    ·repeat first | simp -implicitDefEqProofs only [go_sem, aa, cX] | with_reducible refine gl_ ?_
     first | done | rfl | exact ⟨rfl, rfl⟩
    obtain ⟨hk6, hk7⟩ := hk5
    refine g2_ ?_
    refine .inl ⟨oF [0, 1, 2, 3, 4, 5, 8, 9, 6, 10, 7, 11, 12, 13] [], by kernel_rfl, ?_⟩
    refine g2_ ?_
    by_cases hle : k ≤ j
    ·rw [decide_eq_true (show (k : Int) ≤ ((j : Nat) : Int) by omega)]
     have q1 := aG (d := E) (i := k) (by omega)
     have q2 := aG (d := E) (i := a) (by omega)
     have hcc := dA E[k]! E[a]!
     rw [dB] at hcc
     refine gg_ q1 q2 ?_
     refine CallS.eq hcc (by simp -implicitDefEqProofs only [go_sem, aa]) (.inl (by simp -implicitDefEqProofs only [go_sem, aa])) ?_
     refine g2_ ?_
     cases hc : ltU E[k]! E[a]! with
     | true =>
      rw [o7 (p := (fun x => ltU x E[a]!)) hle (hc)] at hk6
      have e9 : (k : Int) + 1 = ((k + 1 : Nat) : Int) := by omega
      refine gf_ e9 ?_
      refine ⟨k + 1, ab [] ?_, ⟨hk6, by omega⟩, by omega⟩
      repeat first | simp -implicitDefEqProofs only [go_sem, aa] | with_reducible refine gl_ ?_
      first | done | rfl | trace_state
     | false =>
      rw [ic (p := (fun x => ltU x E[a]!)) (.inr (hc))] at hk6
      refine g2_ ?_
      refine ⟨(), ab [] ?_⟩
      repeat first | simp -implicitDefEqProofs only [go_sem, aa, hk6] | with_reducible refine gl_ ?_
      first | done | rfl | trace_state
    ·rw [decide_eq_false (show ¬ (k : Int) ≤ ((j : Nat) : Int) by omega)]
     rw [ic (.inl hle)] at hk6
     refine g2_ ?_
     refine ⟨(), ab [] ?_⟩
     repeat first | simp -implicitDefEqProofs only [go_sem, aa, hk6] | with_reducible refine gl_ ?_
     first | done | rfl | trace_state
   refine g2_ ?_
   refine cI (γ := Unit) (fun _ => ⟨[(10, .d (.v (.int .i64 ((I2 : Nat) : Int)))), (11, .d (.v (.int .i64 ((J2 : Nat) : Int)))), (0, .d (.rf 1 0 n)), (1, .d (.v (.int .i64 ((a : Nat) : Int))))], [], rB 5 32 E L0, 2, 2⟩) (fun _ => True) ?_ (fun _ _ => ?_)
   ·refine fw (γ := Nat) (fun k => [(11, .d (.v (.int .i64 ((k : Nat) : Int))))]) (fun _ => []) (fun _ => rB 5 32 E L0) 2 (fun k => scanDown (fun x => !ltU x E[a]!) E I2 k = J2 ∧ k ≤ j) (fun k => k) (j) (ab [] ?_) ⟨hJ, Nat.le_refl _⟩ (fun k hk5 => ?_)
    ·repeat first | simp -implicitDefEqProofs only [go_sem, aa, cX] | with_reducible refine gl_ ?_
     first | done | rfl | exact ⟨rfl, rfl⟩
    obtain ⟨hk6, hk7⟩ := hk5
    refine g2_ ?_
    refine .inl ⟨oF [0, 1, 2, 3, 4, 5, 8, 9, 6, 10, 7, 11, 12, 13, 14] [], by kernel_rfl, ?_⟩
    refine g2_ ?_
    by_cases hle : I2 ≤ k
    ·rw [decide_eq_true (show ((I2 : Nat) : Int) ≤ (k : Int) by omega)]
     obtain ⟨k, rfl⟩ : ∃ m, k = m + 1 := ⟨k - 1, by omega⟩
     have q1 := aG (d := E) (i := k + 1) (by omega)
     have q2 := aG (d := E) (i := a) (by omega)
     have hcc := dA E[k + 1]! E[a]!
     rw [dB] at hcc
     refine gg_ q1 q2 ?_
     refine CallS.eq hcc (by simp -implicitDefEqProofs only [go_sem, aa]) (.inl (by simp -implicitDefEqProofs only [go_sem, aa])) ?_
     refine g2_ ?_
     cases hc : ltU E[k + 1]! E[a]! with
     | false =>
      rw [pZ (p := (fun x => !ltU x E[a]!)) hle (show (!ltU E[k + 1]! E[a]!) = true by rw [hc]; rfl)] at hk6
      have e9 : ((k + 1 : Nat) : Int) - 1 = (k : Int) := by omega
      refine gf_ e9 ?_
      refine ⟨k, ab [] ?_, ⟨hk6, by omega⟩, by omega⟩
      repeat first | simp -implicitDefEqProofs only [go_sem, aa] | with_reducible refine gl_ ?_
      first | done | rfl | trace_state
     | true =>
      rw [im (p := (fun x => !ltU x E[a]!)) (.inr (show (!ltU E[k + 1]! E[a]!) = false by rw [hc]; rfl))] at hk6
      refine g2_ ?_
      refine ⟨(), ab [] ?_⟩
      repeat first | simp -implicitDefEqProofs only [go_sem, aa, hk6] | with_reducible refine gl_ ?_
      first | done | rfl | trace_state
    ·rw [decide_eq_false (show ¬ ((I2 : Nat) : Int) ≤ (k : Int) by omega)]
     rw [im (.inl hle)] at hk6
     refine g2_ ?_
     refine ⟨(), ab [] ?_⟩
     repeat first | simp -implicitDefEqProofs only [go_sem, aa, hk6] | with_reducible refine gl_ ?_
     first | done | rfl | trace_state
   refine g2_ ?_
   by_cases hc2 : J2 < I2
   ·rw [if_pos hc2] at hR2
    rw [decide_eq_true (show (J2 : Int) < (I2 : Int) by omega)]
    subst hR2
    refine g2_ ?_
    refine ⟨(), ab [] ?_, by first | omega | (simp only []; omega), hz2⟩
    repeat first | simp -implicitDefEqProofs only [go_sem, aa] | with_reducible refine gl_ ?_
    first | done | rfl | trace_state
   ·rw [if_neg hc2] at hR2
    rw [decide_eq_false (show ¬ (J2 : Int) < (I2 : Int) by omega)]
    have q1 := aG (d := E) (i := J2) (by omega)
    have q2 := aG (d := E) (i := I2) (by omega)
    have q3 := cE (d := E) (i := I2) (j := J2) (x := E[J2]!) (by omega)
    have e3 : (I2 : Int) + 1 = ((I2 + 1 : Nat) : Int) := by omega
    have e4 : (J2 : Int) - 1 = ((J2 - 1 : Nat) : Int) := by omega
    refine g2_ ?_
    refine .inl ⟨oF [0, 1, 2, 3, 4, 5, 8, 9, 6, 10, 7, 11, 12, 13, 14, 15] [], by kernel_rfl, ?_⟩
    repeat first | simp -implicitDefEqProofs only [go_sem, aa, q1, q2, q3, dH, Int.toNat_natCast, List.contains_nil, e3, e4] | with_reducible first | refine gl_ ?_ | refine ga_ ?_ | refine gn_ ?_
    refine ⟨(I2 + 1, J2 - 1, swp E I2 J2), ab [] ?_, ⟨by rw [← hz2]; simp [swp], hR2, by simp only []; omega, by simp only []; omega⟩, by simp only []; omega⟩
    repeat first | simp -implicitDefEqProofs only [go_sem, aa, cX] | with_reducible refine gl_ ?_
    first | done | rfl | trace_state
  ·obtain ⟨j, E⟩ := PL
   obtain ⟨h1, h2⟩ := hF
   simp only at h1 h2 hR ⊢
   clear q1 q2 q3
   have q1 := aG (d := E) (i := j) (by omega)
   have q2 := aG (d := E) (i := a) (by omega)
   have q3 := cE (d := E) (i := j) (j := a) (x := E[a]!) (by omega)
   refine g2_ ?_
   refine .inl ⟨oF [0, 1, 2, 3, 4, 5, 8, 9, 6, 10, 7, 11, 12, 13, 14, 15] [], by kernel_rfl, ?_⟩
   subst hR
   refine gi_ q1 q2 q3 @dH ?_
   exact hk
theorem amp (d : Array UInt8) (a b p n : Nat) (hn : d.size = n) (ha : a ≤ p) (hp : p < b) (hb : b ≤ n) (h50 : n ≤ 50) {L0 : List (List DV)} {ρ σ nb K}
  (hk : K (.v (.int .i64 ((partitionEqual ltU d a b p).1 : Nat))) ⟨ρ, σ, rB 5 32 (partitionEqual ltU d a b p).2 L0, 2, nb⟩) :
  CallS Tryz.prog false 189 [.rf 1 0 n, .v (.int .i64 a), .v (.int .i64 b), .v (.int .i64 p)] ⟨ρ, σ, rB 5 32 d L0, 2, nb⟩ K := by
 obtain ⟨R, hR⟩ : ∃ R, partitionEqual ltU d a b p = R := ⟨_, rfl⟩
 rw [hR] at hk
 have q1 := aG (d := d) (i := a) (by omega)
 have q2 := aG (d := d) (i := p) (by omega)
 have q3 := cE (d := d) (i := a) (j := p) (x := d[p]!) (by omega)
 have e1 : (a : Int) + 1 = ((a + 1 : Nat) : Int) := by omega
 have e2 : (b : Int) - 1 = ((b - 1 : Nat) : Int) := by omega
 refine CallS.inline Ty.mixed Tryz.func189 rfl (by kernel_rfl) (by kernel_rfl) rfl [.tmp 8] rfl (Vc2.of ?_)
 repeat first | simp -implicitDefEqProofs only [go_sem, aa] | with_reducible refine gl_ ?_
 refine g2_ ?_
 refine .inl ⟨oF [0, 1, 2, 3, 4, 5, 8, 9, 6, 10, 7, 11, 12, 13, 14, 15] [], by kernel_rfl, ?_⟩
 repeat first | simp -implicitDefEqProofs only [go_sem, aa, q1, q2, q3, dH, Int.toNat_natCast, List.contains_nil, e1, e2] | with_reducible first | refine gl_ ?_ | refine ga_ ?_ | refine gn_ ?_
 refine cI (γ := Unit) (fun _ => ⟨[(9, .d (.v (.int .i64 ((R.1 : Nat) : Int)))), (0, .d (.rf 1 0 n)), (1, .d (.v (.int .i64 ((a : Nat) : Int))))], [], rB 5 32 R.2 L0, 2, 2⟩) (fun _ => True) ?_ (fun _ hF => ?_)
 ·refine ru (γ := Nat × Nat × Array UInt8) (fun g => ⟨[(9, .d (.v (.int .i64 ((g.1 : Nat) : Int)))), (10, .d (.v (.int .i64 ((g.2.1 : Nat) : Int)))), (0, .d (.rf 1 0 n)), (1, .d (.v (.int .i64 ((a : Nat) : Int))))], [], rB 5 32 g.2.2 L0, 2, 2⟩) (fun g => g.2.2.size = n ∧ partEqLoop ltU a g.1 g.2.1 g.2.2 = R ∧ a + 1 ≤ g.1 ∧ g.2.1 < b) (fun g => g.2.1 + 1 - g.1) (a + 1, b - 1, swp d a p) (ab [] ?_) ⟨by rw [← hn]; simp [swp], hR, by simp only []; omega, by simp only []; omega⟩ (fun g hg => ?_)
  ·repeat first | simp -implicitDefEqProofs only [go_sem, aa, cX] | with_reducible refine gl_ ?_
   first | done | rfl | exact ⟨rfl, rfl⟩
  obtain ⟨i, j, E⟩ := g
  obtain ⟨hz2, hR2, hi, hj⟩ := hg
  simp only at hz2 hR2 hi hj ⊢
  clear hR q1 q2 q3
  obtain ⟨I2, hI⟩ : ∃ I, scanUp (fun x => !ltU E[a]! x) E j i = I := ⟨_, rfl⟩
  obtain ⟨J2, hJ⟩ : ∃ J, scanDown (fun x => ltU E[a]! x) E I2 j = J := ⟨_, rfl⟩
  have hI2 : i ≤ I2 := by rw [← hI]; exact scanUp_ge _ _ _ _
  have hJ2 : J2 ≤ j := by rw [← hJ]; exact scanDown_le _ _ _ _
  rw [ahA hI hJ] at hR2
  refine g2_ ?_
  refine cI (γ := Unit) (fun _ => ⟨[(9, .d (.v (.int .i64 ((I2 : Nat) : Int)))), (10, .d (.v (.int .i64 ((j : Nat) : Int)))), (0, .d (.rf 1 0 n)), (1, .d (.v (.int .i64 ((a : Nat) : Int))))], [], rB 5 32 E L0, 2, 2⟩) (fun _ => True) ?_ (fun _ _ => ?_)
  ·refine fw (γ := Nat) (fun k => [(9, .d (.v (.int .i64 ((k : Nat) : Int))))]) (fun _ => []) (fun _ => rB 5 32 E L0) 2 (fun k => scanUp (fun x => !ltU E[a]! x) E j k = I2 ∧ i ≤ k) (fun k => j + 1 - k) i (ab [] ?_) ⟨hI, Nat.le_refl _⟩ (fun k hk5 => ?_)
   ·repeat first | simp -implicitDefEqProofs only [go_sem, aa, cX] | with_reducible refine gl_ ?_
    first | done | rfl | exact ⟨rfl, rfl⟩
   obtain ⟨hk6, hk7⟩ := hk5
   refine g2_ ?_
   refine .inl ⟨oF [0, 1, 2, 3, 4, 5, 8, 9, 6, 10, 7, 11, 12, 13, 14] [], by kernel_rfl, ?_⟩
   refine g2_ ?_
   by_cases hle : k ≤ j
   ·rw [decide_eq_true (show (k : Int) ≤ ((j : Nat) : Int) by omega)]
    have q1 := aG (d := E) (i := k) (by omega)
    have q2 := aG (d := E) (i := a) (by omega)
    have hcc := dA E[a]! E[k]!
    rw [dB] at hcc
    refine gg_ q1 q2 ?_
    refine CallS.eq hcc (by simp -implicitDefEqProofs only [go_sem, aa]) (.inl (by simp -implicitDefEqProofs only [go_sem, aa])) ?_
    refine g2_ ?_
    cases hc : ltU E[a]! E[k]! with
    | false =>
     rw [o7 (p := (fun x => !ltU E[a]! x)) hle (show (!ltU E[a]! E[k]!) = true by rw [hc]; rfl)] at hk6
     have e9 : (k : Int) + 1 = ((k + 1 : Nat) : Int) := by omega
     refine gf_ e9 ?_
     refine ⟨k + 1, ab [] ?_, ⟨hk6, by omega⟩, by omega⟩
     repeat first | simp -implicitDefEqProofs only [go_sem, aa] | with_reducible refine gl_ ?_
     first | done | rfl | trace_state
    | true =>
     rw [ic (p := (fun x => !ltU E[a]! x)) (.inr (show (!ltU E[a]! E[k]!) = false by rw [hc]; rfl))] at hk6
     refine g2_ ?_
     refine ⟨(), ab [] ?_⟩
     repeat first | simp -implicitDefEqProofs only [go_sem, aa, hk6] | with_reducible refine gl_ ?_
     first | done | rfl | trace_state
   ·rw [decide_eq_false (show ¬ (k : Int) ≤ ((j : Nat) : Int) by omega)]
    rw [ic (.inl hle)] at hk6
    refine g2_ ?_
    refine ⟨(), ab [] ?_⟩
    repeat first | simp -implicitDefEqProofs only [go_sem, aa, hk6] | with_reducible refine gl_ ?_
    first | done | rfl | trace_state
  refine g2_ ?_
  refine cI (γ := Unit) (fun _ => ⟨[(9, .d (.v (.int .i64 ((I2 : Nat) : Int)))), (10, .d (.v (.int .i64 ((J2 : Nat) : Int)))), (0, .d (.rf 1 0 n)), (1, .d (.v (.int .i64 ((a : Nat) : Int))))], [], rB 5 32 E L0, 2, 2⟩) (fun _ => True) ?_ (fun _ _ => ?_)
  ·refine fw (γ := Nat) (fun k => [(10, .d (.v (.int .i64 ((k : Nat) : Int))))]) (fun _ => []) (fun _ => rB 5 32 E L0) 2 (fun k => scanDown (fun x => ltU E[a]! x) E I2 k = J2 ∧ k ≤ j) (fun k => k) (j) (ab [] ?_) ⟨hJ, Nat.le_refl _⟩ (fun k hk5 => ?_)
   ·repeat first | simp -implicitDefEqProofs only [go_sem, aa, cX] | with_reducible refine gl_ ?_
    first | done | rfl | exact ⟨rfl, rfl⟩
   obtain ⟨hk6, hk7⟩ := hk5
   refine g2_ ?_
   refine .inl ⟨oF [0, 1, 2, 3, 4, 5, 8, 9, 6, 10, 7, 11, 12, 13] [], by kernel_rfl, ?_⟩
   refine g2_ ?_
   by_cases hle : I2 ≤ k
   ·rw [decide_eq_true (show ((I2 : Nat) : Int) ≤ (k : Int) by omega)]
    obtain ⟨k, rfl⟩ : ∃ m, k = m + 1 := ⟨k - 1, by omega⟩
    have q1 := aG (d := E) (i := k + 1) (by omega)
    have q2 := aG (d := E) (i := a) (by omega)
    have hcc := dA E[a]! E[k + 1]!
    rw [dB] at hcc
    refine gg_ q1 q2 ?_
    refine CallS.eq hcc (by simp -implicitDefEqProofs only [go_sem, aa]) (.inl (by simp -implicitDefEqProofs only [go_sem, aa])) ?_
    refine g2_ ?_
    cases hc : ltU E[a]! E[k + 1]! with
    | true =>
     rw [pZ (p := (fun x => ltU E[a]! x)) hle (hc)] at hk6
     have e9 : ((k + 1 : Nat) : Int) - 1 = (k : Int) := by omega
     refine gf_ e9 ?_
     refine ⟨k, ab [] ?_, ⟨hk6, by omega⟩, by omega⟩
     repeat first | simp -implicitDefEqProofs only [go_sem, aa] | with_reducible refine gl_ ?_
     first | done | rfl | trace_state
    | false =>
     rw [im (p := (fun x => ltU E[a]! x)) (.inr (hc))] at hk6
     refine g2_ ?_
     refine ⟨(), ab [] ?_⟩
     repeat first | simp -implicitDefEqProofs only [go_sem, aa, hk6] | with_reducible refine gl_ ?_
     first | done | rfl | trace_state
   ·rw [decide_eq_false (show ¬ ((I2 : Nat) : Int) ≤ (k : Int) by omega)]
    rw [im (.inl hle)] at hk6
    refine g2_ ?_
    refine ⟨(), ab [] ?_⟩
    repeat first | simp -implicitDefEqProofs only [go_sem, aa, hk6] | with_reducible refine gl_ ?_
    first | done | rfl | trace_state
  refine g2_ ?_
  by_cases hc2 : J2 < I2
  ·rw [if_pos hc2] at hR2
   rw [decide_eq_true (show (J2 : Int) < (I2 : Int) by omega)]
   subst hR2
   refine g2_ ?_
   refine ⟨(), ab [] ?_⟩
   repeat first | simp -implicitDefEqProofs only [go_sem, aa] | with_reducible refine gl_ ?_
   first | done | rfl | trace_state
  ·rw [if_neg hc2] at hR2
   rw [decide_eq_false (show ¬ (J2 : Int) < (I2 : Int) by omega)]
   have q1 := aG (d := E) (i := J2) (by omega)
   have q2 := aG (d := E) (i := I2) (by omega)
   have q3 := cE (d := E) (i := I2) (j := J2) (x := E[J2]!) (by omega)
   have e3 : (I2 : Int) + 1 = ((I2 + 1 : Nat) : Int) := by omega
   have e4 : (J2 : Int) - 1 = ((J2 - 1 : Nat) : Int) := by omega
   refine g2_ ?_
   refine .inl ⟨oF [0, 1, 2, 3, 4, 5, 8, 9, 6, 10, 7, 11, 12, 13, 14, 15] [], by kernel_rfl, ?_⟩
   repeat first | simp -implicitDefEqProofs only [go_sem, aa, q1, q2, q3, dH, Int.toNat_natCast, List.contains_nil, e3, e4] | with_reducible first | refine gl_ ?_ | refine ga_ ?_ | refine gn_ ?_
   refine ⟨(I2 + 1, J2 - 1, swp E I2 J2), ab [] ?_, ⟨by rw [← hz2]; simp [swp], hR2, by simp only []; omega, by simp only []; omega⟩, by simp only []; omega⟩
   repeat first | simp -implicitDefEqProofs only [go_sem, aa, cX] | with_reducible refine gl_ ?_
   first | done | rfl | trace_state
 ·refine g2_ ?_
  exact hk
theorem al4 (d : Array UInt8) (a b n : Nat) (hn : d.size = n) (hab : a < b) (hb : b ≤ n) (h50 : n < 50) {L0 : List (List DV)} {ρ σ nb K}
  (hk : K (.v (.bool (decide (scanSorted ltU d b (a + 1) = b)))) ⟨ρ, σ, rB 5 32 d L0, 2, nb⟩) :
  CallS Tryz.prog false 187 [.rf 1 0 n, .v (.int .i64 a), .v (.int .i64 b)] ⟨ρ, σ, rB 5 32 d L0, 2, nb⟩ K := by
 obtain ⟨I, hI⟩ : ∃ I, scanSorted ltU d b (a + 1) = I := ⟨_, rfl⟩
 rw [hI] at hk
 have e1 : (a : Int) + 1 = ((a + 1 : Nat) : Int) := by omega
 refine CallS.inline Ty.mixed Tryz.func187 rfl (by kernel_rfl) (by kernel_rfl) rfl [.tmp 6] rfl (Vc2.of ?_)
 repeat first | simp -implicitDefEqProofs only [go_sem, aa] | with_reducible refine gl_ ?_
 refine gf_ e1 ?_
 refine bF (γ := Unit) (fun _ => []) (fun _ => []) (fun _ => rB 5 32 d L0) 2 (fun _ => True) (fun _ => 0) () (ab [] (by simp -implicitDefEqProofs only [go_sem, aa]; first | done | rfl | exact ⟨rfl, rfl⟩)) trivial (fun i hi => ?_)
 refine g2_ ?_
 rw [show decide ((0 : Int) < 5) = true from rfl]
 refine g2_ ?_
 refine cI (γ := Unit) (fun _ => ⟨[(7, .d (.v (.int .i64 ((I : Nat) : Int)))), (2, .d (.v (.int .i64 ((b : Nat) : Int)))), (0, .d (.rf 1 0 n)), (1, .d (.v (.int .i64 ((a : Nat) : Int))))], [], rB 5 32 d L0, 2, 2⟩) (fun _ => True) ?_ (fun _ _ => ?_)
 ·refine fw (γ := Nat) (fun k => [(7, .d (.v (.int .i64 ((k : Nat) : Int))))]) (fun _ => []) (fun _ => rB 5 32 d L0) 2 (fun k => scanSorted ltU d b k = I ∧ a + 1 ≤ k) (fun k => b - k) (a + 1) (ab [] ?_) ⟨hI, Nat.le_refl _⟩ (fun k hk5 => ?_)
  ·repeat first | simp -implicitDefEqProofs only [go_sem, aa] | with_reducible refine gl_ ?_
   first | done | rfl | exact ⟨rfl, rfl⟩
  obtain ⟨hk6, hk7⟩ := hk5
  refine g2_ ?_
  refine .inl ⟨oF [0, 1, 2, 3, 4, 5, 8, 9, 6, 10, 7, 11, 12, 13, 14, 15] [], by kernel_rfl, ?_⟩
  refine g2_ ?_
  by_cases hle : k < b
  ·rw [decide_eq_true (show (k : Int) < (b : Int) by omega)]
   have q1 := aG (d := d) (i := k) (by omega)
   have q2 := aG (d := d) (i := k - 1) (by omega)
   have e9 : (k : Int) - 1 = ((k - 1 : Nat) : Int) := by omega
   have e10 : (k : Int) + 1 = ((k + 1 : Nat) : Int) := by omega
   have hcc := dA d[k]! d[k - 1]!
   rw [dB] at hcc
   refine gh_ q1 q2 e9 ?_
   refine CallS.eq hcc (by simp -implicitDefEqProofs only [go_sem, aa]) (.inl (by simp -implicitDefEqProofs only [go_sem, aa])) ?_
   refine g2_ ?_
   cases hc : ltU d[k]! d[k - 1]! with
   | false =>
    rw [afh hle hc] at hk6
    refine gf_ e10 ?_
    refine ⟨k + 1, ab [] ?_, ⟨hk6, by omega⟩, by omega⟩
    repeat first | simp -implicitDefEqProofs only [go_sem, aa] | with_reducible refine gl_ ?_
    first | done | rfl | trace_state
   | true =>
    rw [vG (.inr hc)] at hk6
    refine g2_ ?_
    refine ⟨(), ab [] ?_⟩
    repeat first | simp -implicitDefEqProofs only [go_sem, aa, hk6] | with_reducible refine gl_ ?_
    first | done | rfl | trace_state
  ·rw [decide_eq_false (show ¬ (k : Int) < (b : Int) by omega)]
   rw [vG (.inl hle)] at hk6
   refine g2_ ?_
   refine ⟨(), ab [] ?_⟩
   repeat first | simp -implicitDefEqProofs only [go_sem, aa, hk6] | with_reducible refine gl_ ?_
   first | done | rfl | trace_state
 ·refine g2_ ?_
  by_cases hb2 : I = b
  ·rw [show ((I : Int) == (b : Int)) = true by rw [hb2]; exact beq_self_eq_true _]
   rw [decide_eq_true hb2] at hk
   refine g2_ ?_
   exact hk
  ·rw [show ((I : Int) == (b : Int)) = false from beq_eq_false_iff_ne.2 (by omega)]
   rw [decide_eq_false hb2] at hk
   refine g2_ ?_
   rw [decide_eq_true (show (b : Int) - (a : Int) < 50 by omega)]
   refine g2_ ?_
   exact hk
end Go.Proofs.YtlaefellhnkfbaaGreat.V

set_option maxRecDepth 10000
set_option maxHeartbeats 4000000
namespace Go.Eng
open Go.Sort
section
variable {P : Program} {T : TypeId} {y z : Operand} {Kv : Value → Prop} {k2 : IntKind}
theorem oI {a : Int} (h : ∀ w : Nat, w < 18446744073709551616 → Kv (.int .u64 w)) : Kv (.int .u64 (IntKind.u64.wrap a)) := by
 have e : IntKind.u64.wrap a = a % 18446744073709551616 := by
  simp only [IntKind.wrap, show IntKind.u64.bits = 64 from rfl, show IntKind.u64.signed = false from rfl, Bool.false_and, Bool.false_eq_true, if_false]
  rfl
 rw [e]
 obtain ⟨w, hw⟩ : ∃ w : Nat, a % 18446744073709551616 = (w : Int) := ⟨(a % 18446744073709551616).toNat, by omega⟩
 rw [hw]
 exact h w (by omega)
theorem sL {a b : Int} (h : ∀ w : Nat, w < 18446744073709551616 → Kv (.int .u64 w)) : AtPure P (bq .xor T y z (.int .u64 a) (.int .u64 b)) Kv := by
 rw [ahZ]; exact oI h
theorem aaR {a : Int} {b : Int} (hb : 0 ≤ b) (h : ∀ w : Nat, w < 18446744073709551616 → Kv (.int .u64 w)) : AtPure P (bq .shl T y z (.int .u64 a) (.int k2 b)) Kv := by
 rw [aag hb]; exact oI h
theorem ahH {a : Nat} {b : Int} (hb : 0 ≤ b) (ha : a < 18446744073709551616) (h : ∀ w : Nat, w < 18446744073709551616 → Kv (.int .u64 w)) : AtPure P (bq .shr T y z (.int .u64 a) (.int k2 b)) Kv := by
 rw [tg hb]
 generalize min b.toNat IntKind.u64.bits = m
 have e : (a : Int).fdiv (2 ^ m) = ((a / 2 ^ m : Nat) : Int) := by
  rw [Int.fdiv_eq_ediv_of_nonneg _ (Int.le_of_lt (Int.pow_pos (by decide)))]
  simp
 rw [e]
 exact h _ (Nat.lt_of_le_of_lt (Nat.div_le_self _ _) ha)
theorem z7 {a m : Nat} (hm : m < 18446744073709551616) (h : ∀ w : Nat, w ≤ m → Kv (.int .u64 w)) : AtPure P (bq .and T y z (.int .u64 a) (.int .u64 m)) Kv := by
 rw [ahz]
 have e : (BitVec.ofInt IntKind.u64.bits (m : Int)).toNat = m := by
  show (BitVec.ofInt 64 (m : Int)).toNat = m
  rw [BitVec.ofInt_natCast, BitVec.toNat_ofNat]
  exact Nat.mod_eq_of_lt hm
 have h1 : (BitVec.ofInt IntKind.u64.bits (a : Int) &&& BitVec.ofInt IntKind.u64.bits (m : Int)).toNat ≤ m := by
  rw [BitVec.toNat_and, e]; exact Nat.and_le_right
 generalize (BitVec.ofInt IntKind.u64.bits (a : Int) &&& BitVec.ofInt IntKind.u64.bits (m : Int)).toNat = w at h1
 have e2 : IntKind.u64.wrap (w : Int) = w := IntWalk.u64_in _ ⟨by omega, by omega⟩
 rw [e2]
 exact h w h1
theorem vr {l : Nat} (h1 : 13 ≤ l) (h2 : l ≤ 26) : 1 ≤ 2 ^ bitsLen l ∧ 2 ^ bitsLen l ≤ 2 * l := by
 obtain ⟨m, rfl⟩ : ∃ m, l = 13 + m := ⟨l - 13, by omega⟩
 iterate 14 (rcases m with _ | m; · decide)
 omega
end
end Go.Eng
namespace Go.Proofs.YtlaefellhnkfbaaGreat.V
open Go.Eng Go.Sort
attribute [local go_sem] plR List.map_cons List.map_nil
theorem al0 (l : Nat) (h1 : 13 ≤ l) (h2 : l ≤ 26) : Con2 Tryz.prog 224 [.v (.int .i64 l)] (· = plR (.v (.int .u64 (2 ^ bitsLen l : Nat)))) := by
 have hp := vr h1 h2
 have hb : bitsLen l ≤ 64 := by
  obtain ⟨m, rfl⟩ : ∃ m, l = 13 + m := ⟨l - 13, by omega⟩
  iterate 14 (rcases m with _ | m; · decide)
  omega
 refine af Ty.mixed Tryz.func224 rfl (by kernel_rfl) (by kernel_rfl) rfl [.tmp 2] rfl ?_
 refine g2_ ?_
 refine g2_ ?_
 refine hZ (by omega) ?_
 refine g2_ ?_
 refine CallS.eq (oL l h2) ws_ (.inl ws_) ?_
 refine g2_ ?_
 rw [aag (by omega), show (1 : Int) * 2 ^ min ((bitsLen l : Nat) : Int).toNat IntKind.u64.bits = ((2 ^ bitsLen l : Nat) : Int) by
  rw [Int.toNat_natCast, Nat.min_eq_left (show bitsLen l ≤ IntKind.u64.bits from hb)]; simp]
 refine hZ (by omega) ?_
 refine g2_ ?_
 exact ⟨_, rfl, ab [] ws_⟩
theorem alL (d : Array UInt8) (x : Nat) (hx : x < 18446744073709551616) {L0 : List (List DV)} {ρ σ nb K} (hk : ∀ y : Nat, y < 18446744073709551616 → K (.v (.int .u64 y)) ⟨ρ, σ, (2, .var 245 [.v (.int .u64 y)]) :: rB 5 32 d L0, 3, nb⟩) :
  CallS Tryz.prog false 225 [.pt 2 0] ⟨ρ, σ, (2, .var 245 [.v (.int .u64 x)]) :: rB 5 32 d L0, 3, nb⟩ K := by
 refine CallS.inline Ty.mixed Tryz.func225 rfl (by kernel_rfl) (by kernel_rfl) rfl [.tmp 2] rfl (Vc2.of ?_)
 refine g2_ ?_
 refine g2_ ?_
 refine .inl ⟨oF [0, 3, 1, 4, 2, 5, 6, 7, 8, 9] [], by kernel_rfl, ?_⟩
 refine g2_ ?_
 refine aaR (by omega) (fun x1 h1 => ?_)
 refine g2_ ?_
 refine sL (fun x2 h2 => ?_)
 refine g2_ ?_
 refine .inl ⟨oF [0, 3, 1, 4, 2, 5, 6, 7, 8, 9] [], by kernel_rfl, ?_⟩
 refine g2_ ?_
 refine ahH (by omega) h2 (fun x3 h3 => ?_)
 refine g2_ ?_
 refine sL (fun x4 h4 => ?_)
 refine g2_ ?_
 refine .inl ⟨oF [0, 3, 1, 4, 2, 5, 6, 7, 8, 9] [], by kernel_rfl, ?_⟩
 refine g2_ ?_
 refine aaR (by omega) (fun x5 h5 => ?_)
 refine g2_ ?_
 refine sL (fun x6 h6 => ?_)
 refine g2_ ?_
 exact hk x6 h6
theorem akE (d : Array UInt8) (a b n : Nat) (hn : d.size = n) (hab : a + 12 < b) (hb : b ≤ n) (h26 : n ≤ 26) {L0 : List (List DV)} {ρ σ nb K}
  (hk : ∀ D x, D.size = n → PermIn a b d D → K (.tup []) ⟨ρ, σ, (2, .var 245 [.v (.int .u64 (x : Nat))]) :: rB 5 32 D L0, 3, nb⟩) :
  CallS Tryz.prog false 184 [.rf 1 0 n, .v (.int .i64 a), .v (.int .i64 b)] ⟨ρ, σ, rB 5 32 d L0, 2, nb⟩ K := by
 obtain ⟨l, hl⟩ : ∃ l, b - a = l := ⟨_, rfl⟩
 have hl1 : 13 ≤ l ∧ l ≤ 26 := by omega
 have hp := vr hl1.1 hl1.2
 have kn := al0 l hl1.1 hl1.2
 obtain ⟨M, hM⟩ : ∃ M, 2 ^ bitsLen l = M := ⟨_, rfl⟩
 rw [hM] at hp kn
 clear hM
 have e0 : (b : Int) - (a : Int) = ((l : Nat) : Int) := by omega
 have e1 : (a : Int) + ((l / 4 : Nat) : Int) * 2 - 1 = ((a + l / 4 * 2 - 1 : Nat) : Int) := by omega
 have e2 : (a : Int) + ((l / 4 : Nat) : Int) * 2 + 1 = ((a + l / 4 * 2 + 1 : Nat) : Int) := by omega
 have e3 : (M : Int) - 1 = ((M - 1 : Nat) : Int) := by omega
 have hl4 : 3 ≤ l / 4 ∧ l / 4 * 4 ≤ l := by omega
 obtain ⟨lo, hlo⟩ : ∃ lo, a + l / 4 * 2 - 1 = lo := ⟨_, rfl⟩
 rw [hlo] at e1
 refine CallS.inline Ty.mixed Tryz.func184 rfl (by kernel_rfl) (by kernel_rfl) rfl [] rfl (Vc2.of ?_)
 refine g2_ ?_
 refine gf_ e0 ?_
 rw [decide_eq_true (show (8 : Int) ≤ (l : Int) by omega)]
 refine g2_ ?_
 refine hZ (by omega) ?_
 refine g2_ ?_
 refine CallS.eq kn ws_ (.inl ws_) ?_
 refine g2_ ?_
 refine Eq.mpr (eX (a := l) (b := 4) rfl rfl (by omega)) ?_
 refine gf_ e1 ?_
 refine vf (γ := Option (Nat × Nat × Array UInt8)) (fun g => match g with
  | none => ⟨[(9, .d (.v (.int .i64 (lo : Nat)))), (7, .loc 7 0), (8, .d (.v (.int .u64 (M : Nat)))), (6, .d (.v (.int .i64 (l : Nat)))), (0, .d (.rf 1 0 n)), (1, .d (.v (.int .i64 (a : Nat))))], [(7, ⟨[.v (.int .u64 (l : Nat))], 245⟩)], rB 5 32 d L0, 2, 2⟩
  | some (i, x, D) => ⟨[(9, .d (.v (.int .i64 (i : Nat)))), (7, .d (.pt 2 0)), (8, .d (.v (.int .u64 (M : Nat)))), (6, .d (.v (.int .i64 (l : Nat)))), (0, .d (.rf 1 0 n)), (1, .d (.v (.int .i64 (a : Nat))))], [], (2, .var 245 [.v (.int .u64 (x : Nat))]) :: rB 5 32 D L0, 3, 2⟩)
  (fun g => match g with
  | none => True
  | some (i, x, D) => D.size = n ∧ PermIn a b d D ∧ lo ≤ i ∧ i ≤ a + l / 4 * 2 + 2 ∧ x < 18446744073709551616) (fun g => match g with
  | none => a + l / 4 * 2 + 2 - lo
  | some (i, _, _) => a + l / 4 * 2 + 2 - i) none (ab [] ?_) trivial (fun g hg => ?_)
 ·repeat first | simp -implicitDefEqProofs only [go_sem, aa] | with_reducible refine gl_ ?_
  first | done | rfl | exact ⟨rfl, rfl⟩
 match g, hg with
 | none, _ =>
  have hx : l < 18446744073709551616 := by omega
  have hpm := permIn_refl d a b
  simp only
  refine g2_ ?_
  refine Eq.mpr (eX (a := l) (b := 4) rfl rfl (by omega)) ?_
  refine gf_ e2 ?_
  rw [decide_eq_true (show (lo : Int) ≤ ((a + l / 4 * 2 + 1 : Nat) : Int) by omega)]
  refine g2_ ?_
  refine alL d l hx (fun y hy => ?_)
  refine gf_ e3 ?_
  refine hZ (by omega) ?_
  refine g2_ ?_
  refine z7 (m := M - 1) (by omega) (fun w hw => ?_)
  refine g2_ ?_
  by_cases hwl : l ≤ w
  ·rw [decide_eq_true (show (l : Int) ≤ (w : Int) by omega)]
   have e4 : (w : Int) - (l : Int) = ((w - l : Nat) : Int) := by omega
   obtain ⟨O, hO⟩ : ∃ O, w - l = O := ⟨_, rfl⟩
   rw [hO] at e4
   have hOl : O < l := by omega
   refine gf_ e4 ?_
   have q1 := aG (d := d) (i := lo) (by omega)
   have q2 := aG (d := d) (i := a + O) (by omega)
   have q3 := cE (d := d) (i := lo) (j := a + O) (x := d[a + O]!) (by omega)
   have e8 : (a : Int) + (O : Int) = ((a + O : Nat) : Int) := by omega
   have e9 : (lo : Int) + 1 = ((lo + 1 : Nat) : Int) := by omega
   refine g2_ ?_
   refine .inl ⟨oF [0, 1, 2, 3, 4, 6, 7, 8, 12, 13, 5, 9, 14, 10, 15, 11, 16, 17, 18, 19] [], by kernel_rfl, ?_⟩
   repeat first | simp -implicitDefEqProofs only [go_sem, aa, q1, q2, q3, dH, e8, e9, Int.toNat_natCast, List.contains_nil] | with_reducible first | refine gl_ ?_ | refine ga_ ?_ | refine gn_ ?_
   refine ⟨some (lo + 1, y, swp d lo (a + O)), ab [] ?_, ⟨by rw [← hn]; simp [swp], permIn_trans _ _ _ _ _ hpm (swp_permIn d a b lo (a + O) (by omega) (by omega) (by omega) (by omega) (by omega)), by omega, by omega, hy⟩, by simp only []; omega⟩
   repeat first | simp -implicitDefEqProofs only [go_sem, aa, cX] | with_reducible refine gl_ ?_
   first | done | rfl | exact ⟨rfl, rfl⟩
  ·rw [decide_eq_false (show ¬ (l : Int) ≤ (w : Int) by omega)]
   obtain ⟨O, hO⟩ : ∃ O, w = O := ⟨_, rfl⟩
   subst hO
   have hOl : w < l := by omega
   obtain ⟨O, hO⟩ : ∃ O, w = O := ⟨_, rfl⟩
   rw [hO] at hOl ⊢
   refine g2_ ?_
   have q1 := aG (d := d) (i := lo) (by omega)
   have q2 := aG (d := d) (i := a + O) (by omega)
   have q3 := cE (d := d) (i := lo) (j := a + O) (x := d[a + O]!) (by omega)
   have e8 : (a : Int) + (O : Int) = ((a + O : Nat) : Int) := by omega
   have e9 : (lo : Int) + 1 = ((lo + 1 : Nat) : Int) := by omega
   refine g2_ ?_
   refine .inl ⟨oF [0, 1, 2, 3, 4, 6, 7, 8, 12, 13, 5, 9, 14, 10, 15, 11, 16, 17, 18, 19] [], by kernel_rfl, ?_⟩
   repeat first | simp -implicitDefEqProofs only [go_sem, aa, q1, q2, q3, dH, e8, e9, Int.toNat_natCast, List.contains_nil] | with_reducible first | refine gl_ ?_ | refine ga_ ?_ | refine gn_ ?_
   refine ⟨some (lo + 1, y, swp d lo (a + O)), ab [] ?_, ⟨by rw [← hn]; simp [swp], permIn_trans _ _ _ _ _ hpm (swp_permIn d a b lo (a + O) (by omega) (by omega) (by omega) (by omega) (by omega)), by omega, by omega, hy⟩, by simp only []; omega⟩
   repeat first | simp -implicitDefEqProofs only [go_sem, aa, cX] | with_reducible refine gl_ ?_
   first | done | rfl | exact ⟨rfl, rfl⟩
 | some (idx, x, D), ⟨hz, hpm, hi1, hi2, hx⟩ =>
  simp only
  by_cases hlt : idx ≤ a + l / 4 * 2 + 1
  ·refine g2_ ?_
   refine Eq.mpr (eX (a := l) (b := 4) rfl rfl (by omega)) ?_
   refine gf_ e2 ?_
   rw [decide_eq_true (show (idx : Int) ≤ ((a + l / 4 * 2 + 1 : Nat) : Int) by omega)]
   refine g2_ ?_
   refine alL D x hx (fun y hy => ?_)
   refine gf_ e3 ?_
   refine hZ (by omega) ?_
   refine g2_ ?_
   refine z7 (m := M - 1) (by omega) (fun w hw => ?_)
   refine g2_ ?_
   by_cases hwl : l ≤ w
   ·rw [decide_eq_true (show (l : Int) ≤ (w : Int) by omega)]
    have e4 : (w : Int) - (l : Int) = ((w - l : Nat) : Int) := by omega
    obtain ⟨O, hO⟩ : ∃ O, w - l = O := ⟨_, rfl⟩
    rw [hO] at e4
    have hOl : O < l := by omega
    refine gf_ e4 ?_
    have q1 := aG (d := D) (i := idx) (by omega)
    have q2 := aG (d := D) (i := a + O) (by omega)
    have q3 := cE (d := D) (i := idx) (j := a + O) (x := D[a + O]!) (by omega)
    have e8 : (a : Int) + (O : Int) = ((a + O : Nat) : Int) := by omega
    have e9 : (idx : Int) + 1 = ((idx + 1 : Nat) : Int) := by omega
    refine g2_ ?_
    refine .inl ⟨oF [0, 1, 2, 3, 4, 6, 7, 8, 12, 13, 5, 9, 14, 10, 15, 11, 16, 17, 18, 19] [], by kernel_rfl, ?_⟩
    repeat first | simp -implicitDefEqProofs only [go_sem, aa, q1, q2, q3, dH, e8, e9, Int.toNat_natCast, List.contains_nil] | with_reducible first | refine gl_ ?_ | refine ga_ ?_ | refine gn_ ?_
    refine ⟨some (idx + 1, y, swp D idx (a + O)), ab [] ?_, ⟨by rw [← hz]; simp [swp], permIn_trans _ _ _ _ _ hpm (swp_permIn D a b idx (a + O) (by omega) (by omega) (by omega) (by omega) (by omega)), by omega, by omega, hy⟩, by simp only []; omega⟩
    repeat first | simp -implicitDefEqProofs only [go_sem, aa, cX] | with_reducible refine gl_ ?_
    first | done | rfl | exact ⟨rfl, rfl⟩
   ·rw [decide_eq_false (show ¬ (l : Int) ≤ (w : Int) by omega)]
    obtain ⟨O, hO⟩ : ∃ O, w = O := ⟨_, rfl⟩
    subst hO
    have hOl : w < l := by omega
    obtain ⟨O, hO⟩ : ∃ O, w = O := ⟨_, rfl⟩
    rw [hO] at hOl ⊢
    refine g2_ ?_
    have q1 := aG (d := D) (i := idx) (by omega)
    have q2 := aG (d := D) (i := a + O) (by omega)
    have q3 := cE (d := D) (i := idx) (j := a + O) (x := D[a + O]!) (by omega)
    have e8 : (a : Int) + (O : Int) = ((a + O : Nat) : Int) := by omega
    have e9 : (idx : Int) + 1 = ((idx + 1 : Nat) : Int) := by omega
    refine g2_ ?_
    refine .inl ⟨oF [0, 1, 2, 3, 4, 6, 7, 8, 12, 13, 5, 9, 14, 10, 15, 11, 16, 17, 18, 19] [], by kernel_rfl, ?_⟩
    repeat first | simp -implicitDefEqProofs only [go_sem, aa, q1, q2, q3, dH, e8, e9, Int.toNat_natCast, List.contains_nil] | with_reducible first | refine gl_ ?_ | refine ga_ ?_ | refine gn_ ?_
    refine ⟨some (idx + 1, y, swp D idx (a + O)), ab [] ?_, ⟨by rw [← hz]; simp [swp], permIn_trans _ _ _ _ _ hpm (swp_permIn D a b idx (a + O) (by omega) (by omega) (by omega) (by omega) (by omega)), by omega, by omega, hy⟩, by simp only []; omega⟩
    repeat first | simp -implicitDefEqProofs only [go_sem, aa, cX] | with_reducible refine gl_ ?_
    first | done | rfl | exact ⟨rfl, rfl⟩
  ·refine g2_ ?_
   refine Eq.mpr (eX (a := l) (b := 4) rfl rfl (by omega)) ?_
   refine gf_ e2 ?_
   rw [decide_eq_false (show ¬ (idx : Int) ≤ ((a + l / 4 * 2 + 1 : Nat) : Int) by omega)]
   refine g2_ ?_
   exact hk D x hz hpm
end Go.Proofs.YtlaefellhnkfbaaGreat.V

set_option maxRecDepth 10000
set_option maxHeartbeats 4000000
namespace Go.Proofs.YtlaefellhnkfbaaGreat.V
open Go.Eng Go.Sort
attribute [local go_sem] plR List.map_cons List.map_nil
theorem al_ (n : Nat) (h26 : n ≤ 26) {L0 : List (List DV)} : ∀ (m : Nat) (d : Array UInt8) (a b lim : Nat), d.size = n → a ≤ b → b ≤ n → lim ≤ 30 → b - a ≤ m → Below ltU a b d → ∀ {ρ σ nb K},
  (∀ d', PermIn a b d d' → SortedIn ltU a b d' → K (.tup []) ⟨ρ, σ, rB 5 32 d' L0, 2, nb⟩) →
  CallS Tryz.prog false 114 [.rf 1 0 n, .v (.int .i64 a), .v (.int .i64 b), .v (.int .i64 lim)] ⟨ρ, σ, rB 5 32 d L0, 2, nb⟩ K := by
 intro m
 induction m using Nat.strongRecOn with
 | ind m ih =>
 intro d0 a0 b0 lim0 hn0 hab0 hb0 hlm0 hm0 hbl0 ρ σ nb K hk
 refine CallS.inline Ty.mixed Tryz.func114 rfl (by kernel_rfl) (by kernel_rfl) rfl [] rfl (Vc2.of ?_)
 refine g2_ ?_
 refine g2_ ?_
 refine ag0 (γ := Nat × Nat × Nat × Bool × Bool × Array UInt8) (fun g => ⟨[(1, .d (.v (.int .i64 (g.1 : Nat)))), (2, .d (.v (.int .i64 (g.2.1 : Nat)))), (3, .d (.v (.int .i64 (g.2.2.1 : Nat)))), (8, .d (.v (.bool g.2.2.2.1))), (9, .d (.v (.bool g.2.2.2.2.1))), (0, .d (.rf 1 0 n))], [], rB 5 32 g.2.2.2.2.2 L0, 2, 2⟩)
  (fun g => g.2.2.2.2.2.size = n ∧ g.1 ≤ g.2.1 ∧ g.2.1 ≤ n ∧ g.2.2.1 ≤ 30 ∧ g.2.1 - g.1 ≤ m ∧ Todo (fun D => K (.tup []) ⟨ρ, σ, rB 5 32 D L0, 2, nb⟩) g.1 g.2.1 g.2.2.2.2.2 ∧ Below ltU g.1 g.2.1 g.2.2.2.2.2) (fun g => g.2.1 - g.1) (a0, b0, lim0, true, true, d0) (ab [] ?_) ⟨hn0, hab0, hb0, hlm0, hm0, hk, hbl0⟩ (fun g hg => ?_)
 ·repeat first | simp -implicitDefEqProofs only [go_sem, aa] | with_reducible refine gl_ ?_
  first | done | rfl | exact ⟨rfl, rfl⟩
 obtain ⟨a, b, lim, wb, wp, d⟩ := g
 obtain ⟨hn, hab, hb, hlm, hm, hT, hbl⟩ := hg
 simp only at hn hab hb hlm hm hT hbl ⊢
 obtain ⟨l, hl⟩ : ∃ l, b - a = l := ⟨_, rfl⟩
 have e0 : (b : Int) - (a : Int) = ((l : Nat) : Int) := by omega
 refine Vc2.blockV (Vc2.seqJ (γ := Unit) (fun _ => ⟨[(10, .d (.v (.int .i64 (l : Nat)))), (1, .d (.v (.int .i64 (a : Nat)))), (2, .d (.v (.int .i64 (b : Nat)))), (3, .d (.v (.int .i64 (lim : Nat)))), (8, .d (.v (.bool wb))), (9, .d (.v (.bool wp))), (0, .d (.rf 1 0 n))], [], rB 5 32 d L0, 2, 2⟩) (fun _ => True) ?_ (fun _ _ => ?_))
 ·refine gf_ e0 ?_
  refine ⟨(), ab [] ?_⟩
  repeat first | simp -implicitDefEqProofs only [go_sem, aa] | with_reducible refine gl_ ?_
  first | done | rfl | exact ⟨rfl, rfl⟩
 refine Vc2.seqJ (γ := Unit) (fun _ => ⟨[(10, .d (.v (.int .i64 (l : Nat)))), (1, .d (.v (.int .i64 (a : Nat)))), (2, .d (.v (.int .i64 (b : Nat)))), (3, .d (.v (.int .i64 (lim : Nat)))), (8, .d (.v (.bool wb))), (9, .d (.v (.bool wp))), (0, .d (.rf 1 0 n))], [], rB 5 32 d L0, 2, 2⟩) (fun _ => 12 < l) ?_ (fun _ h12 => ?_)
 ·refine g2_ ?_
  by_cases h12 : l ≤ 12
  ·rw [decide_eq_true (show (l : Int) ≤ 12 by omega)]
   refine g2_ ?_
   refine amf d a b n hn hab hb (by omega) ?_
   refine g2_ ?_
   obtain ⟨s1, s2⟩ := insertionSort_holds swoU d a b hab (by omega)
   exact hT _ s1 s2
  rw [decide_eq_false (show ¬ (l : Int) ≤ 12 by omega)]
  refine g2_ ?_
  refine ⟨(), ab [] ?_, by omega⟩
  repeat first | simp -implicitDefEqProofs only [go_sem, aa] | with_reducible refine gl_ ?_
  first | done | rfl | exact ⟨rfl, rfl⟩
 refine Vc2.seqJ (γ := Unit) (fun _ => ⟨[(10, .d (.v (.int .i64 (l : Nat)))), (1, .d (.v (.int .i64 (a : Nat)))), (2, .d (.v (.int .i64 (b : Nat)))), (3, .d (.v (.int .i64 (lim : Nat)))), (8, .d (.v (.bool wb))), (9, .d (.v (.bool wp))), (0, .d (.rf 1 0 n))], [], rB 5 32 d L0, 2, 2⟩) (fun _ => 0 < lim) ?_ (fun _ h0 => ?_)
 ·refine g2_ ?_
  by_cases h0 : lim = 0
  ·rw [show ((lim : Int) == 0) = true by rw [h0]; rfl]
   refine g2_ ?_
   refine aly d a b n hn (by omega) hb (by omega) ?_
   refine g2_ ?_
   obtain ⟨s1, s2⟩ := heapSort_holds swoU d a b hab (by omega)
   exact hT _ s1 s2
  rw [show ((lim : Int) == 0) = false from beq_eq_false_iff_ne.2 (by omega)]
  refine g2_ ?_
  refine ⟨(), ab [] ?_, by omega⟩
  repeat first | simp -implicitDefEqProofs only [go_sem, aa] | with_reducible refine gl_ ?_
  first | done | rfl | exact ⟨rfl, rfl⟩
 refine Vc2.seqJ (γ := Nat × Array UInt8) (fun g => ⟨[(10, .d (.v (.int .i64 (l : Nat)))), (1, .d (.v (.int .i64 (a : Nat)))), (2, .d (.v (.int .i64 (b : Nat)))), (3, .d (.v (.int .i64 (g.1 : Nat)))), (8, .d (.v (.bool wb))), (9, .d (.v (.bool wp))), (0, .d (.rf 1 0 n))], [], rB 5 32 g.2 L0, 2, 2⟩) (fun g => g.1 ≤ 30 ∧ g.2.size = n ∧ PermIn a b d g.2) ?_ (fun g hg => ?_)
 ·refine g2_ ?_
  refine jD (fun hwb => ?_) (fun hwb => ?_)
  ·refine g2_ ?_
   refine ⟨(lim, d), ab [] ?_, hlm, hn, permIn_refl _ _ _⟩
   repeat first | simp -implicitDefEqProofs only [go_sem, aa] | with_reducible refine gl_ ?_
   first | done | rfl | exact ⟨rfl, rfl⟩
  ·refine g2_ ?_
   refine akE d a b n hn (by omega) hb h26 (fun D x h1 h2 => ?_)
   have e1 : (lim : Int) - 1 = ((lim - 1 : Nat) : Int) := by omega
   refine gf_ e1 ?_
   refine ⟨(lim - 1, D), ab [] ?_, by simp only []; omega, h1, h2⟩
   repeat first | simp -implicitDefEqProofs only [go_sem, aa] | with_reducible refine gl_ ?_
   first | done | rfl | exact ⟨rfl, rfl⟩
 obtain ⟨lm, D1⟩ := g
 obtain ⟨hlm1, hz1, hp1⟩ := hg
 simp only at hlm1 hz1 hp1 ⊢
 refine Vc2.seqJ (γ := Nat × Int) (fun g => ⟨[(11, .d (.v (.int .i64 (g.1 : Nat)))), (12, .d (.v (.int .i64 g.2))), (10, .d (.v (.int .i64 (l : Nat)))), (1, .d (.v (.int .i64 (a : Nat)))), (2, .d (.v (.int .i64 (b : Nat)))), (3, .d (.v (.int .i64 (lm : Nat)))), (8, .d (.v (.bool wb))), (9, .d (.v (.bool wp))), (0, .d (.rf 1 0 n))], [], rB 5 32 D1 L0, 2, 2⟩) (fun g => a ≤ g.1 ∧ g.1 < b) ?_ (fun g hg => ?_)
 ·refine g2_ ?_
  refine akU D1 a b n hz1 (by omega) hb (by omega) (fun s => ?_)
  obtain ⟨hpa, hpb⟩ := choosePivot_holds ltU D1 a b (by omega)
  generalize choosePivot ltU D1 a b = PV at hpa hpb ⊢
  obtain ⟨p1, hint⟩ := PV
  simp only at hpa hpb ⊢
  refine g2_ ?_
  refine ⟨(p1, ajF hint), ab [] ?_, hpa, hpb⟩
  repeat first | simp -implicitDefEqProofs only [go_sem, aa] | with_reducible refine gl_ ?_
  first | done | rfl | exact ⟨rfl, rfl⟩
 obtain ⟨p1, hi1⟩ := g
 obtain ⟨hpa, hpb⟩ := hg
 simp only at hpa hpb ⊢
 refine Vc2.seqJ (γ := Nat × Int × Array UInt8) (fun g => ⟨[(11, .d (.v (.int .i64 (g.1 : Nat)))), (12, .d (.v (.int .i64 g.2.1))), (10, .d (.v (.int .i64 (l : Nat)))), (1, .d (.v (.int .i64 (a : Nat)))), (2, .d (.v (.int .i64 (b : Nat)))), (3, .d (.v (.int .i64 (lm : Nat)))), (8, .d (.v (.bool wb))), (9, .d (.v (.bool wp))), (0, .d (.rf 1 0 n))], [], rB 5 32 g.2.2 L0, 2, 2⟩) (fun g => a ≤ g.1 ∧ g.1 < b ∧ g.2.2.size = n ∧ PermIn a b d g.2.2) ?_ (fun g hg => ?_)
 ·refine g2_ ?_
  refine jD (fun hh => ?_) (fun hh => ?_)
  ·refine g2_ ?_
   refine aml D1 a b n hz1 (by omega) hb (by omega) ?_
   have e2 : (b : Int) - 1 = ((b - 1 : Nat) : Int) := by omega
   have e3 : (p1 : Int) - (a : Int) = ((p1 - a : Nat) : Int) := by omega
   have e4 : ((b - 1 : Nat) : Int) - ((p1 - a : Nat) : Int) = ((b - 1 - (p1 - a) : Nat) : Int) := by omega
   have hr := reverseRange_holds D1 a b hab (by omega)
   refine gh_ e2 e3 e4 ?_
   refine ⟨(b - 1 - (p1 - a), 1, reverseRange D1 a b), ab [] ?_, by simp only []; omega, by simp only []; omega, hr.1.trans hz1, permIn_trans _ _ _ _ _ hp1 hr⟩
   repeat first | simp -implicitDefEqProofs only [go_sem, aa] | with_reducible refine gl_ ?_
   first | done | rfl | exact ⟨rfl, rfl⟩
  ·refine g2_ ?_
   refine ⟨(p1, hi1, D1), ab [] ?_, hpa, hpb, hz1, hp1⟩
   repeat first | simp -implicitDefEqProofs only [go_sem, aa] | with_reducible refine gl_ ?_
   first | done | rfl | exact ⟨rfl, rfl⟩
 obtain ⟨p, hi, D⟩ := g
 clear hpa hpb
 obtain ⟨hpa, hpb, hz, hpm⟩ := hg
 simp only at hpa hpb hz hpm ⊢
 have hT := hT.perm hpm
 have hbl := hbl.perm (by omega) hpm
 clear hp1 hz1 hpm
 refine Vc2.seqJ (γ := Unit) (fun _ => ⟨[(11, .d (.v (.int .i64 (p : Nat)))), (10, .d (.v (.int .i64 (l : Nat)))), (1, .d (.v (.int .i64 (a : Nat)))), (2, .d (.v (.int .i64 (b : Nat)))), (3, .d (.v (.int .i64 (lm : Nat)))), (8, .d (.v (.bool wb))), (9, .d (.v (.bool wp))), (0, .d (.rf 1 0 n))], [], rB 5 32 D L0, 2, 2⟩) (fun _ => True) ?_ (fun _ _ => ?_)
 ·cases wb with
  | false =>
   refine g2_ ?_
   refine ⟨(), ab [] ?_⟩
   repeat first | simp -implicitDefEqProofs only [go_sem, aa] | with_reducible refine gl_ ?_
   first | done | rfl | exact ⟨rfl, rfl⟩
  | true =>
   cases wp with
   | false =>
    refine g2_ ?_
    refine ⟨(), ab [] ?_⟩
    repeat first | simp -implicitDefEqProofs only [go_sem, aa] | with_reducible refine gl_ ?_
    first | done | rfl | exact ⟨rfl, rfl⟩
   | true =>
    refine g2_ ?_
    refine jD (fun hh => ?_) (fun hh => ?_)
    ·refine g2_ ?_
     refine al4 D a b n hz (by omega) hb (by omega) ?_
     have hpi := partialInsertionSort_holds swoU D a b (by omega) (by omega) hbl
     rw [akc (by omega)] at hpi
     simp only at hpi
     refine g2_ ?_
     refine jD (fun hs => ?_) (fun hs => ?_)
     ·refine g2_ ?_
      exact hT _ hpi.1 (hpi.2 hs)
     ·refine g2_ ?_
      refine ⟨(), ab [] ?_⟩
      repeat first | simp -implicitDefEqProofs only [go_sem, aa] | with_reducible refine gl_ ?_
      first | done | rfl | exact ⟨rfl, rfl⟩
    ·refine g2_ ?_
     refine ⟨(), ab [] ?_⟩
     repeat first | simp -implicitDefEqProofs only [go_sem, aa] | with_reducible refine gl_ ?_
     first | done | rfl | exact ⟨rfl, rfl⟩
 refine Vc2.seqJ (γ := Unit) (fun _ => ⟨[(11, .d (.v (.int .i64 (p : Nat)))), (10, .d (.v (.int .i64 (l : Nat)))), (1, .d (.v (.int .i64 (a : Nat)))), (2, .d (.v (.int .i64 (b : Nat)))), (3, .d (.v (.int .i64 (lm : Nat)))), (8, .d (.v (.bool wb))), (9, .d (.v (.bool wp))), (0, .d (.rf 1 0 n))], [], rB 5 32 D L0, 2, 2⟩) (fun _ => True) ?_ (fun _ _ => Vc2.of ?_)
 ·refine g2_ ?_
  refine .inl ⟨oF [0, 1, 2, 3, 4, 8, 9, 5, 10, 6, 11, 7, 12, 13, 14] [], by kernel_rfl, ?_⟩
  refine g2_ ?_
  have q2 := aG (d := D) (i := p) (by omega)
  by_cases ha : 0 < a
  ·rw [decide_eq_true (show (0 : Int) < (a : Int) by omega)]
   have q1 := aG (d := D) (i := a - 1) (by omega)
   have e1 : (a : Int) - 1 = ((a - 1 : Nat) : Int) := by omega
   have hcc := dA D[a - 1]! D[p]!
   rw [dB] at hcc
   refine gh_ q1 q2 e1 ?_
   refine CallS.eq hcc ws_ (.inl ws_) ?_
   refine g2_ ?_
   cases hc : ltU D[a - 1]! D[p]! with
   | true =>
    refine g2_ ?_
    refine ⟨(), ab [] ?_⟩
    repeat first | simp -implicitDefEqProofs only [go_sem, aa] | with_reducible refine gl_ ?_
    first | done | rfl | exact ⟨rfl, rfl⟩
   | false =>
    have hge : ∀ i, a ≤ i → i < b → ltU D[i]! D[p]! = false := fun i h1 h2 => swoU.ntrans _ _ _ ((hbl.resolve_left (by omega)) i h1 h2) hc
    obtain ⟨s1, s2, s3, s4, s5⟩ := partitionEqual_holds ltU swoU D a b p hpa hpb (by omega) hge
    refine g2_ ?_
    refine amp D a b p n hz hpa hpb hb (by omega) ?_
    generalize partitionEqual ltU D a b p = R at s1 s2 s3 s4 s5 ⊢
    obtain ⟨mid, D2⟩ := R
    simp only at s1 s2 s3 s4 s5 ⊢
    obtain ⟨t1, t2⟩ := hT.equal (by omega) s1 s2 s3 s4 s5 hge
    refine g2_ ?_
    refine ⟨(mid, b, lm, wb, wp, D2), ab [] ?_, ⟨s3.1.trans hz, by simp only []; omega, hb, hlm1, by simp only []; omega, t1, t2⟩, by simp only []; omega⟩
    repeat first | simp -implicitDefEqProofs only [go_sem, aa] | with_reducible refine gl_ ?_
    first | done | rfl | exact ⟨rfl, rfl⟩
  ·rw [decide_eq_false (show ¬ (0 : Int) < (a : Int) by omega)]
   refine g2_ ?_
   refine ⟨(), ab [] ?_⟩
   repeat first | simp -implicitDefEqProofs only [go_sem, aa] | with_reducible refine gl_ ?_
   first | done | rfl | exact ⟨rfl, rfl⟩
 obtain ⟨s1, s2, s3, s4, s5⟩ := partition_holds ltU swoU D a b p hpa hpb (by omega)
 refine g2_ ?_
 refine alr D a b p n hz hpa hpb hb (by omega) ?_
 generalize partition ltU D a b p = R at s1 s2 s3 s4 s5 ⊢
 obtain ⟨mid, al, D2⟩ := R
 simp only at s1 s2 s3 s4 s5 ⊢
 have hz2 : D2.size = n := s3.1.trans hz
 have e1 : (mid : Int) - (a : Int) = ((mid - a : Nat) : Int) := by omega
 have e2 : (b : Int) - (mid : Int) = ((b - mid : Nat) : Int) := by omega
 have e3 : (mid : Int) + 1 = ((mid + 1 : Nat) : Int) := by omega
 refine gg_ e1 e2 ?_
 refine Eq.mpr (eX (a := l) (b := 8) rfl rfl (by omega)) ?_
 refine g2_ ?_
 by_cases hlr : mid - a < b - mid
 ·rw [decide_eq_true (show ((mid - a : Nat) : Int) < ((b - mid : Nat) : Int) by omega)]
  refine g2_ ?_
  refine ih (mid - a) (by omega) D2 a mid lm hz2 s1 (by omega) hlm1 (Nat.le_refl _) ((hbl.perm (by omega) s3).mono (by omega)) (fun D3 g1 g2 => ?_)
  obtain ⟨t1, t2⟩ := hT.right (by omega) s1 s2 s3 s4 s5 g1 g2
  refine gf_ e3 ?_
  refine ⟨(mid + 1, b, lm, decide (((l / 8 : Nat) : Int) ≤ ((mid - a : Nat) : Int)), al, D3), ab [] ?_, ⟨g1.1.trans hz2, by simp only []; omega, hb, hlm1, by simp only []; omega, t1, t2⟩, by simp only []; omega⟩
  repeat first | simp -implicitDefEqProofs only [go_sem, aa] | with_reducible refine gl_ ?_
  first | done | rfl | exact ⟨rfl, rfl⟩
 ·rw [decide_eq_false (show ¬ ((mid - a : Nat) : Int) < ((b - mid : Nat) : Int) by omega)]
  refine gf_ e3 ?_
  refine ih (b - (mid + 1)) (by omega) D2 (mid + 1) b lm hz2 (by omega) hb hlm1 (Nat.le_refl _) (.inr fun i h1 h2 => by rw [Nat.add_sub_cancel]; exact s5 i (by omega) h2) (fun D3 g1 g2 => ?_)
  obtain ⟨t1, t2⟩ := hT.left (by omega) s1 s2 s3 s4 s5 hbl g1 g2
  refine g2_ ?_
  refine ⟨(a, mid, lm, decide (((l / 8 : Nat) : Int) ≤ ((b - mid : Nat) : Int)), al, D3), ab [] ?_, ⟨g1.1.trans hz2, s1, by simp only []; omega, hlm1, by simp only []; omega, t1, t2⟩, by simp only []; omega⟩
  repeat first | simp -implicitDefEqProofs only [go_sem, aa] | with_reducible refine gl_ ?_
  first | done | rfl | exact ⟨rfl, rfl⟩
theorem wS (l : List UInt8) (hl : l.length ≤ 26) {L0 : List (List DV)} {ρ σ nb K} (hk : K (.tup []) ⟨ρ, σ, [(1, .arr 5 1 ((aL ltU l).map a_) false), (0, .arr 32 1 L0 false)], 2, nb⟩) :
  CallS Tryz.prog false 49 [.rf 1 0 l.length] ⟨ρ, σ, [(1, .arr 5 1 (l.map a_) false), (0, .arr 32 1 L0 false)], 2, nb⟩ K := by
 rw [alN]
 have hbl : bitsLen l.length ≤ 30 := by
  generalize l.length = n at hl
  iterate 27 (rcases n with _ | n; · decide)
  omega
 refine CallS.inline Ty.mixed Tryz.func49 rfl (by kernel_rfl) (by kernel_rfl) rfl [] rfl (Vc2.of ?_)
 repeat first | simp -implicitDefEqProofs only [go_sem, aa] | with_reducible refine gl_ ?_
 refine g2_ ?_
 refine hZ (by omega) ?_
 refine g2_ ?_
 refine CallS.eq (oL l.length hl) ws_ (.inl ws_) ?_
 refine g2_ ?_
 refine al_ l.length hl l.length l.toArray 0 l.length (bitsLen l.length) (by simp) (Nat.zero_le _) (Nat.le_refl _) hbl (by omega) (.inl rfl) (fun d' h1 h2 => ?_)
 have e := yi l d' h1 h2
 simp only at e
 have e2 : bR d' = (aL ltU l).map a_ := by rw [bR, e]
 rw [← e2] at hk
 refine g2_ ?_
 exact hk
theorem z0 (p : ak) (h1 : p.view.length ≤ 300) (h2 : p.near.length ≤ 300) (h4 : p.ring.succ.filter.length ≤ 4000000) (h5 : p.ring.pred.filter.length ≤ 4000000) (h12 : (dL p).length ≤ 26) : Con2 Tryz.prog 14 [.agg (au p)] (· = plR (.fz 1 ((bG p).map a_))) :=
 abo p h1 h2 h4 h5 (by omega) fun hk => wS (dL p) h12 hk
end Go.Proofs.YtlaefellhnkfbaaGreat.V
