/-
 Part 22 of the proof of Pj: the engine and the walks, in their order.
-/
import Derived.Test.YtlaefellhnkfbaaGreatPj9
import Derived.Test.YtlaefellhnkfbaaGreatPj11
import Derived.Test.YtlaefellhnkfbaaGreatPj18
import Derived.Test.YtlaefellhnkfbaaGreatPj21
set_option linter.unusedSimpArgs false
set_option linter.unusedVariables false
set_option maxRecDepth 10000
namespace Go.Proofs.YtlaefellhnkfbaaGreat
open Go.Eng
attribute [local go_sem] GSpan.val GSpan.enc PD.val PD.enc
end Go.Proofs.YtlaefellhnkfbaaGreat

namespace Go.Eng
def dq (l : List GDesc) (node : UInt8) : Nat := l.findIdx fun d => decide (node ≤ d.node)
def dJ (l : List GDesc) (node : UInt8) : Bool := (bX l node).isSome
section
variable {l : List GDesc} {node : UInt8}
theorem vF (l : List GDesc) (node : UInt8) : dq l node ≤ l.length := List.findIdx_le_length
theorem mM (hu : Up cx l) {h : Nat} {o : GDesc} (ho : l[h]? = some o) : node ≤ o.node ↔ dq l node ≤ h := by
 obtain ⟨hh, rfl⟩ := List.getElem?_eq_some_iff.1 ho
 constructor
 ·intro hle
  rcases Nat.lt_or_ge h (dq l node) with h1 | h1
  ·have := List.not_of_lt_findIdx h1
   exact absurd hle (by simpa using this)
  ·exact h1
 ·intro hle
  have hlt : dq l node < l.length := by omega
  have h1 := List.findIdx_getElem (w := hlt)
  simp only [decide_eq_true_eq] at h1
  rw [UInt8.le_iff_toNat_le] at h1 ⊢
  rcases Nat.eq_or_lt_of_le hle with e | h2
  ·have : l[List.findIdx (fun d => decide (node ≤ d.node)) l] = l[h] := by congr 1
   rw [this] at h1
   exact h1
  ·have := List.pairwise_iff_getElem.1 hu _ _ hlt hh h2
   unfold cx dq at this
   omega
theorem gu (hu : Up cx l) {i : Nat} (h : bX l node = some i) : dq l node = i := by
 obtain ⟨o, ho, hn⟩ := cD h
 have h1 := (mM hu (node := node) ho).1 (by rw [hn]; exact UInt8.le_refl _)
 obtain ⟨hi, rfl⟩ := List.getElem?_eq_some_iff.1 ho
 rcases Nat.eq_or_lt_of_le h1 with e | h2
 ·exact e
 ·exfalso
  have h3 : l[dq l node]? = some l[dq l node] := List.getElem?_eq_getElem (by omega)
  have h4 := (mM hu (node := node) h3).2 (Nat.le_refl _)
  have h5 := List.pairwise_iff_getElem.1 hu _ _ (by omega) hi h2
  rw [UInt8.le_iff_toNat_le] at h4
  have h6 : node.toNat = l[i].node.toNat := by rw [hn]
  unfold cx at h5
  omega
theorem uC (hu : Up cx l) {o : GDesc} (ho : l[dq l node]? = some o) : decide (o.node = node) = dJ l node := by
 unfold dJ
 cases hi : bX l node with
 | some i =>
  have := gu hu hi
  obtain ⟨o', ho', hn⟩ := cD hi
  rw [this, ho'] at ho
  cases ho
  simp [hn]
 | none =>
  have := fY hi o (List.mem_of_getElem? ho)
  simp [this]
theorem abO (hu : Up cx l) (h : dq l node = l.length) : dJ l node = false := by
 unfold dJ
 cases hi : bX l node with
 | none => rfl
 | some i =>
  have := gu hu hi
  obtain ⟨o', ho', hn⟩ := cD hi
  obtain ⟨hlt, _⟩ := List.getElem?_eq_some_iff.1 ho'
  omega
theorem acY {d : GDesc} (h : bX l d.node = none) : kAt cx l d = dq l d.node := by
 rw [xO]
 unfold dq
 have hn := fY h
 clear h
 induction l with
 | nil => rfl
 | cons a r ih =>
  have h1 := hn a List.mem_cons_self
  have h2 : decide (cx d < cx a) = decide (d.node ≤ a.node) := by
   rw [decide_eq_decide, UInt8.le_iff_toNat_le]
   unfold cx
   have : a.node.toNat ≠ d.node.toNat := fun e => h1 (UInt8.toNat_inj.1 e)
   omega
  rw [List.findIdx_cons, List.findIdx_cons, h2, ih (fun e he => hn e (List.mem_cons_of_mem _ he))]
theorem pJ (hu : Up cx l) {i : Nat} (h : bX l node = some i) : bb l node = l.take i ++ l.drop (i + 1) := by
 obtain ⟨o, ho, hn⟩ := cD h
 obtain ⟨hi, rfl⟩ := List.getElem?_eq_some_iff.1 ho
 have hne : ∀ j (hj : j < l.length), j ≠ i → l[j].node ≠ node := by
  intro j hj hji e
  have h1 : bX l l[j].node = some j := aax (self := 0) hu (List.getElem?_eq_getElem hj)
  rw [e, h] at h1
  cases h1
  exact hji rfl
 unfold bb
 conv => lhs; rw [← List.take_append_drop i l, List.filter_append]
 rw [List.filter_eq_self.2, ← List.getElem_cons_drop hi, List.filter_cons]
 ·simp only [hn, decide_true, Bool.not_true, Bool.false_eq_true, if_false]
  rw [List.filter_eq_self.2]
  intro d hd
  obtain ⟨j, hj, rfl⟩ := List.mem_drop_iff_getElem.1 hd
  have := hne (j + (i + 1)) hj (by omega)
  simp only [Nat.add_comm] at this ⊢
  simpa using this
 ·intro d hd
  obtain ⟨j, hj, rfl⟩ := List.mem_take_iff_getElem.1 hd
  simpa using hne j (by omega) (by omega)
theorem qG (h : bX l node = none) : bb l node = l := by
 unfold bb
 exact List.filter_eq_self.2 (fun d hd => by simpa using fY h d hd)
end
end Go.Eng

set_option maxRecDepth 10000
namespace Go.Proofs.YtlaefellhnkfbaaGreat
open Go.Eng
attribute [local go_sem] GSpan.val GSpan.enc PD.val PD.enc
end Go.Proofs.YtlaefellhnkfbaaGreat

set_option maxRecDepth 10000
namespace Go.Proofs.YtlaefellhnkfbaaGreat
open Go.Eng
attribute [local go_sem] GSpan.val GSpan.enc PD.val PD.enc
end Go.Proofs.YtlaefellhnkfbaaGreat

namespace Go.Eng
section
variable {l : List GDesc} {self : UInt8}
def okD (self : UInt8) (l : List GDesc) (i : Nat) : Prop := ∀ d, l[i]? = some d → (d.node ≠ self ∧ d.inc ≠ 0) ∧ ∀ e, i ≠ 0 → l[i - 1]? = some e → e.node < d.node
def okR (self : UInt8) (l : List GDesc) (i : Nat) : Prop := ∀ d, l[i]? = some d → (d.node ≠ self ∧ d.inc ≠ 0) ∧ ∀ k e, k < i → l[k]? = some e → e.node < d.node
theorem adT : Vw self l ↔ ∀ i, i < l.length → okR self l i := by
 constructor
 ·rintro ⟨h1, h2⟩ i hi d hd
  refine ⟨h1 d (List.mem_of_getElem? hd), fun k e hk he => ?_⟩
  obtain ⟨hi', rfl⟩ := List.getElem?_eq_some_iff.1 hd
  obtain ⟨hk', rfl⟩ := List.getElem?_eq_some_iff.1 he
  rw [UInt8.lt_iff_toNat_lt]
  exact List.pairwise_iff_getElem.1 h2 k i hk' hi' hk
 ·intro h
  refine ⟨fun d hd => ?_, List.pairwise_iff_getElem.2 fun i j hi hj hij => ?_⟩
  ·obtain ⟨i, hi, rfl⟩ := List.getElem_of_mem hd
   exact (h i hi _ (List.getElem?_eq_getElem hi)).1
  ·have := (h j hj _ (List.getElem?_eq_getElem hj)).2 i _ hij (List.getElem?_eq_getElem hi)
   rwa [UInt8.lt_iff_toNat_lt] at this
theorem ad3 : Vw self l ↔ ∀ i, i < l.length → okD self l i := by
 constructor
 ·intro h i hi d hd
  obtain ⟨h1, h2⟩ := adT.1 h i hi d hd
  exact ⟨h1, fun e h0 he => h2 (i - 1) e (by omega) he⟩
 ·intro h
  rw [adT]
  intro i hi d hd
  refine ⟨(h i hi d hd).1, fun k e hk he => ?_⟩
  obtain ⟨m, rfl⟩ : ∃ m, i = k + 1 + m := ⟨i - k - 1, by omega⟩
  induction m generalizing d with
  | zero => exact (h (k + 1) hi d hd).2 e (by omega) (by simpa using he)
  | succ m ih =>
   have hlt : k + 1 + m < l.length := by omega
   have h1 := ih l[k + 1 + m] hlt (List.getElem?_eq_getElem hlt) (by omega)
   have h2 := (h (k + 1 + (m + 1)) hi d hd).2 l[k + 1 + m] (by omega) (by rw [show k + 1 + (m + 1) - 1 = k + 1 + m by omega]; exact List.getElem?_eq_getElem hlt)
   exact UInt8.lt_trans h1 h2
theorem gz {room : Int} {i : Nat} (hi : i < l.length) (h : ¬ okD self l i) : dM l self room = false := decide_eq_false fun ⟨_, _, hv⟩ => h (ad3.1 hv i hi)
theorem akS {i : Nat} {x : GDesc} (hx : l[i]? = some x) (h1 : ∀ e ∈ l, e.age ≤ x.age) (h2 : ∀ j y, j < i → l[j]? = some y → y.age < x.age) : o0 l = some i := by
 obtain ⟨hi, rfl⟩ := List.getElem?_eq_some_iff.1 hx
 unfold o0
 rw [List.findIdx?_eq_some_iff_getElem]
 refine ⟨hi, by simpa using h1, fun j hj => ?_⟩
 have h3 := h2 j l[j] hj (List.getElem?_eq_getElem (by omega))
 simp only [decide_eq_true_eq]
 intro h4
 have h5 := h4 l[i] (List.getElem_mem hi)
 rw [UInt8.lt_iff_toNat_lt] at h3
 rw [UInt8.le_iff_toNat_le] at h5
 omega
theorem ad1 (h : l ≠ []) : ∃ i, o0 l = some i := by
 cases hd : o0 l with
 | some i => exact ⟨i, rfl⟩
 | none =>
  exfalso
  unfold o0 at hd
  rw [List.findIdx?_eq_none_iff] at hd
  have key : ∀ m : List GDesc, m ≠ [] → ∃ d ∈ m, ∀ e ∈ m, e.age ≤ d.age := by
   intro m
   induction m with
   | nil => intro h; exact absurd rfl h
   | cons a r ih =>
    intro _
    by_cases hr : r = []
    ·exact ⟨a, List.mem_cons_self, by intro e he; rw [hr] at he; simp at he; subst he; exact UInt8.le_refl _⟩
    ·obtain ⟨d, hd1, hd2⟩ := ih hr
     by_cases hle : a.age ≤ d.age
     ·refine ⟨d, List.mem_cons_of_mem _ hd1, fun e he => ?_⟩
      rcases List.mem_cons.1 he with rfl | he
      ·exact hle
      ·exact hd2 e he
     ·refine ⟨a, List.mem_cons_self, fun e he => ?_⟩
      rcases List.mem_cons.1 he with rfl | he
      ·exact UInt8.le_refl _
      ·have := hd2 e he
       rw [UInt8.le_iff_toNat_le] at *
       omega
  obtain ⟨d, h1, h2⟩ := key l h
  have := hd d h1
  simp at this
  obtain ⟨e, he, hlt⟩ := this
  have := h2 e he
  rw [UInt8.le_iff_toNat_le] at this
  rw [UInt8.lt_iff_toNat_lt] at hlt
  omega
theorem aea {i : Nat} (h : o0 l = some i) : ∃ x, l[i]? = some x ∧ (∀ e ∈ l, e.age ≤ x.age) ∧ ∀ j y, j < i → l[j]? = some y → y.age < x.age := by
 obtain ⟨hi, h1, h2⟩ := List.findIdx?_eq_some_iff_getElem.1 h
 simp only [decide_eq_true_eq] at h1
 refine ⟨l[i], List.getElem?_eq_getElem hi, h1, fun j y hj hy => ?_⟩
 obtain ⟨hj', rfl⟩ := List.getElem?_eq_some_iff.1 hy
 have h3 := h2 j hj
 rw [UInt8.lt_iff_toNat_lt]
 rcases Nat.lt_or_ge l[j].age.toNat l[i].age.toNat with h4 | h4
 ·exact h4
 ·exfalso
  apply h3
  simp only [decide_eq_true_eq]
  intro e he
  have := h1 e he
  rw [UInt8.le_iff_toNat_le] at *
  omega
end
end Go.Eng

set_option maxRecDepth 10000
namespace Go.Proofs.YtlaefellhnkfbaaGreat
open Go.Eng
attribute [local go_sem] GSpan.val GSpan.enc PD.val PD.enc
end Go.Proofs.YtlaefellhnkfbaaGreat

set_option maxRecDepth 10000
namespace Go.Proofs.YtlaefellhnkfbaaGreat
open Go.Eng
attribute [local go_sem] GSpan.val GSpan.enc PD.val PD.enc
end Go.Proofs.YtlaefellhnkfbaaGreat
