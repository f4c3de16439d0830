/-
 bF 22 of the proof of Pb: the engine and the walks, in their order.
-/
import Derived.Test.YtlaefellhnkfbaaGreatPb9
import Derived.Test.YtlaefellhnkfbaaGreatPb11
import Derived.Test.YtlaefellhnkfbaaGreatPb18
import Derived.Test.YtlaefellhnkfbaaGreatPb21
set_option linter.unusedSimpArgs false
set_option linter.unusedVariables false
set_option maxRecDepth 10000
namespace Go.Proofs.YtlaefellhnkfbaaGreat
open Go.Eng
attribute [local go_sem] GSpan.val GSpan.enc PD.val PD.enc
end Go.Proofs.YtlaefellhnkfbaaGreat

namespace Go.Eng
def cU (l : List GDesc) (node : UInt8) : Nat := l.findIdx fun d => decide (node ≤ d.node)
def di (l : List GDesc) (node : UInt8) : Bool := (cC l node).isSome
section
variable {l : List GDesc} {node : UInt8}
theorem tU (l : List GDesc) (node : UInt8) : cU l node ≤ l.length := List.findIdx_le_length
theorem lU (hu : Up cm l) {h : Nat} {o : GDesc} (ho : l[h]? = some o) : node ≤ o.node ↔ cU l node ≤ h := by
 obtain ⟨hh, rfl⟩ := List.getElem?_eq_some_iff.1 ho
 constructor
 ·intro hle
  rcases Nat.lt_or_ge h (cU l node) with h1 | h1
  ·have := List.not_of_lt_findIdx h1
   exact absurd hle (by simpa using this)
  ·exact h1
 ·intro hle
  have hlt : cU l node < l.length := by omega
  have h1 := List.findIdx_getElem (w := hlt)
  simp only [decide_eq_true_eq] at h1
  rw [UInt8.le_iff_toNat_le] at h1 ⊢
  rcases Nat.eq_or_lt_of_le hle with e | h2
  ·have : l[List.findIdx (fun d => decide (node ≤ d.node)) l] = l[h] := by congr 1
   rw [this] at h1
   exact h1
  ·have := List.pairwise_iff_getElem.1 hu _ _ hlt hh h2
   unfold cm cU at this
   omega
theorem fI (hu : Up cm l) {i : Nat} (h : cC l node = some i) : cU l node = i := by
 obtain ⟨o, ho, hn⟩ := dX h
 have h1 := (lU hu (node := node) ho).1 (by rw [hn]; exact UInt8.le_refl _)
 obtain ⟨hi, rfl⟩ := List.getElem?_eq_some_iff.1 ho
 rcases Nat.eq_or_lt_of_le h1 with e | h2
 ·exact e
 ·exfalso
  have h3 : l[cU l node]? = some l[cU l node] := List.getElem?_eq_getElem (by omega)
  have h4 := (lU hu (node := node) h3).2 (Nat.le_refl _)
  have h5 := List.pairwise_iff_getElem.1 hu _ _ (by omega) hi h2
  rw [UInt8.le_iff_toNat_le] at h4
  have h6 : node.toNat = l[i].node.toNat := by rw [hn]
  unfold cm at h5
  omega
theorem u5 (hu : Up cm l) {o : GDesc} (ho : l[cU l node]? = some o) : decide (o.node = node) = di l node := by
 unfold di
 cases hi : cC l node with
 | some i =>
  have := fI hu hi
  obtain ⟨o', ho', hn⟩ := dX hi
  rw [this, ho'] at ho
  cases ho
  simp [hn]
 | none =>
  have := jt hi o (List.mem_of_getElem? ho)
  simp [this]
theorem abt (hu : Up cm l) (h : cU l node = l.length) : di l node = false := by
 unfold di
 cases hi : cC l node with
 | none => rfl
 | some i =>
  have := fI hu hi
  obtain ⟨o', ho', hn⟩ := dX hi
  obtain ⟨hlt, _⟩ := List.getElem?_eq_some_iff.1 ho'
  omega
theorem zY {d : GDesc} (h : cC l d.node = none) : kAt cm l d = cU l d.node := by
 rw [x9]
 unfold cU
 have hn := jt h
 clear h
 induction l with
 | nil => rfl
 | cons a r ih =>
  have h1 := hn a List.mem_cons_self
  have h2 : decide (cm d < cm a) = decide (d.node ≤ a.node) := by
   rw [decide_eq_decide, UInt8.le_iff_toNat_le]
   unfold cm
   have : a.node.toNat ≠ d.node.toNat := fun e => h1 (UInt8.toNat_inj.1 e)
   omega
  rw [List.findIdx_cons, List.findIdx_cons, h2, ih (fun e he => hn e (List.mem_cons_of_mem _ he))]
theorem tK (hu : Up cm l) {i : Nat} (h : cC l node = some i) : bb l node = l.take i ++ l.drop (i + 1) := by
 obtain ⟨o, ho, hn⟩ := dX h
 obtain ⟨hi, rfl⟩ := List.getElem?_eq_some_iff.1 ho
 have hne : ∀ j (hj : j < l.length), j ≠ i → l[j].node ≠ node := by
  intro j hj hji e
  have h1 : cC l l[j].node = some j := ahG (self := 0) hu (List.getElem?_eq_getElem hj)
  rw [e, h] at h1
  cases h1
  exact hji rfl
 unfold bb
 conv => lhs; rw [← List.take_append_drop i l, List.filter_append]
 rw [List.filter_eq_self.2, ← List.getElem_cons_drop hi, List.filter_cons]
 ·simp only [hn, decide_true, Bool.not_true, Bool.false_eq_true, if_false]
  rw [List.filter_eq_self.2]
  intro d hd
  obtain ⟨j, hj, rfl⟩ := List.mem_drop_iff_getElem.1 hd
  have := hne (j + (i + 1)) hj (by omega)
  simp only [Nat.add_comm] at this ⊢
  simpa using this
 ·intro d hd
  obtain ⟨j, hj, rfl⟩ := List.mem_take_iff_getElem.1 hd
  simpa using hne j (by omega) (by omega)
theorem pY (h : cC l node = none) : bb l node = l := by
 unfold bb
 exact List.filter_eq_self.2 (fun d hd => by simpa using jt h d hd)
end
end Go.Eng

set_option maxRecDepth 10000
namespace Go.Proofs.YtlaefellhnkfbaaGreat
open Go.Eng
attribute [local go_sem] GSpan.val GSpan.enc PD.val PD.enc
end Go.Proofs.YtlaefellhnkfbaaGreat

set_option maxRecDepth 10000
namespace Go.Proofs.YtlaefellhnkfbaaGreat
open Go.Eng
attribute [local go_sem] GSpan.val GSpan.enc PD.val PD.enc
end Go.Proofs.YtlaefellhnkfbaaGreat

namespace Go.Eng
section
variable {l : List GDesc} {self : UInt8}
def okD (self : UInt8) (l : List GDesc) (i : Nat) : Prop := ∀ d, l[i]? = some d → (d.node ≠ self ∧ d.inc ≠ 0) ∧ ∀ e, i ≠ 0 → l[i - 1]? = some e → e.node < d.node
def okR (self : UInt8) (l : List GDesc) (i : Nat) : Prop := ∀ d, l[i]? = some d → (d.node ≠ self ∧ d.inc ≠ 0) ∧ ∀ k e, k < i → l[k]? = some e → e.node < d.node
theorem aeq : Vw self l ↔ ∀ i, i < l.length → okR self l i := by
 constructor
 ·rintro ⟨h1, h2⟩ i hi d hd
  refine ⟨h1 d (List.mem_of_getElem? hd), fun k e hk he => ?_⟩
  obtain ⟨hi', rfl⟩ := List.getElem?_eq_some_iff.1 hd
  obtain ⟨hk', rfl⟩ := List.getElem?_eq_some_iff.1 he
  rw [UInt8.lt_iff_toNat_lt]
  exact List.pairwise_iff_getElem.1 h2 k i hk' hi' hk
 ·intro h
  refine ⟨fun d hd => ?_, List.pairwise_iff_getElem.2 fun i j hi hj hij => ?_⟩
  ·obtain ⟨i, hi, rfl⟩ := List.getElem_of_mem hd
   exact (h i hi _ (List.getElem?_eq_getElem hi)).1
  ·have := (h j hj _ (List.getElem?_eq_getElem hj)).2 i _ hij (List.getElem?_eq_getElem hi)
   rwa [UInt8.lt_iff_toNat_lt] at this
theorem afb : Vw self l ↔ ∀ i, i < l.length → okD self l i := by
 constructor
 ·intro h i hi d hd
  obtain ⟨h1, h2⟩ := aeq.1 h i hi d hd
  exact ⟨h1, fun e h0 he => h2 (i - 1) e (by omega) he⟩
 ·intro h
  rw [aeq]
  intro i hi d hd
  refine ⟨(h i hi d hd).1, fun k e hk he => ?_⟩
  obtain ⟨m, rfl⟩ : ∃ m, i = k + 1 + m := ⟨i - k - 1, by omega⟩
  induction m generalizing d with
  | zero => exact (h (k + 1) hi d hd).2 e (by omega) (by simpa using he)
  | succ m ih =>
   have hlt : k + 1 + m < l.length := by omega
   have h1 := ih l[k + 1 + m] hlt (List.getElem?_eq_getElem hlt) (by omega)
   have h2 := (h (k + 1 + (m + 1)) hi d hd).2 l[k + 1 + m] (by omega) (by rw [show k + 1 + (m + 1) - 1 = k + 1 + m by omega]; exact List.getElem?_eq_getElem hlt)
   exact UInt8.lt_trans h1 h2
theorem fX {room : Int} {i : Nat} (hi : i < l.length) (h : ¬ okD self l i) : dk l self room = false := decide_eq_false fun ⟨_, _, hv⟩ => h (afb.1 hv i hi)
theorem aiE {i : Nat} {x : GDesc} (hx : l[i]? = some x) (h1 : ∀ e ∈ l, e.age ≤ x.age) (h2 : ∀ j y, j < i → l[j]? = some y → y.age < x.age) : xB l = some i := by
 obtain ⟨hi, rfl⟩ := List.getElem?_eq_some_iff.1 hx
 unfold xB
 rw [List.findIdx?_eq_some_iff_getElem]
 refine ⟨hi, by simpa using h1, fun j hj => ?_⟩
 have h3 := h2 j l[j] hj (List.getElem?_eq_getElem (by omega))
 simp only [decide_eq_true_eq]
 intro h4
 have h5 := h4 l[i] (List.getElem_mem hi)
 rw [UInt8.lt_iff_toNat_lt] at h3
 rw [UInt8.le_iff_toNat_le] at h5
 omega
end
end Go.Eng

set_option maxRecDepth 10000
namespace Go.Proofs.YtlaefellhnkfbaaGreat
open Go.Eng
attribute [local go_sem] GSpan.val GSpan.enc PD.val PD.enc
end Go.Proofs.YtlaefellhnkfbaaGreat

set_option maxRecDepth 10000
namespace Go.Proofs.YtlaefellhnkfbaaGreat
open Go.Eng
attribute [local go_sem] GSpan.val GSpan.enc PD.val PD.enc
end Go.Proofs.YtlaefellhnkfbaaGreat
