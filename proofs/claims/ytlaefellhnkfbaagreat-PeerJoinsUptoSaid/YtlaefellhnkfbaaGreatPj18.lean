/-
 Part 18 of the proof of Pj: the engine and the walks, in their order.
-/
import Derived.Test.YtlaefellhnkfbaaGreatPj5
set_option linter.unusedSimpArgs false
set_option linter.unusedVariables false
namespace Go.Eng
section
variable {α : Type} (key : α → Nat)
abbrev Up (l : List α) : Prop := l.Pairwise fun a b => key a < key b
def kAt (l : List α) (x : α) : Nat := (l.findIdx? fun a => decide (key x < key a)).getD l.length
def ou (l : List α) (x : α) : List α := l.take (kAt key l x) ++ [x] ++ l.drop (kAt key l x)
variable {key}
theorem rT (l : List α) (x : α) : (ou key l x).Perm (x :: l) := by
 unfold ou
 rw [List.append_assoc, List.singleton_append]
 refine List.perm_middle.trans ?_
 rw [List.take_append_drop]
theorem lQ {l : List α} {x y : α} : y ∈ ou key l x ↔ y = x ∨ y ∈ l := by
 rw [(rT l x).mem_iff]; simp
theorem xO (l : List α) (x : α) : kAt key l x = l.findIdx fun a => decide (key x < key a) := by
 unfold kAt
 rw [List.findIdx_eq_getD_findIdx?]
theorem ae6 {l : List α} {x a : α} (h : a ∈ l.take (kAt key l x)) : key a ≤ key x := by
 rw [xO] at h
 obtain ⟨j, hj, rfl⟩ := List.mem_take_iff_getElem.1 h
 have := List.not_of_lt_findIdx (p := fun a => decide (key x < key a)) (xs := l) (i := j) (by omega)
 simp at this
 exact this
theorem vV {l : List α} {x a : α} (hs : Up key l) (h : a ∈ l.drop (kAt key l x)) : key x < key a := by
 rw [xO] at h
 obtain ⟨j, hj, rfl⟩ := List.mem_drop_iff_getElem.1 h
 have hlt : (l.findIdx fun a => decide (key x < key a)) < l.length := by omega
 have h1 := List.findIdx_getElem (w := hlt)
 simp at h1
 rcases Nat.eq_zero_or_pos j with rfl | hp
 ·simpa using h1
 ·have h2 := List.pairwise_iff_getElem.1 hs _ _ hlt hj (by omega)
  simp only [Nat.add_comm] at h2 ⊢
  omega
theorem aji {l : List α} {x : α} (hs : Up key l) (hx : ∀ a ∈ l, key a ≠ key x) : Up key (ou key l x) := by
 unfold ou
 have h1 : (l.take (kAt key l x)).Pairwise fun a b => key a < key b := hs.sublist (List.take_sublist _ _)
 have h2 : (l.drop (kAt key l x)).Pairwise fun a b => key a < key b := hs.sublist (List.drop_sublist _ _)
 rw [Up, List.append_assoc, List.pairwise_append]
 refine ⟨h1, ?_, ?_⟩
 ·rw [List.singleton_append, List.pairwise_cons]
  exact ⟨fun a ha => vV hs ha, h2⟩
 ·intro a ha b hb
  have h3 := ae6 ha
  have h4 := hx a (List.mem_of_mem_take ha)
  have h5 : key a < key x := by omega
  rcases List.mem_append.1 hb with hb | hb
  ·simp at hb; subst hb; exact h5
  ·have := vV hs hb; omega
end
end Go.Eng

namespace Go.Eng
abbrev cx (d : GDesc) : Nat := d.node.toNat
def eQ (a b : GDesc) : Bool := if a.inc = b.inc then decide (a.age < b.age) else decide (b.inc < a.inc)
def Vw (self : UInt8) (l : List GDesc) : Prop := (∀ d ∈ l, d.node ≠ self ∧ d.inc ≠ 0) ∧ Up cx l
instance (self : UInt8) (l : List GDesc) : Decidable (Vw self l) := inferInstanceAs (Decidable (_ ∧ _))
def dM (l : List GDesc) (self : UInt8) (room : Int) : Bool := decide (0 ≤ room ∧ (l.length : Int) ≤ room ∧ Vw self l)
def bX (l : List GDesc) (node : UInt8) : Option Nat := l.findIdx? fun d => decide (d.node = node)
def gI (l : List GDesc) (node : UInt8) : Int := match bX l node with | some i => (i : Int) | none => -1
def bb (l : List GDesc) (node : UInt8) : List GDesc := l.filter fun d => !decide (d.node = node)
def bB (l : List GDesc) (d : GDesc) (self : UInt8) (room : Int) : List GDesc × Bool :=
 if d.node = self ∨ d.inc = 0 then (l, false)
 else match bX l d.node with
  | some i => match l[i]? with
   | some o => if eQ d o = true then (l.set i d, true) else (l, false)
   | none => (l, false)
  | none => if room ≤ (l.length : Int) then (l, false) else (ou cx l d, true)
def GDesc.older (d : GDesc) : GDesc := if d.age = 255 then d else { d with age := d.age + 1 }
def bI (l : List GDesc) : List GDesc := l.map GDesc.older
def o0 (l : List GDesc) : Option Nat := l.findIdx? fun d => decide (∀ e ∈ l, e.age ≤ d.age)
def lP (l : List GDesc) : Int := match o0 l with | some i => (i : Int) | none => -1
theorem cD {l : List GDesc} {node : UInt8} {i : Nat} (h : bX l node = some i) : ∃ o, l[i]? = some o ∧ o.node = node := by
 obtain ⟨hi, hk, _⟩ := List.findIdx?_eq_some_iff_getElem.1 h
 exact ⟨l[i], List.getElem?_eq_getElem hi, by simpa using hk⟩
theorem fY {l : List GDesc} {node : UInt8} (h : bX l node = none) : ∀ d ∈ l, d.node ≠ node := by
 intro d hd
 simpa using List.findIdx?_eq_none_iff.1 h d hd
theorem yj (self : UInt8) : Vw self [] := ⟨by simp, by simp⟩
theorem ady {a b : GDesc} (h : cx a = cx b) : a.node = b.node := UInt8.toNat_inj.1 h
theorem aax {self : UInt8} {l : List GDesc} (hv : Up cx l) {i : Nat} {o : GDesc} (h : l[i]? = some o) : bX l o.node = some i := by
 obtain ⟨hi, rfl⟩ := List.getElem?_eq_some_iff.1 h
 unfold bX
 rw [List.findIdx?_eq_some_iff_getElem]
 refine ⟨hi, by simp, fun j hj => ?_⟩
 have := List.pairwise_iff_getElem.1 hv j i (by omega) hi hj
 simp
 intro e
 have : cx l[j] = cx l[i] := by unfold cx; rw [e]
 omega
theorem aku {self : UInt8} {l : List GDesc} {i : Nat} {o d : GDesc} (hv : Vw self l) (hi : l[i]? = some o) (hn : o.node = d.node) (h1 : d.node ≠ self) (h2 : d.inc ≠ 0) : Vw self (l.set i d) := by
 refine ⟨fun e he => ?_, ?_⟩
 ·rcases List.mem_or_eq_of_mem_set he with he | rfl
  ·exact hv.1 e he
  ·exact ⟨h1, h2⟩
 ·have : (l.set i d).map cx = l.map cx := by
   rw [List.map_set]
   apply List.ext_getElem?
   intro j
   rw [List.getElem?_set]
   split
   ·rename_i e
    subst e
    obtain ⟨hlt, rfl⟩ := List.getElem?_eq_some_iff.1 hi
    simp [hlt, cx, hn]
   ·rfl
  have hu : ((l.set i d).map cx).Pairwise (· < ·) := by rw [this]; exact List.pairwise_map.2 hv.2
  exact List.pairwise_map.1 hu
theorem akQ {self : UInt8} {l : List GDesc} {d : GDesc} (hv : Vw self l) (hn : ∀ e ∈ l, e.node ≠ d.node) (h1 : d.node ≠ self) (h2 : d.inc ≠ 0) : Vw self (ou cx l d) := by
 refine ⟨fun e he => ?_, aji hv.2 fun e he k => hn e he (ady k)⟩
 rcases lQ.1 he with rfl | he
 ·exact ⟨h1, h2⟩
 ·exact hv.1 e he
theorem mg {self : UInt8} {l : List GDesc} (hv : Vw self l) (d : GDesc) (room : Int) : Vw self (bB l d self room).1 := by
 unfold bB
 split
 ·exact hv
 ·rename_i h
  split
  ·rename_i i hi
   obtain ⟨o, ho, hn⟩ := cD hi
   rw [ho]
   simp only
   split
   ·exact aku hv ho hn (fun e => h (.inl e)) (fun e => h (.inr e))
   ·exact hv
  ·rename_i hi
   split
   ·exact hv
   ·exact akQ hv (fY hi) (fun e => h (.inl e)) (fun e => h (.inr e))
theorem ig {α : Type} {key : α → Nat} (l : List α) (x : α) : (ou key l x).length = l.length + 1 := by
 have := (rT (key := key) l x).length_eq
 simpa using this
theorem gM {self : UInt8} {l : List GDesc} (d : GDesc) (room : Int) : (bB l d self room).1.length ≤ l.length + 1 := by
 unfold bB
 split
 ·simp
 ·split
  ·split
   ·split <;> simp
   ·simp
  ·split
   ·simp
   ·simp only [ig]; omega
theorem pj {self : UInt8} {l : List GDesc} (d : GDesc) {room : Int} (h : (l.length : Int) ≤ room) : ((bB l d self room).1.length : Int) ≤ room := by
 unfold bB
 split
 ·exact h
 ·split
  ·split
   ·split
    ·simpa using h
    ·exact h
   ·exact h
  ·split
   ·exact h
   ·simp only [ig]; omega
theorem nS {self : UInt8} {l : List GDesc} (hv : Vw self l) (node : UInt8) : Vw self (bb l node) := ⟨fun e he => hv.1 e (List.mem_filter.1 he).1, hv.2.filter _⟩
theorem np (l : List GDesc) (node : UInt8) : (bb l node).length ≤ l.length := List.length_filter_le _ _
theorem kI (d : GDesc) : d.older.node = d.node := by unfold GDesc.older; split <;> rfl
theorem abC (d : GDesc) : d.older.inc = d.inc := by unfold GDesc.older; split <;> rfl
theorem wM {self : UInt8} {l : List GDesc} (hv : Vw self l) : Vw self (bI l) := by
 refine ⟨fun e he => ?_, ?_⟩
 ·obtain ⟨d, hd, rfl⟩ := List.mem_map.1 he
  rw [kI, abC]
  exact hv.1 d hd
 ·rw [Up, bI, List.pairwise_map]
  refine hv.2.imp ?_
  intro a b h
  unfold cx
  rw [kI, kI]
  exact h
theorem af6 {self : UInt8} {l : List GDesc} {room : Int} (hv : Vw self l) (h0 : 0 ≤ room) (h : (l.length : Int) ≤ room) : dM l self room = true := decide_eq_true ⟨h0, h, hv⟩
end Go.Eng
