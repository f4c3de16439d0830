/-
  Part 18 of the proof of Pl: the engine and the walks, in their order.
-/
import Derived.Test.YtlaefellhnkfbaaGreatPl5
set_option linter.unusedSimpArgs false
set_option linter.unusedVariables false
namespace Go.Eng
section
variable {α : Type} (key : α → Nat)
abbrev Up (l : List α) : Prop := l.Pairwise fun a b => key a < key b
def kAt (l : List α) (x : α) : Nat := (l.findIdx? fun a => decide (key x < key a)).getD l.length
def kIns (l : List α) (x : α) : List α := l.take (kAt key l x) ++ [x] ++ l.drop (kAt key l x)
variable {key}
theorem kIns_perm (l : List α) (x : α) : (kIns key l x).Perm (x :: l) := by
  unfold kIns
  rw [List.append_assoc, List.singleton_append]
  refine List.perm_middle.trans ?_
  rw [List.take_append_drop]
theorem mem_kIns {l : List α} {x y : α} : y ∈ kIns key l x ↔ y = x ∨ y ∈ l := by
  rw [(kIns_perm l x).mem_iff]; simp
theorem kAt_eq (l : List α) (x : α) : kAt key l x = l.findIdx fun a => decide (key x < key a) := by
  unfold kAt
  rw [List.findIdx_eq_getD_findIdx?]
theorem take_kAt {l : List α} {x a : α} (h : a ∈ l.take (kAt key l x)) : key a ≤ key x := by
  rw [kAt_eq] at h
  obtain ⟨j, hj, rfl⟩ := List.mem_take_iff_getElem.1 h
  have := List.not_of_lt_findIdx (p := fun a => decide (key x < key a)) (xs := l) (i := j) (by omega)
  simp at this
  exact this
theorem drop_kAt {l : List α} {x a : α} (hs : Up key l) (h : a ∈ l.drop (kAt key l x)) : key x < key a := by
  rw [kAt_eq] at h
  obtain ⟨j, hj, rfl⟩ := List.mem_drop_iff_getElem.1 h
  have hlt : (l.findIdx fun a => decide (key x < key a)) < l.length := by omega
  have h1 := List.findIdx_getElem (w := hlt)
  simp at h1
  rcases Nat.eq_zero_or_pos j with rfl | hp
  · simpa using h1
  · have h2 := List.pairwise_iff_getElem.1 hs _ _ hlt hj (by omega)
    simp only [Nat.add_comm] at h2 ⊢
    omega
theorem up_kIns {l : List α} {x : α} (hs : Up key l) (hx : ∀ a ∈ l, key a ≠ key x) : Up key (kIns key l x) := by
  unfold kIns
  have h1 : (l.take (kAt key l x)).Pairwise fun a b => key a < key b := hs.sublist (List.take_sublist _ _)
  have h2 : (l.drop (kAt key l x)).Pairwise fun a b => key a < key b := hs.sublist (List.drop_sublist _ _)
  rw [Up, List.append_assoc, List.pairwise_append]
  refine ⟨h1, ?_, ?_⟩
  · rw [List.singleton_append, List.pairwise_cons]
    exact ⟨fun a ha => drop_kAt hs ha, h2⟩
  · intro a ha b hb
    have h3 := take_kAt ha
    have h4 := hx a (List.mem_of_mem_take ha)
    have h5 : key a < key x := by omega
    rcases List.mem_append.1 hb with hb | hb
    · simp at hb; subst hb; exact h5
    · have := drop_kAt hs hb; omega
end
end Go.Eng

namespace Go.Eng
abbrev dKey (d : GDesc) : Nat := d.node.toNat
def dNewer (a b : GDesc) : Bool := if a.inc = b.inc then decide (a.age < b.age) else decide (b.inc < a.inc)
def Vw (self : UInt8) (l : List GDesc) : Prop := (∀ d ∈ l, d.node ≠ self ∧ d.inc ≠ 0) ∧ Up dKey l
instance (self : UInt8) (l : List GDesc) : Decidable (Vw self l) := inferInstanceAs (Decidable (_ ∧ _))
def dIdx (l : List GDesc) (node : UInt8) : Option Nat := l.findIdx? fun d => decide (d.node = node)
def dFind (l : List GDesc) (node : UInt8) : Int := match dIdx l node with | some i => (i : Int) | none => -1
def dDrop (l : List GDesc) (node : UInt8) : List GDesc := l.filter fun d => !decide (d.node = node)
def dPut (l : List GDesc) (d : GDesc) (self : UInt8) (room : Int) : List GDesc × Bool :=
  if d.node = self ∨ d.inc = 0 then (l, false)
  else match dIdx l d.node with
    | some i => match l[i]? with
      | some o => if dNewer d o = true then (l.set i d, true) else (l, false)
      | none => (l, false)
    | none => if room ≤ (l.length : Int) then (l, false) else (kIns dKey l d, true)
def GDesc.older (d : GDesc) : GDesc := if d.age = 255 then d else { d with age := d.age + 1 }
def dOlder (l : List GDesc) : List GDesc := l.map GDesc.older
def dOld (l : List GDesc) : Option Nat := l.findIdx? fun d => decide (∀ e ∈ l, e.age ≤ d.age)
def dOldest (l : List GDesc) : Int := match dOld l with | some i => (i : Int) | none => -1
theorem dIdx_some {l : List GDesc} {node : UInt8} {i : Nat} (h : dIdx l node = some i) : ∃ o, l[i]? = some o ∧ o.node = node := by
  obtain ⟨hi, hk, _⟩ := List.findIdx?_eq_some_iff_getElem.1 h
  exact ⟨l[i], List.getElem?_eq_getElem hi, by simpa using hk⟩
theorem dIdx_none {l : List GDesc} {node : UInt8} (h : dIdx l node = none) : ∀ d ∈ l, d.node ≠ node := by
  intro d hd
  simpa using List.findIdx?_eq_none_iff.1 h d hd
theorem vw_nil (self : UInt8) : Vw self [] := ⟨by simp, by simp⟩
theorem node_key {a b : GDesc} (h : dKey a = dKey b) : a.node = b.node := UInt8.toNat_inj.1 h
theorem dIdx_at {self : UInt8} {l : List GDesc} (hv : Up dKey l) {i : Nat} {o : GDesc} (h : l[i]? = some o) : dIdx l o.node = some i := by
  obtain ⟨hi, rfl⟩ := List.getElem?_eq_some_iff.1 h
  unfold dIdx
  rw [List.findIdx?_eq_some_iff_getElem]
  refine ⟨hi, by simp, fun j hj => ?_⟩
  have := List.pairwise_iff_getElem.1 hv j i (by omega) hi hj
  simp
  intro e
  have : dKey l[j] = dKey l[i] := by unfold dKey; rw [e]
  omega
theorem vw_set {self : UInt8} {l : List GDesc} {i : Nat} {o d : GDesc} (hv : Vw self l) (hi : l[i]? = some o) (hn : o.node = d.node) (h1 : d.node ≠ self) (h2 : d.inc ≠ 0) : Vw self (l.set i d) := by
  refine ⟨fun e he => ?_, ?_⟩
  · rcases List.mem_or_eq_of_mem_set he with he | rfl
    · exact hv.1 e he
    · exact ⟨h1, h2⟩
  · have : (l.set i d).map dKey = l.map dKey := by
      rw [List.map_set]
      apply List.ext_getElem?
      intro j
      rw [List.getElem?_set]
      split
      · rename_i e
        subst e
        obtain ⟨hlt, rfl⟩ := List.getElem?_eq_some_iff.1 hi
        simp [hlt, dKey, hn]
      · rfl
    have hu : ((l.set i d).map dKey).Pairwise (· < ·) := by rw [this]; exact List.pairwise_map.2 hv.2
    exact List.pairwise_map.1 hu
theorem vw_ins {self : UInt8} {l : List GDesc} {d : GDesc} (hv : Vw self l) (hn : ∀ e ∈ l, e.node ≠ d.node) (h1 : d.node ≠ self) (h2 : d.inc ≠ 0) : Vw self (kIns dKey l d) := by
  refine ⟨fun e he => ?_, up_kIns hv.2 fun e he k => hn e he (node_key k)⟩
  rcases mem_kIns.1 he with rfl | he
  · exact ⟨h1, h2⟩
  · exact hv.1 e he
theorem vw_put {self : UInt8} {l : List GDesc} (hv : Vw self l) (d : GDesc) (room : Int) : Vw self (dPut l d self room).1 := by
  unfold dPut
  split
  · exact hv
  · rename_i h
    split
    · rename_i i hi
      obtain ⟨o, ho, hn⟩ := dIdx_some hi
      rw [ho]
      simp only
      split
      · exact vw_set hv ho hn (fun e => h (.inl e)) (fun e => h (.inr e))
      · exact hv
    · rename_i hi
      split
      · exact hv
      · exact vw_ins hv (dIdx_none hi) (fun e => h (.inl e)) (fun e => h (.inr e))
theorem kIns_len {α : Type} {key : α → Nat} (l : List α) (x : α) : (kIns key l x).length = l.length + 1 := by
  have := (kIns_perm (key := key) l x).length_eq
  simpa using this
theorem put_len {self : UInt8} {l : List GDesc} (d : GDesc) (room : Int) : (dPut l d self room).1.length ≤ l.length + 1 := by
  unfold dPut
  split
  · simp
  · split
    · split
      · split <;> simp
      · simp
    · split
      · simp
      · simp only [kIns_len]; omega
theorem vw_drop {self : UInt8} {l : List GDesc} (hv : Vw self l) (node : UInt8) : Vw self (dDrop l node) := ⟨fun e he => hv.1 e (List.mem_filter.1 he).1, hv.2.filter _⟩
theorem drop_len_le (l : List GDesc) (node : UInt8) : (dDrop l node).length ≤ l.length := List.length_filter_le _ _
theorem older_node (d : GDesc) : d.older.node = d.node := by unfold GDesc.older; split <;> rfl
theorem older_inc (d : GDesc) : d.older.inc = d.inc := by unfold GDesc.older; split <;> rfl
theorem vw_older {self : UInt8} {l : List GDesc} (hv : Vw self l) : Vw self (dOlder l) := by
  refine ⟨fun e he => ?_, ?_⟩
  · obtain ⟨d, hd, rfl⟩ := List.mem_map.1 he
    rw [older_node, older_inc]
    exact hv.1 d hd
  · rw [Up, dOlder, List.pairwise_map]
    refine hv.2.imp ?_
    intro a b h
    unfold dKey
    rw [older_node, older_node]
    exact h
end Go.Eng
