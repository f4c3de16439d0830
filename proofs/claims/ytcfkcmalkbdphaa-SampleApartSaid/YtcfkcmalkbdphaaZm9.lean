/-
  Part 9 of the proof of Zm: the engine and the walks, in their order.
-/
import Derived.Test.YtcfkcmalkbdphaaZm7
import Derived.Test.YtcfkcmalkbdphaaZm8
set_option linter.unusedSimpArgs false
set_option linter.unusedVariables false
/-
  What package desc computes, on lists.
-/
set_option linter.unusedSimpArgs false
set_option linter.unusedVariables false
namespace Go.Eng

abbrev dKey (d : GDesc) : Nat := d.node.toNat
def dNewer (a b : GDesc) : Bool := if a.inc = b.inc then decide (a.age < b.age) else decide (b.inc < a.inc)

/-- A view of a node: nodes rise, none is itself, each has an incarnation. -/
def Vw (self : UInt8) (l : List GDesc) : Prop := (∀ d ∈ l, d.node ≠ self ∧ d.inc ≠ 0) ∧ Up dKey l
instance (self : UInt8) (l : List GDesc) : Decidable (Vw self l) := inferInstanceAs (Decidable (_ ∧ _))
def dRight (l : List GDesc) (self : UInt8) (room : Int) : Bool := decide (0 ≤ room ∧ (l.length : Int) ≤ room ∧ Vw self l)

def dIdx (l : List GDesc) (node : UInt8) : Option Nat := l.findIdx? fun d => decide (d.node = node)
def dFind (l : List GDesc) (node : UInt8) : Int := match dIdx l node with | some i => (i : Int) | none => -1
def dDrop (l : List GDesc) (node : UInt8) : List GDesc := l.filter fun d => !decide (d.node = node)
def dPut (l : List GDesc) (d : GDesc) (self : UInt8) (room : Int) : List GDesc × Bool :=
  if d.node = self ∨ d.inc = 0 then (l, false)
  else match dIdx l d.node with
    | some i => match l[i]? with
      | some o => if dNewer d o = true then (l.set i d, true) else (l, false)
      | none => (l, false)
    | none => if room ≤ (l.length : Int) then (l, false) else (kIns dKey l d, true)
def GDesc.older (d : GDesc) : GDesc := if d.age = 255 then d else { d with age := d.age + 1 }
def dOlder (l : List GDesc) : List GDesc := l.map GDesc.older
/-- The first of the greatest age. -/
def dOld (l : List GDesc) : Option Nat := l.findIdx? fun d => decide (∀ e ∈ l, e.age ≤ d.age)
def dOldest (l : List GDesc) : Int := match dOld l with | some i => (i : Int) | none => -1

theorem dIdx_some {l : List GDesc} {node : UInt8} {i : Nat} (h : dIdx l node = some i) : ∃ o, l[i]? = some o ∧ o.node = node := by
  obtain ⟨hi, hk, _⟩ := List.findIdx?_eq_some_iff_getElem.1 h
  exact ⟨l[i], List.getElem?_eq_getElem hi, by simpa using hk⟩
theorem dIdx_none {l : List GDesc} {node : UInt8} (h : dIdx l node = none) : ∀ d ∈ l, d.node ≠ node := by
  intro d hd
  simpa using List.findIdx?_eq_none_iff.1 h d hd

theorem vw_nil (self : UInt8) : Vw self [] := ⟨by simp, by simp⟩
theorem node_key {a b : GDesc} (h : dKey a = dKey b) : a.node = b.node := UInt8.toNat_inj.1 h

/-- At its place in a view. -/
theorem dIdx_at {self : UInt8} {l : List GDesc} (hv : Up dKey l) {i : Nat} {o : GDesc} (h : l[i]? = some o) : dIdx l o.node = some i := by
  obtain ⟨hi, rfl⟩ := List.getElem?_eq_some_iff.1 h
  unfold dIdx
  rw [List.findIdx?_eq_some_iff_getElem]
  refine ⟨hi, by simp, fun j hj => ?_⟩
  have := List.pairwise_iff_getElem.1 hv j i (by omega) hi hj
  simp
  intro e
  have : dKey l[j] = dKey l[i] := by unfold dKey; rw [e]
  omega

theorem vw_set {self : UInt8} {l : List GDesc} {i : Nat} {o d : GDesc} (hv : Vw self l) (hi : l[i]? = some o) (hn : o.node = d.node) (h1 : d.node ≠ self) (h2 : d.inc ≠ 0) : Vw self (l.set i d) := by
  refine ⟨fun e he => ?_, ?_⟩
  · rcases List.mem_or_eq_of_mem_set he with he | rfl
    · exact hv.1 e he
    · exact ⟨h1, h2⟩
  · have : (l.set i d).map dKey = l.map dKey := by
      rw [List.map_set]
      apply List.ext_getElem?
      intro j
      rw [List.getElem?_set]
      split
      · rename_i e
        subst e
        obtain ⟨hlt, rfl⟩ := List.getElem?_eq_some_iff.1 hi
        simp [hlt, dKey, hn]
      · rfl
    have hu : ((l.set i d).map dKey).Pairwise (· < ·) := by rw [this]; exact List.pairwise_map.2 hv.2
    exact List.pairwise_map.1 hu

theorem vw_ins {self : UInt8} {l : List GDesc} {d : GDesc} (hv : Vw self l) (hn : ∀ e ∈ l, e.node ≠ d.node) (h1 : d.node ≠ self) (h2 : d.inc ≠ 0) : Vw self (kIns dKey l d) := by
  refine ⟨fun e he => ?_, up_kIns hv.2 fun e he k => hn e he (node_key k)⟩
  rcases mem_kIns.1 he with rfl | he
  · exact ⟨h1, h2⟩
  · exact hv.1 e he

theorem vw_put {self : UInt8} {l : List GDesc} (hv : Vw self l) (d : GDesc) (room : Int) : Vw self (dPut l d self room).1 := by
  unfold dPut
  split
  · exact hv
  · rename_i h
    split
    · rename_i i hi
      obtain ⟨o, ho, hn⟩ := dIdx_some hi
      rw [ho]
      simp only
      split
      · exact vw_set hv ho hn (fun e => h (.inl e)) (fun e => h (.inr e))
      · exact hv
    · rename_i hi
      split
      · exact hv
      · exact vw_ins hv (dIdx_none hi) (fun e => h (.inl e)) (fun e => h (.inr e))

theorem kIns_len {α : Type} {key : α → Nat} (l : List α) (x : α) : (kIns key l x).length = l.length + 1 := by
  have := (kIns_perm (key := key) l x).length_eq
  simpa using this

theorem put_len {self : UInt8} {l : List GDesc} (d : GDesc) (room : Int) : (dPut l d self room).1.length ≤ l.length + 1 := by
  unfold dPut
  split
  · simp
  · split
    · split
      · split <;> simp
      · simp
    · split
      · simp
      · simp only [kIns_len]; omega

theorem put_room {self : UInt8} {l : List GDesc} (d : GDesc) {room : Int} (h : (l.length : Int) ≤ room) : ((dPut l d self room).1.length : Int) ≤ room := by
  unfold dPut
  split
  · exact h
  · split
    · split
      · split
        · simpa using h
        · exact h
      · exact h
    · split
      · exact h
      · simp only [kIns_len]; omega

theorem vw_drop {self : UInt8} {l : List GDesc} (hv : Vw self l) (node : UInt8) : Vw self (dDrop l node) := ⟨fun e he => hv.1 e (List.mem_filter.1 he).1, hv.2.filter _⟩
theorem drop_len_le (l : List GDesc) (node : UInt8) : (dDrop l node).length ≤ l.length := List.length_filter_le _ _

theorem older_node (d : GDesc) : d.older.node = d.node := by unfold GDesc.older; split <;> rfl
theorem older_inc (d : GDesc) : d.older.inc = d.inc := by unfold GDesc.older; split <;> rfl
theorem older_filter (d : GDesc) : d.older.filter = d.filter := by unfold GDesc.older; split <;> rfl
theorem vw_older {self : UInt8} {l : List GDesc} (hv : Vw self l) : Vw self (dOlder l) := by
  refine ⟨fun e he => ?_, ?_⟩
  · obtain ⟨d, hd, rfl⟩ := List.mem_map.1 he
    rw [older_node, older_inc]
    exact hv.1 d hd
  · rw [Up, dOlder, List.pairwise_map]
    refine hv.2.imp ?_
    intro a b h
    unfold dKey
    rw [older_node, older_node]
    exact h

theorem right_vw {self : UInt8} {l : List GDesc} {room : Int} (hv : Vw self l) (h0 : 0 ≤ room) (h : (l.length : Int) ≤ room) : dRight l self room = true := decide_eq_true ⟨h0, h, hv⟩

end Go.Eng
