/-
  Putting into a view: who is there, who stays.
-/
import Derived.Test.YtfdhmmjccnmckaaDi
set_option linter.unusedSimpArgs false
set_option linter.unusedVariables false
namespace Go.Eng
section
variable {l : List GDesc} {self : UInt8} {d e : GDesc} {room : Int}

theorem put_case (l : List GDesc) (d : GDesc) (self : UInt8) (room : Int) :
    ((d.node = self ∨ d.inc = 0) ∧ dPut l d self room = (l, false)) ∨ ((d.node ≠ self ∧ d.inc ≠ 0) ∧
      ((∃ i o, dIdx l d.node = some i ∧ l[i]? = some o ∧ o.node = d.node ∧ ((dNewer d o = true ∧ dPut l d self room = (l.set i d, true)) ∨ (dNewer d o = false ∧ dPut l d self room = (l, false)))) ∨
       (dIdx l d.node = none ∧ ((room ≤ l.length ∧ dPut l d self room = (l, false)) ∨ ((l.length : Int) < room ∧ dPut l d self room = (kIns dKey l d, true)))))) := by
  unfold dPut
  by_cases h : d.node = self ∨ d.inc = 0
  · exact .inl ⟨h, if_pos h⟩
  · refine .inr ⟨⟨fun e => h (.inl e), fun e => h (.inr e)⟩, ?_⟩
    rw [if_neg h]
    cases hi : dIdx l d.node with
    | some i =>
      obtain ⟨o, ho, hn⟩ := dIdx_some hi
      refine .inl ⟨i, o, rfl, ho, hn, ?_⟩
      simp only [ho]
      cases hN : dNewer d o with
      | true => exact .inl ⟨rfl, by simp⟩
      | false => exact .inr ⟨rfl, by simp⟩
    | none =>
      refine .inr ⟨rfl, ?_⟩
      simp only
      by_cases hr : room ≤ l.length
      · exact .inl ⟨hr, if_pos hr⟩
      · exact .inr ⟨by omega, if_neg hr⟩

theorem put_len_ge (l : List GDesc) (d : GDesc) (self : UInt8) (room : Int) : l.length ≤ (dPut l d self room).1.length := by
  rcases put_case l d self room with ⟨_, h⟩ | ⟨_, ⟨i, o, _, _, _, ⟨_, h⟩ | ⟨_, h⟩⟩ | ⟨_, ⟨_, h⟩ | ⟨_, h⟩⟩⟩ <;> rw [h]
  · exact Nat.le_refl _
  · simp
  · exact Nat.le_refl _
  · exact Nat.le_refl _
  · rw [kIns_len]; omega

/-- Somebody of the node is there. -/
def Nd (l : List GDesc) (node : UInt8) : Prop := ∃ o ∈ l, o.node = node
theorem nd_idx {node : UInt8} : Nd l node ↔ dIdx l node ≠ none := by
  constructor
  · rintro ⟨o, ho, hn⟩ h
    exact dIdx_none h o ho hn
  · intro h
    cases hi : dIdx l node with
    | none => exact absurd hi h
    | some i => obtain ⟨o, ho, hn⟩ := dIdx_some hi; exact ⟨o, List.mem_of_getElem? ho, hn⟩

/-- What is there stays there, or a newer one does. -/
theorem put_keeps {o : GDesc} (ho : o ∈ l) (hu : Up dKey l) : o ∈ (dPut l d self room).1 ∨ (o.node = d.node ∧ dNewer d o = true ∧ d ∈ (dPut l d self room).1) := by
  rcases put_case l d self room with ⟨_, h⟩ | ⟨_, ⟨i, x, hi, hx, hn, ⟨hN, h⟩ | ⟨_, h⟩⟩ | ⟨_, ⟨_, h⟩ | ⟨_, h⟩⟩⟩ <;> rw [h]
  · exact .inl ho
  · by_cases hox : o = x
    · subst hox
      refine .inr ⟨hn, hN, ?_⟩
      have hlt : i < l.length := (List.getElem?_eq_some_iff.1 hx).1
      exact List.mem_of_getElem? (by rw [List.getElem?_set_self hlt] : (l.set i d)[i]? = some d)
    · refine .inl ?_
      obtain ⟨j, hj⟩ := List.getElem?_of_mem ho
      have hji : i ≠ j := fun e => hox (by rw [e, hj] at hx; exact Option.some.inj hx)
      exact List.mem_of_getElem? (by rw [List.getElem?_set_ne hji]; exact hj : (l.set i d)[j]? = some o)
  · exact .inl ho
  · exact .inl ho
  · exact .inl (mem_kIns.2 (.inr ho))

theorem put_nd {node : UInt8} (hu : Up dKey l) (h : Nd l node) : Nd (dPut l d self room).1 node := by
  obtain ⟨o, ho, hn⟩ := h
  rcases put_keeps (d := d) (self := self) (room := room) ho hu with h | ⟨h1, _, h2⟩
  · exact ⟨o, h, hn⟩
  · exact ⟨d, h2, h1.symm.trans hn⟩

theorem newer_iff {a b : GDesc} : dNewer a b = true ↔ (b.inc.toNat < a.inc.toNat ∨ (a.inc.toNat = b.inc.toNat ∧ a.age.toNat < b.age.toNat)) := by
  unfold dNewer
  by_cases h : a.inc = b.inc
  · rw [if_pos h, h]
    simp [UInt8.lt_iff_toNat_lt]
  · have h2 : a.inc.toNat ≠ b.inc.toNat := fun e => h (UInt16.toNat_inj.1 e)
    rw [if_neg h]
    simp [UInt16.lt_iff_toNat_lt, h2]
theorem newer_trans {a b c : GDesc} (h1 : dNewer a b = false) (h2 : dNewer c b = true) : dNewer a c = false := by
  have h1' : ¬ dNewer a b = true := by rw [h1]; simp
  have : ¬ dNewer a c = true := by
    rw [newer_iff] at *
    omega
  simpa using this

/-- It is there, or nothing older; or there is no room. -/
def Met (self : UInt8) (room : Int) (l : List GDesc) (d : GDesc) : Prop := d.node = self ∨ d.inc = 0 ∨ (∃ o ∈ l, o.node = d.node ∧ dNewer d o = false) ∨ (¬ Nd l d.node ∧ room ≤ l.length)

theorem met_put (hu : Up dKey l) (h : Met self room l e) : Met self room (dPut l d self room).1 e := by
  rcases h with h | h | ⟨o, ho, hn, hN⟩ | ⟨h1, h2⟩
  · exact .inl h
  · exact .inr (.inl h)
  · rcases put_keeps (d := d) (self := self) (room := room) ho hu with h | ⟨h1, h2, h3⟩
    · exact .inr (.inr (.inl ⟨o, h, hn, hN⟩))
    · exact .inr (.inr (.inl ⟨d, h3, h1.symm.trans hn, newer_trans hN h2⟩))
  · refine .inr (.inr (.inr ⟨?_, by have := put_len_ge l d self room; omega⟩))
    rcases put_case l d self room with ⟨_, h⟩ | ⟨_, ⟨i, x, hi, hx, hn, ⟨hN, h⟩ | ⟨_, h⟩⟩ | ⟨_, ⟨_, h⟩ | ⟨_, h⟩⟩⟩ <;> rw [h]
    · exact h1
    · rintro ⟨o, ho, hon⟩
      rcases List.mem_or_eq_of_mem_set ho with ho | rfl
      · exact h1 ⟨o, ho, hon⟩
      · exact h1 ⟨x, List.mem_of_getElem? hx, hn.trans hon⟩
    · exact h1
    · exact h1
    · omega

theorem met_self (hu : Up dKey l) (hr : (l.length : Int) ≤ room) : Met self room (dPut l d self room).1 d := by
  rcases put_case l d self room with ⟨h | h, _⟩ | ⟨_, ⟨i, x, hi, hx, hn, ⟨hN, h⟩ | ⟨hN, h⟩⟩ | ⟨hi, ⟨hr, h⟩ | ⟨_, h⟩⟩⟩
  · exact .inl h
  · exact .inr (.inl h)
  · rw [h]
    have hlt : i < l.length := (List.getElem?_eq_some_iff.1 hx).1
    exact .inr (.inr (.inl ⟨d, List.mem_of_getElem? (by rw [List.getElem?_set_self hlt] : (l.set i d)[i]? = some d), rfl, by simp [dNewer, UInt8.lt_irrefl]⟩))
  · rw [h]
    exact .inr (.inr (.inl ⟨x, List.mem_of_getElem? hx, hn, hN⟩))
  · rw [h]
    exact .inr (.inr (.inr ⟨fun h => (nd_idx.1 h) hi, hr⟩))
  · rw [h]
    exact .inr (.inr (.inl ⟨d, mem_kIns.2 (.inl rfl), rfl, by simp [dNewer, UInt8.lt_irrefl]⟩))

theorem met_same (hu : Up dKey l) (h : Met self room l d) : (dPut l d self room).1 = l := by
  rcases put_case l d self room with ⟨_, h'⟩ | ⟨⟨a1, a2⟩, ⟨i, x, hi, hx, hn, ⟨hN, h'⟩ | ⟨hN, h'⟩⟩ | ⟨hi, ⟨hr, h'⟩ | ⟨hr, h'⟩⟩⟩
  · rw [h']
  · exfalso
    rcases h with h | h | ⟨o, ho, hon, hoN⟩ | ⟨h1, _⟩
    · exact a1 h
    · exact a2 h
    · have : o = x := up_inj hu ho (List.mem_of_getElem? hx) (by unfold dKey; rw [hon, hn])
      rw [this, hN] at hoN
      cases hoN
    · exact h1 ⟨x, List.mem_of_getElem? hx, hn⟩
  · rw [h']
  · rw [h']
  · exfalso
    rcases h with h | h | ⟨o, ho, hon, _⟩ | ⟨_, h1⟩
    · exact a1 h
    · exact a2 h
    · exact dIdx_none hi o ho hon
    · omega

end
end Go.Eng
