/-
  Views that are filled, and one that is let in.
-/
import Derived.Test.YtcfkcmalkbdphaaKa
set_option linter.unusedSimpArgs false
set_option linter.unusedVariables false
namespace Go.Eng
section
variable {l : List GDesc} {self : UInt8} {d e : GDesc} {room : Int}

theorem put_case (l : List GDesc) (d : GDesc) (self : UInt8) (room : Int) :
    ((d.node = self ∨ d.inc = 0) ∧ dPut l d self room = (l, false)) ∨ ((d.node ≠ self ∧ d.inc ≠ 0) ∧
      ((∃ i o, dIdx l d.node = some i ∧ l[i]? = some o ∧ o.node = d.node ∧ ((dNewer d o = true ∧ dPut l d self room = (l.set i d, true)) ∨ (dNewer d o = false ∧ dPut l d self room = (l, false)))) ∨
       (dIdx l d.node = none ∧ ((room ≤ l.length ∧ dPut l d self room = (l, false)) ∨ ((l.length : Int) < room ∧ dPut l d self room = (kIns dKey l d, true)))))) := by
  unfold dPut
  by_cases h : d.node = self ∨ d.inc = 0
  · exact .inl ⟨h, if_pos h⟩
  · refine .inr ⟨⟨fun e => h (.inl e), fun e => h (.inr e)⟩, ?_⟩
    rw [if_neg h]
    cases hi : dIdx l d.node with
    | some i =>
      obtain ⟨o, ho, hn⟩ := dIdx_some hi
      refine .inl ⟨i, o, rfl, ho, hn, ?_⟩
      simp only [ho]
      cases hN : dNewer d o with
      | true => exact .inl ⟨rfl, by simp⟩
      | false => exact .inr ⟨rfl, by simp⟩
    | none =>
      refine .inr ⟨rfl, ?_⟩
      simp only
      by_cases hr : room ≤ l.length
      · exact .inl ⟨hr, if_pos hr⟩
      · exact .inr ⟨by omega, if_neg hr⟩

theorem put_len_ge (l : List GDesc) (d : GDesc) (self : UInt8) (room : Int) : l.length ≤ (dPut l d self room).1.length := by
  rcases put_case l d self room with ⟨_, h⟩ | ⟨_, ⟨i, o, _, _, _, ⟨_, h⟩ | ⟨_, h⟩⟩ | ⟨_, ⟨_, h⟩ | ⟨_, h⟩⟩⟩ <;> rw [h]
  · exact Nat.le_refl _
  · simp
  · exact Nat.le_refl _
  · exact Nat.le_refl _
  · rw [kIns_len]; omega

/-- Somebody of the node is there. -/
def Nd (l : List GDesc) (node : UInt8) : Prop := ∃ o ∈ l, o.node = node
theorem nd_idx {node : UInt8} : Nd l node ↔ dIdx l node ≠ none := by
  constructor
  · rintro ⟨o, ho, hn⟩ h
    exact dIdx_none h o ho hn
  · intro h
    cases hi : dIdx l node with
    | none => exact absurd hi h
    | some i => obtain ⟨o, ho, hn⟩ := dIdx_some hi; exact ⟨o, List.mem_of_getElem? ho, hn⟩

/-- What is there stays there, or a newer one does. -/
theorem put_keeps {o : GDesc} (ho : o ∈ l) (hu : Up dKey l) : o ∈ (dPut l d self room).1 ∨ (o.node = d.node ∧ dNewer d o = true ∧ d ∈ (dPut l d self room).1) := by
  rcases put_case l d self room with ⟨_, h⟩ | ⟨_, ⟨i, x, hi, hx, hn, ⟨hN, h⟩ | ⟨_, h⟩⟩ | ⟨_, ⟨_, h⟩ | ⟨_, h⟩⟩⟩ <;> rw [h]
  · exact .inl ho
  · by_cases hox : o = x
    · subst hox
      refine .inr ⟨hn, hN, ?_⟩
      have hlt : i < l.length := (List.getElem?_eq_some_iff.1 hx).1
      exact List.mem_of_getElem? (by rw [List.getElem?_set_self hlt] : (l.set i d)[i]? = some d)
    · refine .inl ?_
      obtain ⟨j, hj⟩ := List.getElem?_of_mem ho
      have hji : i ≠ j := fun e => hox (by rw [e, hj] at hx; exact Option.some.inj hx)
      exact List.mem_of_getElem? (by rw [List.getElem?_set_ne hji]; exact hj : (l.set i d)[j]? = some o)
  · exact .inl ho
  · exact .inl ho
  · exact .inl (mem_kIns.2 (.inr ho))

theorem put_nd {node : UInt8} (hu : Up dKey l) (h : Nd l node) : Nd (dPut l d self room).1 node := by
  obtain ⟨o, ho, hn⟩ := h
  rcases put_keeps (d := d) (self := self) (room := room) ho hu with h | ⟨h1, _, h2⟩
  · exact ⟨o, h, hn⟩
  · exact ⟨d, h2, h1.symm.trans hn⟩

theorem newer_iff {a b : GDesc} : dNewer a b = true ↔ (b.inc.toNat < a.inc.toNat ∨ (a.inc.toNat = b.inc.toNat ∧ a.age.toNat < b.age.toNat)) := by
  unfold dNewer
  by_cases h : a.inc = b.inc
  · rw [if_pos h, h]
    simp [UInt8.lt_iff_toNat_lt]
  · have h2 : a.inc.toNat ≠ b.inc.toNat := fun e => h (UInt16.toNat_inj.1 e)
    rw [if_neg h]
    simp [UInt16.lt_iff_toNat_lt, h2]
theorem newer_trans {a b c : GDesc} (h1 : dNewer a b = false) (h2 : dNewer c b = true) : dNewer a c = false := by
  have h1' : ¬ dNewer a b = true := by rw [h1]; simp
  have : ¬ dNewer a c = true := by
    rw [newer_iff] at *
    omega
  simpa using this

/-- It is there, or nothing older; or there is no room. -/
def Met (self : UInt8) (room : Int) (l : List GDesc) (d : GDesc) : Prop := d.node = self ∨ d.inc = 0 ∨ (∃ o ∈ l, o.node = d.node ∧ dNewer d o = false) ∨ (¬ Nd l d.node ∧ room ≤ l.length)

theorem met_put (hu : Up dKey l) (h : Met self room l e) : Met self room (dPut l d self room).1 e := by
  rcases h with h | h | ⟨o, ho, hn, hN⟩ | ⟨h1, h2⟩
  · exact .inl h
  · exact .inr (.inl h)
  · rcases put_keeps (d := d) (self := self) (room := room) ho hu with h | ⟨h1, h2, h3⟩
    · exact .inr (.inr (.inl ⟨o, h, hn, hN⟩))
    · exact .inr (.inr (.inl ⟨d, h3, h1.symm.trans hn, newer_trans hN h2⟩))
  · refine .inr (.inr (.inr ⟨?_, by have := put_len_ge l d self room; omega⟩))
    rcases put_case l d self room with ⟨_, h⟩ | ⟨_, ⟨i, x, hi, hx, hn, ⟨hN, h⟩ | ⟨_, h⟩⟩ | ⟨_, ⟨_, h⟩ | ⟨_, h⟩⟩⟩ <;> rw [h]
    · exact h1
    · rintro ⟨o, ho, hon⟩
      rcases List.mem_or_eq_of_mem_set ho with ho | rfl
      · exact h1 ⟨o, ho, hon⟩
      · exact h1 ⟨x, List.mem_of_getElem? hx, hn.trans hon⟩
    · exact h1
    · exact h1
    · omega

theorem met_self (hu : Up dKey l) (hr : (l.length : Int) ≤ room) : Met self room (dPut l d self room).1 d := by
  rcases put_case l d self room with ⟨h | h, _⟩ | ⟨_, ⟨i, x, hi, hx, hn, ⟨hN, h⟩ | ⟨hN, h⟩⟩ | ⟨hi, ⟨hr, h⟩ | ⟨_, h⟩⟩⟩
  · exact .inl h
  · exact .inr (.inl h)
  · rw [h]
    have hlt : i < l.length := (List.getElem?_eq_some_iff.1 hx).1
    exact .inr (.inr (.inl ⟨d, List.mem_of_getElem? (by rw [List.getElem?_set_self hlt] : (l.set i d)[i]? = some d), rfl, by simp [dNewer, UInt8.lt_irrefl]⟩))
  · rw [h]
    exact .inr (.inr (.inl ⟨x, List.mem_of_getElem? hx, hn, hN⟩))
  · rw [h]
    exact .inr (.inr (.inr ⟨fun h => (nd_idx.1 h) hi, hr⟩))
  · rw [h]
    exact .inr (.inr (.inl ⟨d, mem_kIns.2 (.inl rfl), rfl, by simp [dNewer, UInt8.lt_irrefl]⟩))

theorem met_same (hu : Up dKey l) (h : Met self room l d) : (dPut l d self room).1 = l := by
  rcases put_case l d self room with ⟨_, h'⟩ | ⟨⟨a1, a2⟩, ⟨i, x, hi, hx, hn, ⟨hN, h'⟩ | ⟨hN, h'⟩⟩ | ⟨hi, ⟨hr, h'⟩ | ⟨hr, h'⟩⟩⟩
  · rw [h']
  · exfalso
    rcases h with h | h | ⟨o, ho, hon, hoN⟩ | ⟨h1, _⟩
    · exact a1 h
    · exact a2 h
    · have : o = x := up_inj hu ho (List.mem_of_getElem? hx) (by unfold dKey; rw [hon, hn])
      rw [this, hN] at hoN
      cases hoN
    · exact h1 ⟨x, List.mem_of_getElem? hx, hn⟩
  · rw [h']
  · rw [h']
  · exfalso
    rcases h with h | h | ⟨o, ho, hon, _⟩ | ⟨_, h1⟩
    · exact a1 h
    · exact a2 h
    · exact dIdx_none hi o ho hon
    · omega

/-! ### Filling -/
theorem fill_vw : ∀ (r l : List GDesc), Vw self l → Vw self (sFill self room l r) := by
  intro r
  induction r with
  | nil => intro l h; exact h
  | cons x r ih => intro l h; exact ih _ (vw_put h x room)
theorem fill_room : ∀ (r l : List GDesc), (l.length : Int) ≤ room → ((sFill self room l r).length : Int) ≤ room := by
  intro r
  induction r with
  | nil => intro l h; exact h
  | cons x r ih => intro l h; exact ih _ (put_room x h)
theorem fill_len : ∀ (r l : List GDesc), l.length ≤ (sFill self room l r).length := by
  intro r
  induction r with
  | nil => intro l; exact Nat.le_refl _
  | cons x r ih => intro l; exact Nat.le_trans (put_len_ge l x self room) (ih _)
theorem fill_nd {node : UInt8} : ∀ (r l : List GDesc), Vw self l → Nd l node → Nd (sFill self room l r) node := by
  intro r
  induction r with
  | nil => intro l _ h; exact h
  | cons x r ih => intro l hv h; exact ih _ (vw_put hv x room) (put_nd hv.2 h)
theorem fill_met : ∀ (r l : List GDesc), Vw self l → Met self room l e → Met self room (sFill self room l r) e := by
  intro r
  induction r with
  | nil => intro l _ h; exact h
  | cons x r ih => intro l hv h; exact ih _ (vw_put hv x room) (met_put hv.2 h)
theorem fill_all : ∀ (r l : List GDesc), Vw self l → (l.length : Int) ≤ room → ∀ x ∈ r, Met self room (sFill self room l r) x := by
  intro r
  induction r with
  | nil => intro l _ _ x hx; cases hx
  | cons y r ih =>
    intro l hv hr x hx
    rcases List.mem_cons.1 hx with rfl | hx
    · exact fill_met r _ (vw_put hv x room) (met_self hv.2 hr)
    · exact ih _ (vw_put hv y room) (put_room y hr) x hx
theorem fill_same : ∀ (r l : List GDesc), Up dKey l → (∀ x ∈ r, Met self room l x) → sFill self room l r = l := by
  intro r
  induction r with
  | nil => intro l _ _; rfl
  | cons y r ih =>
    intro l hu h
    simp only [sFill]
    rw [met_same hu (h y List.mem_cons_self)]
    exact ih l hu (fun x hx => h x (List.mem_cons_of_mem _ hx))
theorem fill_mem : ∀ (r l : List GDesc) (x : GDesc), x ∈ sFill self room l r → x ∈ l ∨ x ∈ r := by
  intro r
  induction r with
  | nil => intro l x h; exact .inl h
  | cons y r ih =>
    intro l x h
    rcases ih _ x h with h | h
    · rcases Go.Proofs.Ytcfkcmalkbdphaa.put_mem x h with h | h
      · exact .inl h
      · exact .inr (by rw [h]; exact List.mem_cons_self)
    · exact .inr (List.mem_cons_of_mem _ h)

/-! ### Who is let in -/
theorem admit_spec (hv : Vw self l) (h0 : 0 ≤ room) (hr : (l.length : Int) ≤ room) :
    Vw self (sAdmit l d self room) ∧ ((sAdmit l d self room).length : Int) ≤ room ∧ l.length ≤ (sAdmit l d self room).length ∧ (sAdmit l d self room).length ≤ l.length + 1 ∧
    (d.node ≠ self → d.inc ≠ 0 → 0 < room → Nd (sAdmit l d self room) d.node) ∧
    (∀ (i : Nat) (x : GDesc), l[i]? = some x → ¬ Nd (sAdmit l d self room) x.node → dOldest l = i ∧ room ≤ l.length) ∧ (∀ x ∈ sAdmit l d self room, x ∈ l ∨ x = d) := by
  cases hP : (dPut l d self room).2 with
  | true =>
    have e : sAdmit l d self room = (dPut l d self room).1 := by unfold sAdmit; rw [if_pos hP]
    rw [e]
    refine ⟨vw_put hv d room, put_room d hr, put_len_ge _ _ _ _, put_len d room, fun _ _ _ => ?_, fun i x hx hn => ?_, Go.Proofs.Ytcfkcmalkbdphaa.put_mem⟩
    · obtain ⟨i, hi, _⟩ := put_true hv hP
      exact nd_idx.2 (by rw [hi]; simp)
    · exact absurd (put_nd hv.2 ⟨x, List.mem_of_getElem? hx, rfl⟩) hn
  | false =>
    by_cases hk : l = [] ∨ d.node = self ∨ d.inc = 0 ∨ dIdx l d.node ≠ none
    · rw [Go.Proofs.Ytcfkcmalkbdphaa.admit_keep hP hk]
      refine ⟨hv, hr, Nat.le_refl _, by omega, fun h1 h2 h3 => ?_, fun i x hx hn => absurd ⟨x, List.mem_of_getElem? hx, rfl⟩ hn, fun x hx => .inl hx⟩
      rcases hk with hk | hk | hk | hk
      · subst hk
        have := put_full hP h1 h2 rfl
        simp at this
        omega
      · exact absurd hk h1
      · exact absurd hk h2
      · exact nd_idx.2 hk
    · have h1 : d.node ≠ self := fun e => hk (.inr (.inl e))
      have h2 : d.inc ≠ 0 := fun e => hk (.inr (.inr (.inl e)))
      have h3 : dIdx l d.node = none := Classical.byContradiction fun e => hk (.inr (.inr (.inr e)))
      obtain ⟨i, hi⟩ := old_some (l := l) (fun e => hk (.inl e))
      obtain ⟨o, ho, _, _⟩ := old_spec hi
      have hfull := put_full hP h1 h2 h3
      rw [Go.Proofs.Ytcfkcmalkbdphaa.admit_old hP h1 h2 h3 hi ho]
      have hoi : dIdx l o.node = some i := dIdx_at (self := self) hv.2 ho
      have hlt : i < l.length := (List.getElem?_eq_some_iff.1 ho).1
      have hdl : (dDrop l o.node).length + 1 = l.length := by
        rw [drop_idx hv.2 hoi]
        simp
        omega
      have hdn : dIdx (dDrop l o.node) d.node = none := by
        cases hc : dIdx (dDrop l o.node) d.node with
        | none => rfl
        | some j =>
          obtain ⟨z, hz, hzn⟩ := dIdx_some hc
          exact absurd hzn (dIdx_none h3 z (List.mem_filter.1 (List.mem_of_getElem? hz)).1)
      have hput : (dPut (dDrop l o.node) d self l.length).1 = kIns dKey (dDrop l o.node) d := by
        rcases put_case (dDrop l o.node) d self l.length with ⟨h, _⟩ | ⟨_, ⟨j, x, hj, _⟩ | ⟨_, ⟨h, _⟩ | ⟨_, h⟩⟩⟩
        · rcases h with h | h
          · exact absurd h h1
          · exact absurd h h2
        · rw [hdn] at hj; cases hj
        · omega
        · rw [h]
      have hlen : (kIns dKey (dDrop l o.node) d).length = l.length := by rw [kIns_len]; omega
      have hvw := vw_put (vw_drop hv o.node) d (l.length : Int)
      rw [hput] at hvw ⊢
      refine ⟨hvw, by omega, by omega, by omega, fun _ _ _ => ⟨d, mem_kIns.2 (.inl rfl), rfl⟩, fun j x hx hn => ⟨?_, hfull⟩, fun x hx => ?_⟩
      · by_cases hxo : x.node = o.node
        · have : j = i := by
            have hj : dIdx l x.node = some j := dIdx_at (self := self) hv.2 hx
            rw [hxo, hoi] at hj
            exact (Option.some.inj hj).symm
          unfold dOldest
          rw [hi, this]
        · exact absurd ⟨x, mem_kIns.2 (.inr (List.mem_filter.2 ⟨List.mem_of_getElem? hx, by simpa using hxo⟩)), rfl⟩ hn
      · rcases mem_kIns.1 hx with h | h
        · exact .inr h
        · exact .inl (List.mem_filter.1 h).1
end
end Go.Eng
