/-
  What becomes of a view that shuffles: who is there, who stays.
-/
import Derived.Test.YtfdhmmjccnmckaaCg
import Derived.Test.YtfdhmmjccnmckaaDx
set_option linter.unusedSimpArgs false
set_option linter.unusedVariables false
namespace Go.Eng
section
variable {got : List GDesc} {self : UInt8} {room : Int}

/-- The one that is given up. -/
theorem give_true {L S : List GDesc} (h : (gGive L got S).2.1 = true) : ∃ s ∈ S, (gGive L got S).1 = dDrop L s.node ∧ dIdx L s.node ≠ none ∧ dIdx got s.node = none := by
  induction S with
  | nil => simp [gGive] at h
  | cons s r ih =>
    unfold gGive at h ⊢
    split
    · rename_i hc
      exact ⟨s, List.mem_cons_self, rfl, hc.1, hc.2⟩
    · rename_i hc
      rw [if_neg hc] at h
      obtain ⟨x, hx, h1⟩ := ih h
      exact ⟨x, List.mem_cons_of_mem _ hx, h1⟩
theorem give_rest {L : List GDesc} : ∀ {S : List GDesc} {x : GDesc}, x ∈ (gGive L got S).2.2 → x ∈ S := by
  intro S
  induction S with
  | nil => intro x h; exact h
  | cons s r ih =>
    intro x h
    unfold gGive at h
    split at h
    · exact List.mem_cons_of_mem _ h
    · exact List.mem_cons_of_mem _ (ih h)
/-- Somebody is given up, if somebody may be. -/
theorem give_some {L : List GDesc} : ∀ {S : List GDesc}, (∃ s ∈ S, dIdx L s.node ≠ none ∧ dIdx got s.node = none) → (gGive L got S).2.1 = true := by
  intro S
  induction S with
  | nil => rintro ⟨s, hs, _⟩; cases hs
  | cons s r ih =>
    rintro ⟨x, hx, h1, h2⟩
    unfold gGive
    split
    · rfl
    · rename_i hc
      rcases List.mem_cons.1 hx with rfl | hx
      · exact absurd ⟨h1, h2⟩ hc
      · exact ih ⟨x, hx, h1, h2⟩

/-- One step of Merge: a put, nothing, or one in the place of another one. -/
theorem merge_ind {P : List GDesc → List GDesc → Prop} (r0 : List GDesc)
    (hput : ∀ L S d, d ∈ r0 → Vw self L → (L.length : Int) ≤ room → (dPut L d self room).2 = true → P L S → P (dPut L d self room).1 S)
    (hgive : ∀ L S d s, d ∈ r0 → Vw self L → (L.length : Int) ≤ room → d.node ≠ self → d.inc ≠ 0 → dIdx L d.node = none → room ≤ L.length → s ∈ S → dIdx L s.node ≠ none → dIdx got s.node = none → P L S → P (kIns dKey (dDrop L s.node) d) (gGive L got S).2.2)
    (hnone : ∀ L S, P L S → (gGive L got S).2.1 = false → P L (gGive L got S).2.2) :
    ∀ (r L S : List GDesc), (∀ d ∈ r, d ∈ r0) → Vw self L → (L.length : Int) ≤ room → P L S → ∃ S', P (cMerge got self room L S r) S' ∧ Vw self (cMerge got self room L S r) ∧ ((cMerge got self room L S r).length : Int) ≤ room := by
  intro r
  induction r with
  | nil => intro L S _ hv hl h; exact ⟨S, h, hv, hl⟩
  | cons d r ih =>
    intro L S hr hv hl h
    have hd := hr d List.mem_cons_self
    have hr' : ∀ x ∈ r, x ∈ r0 := fun x hx => hr x (List.mem_cons_of_mem _ hx)
    unfold cMerge
    split
    · rename_i hp
      exact ih _ _ hr' (vw_put hv _ _) (put_room _ hl) (hput L S d hd hv hl hp h)
    · rename_i hp
      have hp' : (dPut L d self room).2 = false := by simpa using hp
      split
      · exact ih _ _ hr' hv hl h
      · rename_i hc
        have h1 : d.node ≠ self := fun e => hc (.inl e)
        have h2 : d.inc ≠ 0 := fun e => hc (.inr (.inl e))
        have h3 : dIdx L d.node = none := Classical.byContradiction fun e => hc (.inr (.inr e))
        split
        · rename_i hg
          obtain ⟨s, hs, e, h4, h5⟩ := give_true hg
          have hn := idx_drop_none (s := s.node) h3
          have hlt := drop_lt hv.2 h4
          rw [e, put_new hn h1 h2 (by omega)]
          refine ih _ _ hr' (vw_ins (vw_drop hv _) (dIdx_none hn) h1 h2) (by rw [kIns_len]; omega) (hgive L S d s hd hv hl h1 h2 h3 (put_full hp' h1 h2 h3) hs h4 h5 h)
        · rename_i hg
          exact ih _ _ hr' hv hl (hnone L S h (by simpa using hg))

theorem merge_vw {r L S : List GDesc} (hv : Vw self L) (hl : (L.length : Int) ≤ room) : Vw self (cMerge got self room L S r) ∧ ((cMerge got self room L S r).length : Int) ≤ room := by
  obtain ⟨_, _, h⟩ := merge_ind (got := got) (P := fun _ _ => True) r (fun _ _ _ _ _ _ _ _ => trivial) (fun _ _ _ _ _ _ _ _ _ _ _ _ _ _ _ => trivial) (fun _ _ _ _ => trivial) r L S (fun _ h => h) hv hl trivial
  exact h
theorem drop_len1 {L : List GDesc} {s : UInt8} (hu : Up dKey L) (h : dIdx L s ≠ none) : (dDrop L s).length + 1 = L.length := by
  cases hi : dIdx L s with
  | none => exact absurd hi h
  | some i =>
    obtain ⟨o, ho, _⟩ := dIdx_some hi
    obtain ⟨hlt, _⟩ := List.getElem?_eq_some_iff.1 ho
    rw [drop_idx hu hi]
    simp
    omega
theorem merge_len {r L S : List GDesc} (hv : Vw self L) (hl : (L.length : Int) ≤ room) : L.length ≤ (cMerge got self room L S r).length := by
  obtain ⟨_, h, _⟩ := merge_ind (got := got) (P := fun l _ => L.length ≤ l.length) r
    (fun l _ d _ _ _ _ h => Nat.le_trans h (put_len_ge l d self room))
    (fun l _ d s _ hv _ _ _ _ _ _ h4 _ h => by have := drop_len1 hv.2 h4; rw [kIns_len]; omega)
    (fun _ _ h _ => h) r L S (fun _ h => h) hv hl (Nat.le_refl _)
  exact h
theorem put_mem' {l : List GDesc} {x : GDesc} : ∀ d ∈ (dPut l x self room).1, d ∈ l ∨ d = x := fun d hd => by
  rcases put_case l x self room with ⟨_, h⟩ | ⟨_, ⟨i, o, _, _, _, ⟨_, h⟩ | ⟨_, h⟩⟩ | ⟨_, ⟨_, h⟩ | ⟨_, h⟩⟩⟩ <;> rw [h] at hd
  · exact .inl hd
  · rcases List.mem_or_eq_of_mem_set hd with h | h
    · exact .inl h
    · exact .inr h
  · exact .inl hd
  · exact .inl hd
  · rcases mem_kIns.1 hd with h | h
    · exact .inr h
    · exact .inl h
theorem merge_mem {r L S : List GDesc} (hv : Vw self L) (hl : (L.length : Int) ≤ room) : ∀ x ∈ cMerge got self room L S r, x ∈ L ∨ x ∈ r := by
  obtain ⟨_, h, _⟩ := merge_ind (got := got) (P := fun l _ => ∀ x ∈ l, x ∈ L ∨ x ∈ r) r
    (fun l _ d hd _ _ _ h x hx => by
      rcases put_mem' x hx with h1 | h1
      · exact h x h1
      · rw [h1]; exact .inr hd)
    (fun l _ d s hd hv _ _ _ _ _ _ _ _ h x hx => by
      rcases mem_kIns.1 hx with h1 | h1
      · rw [h1]; exact .inr hd
      · exact h x (List.mem_filter.1 h1).1)
    (fun _ _ h _ => h) r L S (fun _ h => h) hv hl (fun x hx => .inl hx)
  exact h
/-- Who is there stays, but for who was sent and did not come. -/
theorem merge_stays {r L S : List GDesc} {node : UInt8} (hv : Vw self L) (hl : (L.length : Int) ≤ room) (hn : dIdx got node ≠ none ∨ ∀ s ∈ S, s.node ≠ node) (h : Nd L node) : Nd (cMerge got self room L S r) node := by
  obtain ⟨_, ⟨_, h⟩, _⟩ := merge_ind (got := got) (P := fun l S' => (dIdx got node ≠ none ∨ ∀ s ∈ S', s.node ≠ node) ∧ Nd l node) r
    (fun l _ d hd hv _ _ h => ⟨h.1, put_nd hv.2 h.2⟩)
    (fun l S' d s hd hv _ _ _ _ _ hs h4 h5 h => by
      have hne : s.node ≠ node := by
        rcases h.1 with h1 | h1
        · intro e; rw [e] at h5; exact h1 h5
        · exact h1 s hs
      refine ⟨h.1.imp id (fun h1 x hx => h1 x (give_rest hx)), ?_⟩
      obtain ⟨o, ho, hon⟩ := h.2
      exact ⟨o, mem_kIns.2 (.inr (List.mem_filter.2 ⟨ho, by simp; intro e; exact hne (e.symm.trans hon)⟩)), hon⟩)
    (fun l S' h _ => ⟨h.1.imp id (fun h1 x hx => h1 x (give_rest hx)), h.2⟩) r L S (fun _ h => h) hv hl ⟨hn, h⟩
  exact h

/-- One that came is there, or there is no room. -/
def Came (self : UInt8) (room : Int) (l : List GDesc) (d : GDesc) : Prop := d.node = self ∨ d.inc = 0 ∨ Nd l d.node ∨ room ≤ l.length
theorem put_self_nd {L : List GDesc} {d : GDesc} (h : (dPut L d self room).2 = true) : Nd (dPut L d self room).1 d.node := by
  rcases put_cases L d self room with h1 | h1
  · rw [h1.1] at h; cases h
  · exact ⟨d, h1.2.1, rfl⟩
theorem merge_came : ∀ {r L S : List GDesc}, Vw self L → (L.length : Int) ≤ room → (∀ d ∈ r, dIdx got d.node ≠ none) → ∀ d ∈ r, Came self room (cMerge got self room L S r) d := by
  intro r
  induction r with
  | nil => intro L S _ _ _ d hd; cases hd
  | cons y r ih =>
    intro L S hv hl hg d hd
    have hg' : ∀ x ∈ r, dIdx got x.node ≠ none := fun x hx => hg x (List.mem_cons_of_mem _ hx)
    have hy := hg y List.mem_cons_self
    have keep : ∀ L' S', Vw self L' → (L'.length : Int) ≤ room → (d ∈ r ∨ (d = y ∧ Came self room L' y)) → Came self room (cMerge got self room L' S' r) d := by
      intro L' S' hv' hl' h
      rcases h with h | ⟨rfl, h⟩
      · exact ih hv' hl' hg' d h
      · rcases h with h | h | h | h
        · exact .inl h
        · exact .inr (.inl h)
        · exact .inr (.inr (.inl (merge_stays hv' hl' (.inl hy) h)))
        · exact .inr (.inr (.inr (by have := merge_len (got := got) (r := r) (S := S') hv' hl'; omega)))
    have hd' : d ∈ r ∨ d = y := (List.mem_cons.1 hd).symm
    unfold cMerge
    split
    · rename_i hp
      exact keep _ _ (vw_put hv _ _) (put_room _ hl) (hd'.imp id fun e => ⟨e, .inr (.inr (.inl (put_self_nd hp)))⟩)
    · rename_i hp
      have hp' : (dPut L y self room).2 = false := by simpa using hp
      split
      · rename_i hc
        refine keep _ _ hv hl (hd'.imp id fun e => ⟨e, ?_⟩)
        rcases hc with h | h | h
        · exact .inl h
        · exact .inr (.inl h)
        · exact .inr (.inr (.inl (nd_idx.2 h)))
      · rename_i hc
        have h1 : y.node ≠ self := fun e => hc (.inl e)
        have h2 : y.inc ≠ 0 := fun e => hc (.inr (.inl e))
        have h3 : dIdx L y.node = none := Classical.byContradiction fun e => hc (.inr (.inr e))
        split
        · rename_i hgt
          obtain ⟨s, hs, e, h4, h5⟩ := give_true hgt
          have hn := idx_drop_none (s := s.node) h3
          have hlt := drop_lt hv.2 h4
          rw [e, put_new hn h1 h2 (by omega)]
          exact keep _ _ (vw_ins (vw_drop hv _) (dIdx_none hn) h1 h2) (by rw [kIns_len]; omega) (hd'.imp id fun e => ⟨e, .inr (.inr (.inl ⟨y, mem_kIns.2 (.inl rfl), rfl⟩))⟩)
        · exact keep _ _ hv hl (hd'.imp id fun e => ⟨e, .inr (.inr (.inr (put_full hp' h1 h2 h3)))⟩)

/-- The first one that came: it is there, if there is room, or somebody may be given up. -/
theorem merge_first {d : GDesc} {r L S : List GDesc} (hv : Vw self L) (hl : (L.length : Int) ≤ room) (h1 : d.node ≠ self) (h2 : d.inc ≠ 0) (hg : dIdx got d.node ≠ none)
    (h : (L.length : Int) < room ∨ Nd L d.node ∨ ∃ s ∈ S, dIdx L s.node ≠ none ∧ dIdx got s.node = none) : Nd (cMerge got self room L S (d :: r)) d.node := by
  unfold cMerge
  split
  · rename_i hp
    exact merge_stays (vw_put hv _ _) (put_room _ hl) (.inl hg) (put_self_nd hp)
  · rename_i hp
    have hp' : (dPut L d self room).2 = false := by simpa using hp
    split
    · rename_i hc
      rcases hc with h | h | h
      · exact absurd h h1
      · exact absurd h h2
      · exact merge_stays hv hl (.inl hg) (nd_idx.2 h)
    · rename_i hc
      have h3 : dIdx L d.node = none := Classical.byContradiction fun e => hc (.inr (.inr e))
      have hfull := put_full hp' h1 h2 h3
      have hs : ∃ s ∈ S, dIdx L s.node ≠ none ∧ dIdx got s.node = none := by
        rcases h with h | h | h
        · omega
        · exact absurd h3 (nd_idx.1 h)
        · exact h
      rw [if_pos (give_some hs)]
      obtain ⟨s, hs, e, h4, h5⟩ := give_true (give_some hs)
      have hn := idx_drop_none (s := s.node) h3
      have hlt := drop_lt hv.2 h4
      rw [e, put_new hn h1 h2 (by omega)]
      exact merge_stays (vw_ins (vw_drop hv _) (dIdx_none hn) h1 h2) (by rw [kIns_len]; omega) (.inl hg) ⟨d, mem_kIns.2 (.inl rfl), rfl⟩
end
end Go.Eng
