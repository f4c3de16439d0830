/-
  What is kept beside a buffer: a map of what was put.
-/
import Derived.Test.YtcaobkpfafcnjaaBf
import Derived.Test.YtcaobkpfafcnjaaBi
import Derived.Test.YtcaobkpfafcnjaaEt
import Derived.Test.YtcaobkpfafcnjaaKm
set_option linter.unusedSimpArgs false
set_option linter.unusedVariables false
namespace Go.Eng
theorem up_rising : ∀ {L : List GEv}, Up evKey L → iRising (bIds L) = true := by
  intro L hu
  rw [iRising_iff]
  intro i x y hx hy
  unfold bIds at hx hy
  rw [List.getElem?_map] at hx hy
  cases h1 : L[i]? with
  | none => rw [h1] at hx; cases hx
  | some a =>
    cases h2 : L[i + 1]? with
    | none => rw [h2] at hy; cases hy
    | some b =>
      rw [h1] at hx; rw [h2] at hy
      obtain ⟨hi, e1⟩ := List.getElem?_eq_some_iff.1 h1
      obtain ⟨hj, e2⟩ := List.getElem?_eq_some_iff.1 h2
      have := List.pairwise_iff_getElem.1 hu i (i + 1) hi hj (by omega)
      rw [e1, e2] at this
      simp at hx hy
      subst hx; subst hy
      unfold GID.less
      simpa using this
theorem right_up {L : List GEv} {N : Nat} (hu : Up evKey L) (h : L.length ≤ N) : bRight L N = true := by
  unfold bRight
  rw [up_rising hu, decide_eq_true (by omega), decide_eq_true (by omega)]
  rfl
/-- The one of an id. -/
theorem get_of {L : List GEv} {e : GEv} (hu : Up evKey L) (he : e ∈ L) : bHas L e.id = true ∧ bGet L e.id = e := by
  have h1 : bHas L e.id = true := bHas_iff.2 ⟨e, he, rfl⟩
  refine ⟨h1, ?_⟩
  unfold bHas at h1
  obtain ⟨i, hi⟩ := Option.isSome_iff_exists.1 h1
  unfold bGet
  rw [hi]
  obtain ⟨a, ha, hq⟩ := bIdx_some hi
  show (L[i]?).getD gev0 = e
  rw [ha]
  have : a.id = e.id := by simpa using hq
  show a = e
  exact up_inj hu (List.mem_of_getElem? ha) he (by unfold evKey; rw [this])
end Go.Eng
namespace Go.Proofs.Ytcaobkpfafcnjaa
open Go.Eng

theorem BR.subR {u u' : World} {N r : Nat} {b : PB} {em : List (GID × Value)} (hs : SubR r u u') (hm : MapIs u GID.val r em) (h : BR u N b) : BR u' N b := ⟨⟨h.bl.el.subR hs hm, h.bl.len, h.bl.small⟩, h.room, h.up, h.small⟩

/-- The map has what the buffer has. -/
structure KM (U u : World) (r : Nat) (L : List GEv) (em : List (GID × Value)) (M : List PE) : Prop where
  mp : MapIs u GID.val r em
  pe : em.Perm (M.map fun x => (x.g.id, x.val))
  pm : (es M).Perm L
  th : ∀ x ∈ M, There U (EvK.parts x) ∧ x.n ≤ 8 ∧ x.m ≤ 70
section
variable {U u u' : World} {r : Nat} {L : List GEv} {em : List (GID × Value)} {M : List PE}
theorem KM.mono (hs : Sub u u') (h : KM U u r L em M) : KM U u' r L em M := ⟨h.mp.mono hs, h.pe, h.pm, h.th⟩
theorem KM.got {x : GID} (h : KM U u r L em M) (hx : bHas L x = true) : ∃ y ∈ M, y.g.id = x ∧ y.g ∈ L ∧ mGet em x = some y.val := by
  obtain ⟨e, he, rfl⟩ := bHas_iff.1 hx
  obtain ⟨y, hy, rfl⟩ := List.mem_map.1 (h.pm.mem_iff.2 he)
  exact ⟨y, hy, rfl, he, mGet_perm h.mp.nodup h.pe (List.mem_map.2 ⟨y, hy, rfl⟩)⟩
theorem KM.not {x : GID} (h : KM U u r L em M) (hx : bHas L x = false) : (∀ e ∈ em, e.1 ≠ x) ∧ mGet em x = none := by
  have h1 : ∀ e ∈ M.map (fun y : PE => (y.g.id, y.val)), e.1 ≠ x := by
    intro e he
    obtain ⟨y, hy, rfl⟩ := List.mem_map.1 he
    exact bHas_not hx y.g (h.pm.mem_iff.1 (List.mem_map_of_mem hy))
  exact ⟨fun e he => h1 e (h.pe.mem_iff.1 he), mGet_perm_none h.pe h1⟩
theorem KM.isSome {x : GID} (h : KM U u r L em M) : (mGet em x).isSome = bHas L x := by
  cases hb : bHas L x with
  | true => obtain ⟨y, _, _, _, h1⟩ := h.got hb; rw [h1]; rfl
  | false => rw [(h.not hb).2]; rfl
theorem KM.len (h : KM U u r L em M) : em.length = L.length := by
  have h1 := h.pe.length_eq
  have h2 := h.pm.length_eq
  simp at h1 h2
  omega
/-- One more. -/
theorem KM.add {e : PE} {room : Int} (h : KM U u r L em M) (hE : bErr L room e.g.id = 0) (hm : MapIs u' GID.val r (mSet em e.g.id e.val)) (he : There U (EvK.parts e) ∧ e.n ≤ 8 ∧ e.m ≤ 70) :
    KM U u' r (bPut L room e.g) (mSet em e.g.id e.val) (e :: M) := by
  have hn := h.not (bErr_ok hE).1
  refine ⟨hm, ?_, ?_, fun x hx => ?_⟩
  · rw [mSet_new hn.1]
    refine (List.perm_append_comm (l₁ := em) (l₂ := [(e.g.id, e.val)])).trans ?_
    simpa using h.pe
  · refine List.Perm.trans ?_ (put_perm hE).symm
    simpa [es] using h.pm
  · rcases List.mem_cons.1 hx with rfl | hx
    · exact he
    · exact h.th x hx
/-- One less. -/
theorem KM.del {i : Nat} {e : GEv} (h : KM U u r L em M) (hu : Up evKey L) (hi : L[i]? = some e) (hm : MapIs u' GID.val r (mDel em e.id)) :
    ∃ M', KM U u' r (bWo L (some i)) (mDel em e.id) M' := by
  have hmem : e ∈ L := List.mem_of_getElem? hi
  obtain ⟨y, hy, hye⟩ := List.mem_map.1 (h.pm.mem_iff.2 hmem)
  obtain ⟨A, B, rfl⟩ := List.append_of_mem hy
  have hpe := h.pe
  rw [List.map_append, List.map_cons] at hpe
  refine ⟨A ++ B, hm, ?_, ?_, fun x hx => h.th x (by
    rcases List.mem_append.1 hx with h1 | h1
    · exact List.mem_append_left _ h1
    · exact List.mem_append_right _ (List.mem_cons_of_mem _ h1))⟩
  · rw [← hye] at hm ⊢
    rw [List.map_append]
    exact mDel_perm h.mp.nodup hpe
  · obtain ⟨hlt, he⟩ := List.getElem?_eq_some_iff.1 hi
    have h1 : (e :: bWo L (some i)).Perm L := by
      have := erase_perm hlt
      rw [he] at this
      exact this
    have h2 : (es (A ++ y :: B)).Perm (e :: es (A ++ B)) := by
      unfold es
      rw [List.map_append, List.map_cons, hye, List.map_append]
      exact List.perm_middle
    exact (h2.symm.trans (h.pm.trans h1.symm)).cons_inv
end
theorem zero_ev (w : World) : (zeroValue 34).run Try.prog w = .ok (.agg #[.int .u8 0, .int .u16 0, .int .u32 0, .slice none 0 0, .slice none 0 0]) w := by kernel_rfl
end Go.Proofs.Ytcaobkpfafcnjaa
