/-
  Part 33 of the proof of M7: the engine and the walks, in their order.
-/
import Derived.Test.YtgpmgnbjpfggmaaM79
import Derived.ReadAgain
import Derived.ChangeSame
import Derived.OpenShut
import Derived.Deep.Slices
import Derived.Deep.Strs
import Derived.SizedLaws
import Derived.RowKit
import Derived.WalkKit
import Derived.ProofKit
set_option linter.unusedSimpArgs false
set_option linter.unusedVariables false
/-
  The frame: from a contract of mine to the row's own post-condition.
-/
set_option linter.unusedSimpArgs false
set_option linter.unusedVariables false
namespace Go.Eng
open Go.ChangeShapes Go.WideShapes Go.RowKit

section
variable {H : Type} {enc : TypeId × Value → H} {P : Program} {W W' : World} {T : TypeId → Prop}

theorem Ext.get {b : Nat} (h : Ext W W') (hb : b < W.heap.size) : W'.heap[b]? = W.heap[b]? := by
  rw [h b _ (Array.getElem?_eq_getElem hb), Array.getElem?_eq_getElem hb]

theorem sameAt_ext {p : MemPlace} (h : Ext W W') (hb : p.block < W.heap.size) : W.sameAt W' p := by
  cases p with
  | cell b off => show W'.cell? _ = W.cell? _; unfold World.cell?; rw [show W'.heap[(⟨b, off, none⟩ : Addr).block]? = W.heap[b]? from h.get hb]
  | map b => exact h.get hb

theorem trodAll_ext {base : Nat} {sp : Nat → Bool} {held : Bool} (h : Ext W W') : ∀ {ts : List TypeId} {vs : List Value} {ds : List (DataW H)} {ps : List MemPlace}, (∀ p ∈ ps, p.block < W.heap.size) →
    DataW.TrodAll enc P W base sp held ts vs ds ps → DataW.TrodAll enc P W' base sp held ts vs ds ps
  | [], [], [], _, _, h' => h'
  | _ :: _, _ :: _, _ :: _, _, hb, ⟨p, q, ⟨n, h1⟩, h2, e⟩ => ⟨p, q, ⟨n, DataW.trod_carry n _ _ _ h1 (fun x hx => sameAt_ext h (hb x (by rw [e]; exact List.mem_append_left _ hx)))⟩,
      trodAll_ext h (fun x hx => hb x (by rw [e]; exact List.mem_append_right _ hx)) h2, e⟩

theorem kept_ext (h : Ext W W') (hl : Le W W') (may : MemPlace → Prop) : W.keptBut W' may := by
  refine ⟨hl.os, hl.output, fun i hi => ?_⟩
  rw [h.get hi, Array.getElem?_eq_getElem hi]
  cases W.heap[i] with
  | cells c t fr => exact ⟨rfl, rfl, rfl, fun _ _ => rfl⟩
  | map es clock => exact .inr ⟨rfl, rfl⟩
  | _ => rfl

/-- A law that handed back 'true' and left old memory alone. -/
theorem post_of_ext {fn : Func} {s : ChangeSpec} {args : Array Value} {ds gs : List (DataW H)} {before : List MemPlace} {tb : TypeId}
    (hl : laidOutB P = true) (hm : mapsRowed P = true) (hz : ((List.range P.types.size).all fun t => match P.underlying t with | some (.slice e) => decide (0 < P.cellsOf e) | _ => true) = true)
    (hrow : (fn.params.toList.all fun t => decide (t < P.types.size)) = true) (hv0 : s.vars = []) (htb : P.underlying tb = some .bool) (hr : fn.resultTypes = #[tb])
    (hW : DataW.Whole enc P fn.params.toList s.vars false W args.toList ds gs before)
    (hfn : s.fn H (ds ++ gs) = { results := [.lit (.bool true)], args := ds }) (he : Ext W W') (hle : Le W W') :
    s.post enc P fn false true false false W args (.bool true) W' := by
  have hlt : ∀ p ∈ before, p.block < W.heap.size := hW.lt
  have hW' := hW
  obtain ⟨p, q, hA, hV, rfl, _, _⟩ := hW
  rw [hv0] at hV
  obtain ⟨rfl, rfl⟩ := trodVars_none hV
  refine ⟨ds, [], p ++ [], [], p, [], hW', ?_, ?_, ?_, kept_ext he hle _, fun h => by cases h⟩
  · rw [hfn, hr]
    exact trodAll_mk1 (shut_bool htb _)
  · rw [hfn]
    refine DataW.TrodAll.respare (kids_rows hl hm) (slices_full_of P hz) (fun t ht => by simpa using List.all_eq_true.1 hrow t ht) (trodAll_ext he (fun x hx => hlt x (List.mem_append_left _ hx)) hA) ?_
    intro x hx
    simpa using hlt x (List.mem_append_left _ hx)
  · rw [hfn, hv0]
    rfl

/-- From the contract of a law to the row's words. -/
theorem calls_of_con {f : FuncId} {fn : Func} {s : ChangeSpec} {args : List Value} {ds gs : List (DataW H)} {before : List MemPlace} {tb : TypeId}
    (hl : laidOutB P = true) (hm : mapsRowed P = true) (hz : ((List.range P.types.size).all fun t => match P.underlying t with | some (.slice e) => decide (0 < P.cellsOf e) | _ => true) = true)
    (hrow : (fn.params.toList.all fun t => decide (t < P.types.size)) = true) (hv0 : s.vars = []) (htb : P.underlying tb = some .bool) (hr : fn.resultTypes = #[tb])
    (hW : DataW.Whole enc P fn.params.toList s.vars false W args ds gs before)
    (hfn : s.fn H (ds ++ gs) = { results := [.lit (.bool true)], args := ds }) (h : Con P f args W fun r _ => r = .bool true) :
    Calls P f args.toArray W fun e W' => ∃ v, e = .returned v ∧ s.post enc P fn false true false false W args.toArray v W' := by
  refine (h.2 W (Sub.refl W)).mono ?_
  rintro e W' ⟨r, u', rfl, hst, _, rfl⟩
  exact ⟨_, rfl, post_of_ext (args := args.toArray) hl hm hz hrow hv0 htb hr hW hfn hst.ext hst.le⟩

/-- A slice argument whose elements are read as plain data. -/
theorem sl_of_trod {α : Type} {t e : TypeId} {sz base : Nat} {sp : Nat → Bool} {held : Bool} {v : Value} {d : DataW H} {ps : List MemPlace} {b0 : Nat} {encα : α → List Value} (ht : P.underlying t = some (.slice e)) (hc : P.cellsOf e = sz)
    (hval : Value.okWide P W .any b0 t v) (helt : ∀ n cs x, DataW.trod enc P W base sp held n e cs = some x → ∃ g, cs = encα g)
    (hlen : ∀ g, (encα g).length = sz) (h : DataW.Trod enc P W base sp held t v d ps) :
    ∃ (p : Option Addr) (n c : Nat) (l : List α), v = .slice p n c ∧ Sl W sz p n c (l.map encα) ∧ c ≤ maxLen ∧ ((d = .nil ∧ n = 0) ∨ ∃ xs rest, d = .slice xs rest ∧ xs.length = n) := by
  obtain ⟨a0, len0, cap0, rfl⟩ := okWide_slice ht hval
  obtain ⟨fuel, hf⟩ := h
  rcases Go.Deep.open_slice ht hf with ⟨hcs, hx⟩ | ⟨a, len, cap, m, n, D, Pl, hcs, hb, hlc, hcm, hmm, hx, hi⟩
  · simp [Value.cells] at hcs
    obtain ⟨rfl, rfl, rfl⟩ := hcs
    cases hx
    exact ⟨none, 0, 0, [], rfl, Sl.none_ _ _, Nat.zero_le _, .inl ⟨rfl, rfl⟩⟩
  · simp [Value.cells] at hcs
    obtain ⟨rfl, rfl, rfl⟩ := hcs
    have hspot : a.spot = none := by
      have hv : Cell.okWide P W .any b0 t (.slice (some a) len0 cap0) := by simpa [Value.okWide, ht] using hval
      have hv2 : Cell.ok P W .any b0 t (.slice (some a) len0 cap0) := by simpa [Cell.okWide, ht] using hv
      have hv3 := hv2
      simp only [Cell.ok, ht] at hv3
      exact hv3.2.2.2.1
    have hml : len0 ≤ m := by rw [hmm]; split <;> omega
    have hex : ∀ i, i < len0 → ∃ g, W.cells? base (a.add (i * P.cellsOf e)) (P.cellsOf e) = some (encα g) := by
      intro i hil
      obtain ⟨cs', h1, h2⟩ := hi i (by omega)
      obtain ⟨g, rfl⟩ := helt _ _ _ h2
      exact ⟨g, h1⟩
    have hl : ∃ l : List α, l.length = len0 ∧ ∀ i g, l[i]? = some g → W.cells? base (a.add (i * P.cellsOf e)) (P.cellsOf e) = some (encα g) := by
      have : ∀ k, k ≤ len0 → ∃ l : List α, l.length = k ∧ ∀ i g, l[i]? = some g → W.cells? base (a.add (i * P.cellsOf e)) (P.cellsOf e) = some (encα g) := by
        intro k
        induction k with
        | zero => intro _; exact ⟨[], rfl, fun i g h => by simp at h⟩
        | succ k ih =>
          intro hk
          obtain ⟨l, h1, h2⟩ := ih (by omega)
          obtain ⟨g, hg⟩ := hex k (by omega)
          refine ⟨l ++ [g], by simp [h1], fun i g' h => ?_⟩
          by_cases hil : i < l.length
          · rw [List.getElem?_append_left hil] at h; exact h2 i g' h
          · have : i = k := by
              rcases Nat.lt_or_ge i (l ++ [g]).length with hlt | hge
              · simp [h1] at hlt hil; omega
              · rw [List.getElem?_eq_none hge] at h; cases h
            subst this
            rw [← h1] at h
            simp at h
            subst h
            exact hg
      exact this len0 (Nat.le_refl _)
    obtain ⟨l, hl1, hl2⟩ := hl
    cases hx
    refine ⟨some a, len0, cap0, l, rfl, ⟨by simp [hl1], hlc, ?_, (fun h => by cases h), ?_⟩, hcm, .inr ⟨_, _, rfl, by simp⟩⟩
    · intro x hx
      obtain ⟨g, _, rfl⟩ := List.mem_map.1 hx
      exact hlen g
    · intro a' ha'
      cases ha'
      refine ⟨fun _ => hspot, fun i x hx j v hv => ?_⟩
      rw [List.getElem?_map, Option.map_eq_some_iff] at hx
      obtain ⟨g, hg, rfl⟩ := hx
      have hcl := hl2 i g hg
      rw [hc] at hcl
      have hj : j < sz := by
        rcases Nat.lt_or_ge j (encα g).length with h | h
        · rw [hlen] at h; exact h
        · rw [List.getElem?_eq_none h] at hv; cases hv
      obtain ⟨_, _, h1⟩ := World.cells?_some hcl
      have h2 := h1 j hj
      rw [hv] at h2
      rw [← h2]
      obtain ⟨b, o, sp'⟩ := a
      cases hspot
      rw [Addr.add_lit, Addr.add_lit]

/-- A slice in memory whose elements are read as plain data, and have a property. -/
theorem sl_of_cells {α : Type} {R : α → Prop} {t e : TypeId} {sz base fuel : Nat} {sp : Nat → Bool} {held : Bool} {cs : List Value} {x : DataW H × List MemPlace} {encα : α → List Value} (ht : P.underlying t = some (.slice e)) (hc : P.cellsOf e = sz)
    (hsz : 0 < sz) (helt : ∀ n cs x, DataW.trod enc P W base sp held n e cs = some x → ∃ g, cs = encα g ∧ R g) (hlen : ∀ g, (encα g).length = sz) (h : DataW.trod enc P W base sp held fuel t cs = some x) :
    ∃ (p : Option Addr) (n c : Nat) (l : List α), cs = [.slice p n c] ∧ Sl W sz p n c (l.map encα) ∧ c ≤ maxLen ∧ (∀ g ∈ l, R g) ∧ ((x.1 = .nil ∧ n = 0) ∨ ∃ xs rest, x.1 = .slice xs rest ∧ xs.length = n) := by
  rcases Go.Deep.open_slice ht h with ⟨hcs, hx⟩ | ⟨a, len0, cap0, m, n, D, Pl, hcs, hb, hlc, hcm, hmm, hx, hi⟩
  · cases hx
    exact ⟨none, 0, 0, [], hcs, Sl.none_ _ _, Nat.zero_le _, by simp, .inl ⟨rfl, rfl⟩⟩
  · have hml : len0 ≤ m := by rw [hmm]; split <;> omega
    have hex : ∀ i, i < len0 → ∃ g, W.cells? base (a.add (i * P.cellsOf e)) (P.cellsOf e) = some (encα g) ∧ R g := by
      intro i hil
      obtain ⟨cs', h1, h2⟩ := hi i (by omega)
      obtain ⟨g, rfl, hR⟩ := helt _ _ _ h2
      exact ⟨g, h1, hR⟩
    have hl : ∃ l : List α, l.length = len0 ∧ (∀ g ∈ l, R g) ∧ ∀ i g, l[i]? = some g → W.cells? base (a.add (i * P.cellsOf e)) (P.cellsOf e) = some (encα g) := by
      have : ∀ k, k ≤ len0 → ∃ l : List α, l.length = k ∧ (∀ g ∈ l, R g) ∧ ∀ i g, l[i]? = some g → W.cells? base (a.add (i * P.cellsOf e)) (P.cellsOf e) = some (encα g) := by
        intro k
        induction k with
        | zero => intro _; exact ⟨[], rfl, by simp, fun i g h => by simp at h⟩
        | succ k ih =>
          intro hk
          obtain ⟨l, h1, hRl, h2⟩ := ih (by omega)
          obtain ⟨g, hg, hRg⟩ := hex k (by omega)
          refine ⟨l ++ [g], by simp [h1], fun g' hg' => ?_, fun i g' h => ?_⟩
          · rcases List.mem_append.1 hg' with hg' | hg'
            · exact hRl g' hg'
            · simp at hg'; subst hg'; exact hRg
          by_cases hil : i < l.length
          · rw [List.getElem?_append_left hil] at h; exact h2 i g' h
          · have : i = k := by
              rcases Nat.lt_or_ge i (l ++ [g]).length with hlt | hge
              · simp [h1] at hlt hil; omega
              · rw [List.getElem?_eq_none hge] at h; cases h
            subst this
            rw [← h1] at h
            simp at h
            subst h
            exact hg
      exact this len0 (Nat.le_refl _)
    obtain ⟨l, hl1, hRl, hl2⟩ := hl
    have hspot : 0 < len0 → a.spot = none := by
      intro h0
      have hcl := hl2 0 l[0] (List.getElem?_eq_getElem (by omega))
      obtain ⟨_, hlen2, h1⟩ := World.cells?_some hcl
      have h2 := h1 0 (by rw [hc]; exact hsz)
      have hne : (encα l[0])[0]? = some (encα l[0])[0] := List.getElem?_eq_getElem (by rw [hlen]; exact hsz)
      rw [hne] at h2
      obtain ⟨_, _, _, _, hsp, _⟩ := cell?_some h2
      simpa [Addr.add] using hsp
    cases hx
    refine ⟨some a, len0, cap0, l, hcs, ⟨by simp [hl1], hlc, ?_, (fun h => by cases h), ?_⟩, hcm, hRl, .inr ⟨_, _, rfl, by simp⟩⟩
    · intro x hx
      obtain ⟨g, _, rfl⟩ := List.mem_map.1 hx
      exact hlen g
    · intro a' ha'
      cases ha'
      refine ⟨hspot, fun i x hx j v hv => ?_⟩
      rw [List.getElem?_map, Option.map_eq_some_iff] at hx
      obtain ⟨g, hg, rfl⟩ := hx
      have hi0 : 0 < len0 := by
        rcases Nat.lt_or_ge i l.length with h | h
        · omega
        · rw [List.getElem?_eq_none h] at hg; cases hg
      have hcl := hl2 i g hg
      rw [hc] at hcl
      have hj : j < sz := by
        rcases Nat.lt_or_ge j (encα g).length with h | h
        · rw [hlen] at h; exact h
        · rw [List.getElem?_eq_none h] at hv; cases hv
      obtain ⟨_, _, h1⟩ := World.cells?_some hcl
      have h2 := h1 j hj
      rw [hv] at h2
      rw [← h2]
      have hs0 := hspot hi0
      obtain ⟨b, o, sp'⟩ := a
      cases hs0
      rw [Addr.add_lit, Addr.add_lit]

/-- .. of an argument. -/
theorem sl_of_trodR {α : Type} {R : α → Prop} {t e : TypeId} {sz base : Nat} {sp : Nat → Bool} {held : Bool} {v : Value} {d : DataW H} {ps : List MemPlace} {b0 : Nat} {encα : α → List Value} (ht : P.underlying t = some (.slice e)) (hc : P.cellsOf e = sz)
    (hsz : 0 < sz) (hval : Value.okWide P W .any b0 t v) (helt : ∀ n cs x, DataW.trod enc P W base sp held n e cs = some x → ∃ g, cs = encα g ∧ R g)
    (hlen : ∀ g, (encα g).length = sz) (h : DataW.Trod enc P W base sp held t v d ps) :
    ∃ (p : Option Addr) (n c : Nat) (l : List α), v = .slice p n c ∧ Sl W sz p n c (l.map encα) ∧ c ≤ maxLen ∧ (∀ g ∈ l, R g) ∧ ((d = .nil ∧ n = 0) ∨ ∃ xs rest, d = .slice xs rest ∧ xs.length = n) := by
  obtain ⟨a0, len0, cap0, rfl⟩ := okWide_slice ht hval
  obtain ⟨fuel, hf⟩ := h
  obtain ⟨p, n, c, l, hcs, hs, hcm, hR, hd⟩ := sl_of_cells ht hc hsz helt hlen hf
  simp [Value.cells] at hcs
  obtain ⟨rfl, rfl, rfl⟩ := hcs
  exact ⟨_, _, _, l, rfl, hs, hcm, hR, hd⟩


section
variable {w : World} {base : Nat} {spare : Nat → Bool} {held : Bool}
theorem trod_struct2 {t : TypeId} {f0 f1 : Field} {fuel : Nat} {cs : List Value} {x : DataW H × List MemPlace} (ht : P.underlying t = some (.struct #[f0, f1])) (h : DataW.trod enc P w base spare held fuel t cs = some x) :
    ∃ y0 y1 n, x = (.agg [y0.1, y1.1], y0.2 ++ y1.2) ∧ cs.length = P.cellsOf t ∧ DataW.trod enc P w base spare held n f0.type ((cs.drop f0.offset).take (P.cellsOf f0.type)) = some y0 ∧
      DataW.trod enc P w base spare held n f1.type ((cs.drop f1.offset).take (P.cellsOf f1.type)) = some y1 := by
  obtain ⟨xs, n, _, rfl, hl, hlen, hf⟩ := DataW.trod_struct ht h
  match xs, hlen with
  | [y0, y1], _ => exact ⟨y0, y1, n, by simp, hl, by simpa using hf 0 f0 rfl, by simpa using hf 1 f1 rfl⟩
theorem trod_struct3 {t : TypeId} {f0 f1 f2 : Field} {fuel : Nat} {cs : List Value} {x : DataW H × List MemPlace} (ht : P.underlying t = some (.struct #[f0, f1, f2])) (h : DataW.trod enc P w base spare held fuel t cs = some x) :
    ∃ y0 y1 y2 n, x = (.agg [y0.1, y1.1, y2.1], y0.2 ++ (y1.2 ++ y2.2)) ∧ cs.length = P.cellsOf t ∧ DataW.trod enc P w base spare held n f0.type ((cs.drop f0.offset).take (P.cellsOf f0.type)) = some y0 ∧
      DataW.trod enc P w base spare held n f1.type ((cs.drop f1.offset).take (P.cellsOf f1.type)) = some y1 ∧ DataW.trod enc P w base spare held n f2.type ((cs.drop f2.offset).take (P.cellsOf f2.type)) = some y2 := by
  obtain ⟨xs, n, _, rfl, hl, hlen, hf⟩ := DataW.trod_struct ht h
  match xs, hlen with
  | [y0, y1, y2], _ => exact ⟨y0, y1, y2, n, by simp, hl, by simpa using hf 0 f0 rfl, by simpa using hf 1 f1 rfl, by simpa using hf 2 f2 rfl⟩
theorem trod_struct4 {t : TypeId} {f0 f1 f2 f3 : Field} {fuel : Nat} {cs : List Value} {x : DataW H × List MemPlace} (ht : P.underlying t = some (.struct #[f0, f1, f2, f3])) (h : DataW.trod enc P w base spare held fuel t cs = some x) :
    ∃ y0 y1 y2 y3 n, x = (.agg [y0.1, y1.1, y2.1, y3.1], y0.2 ++ (y1.2 ++ (y2.2 ++ y3.2))) ∧ cs.length = P.cellsOf t ∧ DataW.trod enc P w base spare held n f0.type ((cs.drop f0.offset).take (P.cellsOf f0.type)) = some y0 ∧
      DataW.trod enc P w base spare held n f1.type ((cs.drop f1.offset).take (P.cellsOf f1.type)) = some y1 ∧ DataW.trod enc P w base spare held n f2.type ((cs.drop f2.offset).take (P.cellsOf f2.type)) = some y2 ∧
      DataW.trod enc P w base spare held n f3.type ((cs.drop f3.offset).take (P.cellsOf f3.type)) = some y3 := by
  obtain ⟨xs, n, _, rfl, hl, hlen, hf⟩ := DataW.trod_struct ht h
  match xs, hlen with
  | [y0, y1, y2, y3], _ => exact ⟨y0, y1, y2, y3, n, by simp, hl, by simpa using hf 0 f0 rfl, by simpa using hf 1 f1 rfl, by simpa using hf 2 f2 rfl, by simpa using hf 3 f3 rfl⟩
end
end
end Go.Eng
