/-
  Part 21 of the proof of M7: the engine and the walks, in their order.
-/
import Derived.Test.YtgpmgnbjpfggmaaM719
import Derived.Test.YtgpmgnbjpfggmaaM720
import Derived.Lib.FrozenHead
set_option linter.unusedSimpArgs false
set_option linter.unusedVariables false
/-
  Engine: a call that writes what it was handed, and puts it back: in the end all is as it was.
-/
set_option linter.unusedSimpArgs false
set_option linter.unusedVariables false
namespace Go.Eng

theorem known_of {u : World} {b : Nat} (h : ¬ Fresh u b) : ∃ o, u.heap[b]? = some o ∧ o ≠ junk :=
  Classical.byContradiction fun hc => h fun o ho => Classical.byContradiction fun hj => hc ⟨o, ho, hj⟩

/-- What is known at the start is known in the end, though it may be written meanwhile. -/
theorem spec_of_back {P : Program} (hm : P.follows .mixedOrders = true) {f : FuncId} {fn : Func} {c : Code} (hf : P.funcs[f]? = some fn) (hb : fn.body = some c) (hbody : hasBody P f = true)
    (hfit : fits fn.ntmps c = true) {args : List Value} (hn : Nat.ble args.length fn.ntmps = true) (rs : List ResultVar) (hrs : fn.results.toList = rs) {u0 u : World} {Post : Value → World → Prop} (h0 : Sub u0 u)
    (h : vc P u0 c (RetK P rs (fun r u' => Sub u u' ∧ Post r u')) ⟨initR 0 args, []⟩ u) : Con P f args u Post := by
  obtain ⟨h1, h2⟩ := call_of_vc hm hf hb hbody hfit hn rs hrs h
  refine ⟨h1, fun w hu => (h2 w hu (h0.trans hu)).mono ?_⟩
  rintro e w' ⟨r, u', he, hst, hsub, hp⟩
  refine ⟨r, u', he, ⟨hst.sub, fun b o hb => .inl ?_, hst.dom, hst.le⟩, hsub, hp⟩
  rcases hst.keep b o hb with h | ⟨_, hn, _⟩
  · exact h
  · obtain ⟨o', ho', hj⟩ := known_of hn
    have h3 := hu b o' ho' hj
    rw [hb] at h3
    cases h3
    exact hst.sub b o (hsub b o ho' hj) hj

theorem cell_block {w : World} {b off : Nat} {v : Value} (h : w.cell? ⟨b, off, none⟩ = some v) : ∃ cur T fz, w.heap[b]? = some (.cells cur T fz) ∧ cur[off]? = some v := by
  unfold World.cell? at h
  split at h
  · rename_i c T fz hc
    simp at h
    exact ⟨c, T, fz, hc, h⟩
  · cases h

/-- A cell of a block that the call was handed: the store. -/
theorem sto_back {P : Program} {T n c b off : Nat} {ag : Bool} (hl : lay P T = some (ag, 1)) {u0 u : World} {cur : Array Value} {T' : TypeId} {fz : Nat × Nat} {a : Value} (hg : u.heap[b]? = some (.cells cur T' fz)) (hf : Fresh u0 b)
    (ho : off < cur.size) (hz : World.frozen? u ⟨b, off, none⟩ = false) (hn : a.cells = #[a]) (h1 : a.oneCell' = true) {K : World → Prop}
    (hK : ∀ u', u'.heap[b]? = some (.cells (cur.setIfInBounds off a) T' fz) → SubX (some ⟨b, 0, none⟩) u u' → K u') : AtSto false P u0 T (.slice (some ⟨b, off, none⟩) n c) 1 0 0 a u K := by
  have had : eltAddr (.slice (some ⟨b, off, none⟩) n c) 1 0 0 = some ⟨b, off, none⟩ := by simp [eltAddr, Addr.add_lit]
  unfold AtSto
  rw [had]
  unfold iStore
  intro w hu h0
  have hgw := hu b _ hg cells_ne_junk
  have hcell : w.cell? ⟨b, off, none⟩ = some cur[off] := by simp [World.cell?, hgw, ho]
  have hfro : w.frozen? ⟨b, off, none⟩ = false := by
    rw [← hz]
    simp [World.frozen?, hgw, hg]
  have hsz := (run_lay hl w).2
  have hadd : (⟨b, off, none⟩ : Addr).add 0 = ⟨b, off, none⟩ := by simp [Addr.add_lit]
  have hst : (store (⟨b, off, none⟩ : Addr) a).run P w = .ok () (w.setRow b (cur.setIfInBounds off a)) := by
    rw [run_store P w _ a _ h1, hcell]
    simp [hfro, setCell_eq_setRow w b off cur T' fz a hgw]
  refine ⟨_, _, ?_, step_set (cs := cur.setIfInBounds off a) hu hg hf, hK _ (learn_at _ _ _) (learn_subX rfl)⟩
  simp [Instr.storeAt, Instr.sureAddr, storeVar, hsz, hn, storeCells, hst, hadd]

/-- .. the load. -/
theorem elt_back {u : World} {b off n c : Nat} {cur : Array Value} {T' : TypeId} {fz : Nat × Nat} {v : Value} (hg : u.heap[b]? = some (.cells cur T' fz)) (hv : cur[off]? = some v) {ag : Bool} {K : Value → Prop} (hK : K (ld ag 1 0 [v])) :
    AtElt u (.slice (some ⟨b, off, none⟩) n c) 1 0 ag 1 0 K := by
  refine ⟨[v], ⟨_, n, c, rfl, rfl, fun j x hx => ?_⟩, .inl rfl, Nat.le_refl _, hK⟩
  cases j with
  | zero =>
    simp at hx
    subst hx
    simp [Addr.add_lit, World.cell?, hg, hv]
  | succ j => simp at hx

theorem set_back {cur : Array Value} {off : Nat} {v w : Value} (h : cur[off]? = some v) : (cur.setIfInBounds off w).setIfInBounds off v = cur := by
  obtain ⟨hi, h⟩ := Array.getElem?_eq_some_iff.1 h
  subst h
  apply Array.ext_getElem?
  intro i
  by_cases e : i = off
  · subst e; simp [hi]
  · rw [Array.getElem?_setIfInBounds_ne (Ne.symm e), Array.getElem?_setIfInBounds_ne (Ne.symm e)]

/-- A block is put back: all is as it was. -/
theorem sub_back {u u1 u2 u3 : World} {b : Nat} {cur : Array Value} {T : TypeId} {fz : Nat × Nat} (h1 : SubX (some ⟨b, 0, none⟩) u u1) (h2 : Sub u1 u2) (h3 : SubX (some ⟨b, 0, none⟩) u2 u3) (hg : u.heap[b]? = some (.cells cur T fz)) (hg3 : u3.heap[b]? = some (.cells cur T fz)) : Sub u u3 := fun c o hc ho => by
  by_cases e : c = b
  · subst e
    rw [hg] at hc; cases hc; exact hg3
  · have hne : ∀ a : Addr, (some ⟨b, 0, none⟩ : Option Addr) = some a → c ≠ a.block := fun a ha => by cases ha; exact e
    exact h3 c o hne (h2 c o (h1 c o hne hc ho) ho) ho
end Go.Eng
