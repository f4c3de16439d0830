/-
  Engine, part D: the conditions of the operations are right.
-/
import Derived.Test.YtcaobkpfafcnjaaEc
set_option linter.unusedSimpArgs false
set_option linter.unusedVariables false
namespace Go.Eng

/-! ### A local becomes known -/

def learn (u : World) (b : Nat) (o : Obj) : World :=
  { u with heap := ((List.range (max u.heap.size (b + 1))).map fun i => if i = b then o else (u.heap[i]?).getD junk).toArray }

theorem learn_at (u : World) (b : Nat) (o : Obj) : (learn u b o).heap[b]? = some o := by
  simp [learn, List.getElem?_range (show b < max u.heap.size (b + 1) by omega)]

theorem learn_ne {u : World} {b c : Nat} {o o' : Obj} (h : c ≠ b) (hn : o' ≠ junk) : (learn u b o).heap[c]? = some o' ↔ u.heap[c]? = some o' := by
  by_cases hc : c < max u.heap.size (b + 1)
  · simp only [learn, List.getElem?_toArray, List.getElem?_map, List.getElem?_range hc, Option.map_some, if_neg h]
    cases hu : u.heap[c]? with
    | none => simp; exact fun e => hn e.symm
    | some x => simp
  · have h1 : u.heap[c]? = none := by apply Array.getElem?_eq_none; omega
    have h2 : (learn u b o).heap[c]? = none := by
      apply Array.getElem?_eq_none
      simp [learn]; omega
    rw [h1, h2]

theorem learn_fresh {u : World} {b c : Nat} {o : Obj} (h : c ≠ b) (hf : Fresh u c) : Fresh (learn u b o) c := fun o' ho' =>
  Classical.byContradiction fun hn => hn (hf o' ((learn_ne h hn).1 ho'))

theorem learn_sub {u : World} {b : Nat} {o : Obj} (hf : Fresh u b) : Sub u (learn u b o) := fun c o' h hn => by
  by_cases hc : c = b
  · subst hc; exact absurd (hf o' h) hn
  · exact (learn_ne hc hn).2 h

theorem sub_learn {u w : World} {b : Nat} {o : Obj} (hs : Sub u w) (hb : w.heap[b]? = some o) : Sub (learn u b o) w := fun c o' h hn => by
  by_cases hc : c = b
  · subst hc; rw [learn_at] at h; cases h; exact hb
  · exact hs c o' ((learn_ne hc hn).1 h) hn

theorem lk_pubR {k b t : Nat} : ∀ (l : List (Nat × SV)), lk (pubR k b l) t = (lk l t).map (pubSV k b) := by
  intro l
  induction l with
  | nil => rfl
  | cons p r ih =>
    obtain ⟨t', x⟩ := p
    by_cases h : t' = t
    · subst h; simp [pubR, lk_cons_eq]
    · simp [pubR, lk_cons_ne h, ih]

theorem lk_dropK {k j : Nat} : ∀ (l : List (Nat × Loc)), lk (dropK k l) j = if j = k then none else lk l j := by
  intro l
  induction l with
  | nil => simp [dropK, lk]
  | cons p r ih =>
    obtain ⟨k', x⟩ := p
    by_cases h : k' = k
    · subst h
      simp only [dropK, beq_self_eq_true, cond_true, ih]
      by_cases hj : j = k'
      · simp [hj]
      · simp only [hj, if_false]; rw [lk_cons_ne (fun e => hj e.symm)]
    · have hb : (k' == k) = false := by simpa using h
      simp only [dropK, hb, cond_false]
      by_cases hj : k' = j
      · subst hj; simp [lk_cons_eq, h]
      · rw [lk_cons_ne hj, lk_cons_ne hj, ih]

theorem S.get_pub (s : S) (k b t : Nat) : (s.pub k b).get t = pubSV k b (s.get t) := by
  simp only [S.get, S.pub, lk_pubR]
  cases lk s.ρ t <;> rfl

theorem S.find_pub (s : S) (k b j : Nat) : (s.pub k b).find j = if j = k then none else s.find j := by
  simp only [S.find, S.pub, lk_dropK]

theorem Sim.pub {C : Ctx} {s : S} {u : World} {a : Act} {w : World} (h : Sim C s u a w) {k : Nat} {l : Loc} (hk : s.find k = some l) :
    Sim C (s.pub k l.b) (learn u l.b (.cells l.cells.toArray l.T (0, 0))) a w := by
  obtain ⟨h1, h2, h3⟩ := h.locs k l hk
  refine ⟨h.size, h.defers, ?_, ?_, ?_, sub_learn h.sub h1, ?_, ?_, h.keep, ?_, h.le, h.sub0, h.sub00⟩
  · intro t v hv
    refine h.slots t v ?_
    rw [S.get_pub] at hv
    cases hg : s.get t with
    | unk => rw [hg] at hv; exact hv
    | v x => rw [hg] at hv; exact hv
    | elt sv sz i off => rw [hg] at hv; exact hv
    | loc k' off =>
      rw [hg] at hv
      by_cases hkk : k' = k
      · subst hkk
        simp only [pubSV, beq_self_eq_true, cond_true, S.val] at hv
        simp only [S.val, hk, Option.map_some]
        exact hv
      · have hb : (k' == k) = false := by simpa using hkk
        simp only [pubSV, hb, cond_false, S.val, S.find_pub, hkk, if_false] at hv
        exact hv
  · intro t k' off ht
    rw [S.get_pub] at ht
    cases hg : s.get t with
    | unk => rw [hg] at ht; cases ht
    | v x => rw [hg] at ht; cases ht
    | elt sv sz i off => rw [hg] at ht; cases ht
    | loc k2 off2 =>
      rw [hg] at ht
      by_cases hkk : k2 = k
      · subst hkk; simp [pubSV] at ht
      · have hb : (k2 == k) = false := by simpa using hkk
        simp only [pubSV, hb, cond_false] at ht
        cases ht
        rw [S.find_pub, if_neg hkk]
        exact h.wfl t k' off hg
  · intro t sv sz i off ht
    rw [S.get_pub] at ht
    cases hg : s.get t with
    | unk => rw [hg] at ht; cases ht
    | v x => rw [hg] at ht; cases ht
    | elt sv' sz' i' off' => rw [hg] at ht; cases ht; exact h.wfe t _ _ _ _ hg
    | loc k2 off2 =>
      rw [hg] at ht
      by_cases hkk : k2 = k
      · subst hkk; simp [pubSV] at ht
      · have hb : (k2 == k) = false := by simpa using hkk
        simp only [pubSV, hb, cond_false] at ht
        cases ht
  · intro k' l' hk'
    rw [S.find_pub] at hk'
    split at hk'
    · cases hk'
    · rename_i hne
      obtain ⟨g1, g2, g3⟩ := h.locs k' l' hk'
      exact ⟨g1, learn_fresh (h.dist k' k l' l hk' hk hne) g2, g3⟩
  · intro k1 k2 l1 l2 hk1 hk2 hne
    rw [S.find_pub] at hk1 hk2
    split at hk1
    · cases hk1
    · split at hk2
      · cases hk2
      · exact h.dist k1 k2 l1 l2 hk1 hk2 hne
  · intro b hb hn
    by_cases hbl : b = l.b
    · omega
    · exact h.dom b hb (fun hf => hn (learn_fresh hbl hf))

theorem fresh0 {C : Ctx} {s : S} {u : World} {a : Act} {w : World} (h : Sim C s u a w) {k : Nat} {l : Loc} (hk : s.find k = some l) : Fresh C.u0 l.b := by
  obtain ⟨h1, h2, h3⟩ := h.locs k l hk
  exact fresh_of_ge h.sub00 h3

theorem pubs_sound {C : Ctx} {a : Act} {w : World} : ∀ (l : List Operand) (s : S) (u : World) (K : List Value → S → World → Prop), pubs C.u0 l s u K → Sim C s u a w →
    ∃ s' u', K (l.map a.eval) s' u' ∧ Sim C s' u' a w := by
  intro l
  induction l with
  | nil => intro s u K h hs; exact ⟨s, u, h, hs⟩
  | cons x r ih =>
    intro s u K h hs
    simp only [pubs] at h
    split at h
    · rename_i v hv
      obtain ⟨s', u', hK, hs'⟩ := ih s u _ h hs
      refine ⟨s', u', ?_, hs'⟩
      rw [List.map_cons, hs.eval_v hv]
      exact hK
    · rename_i k off hv
      split at h
      · rename_i l hl
        have hp := hs.pub hl
        obtain ⟨g1, g2, g3⟩ := hs.locs k l hl
        obtain ⟨s', u', hK, hs'⟩ := ih _ _ _ (h _ (learn_sub g2) g2 (fresh0 hs hl) (learn_at _ _ _) (fun b' hb' hf => learn_fresh hb' hf)) hp
        refine ⟨s', u', ?_, hs'⟩
        have he : a.eval x = .pointer (some ⟨l.b, off, none⟩) := hs.eval (by rw [hv]; simp [S.val, hl])
        rw [List.map_cons, he]
        exact hK
      · exact h.elim
    · exact h.elim

theorem vals_eval {C : Ctx} {s : S} {u : World} {a : Act} {w : World} (hs : Sim C s u a w) : ∀ {l : List Operand} {vs : List Value}, vals s l = some vs → l.map a.eval = vs := by
  intro l
  induction l with
  | nil => intro vs h; simp [vals] at h; simp [h]
  | cons x r ih =>
    intro vs h
    simp only [vals] at h
    split at h
    · rename_i v hv
      split at h
      · rename_i vs' hvs
        cases h
        rw [List.map_cons, hs.eval_v hv, ih hvs]
      · cases h
    · cases h

theorem pvals_eval {C : Ctx} {s : S} {u : World} {a : Act} {w : World} (hs : Sim C s u a w) : ∀ {l : List (Nat × Operand)} {vs : List (Nat × Value)}, pvals s l = some vs → l.map (fun (i, x) => (i, a.eval x)) = vs := by
  intro l
  induction l with
  | nil => intro vs h; simp [pvals] at h; simp [h]
  | cons p r ih =>
    intro vs h
    obtain ⟨i, x⟩ := p
    simp only [pvals] at h
    split at h
    · rename_i v hv
      split at h
      · rename_i vs' hvs
        cases h
        rw [List.map_cons, ih hvs]
        simp only [hs.eval_v hv]
      · cases h
    · cases h

theorem oval_eval {C : Ctx} {s : S} {u : World} {a : Act} {w : World} (hs : Sim C s u a w) {x : Option Operand} {v : Option Value} (h : oval s x = some v) : x.map a.eval = v := by
  cases x with
  | none => simp [oval] at h; simp [h]
  | some x =>
    simp only [oval] at h
    split at h
    · rename_i b hb
      cases h
      simp [hs.eval_v hb]
    · cases h

/-! ### Loads -/

theorem Addr.add_add (a : Addr) (m n : Nat) : (a.add m).add n = a.add (m + n) := by
  unfold Addr.add
  by_cases hm : m = 0 <;> by_cases hn : n = 0 <;> simp [hm, hn]
  omega

theorem run_lay {P : Program} {T : TypeId} {ag : Bool} {n : Nat} (h : lay P T = some (ag, n)) (w : World) :
    (isAgg T).run P w = .ok ag w ∧ (sizeOf T).run P w = .ok n w := by
  unfold lay at h
  split at h
  · rename_i fs i hu hi
    cases h
    exact ⟨by simp [isAgg, run_underlying hu], by simp [sizeOf, typeInfo, hi]⟩
  · rename_i l e i hu hi
    cases h
    exact ⟨by simp [isAgg, run_underlying hu], by simp [sizeOf, typeInfo, hi]⟩
  · rename_i d i h1 h2 hu hi
    cases h
    refine ⟨?_, by simp [sizeOf, typeInfo, hi]⟩
    simp only [isAgg, Sem.run_bind, run_underlying hu, Result.andThen_ok]
    cases d <;> first | rfl | exact (h1 _ _ hu hi).elim | exact (h2 _ _ _ hu hi).elim | simp_all
  · cases h

theorem run_loadVar {P : Program} {T : TypeId} {ag : Bool} {n off : Nat} (h : lay P T = some (ag, n)) {w : World} {a : Addr} {cs : List Value} (hn : n = 1 ∨ ag = true)
    (hl : off + n ≤ cs.length) (hc : CellsAt w a cs) : (loadVar T (a.add off)).run P w = .ok (ld ag n off cs) w := by
  obtain ⟨h1, h2⟩ := run_lay h w
  simp only [loadVar, Sem.run_bind, h1, Result.andThen_ok]
  cases ag with
  | true =>
    have hsub : ((cs.drop off).take n).length = n := by simp; omega
    have hload := run_loadCells_list (P := P) w (a.add off) ((cs.drop off).take n) (fun j v hv => by
      rw [Addr.add_add]
      refine hc _ v ?_
      rw [List.getElem?_take] at hv
      split at hv
      · rwa [List.getElem?_drop] at hv
      · cases hv)
    rw [hsub] at hload
    simp [h2, hload, ld]
  | false =>
    have h1' : n = 1 := by rcases hn with h | h; exact h; cases h
    subst h1'
    have hlt : off < cs.length := by omega
    have := hc off cs[off] (List.getElem?_eq_getElem hlt)
    simp only [Bool.false_eq_true, if_false, run_load, this, ld, cond_false]
    congr 1
    rw [List.headD_eq_head?_getD, List.head?_drop, List.getElem?_eq_getElem hlt]
    rfl

theorem CellsAt.mono {u w : World} {a : Addr} {cs : List Value} (hs : Sub u w) (h : CellsAt u a cs) : CellsAt w a cs := fun j v hv => hs.cell (h j v hv)

theorem cellsAt_loc {w : World} {b : Nat} {cs : List Value} {T : TypeId} {f : Nat × Nat} (h : w.heap[b]? = some (.cells cs.toArray T f)) : CellsAt w ⟨b, 0, none⟩ cs := fun j v hv => by
  rw [Addr.add_lit]
  exact cell?_of h (by simpa using hv)

theorem vcLoad_sound {P : Program} {C : Ctx} {s : S} {u : World} {a : Act} {w : World} (hs : Sim C s u a w) {T : TypeId} {y : Operand} {K : Value → Prop} (h : vcLoad P T (s.sv y) K s u) :
    ∃ v, K v ∧ ∀ w', Ext w w' → (Instr.loadAt T (a.eval y)).run P w' = .ok v w' := by
  unfold vcLoad at h
  split at h
  · rename_i ag n hl
    split at h
    · rename_i k off hv
      split at h
      · rename_i l hk
        obtain ⟨h1, h2, h3⟩ := h
        refine ⟨_, h3, fun w' he => ?_⟩
        have hev : a.eval y = .pointer (some ⟨l.b, off, none⟩) := hs.eval (by rw [hv]; simp [S.val, hk])
        rw [hev]
        have := run_loadVar hl h1 h2 (cellsAt_loc (he _ _ (hs.locs k l hk).1))
        rw [Addr.add_lit, Nat.zero_add] at this
        simpa [Instr.loadAt, Instr.sureAddr] using this
      · exact h.elim
    · rename_i sv sz i off hv
      obtain ⟨cs, ⟨ad, len, cap, rfl, hlen, hcell⟩, h1, h2, h3⟩ := h
      refine ⟨_, h3, fun w' he => ?_⟩
      have hev : a.eval y = .pointer (some ((ad.add (i.toNat * sz)).add off)) := hs.eval (by rw [hv]; simp [S.val, eltAddr])
      rw [hev]
      have := run_loadVar hl h1 h2 (CellsAt.mono (hs.sub.trans he.sub) hcell)
      simpa [Instr.loadAt, Instr.sureAddr] using this
    · rename_i ad hv
      obtain ⟨cs, hc, hlen, h1, h3⟩ := h
      refine ⟨_, h3, fun w' he => ?_⟩
      rw [hs.eval_v hv]
      have := run_loadVar (off := 0) hl h1 (by omega) (CellsAt.mono (hs.sub.trans he.sub) hc)
      rw [Addr.add_zero'] at this
      simpa [Instr.loadAt, Instr.sureAddr] using this
    · exact h.elim
  · exact h.elim

end Go.Eng
