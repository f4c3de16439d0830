/-
  Part 30 of the proof of W: the engine and the walks, in their order.
-/
import Derived.Test.YtcfkcmalkbdphaaW15
set_option linter.unusedSimpArgs false
set_option linter.unusedVariables false
/-
  Data level, part U: allocations of local variables may come in any order.
-/
set_option linter.unusedSimpArgs false
set_option linter.unusedVariables false
namespace Go.Eng

theorem lk_ne_all {α : Type} {l : List (Nat × α)} {k j : Nat} {x : α} (h : k ≠ j) : lk ((k, x) :: l) j = lk l j := lk_cons_ne h

section
variable {P : Program} {all : List Oper} {ls kl : List Nat} {K : DS → Prop} {ds : DS}
/-- A step of a tree whose effects may say less. -/
def TreeL2 (P : Program) (x : Bool) (all : List Oper) (ls kl : List Nat) (K : DS → Prop) (t : OT) (ds : DS) : Option Oper → Prop
  | some o => stNoD kl o ds ∧ vcG2 P x all o (HasK kl (LeK2 (HasK kl (vcT2M P all ls kl K t)))) ds
  | none => False
def TreeF2 (P : Program) (b : Bool) (all : List Oper) (ls kl : List Nat) (K : DS → Prop) (t : OT) (ds : DS) : Option Oper → Prop
  | some o => LdIf b kl o ds ∧ stNoD kl o ds ∧ vcG2 P false all o (HasK kl (vcT2M P all ls kl K t)) ds
  | none => False
theorem vcT2M_done : vcT2M P all ls kl K .done ds = K ds := rfl
theorem vcT2M_fl {i : Nat} {t : OT} : vcT2M P all ls kl K (.fl i t) ds = TreeF2 P (memB ls i) all ls kl K t ds (operAt all i) := by
  simp only [vcT2M, TreeF2]
  cases operAt all i <;> rfl
theorem vcT2M_one {i : Nat} {x : Bool} {t : OT} : vcT2M P all ls kl K (.eff i x t .no) ds = TreeL2 P x all ls kl K t ds (operAt all i) := by
  simp only [vcT2M, TreeL2, and_true]
  cases operAt all i <;> rfl
theorem vcT2M_alt {i j : Nat} {x y : Bool} {t t' alt : OT} : vcT2M P all ls kl K (.eff i x t (.eff j y t' alt)) ds = (TreeL2 P x all ls kl K t ds (operAt all i) ∧ vcT2M P all ls kl K (.eff j y t' alt) ds) := by
  simp only [vcT2M, TreeL2]
  cases operAt all i <;> rfl
theorem TreeL2_some {x : Bool} {t : OT} {o : Oper} : TreeL2 P x all ls kl K t ds (some o) = (stNoD kl o ds ∧ vcG2 P x all o (HasK kl (LeK2 (HasK kl (vcT2M P all ls kl K t)))) ds) := rfl
theorem TreeF2_some {b : Bool} {t : OT} {o : Oper} : TreeF2 P b all ls kl K t ds (some o) = (LdIf b kl o ds ∧ stNoD kl o ds ∧ vcG2 P false all o (HasK kl (vcT2M P all ls kl K t)) ds) := rfl
theorem HasK_eq : HasK kl K ds = (hasL ds kl ∧ K ds) := rfl
attribute [go_sem] vcT2M_done vcT2M_fl vcT2M_one vcT2M_alt TreeL2_some TreeF2_some HasK_eq
end

/-- An allocation: where it stands, its slot, type, cells. -/
structure AI where
  i : Nat
  d : Nat
  T : TypeId
  cs : List DV

def picks {α : Type} : List α → List (α × List α)
  | [] => []
  | a :: r => (a, r) :: (picks r).map fun p => (p.1, a :: p.2)
def altT : List (Nat × OT) → OT
  | [] => .no
  | p :: r => .eff p.1 true p.2 (altT r)
/-- All orders of these, and then 'k'. -/
def permT (k : OT) : Nat → List AI → OT
  | 0, _ => k
  | n + 1, l => altT ((picks l).map fun p => (p.1.i, permT k n p.2))

theorem picks_perm {α : Type} : ∀ {l : List α} {a : α} {s : List α}, (a, s) ∈ picks l → l.Perm (a :: s)
  | b :: r, a, s, h => by
    simp only [picks, List.mem_cons, List.mem_map, Prod.mk.injEq, Prod.exists] at h
    rcases h with ⟨rfl, rfl⟩ | ⟨c, t, h1, rfl, rfl⟩
    · exact List.Perm.refl _
    · exact ((picks_perm h1).cons b).trans (List.Perm.swap c b t)

section
variable {P : Program} {all : List Oper} {ls kl : List Nat} {K : DS → Prop}

def isAlloc (P : Program) (all : List Oper) (kl : List Nat) (a : AI) : Prop :=
  memB kl a.d = false ∧ ∃ o, operAt all a.i = some o ∧ o.op = .alloc a.T ∧ o.dst = some a.d ∧ o.guard = none ∧ zeroD P a.T = some a.cs ∧ onesD a.cs = true

structure AInv (l : List AI) (st ds : DS) : Prop where
  H : st.H = ds.H
  nx : st.nx = ds.nx
  nb : st.nb = ds.nb
  get : ∀ t, (∀ a ∈ l, a.d ≠ t) → ds.get t = st.get t
  find : ∀ k, (∀ a ∈ l, a.d ≠ k) → ds.find k = st.find k
  new : ∀ a ∈ l, ds.find a.d = none ∧ st.get a.d = .loc a.d 0 ∧ st.find a.d = some ⟨a.cs, a.T⟩
  nd : (l.map (·.d)).Nodup

theorem leD_ext {st ds : DS} (H : st.H = ds.H) (nx : st.nx = ds.nx) (nb : st.nb = ds.nb) (hg : ∀ t, ds.get t = st.get t) (hf : ∀ k, ds.find k = st.find k) : leD st ds := by
  intro u0 β0 β us s u h
  refine ⟨β, s, S.le.refl s, h.base, h.sub, fun t => ?_, fun k => ?_, fun id r hr => ?_, fun id hi => ?_, fun id hi => ?_, ?_, fun i j ri rj b hij hi hj => ?_⟩
  · rw [← hg]; exact h.slot t
  · rw [← hf]; exact h.loc k
  · rw [H] at hr; rw [nx]; exact h.row id r hr
  · rw [nx] at hi; exact h.nos id hi
  · rw [nb] at hi; exact h.fix id hi
  · rw [nx, nb]; exact h.nbx
  · rw [H] at hi hj; exact h.dist i j ri rj b hij hi hj

theorem AInv.step {l s : List AI} {a : AI} {st ds : DS} (h : AInv l st ds) (hp : l.Perm (a :: s)) : AInv s st (addLD ds a.d a.cs a.T) := by
  have hmem : ∀ b, b ∈ l ↔ b = a ∨ b ∈ s := fun b => by rw [hp.mem_iff, List.mem_cons]
  have hnd : ((a :: s).map (·.d)).Nodup := (hp.map _).nodup_iff.1 h.nd
  simp only [List.map_cons, List.nodup_cons, List.mem_map, not_exists, not_and] at hnd
  have ha := h.new a ((hmem a).2 (.inl rfl))
  have hg : ∀ t, (addLD ds a.d a.cs a.T).get t = if a.d = t then .loc a.d 0 else ds.get t := fun t => by
    by_cases e : a.d = t
    · subst e; simp [addLD, DS.get, lk_cons_eq]
    · simp [addLD, DS.get, lk_cons_ne e, e]
  have hf : ∀ t, (addLD ds a.d a.cs a.T).find t = if a.d = t then some ⟨a.cs, a.T⟩ else ds.find t := fun t => by
    by_cases e : a.d = t
    · subst e; simp [addLD, DS.find, lk_cons_eq]
    · simp [addLD, DS.find, lk_cons_ne e, e]
  refine ⟨h.H, h.nx, h.nb, fun t ht => ?_, fun t ht => ?_, fun b hb => ?_, hnd.2⟩
  · rw [hg]
    split
    · rename_i e; subst e; exact ha.2.1.symm
    · rename_i e
      refine h.get t fun b hb => ?_
      rcases (hmem b).1 hb with rfl | hb
      · exact e
      · exact ht b hb
  · rw [hf]
    split
    · rename_i e; subst e; exact ha.2.2.symm
    · rename_i e
      refine h.find t fun b hb => ?_
      rcases (hmem b).1 hb with rfl | hb
      · exact e
      · exact ht b hb
  · have hb' := h.new b ((hmem b).2 (.inr hb))
    rw [hf, if_neg (fun e => hnd.1 b hb e.symm)]
    exact hb'

theorem hasL_add {ds : DS} {d : Nat} {cs : List DV} {T : TypeId} : ∀ {kl : List Nat}, hasL ds kl → hasL (addLD ds d cs T) kl
  | [], _ => trivial
  | k :: r, h => ⟨by
      by_cases e : d = k
      · subst e; simp [addLD, DS.find, lk_cons_eq]
      · have := h.1; simp only [addLD, DS.find, lk_cons_ne e] at this ⊢; exact this, hasL_add h.2⟩
theorem hasL_ext {ds st : DS} (hf : ∀ k, ds.find k = st.find k) : ∀ {kl : List Nat}, hasL ds kl → hasL st kl
  | [], _ => trivial
  | k :: r, h => ⟨by rw [← hf]; exact h.1, hasL_ext hf h.2⟩

theorem altT_all {ds : DS} : ∀ (ps : List (Nat × OT)), (∀ p ∈ ps, TreeL2 P true all ls kl K p.2 ds (operAt all p.1)) → vcT2M P all ls kl K (altT ps) ds
  | [], _ => trivial
  | p :: r, h => by
    simp only [altT, vcT2M]
    refine ⟨?_, altT_all r fun q hq => h q (List.mem_cons_of_mem _ hq)⟩
    have h1 := h p List.mem_cons_self
    cases ho : operAt all p.1 with
    | none => rw [ho] at h1; exact h1
    | some o => rw [ho] at h1; exact h1

theorem perm_allocs {k : OT} {st : DS} (hk : vcT2M P all ls kl K k st) : ∀ (n : Nat) (l : List AI) (ds : DS), hasL ds kl → l.length = n + 1 → (∀ a ∈ l, isAlloc P all kl a) → AInv l st ds → vcT2M P all ls kl K (permT k (n + 1) l) ds := by
  intro n
  induction n with
  | zero =>
    intro l ds hL hl ha hi
    refine altT_all _ fun p hp => ?_
    obtain ⟨⟨a, s⟩, hq, rfl⟩ := List.mem_map.1 hp
    have hpm := picks_perm hq
    obtain ⟨hm, o, ho, h1, h2, h3, h4, h5⟩ := ha a (hpm.mem_iff.2 List.mem_cons_self)
    have hd := (hi.new a (hpm.mem_iff.2 List.mem_cons_self)).1
    have hs : s = [] := List.length_eq_zero_iff.1 (by have := hpm.length_eq; simp only [List.length_cons] at this; omega)
    subst hs
    have hst := hi.step hpm
    simp only [ho, TreeL2, vcG2, h3, vcOp2, h1, h2, vcNew2, h4, OptK]
    have hL' := hasL_add (d := a.d) (cs := a.cs) (T := a.T) hL
    refine ⟨by simp only [stNoD, h1, h2]; exact hm, hd, h5, hL', .inr ⟨st, leD_ext hst.H hst.nx hst.nb (fun t => hst.get t (by simp)) (fun t => hst.find t (by simp)), ?_, hk⟩⟩
    exact hasL_ext (fun t => hst.find t (by simp)) hL'
  | succ n ih =>
    intro l ds hL hl ha hi
    refine altT_all _ fun p hp => ?_
    obtain ⟨⟨a, s⟩, hq, rfl⟩ := List.mem_map.1 hp
    have hpm := picks_perm hq
    obtain ⟨hm, o, ho, h1, h2, h3, h4, h5⟩ := ha a (hpm.mem_iff.2 List.mem_cons_self)
    have hd := (hi.new a (hpm.mem_iff.2 List.mem_cons_self)).1
    have hsl : s.length = n + 1 := by have := hpm.length_eq; simp only [List.length_cons] at this; omega
    simp only [ho, TreeL2, vcG2, h3, vcOp2, h1, h2, vcNew2, h4, OptK]
    have hL' := hasL_add (d := a.d) (cs := a.cs) (T := a.T) hL
    exact ⟨by simp only [stNoD, h1, h2]; exact hm, hd, h5, hL', .inl ⟨hL', ih s _ hL' hsl (fun b hb => ha b (hpm.mem_iff.2 (List.mem_cons_of_mem _ hb))) (hi.step hpm)⟩⟩

/-- What is asked of the allocations, written out. -/
def allocsOk (P : Program) (all : List Oper) (kl : List Nat) (ds : DS) : List AI → Prop
  | [] => True
  | a :: r => (ds.find a.d = none ∧ memB kl a.d = false ∧ (∃ o, operAt all a.i = some o ∧ o.op = .alloc a.T ∧ o.dst = some a.d ∧ o.guard = none ∧ zeroD P a.T = some a.cs ∧ onesD a.cs = true)) ∧ allocsOk P all kl ds r
theorem allocsOk_all {ds : DS} : ∀ {l : List AI}, allocsOk P all kl ds l → ∀ a ∈ l, ds.find a.d = none ∧ isAlloc P all kl a
  | b :: r, h, a, ha => by
    rcases List.mem_cons.1 ha with rfl | ha
    · exact h.1
    · exact allocsOk_all h.2 a ha
def addAll (ds : DS) : List AI → DS
  | [] => ds
  | a :: r => addLD (addAll ds r) a.d a.cs a.T
theorem addAll_inv {ds : DS} : ∀ {l : List AI}, (l.map (·.d)).Nodup → (∀ a ∈ l, ds.find a.d = none) → AInv l (addAll ds l) ds := by
  intro l
  have key : ∀ l : List AI, (l.map (·.d)).Nodup → (addAll ds l).H = ds.H ∧ (addAll ds l).nx = ds.nx ∧ (addAll ds l).nb = ds.nb ∧ (∀ t, (∀ a ∈ l, a.d ≠ t) → ds.get t = (addAll ds l).get t) ∧ (∀ t, (∀ a ∈ l, a.d ≠ t) → ds.find t = (addAll ds l).find t) ∧
      (∀ a ∈ l, (addAll ds l).get a.d = .loc a.d 0 ∧ (addAll ds l).find a.d = some ⟨a.cs, a.T⟩) := by
    intro l
    induction l with
    | nil => intro _; exact ⟨rfl, rfl, rfl, fun _ _ => rfl, fun _ _ => rfl, fun _ h => by cases h⟩
    | cons a r ih =>
      intro hnd
      simp only [List.map_cons, List.nodup_cons, List.mem_map, not_exists, not_and] at hnd
      obtain ⟨h1, h2, h3, h4, h5, h6⟩ := ih hnd.2
      have hg : ∀ t, (addAll ds (a :: r)).get t = if a.d = t then .loc a.d 0 else (addAll ds r).get t := fun t => by
        by_cases e : a.d = t
        · subst e; simp [addAll, addLD, DS.get, lk_cons_eq]
        · simp [addAll, addLD, DS.get, lk_cons_ne e, e]
      have hf : ∀ t, (addAll ds (a :: r)).find t = if a.d = t then some ⟨a.cs, a.T⟩ else (addAll ds r).find t := fun t => by
        by_cases e : a.d = t
        · subst e; simp [addAll, addLD, DS.find, lk_cons_eq]
        · simp [addAll, addLD, DS.find, lk_cons_ne e, e]
      refine ⟨h1, h2, h3, fun t ht => ?_, fun t ht => ?_, fun b hb => ?_⟩
      · rw [hg, if_neg (ht a List.mem_cons_self)]; exact h4 t fun b hb => ht b (List.mem_cons_of_mem _ hb)
      · rw [hf, if_neg (ht a List.mem_cons_self)]; exact h5 t fun b hb => ht b (List.mem_cons_of_mem _ hb)
      · rw [hg, hf]
        rcases List.mem_cons.1 hb with rfl | hb
        · simp
        · rw [if_neg (fun e => hnd.1 b hb e.symm), if_neg (fun e => hnd.1 b hb e.symm)]; exact h6 b hb
  intro hnd hn
  obtain ⟨h1, h2, h3, h4, h5, h6⟩ := key l hnd
  exact ⟨h1, h2, h3, h4, h5, fun a ha => ⟨hn a ha, h6 a ha⟩, hnd⟩

/-- **Allocations in any order.** -/
theorem allocs_ {k : OT} {ds : DS} (l : List AI) {n : Nat} (hl : l.length = n + 1) (hnd : nodupB (l.map (·.d)) = true) (hL : hasL ds kl) (h : allocsOk P all kl ds l) (hk : vcT2M P all ls kl K k (addAll ds l)) : vcT2M P all ls kl K (permT k (n + 1) l) ds := by
  have hnd' : (l.map (·.d)).Nodup := by
    have key : ∀ m : List Nat, nodupB m = true → m.Nodup := by
      intro m
      induction m with
      | nil => intro _; exact List.nodup_nil
      | cons i r ih =>
        intro h
        simp only [nodupB, Bool.and_eq_true, Bool.not_eq_true', List.contains_eq_mem, decide_eq_false_iff_not] at h
        exact List.nodup_cons.2 ⟨h.1, ih h.2⟩
    exact key _ hnd
  exact perm_allocs hk n l ds hL hl (fun a ha => (allocsOk_all h a ha).2) (addAll_inv hnd' fun a ha => (allocsOk_all h a ha).1)
end

theorem draw_allocs {P : Program} {ops : Array Oper} {K : DS → Prop} {ds : DS} (t : OT) (ls kl : List Nat) (ht : okTreeM ops ls t = true) (hw : vcT2M P ops.toList ls kl (LeK2 K) t ds) : AtDraw2 P ops K ds :=
  .inr (.inr (.inr (.inr ⟨t, ls, kl, ht, hw⟩)))
theorem addAll_nil {ds : DS} : addAll ds [] = ds := rfl
theorem addAll_cons {ds : DS} {a : AI} {r : List AI} : addAll ds (a :: r) = addLD (addAll ds r) a.d a.cs a.T := rfl
attribute [go_sem] addAll_nil addAll_cons
end Go.Eng
