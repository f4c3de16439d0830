/-
  Part 25 of the proof of Ap: the engine and the walks, in their order.
-/
import Derived.Test.YtcaobkpfafcnjaaAp9
set_option linter.unusedSimpArgs false
set_option linter.unusedVariables false
/-
  Engine: a region whose orders are those of some effects that wait for one another: the tree is made by a function, and walked by an invariant of what is done.
-/
set_option linter.unusedSimpArgs false
set_option linter.unusedVariables false
namespace Go.Eng
/-- An effect: its number, whether reads stand beside it, those that it waits for. -/
structure EI where
  j : Nat
  x : Bool
  ds : List Nat
def altT : List (Nat × Bool × OT) → OT
  | [] => .no
  | (j, x, t) :: r => .eff j x t (altT r)
def rdyE (its : List EI) (done : List Nat) : List EI := its.filter fun e => !done.contains e.j && e.ds.all done.contains
def mkT (its : List EI) (tail : OT) : Nat → List Nat → OT
  | 0, _ => .no
  | n + 1, done => match rdyE its done with
    | [] => tail
    | e :: r => altT ((e :: r).map fun e => (e.j, e.x, mkT its tail n (e.j :: done)))
def GoK (P : Program) (x : Bool) (u0 : World) (all : List Oper) (K : S → World → Prop) (s : S) (u : World) : Option Oper → Prop
  | some o => vcG P x u0 all o K s u
  | none => False
def NextK (σ : List (Nat × Loc)) (I : List (Nat × SV) → World → Prop) (s : S) (u : World) : Prop := ∃ ρ, s = ⟨ρ, σ⟩ ∧ I ρ u
section
variable {P : Program} {u0 : World} {all : List Oper} {K : S → World → Prop} {σ : List (Nat × Loc)}
theorem GoK_some {x : Bool} {o : Oper} {s : S} {u : World} : GoK P x u0 all K s u (some o) = vcG P x u0 all o K s u := rfl
theorem NextK_eq {I : List (Nat × SV) → World → Prop} {ρ : List (Nat × SV)} {u : World} : NextK σ I ⟨ρ, σ⟩ u = I ρ u := propext ⟨fun ⟨_, e, h⟩ => by cases e; exact h, fun h => ⟨ρ, rfl, h⟩⟩
theorem vcT_altT {s : S} {u : World} : ∀ (l : List (Nat × Bool × OT)), (∀ e ∈ l, GoK P e.2.1 u0 all (vcT P u0 all K e.2.2) s u (operAt all e.1)) → vcT P u0 all K (altT l) s u := by
  intro l
  induction l with
  | nil => intro _; trivial
  | cons e r ih =>
    intro h
    refine ⟨?_, ih fun e' he => h e' (List.mem_cons_of_mem _ he)⟩
    have := h e List.mem_cons_self
    show (match operAt all e.1 with | some o => vcG P e.2.1 u0 all o (vcT P u0 all K e.2.2) s u | none => False)
    cases ho : operAt all e.1 with
    | some o => rw [ho] at this; exact this
    | none => rw [ho] at this; exact this.elim
theorem vcT_mk {its : List EI} {tail : OT} (I : List Nat → List (Nat × SV) → World → Prop)
    (hstep : ∀ (done : List Nat) (ρ : List (Nat × SV)) (u : World), I done ρ u → ∀ e ∈ its, e.j ∉ done → (∀ d ∈ e.ds, d ∈ done) → GoK P e.x u0 all (NextK σ (I (e.j :: done))) ⟨ρ, σ⟩ u (operAt all e.j))
    (hend : ∀ (done : List Nat) (ρ : List (Nat × SV)) (u : World), I done ρ u → (∀ e ∈ its, (∀ d ∈ e.ds, d ∈ done) → e.j ∈ done) → vcT P u0 all K tail ⟨ρ, σ⟩ u) :
    ∀ (n : Nat) (done : List Nat) (ρ : List (Nat × SV)) (u : World), I done ρ u → vcT P u0 all K (mkT its tail n done) ⟨ρ, σ⟩ u := by
  intro n
  induction n with
  | zero => intro _ _ _ _; trivial
  | succ n ih =>
    intro done ρ u hI
    have hr : ∀ e, e ∈ rdyE its done ↔ e ∈ its ∧ e.j ∉ done ∧ ∀ d ∈ e.ds, d ∈ done := fun e => by
      unfold rdyE
      rw [List.mem_filter]
      simp
    unfold mkT
    split
    · rename_i h0
      refine hend done ρ u hI (fun e he hd => ?_)
      exact Classical.byContradiction fun hn => by
        have := (hr e).2 ⟨he, hn, hd⟩
        rw [h0] at this; cases this
    · rename_i e r h0
      refine vcT_altT _ (fun y hy => ?_)
      obtain ⟨e', he', rfl⟩ := List.mem_map.1 hy
      rw [← h0] at he'
      obtain ⟨h1, h2, h3⟩ := (hr e').1 he'
      have hs := hstep done ρ u hI e' h1 h2 h3
      show GoK P e'.x u0 all (vcT P u0 all K (mkT its tail n (e'.j :: done))) ⟨ρ, σ⟩ u (operAt all e'.j)
      cases ho : operAt all e'.j with
      | none => rw [ho] at hs; exact hs.elim
      | some o =>
        rw [ho] at hs
        exact vcG_mono (fun s' u' ⟨ρ', e1, h⟩ => by subst e1; exact ih _ ρ' u' h) hs
end
attribute [go_sem] GoK_some NextK_eq

/-! ### What is there of the call's own, while some effects are done -/
structure OF where
  j : Nat
  con : Nat
  slot : Nat
  T : TypeId
  sz : Nat
  xs : List (List Value)
  z : Bool
def OF.ok (U : World) (f : OF) (ρ : List (Nat × SV)) (u : World) : Prop :=
  ∃ p c, lk ρ f.slot = some (.v (.slice p f.xs.length c)) ∧ Own U u f.T f.sz p f.xs.length c f.xs ∧ (f.z = true → c = 0)
structure InvF (U : World) (FL : List OF) (X : List Nat → List (Nat × SV) → Prop) (done : List Nat) (ρ : List (Nat × SV)) (u : World) : Prop where
  sub : Sub U u
  x : X done ρ
  all : ∀ f ∈ FL, f.j ∈ done → f.con ∉ done → f.ok U ρ u
theorem Own.ne_T {U V u : World} {T T' sz sz' n n' c c' : Nat} {p p' : Option Addr} {xs xs' : List (List Value)} (h : Own U u T sz p n c xs) (h' : Own V u T' sz' p' n' c' xs') (hT : T ≠ T') : NEP p p' := by
  intro a b ha hb e
  rcases h.at_ with ⟨e1, _⟩ | ⟨g, cur, e1, hg, _⟩
  · rw [e1] at ha; cases ha
  rcases h'.at_ with ⟨e2, _⟩ | ⟨g2, cur2, e2, hg2, _⟩
  · rw [e2] at hb; cases hb
  rw [e1] at ha; rw [e2] at hb
  cases ha; cases hb
  simp only at e
  rw [e, hg2] at hg
  injection hg with hg
  injection hg with _ hT2 _
  exact hT hT2.symm
section
variable {U u u' : World} {FL : List OF} {X : List Nat → List (Nat × SV) → Prop} {done : List Nat} {ρ : List (Nat × SV)} {j s : Nat} {v : SV}
theorem OF.ok_step {f : OF} (h : f.ok U ρ u) (hs : f.slot ≠ s) (ho : ∀ p c, Own U u f.T f.sz p f.xs.length c f.xs → Own U u' f.T f.sz p f.xs.length c f.xs) : f.ok U ((s, v) :: ρ) u' := by
  obtain ⟨p, c, h1, h2, h3⟩ := h
  exact ⟨p, c, by rw [lk_cons_ne (fun e => hs e.symm)]; exact h1, ho p c h2, h3⟩
theorem InvF.step_sub (h : InvF U FL X done ρ u) (hs : Sub u u') (hx : X (j :: done) ((s, v) :: ρ)) (hsl : ∀ f ∈ FL, f.j ≠ j → f.slot ≠ s) (hn : ∀ f ∈ FL, f.j = j → f.ok U ((s, v) :: ρ) u') : InvF U FL X (j :: done) ((s, v) :: ρ) u' :=
  ⟨h.sub.trans hs, hx, fun f hf h1 h2 => by
    by_cases e : f.j = j
    · exact hn f hf e
    · have h3 : f.j ∈ done := by rcases List.mem_cons.1 h1 with h | h; exact absurd h e; exact h
      exact OF.ok_step (h.all f hf h3 (fun h4 => h2 (List.mem_cons_of_mem _ h4))) (hsl f hf e) (fun p c ho => ho.mono hs)⟩
theorem InvF.step_subX {p : Option Addr} {T sz n c : Nat} {xs : List (List Value)} (h : InvF U FL X done ρ u) (hs : SubX p u u') (ho : Own U u T sz p n c xs) (hx : X (j :: done) ((s, v) :: ρ)) (hsl : ∀ f ∈ FL, f.j ≠ j → f.slot ≠ s)
    (hT : ∀ f ∈ FL, f.j ≠ j → f.con ≠ j → f.con ∉ done → f.T ≠ T) (hn : ∀ f ∈ FL, f.j = j → f.ok U ((s, v) :: ρ) u') : InvF U FL X (j :: done) ((s, v) :: ρ) u' :=
  ⟨hs.sub h.sub ho.fresh, hx, fun f hf h1 h2 => by
    by_cases e : f.j = j
    · exact hn f hf e
    · have h3 : f.j ∈ done := by rcases List.mem_cons.1 h1 with h | h; exact absurd h e; exact h
      have h4 : f.con ∉ done := fun h4 => h2 (List.mem_cons_of_mem _ h4)
      refine OF.ok_step (h.all f hf h3 h4) (hsl f hf e) (fun q d ho' => ho'.subX hs ?_)
      exact ho'.ne_T ho (hT f hf e (fun e2 => h2 (by rw [e2]; exact List.mem_cons_self)) h4)⟩
end
/-- append to a slice without room: what is known stays. -/
theorem eff_append0 {x : Bool} {P : Program} {T e sz bytes ty : Nat} (hT : elemT P T e sz bytes = true) {u0 u : World} {p q : Option Addr} {m d : Nat} {ys : List (List Value)}
    (ho : Own u0 u e sz p 0 0 []) (hs : Sl u sz q m d ys) (h1 : allOnes ys) (hb : m * bytes ≤ 140737488355328) (hm : m ≤ 9223372036854775807) {K : Value → World → Prop}
    (hK : ∀ p' c' u', Own u0 u' e sz p' m c' ys → Sub u u' → K (.slice p' m c') u') :
    AtEff x P (bApp #[T, T] ty #[.slice p 0 0, .slice q m d]) u0 u K := by
  refine eff_append_s hT ho hs h1 (by rw [Nat.zero_add]; exact hb) (by omega) (.inr rfl) fun p' c' u' h1 h2 h3 => ?_
  rw [Nat.zero_add, List.nil_append] at h1
  rw [Nat.zero_add]
  refine hK p' c' u' h1 ?_
  rcases h3 with ⟨e1, e2, h3⟩ | ⟨_, h3⟩
  · subst e1 e2
    intro b o hb hn
    by_cases hbb : ∀ a, p' = some a → b ≠ a.block
    · exact h2 b o hbb hb hn
    · have : ∃ a, p' = some a ∧ b = a.block := Classical.byContradiction fun hc => hbb fun a ha e => hc ⟨a, ha, e⟩
      obtain ⟨a, ha, rfl⟩ := this
      rcases ho.at_ with ⟨k1, _⟩ | ⟨g, cur, k1, hg, _, _, k2, _⟩
      · rw [k1] at ha; cases ha
      rcases h1.at_ with ⟨l1, _⟩ | ⟨g2, cur2, l1, hg2, _, _, l2, _⟩
      · rw [l1] at ha; cases ha
      rw [k1] at ha l1
      cases ha; cases l1
      simp only at hb ⊢
      rw [hg] at hb; cases hb
      rw [hg2]
      rw [Nat.zero_mul] at k2 l2
      rw [Array.eq_empty_of_size_eq_zero k2, Array.eq_empty_of_size_eq_zero l2]
  · exact h3
/-! ### A region so made -/
def flsT : List Nat → OT → OT
  | [], t => t
  | i :: r, t => .fl i (flsT r t)
def XL (ρ : List (Nat × SV)) (σ : List (Nat × Loc)) (Xs : List Nat → List (Nat × SV) → Prop) (d : List Nat) (r : List (Nat × SV)) : Prop := (⟨ρ, σ⟩ : S).le ⟨r, σ⟩ ∧ Xs d r
section
variable {P : Program} {u0 : World} {all : List Oper} {K : S → World → Prop} {ρ r : List (Nat × SV)} {σ : List (Nat × Loc)}
theorem vcT_fls {K' : S → World → Prop} {t : OT} (h2 : ∀ s' u', K' s' u' → vcT P u0 all K t s' u') : ∀ (l : List Nat) (s : S) (u : World), vcT P u0 all K' (flsT l .done) s u → vcT P u0 all K (flsT l t) s u := by
  intro l
  induction l with
  | nil => intro s u h; exact h2 s u h
  | cons i l ih =>
    intro s u h
    simp only [flsT, vcT] at h ⊢
    split at h
    · exact vcG_mono (fun s' u' hk => ih s' u' hk) h
    · exact h.elim
theorem le_cons {s0 : S} {t : Nat} {v : SV} (h : s0.le ⟨r, σ⟩) (ht : s0.get t = .unk) : s0.le ⟨(t, v) :: r, σ⟩ := by
  refine ⟨fun k => ?_, fun k i off hk => ?_, h.find⟩
  · by_cases e : t = k
    · subst e; exact .inl ht
    · rcases h.get k with h1 | h1
      · exact .inl h1
      · refine .inr ?_
        rw [← h1]
        show (lk ((t, v) :: r) k).getD .unk = (lk r k).getD .unk
        rw [lk_cons_ne e]
  · exact h.wfl k i off hk
theorem le_lk {s0 : S} {t : Nat} {x : SV} (h : s0.le ⟨r, σ⟩) (e : s0.get t = x) (hx : x ≠ .unk) : lk r t = some x := by
  rcases h.get t with h1 | h1
  · exact absurd (e.symm.trans h1) hx
  · rw [e] at h1
    replace h1 : (lk r t).getD .unk = x := h1
    cases hl : lk r t with
    | none => rw [hl] at h1; exact absurd h1.symm hx
    | some y => rw [hl] at h1; exact congrArg some h1
theorem le_loc {σ1 σ2 : List (Nat × Loc)} (h : (⟨ρ, σ⟩ : S).le ⟨r, σ⟩) (hσ : ∀ k, lk σ1 k = lk σ2 k) : (⟨ρ, σ1⟩ : S).le ⟨r, σ2⟩ :=
  ⟨fun k => h.get k, fun k i off hk => .inr (hσ i), fun k => .inr (hσ k).symm⟩
theorem draw_mk {ops : Array Oper} {u : World} (its : List EI) (fls : List Nat) (tail : OT) (n : Nat) (hok : okTreeF ops (flsT fls (mkT its tail n [])) = true) {γ : Type} (pre : γ → List (Nat × SV)) (loc : γ → List (Nat × Loc)) (F : γ → World → Prop)
    (U : World) (FL : List OF) (Xs : List Nat → List (Nat × SV) → Prop)
    (h0 : vcT P u0 ops.toList (NextK σ (InvF U FL (XL ρ σ Xs) [])) (flsT fls .done) ⟨ρ, σ⟩ u)
    (h1 : ∀ (done : List Nat) (r : List (Nat × SV)) (v : World), InvF U FL (XL ρ σ Xs) done r v → ∀ e ∈ its, e.j ∉ done → (∀ d ∈ e.ds, d ∈ done) → GoK P e.x u0 ops.toList (NextK σ (InvF U FL (XL ρ σ Xs) (e.j :: done))) ⟨r, σ⟩ v (operAt ops.toList e.j))
    (h2 : ∀ (done : List Nat) (r : List (Nat × SV)) (v : World), InvF U FL (XL ρ σ Xs) done r v → (∀ e ∈ its, (∀ d ∈ e.ds, d ∈ done) → e.j ∈ done) → vcT P u0 ops.toList (JoinL pre loc ρ σ F) tail ⟨r, σ⟩ v)
    (h3 : ∀ g u', F g u' → K ⟨pre g ++ ρ, loc g ++ σ⟩ u') : AtDraw P u0 ops K ⟨ρ, σ⟩ u := by
  refine draw_treeL _ hok pre loc F (vcT_fls (fun s' u' hk => ?_) fls _ u h0) h3
  obtain ⟨r, rfl, hI⟩ := hk
  exact vcT_mk (fun done r v => InvF U FL (XL ρ σ Xs) done r v) h1 h2 n [] r u' hI
end
end Go.Eng
