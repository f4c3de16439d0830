/-
  Part 6 of the proof of M7: the engine and the walks, in their order.
-/
import Derived.Test.YtgpmgnbjpfggmaaM74
set_option linter.unusedSimpArgs false
set_option linter.unusedVariables false
/-
  Engine: the conditions grow with what is asked behind them.
-/
set_option linter.unusedSimpArgs false
set_option linter.unusedVariables false
namespace Go.Eng

section
variable {P : Program} {u0 : World}

theorem AtPure.mono {e : Sem Value} {K K' : Value → Prop} (h : ∀ r, K r → K' r) : AtPure P e K → AtPure P e K' := fun ⟨r, h1, h2⟩ => ⟨r, h1, h r h2⟩
theorem AtRead.mono {e : Sem Value} {u : World} {K K' : Value → Prop} (h : ∀ r, K r → K' r) : AtRead P e u K → AtRead P e u K' := fun ⟨r, h1, h2⟩ => ⟨r, h1, h r h2⟩
theorem AtEff.mono {x : Bool} {e : Sem Value} {u : World} {K K' : Value → World → Prop} (h : ∀ r u, K r u → K' r u) : AtEff x P e u0 u K → AtEff x P e u0 u K' := fun hh w h1 h2 =>
  let ⟨r, w', u', h3, h4, h5⟩ := hh w h1 h2; ⟨r, w', u', h3, h4, h r u' h5⟩
theorem AtDo.mono {x : Bool} {e : Sem Unit} {u : World} {K K' : World → Prop} (h : ∀ u, K u → K' u) : AtDo x P e u0 u K → AtDo x P e u0 u K' := fun hh w h1 h2 =>
  let ⟨w', u', h3, h4, h5⟩ := hh w h1 h2; ⟨w', u', h3, h4, h u' h5⟩
theorem AtYield.mono {x : Bool} {l : Nat} {args : List Value} {u : World} {K K' : Value → World → Prop} (h : ∀ r u, K r u → K' r u) (hh : AtYield x P l args u0 u K) : AtYield x P l args u0 u K' := fun w h1 h2 =>
  let ⟨f, t, a, b, hy, hR⟩ := hh w h1 h2
  ⟨f, t, a, b, hy, hR.mono fun _ _ ⟨r, u', e, hst, hk⟩ => ⟨r, u', e, hst, h r u' hk⟩⟩
theorem AtCall.mono {x : Bool} {f : FuncId} {args : List Value} {u : World} {K K' : Value → World → Prop} (h : ∀ r u, K r u → K' r u) : AtCall x P f args u0 u K → AtCall x P f args u0 u K'
  | .inl ⟨hb, hh⟩ => .inl ⟨hb, fun w h1 h2 => (hh w h1 h2).mono fun _ _ ⟨r, u', h3, h4, h5⟩ => ⟨r, u', h3, h4, h r u' h5⟩⟩
  | .inr ⟨e, he, hh⟩ => .inr ⟨e, he, AtEff.mono h hh⟩

theorem pubs_mono : ∀ (l : List Operand) (s : S) (u : World) (K K' : List Value → S → World → Prop), (∀ vs s u, K vs s u → K' vs s u) → pubs u0 l s u K → pubs u0 l s u K' := by
  intro l
  induction l with
  | nil => intro s u K K' h hh; exact h _ _ _ hh
  | cons x r ih =>
    intro s u K K' h hh
    simp only [pubs] at hh ⊢
    split
    · rename_i v hv; simp only [hv] at hh; exact ih _ _ _ _ (fun vs s u hk => h _ _ _ hk) hh
    · rename_i k off hv
      simp only [hv] at hh
      split
      · rename_i l hl; simp only [hl] at hh
        intro u' h1 h2 h3 h4 h5
        exact ih _ _ _ _ (fun vs s u hk => h _ _ _ hk) (hh u' h1 h2 h3 h4 h5)
      · rename_i hl; simp only [hl] at hh
    · rename_i h1 h2
      split at hh
      · rename_i v hv; exact (h1 _ hv).elim
      · rename_i k off hv; exact (h2 _ _ hv).elim
      · exact hh

theorem vcOp_mono {x : Bool} {o : Oper} {K K' : S → World → Prop} {s : S} {u : World} (h : ∀ s u, K s u → K' s u) (hh : vcOp P x u0 o K s u) : vcOp P x u0 o K' s u := by
  unfold vcOp at hh ⊢
  cases hop : o.op <;> simp only [hop] at hh ⊢
  case move => exact h _ _ hh
  case assign => exact h _ _ hh
  case pick => split at hh <;> first | exact h _ _ hh | exact hh.elim
  case load =>
    unfold vcLoad at hh ⊢
    split at hh
    · split at hh
      · split at hh
        · exact ⟨hh.1, hh.2.1, h _ _ hh.2.2⟩
        · exact hh.elim
      · obtain ⟨cs, h1, h2, h3, h4⟩ := hh; exact ⟨cs, h1, h2, h3, h _ _ h4⟩
      · obtain ⟨cs, h1, h2, h3, h4⟩ := hh; exact ⟨cs, h1, h2, h3, h _ _ h4⟩
      · exact hh.elim
    · exact hh.elim
  case nilCheck => split at hh <;> first | exact h _ _ hh | exact hh.elim
  case binOp => split at hh <;> first | exact AtPure.mono (fun r hk => h _ _ hk) hh | exact hh.elim
  case unOp => split at hh <;> first | exact AtPure.mono (fun r hk => h _ _ hk) hh | exact hh.elim
  case convert src dst y =>
    split at hh
    · cases hsd : (src == dst) with
      | true => simp only [hsd, cond_true] at hh ⊢; exact AtEff.mono (fun r u hk => h _ _ hk) hh
      | false => simp only [hsd, cond_false] at hh ⊢; exact AtRead.mono (fun r hk => h _ _ hk) hh
    · exact hh.elim
  case makeFunc => exact pubs_mono _ _ _ _ _ (fun vs s u hk => h _ _ hk) hh
  case build => split at hh <;> first | exact AtPure.mono (fun r hk => h _ _ hk) hh | exact hh.elim
  case slice => split at hh <;> first | exact AtPure.mono (fun r hk => h _ _ hk) hh | exact hh.elim
  case fieldAddr =>
    unfold vcField at hh ⊢
    split at hh
    · split at hh <;> first | exact h _ _ hh | exact hh.elim
    · exact hh.elim
  case field =>
    split at hh
    · split at hh
      · exact ⟨hh.1, hh.2.1, h _ _ hh.2.2⟩
      · exact hh.elim
    · exact hh.elim
  case indexAddr =>
    unfold vcIdx at hh ⊢
    split at hh
    · exact ⟨hh.1, h _ _ hh.2⟩
    · unfold IdxA at hh ⊢
      split at hh
      · exact ⟨hh.1, h _ _ hh.2⟩
      · exact hh.elim
    · exact hh.elim
  case index => split at hh <;> first | exact AtRead.mono (fun r hk => h _ _ hk) hh | exact hh.elim
  case lookup => split at hh <;> first | exact AtRead.mono (fun r hk => h _ _ hk) hh | exact hh.elim
  case extract =>
    split at hh
    · split at hh <;> first | exact h _ _ hh | exact hh.elim
    · exact hh.elim
  case alloc => split at hh <;> first | exact ⟨hh.1, fun b => h _ _ (hh.2 b)⟩ | exact hh.elim
  case box => split at hh <;> first | exact ⟨hh.1, fun b => h _ _ (hh.2 b)⟩ | exact hh.elim
  case store =>
    unfold vcStore at hh ⊢
    split at hh
    · split at hh
      · split at hh
        · exact ⟨hh.1, hh.2.1, hh.2.2.1, h _ _ hh.2.2.2⟩
        · exact hh.elim
      · exact AtDo.mono (fun u hk => h _ _ hk) hh
      · split at hh
        · exact AtDo.mono (fun u hk => h _ _ hk) hh
        · exact hh.elim
      · exact hh.elim
    · exact hh.elim
  case buildSlice => split at hh <;> first | exact AtEff.mono (fun r u hk => h _ _ hk) hh | exact hh.elim
  case makeSlice => split at hh <;> first | exact AtEff.mono (fun r u hk => h _ _ hk) hh | exact hh.elim
  case makeMap => split at hh <;> first | exact AtEff.mono (fun r u hk => h _ _ hk) hh | exact hh.elim
  case mapUpdate => split at hh <;> first | exact AtDo.mono (fun u hk => h _ _ hk) hh | exact hh.elim
  case insert => split at hh <;> first | exact AtDo.mono (fun u hk => h _ _ hk) hh | exact hh.elim
  case mapEntry => split at hh <;> first | exact AtEff.mono (fun r u hk => h _ _ hk) hh | exact hh.elim
  case entryStore => split at hh <;> first | exact AtDo.mono (fun u hk => h _ _ hk) hh | exact hh.elim
  case call c =>
    unfold vcCall at hh ⊢
    split at hh
    case h_9 =>
      split at hh
      · exact pubs_mono _ _ _ _ _ (fun vs s u hk => AtCall.mono (fun r u hk => h _ _ hk) hk) hh
      · exact pubs_mono _ _ _ _ _ (fun vs s u ⟨l, e, hk⟩ => ⟨l, e, AtYield.mono (fun r u hk => h _ _ hk) hk⟩) hh
      · exact hh.elim
    all_goals first
      | exact hh.elim
      | (split at hh <;> first | exact AtRead.mono (fun r hk => h _ _ hk) hh | exact AtPure.mono (fun r hk => h _ _ hk) hh | exact AtEff.mono (fun r u hk => h _ _ hk) hh | exact hh.elim)

theorem vcG_mono {x : Bool} {all : List Oper} {o : Oper} {K K' : S → World → Prop} {s : S} {u : World} (h : ∀ s u, K s u → K' s u) (hh : vcG P x u0 all o K s u) : vcG P x u0 all o K' s u := by
  unfold vcG at hh ⊢
  split at hh
  · exact vcOp_mono h hh
  · split at hh
    · split at hh
      · exact ⟨fun e => vcOp_mono h (hh.1 e), fun e => h _ _ (hh.2 e)⟩
      · exact h _ _ hh
      · exact hh.elim
    · exact hh.elim

theorem vcOps_mono {all : List Oper} {K K' : S → World → Prop} (h : ∀ s u, K s u → K' s u) : ∀ (l : List Oper) (s : S) (u : World), vcOps P u0 all K l s u → vcOps P u0 all K' l s u := by
  intro l
  induction l with
  | nil => intro s u hh; exact h _ _ hh
  | cons o r ih => intro s u hh; exact vcG_mono (fun s u hk => ih s u hk) hh

theorem vcOrd_mono {all : List Oper} {K K' : S → World → Prop} (h : ∀ s u, K s u → K' s u) : ∀ (l : List (Nat × Bool)) (s : S) (u : World), vcOrd P u0 all K l s u → vcOrd P u0 all K' l s u := by
  intro l
  induction l with
  | nil => intro s u hh; exact h _ _ hh
  | cons p r ih =>
    intro s u hh
    obtain ⟨i, x⟩ := p
    simp only [vcOrd] at hh ⊢
    split at hh
    · exact vcG_mono (fun s u hk => ih s u hk) hh
    · exact hh.elim

theorem vcOrdL_mono {all : List Oper} {ks : List Nat} {K K' : S → World → Prop} (h : ∀ s u, K s u → K' s u) : ∀ (l : List (Nat × Bool)) (s : S) (u : World), vcOrdL P u0 all ks K l s u → vcOrdL P u0 all ks K' l s u := by
  intro l
  induction l with
  | nil => intro s u hh; exact h s u hh
  | cons p r ih =>
    intro s u hh
    obtain ⟨i, x⟩ := p
    simp only [vcOrdL] at hh ⊢
    split at hh
    · rename_i o ho
      exact ⟨hh.1, hh.2.1, vcG_mono (fun s' u' hk => ⟨hk.1, ih s' u' hk.2⟩) hh.2.2⟩
    · exact hh.elim

theorem vcOrdM_mono {all : List Oper} {ls kl : List Nat} {K K' : S → World → Prop} (h : ∀ s u, K s u → K' s u) : ∀ (l : List (Nat × Bool)) (s : S) (u : World), vcOrdM P u0 all ls kl K l s u → vcOrdM P u0 all ls kl K' l s u := by
  intro l
  induction l with
  | nil => intro s u hh; exact h s u hh
  | cons p r ih =>
    intro s u hh
    obtain ⟨i, x⟩ := p
    simp only [vcOrdM] at hh ⊢
    split at hh
    · rename_i o ho
      exact ⟨hh.1, vcG_mono (fun s' u' hk => ⟨hk.1, ih s' u' hk.2⟩) hh.2⟩
    · exact hh.elim

theorem vcT_mono {all : List Oper} {K K' : S → World → Prop} (h : ∀ s u, K s u → K' s u) : ∀ (t : OT) (s : S) (u : World), vcT P u0 all K t s u → vcT P u0 all K' t s u := by
  intro t
  induction t with
  | done => intro s u hh; exact h _ _ hh
  | no => intro s u _; trivial
  | fl i t ih =>
    intro s u hh
    simp only [vcT] at hh ⊢
    split at hh
    · exact vcG_mono (fun s u hk => ih s u hk) hh
    · exact hh.elim
  | eff i x t alt iht iha =>
    intro s u hh
    simp only [vcT] at hh ⊢
    refine ⟨?_, iha s u hh.2⟩
    replace hh := hh.1
    split at hh
    · exact vcG_mono (fun s u hk => iht s u hk) hh
    · exact hh.elim

theorem vcTM_mono {all : List Oper} {ls kl : List Nat} {K K' : S → World → Prop} (h : ∀ s u, K s u → K' s u) : ∀ (t : OT) (s : S) (u : World), vcTM P u0 all ls kl K t s u → vcTM P u0 all ls kl K' t s u := by
  intro t
  induction t with
  | done => intro s u hh; exact h _ _ hh
  | no => intro s u _; trivial
  | fl i t ih =>
    intro s u hh
    simp only [vcTM] at hh ⊢
    split at hh
    · exact ⟨hh.1, vcG_mono (fun s u hk => ⟨hk.1, ih s u hk.2⟩) hh.2⟩
    · exact hh.elim
  | eff i x t alt iht iha =>
    intro s u hh
    simp only [vcTM] at hh ⊢
    refine ⟨?_, iha s u hh.2⟩
    replace hh := hh.1
    split at hh
    · exact vcG_mono (fun s u hk => ⟨hk.1, hk.2.imp (iht s u) (fun ⟨s1, h1, h2, h3⟩ => ⟨s1, h1, h2, iht s1 u h3⟩)⟩) hh
    · exact hh.elim

theorem LeK.mono {K K' : S → World → Prop} {s : S} {u : World} (h : ∀ s u, K s u → K' s u) : LeK K s u → LeK K' s u
  | .inl hk => .inl (h _ _ hk)
  | .inr ⟨s1, hle, hk⟩ => .inr ⟨s1, hle, h _ _ hk⟩

/-- Where orders meet again: some slots, and what is known. -/
def JoinK {γ : Type} (pre : γ → List (Nat × SV)) (ρ : List (Nat × SV)) (σ : List (Nat × Loc)) (F : γ → World → Prop) (s : S) (u : World) : Prop := ∃ g, (⟨pre g ++ ρ, σ⟩ : S).le s ∧ F g u

theorem draw_tree {ops : Array Oper} {K : S → World → Prop} {ρ : List (Nat × SV)} {σ : List (Nat × Loc)} {u : World} (t : OT) (hok : okTreeF ops t = true) {γ : Type} (pre : γ → List (Nat × SV)) (F : γ → World → Prop)
    (h1 : vcT P u0 ops.toList (JoinK pre ρ σ F) t ⟨ρ, σ⟩ u) (h2 : ∀ g u', F g u' → K ⟨pre g ++ ρ, σ⟩ u') : AtDraw P u0 ops K ⟨ρ, σ⟩ u :=
  .inr (.inl ⟨t, hok, vcT_mono (fun _ u' ⟨g, hle, hF⟩ => .inr ⟨_, hle, h2 g u' hF⟩) t _ u h1⟩)

theorem Vc.mono {c : Code} {Q Q' : Exit → S → World → Prop} {s : S} {u : World} (h : ∀ e s u, Q e s u → Q' e s u) (hh : Vc P u0 c Q s u) : Vc P u0 c Q' s u := by
  intro hm C a w hu hf hs
  refine cwp_mono (hh hm C a w hu hf hs) ?_
  intro e a w hl
  cases e with
  | normal => obtain ⟨s, u, hs, hk⟩ := hl; exact ⟨s, u, hs, h _ s u hk⟩
  | ret => obtain ⟨s, u, hs, hk⟩ := hl; exact ⟨s, u, hs, h _ s u hk⟩
  | exit id => obtain ⟨s, u, hs, hk⟩ := hl; exact ⟨s, u, hs, h _ s u hk⟩
  | goto l => exact hl
  | panic c => exact hl
  | outgrown => exact hl

/-- Behind the first of two pieces. -/
def SeqV (P : Program) (u0 : World) (y : Code) (Q : Exit → S → World → Prop) (e : Exit) (s : S) (u : World) : Prop :=
  match e with
  | .normal => Vc P u0 y Q s u
  | e => Q e s u
theorem SeqV_normal {y : Code} {Q : Exit → S → World → Prop} {s : S} {u : World} : SeqV P u0 y Q .normal s u = Vc P u0 y Q s u := rfl

theorem Vc.seq {x y : Code} {Q : Exit → S → World → Prop} {s : S} {u : World} (h : Vc P u0 x (SeqV P u0 y Q) s u) : Vc P u0 (.seq x y) Q s u := by
  intro hm C a w hu hf hs
  simp only [fits, Bool.and_eq_true] at hf
  refine cwp_seq (cwp_mono (h hm C a w hu hf.1 hs) ?_)
  intro e a w hl
  cases e with
  | normal => obtain ⟨s, u, hs, hk⟩ := hl; exact hk hm C a w hu hf.2 hs
  | exit id => exact hl
  | goto l => exact hl
  | ret => exact hl
  | panic c => exact hl
  | outgrown => exact hl

theorem Vc.block {id : Nat} {x : Code} {Q : Exit → S → World → Prop} {s : S} {u : World} (h : Vc P u0 x (BlockK id Q) s u) : Vc P u0 (.block id x) Q s u := by
  intro hm C a w hu hf hs
  refine cwp_block (cwp_mono (h hm C a w hu hf hs) ?_)
  intro e a w hl
  cases e with
  | normal => exact hl
  | exit j =>
    obtain ⟨s, u, hs, h⟩ := hl
    simp only [BlockK] at h
    by_cases hj : j = id
    · subst hj
      simp only [beq_self_eq_true, cond_true] at h
      simp only [Exit.inBlock, if_true]
      exact ⟨s, u, hs, h⟩
    · have hb : (j == id) = false := by simpa using hj
      simp only [hb, cond_false] at h
      simp only [Exit.inBlock, hj, if_false]
      exact ⟨s, u, hs, h⟩
  | goto l => exact hl
  | ret => exact hl
  | panic c => exact hl
  | outgrown => exact hl

theorem vc_mono : ∀ (c : Code) (Q Q' : Exit → S → World → Prop) (s : S) (u : World), (∀ e s u, Q e s u → Q' e s u) → vc P u0 c Q s u → vc P u0 c Q' s u := by
  intro c
  induction c with
  | skip => intro Q Q' s u h hh; exact h _ _ _ hh
  | region id ops draw =>
    intro Q Q' s u h hh
    cases draw with
    | false => exact vcOps_mono (fun s u hk => h _ s u hk) _ s u hh
    | true =>
      rcases hh with ⟨ord, h1, h2⟩ | ⟨t, h1, h2⟩ | ⟨ord, ks, h1, h2⟩ | ⟨ord, ls, kl, h1, h2⟩ | ⟨t, ls, kl, h1, h2⟩
      rotate_right
      · exact .inr (.inr (.inr (.inr ⟨t, ls, kl, h1, vcTM_mono (fun s u hk => LeK.mono (fun s u hk => h _ s u hk) hk) _ s u h2⟩)))
      rotate_right
      · exact .inr (.inr (.inr (.inl ⟨ord, ls, kl, h1, vcOrdM_mono (fun s u hk => h _ s u hk) _ s u h2⟩)))
      · exact .inl ⟨ord, h1, vcOrd_mono (fun s u hk => h _ s u hk) _ s u h2⟩
      rotate_left
      · exact .inr (.inr (.inl ⟨ord, ks, h1, vcOrdL_mono (fun s u hk => h _ s u hk) _ s u h2⟩))
      · refine .inr (.inl ?_)
        exact ⟨t, h1, vcT_mono (fun s u hk => LeK.mono (fun s u hk => h _ s u hk) hk) _ s u h2⟩
  | seq x y ihx ihy =>
    intro Q Q' s u h hh
    refine ihx _ _ s u ?_ hh
    intro e s u hk
    cases e with
    | normal => exact ihy _ _ s u h hk
    | _ => exact h _ s u hk
  | cond c x y ihx ihy =>
    intro Q Q' s u h hh
    simp only [vc] at hh ⊢
    split at hh
    · exact ⟨fun e => ihx _ _ s u h (hh.1 e), fun e => ihy _ _ s u h (hh.2 e)⟩
    · exact hh.elim
  | block id x ih =>
    intro Q Q' s u h hh
    refine ih _ _ s u ?_ hh
    intro e s u hk
    cases e with
    | exit j =>
      simp only [BlockW] at hk ⊢
      cases hb : (j == id) <;> simp only [hb, cond_true, cond_false] at hk ⊢
      · exact h _ s u hk
      · exact LeK.mono (fun s u hk => h _ s u hk) hk
    | normal => exact LeK.mono (fun s u hk => h _ s u hk) hk
    | _ => exact h _ s u hk
  | loop x ih =>
    intro Q Q' s u h hh
    obtain ⟨γ, st, F, μ, h0, h1⟩ := hh
    refine ⟨γ, st, F, μ, h0, fun g u hF => Vc.mono ?_ (h1 g u hF)⟩
    intro e s u hk
    cases e with
    | normal => exact hk
    | _ => exact h _ s u hk
  | exit id => intro Q Q' s u h hh; exact h _ _ _ hh
  | ret => intro Q Q' s u h hh; exact h _ _ _ hh
  | rangeFunc g ps x y => intro Q Q' s u h hh; exact Vc.mono h hh
  | _ => intros; assumption

theorem block_of {id : Nat} {x : Code} {Q : Exit → S → World → Prop} {s : S} {u : World} (h : vc P u0 x (BlockK id Q) s u) : vc P u0 (.block id x) Q s u := by
  refine vc_mono x _ _ s u ?_ h
  intro e s u hk
  cases e with
  | exit j =>
    simp only [BlockK, BlockW] at hk ⊢
    cases hb : (j == id) <;> simp only [hb, cond_true, cond_false] at hk ⊢
    · exact hk
    · exact .inl hk
  | normal => exact .inl hk
  | _ => exact hk

/-- Behind a block whose ways meet again at its end: some slots, and what is known there. -/
def JoinB {γ : Type} (id : Nat) (pre : γ → List (Nat × SV)) (ρ : List (Nat × SV)) (loc : List (Nat × Loc)) (F : γ → World → Prop) (Q : Exit → S → World → Prop) (e : Exit) (s : S) (u : World) : Prop :=
  match e with
  | .normal => ∃ g, (⟨pre g ++ ρ, loc⟩ : S).le s ∧ F g u
  | .exit j => bif j == id then (∃ g, (⟨pre g ++ ρ, loc⟩ : S).le s ∧ F g u) else Q (.exit j) s u
  | e => Q e s u

theorem block_join {id : Nat} {x : Code} {Q : Exit → S → World → Prop} {ρ : List (Nat × SV)} {σ : List (Nat × Loc)} {u : World} {γ : Type} (pre : γ → List (Nat × SV)) (loc : List (Nat × Loc)) (F : γ → World → Prop)
    (h1 : vc P u0 x (JoinB id pre ρ loc F Q) ⟨ρ, σ⟩ u) (h2 : ∀ g u', F g u' → Q .normal ⟨pre g ++ ρ, loc⟩ u') : vc P u0 (.block id x) Q ⟨ρ, σ⟩ u := by
  refine vc_mono x _ _ _ u ?_ h1
  intro e s' u' hk
  cases e with
  | exit j =>
    simp only [BlockW, JoinB] at hk ⊢
    cases hb : (j == id) <;> simp only [hb, cond_true, cond_false] at hk ⊢
    · exact hk
    · obtain ⟨g, hle, hF⟩ := hk; exact .inr ⟨_, hle, h2 g u' hF⟩
  | normal => obtain ⟨g, hle, hF⟩ := hk; exact .inr ⟨_, hle, h2 g u' hF⟩
  | _ => exact hk

end
end Go.Eng
