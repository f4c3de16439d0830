/-
  Engine, part H: loops; slices.
-/
import Derived.Test.YtcaobkpfafcnjaaEg
import Derived.Test.YtcaobkpfafcnjaaEm
import Derived.Laws.AppendOwnNone
set_option linter.unusedSimpArgs false
set_option linter.unusedVariables false
namespace Go.Eng

section
variable {P : Program} {u0 u : World} {Q : Exit → S → World → Prop}

theorem vc_loopP {γ : Type} {ρ : List (Nat × SV)} {σ : List (Nat × Loc)} {body : Code} (pre : γ → List (Nat × SV)) (loc : γ → List (Nat × Loc)) (F : γ → World → Prop) (μ : γ → Nat) (g0 : γ)
    (hle : (⟨pre g0 ++ ρ, loc g0 ++ σ⟩ : S).le ⟨ρ, σ⟩) (hF : F g0 u)
    (hround : ∀ g u', F g u' → vc P u0 body (LoopK (fun g => ⟨pre g ++ ρ, loc g ++ σ⟩) F μ g Q) ⟨pre g ++ ρ, loc g ++ σ⟩ u') : vc P u0 (.loop body) Q ⟨ρ, σ⟩ u :=
  ⟨γ, fun g => ⟨pre g ++ ρ, loc g ++ σ⟩, F, μ, ⟨g0, hle, hF⟩, fun g u' h => Vc.of (hround g u' h)⟩

theorem JoinB_normal {γ : Type} {id : Nat} {pre : γ → List (Nat × SV)} {ρ : List (Nat × SV)} {loc : List (Nat × Loc)} {F : γ → World → Prop} {s : S} : JoinB id pre ρ loc F Q .normal s u = ∃ g, (⟨pre g ++ ρ, loc⟩ : S).le s ∧ F g u := rfl
theorem JoinB_exit {γ : Type} {id j : Nat} {pre : γ → List (Nat × SV)} {ρ : List (Nat × SV)} {loc : List (Nat × Loc)} {F : γ → World → Prop} {s : S} : JoinB id pre ρ loc F Q (.exit j) s u = bif j == id then (∃ g, (⟨pre g ++ ρ, loc⟩ : S).le s ∧ F g u) else Q (.exit j) s u := rfl
theorem JoinB_ret {γ : Type} {id : Nat} {pre : γ → List (Nat × SV)} {ρ : List (Nat × SV)} {loc : List (Nat × Loc)} {F : γ → World → Prop} {s : S} : JoinB id pre ρ loc F Q .ret s u = Q .ret s u := rfl
theorem CutQ_normal {γ : Type} {st : γ → S} {F : γ → World → Prop} {s : S} : CutQ st F Q .normal s u = ∃ g, (st g).le s ∧ F g u := rfl
theorem CutQ_ret {γ : Type} {st : γ → S} {F : γ → World → Prop} {s : S} : CutQ st F Q .ret s u = Q .ret s u := rfl
theorem CutQ_exit {γ : Type} {st : γ → S} {F : γ → World → Prop} {s : S} {j : Nat} : CutQ st F Q (.exit j) s u = Q (.exit j) s u := rfl
theorem cFst_zero {a r : Code} : cFst 0 (.seq a r) = a := rfl
theorem cFst_succ {k : Nat} {a r : Code} : cFst (k + 1) (.seq a r) = .seq a (cFst k r) := rfl
theorem cSnd_zero {a r : Code} : cSnd 0 (.seq a r) = r := rfl
theorem cSnd_succ {k : Nat} {a r : Code} : cSnd (k + 1) (.seq a r) = cSnd k r := rfl
attribute [go_sem] JoinB_normal JoinB_exit JoinB_ret CutQ_normal CutQ_ret CutQ_exit cFst_zero cFst_succ cSnd_zero cSnd_succ

/-- A cut behind the first statements: some slots, and what is known there. -/
theorem cut {γ : Type} {ρ : List (Nat × SV)} {σ : List (Nat × Loc)} {c : Code} (k : Nat) (pre : γ → List (Nat × SV)) (loc : γ → List (Nat × Loc)) (F : γ → World → Prop) (hok : cOk k c = true)
    (h1 : vc P u0 (cFst k c) (CutQ (fun g => ⟨pre g ++ ρ, loc g⟩) F Q) ⟨ρ, σ⟩ u) (h2 : ∀ g u', F g u' → Vc P u0 (cSnd k c) Q ⟨pre g ++ ρ, loc g⟩ u') : Vc P u0 c Q ⟨ρ, σ⟩ u :=
  cutV (fun g => ⟨pre g ++ ρ, loc g⟩) F k c _ u hok h1 h2

/-- A loop that is left by its block's end. -/
theorem vc_for {γ : Type} {ρ : List (Nat × SV)} {σ : List (Nat × Loc)} {body : Code} {id : Nat} (pre : γ → List (Nat × SV)) (loc : γ → List (Nat × Loc)) (F : γ → World → Prop) (μ : γ → Nat) (g0 : γ)
    (hle : (⟨pre g0 ++ ρ, loc g0 ++ σ⟩ : S).le ⟨ρ, σ⟩) (hF : F g0 u)
    (hround : ∀ g u', F g u' → vc P u0 body (LoopK (fun g => ⟨pre g ++ ρ, loc g ++ σ⟩) F μ g (BlockK id Q)) ⟨pre g ++ ρ, loc g ++ σ⟩ u') : vc P u0 (.block id (.loop body)) Q ⟨ρ, σ⟩ u := by
  refine block_of ?_
  exact vc_loopP pre loc F μ g0 hle hF hround

theorem vc_forV {γ : Type} {ρ : List (Nat × SV)} {σ : List (Nat × Loc)} {body : Code} {id : Nat} (pre : γ → List (Nat × SV)) (loc : γ → List (Nat × Loc)) (F : γ → World → Prop) (μ : γ → Nat) (g0 : γ)
    (hle : (⟨pre g0 ++ ρ, loc g0 ++ σ⟩ : S).le ⟨ρ, σ⟩) (hF : F g0 u)
    (hround : ∀ g u', F g u' → Vc P u0 body (LoopK (fun g => ⟨pre g ++ ρ, loc g ++ σ⟩) F μ g (BlockK id Q)) ⟨pre g ++ ρ, loc g ++ σ⟩ u') : vc P u0 (.block id (.loop body)) Q ⟨ρ, σ⟩ u :=
  block_of (x := .loop body) ⟨γ, fun g => ⟨pre g ++ ρ, loc g ++ σ⟩, F, μ, ⟨g0, hle, hF⟩, hround⟩

/-- Behind the body of a loop over a range. -/
def RangeK {γ : Type} (ti : Nat) (ρ : List (Nat × SV)) (σ : List (Nat × Loc)) (pre : γ → List (Nat × SV)) (loc : γ → List (Nat × Loc)) (F : Nat → γ → World → Prop) (k : Nat) (id : Nat)
    (Q : Exit → S → World → Prop) (e : Exit) (s : S) (u : World) : Prop :=
  match e with
  | .normal => ∃ g', (⟨(ti, .v (.int .i64 k)) :: (pre g' ++ ρ), loc g' ++ σ⟩ : S).le s ∧ F (k + 1) g' u
  | e => BlockK id Q e s u

theorem RangeK_normal {γ : Type} {ti : Nat} {ρ : List (Nat × SV)} {σ : List (Nat × Loc)} {pre : γ → List (Nat × SV)} {loc : γ → List (Nat × Loc)} {F : Nat → γ → World → Prop} {k id : Nat} {s : S} :
    RangeK ti ρ σ pre loc F k id Q .normal s u = ∃ g', (⟨(ti, .v (.int .i64 k)) :: (pre g' ++ ρ), loc g' ++ σ⟩ : S).le s ∧ F (k + 1) g' u := rfl
theorem RangeK_ret {γ : Type} {ti : Nat} {ρ : List (Nat × SV)} {σ : List (Nat × Loc)} {pre : γ → List (Nat × SV)} {loc : γ → List (Nat × Loc)} {F : Nat → γ → World → Prop} {k id : Nat} {s : S} :
    RangeK ti ρ σ pre loc F k id Q .ret s u = Q .ret s u := rfl
theorem RangeK_exit {γ : Type} {ti : Nat} {ρ : List (Nat × SV)} {σ : List (Nat × Loc)} {pre : γ → List (Nat × SV)} {loc : γ → List (Nat × Loc)} {F : Nat → γ → World → Prop} {k id j : Nat} {s : S} :
    RangeK ti ρ σ pre loc F k id Q (.exit j) s u = BlockK id Q (.exit j) s u := rfl


theorem le_next {R ρ' : List (Nat × SV)} {σ1 σ' : List (Nat × Loc)} {ti tj : Nat} {a b x : SV} (hb : ∀ k off, b ≠ .loc k off) (hj : lk R tj = none)
    (h : (⟨(ti, a) :: R, σ1⟩ : S).le ⟨ρ', σ'⟩) : (⟨(ti, b) :: R, σ1⟩ : S).le ⟨(ti, b) :: (tj, x) :: ρ', σ'⟩ := by
  refine ⟨fun t => ?_, fun t k off ht => ?_, h.find⟩
  · by_cases hti : ti = t
    · subst hti; exact .inr (by simp [S.get, lk_cons_eq])
    · by_cases htj : tj = t
      · subst htj; exact .inl (by simp [S.get, lk_cons_ne hti, hj])
      · have := h.get t
        simp only [S.get, lk_cons_ne hti, lk_cons_ne htj] at this ⊢
        exact this
  · by_cases hti : ti = t
    · subst hti; simp only [S.get, lk_cons_eq, Option.getD_some] at ht; exact (hb k off ht).elim
    · refine h.wfl t k off ?_
      simp only [S.get, lk_cons_ne hti] at ht ⊢
      exact ht

/-- A loop over a range, by its index; its body may be cut. -/
theorem vc_rangeV {γ : Type} {ρ : List (Nat × SV)} {σ : List (Nat × Loc)} {body : Code} {id id2 r1 r2 ti tn tc tj : Nat} {T T2 T3 T4 y1 y2 y3 : TypeId} {p1 p2 p3 : String} {e1 e2 e3 : Array Edge}
    (n : Nat) (pre : γ → List (Nat × SV)) (loc : γ → List (Nat × Loc)) (F : Nat → γ → World → Prop) (g0 : γ)
    (hle : (⟨(ti, .v (.int .i64 0)) :: (pre g0 ++ ρ), loc g0 ++ σ⟩ : S).le ⟨ρ, σ⟩) (hF : F 0 g0 u)
    (hn : ∀ g k, (lk ((ti, SV.v (.int .i64 k)) :: (pre g ++ ρ)) tn).getD .unk = .v (.int .i64 n)) (hmax : n ≤ 9223372036854775807) (hj : ∀ g, lk (pre g ++ ρ) tj = none)
    (hbody : ∀ k g u', k < n → F k g u' → Vc P u0 body (BlockK id2 (RangeK ti ρ σ pre loc F k id Q)) ⟨(tc, .v (.bool true)) :: (ti, .v (.int .i64 k)) :: (pre g ++ ρ), loc g ++ σ⟩ u')
    (hend : ∀ g u', F n g u' → Q .normal ⟨(tc, .v (.bool false)) :: (ti, .v (.int .i64 n)) :: (pre g ++ ρ), loc g ++ σ⟩ u') :
    vc P u0 (.block id (.loop (.seq (.region r1 [⟨some tc, .binOp .lss T (.tmp ti) (.tmp tn) T2, y1, p1, e1, none⟩].toArray false)
      (.seq (.cond (.tmp tc) .skip (.exit id)) (.seq (.block id2 body)
        (.region r2 [⟨some tj, .binOp .add T3 (.tmp ti) (.const (.int .i64 1)) T4, y2, p2, e2, none⟩, ⟨some ti, .move (.tmp tj), y3, p3, e3, none⟩].toArray false)))))) Q ⟨ρ, σ⟩ u := by
  skip
  refine block_of ?_
  refine ⟨Nat × γ, fun x => ⟨(ti, .v (.int .i64 x.1)) :: (pre x.2 ++ ρ), loc x.2 ++ σ⟩, fun x u => x.1 ≤ n ∧ F x.1 x.2 u, fun x => n - x.1, ⟨(0, g0), hle, Nat.zero_le _, hF⟩, ?_⟩
  rintro ⟨k, g⟩ u1 ⟨hk, hF1⟩
  simp only at hk hF1 ⊢
  refine Vc.seq (Vc.of ?_)
  rw [vc_region, vcOps_cons, vcG_none, op_bin, sv_tmp, sv_tmp, hn g k, lk_hit, Option.getD_some, BinK_v, bin_lss, PutK_eq, vcOps_nil, put_some, SeqV_normal]
  refine Vc.seq (Vc.of ?_)
  rw [vc_cond, sv_tmp, lk_hit, Option.getD_some]
  have hdec : decide ((k : Int) < (n : Int)) = decide (k < n) := by simp
  rw [hdec]
  by_cases hlt : k < n
  · rw [show decide (k < n) = true from by simpa using hlt, CondK_true, vc_skip, SeqV_normal]
    refine Vc.seq (Vc.block (Vc.mono ?_ (hbody k g u1 hlt hF1)))
    intro e s2 u2 h
    have key : ∀ s2 u2, RangeK ti ρ σ pre loc F k id Q .normal s2 u2 → SeqV P u0 (.region r2 [⟨some tj, .binOp .add T3 (.tmp ti) (.const (.int .i64 1)) T4, y2, p2, e2, none⟩, ⟨some ti, .move (.tmp tj), y3, p3, e3, none⟩].toArray false)
        (LoopK (fun x : Nat × γ => ⟨(ti, .v (.int .i64 x.1)) :: (pre x.2 ++ ρ), loc x.2 ++ σ⟩) (fun x u => x.1 ≤ n ∧ F x.1 x.2 u) (fun x => n - x.1) (k, g) (BlockK id Q)) .normal s2 u2 := by
      intro s2 u2 h
      obtain ⟨g', hle', hF'⟩ := h
      obtain ⟨ρ', σ'⟩ := s2
      have hti : (⟨ρ', σ'⟩ : S).get ti = .v (.int .i64 k) := by
        rcases hle'.get ti with h1 | h1
        · simp [S.get, lk_cons_eq] at h1
        · rw [h1]; simp [S.get, lk_cons_eq]
      have hti' : (lk ρ' ti).getD .unk = .v (.int .i64 k) := hti
      rw [SeqV_normal]
      refine Vc.of ?_
      rw [vc_region, vcOps_cons, vcG_none, op_bin, sv_tmp, sv_const, hti', BinK_v, bin_add, arith_i64 (by omega), PutK_eq, put_some, vcOps_cons, vcG_none, op_move, sv_tmp, lk_hit, Option.getD_some, put_some, vcOps_nil]
      refine ⟨(k + 1, g'), ?_, ⟨hlt, hF'⟩, by simp; omega⟩
      exact le_next (by intro k off h; cases h) (hj g') hle'
    cases e with
    | normal => exact key s2 u2 h
    | exit j =>
      simp only [BlockK] at h ⊢
      cases hb : (j == id2) <;> simp only [hb, cond_true, cond_false] at h ⊢
      · exact h
      · exact key s2 u2 h
    | ret => exact h
    | goto l => exact h
    | panic c => exact h
    | outgrown => exact h
  · have hkn : k = n := by omega
    subst hkn
    rw [show decide (k < k) = false from by simp, CondK_false, vc_exit]
    show BlockK id Q (.exit id) _ _
    rw [BlockK_exit, beq_self_eq_true, cond_true]
    exact hend g u1 hF1

theorem vc_range {γ : Type} {ρ : List (Nat × SV)} {σ : List (Nat × Loc)} {body : Code} {id id2 r1 r2 ti tn tc tj : Nat} {T T2 T3 T4 y1 y2 y3 : TypeId} {p1 p2 p3 : String} {e1 e2 e3 : Array Edge}
    (n : Nat) (pre : γ → List (Nat × SV)) (loc : γ → List (Nat × Loc)) (F : Nat → γ → World → Prop) (g0 : γ)
    (hle : (⟨(ti, .v (.int .i64 0)) :: (pre g0 ++ ρ), loc g0 ++ σ⟩ : S).le ⟨ρ, σ⟩) (hF : F 0 g0 u)
    (hn : ∀ g k, (lk ((ti, SV.v (.int .i64 k)) :: (pre g ++ ρ)) tn).getD .unk = .v (.int .i64 n)) (hmax : n ≤ 9223372036854775807) (hj : ∀ g, lk (pre g ++ ρ) tj = none)
    (hbody : ∀ k g u', k < n → F k g u' → vc P u0 body (BlockK id2 (RangeK ti ρ σ pre loc F k id Q)) ⟨(tc, .v (.bool true)) :: (ti, .v (.int .i64 k)) :: (pre g ++ ρ), loc g ++ σ⟩ u')
    (hend : ∀ g u', F n g u' → Q .normal ⟨(tc, .v (.bool false)) :: (ti, .v (.int .i64 n)) :: (pre g ++ ρ), loc g ++ σ⟩ u') :
    vc P u0 (.block id (.loop (.seq (.region r1 [⟨some tc, .binOp .lss T (.tmp ti) (.tmp tn) T2, y1, p1, e1, none⟩].toArray false)
      (.seq (.cond (.tmp tc) .skip (.exit id)) (.seq (.block id2 body)
        (.region r2 [⟨some tj, .binOp .add T3 (.tmp ti) (.const (.int .i64 1)) T4, y2, p2, e2, none⟩, ⟨some ti, .move (.tmp tj), y3, p3, e3, none⟩].toArray false)))))) Q ⟨ρ, σ⟩ u :=
  vc_rangeV n pre loc F g0 hle hF hn hmax hj (fun k g u h1 h2 => Vc.of (hbody k g u h1 h2)) hend

/-- A loop over a range, by its index; its body may be cut. -/
theorem vc_rangeCV {γ : Type} {ρ : List (Nat × SV)} {σ : List (Nat × Loc)} {body : Code} {id id2 r1 r2 ti tc tj : Nat} {T T2 T3 T4 y1 y2 y3 : TypeId} {p1 p2 p3 : String} {e1 e2 e3 : Array Edge}
    {nc : Int} (n : Nat) (hnc : nc = n) (pre : γ → List (Nat × SV)) (loc : γ → List (Nat × Loc)) (F : Nat → γ → World → Prop) (g0 : γ)
    (hle : (⟨(ti, .v (.int .i64 0)) :: (pre g0 ++ ρ), loc g0 ++ σ⟩ : S).le ⟨ρ, σ⟩) (hF : F 0 g0 u)
    (hmax : n ≤ 9223372036854775807) (hj : ∀ g, lk (pre g ++ ρ) tj = none)
    (hbody : ∀ k g u', k < n → F k g u' → Vc P u0 body (BlockK id2 (RangeK ti ρ σ pre loc F k id Q)) ⟨(tc, .v (.bool true)) :: (ti, .v (.int .i64 k)) :: (pre g ++ ρ), loc g ++ σ⟩ u')
    (hend : ∀ g u', F n g u' → Q .normal ⟨(tc, .v (.bool false)) :: (ti, .v (.int .i64 n)) :: (pre g ++ ρ), loc g ++ σ⟩ u') :
    vc P u0 (.block id (.loop (.seq (.region r1 [⟨some tc, .binOp .lss T (.tmp ti) (.const (.int .i64 nc)) T2, y1, p1, e1, none⟩].toArray false)
      (.seq (.cond (.tmp tc) .skip (.exit id)) (.seq (.block id2 body)
        (.region r2 [⟨some tj, .binOp .add T3 (.tmp ti) (.const (.int .i64 1)) T4, y2, p2, e2, none⟩, ⟨some ti, .move (.tmp tj), y3, p3, e3, none⟩].toArray false)))))) Q ⟨ρ, σ⟩ u := by
  subst hnc
  refine block_of ?_
  refine ⟨Nat × γ, fun x => ⟨(ti, .v (.int .i64 x.1)) :: (pre x.2 ++ ρ), loc x.2 ++ σ⟩, fun x u => x.1 ≤ n ∧ F x.1 x.2 u, fun x => n - x.1, ⟨(0, g0), hle, Nat.zero_le _, hF⟩, ?_⟩
  rintro ⟨k, g⟩ u1 ⟨hk, hF1⟩
  simp only at hk hF1 ⊢
  refine Vc.seq (Vc.of ?_)
  rw [vc_region, vcOps_cons, vcG_none, op_bin, sv_tmp, sv_const, lk_hit, Option.getD_some, BinK_v, bin_lss, PutK_eq, vcOps_nil, put_some, SeqV_normal]
  refine Vc.seq (Vc.of ?_)
  rw [vc_cond, sv_tmp, lk_hit, Option.getD_some]
  have hdec : decide ((k : Int) < (n : Int)) = decide (k < n) := by simp
  rw [hdec]
  by_cases hlt : k < n
  · rw [show decide (k < n) = true from by simpa using hlt, CondK_true, vc_skip, SeqV_normal]
    refine Vc.seq (Vc.block (Vc.mono ?_ (hbody k g u1 hlt hF1)))
    intro e s2 u2 h
    have key : ∀ s2 u2, RangeK ti ρ σ pre loc F k id Q .normal s2 u2 → SeqV P u0 (.region r2 [⟨some tj, .binOp .add T3 (.tmp ti) (.const (.int .i64 1)) T4, y2, p2, e2, none⟩, ⟨some ti, .move (.tmp tj), y3, p3, e3, none⟩].toArray false)
        (LoopK (fun x : Nat × γ => ⟨(ti, .v (.int .i64 x.1)) :: (pre x.2 ++ ρ), loc x.2 ++ σ⟩) (fun x u => x.1 ≤ n ∧ F x.1 x.2 u) (fun x => n - x.1) (k, g) (BlockK id Q)) .normal s2 u2 := by
      intro s2 u2 h
      obtain ⟨g', hle', hF'⟩ := h
      obtain ⟨ρ', σ'⟩ := s2
      have hti : (⟨ρ', σ'⟩ : S).get ti = .v (.int .i64 k) := by
        rcases hle'.get ti with h1 | h1
        · simp [S.get, lk_cons_eq] at h1
        · rw [h1]; simp [S.get, lk_cons_eq]
      have hti' : (lk ρ' ti).getD .unk = .v (.int .i64 k) := hti
      rw [SeqV_normal]
      refine Vc.of ?_
      rw [vc_region, vcOps_cons, vcG_none, op_bin, sv_tmp, sv_const, hti', BinK_v, bin_add, arith_i64 (by omega), PutK_eq, put_some, vcOps_cons, vcG_none, op_move, sv_tmp, lk_hit, Option.getD_some, put_some, vcOps_nil]
      refine ⟨(k + 1, g'), ?_, ⟨hlt, hF'⟩, by simp; omega⟩
      exact le_next (by intro k off h; cases h) (hj g') hle'
    cases e with
    | normal => exact key s2 u2 h
    | exit j =>
      simp only [BlockK] at h ⊢
      cases hb : (j == id2) <;> simp only [hb, cond_true, cond_false] at h ⊢
      · exact h
      · exact key s2 u2 h
    | ret => exact h
    | goto l => exact h
    | panic c => exact h
    | outgrown => exact h
  · have hkn : k = n := by omega
    subst hkn
    rw [show decide (k < k) = false from by simp, CondK_false, vc_exit]
    show BlockK id Q (.exit id) _ _
    rw [BlockK_exit, beq_self_eq_true, cond_true]
    exact hend g u1 hF1

theorem vc_rangeC {γ : Type} {ρ : List (Nat × SV)} {σ : List (Nat × Loc)} {body : Code} {id id2 r1 r2 ti tc tj : Nat} {T T2 T3 T4 y1 y2 y3 : TypeId} {p1 p2 p3 : String} {e1 e2 e3 : Array Edge}
    {nc : Int} (n : Nat) (hnc : nc = n) (pre : γ → List (Nat × SV)) (loc : γ → List (Nat × Loc)) (F : Nat → γ → World → Prop) (g0 : γ)
    (hle : (⟨(ti, .v (.int .i64 0)) :: (pre g0 ++ ρ), loc g0 ++ σ⟩ : S).le ⟨ρ, σ⟩) (hF : F 0 g0 u)
    (hmax : n ≤ 9223372036854775807) (hj : ∀ g, lk (pre g ++ ρ) tj = none)
    (hbody : ∀ k g u', k < n → F k g u' → vc P u0 body (BlockK id2 (RangeK ti ρ σ pre loc F k id Q)) ⟨(tc, .v (.bool true)) :: (ti, .v (.int .i64 k)) :: (pre g ++ ρ), loc g ++ σ⟩ u')
    (hend : ∀ g u', F n g u' → Q .normal ⟨(tc, .v (.bool false)) :: (ti, .v (.int .i64 n)) :: (pre g ++ ρ), loc g ++ σ⟩ u') :
    vc P u0 (.block id (.loop (.seq (.region r1 [⟨some tc, .binOp .lss T (.tmp ti) (.const (.int .i64 nc)) T2, y1, p1, e1, none⟩].toArray false)
      (.seq (.cond (.tmp tc) .skip (.exit id)) (.seq (.block id2 body)
        (.region r2 [⟨some tj, .binOp .add T3 (.tmp ti) (.const (.int .i64 1)) T4, y2, p2, e2, none⟩, ⟨some ti, .move (.tmp tj), y3, p3, e3, none⟩].toArray false)))))) Q ⟨ρ, σ⟩ u :=
  vc_rangeCV n hnc pre loc F g0 hle hF hmax hj (fun k g u h1 h2 => Vc.of (hbody k g u h1 h2)) hend

/-! ### Slices -/

/-- A slice value's cells: 'xs' are its elements, each of 'sz' cells. -/
structure Sl (u : World) (sz : Nat) (p : Option Addr) (n c : Nat) (xs : List (List Value)) : Prop where
  len : xs.length = n
  cap : n ≤ c
  each : ∀ x ∈ xs, x.length = sz
  nil : p = none → n = 0 ∧ c = 0
  at_ : ∀ a, p = some a → (0 < n → a.spot = none) ∧ ∀ i x, xs[i]? = some x → ∀ j v, x[j]? = some v → u.cell? ⟨a.block, a.off + i * sz + j, none⟩ = some v

theorem Sl.mono {u u' : World} {sz : Nat} {p : Option Addr} {n c : Nat} {xs : List (List Value)} (hs : Sub u u') (h : Sl u sz p n c xs) : Sl u' sz p n c xs :=
  ⟨h.len, h.cap, h.each, h.nil, fun a ha => ⟨(h.at_ a ha).1, fun i x hx j v hv => hs.cell ((h.at_ a ha).2 i x hx j v hv)⟩⟩

theorem Sl.none_ (u : World) (sz : Nat) : Sl u sz none 0 0 [] := ⟨rfl, Nat.le_refl _, by simp, fun _ => ⟨rfl, rfl⟩, fun a h => by cases h⟩

theorem Sl.some_ {u : World} {sz : Nat} {p : Option Addr} {n c : Nat} {xs : List (List Value)} (h : Sl u sz p n c xs) {i : Nat} (hi : i < n) : p.isSome = true := by
  cases p with
  | none => have := (h.nil rfl).1; omega
  | some a => rfl

theorem Sl.elt {u : World} {sz : Nat} {p : Option Addr} {n c : Nat} {xs : List (List Value)} (h : Sl u sz p n c xs) {i : Nat} {x : List Value} (hx : xs[i]? = some x) :
    EltAt u (.slice p n c) sz i x := by
  have hlt : i < xs.length := by rcases Nat.lt_or_ge i xs.length with h | h; exact h; simp [List.getElem?_eq_none h] at hx
  cases p with
  | none => have := (h.nil rfl).1; have := h.len; omega
  | some a =>
    obtain ⟨h1, h2⟩ := h.at_ a rfl
    have h1 := h1 (by have := h.len; omega)
    refine ⟨a, n, c, rfl, h.each x (List.mem_of_getElem? hx), fun j v hv => ?_⟩
    have h3 := h2 i x hx j v hv
    obtain ⟨b, o, sp⟩ := a
    cases h1
    rw [Addr.add_lit, Addr.add_lit]
    simpa using h3

/-- The load of an element's part. -/
theorem Sl.load {u : World} {sz : Nat} {p : Option Addr} {n c : Nat} {xs : List (List Value)} (h : Sl u sz p n c xs) {i : Nat} {x : List Value} (hx : xs[i]? = some x) {ag : Bool} {m off : Nat} {K : Value → Prop}
    (hm : m = 1 ∨ ag = true) (hl : off + m ≤ x.length) (hK : K (ld ag m off x)) : AtElt u (.slice p n c) sz i ag m off K := ⟨x, h.elt hx, hm, hl, hK⟩

theorem Sl.take {u : World} {sz : Nat} {p : Option Addr} {n c : Nat} {xs : List (List Value)} (h : Sl u sz p n c xs) {k : Nat} (hk : k ≤ n) : Sl u sz p k c (xs.take k) := by
  refine ⟨by have := h.len; simp; omega, Nat.le_trans hk h.cap, fun x hx => h.each x (List.mem_of_mem_take hx), fun hp => by have := h.nil hp; omega, fun a ha => ⟨fun h0 => (h.at_ a ha).1 (by omega), fun i x hx j v hv => ?_⟩⟩
  refine (h.at_ a ha).2 i x ?_ j v hv
  rw [List.getElem?_take] at hx
  split at hx
  · exact hx
  · cases hx

/-- The address behind a reslicing from 'l' on. -/
def cutP (p : Option Addr) (c l sz : Nat) : Option Addr := if c = l then p else p.map (·.add (l * sz))

theorem Sl.drop {u : World} {sz : Nat} {p : Option Addr} {n c : Nat} {xs : List (List Value)} (h : Sl u sz p n c xs) {l : Nat} (hl : l ≤ n) : Sl u sz (cutP p c l sz) (n - l) (c - l) (xs.drop l) := by
  have hlen := h.len
  have hcap := h.cap
  refine ⟨by simp; omega, by omega, fun x hx => h.each x (List.mem_of_mem_drop hx), fun hp => ?_, fun a ha => ?_⟩
  · cases p with
    | none => have := h.nil rfl; omega
    | some a => unfold cutP at hp; split at hp <;> simp at hp
  · by_cases hcl : c = l
    · have hx : xs.drop l = [] := by apply List.drop_eq_nil_of_le; omega
      rw [hx]
      simp only [cutP, hcl, if_true] at ha
      exact ⟨fun h0 => (h.at_ a ha).1 (by omega), fun i x hx => by simp at hx⟩
    · simp only [cutP, hcl, if_false] at ha
      cases p with
      | none => cases ha
      | some a0 =>
        simp at ha
        obtain ⟨h1, h2⟩ := h.at_ a0 rfl
        by_cases hn0 : n - l = 0
        · have hx : xs.drop l = [] := by apply List.drop_eq_nil_of_le; omega
          rw [hx]
          exact ⟨fun h0 => by omega, fun i x hx => by simp at hx⟩
        have h1 := h1 (by omega)
        obtain ⟨b, o, sp⟩ := a0
        cases h1
        rw [Addr.add_lit] at ha
        subst ha
        refine ⟨fun _ => rfl, fun i x hx j v hv => ?_⟩
        rw [List.getElem?_drop] at hx
        have := h2 (l + i) x hx j v hv
        simp only at this ⊢
        rw [← this]
        congr 2
        rw [Nat.add_mul]; omega

section
variable {Kv : Value → Prop} {T e : TypeId} {p : Option Addr} {n c : Nat} {k : IntKind} {i : Int}
theorem slice_to (hT : P.underlying T = some (.slice e)) {info : TypeInfo} (hi : P.info? e = some info) (h0 : 0 ≤ i) (h1 : i ≤ c) : AtPure P (iSlice T (.slice p n c) none (some (.int k i)) none) Kv = Kv (.slice p i.toNat c) :=
  atPure_of fun w => by
    simp only [iSlice, Instr.sliceAt, Instr.slice, Instr.sliceBounds, Instr.sliceBound, Sem.run_bind, run_underlying hT, Result.andThen_ok, Sem.run_pure, asIntOf, h0, h1, and_self, if_true, sizeOf, typeInfo, run_program, hi]
    congr 1
    cases p with
    | none => simp
    | some a => simp [Addr.add]

theorem slice_from (hT : P.underlying T = some (.slice e)) {info : TypeInfo} (hi : P.info? e = some info) (h0 : 0 ≤ i) (h1 : i ≤ n) :
    AtPure P (iSlice T (.slice p n c) (some (.int k i)) none none) Kv = Kv (.slice (cutP p c i.toNat info.size) (n - i.toNat) (c - i.toNat)) :=
  atPure_of fun w => by
    simp only [iSlice, Instr.sliceAt, Instr.slice, Instr.sliceBounds, Instr.sliceBound, Sem.run_bind, run_underlying hT, Result.andThen_ok, Sem.run_pure, asIntOf, h0, h1, and_self, if_true, sizeOf, typeInfo, run_program, hi, cutP]

end
end
end Go.Eng
