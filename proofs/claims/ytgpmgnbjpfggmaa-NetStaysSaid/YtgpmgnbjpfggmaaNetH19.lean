/-
  Part 19 of the proof of NetH: the engine and the walks, in their order.
-/
import Derived.Test.YtgpmgnbjpfggmaaNetH12
set_option linter.unusedSimpArgs false
set_option linter.unusedVariables false
/-
  Data level, part T: steps of a walk as theorems, whose small proofs Lean finds by itself.
-/
set_option linter.unusedSimpArgs false
set_option linter.unusedVariables false
namespace Go.Eng

/-- What is left to show. -/
structure Lft (q : Prop) : Prop where
  out : q
/-- On, as far as it goes. -/
theorem go_ {p q : Prop} (k : q) (e : Lft q → p := by intro k; (repeat (first | (simp -implicitDefEqProofs only [go_sem, vc2_blk]) | (with_reducible refine leK2_refl ?_) | (with_reducible refine ar_i64 (by omega) ?_) | (with_reducible refine And.intro (by omega) ?_))); exact k.out) : p := e ⟨k⟩
/-- .. with facts. -/
theorem gof {p q f : Prop} (hf : f) (k : q) (e : f → Lft q → p := by intro hf k; (repeat (first | (simp -implicitDefEqProofs only [go_sem, vc2_blk, hf]) | (with_reducible refine leK2_refl ?_) | (with_reducible refine ar_i64 (by omega) ?_) | (with_reducible refine And.intro (by omega) ?_))); exact k.out) : p := e hf ⟨k⟩

section
variable {P : Program} {x : Bool} {f : FuncId} {args fargs : List DV} {r : Res} {K : DV → DS → Prop} {ds : DS}
/-- A call by a contract, and on. -/
theorem cl {q : Prop} (hc : Con2 P f fargs (· = r)) (k : q) (he : embDs ds.H args = some fargs := by (simp -implicitDefEqProofs only [go_sem])) (hp : noPts args = true ∨ plainD r.d = true := by first | exact .inl rfl | exact .inr rfl)
    (e : Lft q → K (bif plainD r.d then r.d else shD ds.nx r.d) (aftC ds args r) := by intro k; (repeat (first | (simp -implicitDefEqProofs only [go_sem, vc2_blk]) | (with_reducible refine leK2_refl ?_) | (with_reducible refine ar_i64 (by omega) ?_) | (with_reducible refine And.intro (by omega) ?_))); exact k.out) : CallS P x f args ds K := CallS.eq hc he hp (e ⟨k⟩)
theorem clf {q g : Prop} (hg : g) (hc : Con2 P f fargs (· = r)) (k : q) (he : g → embDs ds.H args = some fargs := by intro hg; (simp -implicitDefEqProofs only [go_sem, hg])) (hp : noPts args = true ∨ plainD r.d = true := by first | exact .inl rfl | exact .inr rfl)
    (e : g → Lft q → K (bif plainD r.d then r.d else shD ds.nx r.d) (aftC ds args r) := by intro hg k; (repeat (first | (simp -implicitDefEqProofs only [go_sem, vc2_blk, hg]) | (with_reducible refine leK2_refl ?_) | (with_reducible refine ar_i64 (by omega) ?_) | (with_reducible refine And.intro (by omega) ?_))); exact k.out) : CallS P x f args ds K := CallS.eq hc (he hg) hp (e hg ⟨k⟩)
end

section
variable {P : Program} {Q : Exit → DS → Prop} {ds : DS} {a b : Code} {c : Bool}
/-- The way that is gone. -/
theorem cT {q : Prop} (k : q) (h : c = true := by first | rfl | exact decide_eq_true (by omega) | (simp; done) | (simp; omega)) (e : Lft q → vc2 P a Q ds := by intro k; (repeat (first | (simp -implicitDefEqProofs only [go_sem, vc2_blk]) | (with_reducible refine leK2_refl ?_) | (with_reducible refine ar_i64 (by omega) ?_) | (with_reducible refine And.intro (by omega) ?_))); exact k.out) : CondK2 P (.d (.v (.bool c))) a b Q ds := by
  subst h; rw [CondK2_true]; exact e ⟨k⟩
theorem cF {q : Prop} (k : q) (h : c = false := by first | rfl | exact decide_eq_false (by omega) | (simp; done) | (simp; omega)) (e : Lft q → vc2 P b Q ds := by intro k; (repeat (first | (simp -implicitDefEqProofs only [go_sem, vc2_blk]) | (with_reducible refine leK2_refl ?_) | (with_reducible refine ar_i64 (by omega) ?_) | (with_reducible refine And.intro (by omega) ?_))); exact k.out) : CondK2 P (.d (.v (.bool c))) a b Q ds := by
  subst h; rw [CondK2_false]; exact e ⟨k⟩
variable {x : Bool} {o : Oper} {K : DS → Prop} {w : Bool}
/-- What is guarded is done; is not done. -/
theorem gD {q : Prop} (k : q) (h : c = w := by first | rfl | exact decide_eq_true (by omega) | exact decide_eq_false (by omega) | (simp; done) | (simp; omega)) (e : Lft q → vcOp2 P x o K ds := by intro k; (repeat (first | (simp -implicitDefEqProofs only [go_sem, vc2_blk]) | (with_reducible refine leK2_refl ?_) | (with_reducible refine ar_i64 (by omega) ?_) | (with_reducible refine And.intro (by omega) ?_))); exact k.out) : GuardV2 P x o K ds w (.d (.v (.bool c))) := by
  subst h; exact ⟨fun _ => e ⟨k⟩, fun h => absurd h (by cases c <;> simp)⟩
theorem gN {q : Prop} (k : q) (h : c = !w := by first | rfl | exact decide_eq_true (by omega) | exact decide_eq_false (by omega) | (simp; done) | (simp; omega)) (e : Lft q → K (ds.put o.dst (.d undefD)) := by intro k; (repeat (first | (simp -implicitDefEqProofs only [go_sem, vc2_blk]) | (with_reducible refine leK2_refl ?_) | (with_reducible refine ar_i64 (by omega) ?_) | (with_reducible refine And.intro (by omega) ?_))); exact k.out) : GuardV2 P x o K ds w (.d (.v (.bool c))) := by
  subst h; exact ⟨fun h => absurd h (by cases w <;> simp), fun _ => e ⟨k⟩⟩
end

/-- A function is entered. -/
theorem ent_ {P : Program} {f : FuncId} {args : List DV} {Q : Res → Prop} {q : Prop} {fn : Func} {c : Code} (hm : P.follows .mixedOrders = true) (hf : P.funcs[f]? = some fn) (rs : List ResultVar) (k : q) (hb : fn.body = some c := by rfl) (hbody : hasBody P f = true := by kernel_rfl)
    (hfit : fits fn.ntmps c = true := by kernel_rfl) (hn : Nat.ble args.length fn.ntmps = true := by rfl) (hrs : fn.results.toList = rs := by rfl)
    (e : Lft q → vc2 P c (RetK2 P rs Q) ⟨initD 0 args, [], [], 0, 0⟩ := by intro k; (repeat (first | (simp -implicitDefEqProofs only [go_sem, vc2_blk]) | (with_reducible refine leK2_refl ?_) | (with_reducible refine ar_i64 (by omega) ?_) | (with_reducible refine And.intro (by omega) ?_))); exact k.out) : Con2 P f args Q :=
  con2_of hm hf hb hbody hfit hn rs hrs (e ⟨k⟩)
/-- .. walked in place. -/
theorem inl_ {P : Program} {f : FuncId} {args : List DV} {K : DV → DS → Prop} {ds : DS} {q : Prop} {fn : Func} {c : Code} (hm : P.follows .mixedOrders = true) (hf : P.funcs[f]? = some fn) (rs : List ResultVar) (k : q) (hb : fn.body = some c := by rfl) (hbody : hasBody P f = true := by kernel_rfl)
    (hfit : fits fn.ntmps c = true := by kernel_rfl) (hn : Nat.ble args.length fn.ntmps = true := by rfl) (hrs : fn.results.toList = rs := by rfl)
    (e : Lft q → vc2 P c (RetI P rs ds K) ⟨initD 0 args, [], ds.H, ds.nx, ds.nx⟩ := by intro k; (repeat (first | (simp -implicitDefEqProofs only [go_sem, vc2_blk]) | (with_reducible refine leK2_refl ?_) | (with_reducible refine ar_i64 (by omega) ?_) | (with_reducible refine And.intro (by omega) ?_))); exact k.out) : CallS P false f args ds K :=
  CallS.inline hm hf hb hbody hfit hn rs hrs (Vc2.of (e ⟨k⟩))
/-- Less may be said: what Lean sees by itself. -/
theorem l2 {ds1 ds : DS} (ι : List (Nat × Rn)) (h : ds1.nb = ds.nb ∧ ds1.nb ≤ ds1.nx ∧ wkKeys ds1.nb ds1.nx ι = true ∧ wkInj (rnOf ι ds1.nx) ds1.H = true ∧ wkR (rnOf ι ds1.nx) ds1 ds ds1.ρ ∧ wkL (rnOf ι ds1.nx) ds1 ds ds1.σ ∧ wkH (rnOf ι ds1.nx) ds1 ds ds1.H := by
    (simp -implicitDefEqProofs only [go_sem]; done)) : leD ds1 ds := le2_of ι h
/-- A region with several orders, whose ends are joined: 'pre' is what it makes. -/
theorem join_ {P : Program} {ops : Array Oper} {K : DS → Prop} {ds : DS} (t : OT) (pre : List (Nat × DSV)) {q : Prop} (hw : vcT2 P ops.toList (fun d => leD ⟨pre ++ ds.ρ, ds.σ, ds.H, ds.nx, ds.nb⟩ d) t ds) (k : q) (ht : okTreeF ops t = true := by kernel_rfl)
    (e : Lft q → K ⟨pre ++ ds.ρ, ds.σ, ds.H, ds.nx, ds.nb⟩ := by intro k; (repeat (first | (simp -implicitDefEqProofs only [go_sem, vc2_blk, List.cons_append, List.nil_append]) | (with_reducible refine leK2_refl ?_) | (with_reducible refine ar_i64 (by omega) ?_) | (with_reducible refine And.intro (by omega) ?_))); exact k.out) : AtDraw2 P ops K ds :=
  .inr (.inl ⟨t, ht, vcT2_mono (fun d hd => .inr ⟨_, hd, e ⟨k⟩⟩) t ds hw⟩)

/-- The end. -/
theorem fin_ {Q : Res → Prop} {r : Res} {ds : DS} (ι : List (Nat × Rn)) (hQ : Q r) (h : leD (resS r.d r.H r.nx) ds) : ∃ r, Q r ∧ leD (resS r.d r.H r.nx) ds := ⟨r, hQ, h⟩
end Go.Eng
