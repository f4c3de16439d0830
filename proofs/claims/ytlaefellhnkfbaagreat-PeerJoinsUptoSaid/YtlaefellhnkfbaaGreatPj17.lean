/-
 Part 17 of the proof of Pj: the engine and the walks, in their order.
-/
import Derived.Test.YtlaefellhnkfbaaGreatPj15
set_option linter.unusedSimpArgs false
set_option linter.unusedVariables false
namespace Go.Eng
def alD (P : Program) (f : FuncId) (e sz : Nat) : Prop := ∀ (xs : List (List Value)) (p : Option Addr) (n c i : Nat) (u0 u : World), Own u0 u e sz p n c xs → aW xs → i < n → n ≤ 5000000 → ∀ K : Value → World → Prop,
 (∀ u', Own u0 u' e sz p (n - 1) c (xs.take i ++ xs.drop (i + 1)) → SubX p u u' → K (.slice p (n - 1) c) u') → AtCall false P f [.slice p n c, .int .i64 i, .int .i64 ((i : Int) + 1)] u0 u K
theorem CallS.del {P : Program} {f : FuncId} {e sz : Nat} (hc : alD P f e sz) {ds : DS} {K : DV → DS → Prop} {id i len : Nat} {l : List (List DV)} (hlk : lk ds.H id = some (.arr e sz l false)) (hlen : len = l.length) (hi : i < l.length) (hn : l.length ≤ 5000000)
  (hK : K (.rf id 0 (l.length - 1)) ⟨ds.ρ, ds.σ, setH id (.arr e sz (l.eraseIdx i) false) ds.H, ds.nx, ds.nb⟩) : CallS P false f [.rf id 0 len, .v (.int .i64 i), .v (.int .i64 ((i : Int) + 1))] ds K := by
 subst hlen
 rintro u0 β0 β us s u vs h ⟨w1, V1, rfl, ⟨p, c, sz', q, hb, rfl, hle, hq, hsm⟩, w2, V2, rfl, ⟨rfl, _⟩, w3, V3, rfl, ⟨rfl, _⟩, rfl⟩
 obtain ⟨p', c', g1, g2, g3⟩ := (h.row id _ hlk).2
 rw [hb] at g1
 cases g1
 rcases g3 with ⟨rfl, rfl⟩ | ⟨h0, V, h4, h5, h6, h7⟩
 ·simp at hi
 have hq' : q = p := by rw [hq (by omega), nK]
 subst hq'
 have hVl := h7.length
 refine hc V q l.length c i u0 u h4 h6 hi hn _ (fun u' ho hx => ?_)
 have hn := h.set (r := .arr e sz (l.eraseIdx i) false) hlk hx (fun a ha => by rw [hb, aC h0, ha]; rfl)
  ⟨q, c, hb, by rw [List.length_eraseIdx_of_lt hi]; omega, .inr ⟨h0, V.take i ++ V.drop (i + 1), by rw [List.length_eraseIdx_of_lt hi]; exact ho, h5, fun y hy => ?_, ?_⟩⟩ (by rw [hb, aC h0, aC h0])
 ·exact ⟨β, us, _, .rf id 0 (l.length - 1), hn, ⟨q, c, sz, q, hb, by rw [Nat.sub_zero], by omega, hq, hsm⟩, hK⟩
 ·rcases List.mem_append.1 hy with hy | hy
  ·exact h6 y (List.mem_of_mem_take hy)
  ·exact h6 y (List.mem_of_mem_drop hy)
 ·rw [List.eraseIdx_eq_take_drop_succ]
  exact (h7.take i).append (h7.drop (i + 1))
def alM (P : Program) (f : FuncId) (e sz bytes : Nat) : Prop := ∀ (xs : List (List Value)) (x : List Value) (i n c c2 : Nat) (p q : Option Addr) (u0 u : World), Own u0 u e sz p n c xs → i ≤ n → Own u0 u e sz q 1 c2 [x] → bn x = true → aW xs → NEP p q → (n + 1) * bytes ≤ 140737488355328 →
 ∀ K : Value → World → Prop, (∀ p' c' u', Own u0 u' e sz p' (n + 1) c' (xs.take i ++ [x] ++ xs.drop i) → SubX p u u' → (p' = p ∨ bU u p') → K (.slice p' (n + 1) c') u') → AtCall false P f [.slice p n c, .int .i64 i, .slice q 1 c2] u0 u K
def ajD (P : Program) (f : FuncId) (e sz : Nat) : Prop := ∀ (x : List Value) (c2 : Nat) (p q : Option Addr) (u0 u : World), Own u0 u e sz q 1 c2 [x] → bn x = true →
 ∀ K : Value → World → Prop, (∀ p' c' u', Own u0 u' e sz p' 1 c' [x] → Sub u u' → bU u p' → K (.slice p' 1 c') u') → AtCall false P f [.slice p 0 0, .int .i64 0, .slice q 1 c2] u0 u K
theorem CallS.ins {P : Program} {f : FuncId} {e sz bytes : Nat} (hc : alM P f e sz bytes) (hc0 : ajD P f e sz) {ds : DS} {K : DV → DS → Prop} {id id2 i len : Nat} {l : List (List DV)} {x : List DV} (hlk : lk ds.H id = some (.arr e sz l false)) (hlk2 : lk ds.H id2 = some (.arr e sz [x] false)) (hne : id ≠ id2)
  (hlen : len = l.length) (hi : i ≤ l.length) (hn : (l.length + 1) * bytes ≤ 140737488355328)
  (hK : K (.rf ds.nx 0 (l.length + 1)) ⟨ds.ρ, ds.σ, (ds.nx, .arr e sz (l.take i ++ [x] ++ l.drop i) false) :: dropH id ds.H, ds.nx + 1, ds.nb⟩) : CallS P false f [.rf id 0 len, .v (.int .i64 i), .rf id2 0 1] ds K := by
 subst hlen
 rintro u0 β0 β us s u vs h ⟨w1, V1, rfl, ⟨p, c, sz', q, hb, rfl, hle, hq, hsm⟩, w2, V2, rfl, ⟨rfl, _⟩, w3, V3, rfl, ⟨p2, c2, sz2, q2, hb2, rfl, hle2, hq2, hsm2⟩, rfl⟩
 obtain ⟨p', c', g1, g2, g3⟩ := (h.row id _ hlk).2
 rw [hb] at g1
 cases g1
 obtain ⟨p2', c2', k1, k2, k3⟩ := (h.row id2 _ hlk2).2
 rw [hb2] at k1
 cases k1
 rcases k3 with ⟨_, hh⟩ | ⟨h02, V2, h42, h52, h62, h72⟩
 ·cases hh
 have hq2' : q2 = p2 := by rw [hq2 h02, nK]
 subst hq2'
 obtain ⟨vx, rfl⟩ : ∃ vx, V2 = [vx] := by
  have := h72.length
  match V2, this with
  | [a], _ => exact ⟨a, rfl⟩
 have hvx : HVss us [x] [vx] := h72
 have hvx1 := h62 vx (List.mem_singleton.2 rfl)
 have hll : (l.take i ++ [x] ++ l.drop i).length = l.length + 1 := by simp; omega
 rcases g3 with ⟨rfl, rfl⟩ | ⟨h0, V, h4, h5, h6, h7⟩
 ·have hi0 : i = 0 := by simpa using hi
  subst hi0
  refine hc0 vx (c2 - 0) q q2 u0 u (by simpa using h42) hvx1 _ (fun p3 c3 u' ho hx hf => ?_)
  obtain ⟨β', k1, k2⟩ := (h.drop id).newOwn (l := [x]) hx ho hf rfl (fun y hy => by simp at hy; subst hy; exact hvx1) hvx
  exact ⟨β', us, _, .rf ds.nx 0 1, k1, k2, hK⟩
 ·have hq' : q = p := by rw [hq h0, nK]
  subst hq'
  have hVl := h7.length
  have hnep : NEP q q2 := fun a b ha hb' e => by
   subst ha; subst hb'
   refine h.dist id id2 _ _ a.block hne hlk hlk2 (by rw [hb, aC h0]; rfl) (by rw [hb2, aC h02, e]; rfl)
  refine hc V vx i l.length (c - 0) (c2 - 0) q q2 u0 u (by simpa using h4) hi (by simpa using h42) hvx1 h6 hnep hn _ (fun p' c' u' ho hs hf => ?_)
  have hcap' := ho.sl.cap
  have hsub : Sub us u' := hs.sub h.sub h5
  have hok : RowOk u0 u' us (upd β ds.nx (.arr p' c' sz)) (.arr p' c' sz) (.arr e sz (l.take i ++ [x] ++ l.drop i) false) := by
   refine ⟨p', c', rfl, by rw [hll]; exact hcap', .inr ⟨by omega, V.take i ++ [vx] ++ V.drop i, by rw [hll]; exact ho, fun a0 h00 => ?_, fun y hy => ?_, ((h7.take i).append hvx).append (h7.drop i)⟩⟩
   ·rcases hf with rfl | hf
    ·exact h5 a0 h00
    ·exact Fresh.anti h.sub (hf a0 h00)
   ·simp only [List.append_assoc, List.mem_append, List.mem_singleton] at hy
    rcases hy with hy | rfl | hy
    ·exact h6 y (List.mem_of_mem_take hy)
    ·exact hvx1
    ·exact h6 y (List.mem_of_mem_drop hy)
  have ht := h.turn hlk hs (fun a ha => by rw [hb, aC h0, ha]; rfl) (.arr p' c' sz) _ hok (fun b hb' => by
   rw [aC (by omega)] at hb'
   obtain ⟨a0, h00, rfl⟩ := Option.map_eq_some_iff.1 hb'
   rcases hf with rfl | hf
   ·exact .inl (by rw [hb, aC h0, h00]; rfl)
   ·exact .inr (hf a0 h00))
  refine ⟨_, us, _, .rf ds.nx 0 (l.length + 1), ht, ⟨p', c', sz, p', dX _ _ _, rfl, by omega, fun _ => (nK p' sz).symm, fun hc => ?_⟩, hK⟩
  obtain ⟨g, cur, rfl, _⟩ := ho.none_iff hc
  rfl
end Go.Eng

namespace Go.Eng
theorem Con2.le {P : Program} {f : FuncId} {args : List DV} {r r' : Res} (h : Con2 P f args (· = r)) (hle : leD (resS r'.d r'.H r'.nx) (resS r.d r.H r.nx)) : Con2 P f args (· = r') := by
 intro u vs hv
 obtain ⟨hb, hc⟩ := h u vs hv
 refine ⟨hb, fun w hu => (hc w hu).mono ?_⟩
 rintro e' w' ⟨rv, u', h1, h2, h3, r2, rfl, β, us, s, hr, hs⟩
 obtain ⟨β1, s1, g1, g2⟩ := hle _ _ _ _ _ _ hr
 have h3' := g2.slot 0
 obtain ⟨w0, e0, _⟩ : ∃ w, s1.get 0 = .v w ∧ HV us r'.d β1 w := h3'
 refine ⟨rv, u', h1, h2, h3, _, rfl, β1, us, s1, g2, ?_⟩
 rcases g1.get 0 with h4 | h4
 ·rw [e0] at h4; cases h4
 ·rw [← h4]; exact hs
end Go.Eng

namespace Go.Eng
section
variable {P : Program} {T : TypeId} {y z : Operand} {Kv : Value → Prop} {k : IntKind}
theorem ahz {a b : Int} : AtPure P (bq .and T y z (.int k a) (.int k b)) Kv = Kv (.int k (k.wrap (BitVec.ofInt k.bits a &&& BitVec.ofInt k.bits b).toNat)) := aF fun w => by simp [bq, eqGuard, binOp, Op.intBits]
theorem ahZ {a b : Int} : AtPure P (bq .xor T y z (.int k a) (.int k b)) Kv = Kv (.int k (k.wrap (BitVec.ofInt k.bits a ^^^ BitVec.ofInt k.bits b).toNat)) := aF fun w => by simp [bq, eqGuard, binOp, Op.intBits]
end
def CoI (k : Option IntKind) (P : Program) (src dst : TypeId) (v : Value) (a : Int) (Kv : Value → Prop) (ks : Option IntKind) : Prop :=
 match ks, k with
 | some _, some k => aY k a Kv
 | _, _ => AtPure P (dx src dst v) Kv
theorem aj2 {P : Program} {src dst : TypeId} {k : IntKind} {a : Int} {Kv : Value → Prop} : AtPure P (dx src dst (.int k a)) Kv = CoI (lV P dst) P src dst (.int k a) a Kv (lV P src) := by
 unfold CoI
 split
 ·rename_i k1 k' hs hd
  exact aF fun w => by simp [dx, convert, run_underlying (mT hs), run_underlying (mT hd), Conv.intToInt]
 ·rfl
theorem agC {P : Program} {src dst : TypeId} {v : Value} {a : Int} {k' k2 : IntKind} {Kv : Value → Prop} : CoI (some k') P src dst v a Kv (some k2) = aY k' a Kv := rfl
attribute [go_sem] aj2 agC
def eqR (ds1 ds : DS) : List (Nat × DSV) → Prop
 | [] => True
 | (t, _) :: l => (ds1.get t = .unk ∨ ds.get t = ds1.get t) ∧ eqR ds1 ds l
theorem aae {ds1 ds : DS} : ∀ {l : List (Nat × DSV)}, eqR ds1 ds l → ∀ p ∈ l, ds1.get p.1 = .unk ∨ ds.get p.1 = ds1.get p.1
 | [], _, p, hp => by cases hp
 | (t, x) :: l, h, p, hp => by
  rcases List.mem_cons.1 hp with rfl | hp
  ·exact h.1
  ·exact aae h.2 p hp
theorem ajK {ds1 ds : DS} (h1 : eqR ds1 ds ds1.ρ) (h2 : ds1.σ = ds.σ) (h3 : ds1.H = ds.H) (h4 : ds1.nx = ds.nx) (h5 : ds1.nb = ds.nb) : leD ds1 ds :=
 kO (fun t => by
  cases hl : lk ds1.ρ t with
  | none => exact .inl (by unfold DS.get; rw [hl]; rfl)
  | some x => exact aae h1 (t, x) (cH hl)) h2 h3 h4 h5
theorem ag8 {ds1 ds : DS} : eqR ds1 ds [] = True := rfl
theorem aer {ds1 ds : DS} {t : Nat} {x : DSV} {l : List (Nat × DSV)} : eqR ds1 ds ((t, x) :: l) = ((ds1.get t = .unk ∨ ds.get t = ds1.get t) ∧ eqR ds1 ds l) := rfl
attribute [go_sem] ag8 aer
theorem Con2.args {P : Program} {f : FuncId} {fargs args : List DV} {Q : Res → Prop} (h : Con2 P f fargs Q) (hw : wkDs (fun _ => none) fargs args) : Con2 P f args Q := fun u vs hv => by
 have := dd (us := u) (β := noB) fargs args vs hw hv
 exact h u vs this
def wkO (fargs : List DV) : Option (List DV) → Prop
 | some a => wkDs (fun _ => none) fargs a
 | none => False
theorem afa {fargs a : List DV} : wkO fargs (some a) = wkDs (fun _ => none) fargs a := rfl
attribute [go_sem] afa
theorem CallS.eqW {P : Program} {x : Bool} {f : FuncId} {args fargs : List DV} {r : Res} {K : DV → DS → Prop} {ds : DS} (hc : Con2 P f fargs (· = r)) (he : wkO fargs (embDs ds.H args))
  (hp : noPts args = true ∨ plainD r.d = true) (hk : K (bif plainD r.d then r.d else shD ds.nx r.d) (aftC ds args r)) : CallS P x f args ds K := by
 cases ha : embDs ds.H args with
 | none => rw [ha] at he; exact he.elim
 | some a => rw [ha] at he; exact CallS.eq (hc.args he) ha hp hk
theorem cw_ {P : Program} {x : Bool} {f : FuncId} {args fargs : List DV} {r : Res} {K : DV → DS → Prop} {ds : DS} (hc : Con2 P f fargs (· = r)) (hk : K (bif plainD r.d then r.d else shD ds.nx r.d) (aftC ds args r)) (he : wkO fargs (embDs ds.H args) := by simp -implicitDefEqProofs only [go_sem, aa])
  (hp : noPts args = true := by simp -implicitDefEqProofs only [go_sem, aa]) : CallS P x f args ds K := CallS.eqW hc he (.inl hp) hk
theorem Con2.emb {P : Program} {f : FuncId} {args : List DV} {d d' : DV} {H : List (Nat × Row)} {nx : Nat} (h : Con2 P f args (· = ⟨d, H, nx⟩)) (he : embD H d = some d') (hp : noPt d = true) : Con2 P f args (· = plR d') := by
 intro u vs hv
 obtain ⟨hb, hc⟩ := h u vs hv
 refine ⟨hb, fun w hu => (hc w hu).mono ?_⟩
 rintro e' w' ⟨r, u', h1, h2, h3, r2, rfl, β, us, s, hr, hs⟩
 obtain ⟨us', g1, g2, g3⟩ := hr.ros (idsD H d)
 have h0 := hr.slot 0
 rw [hs] at h0
 obtain ⟨w0, e0, hd⟩ : ∃ w, SV.v r = .v w ∧ HV us d β w := h0
 cases e0
 have h4 := fm (H := H) g1 d d' r g3 (.inl hp) hd he
 refine ⟨r, u', h1, h2, h3, _, rfl, noB, us', ⟨[(0, .v r)], []⟩, ⟨⟨hr.base.1.trans g1, hr.base.2.trans g1⟩, g2.sub, fun t => ?_, fun k => rfl, (fun id r hr => by cases hr), fun id _ => rfl, fun id hi => rfl, Nat.le_refl _, (fun i j ri rj b _ hi => by cases hi)⟩, rfl⟩
 show HS us' noB ((lk [(0, DSV.d d')] t).getD DSV.unk) ((lk [(0, SV.v r)] t).getD SV.unk)
 by_cases e : 0 = t
 ·subst e; exact ⟨r, rfl, h4⟩
 ·rw [aj e]; trivial
end Go.Eng

namespace Go.Eng
structure Lft (q : Prop) : Prop where
 out : q
section
variable {P : Program} {x : Bool} {f : FuncId} {args fargs : List DV} {r : Res} {K : DV → DS → Prop} {ds : DS}
end
section
variable {P : Program} {Q : Exit → DS → Prop} {ds : DS} {a b : Code} {c : Bool}
variable {x : Bool} {o : Oper} {K : DS → Prop} {w : Bool}
end
theorem l2 {ds1 ds : DS} (ι : List (Nat × Rn)) (h : ds1.nb = ds.nb ∧ ds1.nb ≤ ds1.nx ∧ wkKeys ds1.nb ds1.nx ι = true ∧ wkInj (rnOf ι ds1.nx) ds1.H = true ∧ wkR (rnOf ι ds1.nx) ds1 ds ds1.ρ ∧ wkL (rnOf ι ds1.nx) ds1 ds ds1.σ ∧ wkH (rnOf ι ds1.nx) ds1 ds ds1.H := by
  (simp -implicitDefEqProofs only [go_sem]; done)) : leD ds1 ds := ab ι h
def agc (st : DS) (Q : Exit → DS → Prop) (e : Exit) (ds : DS) : Prop :=
 match e with
 | .normal => leD st ds
 | e => Q e ds
theorem sT {st ds : DS} {Q : Exit → DS → Prop} : agc st Q .normal ds = leD st ds := rfl
theorem ac3 {st ds : DS} {Q : Exit → DS → Prop} : agc st Q .ret ds = Q .ret ds := rfl
theorem xM {st ds : DS} {Q : Exit → DS → Prop} {j : Nat} : agc st Q (.exit j) ds = Q (.exit j) ds := rfl
attribute [go_sem] sT ac3 xM
end Go.Eng
