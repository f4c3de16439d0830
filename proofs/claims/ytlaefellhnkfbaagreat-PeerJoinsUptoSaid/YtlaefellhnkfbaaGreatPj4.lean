/-
 Part 4 of the proof of Pj: the engine and the walks, in their order.
-/
import Derived.Test.YtlaefellhnkfbaaGreatPj3
import Derived.RangeFuncLeaves
set_option linter.unusedSimpArgs false
set_option linter.unusedVariables false
namespace Go.Eng
def ix : List Oper → Nat → Option Nat
 | [], _ => none
 | o :: _, 0 => o.dst
 | _ :: r, j + 1 => ix r j
def bg : List Oper → Nat → Option Oper
 | [], _ => none
 | o :: _, 0 => some o
 | _ :: r, j + 1 => bg r j
def vcG (P : Program) (x : Bool) (u0 : World) (all : List Oper) (o : Oper) (K : S → World → Prop) (s : S) (u : World) : Prop :=
 match o.guard with
 | none => bA P x u0 o K s u
 | some (j, want) =>
  match ix all j with
  | some d =>
   match s.get d with
   | .v (.bool c) => (c = want → bA P x u0 o K s u) ∧ (c = !want → K (s.put o.dst (.v undef)) u)
   | .v (.tuple _) => K (s.put o.dst (.v undef)) u
   | _ => False
  | none => False
def kr (P : Program) (u0 : World) (all : List Oper) (K : S → World → Prop) : List Oper → S → World → Prop
 | [], s, u => K s u
 | o :: r, s, u => vcG P false u0 all o (kr P u0 all K r) s u
def iv (P : Program) (u0 : World) (all : List Oper) (K : S → World → Prop) : List (Nat × Bool) → S → World → Prop
 | [], s, u => K s u
 | (i, x) :: r, s, u =>
  match bg all i with
  | some o => vcG P x u0 all o (iv P u0 all K r) s u
  | none => False
def aal : Op → Bool
 | .store .. => true
 | _ => false
def lW (ops : Array Oper) (A : List (List Nat)) : List Nat → List (Nat × Bool) → Bool
 | _, [] => true
 | acc, (i, x) :: r =>
  match ops[i]? with
  | some o =>
   if az o.op then lW ops A (if dK o.op then acc else i :: acc) r
   else ((x && !aal o.op) || (!x && acc.all fun y => (A.getD i []).contains y)) && lW ops A acc r
  | none => false
def x0 (ops : Array Oper) (ord : List (Nat × Bool)) : Bool := sk ops (ord.map (·.1)) && lW ops (ph ops.toList []) [] ord
def LeK (K : S → World → Prop) (s : S) (u : World) : Prop := K s u ∨ ∃ s1 : S, s1.le s ∧ K s1 u
def vcT (P : Program) (u0 : World) (all : List Oper) (K : S → World → Prop) : OT → S → World → Prop
 | .done, s, u => K s u
 | .no, _, _ => True
 | .fl i t, s, u =>
  match bg all i with
  | some o => vcG P false u0 all o (vcT P u0 all K t) s u
  | none => False
 | .eff i x t alt, s, u =>
  (match bg all i with
  | some o => vcG P x u0 all o (vcT P u0 all K t) s u
  | none => False) ∧ vcT P u0 all K alt s u
def gq (ops : Array Oper) (A : List (List Nat)) : List Nat → OT → Bool
 | _, .done => true
 | _, .no => true
 | acc, .fl i t =>
  match ops[i]? with
  | some o => az o.op && gq ops A (if dK o.op then acc else i :: acc) t
  | none => false
 | acc, .eff i x t alt =>
  match ops[i]? with
  | some o => (az o.op || ((x && !aal o.op) || (!x && acc.all fun y => (A.getD i []).contains y))) && gq ops A acc t && gq ops A acc alt
  | none => false
def sY (ops : Array Oper) (t : OT) : Bool := x8 ops t && gq ops (ph ops.toList []) [] t
def eY (P : Program) (u0 : World) (all : List Oper) (ks : List Nat) (K : S → World → Prop) : List (Nat × Bool) → S → World → Prop
 | [], s, u => K s u
 | (i, x) :: r, s, u =>
  match bg all i with
  | some o => yT ks o s ∧ (x = true → abu ks o s) ∧ vcG P x u0 all o (fun s' u' => keepL s s' (jB o) ks ∧ eY P u0 all ks K r s' u') s u
  | none => False
def jv (ops : Array Oper) (A : List (List Nat)) : List Nat → List (Nat × Bool) → Bool
 | _, [] => true
 | acc, (i, x) :: r =>
  match ops[i]? with
  | some o =>
   if az o.op then jv ops A (if dK o.op then acc else i :: acc) r
   else (x || acc.all fun y => (A.getD i []).contains y) && jv ops A acc r
  | none => false
def sm (ops : Array Oper) (ord : List (Nat × Bool)) : Bool := sk ops (ord.map (·.1)) && jv ops (ph ops.toList []) [] ord
def amx (kl : List Nat) (o : Oper) (s : S) : Prop :=
 match o.op with
 | .load _ y => (match s.sv y with
  | .loc k _ => fD kl k = true
  | _ => False)
 | _ => False
def afs (s s' : S) : List Nat → Prop
 | [] => True
 | k :: r => s'.find k = s.find k ∧ afs s s' r
def zD (P : Program) (u0 : World) (ops : Array Oper) (K : S → World → Prop) (s : S) (u : World) : Prop :=
 (∃ ord, x0 ops ord = true ∧ iv P u0 ops.toList K ord s u) ∨ (∃ t, sY ops t = true ∧ vcT P u0 ops.toList (LeK K) t s u) ∨ (∃ ord ks, sm ops ord = true ∧ eY P u0 ops.toList ks K ord s u) ∨ False
theorem adO : ∀ (l : List Oper) (j : Nat), ix l j = (l[j]?).bind (·.dst) := by
 intro l
 induction l with
 | nil => intro j; rfl
 | cons o r ih => intro j; cases j with
  | zero => rfl
  | succ j => simpa [ix] using ih j
theorem jM : ∀ (l : List Oper) (j : Nat), bg l j = l[j]? := by
 intro l
 induction l with
 | nil => intro j; rfl
 | cons o r ih => intro j; cases j with
  | zero => rfl
  | succ j => simpa [bg] using ih j
section
variable {P : Program} {C : Ctx} {s : S} {u : World} {a : Act} {w : World} {K : S → World → Prop}
theorem abR (hs : Sim C s u a w) {d : Nat} {c : Bool} (h : s.get d = .v (.bool c)) : a.tmps[d]? = some (.bool c) := by
 have h1 := hs.slots d (.bool c) (by rw [h]; rfl)
 cases hx : a.tmps[d]? with
 | none => simp [hx, undef] at h1
 | some v => simp [hx] at h1; rw [h1]
theorem yz (hs : Sim C s u a w) {d : Nat} {vs : Array Value} (h : s.get d = .v (.tuple vs)) : ∀ c, a.tmps[d]? ≠ some (.bool c) := by
 have h1 := hs.slots d (.tuple vs) (by rw [h]; rfl)
 intro c hx
 simp [hx] at h1
theorem fq {x : Bool} {ops : Array Oper} {o : Oper} (hs : Sim C s u a w) (h : vcG P x C.u0 ops.toList o K s u) :
  (Region.wanted o (yielded ops a.tmps) = true ∧ bA P x C.u0 o K s u) ∨ (Region.wanted o (yielded ops a.tmps) = false ∧ K (s.put o.dst (.v undef)) u) := by
 unfold vcG at h
 split at h
 ·rename_i hg; exact .inl ⟨by simp [Region.wanted, hg], h⟩
 ·rename_i j want hg
  split at h
  ·rename_i d hd
   rw [adO] at hd
   have hd' : (ops[j]?).bind (·.dst) = some d := by simpa using hd
   split at h
   ·rename_i c hc
    have hy : yielded ops a.tmps j = some c := by simp [yielded, hd', abR hs hc]
    by_cases hcw : c = want
    ·exact .inl ⟨by simp [Region.wanted, hg, hy, hcw], h.1 hcw⟩
    ·refine .inr ⟨by simp [Region.wanted, hg, hy, hcw], h.2 ?_⟩
     cases c <;> cases want <;> simp_all
   ·rename_i vs hc
    have hy : yielded ops a.tmps j = none := by
     unfold yielded
     rw [hd']
     simp only [Option.bind_some]
     split
     ·rename_i b hb; exact (yz hs hc b hb).elim
     ·rfl
    exact .inr ⟨by simp [Region.wanted, hg, hy], h⟩
   ·exact h.elim
  ·exact h.elim
def LiftN (C : Ctx) (K : S → World → Prop) (a : Act) (w : World) : Prop := ∃ s u, Sim C s u a w ∧ K s u
theorem LiftN.of_le (h : LiftN C (LeK K) a w) : LiftN C K a w := by
 obtain ⟨s, u, hs, h⟩ := h
 rcases h with h | ⟨s1, hle, h⟩
 ·exact ⟨s, u, hs, h⟩
 ·exact ⟨s1, u, hs.le_of hle, h⟩
def gU (n : Nat) (l : List Oper) : Bool := l.all fun o => cT n o.dst
theorem vn {ops : Array Oper} {Q : Exit → Act → World → Prop} (hQ : ∀ a w, LiftN C K a w → Q .normal a w) : ∀ (l : List Oper) (s : S) (u : World) (a : Act) (w : World),
  gU C.n l = true → kr P C.u0 ops.toList K l s u → Sim C s u a w → fy P ops Q l a w := by
 intro l
 induction l with
 | nil => intro s u a w _ h hs; exact hQ a w ⟨s, u, hs, h⟩
 | cons o r ih =>
  intro s u a w hf h hs
  simp only [gU, List.all_cons, Bool.and_eq_true] at hf
  rcases fq hs h with ⟨hw, h⟩ | ⟨hw, h⟩
  ·unfold fy
   rw [if_pos hw]
   cases hfl : az o.op with
   | true =>
    obtain ⟨v, s', u', hK, hs', _, hr⟩ := jr hfl hs hf.1 h
    refine .inl ?_
    simp only [Oper.wp, hr w (Ext.refl w), Oper.upon]
    exact ih s' u' _ w hf.2 hK hs'
   | false =>
    refine eH ?_ (jq hfl (fun h => by cases h) hs hf.1 h Q)
    rintro a' w' ⟨_, s', u', hs', hK⟩
    exact ih s' u' a' w' hf.2 hK hs'
  ·refine tJ hw (ih _ _ _ _ hf.2 h (hs.put_v hf.1))
theorem iF {n : Nat} {ops : Array Oper} (h : gU n ops.toList = true) {i : Nat} {o : Oper} (hi : ops[i]? = some o) : cT n o.dst = true := by
 simp only [gU, List.all_eq_true] at h
 exact h o (by simpa using Array.mem_of_getElem? hi)
theorem uw {ops : Array Oper} {Q : Exit → Act → World → Prop} (hQ : ∀ a w, LiftN C K a w → Q .normal a w) (A : List (List Nat)) (hfit : gU C.n ops.toList = true) :
  ∀ (l : List (Nat × Bool)) (acc : List Nat) (s : S) (u : World) (a : Act) (w : World), lW ops A acc l = true → iv P C.u0 ops.toList K l s u → Sim C s u a w →
   wpD P ops A Q acc (l.map (·.1)) a w := by
 intro l
 induction l with
 | nil => intro acc s u a w _ h hs; exact hQ a w ⟨s, u, hs, h⟩
 | cons p r ih =>
  intro acc s u a w hfl h hs
  obtain ⟨i, x⟩ := p
  simp only [iv, jM, Array.getElem?_toList] at h
  simp only [lW] at hfl
  simp only [List.map_cons, wpD]
  cases hi : ops[i]? with
  | none => simp [hi] at h
  | some o =>
   simp only [hi] at h hfl ⊢
   have hd := iF hfit hi
   cases hff : az o.op with
   | true =>
    simp only [hff, if_true] at hfl ⊢
    rcases fq hs h with ⟨hw, h⟩ | ⟨hw, h⟩
    ·obtain ⟨v, s', u', hK, hs', hp, hr⟩ := jr hff hs hd h
     refine ⟨v, ?_, ih _ s' u' _ w hfl hK hs'⟩
     unfold Yld
     split
     ·rename_i hpp; exact .inl ⟨hw, hp hpp⟩
     ·exact .inl ⟨hw, hr⟩
    ·refine ⟨undef, ?_, ih _ _ u _ w hfl h (hs.put_v hd)⟩
     unfold Yld
     split
     ·exact .inr ⟨hw, rfl⟩
     ·exact .inr ⟨hw, rfl⟩
   | false =>
    simp only [hff, Bool.false_eq_true, if_false, Bool.and_eq_true, Bool.or_eq_true, Bool.not_eq_true'] at hfl ⊢
    unfold cp
    simp only [hi]
    rcases fq hs h with ⟨hw, h⟩ | ⟨hw, h⟩
    ·rw [if_pos hw]
     refine (eH ?_ (jq hff (fun hx T y z ho => ?_) hs hd h Q))
     ·rintro a' w' ⟨hx, s', u', hs', hK⟩
      refine ⟨?_, ih acc s' u' a' w' hfl.2 hK hs'⟩
      rcases hfl.1 with ⟨h1, _⟩ | ⟨_, h1⟩
      ·exact .inl (hx h1)
      ·exact .inr (fun y hy => by simpa using (List.all_eq_true.1 h1) y hy)
     ·rcases hfl.1 with ⟨_, h1⟩ | ⟨h1, _⟩
      ·rw [ho] at h1; cases h1
      ·rw [h1] at hx; cases hx
    ·rw [if_neg (by simp [hw])]
     exact ⟨.inl (Ext.refl w), ih acc _ u _ w hfl.2 h (hs.put_v hd)⟩
theorem u7 {ks : List Nat} {d : Option Nat} {x : SV} : ∀ k l', fD ks k = true → (s.put d x).find k = some l' → ∃ l, s.find k = some l ∧ l.b = l'.b := fun k l' _ h => ⟨l', by rw [S.find_put] at h; exact h, rfl⟩
theorem tO {ops : Array Oper} {Q : Exit → Act → World → Prop} (hQ : ∀ a w, LiftN C K a w → Q .normal a w) (A : List (List Nat)) (hfit : gU C.n ops.toList = true) {ks : List Nat} :
  ∀ (l : List (Nat × Bool)) (acc : List Nat) (dyn : List (Nat × (World → Prop))) (s : S) (u : World) (a : Act) (w : World), jv ops A acc l = true → eY P C.u0 ops.toList ks K l s u → Sim C s u a w →
   (∀ e ∈ dyn, (∀ w', e.2 w') ∨ (e.1 ∈ acc ∧ HInv ks s w e.2)) → wpE P ops A Q dyn (l.map (·.1)) a w := by
 intro l
 induction l with
 | nil => intro acc dyn s u a w _ h hs _; exact hQ a w ⟨s, u, hs, h⟩
 | cons p r ih =>
  intro acc dyn s u a w hfl h hs hdyn
  obtain ⟨i, x⟩ := p
  simp only [eY, jM, Array.getElem?_toList] at h
  simp only [jv] at hfl
  simp only [List.map_cons, wpE]
  cases hi : ops[i]? with
  | none => simp [hi] at h
  | some o =>
   simp only [hi] at h hfl ⊢
   obtain ⟨hld, hso, h⟩ := h
   have hd := iF hfit hi
   cases hff : az o.op with
   | true =>
    have hnd : jB o = none := by unfold jB; split <;> first | rfl | (rename_i hop; rw [hop] at hff; cases hff)
    simp only [hff, if_true] at hfl ⊢
    rcases fq hs h with ⟨hw, h⟩ | ⟨hw, h⟩
    ·obtain ⟨v, s', u', ⟨hkp, hK⟩, hs', hr⟩ := ahW hff hld hs hd h
     rw [hnd] at hkp
     have hst : ∀ e ∈ dyn, (∀ w', e.2 w') ∨ (e.1 ∈ acc ∧ HInv ks s' w e.2) := fun e he => (hdyn e he).imp id fun h1 => ⟨h1.1, h1.2.ext (Ext.refl w) (fun k l' hm hf => .inl ((gg hkp k l' hm hf).resolve_left (by intro h; cases h)))⟩
     rcases hr with hr | ⟨hp, hr⟩
     ·refine ⟨v, fun _ => True, trivial, .inl ⟨hw, fun w' _ => hr w'⟩, ih _ _ s' u' _ w hfl hK hs' ?_⟩
      intro e he
      rcases List.mem_cons.1 he with rfl | he
      ·exact .inl (fun _ => trivial)
      ·refine (hst e he).imp id (fun h1 => ⟨?_, h1.2⟩)
       split
       ·exact h1.1
       ·exact List.mem_cons_of_mem _ h1.1
     ·refine ⟨v, Near ks s u, rP hs, .inl ⟨hw, hr⟩, ih _ _ s' u' _ w hfl hK hs' ?_⟩
      intro e he
      rw [hp]
      simp only [Bool.false_eq_true, if_false]
      rcases List.mem_cons.1 he with rfl | he
      ·exact .inr ⟨List.mem_cons_self, (HInv.self hs).ext (Ext.refl w) (fun k l' hm hf => .inl ((gg hkp k l' hm hf).resolve_left (by intro h; cases h)))⟩
      ·exact (hst e he).imp id (fun h1 => ⟨List.mem_cons_of_mem _ h1.1, h1.2⟩)
    ·refine ⟨undef, fun _ => True, trivial, .inr ⟨hw, rfl⟩, ih _ _ _ u _ w hfl h.2 (hs.put_v hd) ?_⟩
     intro e he
     rcases List.mem_cons.1 he with rfl | he
     ·exact .inl (fun _ => trivial)
     ·refine (hdyn e he).imp id (fun h1 => ⟨?_, h1.2.ext (Ext.refl w) (fun k l' hm hf => .inl (u7 k l' hm hf))⟩)
      split
      ·exact h1.1
      ·exact List.mem_cons_of_mem _ h1.1
   | false =>
    simp only [hff, Bool.false_eq_true, if_false, Bool.and_eq_true, Bool.or_eq_true] at hfl ⊢
    -- behind an effect that keeps what is held
    have next : ∀ (a' : Act) (w' : World) (s' : S) (u' : World), Sim C s' u' a' w' → eY P C.u0 ops.toList ks K r s' u' → (∀ e ∈ dyn, (∀ w', e.2 w') ∨ (e.1 ∈ acc ∧ HInv ks s' w' e.2)) →
      (∀ e ∈ dyn, (A.getD i []).contains e.1 = true ∨ e.2 w') ∧ wpE P ops A Q (dyn.filter fun e => !(A.getD i []).contains e.1) (r.map (·.1)) a' w' := by
     intro a' w' s' u' hs' hK hd'
     refine ⟨fun e he => .inr ?_, ih acc _ s' u' a' w' hfl.2 hK hs' (fun e he => hd' e (List.mem_filter.1 he).1)⟩
     rcases hd' e he with h1 | h1
     ·exact h1 w'
     ·exact h1.2.holds
    unfold cp
    simp only [hi]
    rcases fq hs h with ⟨hw, h⟩ | ⟨hw, h⟩
    rotate_left
    ·rw [if_neg (by simp [hw])]
     exact next _ w _ u (hs.put_v hd) h.2 (fun e he => (hdyn e he).imp id fun h1 => ⟨h1.1, h1.2.ext (Ext.refl w) (fun k l' hm hf => .inl (u7 k l' hm hf))⟩)
    rw [if_pos hw]
    by_cases hnd : jB o = none
    ·rw [hnd] at h
     cases x with
     | true =>
      by_cases hsto : ∃ T y z, o.op = .store T y z
      ·obtain ⟨T, y, z, hop⟩ := hsto
       have hso' := hso rfl
       simp only [abu, hop] at hso'
       simp only [bA, hop] at h
       refine eH ?_ (.inl (ac_ hop hso' hs hd h Q))
       rintro a' w' ⟨k, l, hm, hk, ho, s', u', hs', hkp, hK⟩
       exact next a' w' s' u' hs' hK (fun e he => (hdyn e he).imp id fun h1 => ⟨h1.1, h1.2.store hm hk ho (fun k l' hm hf => (gg hkp k l' hm hf).resolve_left (by intro h; cases h))⟩)
      ·refine eH ?_ (jq hff (fun _ T y z ho => hsto ⟨T, y, z, ho⟩) hs hd h Q)
       rintro a' w' ⟨hx, s', u', hs', hkp, hK⟩
       exact next a' w' s' u' hs' hK (fun e he => (hdyn e he).imp id fun h1 => ⟨h1.1, h1.2.ext (hx rfl) (fun k l' hm hf => .inl ((gg hkp k l' hm hf).resolve_left (by intro h; cases h)))⟩)
     | false =>
      have hall := hfl.1.resolve_left (by simp)
      refine eH ?_ (jq hff (fun h => by cases h) hs hd h Q)
      rintro a' w' ⟨_, s', u', hs', hkp, hK⟩
      have hin : ∀ e ∈ dyn, (∀ w', e.2 w') ∨ (A.getD i []).contains e.1 = true := fun e he => (hdyn e he).imp id fun h1 => (List.all_eq_true.1 hall) e.1 h1.1
      refine ⟨fun e he => (hin e he).elim (fun h1 => .inr (h1 w')) .inl, ih acc _ s' u' a' w' hfl.2 hK hs' (fun e he => ?_)⟩
      obtain ⟨he, hne⟩ := List.mem_filter.1 he
      rcases hin e he with h1 | h1
      ·exact .inl h1
      ·rw [h1] at hne; cases hne
    ·refine eH ?_ (.inl (aff hnd hs hd h Q))
     rintro a' w' ⟨hx, d, cs, T, hnd', hs', hkp, hK⟩
     refine next a' w' _ u hs' hK (fun e he => (hdyn e he).imp id fun h1 => ⟨h1.1, h1.2.ext hx (fun k l' hm hf => ?_)⟩)
     rcases gg hkp k l' hm hf with h2 | h2
     ·right
      rw [hnd'] at h2
      cases h2
      rw [cU] at hf
      cases hf
      exact Nat.le_refl _
     ·exact .inl h2
theorem yq {s s' : S} : ∀ {kl : List Nat}, afs s s' kl → ∀ k, fD kl k = true → s'.find k = s.find k := by
 intro kl
 induction kl with
 | nil => intro _ k h; cases h
 | cons j r ih =>
  intro h k hm
  simp only [fD] at hm
  by_cases hjk : j = k
  ·subst hjk; exact h.1
  ·refine ih h.2 k ?_
   simpa [hjk] using hm
def HeldM (kl : List Nat) (s : S) (acc : List Nat) (w : World) (e : Nat × (World → Prop)) : Prop :=
 (∀ w', e.2 w') ∨ (e.1 ∈ acc ∧ ∀ w', Ext w w' → e.2 w') ∨ ∃ k l, fD kl k = true ∧ s.find k = some l ∧ ∀ w' : World, w'.heap[l.b]? = some (.cells l.cells.toArray l.T (0, 0)) → e.2 w'
theorem HeldM.acc {kl : List Nat} {s : S} {acc acc' : List Nat} {w : World} {e : Nat × (World → Prop)} (h : HeldM kl s acc w e) (hs : ∀ x ∈ acc, x ∈ acc') : HeldM kl s acc' w e := h.imp id (Or.imp (fun h1 => ⟨hs _ h1.1, h1.2⟩) id)
theorem HeldM.keep {kl : List Nat} {s s' : S} {acc : List Nat} {w : World} {e : Nat × (World → Prop)} (h : HeldM kl s acc w e) (hk : afs s s' kl) : HeldM kl s' acc w e :=
 h.imp id (Or.imp id fun ⟨k, l, h1, h2, h3⟩ => ⟨k, l, h1, by rw [yq hk k h1]; exact h2, h3⟩)
theorem abA {ops : Array Oper} {Q : Exit → Act → World → Prop} (hQ : ∀ a w, LiftN C K a w → Q .normal a w) (A : List (List Nat)) (hfit : gU C.n ops.toList = true) :
  ∀ (t : OT) (acc : List Nat) (s : S) (u : World) (a : Act) (w : World), gq ops A acc t = true → vcT P C.u0 ops.toList K t s u → Sim C s u a w →
   tM P ops A Q acc t a w := by
 intro t
 induction t with
 | done =>
  intro acc s u a w _ h hs
  exact hQ a w ⟨s, u, hs, h⟩
 | no => intro acc s u a w _ h hs; trivial
 | fl i t ih =>
  intro acc s u a w hfl h hs
  simp only [vcT, jM, Array.getElem?_toList] at h
  simp only [gq] at hfl
  simp only [tM]
  cases hi : ops[i]? with
  | none => simp [hi] at h
  | some o =>
   simp only [hi, Bool.and_eq_true] at h hfl ⊢
   have hd := iF hfit hi
   obtain ⟨hff, hfl⟩ := hfl
   rcases fq hs h with ⟨hw, h⟩ | ⟨hw, h⟩
   ·obtain ⟨v, s', u', hK, hs', hp, hr⟩ := jr hff hs hd h
    refine ⟨v, ?_, ih _ s' u' _ w hfl hK hs'⟩
    unfold Yld
    split
    ·rename_i hpp; exact .inl ⟨hw, hp hpp⟩
    ·exact .inl ⟨hw, hr⟩
   ·refine ⟨undef, ?_, ih _ _ u _ w hfl h (hs.put_v hd)⟩
    unfold Yld
    split
    ·exact .inr ⟨hw, rfl⟩
    ·exact .inr ⟨hw, rfl⟩
 | eff i x t alt iht iha =>
  intro acc s u a w hfl h hs
  simp only [vcT, jM, Array.getElem?_toList] at h
  simp only [gq] at hfl
  simp only [tM]
  obtain ⟨h, halt⟩ := h
  cases hi : ops[i]? with
  | none => simp [hi] at h
  | some o =>
   simp only [hi, Bool.and_eq_true, Bool.or_eq_true, Bool.not_eq_true'] at h hfl ⊢
   have hd := iF hfit hi
   obtain ⟨⟨hx1, hft⟩, hfa⟩ := hfl
   refine ⟨?_, iha acc s u a w hfa halt hs⟩
   unfold cp
   simp only [hi]
   rcases fq hs h with ⟨hw, h⟩ | ⟨hw, h⟩
   ·rw [if_pos hw]
    cases hff : az o.op with
    | true =>
     obtain ⟨v, s', u', hK, hs', _, hr⟩ := jr hff hs hd h
     refine .inl ?_
     simp only [Oper.wp, hr w (Ext.refl w), Oper.upon]
     exact ⟨.inl (Ext.refl w), iht acc s' u' _ w hft hK hs'⟩
    | false =>
    replace hx1 := hx1.resolve_left (by rw [hff]; simp)
    refine (eH ?_ (jq hff (fun hx T y z ho => ?_) hs hd h Q))
    ·rintro a' w' ⟨hx, s', u', hs', hK⟩
     refine ⟨?_, iht acc s' u' a' w' hft hK hs'⟩
     rcases hx1 with ⟨h1, _⟩ | ⟨_, h1⟩
     ·exact .inl (hx h1)
     ·exact .inr (fun y hy => by simpa using (List.all_eq_true.1 h1) y hy)
    ·rcases hx1 with ⟨_, h1⟩ | ⟨h1, _⟩
     ·rw [ho] at h1; cases h1
     ·rw [h1] at hx; cases hx
   ·rw [if_neg (by simp [hw])]
    exact ⟨.inl (Ext.refl w), iht acc _ u _ w hft h (hs.put_v hd)⟩
end
def ee (id : Nat) (Q : Exit → S → World → Prop) (e : Exit) (s : S) (u : World) : Prop :=
 match e with
 | .exit j => bif j == id then Q .normal s u else Q (.exit j) s u
 | e => Q e s u
def dZ (id : Nat) (Q : Exit → S → World → Prop) (e : Exit) (s : S) (u : World) : Prop :=
 match e with
 | .exit j => bif j == id then LeK (Q .normal) s u else Q (.exit j) s u
 | .normal => LeK (Q .normal) s u
 | e => Q e s u
def um {γ : Type} (st : γ → S) (F : γ → World → Prop) (μ : γ → Nat) (g : γ) (Q : Exit → S → World → Prop) (e : Exit) (s : S) (u : World) : Prop :=
 match e with
 | .normal => ∃ g', (st g').le s ∧ F g' u ∧ μ g' < μ g
 | e => Q e s u
def fits (n : Nat) : Code → Bool
 | .region _ ops _ => gU n ops.toList && fo ops.toList
 | .seq x y => fits n x && fits n y
 | .cond _ x y => fits n x && fits n y
 | .block _ x => fits n x
 | .loop x => fits n x
 | .rangeFunc _ ps x y => (ps.toList.all fun t => decide (t < n)) && fits n x && fits n y
 | _ => true
def aeN (C : Ctx) (Q : Exit → S → World → Prop) : Exit → Act → World → Prop
 | .normal, a, w => LiftN C (Q .normal) a w
 | .ret, a, w => LiftN C (Q .ret) a w
 | .exit id, a, w => LiftN C (Q (.exit id)) a w
 | _, _, _ => False
def Vc (P : Program) (u0 : World) (c : Code) (Q : Exit → S → World → Prop) (s : S) (u : World) : Prop :=
 P.follows .mixedOrders = true → ∀ (C : Ctx) (a : Act) (w : World), C.u0 = u0 → fits C.n c = true → Sim C s u a w → cwp C.rd P c (aeN C Q) a w
def vc (P : Program) (u0 : World) : Code → (Exit → S → World → Prop) → S → World → Prop
 | .skip, Q, s, u => Q .normal s u
 | .region _ ops false, Q, s, u => kr P u0 ops.toList (Q .normal) ops.toList s u
 | .region _ ops true, Q, s, u => zD P u0 ops (Q .normal) s u
 | .seq x y, Q, s, u => vc P u0 x (fun e s u => match e with | .normal => vc P u0 y Q s u | e => Q e s u) s u
 | .cond c x y, Q, s, u =>
  match s.sv c with
  | .v (.bool t) => (t = true → vc P u0 x Q s u) ∧ (t = false → vc P u0 y Q s u)
  | _ => False
 | .block id x, Q, s, u => vc P u0 x (dZ id Q) s u
 | .loop x, Q, s, u => ∃ (γ : Type) (st : γ → S) (F : γ → World → Prop) (μ : γ → Nat), (∃ g, (st g).le s ∧ F g u) ∧ ∀ g u, F g u → Vc P u0 x (um st F μ g Q) (st g) u
 | .exit id, Q, s, u => Q (.exit id) s u
 | .ret, Q, s, u => Q .ret s u
 | .rangeFunc g ps x y, Q, s, u => Vc P u0 (.rangeFunc g ps x y) Q s u
 | _, _, _, _ => False
def ahj (P : Program) (u0 : World) (y : Code) (Q : Exit → S → World → Prop) (e : Exit) (s : S) (u : World) : Prop :=
 match e with
 | .normal => vc P u0 y Q s u
 | e => Q e s u
theorem adV {P : Program} (hm : P.follows .mixedOrders = true) {C : Ctx} : ∀ (c : Code) (Q : Exit → S → World → Prop) (s : S) (u : World) (a : Act) (w : World),
  fits C.n c = true → vc P C.u0 c Q s u → Sim C s u a w → cwp C.rd P c (aeN C Q) a w := by
 intro c
 induction c with
 | skip => intro Q s u a w _ h hs; exact afF ⟨s, u, hs, h⟩
 | region id ops draw =>
  intro Q s u a w hf h hs
  simp only [fits, Bool.and_eq_true] at hf
  obtain ⟨hf, hnd⟩ := hf
  have hlo : ¬ LetsOut (aeN C Q) := fun ⟨_, _, h⟩ => h
  cases draw with
  | false => exact nL hnd (vn (fun a w h => h) _ s u a w hf h hs)
  | true =>
   rcases h with ⟨ord, hok, h⟩ | ⟨t, hok, h⟩ | ⟨ord, ks, hok, h⟩ | h
   rotate_right
   ·exact h.elim
   rotate_right
   ·simp only [sm, Bool.and_eq_true] at hok
    refine nG hm hok.1 hnd ?_ (tO (fun a w h => h) _ hf ord [] [] s u a _ hok.2 h (hs.ext (mR w _) ⟨Nat.le_refl _, rfl, rfl⟩) (fun e he => by cases he))
    exact ⟨fun c a w d v h => h, hlo⟩
   ·simp only [x0, Bool.and_eq_true] at hok
    refine pU hm hok.1 hnd ?_ (uw (fun a w h => h) _ hf ord [] s u a _ hok.2 h (hs.ext (mR w _) ⟨Nat.le_refl _, rfl, rfl⟩))
    exact ⟨fun c a w d v h => h, hlo⟩
   ·simp only [sY, Bool.and_eq_true] at hok
    refine nM hm hok.1 hnd ?_ (aj3 _ t [] [] _ _ (fun e he => by cases he) (abA (K := LeK (Q .normal)) (fun a w h => LiftN.of_le h) _ hf t [] s u a _ hok.2 h (hs.ext (mR w _) ⟨Nat.le_refl _, rfl, rfl⟩)))
    exact ⟨fun c a w d v h => h, hlo⟩
 | seq x y ihx ihy =>
  intro Q s u a w hf h hs
  simp only [fits, Bool.and_eq_true] at hf
  refine aaj (f9 (ihx _ s u a w hf.1 h hs) ?_)
  intro e a w hl
  cases e with
  | normal => obtain ⟨s, u, hs, h⟩ := hl; exact ihy Q s u a w hf.2 h hs
  | exit id => exact hl
  | goto l => exact hl
  | ret => exact hl
  | panic c => exact hl
  | outgrown => exact hl
 | cond c x y ihx ihy =>
  intro Q s u a w hf h hs
  simp only [fits, Bool.and_eq_true] at hf
  simp only [vc] at h
  split at h
  ·rename_i t ht
   exact i6 (hs.eval_v ht) (fun e => ihx Q s u a w hf.1 (h.1 e) hs) (fun e => ihy Q s u a w hf.2 (h.2 e) hs)
  ·exact h.elim
 | block id x ih =>
  intro Q s u a w hf h hs
  refine mA (f9 (ih _ s u a w hf h hs) ?_)
  intro e a w hl
  cases e with
  | normal => exact LiftN.of_le hl
  | exit j =>
   obtain ⟨s, u, hs, h⟩ := hl
   simp only [dZ] at h
   by_cases hj : j = id
   ·subst hj
    simp only [beq_self_eq_true, cond_true] at h
    simp only [Exit.inBlock, if_true]
    exact LiftN.of_le ⟨s, u, hs, h⟩
   ·have hb : (j == id) = false := by simpa using hj
    simp only [hb, cond_false] at h
    simp only [Exit.inBlock, hj, if_false]
    exact ⟨s, u, hs, h⟩
  | goto l => exact hl
  | ret => exact hl
  | panic c => exact hl
  | outgrown => exact hl
 | loop x ih =>
  intro Q s u a w hf h hs
  obtain ⟨γ, st, F, μ, ⟨g0, hle, hF⟩, hround⟩ := h
  refine aeQ (fun g a w => ∃ u, Sim C (st g) u a w ∧ F g u) μ ⟨g0, u, hs.le_of hle, hF⟩ ?_
  rintro g a w ⟨u, hs, hF⟩
  refine f9 (hround g u hF hm C a w rfl hf hs) ?_
  intro e a1 w1 hq
  cases e with
  | normal =>
   obtain ⟨s', u', hs', g', hle', hF', hlt⟩ := hq
   exact ⟨g', ⟨u', hs'.le_of hle', hF'⟩, hlt⟩
  | exit id => exact hq
  | goto l => exact hq.elim
  | ret => exact hq
  | panic c => exact hq.elim
  | outgrown => exact hq.elim
 | exit id => intro Q s u a w _ h hs; exact adQ ⟨s, u, hs, h⟩
 | ret => intro Q s u a w _ h hs; exact ahI ⟨s, u, hs, h⟩
 | rangeFunc f ps x y => intro Q s u a w hf h hs; exact h hm C a w rfl hf hs
 | scope x => intro Q s u a w _ h _; exact h.elim
 | label l => intro Q s u a w _ h _; exact h.elim
 | goto l => intro Q s u a w _ h _; exact h.elim
 | refuse w => intro Q s u a w _ h _; exact h.elim
theorem Vc.of {P : Program} {u0 : World} {c : Code} {Q : Exit → S → World → Prop} {s : S} {u : World} (h : vc P u0 c Q s u) : Vc P u0 c Q s u := by
 intro hm C a w hu hf hs
 subst hu
 exact adV hm c Q s u a w hf h hs
def ahV : Nat → Code → Code
 | 0, .seq a _ => a
 | k + 1, .seq a r => .seq a (ahV k r)
 | _, c => c
def ajd : Nat → Code → Code
 | 0, .seq _ r => r
 | k + 1, .seq _ r => ajd k r
 | _, _ => .skip
def akx {γ : Type} (st : γ → S) (F : γ → World → Prop) (Q : Exit → S → World → Prop) (e : Exit) (s : S) (u : World) : Prop :=
 match e with
 | .normal => ∃ g, (st g).le s ∧ F g u
 | e => Q e s u
def fe : Nat → List Value → List (Nat × SV)
 | _, [] => []
 | i, v :: r => (i, .v v) :: fe (i + 1) r
def bJ (P : Program) (s : S) : ResultVar → Option Value
 | .tmp t => s.val (s.get t)
 | .cell t T =>
  match s.get t, lay P T with
  | .loc k off, some (ag, n) => match s.find k with
   | some l => if (n = 1 ∨ ag = true) ∧ off + n ≤ l.cells.length then some (ld ag n off l.cells) else none
   | none => none
  | _, _ => none
def cq (P : Program) (s : S) : List ResultVar → Option Value
 | [] => some (.tuple #[])
 | [x] => bJ P s x
 | [x, y] => match bJ P s x, bJ P s y with
  | some a, some b => some (.tuple #[a, b])
  | _, _ => none
 | [x, y, z] => match bJ P s x, bJ P s y, bJ P s z with
  | some a, some b, some c => some (.tuple #[a, b, c])
  | _, _, _ => none
 | [x, y, z, t] => match bJ P s x, bJ P s y, bJ P s z, bJ P s t with
  | some a, some b, some c, some d => some (.tuple #[a, b, c, d])
  | _, _, _, _ => none
 | _ => none
abbrev ki (Post : Value → World → Prop) (r : Option Value) (u : World) : Prop :=
 match r with
 | some v => Post v u
 | none => False
def abq (P : Program) (rs : List ResultVar) (Post : Value → World → Prop) (e : Exit) (s : S) (u : World) : Prop :=
 match e with
 | .normal => ki Post (cq P s rs) u
 | .ret => ki Post (cq P s rs) u
 | _ => False
section
variable {P : Program} {C : Ctx} {s : S} {u : World} {a : Act} {w : World}
def tQ (tmps : Array Value) : ResultVar → Sem Value
 | .tmp t => pure (tmps.getD t undef)
 | .cell x t => do loadVar t (← asAddr (tmps.getD x undef))
theorem cJ (hs : Sim C s u a w) {x : ResultVar} {v : Value} (h : bJ P s x = some v) : (tQ a.tmps x).run P w = .ok v w := by
 cases x with
 | tmp t => simp only [tQ, Sem.run_pure]; rw [hs.slots t v h]
 | cell t T =>
  simp only [bJ] at h
  split at h
  ·rename_i k off ag n hg hl
   split at h
   ·rename_i l hk
    split at h
    ·rename_i hc
     cases h
     have h1 := hs.slots t (.pointer (some ⟨l.b, off, none⟩)) (by rw [hg]; simp [S.val, hk])
     have h2 := dQ hl hc.1 hc.2 (jc (hs.locs k l hk).1)
     rw [Addr.add_lit, Nat.zero_add] at h2
     simp only [tQ, h1, asAddr, Sem.run_bind, Sem.run_pure, Result.andThen_ok]
     exact h2
    ·cases h
   ·cases h
  ·cases h
theorem xa (fn : Func) (tmps : Array Value) : results fn tmps = (do let vs ← fn.results.mapM (tQ tmps); pure (if h : vs.size = 1 then vs[0] else .tuple vs)) := by
 unfold results
 congr 2
theorem xn {fn : Func} (hs : Sim C s u a w) {v : Value} (h : cq P s fn.results.toList = some v) : (results fn a.tmps).run P w = .ok v w := by
 rw [xa]
 obtain ⟨l, hr⟩ : ∃ l : List ResultVar, fn.results = l.toArray := ⟨fn.results.toList, by simp⟩
 rw [hr] at h ⊢
 simp only at h
 match l, h with
 | [], h => simp [cq] at h; simp [h]
 | [x], h => simp [cq] at h; simp [cJ hs h]
 | [x, y], h =>
  simp only [cq] at h
  split at h
  ·rename_i v1 v2 h1 h2; cases h; simp [cJ hs h1, cJ hs h2]
  ·cases h
 | [x, y, z], h =>
  simp only [cq] at h
  split at h
  ·rename_i v1 v2 v3 h1 h2 h3; cases h; simp [cJ hs h1, cJ hs h2, cJ hs h3]
  ·cases h
 | [x, y, z, t], h =>
  simp only [cq] at h
  split at h
  ·rename_i v1 v2 v3 v4 h1 h2 h3 h4; cases h; simp [cJ hs h1, cJ hs h2, cJ hs h3, cJ hs h4]
  ·cases h
 | _ :: _ :: _ :: _ :: _ :: _, h => simp [cq] at h
end
theorem ae1 : ∀ (vs : List Value) (i t : Nat) (x : SV), lk (fe i vs) t = some x → ∃ j v, t = i + j ∧ vs[j]? = some v ∧ x = .v v := by
 intro vs
 induction vs with
 | nil => intro i t x h; cases h
 | cons v r ih =>
  intro i t x h
  simp only [fe] at h
  by_cases hit : i = t
  ·subst hit
   rw [aq] at h
   cases h
   exact ⟨0, v, rfl, rfl, rfl⟩
  ·rw [aj hit] at h
   obtain ⟨j, v', h1, h2, h3⟩ := ih (i + 1) t x h
   exact ⟨j + 1, v', by omega, by simpa using h2, h3⟩
theorem afK {n : Nat} {args : List Value} (hn : args.length ≤ n) {w u u0 : World} (hu : Sub u w) (h0 : Sub u0 w) :
  Sim ⟨n, w, u, u0, none, []⟩ ⟨fe 0 args, []⟩ u { tmps := args.toArray ++ Array.replicate (n - args.toArray.size) undef, defers := [] } w := by
 have hget : ∀ t x, (⟨fe 0 args, []⟩ : S).get t = x → x ≠ .unk → ∃ v, args[t]? = some v ∧ x = .v v := by
  intro t x h hx
  simp only [S.get] at h
  cases hl : lk (fe 0 args) t with
  | none => rw [hl] at h; exact absurd h.symm hx
  | some y =>
   rw [hl] at h
   obtain ⟨j, v, h1, h2, h3⟩ := ae1 args 0 t y hl
   simp at h h1
   subst h1
   exact ⟨v, h2, by rw [← h]; exact h3⟩
 refine ⟨by simp; omega, ⟨List.nodup_nil, (fun d hd => by cases hd), (fun l hl => by cases hl), fun p hp => by cases hp⟩, ?_, ?_, ?_, hu, ?_, ?_, fun b o h => .inl h, fun b hb h => h, ⟨Nat.le_refl _, rfl, rfl⟩, h0, h0⟩
 ·intro t v hv
  have hx : (⟨fe 0 args, []⟩ : S).get t ≠ .unk := by intro h; rw [h] at hv; cases hv
  obtain ⟨v', h1, h2⟩ := hget t _ rfl hx
  rw [h2] at hv
  simp [S.val] at hv
  subst hv
  have hlt : t < args.length := by rcases Nat.lt_or_ge t args.length with h | h; exact h; simp [List.getElem?_eq_none h] at h1
  have h3 : args[t] = v' := by simpa [hlt] using h1
  simp [Array.getElem?_append, hlt, h3]
 ·intro t k off ht
  obtain ⟨v, _, h2⟩ := hget t _ ht (by intro h; cases h)
  cases h2
 ·intro t sv sz i off ht
  obtain ⟨v, _, h2⟩ := hget t _ ht (by intro h; cases h)
  cases h2
 ·intro k l h; cases h
 ·intro k k' l l' h; cases h
def Con (P : Program) (f : FuncId) (args : List Value) (u : World) (Post : Value → World → Prop) : Prop :=
 ea P f = true ∧ ∀ w, Sub u w → Calls P f args.toArray w fun e w' => ∃ r u', e = .returned r ∧ Step true u u w u' w' ∧ Sub u u' ∧ Post r u'
theorem AtCall.of_spec {x : Bool} {P : Program} {f : FuncId} {args : List Value} {u0 u : World} {Post K : Value → World → Prop} (h : Con P f args u Post)
  (hk : ∀ r u', Sub u u' → Post r u' → K r u') : AtCall x P f args u0 u K := by
 refine .inl ⟨h.1, fun w hu _ => (h.2 w hu).mono ?_⟩
 rintro e w' ⟨r, u', rfl, hst, hsub, hp⟩
 exact ⟨r, u', rfl, ⟨hst.sub, fun b o hb => .inl (hst.ext b o hb), hst.dom, hst.le⟩, hk r u' hsub hp⟩
theorem Sim.shut {C : Ctx} {s : S} {u : World} {a : Act} {w : World} (h : Sim C s u a w) {d : Deferred} {ds : List Deferred} (hd : a.defers = d :: ds) {D : Nat} (e : d = { target := .collected D, args := #[] }) (h1 : w.heap[D]? = some (.deferred (some []))) (h2 : Fresh u D) (h3 : C.w0.heap.size ≤ D) (hx : ∀ p ∈ C.held, p.1 ≠ D) :
  Sim C s u { tmps := a.tmps, defers := ds } (w.putObj D (.deferred none)) := by
 have hm := h.defers
 rw [hd] at hm
 have hoth : ∀ b, b ≠ D → (w.putObj D (.deferred none)).heap[b]? = w.heap[b]? := fun b hb => World.putObj_heap_other hb
 have hsub : ∀ {v : World}, Sub v w → Fresh v D → Sub v (w.putObj D (.deferred none)) := fun hv hf b o hb ho => by
  rw [hoth b (fun e => by subst e; exact ho (hf o hb))]
  exact hv b o hb ho
 have h0 : Fresh C.u0 D := fun o ho => Classical.byContradiction fun hn => by
  have := aP (h.sub00 D o ho hn)
  omega
 refine ⟨h.size, ⟨(List.nodup_cons.1 hm.nd).2, fun d' hd' => ?_, hm.rcd, fun p hp => ?_⟩, h.slots, h.wfl, h.wfe, hsub h.sub h2, fun k l hk => ?_, h.dist, fun b o hb => ?_, h.dom, ⟨by have := h.le.size; simpa using this, h.le.os, h.le.output⟩, hsub h.sub0 h0, h.sub00⟩
 ·obtain ⟨D', e', g1, g2, g3⟩ := hm.mks d' (List.mem_cons_of_mem _ hd')
  refine ⟨D', e', ?_, g2, g3⟩
  rw [hoth D' (fun e2 => (List.nodup_cons.1 hm.nd).1 (by rw [e, ← e2, ← e']; exact hd'))]
  exact g1
 ·obtain ⟨g1, g2, g3⟩ := hm.hld p hp
  refine ⟨?_, g2, g3⟩
  rw [hoth p.1 (fun e2 => hx p hp e2)]
  exact g1
 ·obtain ⟨g1, g2, g3⟩ := h.locs k l hk
  refine ⟨?_, g2, g3⟩
  rw [hoth l.b (fun e2 => by rw [e2, h1] at g1; cases g1)]
  exact g1
 ·rw [hoth b (fun e2 => by have := aP hb; omega)]
  exact h.keep b o hb
theorem Sim.leaves {P : Program} {fn : Func} {C : Ctx} {s : S} {u : World} {R : Ending → World → Prop} {t : Array Value} (hh : C.held = []) : ∀ {ds : List Deferred} {w : World}, Sim C s u ⟨t, ds⟩ w →
  (∀ w2, Sim C s u ⟨t, []⟩ w2 → ∃ v, (results fn t).run P w2 = .ok v w2 ∧ R (.returned v) w2) → LeavesInM Fence.wide 0 P fn t R ds .returning w
 | [], w, h, k => k w h
 | d :: ds, w, h, k => by
  obtain ⟨D, e, h1, h2, h3⟩ := h.defers.mks d List.mem_cons_self
  exact ⟨(fun h => by cases h), .inl ⟨D, _, by rw [e], run_takeDeferred h1, Sim.leaves hh (h.shut rfl e h1 h2 h3 (fun p hp => by rw [hh] at hp; cases hp)) k⟩⟩
theorem kP {P : Program} (hm : P.follows .mixedOrders = true) {f : FuncId} {fn : Func} {c : Code} (hf : P.funcs[f]? = some fn) (hb : fn.body = some c) (hbody : ea P f = true)
  (hfit : fits fn.ntmps c = true) {args : List Value} (hn : Nat.ble args.length fn.ntmps = true) (rs : List ResultVar) (hrs : fn.results.toList = rs) {u0 u : World} {Post : Value → World → Prop}
  (h : Vc P u0 c (abq P rs Post) ⟨fe 0 args, []⟩ u) : aaL false P f args u0 u Post := by
 subst hrs
 refine ⟨hbody, fun w hu h0 => callsIn_wide.1 (callsIn_of_wp_marks (F := Fence.wide) (n := 0) hf hb trivial ?_)⟩
 have hsim := afK (Nat.le_of_ble_eq_true hn) hu h0
 refine wpIn_mono (h hm ⟨fn.ntmps, w, u, u0, none, []⟩ _ w rfl hfit hsim 0) ?_
 have fin : ∀ a w', (∃ s u', Sim ⟨fn.ntmps, w, u, u0, none, []⟩ s u' a w' ∧ ki Post (cq P s fn.results.toList) u') →
   LeavesInM Fence.wide 0 P fn a.tmps (fun e w' => ∃ r u', e = .returned r ∧ Step false u0 u w u' w' ∧ Post r u') a.defers .returning w' := by
  rintro a w' ⟨s, u', hs, hd⟩
  unfold ki at hd
  split at hd
  ·rename_i v hv
   refine hs.leaves rfl fun w2 h2 => ⟨v, xn h2 hv, v, u', rfl, ⟨h2.sub, fun b o hb => (h2.keep b o hb).imp id (fun h => ⟨rfl, h⟩), h2.dom, h2.le⟩, hd⟩
  ·exact hd.elim
 intro e a w' hl
 cases e with
 | normal => exact fin a w' hl
 | ret => exact fin a w' hl
 | exit id => obtain ⟨s, u', _, h⟩ := hl; exact h.elim
 | goto l => exact hl.elim
 | panic c => exact hl.elim
 | outgrown => exact hl.elim
theorem gj {P : Program} (hm : P.follows .mixedOrders = true) {f : FuncId} {fn : Func} {c : Code} (hf : P.funcs[f]? = some fn) (hb : fn.body = some c) (hbody : ea P f = true)
  (hfit : fits fn.ntmps c = true) {args : List Value} (hn : Nat.ble args.length fn.ntmps = true) (rs : List ResultVar) (hrs : fn.results.toList = rs) {u0 u : World} {Post : Value → World → Prop}
  (h : vc P u0 c (abq P rs Post) ⟨fe 0 args, []⟩ u) : aaL false P f args u0 u Post :=
 kP hm hf hb hbody hfit hn rs hrs (Vc.of h)
theorem iT {P : Program} (hm : P.follows .mixedOrders = true) {f : FuncId} {fn : Func} {c : Code} (hf : P.funcs[f]? = some fn) (hb : fn.body = some c) (hbody : ea P f = true)
  (hfit : fits fn.ntmps c = true) {args : List Value} (hn : Nat.ble args.length fn.ntmps = true) (rs : List ResultVar) (hrs : fn.results.toList = rs) {u : World} {Post : Value → World → Prop}
  (h : vc P u c (abq P rs (fun r u' => Sub u u' ∧ Post r u')) ⟨fe 0 args, []⟩ u) : Con P f args u Post := by
 obtain ⟨h1, h2⟩ := gj hm hf hb hbody hfit hn rs hrs h
 refine ⟨h1, fun w hu => (h2 w hu hu).mono ?_⟩
 rintro e w' ⟨r, u', he, hst, hsub, hp⟩
 exact ⟨r, u', he, ⟨hst.sub, fun b o hb => .inl ((hst.keep b o hb).resolve_right (fun h => h.2.1 h.2.2)), hst.dom, hst.le⟩, hsub, hp⟩
theorem xH {P : Program} (hm : P.follows .mixedOrders = true) {f : FuncId} {fn : Func} {c : Code} (hf : P.funcs[f]? = some fn) (hb : fn.body = some c) (hbody : ea P f = true)
  (hfit : fits fn.ntmps c = true) {args : List Value} (hn : Nat.ble args.length fn.ntmps = true) (rs : List ResultVar) (hrs : fn.results.toList = rs) {u : World} {Post : Value → World → Prop}
  (h : Vc P u c (abq P rs (fun r u' => Sub u u' ∧ Post r u')) ⟨fe 0 args, []⟩ u) : Con P f args u Post := by
 obtain ⟨h1, h2⟩ := kP hm hf hb hbody hfit hn rs hrs h
 refine ⟨h1, fun w hu => (h2 w hu hu).mono ?_⟩
 rintro e w' ⟨r, u', he, hst, hsub, hp⟩
 exact ⟨r, u', he, ⟨hst.sub, fun b o hb => .inl ((hst.keep b o hb).resolve_right (fun h => h.2.1 h.2.2)), hst.dom, hst.le⟩, hsub, hp⟩
end Go.Eng
