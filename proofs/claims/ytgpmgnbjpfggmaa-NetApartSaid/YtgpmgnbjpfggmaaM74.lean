/-
  Part 4 of the proof of M7: the engine and the walks, in their order.
-/
import Derived.Test.YtgpmgnbjpfggmaaM73
import Derived.RangeFuncLeaves
set_option linter.unusedSimpArgs false
set_option linter.unusedVariables false
/-
  Engine, part F: regions, code, loops, functions.
-/
set_option linter.unusedSimpArgs false
set_option linter.unusedVariables false
namespace Go.Eng

/-! ### Regions -/

def dstAt : List Oper → Nat → Option Nat
  | [], _ => none
  | o :: _, 0 => o.dst
  | _ :: r, j + 1 => dstAt r j

def operAt : List Oper → Nat → Option Oper
  | [], _ => none
  | o :: _, 0 => some o
  | _ :: r, j + 1 => operAt r j

/-- A guarded operation. -/
def vcG (P : Program) (x : Bool) (u0 : World) (all : List Oper) (o : Oper) (K : S → World → Prop) (s : S) (u : World) : Prop :=
  match o.guard with
  | none => vcOp P x u0 o K s u
  | some (j, want) =>
    match dstAt all j with
    | some d =>
      match s.get d with
      | .v (.bool c) => (c = want → vcOp P x u0 o K s u) ∧ (c = !want → K (s.put o.dst (.v undef)) u)
      | .v (.tuple _) => K (s.put o.dst (.v undef)) u
      | _ => False
    | none => False

/-- In the text's order. -/
def vcOps (P : Program) (u0 : World) (all : List Oper) (K : S → World → Prop) : List Oper → S → World → Prop
  | [], s, u => K s u
  | o :: r, s, u => vcG P false u0 all o (vcOps P u0 all K r) s u

/-- In an order that is given. -/
def vcOrd (P : Program) (u0 : World) (all : List Oper) (K : S → World → Prop) : List (Nat × Bool) → S → World → Prop
  | [], s, u => K s u
  | (i, x) :: r, s, u =>
    match operAt all i with
    | some o => vcG P x u0 all o (vcOrd P u0 all K r) s u
    | none => False

def isStore : Op → Bool
  | .store .. => true
  | _ => false

def okFlags (ops : Array Oper) (A : List (List Nat)) : List Nat → List (Nat × Bool) → Bool
  | _, [] => true
  | acc, (i, x) :: r =>
    match ops[i]? with
    | some o =>
      if floating o.op then okFlags ops A (if pureOp o.op then acc else i :: acc) r
      else ((x && !isStore o.op) || (!x && acc.all fun y => (A.getD i []).contains y)) && okFlags ops A acc r
    | none => false

def okDraw (ops : Array Oper) (ord : List (Nat × Bool)) : Bool := okOrd ops (ord.map (·.1)) && okFlags ops (ancs ops.toList []) [] ord

/-- Less may be said of the slots. -/
def LeK (K : S → World → Prop) (s : S) (u : World) : Prop := K s u ∨ ∃ s1 : S, s1.le s ∧ K s1 u

/-- Along a tree of orders. -/
def vcT (P : Program) (u0 : World) (all : List Oper) (K : S → World → Prop) : OT → S → World → Prop
  | .done, s, u => K s u
  | .no, _, _ => True
  | .fl i t, s, u =>
    match operAt all i with
    | some o => vcG P false u0 all o (vcT P u0 all K t) s u
    | none => False
  | .eff i x t alt, s, u =>
    (match operAt all i with
    | some o => vcG P x u0 all o (vcT P u0 all K t) s u
    | none => False) ∧ vcT P u0 all K alt s u

def okFlagsT (ops : Array Oper) (A : List (List Nat)) : List Nat → OT → Bool
  | _, .done => true
  | _, .no => true
  | acc, .fl i t =>
    match ops[i]? with
    | some o => floating o.op && okFlagsT ops A (if pureOp o.op then acc else i :: acc) t
    | none => false
  | acc, .eff i x t alt =>
    match ops[i]? with
    | some o => (floating o.op || ((x && !isStore o.op) || (!x && acc.all fun y => (A.getD i []).contains y))) && okFlagsT ops A acc t && okFlagsT ops A acc alt
    | none => false

def okTreeF (ops : Array Oper) (t : OT) : Bool := okTree ops t && okFlagsT ops (ancs ops.toList []) [] t

/-- In an order that is given; stores to some local variables may stand beside reads of other things. -/
def vcOrdL (P : Program) (u0 : World) (all : List Oper) (ks : List Nat) (K : S → World → Prop) : List (Nat × Bool) → S → World → Prop
  | [], s, u => K s u
  | (i, x) :: r, s, u =>
    match operAt all i with
    | some o => ldOk ks o s ∧ (x = true → stOk ks o s) ∧ vcG P x u0 all o (fun s' u' => keepL s s' (newD o) ks ∧ vcOrdL P u0 all ks K r s' u') s u
    | none => False

def okFlagsL (ops : Array Oper) (A : List (List Nat)) : List Nat → List (Nat × Bool) → Bool
  | _, [] => true
  | acc, (i, x) :: r =>
    match ops[i]? with
    | some o =>
      if floating o.op then okFlagsL ops A (if pureOp o.op then acc else i :: acc) r
      else (x || acc.all fun y => (A.getD i []).contains y) && okFlagsL ops A acc r
    | none => false

def okDrawL (ops : Array Oper) (ord : List (Nat × Bool)) : Bool := okOrd ops (ord.map (·.1)) && okFlagsL ops (ancs ops.toList []) [] ord

/-- In an order that is given; loads of some local variables, which nothing here changes, may stand beside anything. -/
def ldIn (kl : List Nat) (o : Oper) (s : S) : Prop :=
  match o.op with
  | .load _ y => (match s.sv y with
    | .loc k _ => memB kl k = true
    | _ => False)
  | _ => False
def keepF (s s' : S) : List Nat → Prop
  | [] => True
  | k :: r => s'.find k = s.find k ∧ keepF s s' r
def vcOrdM (P : Program) (u0 : World) (all : List Oper) (ls kl : List Nat) (K : S → World → Prop) : List (Nat × Bool) → S → World → Prop
  | [], s, u => K s u
  | (i, x) :: r, s, u =>
    match operAt all i with
    | some o => (memB ls i = true → ldIn kl o s) ∧ vcG P x u0 all o (fun s' u' => keepF s s' kl ∧ vcOrdM P u0 all ls kl K r s' u') s u
    | none => False
/-- Less may be said, but not of these local variables. -/
def LeKM (kl : List Nat) (K : S → World → Prop) (s : S) (u : World) : Prop := K s u ∨ ∃ s1 : S, s1.le s ∧ keepF s s1 kl ∧ K s1 u
/-- Along a tree of orders, where less may be said behind each effect, and loads of some local variables may stand beside anything. -/
def vcTM (P : Program) (u0 : World) (all : List Oper) (ls kl : List Nat) (K : S → World → Prop) : OT → S → World → Prop
  | .done, s, u => K s u
  | .no, _, _ => True
  | .fl i t, s, u =>
    match operAt all i with
    | some o => (memB ls i = true → ldIn kl o s) ∧ vcG P false u0 all o (fun s' u' => keepF s s' kl ∧ vcTM P u0 all ls kl K t s' u') s u
    | none => False
  | .eff i x t alt, s, u =>
    (match operAt all i with
    | some o => vcG P x u0 all o (fun s' u' => keepF s s' kl ∧ LeKM kl (vcTM P u0 all ls kl K t) s' u') s u
    | none => False) ∧ vcTM P u0 all ls kl K alt s u
def okFlagsTM (ops : Array Oper) (A : List (List Nat)) (ls : List Nat) : List Nat → OT → Bool
  | _, .done => true
  | _, .no => true
  | acc, .fl i t =>
    match ops[i]? with
    | some o => floating o.op && okFlagsTM ops A ls (if pureOp o.op || memB ls i then acc else i :: acc) t
    | none => false
  | acc, .eff i x t alt =>
    match ops[i]? with
    | some o => !floating o.op && ((x && !isStore o.op) || (!x && acc.all fun y => (A.getD i []).contains y)) && okFlagsTM ops A ls acc t && okFlagsTM ops A ls acc alt
    | none => false
def okTreeM (ops : Array Oper) (ls : List Nat) (t : OT) : Bool := okTree ops t && okFlagsTM ops (ancs ops.toList []) ls [] t

def okFlagsM (ops : Array Oper) (A : List (List Nat)) (ls : List Nat) : List Nat → List (Nat × Bool) → Bool
  | _, [] => true
  | acc, (i, x) :: r =>
    match ops[i]? with
    | some o =>
      if floating o.op then okFlagsM ops A ls (if pureOp o.op || memB ls i then acc else i :: acc) r
      else ((x && !isStore o.op) || (!x && acc.all fun y => (A.getD i []).contains y)) && okFlagsM ops A ls acc r
    | none => false
def okDrawM (ops : Array Oper) (ls : List Nat) (ord : List (Nat × Bool)) : Bool := okOrd ops (ord.map (·.1)) && okFlagsM ops (ancs ops.toList []) ls [] ord

def AtDraw (P : Program) (u0 : World) (ops : Array Oper) (K : S → World → Prop) (s : S) (u : World) : Prop :=
  (∃ ord, okDraw ops ord = true ∧ vcOrd P u0 ops.toList K ord s u) ∨ (∃ t, okTreeF ops t = true ∧ vcT P u0 ops.toList (LeK K) t s u) ∨ (∃ ord ks, okDrawL ops ord = true ∧ vcOrdL P u0 ops.toList ks K ord s u) ∨ (∃ ord ls kl, okDrawM ops ls ord = true ∧ vcOrdM P u0 ops.toList ls kl K ord s u) ∨ (∃ t ls kl, okTreeM ops ls t = true ∧ vcTM P u0 ops.toList ls kl (LeK K) t s u)

theorem dstAt_eq : ∀ (l : List Oper) (j : Nat), dstAt l j = (l[j]?).bind (·.dst) := by
  intro l
  induction l with
  | nil => intro j; rfl
  | cons o r ih => intro j; cases j with
    | zero => rfl
    | succ j => simpa [dstAt] using ih j

theorem operAt_eq : ∀ (l : List Oper) (j : Nat), operAt l j = l[j]? := by
  intro l
  induction l with
  | nil => intro j; rfl
  | cons o r ih => intro j; cases j with
    | zero => rfl
    | succ j => simpa [operAt] using ih j

section
variable {P : Program} {C : Ctx} {s : S} {u : World} {a : Act} {w : World} {K : S → World → Prop}

theorem slot_bool (hs : Sim C s u a w) {d : Nat} {c : Bool} (h : s.get d = .v (.bool c)) : a.tmps[d]? = some (.bool c) := by
  have h1 := hs.slots d (.bool c) (by rw [h]; rfl)
  cases hx : a.tmps[d]? with
  | none => simp [hx, undef] at h1
  | some v => simp [hx] at h1; rw [h1]

theorem slot_tuple (hs : Sim C s u a w) {d : Nat} {vs : Array Value} (h : s.get d = .v (.tuple vs)) : ∀ c, a.tmps[d]? ≠ some (.bool c) := by
  have h1 := hs.slots d (.tuple vs) (by rw [h]; rfl)
  intro c hx
  simp [hx] at h1

/-- What a guarded operation's condition says: it is wanted and its own condition holds, or it is not wanted. -/
theorem vcG_cases {x : Bool} {ops : Array Oper} {o : Oper} (hs : Sim C s u a w) (h : vcG P x C.u0 ops.toList o K s u) :
    (Region.wanted o (yielded ops a.tmps) = true ∧ vcOp P x C.u0 o K s u) ∨ (Region.wanted o (yielded ops a.tmps) = false ∧ K (s.put o.dst (.v undef)) u) := by
  unfold vcG at h
  split at h
  · rename_i hg; exact .inl ⟨by simp [Region.wanted, hg], h⟩
  · rename_i j want hg
    split at h
    · rename_i d hd
      rw [dstAt_eq] at hd
      have hd' : (ops[j]?).bind (·.dst) = some d := by simpa using hd
      split at h
      · rename_i c hc
        have hy : yielded ops a.tmps j = some c := by simp [yielded, hd', slot_bool hs hc]
        by_cases hcw : c = want
        · exact .inl ⟨by simp [Region.wanted, hg, hy, hcw], h.1 hcw⟩
        · refine .inr ⟨by simp [Region.wanted, hg, hy, hcw], h.2 ?_⟩
          cases c <;> cases want <;> simp_all
      · rename_i vs hc
        have hy : yielded ops a.tmps j = none := by
          unfold yielded
          rw [hd']
          simp only [Option.bind_some]
          split
          · rename_i b hb; exact (slot_tuple hs hc b hb).elim
          · rfl
        exact .inr ⟨by simp [Region.wanted, hg, hy], h⟩
      · exact h.elim
    · exact h.elim

def LiftN (C : Ctx) (K : S → World → Prop) (a : Act) (w : World) : Prop := ∃ s u, Sim C s u a w ∧ K s u

theorem LiftN.of_le (h : LiftN C (LeK K) a w) : LiftN C K a w := by
  obtain ⟨s, u, hs, h⟩ := h
  rcases h with h | ⟨s1, hle, h⟩
  · exact ⟨s, u, hs, h⟩
  · exact ⟨s1, u, hs.le_of hle, h⟩

def fitsOps (n : Nat) (l : List Oper) : Bool := l.all fun o => okDst n o.dst

theorem vcOps_sound {ops : Array Oper} {Q : Exit → Act → World → Prop} (hQ : ∀ a w, LiftN C K a w → Q .normal a w) : ∀ (l : List Oper) (s : S) (u : World) (a : Act) (w : World),
    fitsOps C.n l = true → vcOps P C.u0 ops.toList K l s u → Sim C s u a w → wpListX P ops Q l a w := by
  intro l
  induction l with
  | nil => intro s u a w _ h hs; exact hQ a w ⟨s, u, hs, h⟩
  | cons o r ih =>
    intro s u a w hf h hs
    simp only [fitsOps, List.all_cons, Bool.and_eq_true] at hf
    rcases vcG_cases hs h with ⟨hw, h⟩ | ⟨hw, h⟩
    · unfold wpListX
      rw [if_pos hw]
      cases hfl : floating o.op with
      | true =>
        obtain ⟨v, s', u', hK, hs', _, hr⟩ := fl_sound hfl hs hf.1 h
        refine .inl ?_
        simp only [Oper.wp, hr w (Ext.refl w), Oper.upon]
        exact ih s' u' _ w hf.2 hK hs'
      | false =>
        refine owp_mono ?_ (ef_sound hfl (fun h => by cases h) hs hf.1 h Q)
        rintro a' w' ⟨_, s', u', hs', hK⟩
        exact ih s' u' a' w' hf.2 hK hs'
    · refine wpListX_skip hw (ih _ _ _ _ hf.2 h (hs.put_v hf.1))

theorem fitsOps_at {n : Nat} {ops : Array Oper} (h : fitsOps n ops.toList = true) {i : Nat} {o : Oper} (hi : ops[i]? = some o) : okDst n o.dst = true := by
  simp only [fitsOps, List.all_eq_true] at h
  exact h o (by simpa using Array.mem_of_getElem? hi)

theorem vcOrd_sound {ops : Array Oper} {Q : Exit → Act → World → Prop} (hQ : ∀ a w, LiftN C K a w → Q .normal a w) (A : List (List Nat)) (hfit : fitsOps C.n ops.toList = true) :
    ∀ (l : List (Nat × Bool)) (acc : List Nat) (s : S) (u : World) (a : Act) (w : World), okFlags ops A acc l = true → vcOrd P C.u0 ops.toList K l s u → Sim C s u a w →
      wpD P ops A Q acc (l.map (·.1)) a w := by
  intro l
  induction l with
  | nil => intro acc s u a w _ h hs; exact hQ a w ⟨s, u, hs, h⟩
  | cons p r ih =>
    intro acc s u a w hfl h hs
    obtain ⟨i, x⟩ := p
    simp only [vcOrd, operAt_eq, Array.getElem?_toList] at h
    simp only [okFlags] at hfl
    simp only [List.map_cons, wpD]
    cases hi : ops[i]? with
    | none => simp [hi] at h
    | some o =>
      simp only [hi] at h hfl ⊢
      have hd := fitsOps_at hfit hi
      cases hff : floating o.op with
      | true =>
        simp only [hff, if_true] at hfl ⊢
        rcases vcG_cases hs h with ⟨hw, h⟩ | ⟨hw, h⟩
        · obtain ⟨v, s', u', hK, hs', hp, hr⟩ := fl_sound hff hs hd h
          refine ⟨v, ?_, ih _ s' u' _ w hfl hK hs'⟩
          unfold Yld
          split
          · rename_i hpp; exact .inl ⟨hw, hp hpp⟩
          · exact .inl ⟨hw, hr⟩
        · refine ⟨undef, ?_, ih _ _ u _ w hfl h (hs.put_v hd)⟩
          unfold Yld
          split
          · exact .inr ⟨hw, rfl⟩
          · exact .inr ⟨hw, rfl⟩
      | false =>
        simp only [hff, Bool.false_eq_true, if_false, Bool.and_eq_true, Bool.or_eq_true, Bool.not_eq_true'] at hfl ⊢
        unfold wpOpX
        simp only [hi]
        rcases vcG_cases hs h with ⟨hw, h⟩ | ⟨hw, h⟩
        · rw [if_pos hw]
          refine (owp_mono ?_ (ef_sound hff (fun hx T y z ho => ?_) hs hd h Q))
          · rintro a' w' ⟨hx, s', u', hs', hK⟩
            refine ⟨?_, ih acc s' u' a' w' hfl.2 hK hs'⟩
            rcases hfl.1 with ⟨h1, _⟩ | ⟨_, h1⟩
            · exact .inl (hx h1)
            · exact .inr (fun y hy => by simpa using (List.all_eq_true.1 h1) y hy)
          · rcases hfl.1 with ⟨_, h1⟩ | ⟨h1, _⟩
            · rw [ho] at h1; cases h1
            · rw [h1] at hx; cases hx
        · rw [if_neg (by simp [hw])]
          exact ⟨.inl (Ext.refl w), ih acc _ u _ w hfl.2 h (hs.put_v hd)⟩

theorem keep_put {ks : List Nat} {d : Option Nat} {x : SV} : ∀ k l', memB ks k = true → (s.put d x).find k = some l' → ∃ l, s.find k = some l ∧ l.b = l'.b := fun k l' _ h => ⟨l', by rw [S.find_put] at h; exact h, rfl⟩

theorem vcOrdL_sound {ops : Array Oper} {Q : Exit → Act → World → Prop} (hQ : ∀ a w, LiftN C K a w → Q .normal a w) (A : List (List Nat)) (hfit : fitsOps C.n ops.toList = true) {ks : List Nat} :
    ∀ (l : List (Nat × Bool)) (acc : List Nat) (dyn : List (Nat × (World → Prop))) (s : S) (u : World) (a : Act) (w : World), okFlagsL ops A acc l = true → vcOrdL P C.u0 ops.toList ks K l s u → Sim C s u a w →
      (∀ e ∈ dyn, (∀ w', e.2 w') ∨ (e.1 ∈ acc ∧ HInv ks s w e.2)) → wpE P ops A Q dyn (l.map (·.1)) a w := by
  intro l
  induction l with
  | nil => intro acc dyn s u a w _ h hs _; exact hQ a w ⟨s, u, hs, h⟩
  | cons p r ih =>
    intro acc dyn s u a w hfl h hs hdyn
    obtain ⟨i, x⟩ := p
    simp only [vcOrdL, operAt_eq, Array.getElem?_toList] at h
    simp only [okFlagsL] at hfl
    simp only [List.map_cons, wpE]
    cases hi : ops[i]? with
    | none => simp [hi] at h
    | some o =>
      simp only [hi] at h hfl ⊢
      obtain ⟨hld, hso, h⟩ := h
      have hd := fitsOps_at hfit hi
      cases hff : floating o.op with
      | true =>
        have hnd : newD o = none := by unfold newD; split <;> first | rfl | (rename_i hop; rw [hop] at hff; cases hff)
        simp only [hff, if_true] at hfl ⊢
        rcases vcG_cases hs h with ⟨hw, h⟩ | ⟨hw, h⟩
        · obtain ⟨v, s', u', ⟨hkp, hK⟩, hs', hr⟩ := fl_near hff hld hs hd h
          rw [hnd] at hkp
          have hst : ∀ e ∈ dyn, (∀ w', e.2 w') ∨ (e.1 ∈ acc ∧ HInv ks s' w e.2) := fun e he => (hdyn e he).imp id fun h1 => ⟨h1.1, h1.2.ext (Ext.refl w) (fun k l' hm hf => .inl ((keepL_spec hkp k l' hm hf).resolve_left (by intro h; cases h)))⟩
          rcases hr with hr | ⟨hp, hr⟩
          · refine ⟨v, fun _ => True, trivial, .inl ⟨hw, fun w' _ => hr w'⟩, ih _ _ s' u' _ w hfl hK hs' ?_⟩
            intro e he
            rcases List.mem_cons.1 he with rfl | he
            · exact .inl (fun _ => trivial)
            · refine (hst e he).imp id (fun h1 => ⟨?_, h1.2⟩)
              split
              · exact h1.1
              · exact List.mem_cons_of_mem _ h1.1
          · refine ⟨v, Near ks s u, near_self hs, .inl ⟨hw, hr⟩, ih _ _ s' u' _ w hfl hK hs' ?_⟩
            intro e he
            rw [hp]
            simp only [Bool.false_eq_true, if_false]
            rcases List.mem_cons.1 he with rfl | he
            · exact .inr ⟨List.mem_cons_self, (HInv.self hs).ext (Ext.refl w) (fun k l' hm hf => .inl ((keepL_spec hkp k l' hm hf).resolve_left (by intro h; cases h)))⟩
            · exact (hst e he).imp id (fun h1 => ⟨List.mem_cons_of_mem _ h1.1, h1.2⟩)
        · refine ⟨undef, fun _ => True, trivial, .inr ⟨hw, rfl⟩, ih _ _ _ u _ w hfl h.2 (hs.put_v hd) ?_⟩
          intro e he
          rcases List.mem_cons.1 he with rfl | he
          · exact .inl (fun _ => trivial)
          · refine (hdyn e he).imp id (fun h1 => ⟨?_, h1.2.ext (Ext.refl w) (fun k l' hm hf => .inl (keep_put k l' hm hf))⟩)
            split
            · exact h1.1
            · exact List.mem_cons_of_mem _ h1.1
      | false =>
        simp only [hff, Bool.false_eq_true, if_false, Bool.and_eq_true, Bool.or_eq_true] at hfl ⊢
        -- behind an effect that keeps what is held
        have next : ∀ (a' : Act) (w' : World) (s' : S) (u' : World), Sim C s' u' a' w' → vcOrdL P C.u0 ops.toList ks K r s' u' → (∀ e ∈ dyn, (∀ w', e.2 w') ∨ (e.1 ∈ acc ∧ HInv ks s' w' e.2)) →
            (∀ e ∈ dyn, (A.getD i []).contains e.1 = true ∨ e.2 w') ∧ wpE P ops A Q (dyn.filter fun e => !(A.getD i []).contains e.1) (r.map (·.1)) a' w' := by
          intro a' w' s' u' hs' hK hd'
          refine ⟨fun e he => .inr ?_, ih acc _ s' u' a' w' hfl.2 hK hs' (fun e he => hd' e (List.mem_filter.1 he).1)⟩
          rcases hd' e he with h1 | h1
          · exact h1 w'
          · exact h1.2.holds
        unfold wpOpX
        simp only [hi]
        rcases vcG_cases hs h with ⟨hw, h⟩ | ⟨hw, h⟩
        rotate_left
        · rw [if_neg (by simp [hw])]
          exact next _ w _ u (hs.put_v hd) h.2 (fun e he => (hdyn e he).imp id fun h1 => ⟨h1.1, h1.2.ext (Ext.refl w) (fun k l' hm hf => .inl (keep_put k l' hm hf))⟩)
        rw [if_pos hw]
        by_cases hnd : newD o = none
        · rw [hnd] at h
          cases x with
          | true =>
            by_cases hsto : ∃ T y z, o.op = .store T y z
            · obtain ⟨T, y, z, hop⟩ := hsto
              have hso' := hso rfl
              simp only [stOk, hop] at hso'
              simp only [vcOp, hop] at h
              refine owp_mono ?_ (.inl (ef_storeL hop hso' hs hd h Q))
              rintro a' w' ⟨k, l, hm, hk, ho, s', u', hs', hkp, hK⟩
              exact next a' w' s' u' hs' hK (fun e he => (hdyn e he).imp id fun h1 => ⟨h1.1, h1.2.store hm hk ho (fun k l' hm hf => (keepL_spec hkp k l' hm hf).resolve_left (by intro h; cases h))⟩)
            · refine owp_mono ?_ (ef_sound hff (fun _ T y z ho => hsto ⟨T, y, z, ho⟩) hs hd h Q)
              rintro a' w' ⟨hx, s', u', hs', hkp, hK⟩
              exact next a' w' s' u' hs' hK (fun e he => (hdyn e he).imp id fun h1 => ⟨h1.1, h1.2.ext (hx rfl) (fun k l' hm hf => .inl ((keepL_spec hkp k l' hm hf).resolve_left (by intro h; cases h)))⟩)
          | false =>
            have hall := hfl.1.resolve_left (by simp)
            refine owp_mono ?_ (ef_sound hff (fun h => by cases h) hs hd h Q)
            rintro a' w' ⟨_, s', u', hs', hkp, hK⟩
            have hin : ∀ e ∈ dyn, (∀ w', e.2 w') ∨ (A.getD i []).contains e.1 = true := fun e he => (hdyn e he).imp id fun h1 => (List.all_eq_true.1 hall) e.1 h1.1
            refine ⟨fun e he => (hin e he).elim (fun h1 => .inr (h1 w')) .inl, ih acc _ s' u' a' w' hfl.2 hK hs' (fun e he => ?_)⟩
            obtain ⟨he, hne⟩ := List.mem_filter.1 he
            rcases hin e he with h1 | h1
            · exact .inl h1
            · rw [h1] at hne; cases hne
        · refine owp_mono ?_ (.inl (ef_alloc hnd hs hd h Q))
          rintro a' w' ⟨hx, d, cs, T, hnd', hs', hkp, hK⟩
          refine next a' w' _ u hs' hK (fun e he => (hdyn e he).imp id fun h1 => ⟨h1.1, h1.2.ext hx (fun k l' hm hf => ?_)⟩)
          rcases keepL_spec hkp k l' hm hf with h2 | h2
          · right
            rw [hnd'] at h2
            cases h2
            rw [find_addLoc_eq] at hf
            cases hf
            exact Nat.le_refl _
          · exact .inl h2

theorem keepF_spec {s s' : S} : ∀ {kl : List Nat}, keepF s s' kl → ∀ k, memB kl k = true → s'.find k = s.find k := by
  intro kl
  induction kl with
  | nil => intro _ k h; cases h
  | cons j r ih =>
    intro h k hm
    simp only [memB] at hm
    by_cases hjk : j = k
    · subst hjk; exact h.1
    · refine ih h.2 k ?_
      simpa [hjk] using hm

/-- What is held of a read. -/
def HeldM (kl : List Nat) (s : S) (acc : List Nat) (w : World) (e : Nat × (World → Prop)) : Prop :=
  (∀ w', e.2 w') ∨ (e.1 ∈ acc ∧ ∀ w', Ext w w' → e.2 w') ∨ ∃ k l, memB kl k = true ∧ s.find k = some l ∧ ∀ w' : World, w'.heap[l.b]? = some (.cells l.cells.toArray l.T (0, 0)) → e.2 w'
theorem HeldM.acc {kl : List Nat} {s : S} {acc acc' : List Nat} {w : World} {e : Nat × (World → Prop)} (h : HeldM kl s acc w e) (hs : ∀ x ∈ acc, x ∈ acc') : HeldM kl s acc' w e := h.imp id (Or.imp (fun h1 => ⟨hs _ h1.1, h1.2⟩) id)
theorem HeldM.keep {kl : List Nat} {s s' : S} {acc : List Nat} {w : World} {e : Nat × (World → Prop)} (h : HeldM kl s acc w e) (hk : keepF s s' kl) : HeldM kl s' acc w e :=
  h.imp id (Or.imp id fun ⟨k, l, h1, h2, h3⟩ => ⟨k, l, h1, by rw [keepF_spec hk k h1]; exact h2, h3⟩)

theorem ld_local {o : Oper} {x : Bool} {kl : List Nat} (hl : ldIn kl o s) (hs : Sim C s u a w) (hd : okDst C.n o.dst = true) (h : vcOp P x C.u0 o K s u) :
    ∃ v s' u' k l, K s' u' ∧ Sim C s' u' (a.put o.dst v) w ∧ memB kl k = true ∧ s.find k = some l ∧ ∀ w' : World, w'.heap[l.b]? = some (.cells l.cells.toArray l.T (0, 0)) → (execOp a.eval o).run P w' = .ok (.value v) w' := by
  unfold ldIn at hl
  split at hl
  · rename_i T y hop
    split at hl
    · rename_i k off hv
      unfold vcOp vcLoad at h
      simp only [hop, hv] at h
      split at h
      · rename_i ag n hla
        split at h
        · rename_i l hk
          obtain ⟨h1, h2, h3⟩ := h
          refine ⟨_, _, u, k, l, h3, hs.put_v hd, hl, hk, fun w' he => ?_⟩
          have hev : a.eval y = .pointer (some ⟨l.b, off, none⟩) := hs.eval (by rw [hv]; simp [S.val, hk])
          have := run_loadVar hla h1 h2 (cellsAt_loc he)
          rw [Addr.add_lit, Nat.zero_add] at this
          have h5 : (Instr.loadAt T (a.eval y)).run P w' = .ok (ld ag n off l.cells) w' := by
            rw [hev]
            simpa [Instr.loadAt, Instr.sureAddr] using this
          simp [execOp, hop, h5]
        · exact h.elim
      · exact h.elim
    · exact hl.elim
  · exact hl.elim

theorem vcOrdM_sound {ops : Array Oper} {Q : Exit → Act → World → Prop} (hQ : ∀ a w, LiftN C K a w → Q .normal a w) (A : List (List Nat)) (hfit : fitsOps C.n ops.toList = true) {ls kl : List Nat} :
    ∀ (l : List (Nat × Bool)) (acc : List Nat) (dyn : List (Nat × (World → Prop))) (s : S) (u : World) (a : Act) (w : World), okFlagsM ops A ls acc l = true → vcOrdM P C.u0 ops.toList ls kl K l s u → Sim C s u a w →
      (∀ e ∈ dyn, HeldM kl s acc w e) → wpE P ops A Q dyn (l.map (·.1)) a w := by
  intro l
  induction l with
  | nil => intro acc dyn s u a w _ h hs _; exact hQ a w ⟨s, u, hs, h⟩
  | cons p r ih =>
    intro acc dyn s u a w hfl h hs hdyn
    obtain ⟨i, x⟩ := p
    simp only [vcOrdM, operAt_eq, Array.getElem?_toList] at h
    simp only [okFlagsM] at hfl
    simp only [List.map_cons, wpE]
    cases hi : ops[i]? with
    | none => simp [hi] at h
    | some o =>
      simp only [hi] at h hfl ⊢
      obtain ⟨hld, h⟩ := h
      have hd := fitsOps_at hfit hi
      cases hff : floating o.op with
      | true =>
        simp only [hff, if_true] at hfl ⊢
        have hac : ∀ y ∈ acc, y ∈ (if (pureOp o.op || memB ls i) = true then acc else i :: acc) := fun y hy => by
          split
          · exact hy
          · exact List.mem_cons_of_mem _ hy
        rcases vcG_cases hs h with ⟨hw, h⟩ | ⟨hw, h⟩
        · cases hls : memB ls i with
          | true =>
            obtain ⟨v, s', u', k, l, ⟨hkp, hK⟩, hs', hk, hf, hr⟩ := ld_local (hld hls) hs hd h
            refine ⟨v, fun w' => w'.heap[l.b]? = some (.cells l.cells.toArray l.T (0, 0)), (hs.locs k l hf).1, .inl ⟨hw, hr⟩, ih _ _ s' u' _ w hfl hK hs' ?_⟩
            intro e he
            rcases List.mem_cons.1 he with rfl | he
            · exact .inr (.inr ⟨k, l, hk, by rw [keepF_spec hkp k hk]; exact hf, fun _ h => h⟩)
            · exact ((hdyn e he).keep hkp).acc hac
          | false =>
            obtain ⟨v, s', u', ⟨hkp, hK⟩, hs', hp, hr⟩ := fl_sound hff hs hd h
            refine ⟨v, fun w' => pureOp o.op = false → Ext w w', fun _ => Ext.refl w, .inl ⟨hw, fun w' he => ?_⟩, ih _ _ s' u' _ w hfl hK hs' ?_⟩
            · cases hpp : pureOp o.op with
              | true => exact hp hpp w'
              | false => exact hr w' (he hpp)
            · intro e he
              rcases List.mem_cons.1 he with rfl | he
              · cases hpp : pureOp o.op with
                | true => exact .inl (fun w' h => by cases h)
                | false =>
                  refine .inr (.inl ⟨?_, fun w' he _ => he⟩)
                  simp [hls]
              · exact ((hdyn e he).keep hkp).acc hac
        · refine ⟨undef, fun _ => True, trivial, .inr ⟨hw, rfl⟩, ih _ _ _ u _ w hfl h.2 (hs.put_v hd) ?_⟩
          intro e he
          rcases List.mem_cons.1 he with rfl | he
          · exact .inl (fun _ => trivial)
          · exact ((hdyn e he).keep h.1).acc hac
      | false =>
        simp only [hff, Bool.false_eq_true, if_false, Bool.and_eq_true, Bool.or_eq_true, Bool.not_eq_true'] at hfl ⊢
        have next : ∀ (a' : Act) (w' : World) (s' : S) (u' : World), (x = true → Ext w w') → Sim C s' u' a' w' → keepF s s' kl → vcOrdM P C.u0 ops.toList ls kl K r s' u' →
            (∀ e ∈ dyn, (A.getD i []).contains e.1 = true ∨ e.2 w') ∧ wpE P ops A Q (dyn.filter fun e => !(A.getD i []).contains e.1) (r.map (·.1)) a' w' := by
          intro a' w' s' u' hx hs' hkp hK
          have key : ∀ e ∈ dyn, (A.getD i []).contains e.1 = true ∨ (e.2 w' ∧ HeldM kl s' acc w' e) := by
            intro e he
            rcases hdyn e he with h1 | ⟨h1, h2⟩ | ⟨k, l, h1, h2, h3⟩
            · exact .inr ⟨h1 w', .inl h1⟩
            · rcases hfl.1 with ⟨hxt, _⟩ | ⟨_, hall⟩
              · exact .inr ⟨h2 w' (hx hxt), .inr (.inl ⟨h1, fun w'' hw => h2 w'' ((hx hxt).trans hw)⟩)⟩
              · exact .inl (by simpa using (List.all_eq_true.1 hall) e.1 h1)
            · have hf' : s'.find k = some l := by rw [keepF_spec hkp k h1]; exact h2
              exact .inr ⟨h3 w' (hs'.locs k l hf').1, .inr (.inr ⟨k, l, h1, hf', h3⟩)⟩
          refine ⟨fun e he => (key e he).imp id (·.1), ih acc _ s' u' a' w' hfl.2 hK hs' (fun e he => ?_)⟩
          obtain ⟨he, hne⟩ := List.mem_filter.1 he
          rcases key e he with h1 | h1
          · rw [h1] at hne; cases hne
          · exact h1.2
        unfold wpOpX
        simp only [hi]
        rcases vcG_cases hs h with ⟨hw, h⟩ | ⟨hw, h⟩
        · rw [if_pos hw]
          refine (owp_mono ?_ (ef_sound hff (fun hx T y z ho => ?_) hs hd h Q))
          · rintro a' w' ⟨hx, s', u', hs', hkp, hK⟩
            exact next a' w' s' u' hx hs' hkp hK
          · rcases hfl.1 with ⟨_, h1⟩ | ⟨h1, _⟩
            · rw [ho] at h1; cases h1
            · rw [h1] at hx; cases hx
        · rw [if_neg (by simp [hw])]
          exact next _ w _ u (fun _ => Ext.refl w) (hs.put_v hd) h.1 h.2

theorem vcT_sound {ops : Array Oper} {Q : Exit → Act → World → Prop} (hQ : ∀ a w, LiftN C K a w → Q .normal a w) (A : List (List Nat)) (hfit : fitsOps C.n ops.toList = true) :
    ∀ (t : OT) (acc : List Nat) (s : S) (u : World) (a : Act) (w : World), okFlagsT ops A acc t = true → vcT P C.u0 ops.toList K t s u → Sim C s u a w →
      wpTx P ops A Q acc t a w := by
  intro t
  induction t with
  | done =>
    intro acc s u a w _ h hs
    exact hQ a w ⟨s, u, hs, h⟩
  | no => intro acc s u a w _ h hs; trivial
  | fl i t ih =>
    intro acc s u a w hfl h hs
    simp only [vcT, operAt_eq, Array.getElem?_toList] at h
    simp only [okFlagsT] at hfl
    simp only [wpTx]
    cases hi : ops[i]? with
    | none => simp [hi] at h
    | some o =>
      simp only [hi, Bool.and_eq_true] at h hfl ⊢
      have hd := fitsOps_at hfit hi
      obtain ⟨hff, hfl⟩ := hfl
      rcases vcG_cases hs h with ⟨hw, h⟩ | ⟨hw, h⟩
      · obtain ⟨v, s', u', hK, hs', hp, hr⟩ := fl_sound hff hs hd h
        refine ⟨v, ?_, ih _ s' u' _ w hfl hK hs'⟩
        unfold Yld
        split
        · rename_i hpp; exact .inl ⟨hw, hp hpp⟩
        · exact .inl ⟨hw, hr⟩
      · refine ⟨undef, ?_, ih _ _ u _ w hfl h (hs.put_v hd)⟩
        unfold Yld
        split
        · exact .inr ⟨hw, rfl⟩
        · exact .inr ⟨hw, rfl⟩
  | eff i x t alt iht iha =>
    intro acc s u a w hfl h hs
    simp only [vcT, operAt_eq, Array.getElem?_toList] at h
    simp only [okFlagsT] at hfl
    simp only [wpTx]
    obtain ⟨h, halt⟩ := h
    cases hi : ops[i]? with
    | none => simp [hi] at h
    | some o =>
      simp only [hi, Bool.and_eq_true, Bool.or_eq_true, Bool.not_eq_true'] at h hfl ⊢
      have hd := fitsOps_at hfit hi
      obtain ⟨⟨hx1, hft⟩, hfa⟩ := hfl
      refine ⟨?_, iha acc s u a w hfa halt hs⟩
      unfold wpOpX
      simp only [hi]
      rcases vcG_cases hs h with ⟨hw, h⟩ | ⟨hw, h⟩
      · rw [if_pos hw]
        cases hff : floating o.op with
        | true =>
          obtain ⟨v, s', u', hK, hs', _, hr⟩ := fl_sound hff hs hd h
          refine .inl ?_
          simp only [Oper.wp, hr w (Ext.refl w), Oper.upon]
          exact ⟨.inl (Ext.refl w), iht acc s' u' _ w hft hK hs'⟩
        | false =>
        replace hx1 := hx1.resolve_left (by rw [hff]; simp)
        refine (owp_mono ?_ (ef_sound hff (fun hx T y z ho => ?_) hs hd h Q))
        · rintro a' w' ⟨hx, s', u', hs', hK⟩
          refine ⟨?_, iht acc s' u' a' w' hft hK hs'⟩
          rcases hx1 with ⟨h1, _⟩ | ⟨_, h1⟩
          · exact .inl (hx h1)
          · exact .inr (fun y hy => by simpa using (List.all_eq_true.1 h1) y hy)
        · rcases hx1 with ⟨_, h1⟩ | ⟨h1, _⟩
          · rw [ho] at h1; cases h1
          · rw [h1] at hx; cases hx
      · rw [if_neg (by simp [hw])]
        exact ⟨.inl (Ext.refl w), iht acc _ u _ w hft h (hs.put_v hd)⟩

theorem vcTM_sound {ops : Array Oper} {Q : Exit → Act → World → Prop} (hQ : ∀ a w, LiftN C K a w → Q .normal a w) (A : List (List Nat)) (hfit : fitsOps C.n ops.toList = true) {ls kl : List Nat} :
    ∀ (t : OT) (acc : List Nat) (dyn : List (Nat × (World → Prop))) (s : S) (u : World) (a : Act) (w : World), okFlagsTM ops A ls acc t = true → vcTM P C.u0 ops.toList ls kl K t s u → Sim C s u a w →
      (∀ e ∈ dyn, HeldM kl s acc w e) → wpT P ops A Q dyn t a w := by
  intro t
  induction t with
  | done =>
    intro acc dyn s u a w _ h hs _
    exact hQ a w ⟨s, u, hs, h⟩
  | no => intro acc dyn s u a w _ h hs _; trivial
  | fl i t ih =>
    intro acc dyn s u a w hfl h hs hdyn
    simp only [vcTM, operAt_eq, Array.getElem?_toList] at h
    simp only [okFlagsTM] at hfl
    simp only [wpT]
    cases hi : ops[i]? with
    | none => simp [hi] at h
    | some o =>
      simp only [hi, Bool.and_eq_true] at h hfl ⊢
      obtain ⟨hld, h⟩ := h
      have hd := fitsOps_at hfit hi
      obtain ⟨hff, hfl⟩ := hfl
      have hac : ∀ y ∈ acc, y ∈ (if (pureOp o.op || memB ls i) = true then acc else i :: acc) := fun y hy => by
        split
        · exact hy
        · exact List.mem_cons_of_mem _ hy
      rcases vcG_cases hs h with ⟨hw, h⟩ | ⟨hw, h⟩
      · cases hls : memB ls i with
        | true =>
          obtain ⟨v, s', u', k, l, ⟨hkp, hK⟩, hs', hk, hf, hr⟩ := ld_local (hld hls) hs hd h
          refine ⟨v, fun w' => w'.heap[l.b]? = some (.cells l.cells.toArray l.T (0, 0)), (hs.locs k l hf).1, .inl ⟨hw, hr⟩, ih _ _ s' u' _ w hfl hK hs' ?_⟩
          intro e he
          rcases List.mem_cons.1 he with rfl | he
          · exact .inr (.inr ⟨k, l, hk, by rw [keepF_spec hkp k hk]; exact hf, fun _ h => h⟩)
          · exact ((hdyn e he).keep hkp).acc hac
        | false =>
          obtain ⟨v, s', u', ⟨hkp, hK⟩, hs', hp, hr⟩ := fl_sound hff hs hd h
          refine ⟨v, fun w' => pureOp o.op = false → Ext w w', fun _ => Ext.refl w, .inl ⟨hw, fun w' he => ?_⟩, ih _ _ s' u' _ w hfl hK hs' ?_⟩
          · cases hpp : pureOp o.op with
            | true => exact hp hpp w'
            | false => exact hr w' (he hpp)
          · intro e he
            rcases List.mem_cons.1 he with rfl | he
            · cases hpp : pureOp o.op with
              | true => exact .inl (fun w' h => by cases h)
              | false =>
                refine .inr (.inl ⟨?_, fun w' he _ => he⟩)
                simp [hls]
            · exact ((hdyn e he).keep hkp).acc hac
      · refine ⟨undef, fun _ => True, trivial, .inr ⟨hw, rfl⟩, ih _ _ _ u _ w hfl h.2 (hs.put_v hd) ?_⟩
        intro e he
        rcases List.mem_cons.1 he with rfl | he
        · exact .inl (fun _ => trivial)
        · exact ((hdyn e he).keep h.1).acc hac
  | eff i x t alt iht iha =>
    intro acc dyn s u a w hfl h hs hdyn
    simp only [vcTM, operAt_eq, Array.getElem?_toList] at h
    simp only [okFlagsTM] at hfl
    simp only [wpT]
    obtain ⟨h, halt⟩ := h
    cases hi : ops[i]? with
    | none => simp [hi] at h
    | some o =>
      simp only [hi, Bool.and_eq_true, Bool.or_eq_true, Bool.not_eq_true'] at h hfl ⊢
      have hd := fitsOps_at hfit hi
      obtain ⟨⟨⟨hff, hx1⟩, hft⟩, hfa⟩ := hfl
      refine ⟨?_, iha acc dyn s u a w hfa halt hs hdyn⟩
      have next1 : ∀ (a' : Act) (w' : World) (s' : S) (u' : World), (x = true → Ext w w') → Sim C s' u' a' w' → keepF s s' kl → vcTM P C.u0 ops.toList ls kl K t s' u' →
          (∀ e ∈ dyn, (A.getD i []).contains e.1 = true ∨ e.2 w') ∧ wpT P ops A Q (dyn.filter fun e => !(A.getD i []).contains e.1) t a' w' := by
        intro a' w' s' u' hx hs' hkp hK
        have key : ∀ e ∈ dyn, (A.getD i []).contains e.1 = true ∨ (e.2 w' ∧ HeldM kl s' acc w' e) := by
          intro e he
          rcases hdyn e he with h1 | ⟨h1, h2⟩ | ⟨k, l, h1, h2, h3⟩
          · exact .inr ⟨h1 w', .inl h1⟩
          · rcases hx1 with ⟨hxt, _⟩ | ⟨_, hall⟩
            · exact .inr ⟨h2 w' (hx hxt), .inr (.inl ⟨h1, fun w'' hw => h2 w'' ((hx hxt).trans hw)⟩)⟩
            · exact .inl (by simpa using (List.all_eq_true.1 hall) e.1 h1)
          · have hf' : s'.find k = some l := by rw [keepF_spec hkp k h1]; exact h2
            exact .inr ⟨h3 w' (hs'.locs k l hf').1, .inr (.inr ⟨k, l, h1, hf', h3⟩)⟩
        refine ⟨fun e he => (key e he).imp id (·.1), iht acc _ s' u' a' w' hft hK hs' (fun e he => ?_)⟩
        obtain ⟨he, hne⟩ := List.mem_filter.1 he
        rcases key e he with h1 | h1
        · rw [h1] at hne; cases hne
        · exact h1.2
      have keepF_trans : ∀ {s1 s2 s3 : S} {l : List Nat}, keepF s1 s2 l → keepF s2 s3 l → keepF s1 s3 l := by
        intro s1 s2 s3 l
        induction l with
        | nil => intro _ _; trivial
        | cons k r ih => intro h1 h2; exact ⟨h2.1.trans h1.1, ih h1.2 h2.2⟩
      have next : ∀ (a' : Act) (w' : World) (s' : S) (u' : World), (x = true → Ext w w') → Sim C s' u' a' w' → keepF s s' kl → LeKM kl (vcTM P C.u0 ops.toList ls kl K t) s' u' →
          (∀ e ∈ dyn, (A.getD i []).contains e.1 = true ∨ e.2 w') ∧ wpT P ops A Q (dyn.filter fun e => !(A.getD i []).contains e.1) t a' w' := by
        intro a' w' s' u' hx hs' hkp hK
        rcases hK with hK | ⟨s1, hle, hk1, hK⟩
        · exact next1 a' w' s' u' hx hs' hkp hK
        · exact next1 a' w' s1 u' hx (hs'.le_of hle) (keepF_trans hkp hk1) hK
      unfold wpOpX
      simp only [hi]
      rcases vcG_cases hs h with ⟨hw, h⟩ | ⟨hw, h⟩
      · rw [if_pos hw]
        refine (owp_mono ?_ (ef_sound hff (fun hx T y z ho => ?_) hs hd h Q))
        · rintro a' w' ⟨hx, s', u', hs', hkp, hK⟩
          exact next a' w' s' u' hx hs' hkp hK
        · rcases hx1 with ⟨_, h1⟩ | ⟨h1, _⟩
          · rw [ho] at h1; cases h1
          · rw [h1] at hx; cases hx
      · rw [if_neg (by simp [hw])]
        exact next _ w _ u (fun _ => Ext.refl w) (hs.put_v hd) h.1 h.2

end

/-! ### Code -/

def BlockK (id : Nat) (Q : Exit → S → World → Prop) (e : Exit) (s : S) (u : World) : Prop :=
  match e with
  | .exit j => bif j == id then Q .normal s u else Q (.exit j) s u
  | e => Q e s u

/-- Behind a block: less may be said of the slots. -/
def BlockW (id : Nat) (Q : Exit → S → World → Prop) (e : Exit) (s : S) (u : World) : Prop :=
  match e with
  | .exit j => bif j == id then LeK (Q .normal) s u else Q (.exit j) s u
  | .normal => LeK (Q .normal) s u
  | e => Q e s u

/-- Behind a round of a loop. -/
def LoopK {γ : Type} (st : γ → S) (F : γ → World → Prop) (μ : γ → Nat) (g : γ) (Q : Exit → S → World → Prop) (e : Exit) (s : S) (u : World) : Prop :=
  match e with
  | .normal => ∃ g', (st g').le s ∧ F g' u ∧ μ g' < μ g
  | e => Q e s u

def fits (n : Nat) : Code → Bool
  | .region _ ops _ => fitsOps n ops.toList && noDefs ops.toList
  | .seq x y => fits n x && fits n y
  | .cond _ x y => fits n x && fits n y
  | .block _ x => fits n x
  | .loop x => fits n x
  | .rangeFunc _ ps x y => (ps.toList.all fun t => decide (t < n)) && fits n x && fits n y
  | _ => true

def LiftQ (C : Ctx) (Q : Exit → S → World → Prop) : Exit → Act → World → Prop
  | .normal, a, w => LiftN C (Q .normal) a w
  | .ret, a, w => LiftN C (Q .ret) a w
  | .exit id, a, w => LiftN C (Q (.exit id)) a w
  | _, _, _ => False

/-- What a piece of code does, whatever stands below the symbolic state: here ways may be cut. -/
def Vc (P : Program) (u0 : World) (c : Code) (Q : Exit → S → World → Prop) (s : S) (u : World) : Prop :=
  P.follows .mixedOrders = true → ∀ (C : Ctx) (a : Act) (w : World), C.u0 = u0 → fits C.n c = true → Sim C s u a w → cwp C.rd P c (LiftQ C Q) a w

def vc (P : Program) (u0 : World) : Code → (Exit → S → World → Prop) → S → World → Prop
  | .skip, Q, s, u => Q .normal s u
  | .region _ ops false, Q, s, u => vcOps P u0 ops.toList (Q .normal) ops.toList s u
  | .region _ ops true, Q, s, u => AtDraw P u0 ops (Q .normal) s u
  | .seq x y, Q, s, u => vc P u0 x (fun e s u => match e with | .normal => vc P u0 y Q s u | e => Q e s u) s u
  | .cond c x y, Q, s, u =>
    match s.sv c with
    | .v (.bool t) => (t = true → vc P u0 x Q s u) ∧ (t = false → vc P u0 y Q s u)
    | _ => False
  | .block id x, Q, s, u => vc P u0 x (BlockW id Q) s u
  | .loop x, Q, s, u => ∃ (γ : Type) (st : γ → S) (F : γ → World → Prop) (μ : γ → Nat), (∃ g, (st g).le s ∧ F g u) ∧ ∀ g u, F g u → Vc P u0 x (LoopK st F μ g Q) (st g) u
  | .exit id, Q, s, u => Q (.exit id) s u
  | .ret, Q, s, u => Q .ret s u
  | .rangeFunc g ps x y, Q, s, u => Vc P u0 (.rangeFunc g ps x y) Q s u
  | _, _, _, _ => False

/-- Behind the first of two pieces. -/
def SeqK (P : Program) (u0 : World) (y : Code) (Q : Exit → S → World → Prop) (e : Exit) (s : S) (u : World) : Prop :=
  match e with
  | .normal => vc P u0 y Q s u
  | e => Q e s u

theorem vc_sound {P : Program} (hm : P.follows .mixedOrders = true) {C : Ctx} : ∀ (c : Code) (Q : Exit → S → World → Prop) (s : S) (u : World) (a : Act) (w : World),
    fits C.n c = true → vc P C.u0 c Q s u → Sim C s u a w → cwp C.rd P c (LiftQ C Q) a w := by
  intro c
  induction c with
  | skip => intro Q s u a w _ h hs; exact cwp_skip ⟨s, u, hs, h⟩
  | region id ops draw =>
    intro Q s u a w hf h hs
    simp only [fits, Bool.and_eq_true] at hf
    obtain ⟨hf, hnd⟩ := hf
    have hlo : ¬ LetsOut (LiftQ C Q) := fun ⟨_, _, h⟩ => h
    cases draw with
    | false => exact cwp_region_list hnd (vcOps_sound (fun a w h => h) _ s u a w hf h hs)
    | true =>
      rcases h with ⟨ord, hok, h⟩ | ⟨t, hok, h⟩ | ⟨ord, ks, hok, h⟩ | ⟨ord, ls, kl, hok, h⟩ | ⟨t, ls, kl, hok, h⟩
      rotate_right
      · simp only [okTreeM, Bool.and_eq_true] at hok
        refine cwp_region_tree hm hok.1 hnd ?_ (vcTM_sound (K := LeK (Q .normal)) (fun a w h => LiftN.of_le h) _ hf t [] [] s u a _ hok.2 h (hs.ext (ext_drawn w _) ⟨Nat.le_refl _, rfl, rfl⟩) (fun e he => by cases he))
        exact ⟨fun c a w d v h => h, hlo⟩
      rotate_right
      · simp only [okDrawM, Bool.and_eq_true] at hok
        refine cwp_region_ordL hm hok.1 hnd ?_ (vcOrdM_sound (fun a w h => h) _ hf ord [] [] s u a _ hok.2 h (hs.ext (ext_drawn w _) ⟨Nat.le_refl _, rfl, rfl⟩) (fun e he => by cases he))
        exact ⟨fun c a w d v h => h, hlo⟩
      rotate_right
      · simp only [okDrawL, Bool.and_eq_true] at hok
        refine cwp_region_ordL hm hok.1 hnd ?_ (vcOrdL_sound (fun a w h => h) _ hf ord [] [] s u a _ hok.2 h (hs.ext (ext_drawn w _) ⟨Nat.le_refl _, rfl, rfl⟩) (fun e he => by cases he))
        exact ⟨fun c a w d v h => h, hlo⟩
      · simp only [okDraw, Bool.and_eq_true] at hok
        refine cwp_region_ord hm hok.1 hnd ?_ (vcOrd_sound (fun a w h => h) _ hf ord [] s u a _ hok.2 h (hs.ext (ext_drawn w _) ⟨Nat.le_refl _, rfl, rfl⟩))
        exact ⟨fun c a w d v h => h, hlo⟩
      · simp only [okTreeF, Bool.and_eq_true] at hok
        refine cwp_region_tree hm hok.1 hnd ?_ (wpT_of _ t [] [] _ _ (fun e he => by cases he) (vcT_sound (K := LeK (Q .normal)) (fun a w h => LiftN.of_le h) _ hf t [] s u a _ hok.2 h (hs.ext (ext_drawn w _) ⟨Nat.le_refl _, rfl, rfl⟩)))
        exact ⟨fun c a w d v h => h, hlo⟩
  | seq x y ihx ihy =>
    intro Q s u a w hf h hs
    simp only [fits, Bool.and_eq_true] at hf
    refine cwp_seq (cwp_mono (ihx _ s u a w hf.1 h hs) ?_)
    intro e a w hl
    cases e with
    | normal => obtain ⟨s, u, hs, h⟩ := hl; exact ihy Q s u a w hf.2 h hs
    | exit id => exact hl
    | goto l => exact hl
    | ret => exact hl
    | panic c => exact hl
    | outgrown => exact hl
  | cond c x y ihx ihy =>
    intro Q s u a w hf h hs
    simp only [fits, Bool.and_eq_true] at hf
    simp only [vc] at h
    split at h
    · rename_i t ht
      exact cwp_cond_split (hs.eval_v ht) (fun e => ihx Q s u a w hf.1 (h.1 e) hs) (fun e => ihy Q s u a w hf.2 (h.2 e) hs)
    · exact h.elim
  | block id x ih =>
    intro Q s u a w hf h hs
    refine cwp_block (cwp_mono (ih _ s u a w hf h hs) ?_)
    intro e a w hl
    cases e with
    | normal => exact LiftN.of_le hl
    | exit j =>
      obtain ⟨s, u, hs, h⟩ := hl
      simp only [BlockW] at h
      by_cases hj : j = id
      · subst hj
        simp only [beq_self_eq_true, cond_true] at h
        simp only [Exit.inBlock, if_true]
        exact LiftN.of_le ⟨s, u, hs, h⟩
      · have hb : (j == id) = false := by simpa using hj
        simp only [hb, cond_false] at h
        simp only [Exit.inBlock, hj, if_false]
        exact ⟨s, u, hs, h⟩
    | goto l => exact hl
    | ret => exact hl
    | panic c => exact hl
    | outgrown => exact hl
  | loop x ih =>
    intro Q s u a w hf h hs
    obtain ⟨γ, st, F, μ, ⟨g0, hle, hF⟩, hround⟩ := h
    refine cwp_loop (fun g a w => ∃ u, Sim C (st g) u a w ∧ F g u) μ ⟨g0, u, hs.le_of hle, hF⟩ ?_
    rintro g a w ⟨u, hs, hF⟩
    refine cwp_mono (hround g u hF hm C a w rfl hf hs) ?_
    intro e a1 w1 hq
    cases e with
    | normal =>
      obtain ⟨s', u', hs', g', hle', hF', hlt⟩ := hq
      exact ⟨g', ⟨u', hs'.le_of hle', hF'⟩, hlt⟩
    | exit id => exact hq
    | goto l => exact hq.elim
    | ret => exact hq
    | panic c => exact hq.elim
    | outgrown => exact hq.elim
  | exit id => intro Q s u a w _ h hs; exact cwp_exit ⟨s, u, hs, h⟩
  | ret => intro Q s u a w _ h hs; exact cwp_ret ⟨s, u, hs, h⟩
  | rangeFunc f ps x y => intro Q s u a w hf h hs; exact h hm C a w rfl hf hs
  | scope x => intro Q s u a w _ h _; exact h.elim
  | label l => intro Q s u a w _ h _; exact h.elim
  | goto l => intro Q s u a w _ h _; exact h.elim
  | refuse w => intro Q s u a w _ h _; exact h.elim


theorem Vc.of {P : Program} {u0 : World} {c : Code} {Q : Exit → S → World → Prop} {s : S} {u : World} (h : vc P u0 c Q s u) : Vc P u0 c Q s u := by
  intro hm C a w hu hf hs
  subst hu
  exact vc_sound hm c Q s u a w hf h hs

/-- The first statements of a piece of code; those behind them. -/
def cFst : Nat → Code → Code
  | 0, .seq a _ => a
  | k + 1, .seq a r => .seq a (cFst k r)
  | _, c => c
def cSnd : Nat → Code → Code
  | 0, .seq _ r => r
  | k + 1, .seq _ r => cSnd k r
  | _, _ => .skip

/-- Behind the first statements. -/
def CutQ {γ : Type} (st : γ → S) (F : γ → World → Prop) (Q : Exit → S → World → Prop) (e : Exit) (s : S) (u : World) : Prop :=
  match e with
  | .normal => ∃ g, (st g).le s ∧ F g u
  | e => Q e s u

def cOk : Nat → Code → Bool
  | 0, .seq _ _ => true
  | k + 1, .seq _ r => cOk k r
  | _, _ => false

/-- **A cut**: behind the first statements no more is known than is said. -/
theorem cutV {P : Program} {u0 : World} {Q : Exit → S → World → Prop} {γ : Type} (st : γ → S) (F : γ → World → Prop) : ∀ (k : Nat) (c : Code) (s : S) (u : World), cOk k c = true → vc P u0 (cFst k c) (CutQ st F Q) s u →
    (∀ g u', F g u' → Vc P u0 (cSnd k c) Q (st g) u') → Vc P u0 c Q s u := by
  intro k
  induction k with
  | zero =>
    intro c s u hok h1 h2
    cases c with
    | seq x y =>
      intro hm C a w hu hf hs
      subst hu
      simp only [fits, Bool.and_eq_true] at hf
      refine cwp_seq (cwp_mono (vc_sound hm x _ s u a w hf.1 h1 hs) ?_)
      intro e a w hl
      cases e with
      | normal =>
        obtain ⟨s, u, hs, g, hle, hF⟩ := hl
        exact h2 g u hF hm C a w rfl hf.2 (hs.le_of hle)
      | exit id => exact hl
      | goto l => exact hl
      | ret => exact hl
      | panic c => exact hl
      | outgrown => exact hl
    | _ => cases hok
  | succ k ih =>
    intro c s u hok h1 h2
    cases c with
    | seq x y =>
      intro hm C a w hu hf hs
      subst hu
      simp only [fits, Bool.and_eq_true] at hf
      refine cwp_seq (cwp_mono (vc_sound hm x _ s u a w hf.1 h1 hs) ?_)
      intro e a w hl
      cases e with
      | normal =>
        obtain ⟨s, u, hs, h⟩ := hl
        exact ih y s u hok h h2 hm C a w rfl hf.2 hs
      | exit id => exact hl
      | goto l => exact hl
      | ret => exact hl
      | panic c => exact hl
      | outgrown => exact hl
    | _ => cases hok

/-! ### Functions -/

def initR : Nat → List Value → List (Nat × SV)
  | _, [] => []
  | i, v :: r => (i, .v v) :: initR (i + 1) r

def resOne (P : Program) (s : S) : ResultVar → Option Value
  | .tmp t => s.val (s.get t)
  | .cell t T =>
    match s.get t, lay P T with
    | .loc k off, some (ag, n) => match s.find k with
      | some l => if (n = 1 ∨ ag = true) ∧ off + n ≤ l.cells.length then some (ld ag n off l.cells) else none
      | none => none
    | _, _ => none

def resAll (P : Program) (s : S) : List ResultVar → Option Value
  | [] => some (.tuple #[])
  | [x] => resOne P s x
  | [x, y] => match resOne P s x, resOne P s y with
    | some a, some b => some (.tuple #[a, b])
    | _, _ => none
  | [x, y, z] => match resOne P s x, resOne P s y, resOne P s z with
    | some a, some b, some c => some (.tuple #[a, b, c])
    | _, _, _ => none
  | [x, y, z, t] => match resOne P s x, resOne P s y, resOne P s z, resOne P s t with
    | some a, some b, some c, some d => some (.tuple #[a, b, c, d])
    | _, _, _, _ => none
  | _ => none

abbrev DoneK (Post : Value → World → Prop) (r : Option Value) (u : World) : Prop :=
  match r with
  | some v => Post v u
  | none => False

/-- The end of a function. -/
def RetK (P : Program) (rs : List ResultVar) (Post : Value → World → Prop) (e : Exit) (s : S) (u : World) : Prop :=
  match e with
  | .normal => DoneK Post (resAll P s rs) u
  | .ret => DoneK Post (resAll P s rs) u
  | _ => False

section
variable {P : Program} {C : Ctx} {s : S} {u : World} {a : Act} {w : World}

def resRun (tmps : Array Value) : ResultVar → Sem Value
  | .tmp t => pure (tmps.getD t undef)
  | .cell x t => do loadVar t (← asAddr (tmps.getD x undef))

theorem resOne_run (hs : Sim C s u a w) {x : ResultVar} {v : Value} (h : resOne P s x = some v) : (resRun a.tmps x).run P w = .ok v w := by
  cases x with
  | tmp t => simp only [resRun, Sem.run_pure]; rw [hs.slots t v h]
  | cell t T =>
    simp only [resOne] at h
    split at h
    · rename_i k off ag n hg hl
      split at h
      · rename_i l hk
        split at h
        · rename_i hc
          cases h
          have h1 := hs.slots t (.pointer (some ⟨l.b, off, none⟩)) (by rw [hg]; simp [S.val, hk])
          have h2 := run_loadVar hl hc.1 hc.2 (cellsAt_loc (hs.locs k l hk).1)
          rw [Addr.add_lit, Nat.zero_add] at h2
          simp only [resRun, h1, asAddr, Sem.run_bind, Sem.run_pure, Result.andThen_ok]
          exact h2
        · cases h
      · cases h
    · cases h

theorem results_eq (fn : Func) (tmps : Array Value) : results fn tmps = (do let vs ← fn.results.mapM (resRun tmps); pure (if h : vs.size = 1 then vs[0] else .tuple vs)) := by
  unfold results
  congr 2

theorem resAll_run {fn : Func} (hs : Sim C s u a w) {v : Value} (h : resAll P s fn.results.toList = some v) : (results fn a.tmps).run P w = .ok v w := by
  rw [results_eq]
  obtain ⟨l, hr⟩ : ∃ l : List ResultVar, fn.results = l.toArray := ⟨fn.results.toList, by simp⟩
  rw [hr] at h ⊢
  simp only at h
  match l, h with
  | [], h => simp [resAll] at h; simp [h]
  | [x], h => simp [resAll] at h; simp [resOne_run hs h]
  | [x, y], h =>
    simp only [resAll] at h
    split at h
    · rename_i v1 v2 h1 h2; cases h; simp [resOne_run hs h1, resOne_run hs h2]
    · cases h
  | [x, y, z], h =>
    simp only [resAll] at h
    split at h
    · rename_i v1 v2 v3 h1 h2 h3; cases h; simp [resOne_run hs h1, resOne_run hs h2, resOne_run hs h3]
    · cases h
  | [x, y, z, t], h =>
    simp only [resAll] at h
    split at h
    · rename_i v1 v2 v3 v4 h1 h2 h3 h4; cases h; simp [resOne_run hs h1, resOne_run hs h2, resOne_run hs h3, resOne_run hs h4]
    · cases h
  | _ :: _ :: _ :: _ :: _ :: _, h => simp [resAll] at h

end

theorem lk_initR : ∀ (vs : List Value) (i t : Nat) (x : SV), lk (initR i vs) t = some x → ∃ j v, t = i + j ∧ vs[j]? = some v ∧ x = .v v := by
  intro vs
  induction vs with
  | nil => intro i t x h; cases h
  | cons v r ih =>
    intro i t x h
    simp only [initR] at h
    by_cases hit : i = t
    · subst hit
      rw [lk_cons_eq] at h
      cases h
      exact ⟨0, v, rfl, rfl, rfl⟩
    · rw [lk_cons_ne hit] at h
      obtain ⟨j, v', h1, h2, h3⟩ := ih (i + 1) t x h
      exact ⟨j + 1, v', by omega, by simpa using h2, h3⟩

theorem sim_init {n : Nat} {args : List Value} (hn : args.length ≤ n) {w u u0 : World} (hu : Sub u w) (h0 : Sub u0 w) :
    Sim ⟨n, w, u, u0, none, []⟩ ⟨initR 0 args, []⟩ u { tmps := args.toArray ++ Array.replicate (n - args.toArray.size) undef, defers := [] } w := by
  have hget : ∀ t x, (⟨initR 0 args, []⟩ : S).get t = x → x ≠ .unk → ∃ v, args[t]? = some v ∧ x = .v v := by
    intro t x h hx
    simp only [S.get] at h
    cases hl : lk (initR 0 args) t with
    | none => rw [hl] at h; exact absurd h.symm hx
    | some y =>
      rw [hl] at h
      obtain ⟨j, v, h1, h2, h3⟩ := lk_initR args 0 t y hl
      simp at h h1
      subst h1
      exact ⟨v, h2, by rw [← h]; exact h3⟩
  refine ⟨by simp; omega, ⟨List.nodup_nil, (fun d hd => by cases hd), (fun l hl => by cases hl), fun p hp => by cases hp⟩, ?_, ?_, ?_, hu, ?_, ?_, fun b o h => .inl h, fun b hb h => h, ⟨Nat.le_refl _, rfl, rfl⟩, h0, h0⟩
  · intro t v hv
    have hx : (⟨initR 0 args, []⟩ : S).get t ≠ .unk := by intro h; rw [h] at hv; cases hv
    obtain ⟨v', h1, h2⟩ := hget t _ rfl hx
    rw [h2] at hv
    simp [S.val] at hv
    subst hv
    have hlt : t < args.length := by rcases Nat.lt_or_ge t args.length with h | h; exact h; simp [List.getElem?_eq_none h] at h1
    have h3 : args[t] = v' := by simpa [hlt] using h1
    simp [Array.getElem?_append, hlt, h3]
  · intro t k off ht
    obtain ⟨v, _, h2⟩ := hget t _ ht (by intro h; cases h)
    cases h2
  · intro t sv sz i off ht
    obtain ⟨v, _, h2⟩ := hget t _ ht (by intro h; cases h)
    cases h2
  · intro k l h; cases h
  · intro k k' l l' h; cases h

/-- A contract: what was known stays known, and all of memory that stood stands. -/
def Con (P : Program) (f : FuncId) (args : List Value) (u : World) (Post : Value → World → Prop) : Prop :=
  hasBody P f = true ∧ ∀ w, Sub u w → Calls P f args.toArray w fun e w' => ∃ r u', e = .returned r ∧ Step true u u w u' w' ∧ Sub u u' ∧ Post r u'

theorem AtCall.of_spec {x : Bool} {P : Program} {f : FuncId} {args : List Value} {u0 u : World} {Post K : Value → World → Prop} (h : Con P f args u Post)
    (hk : ∀ r u', Sub u u' → Post r u' → K r u') : AtCall x P f args u0 u K := by
  refine .inl ⟨h.1, fun w hu _ => (h.2 w hu).mono ?_⟩
  rintro e w' ⟨r, u', rfl, hst, hsub, hp⟩
  exact ⟨r, u', rfl, ⟨hst.sub, fun b o hb => .inl (hst.ext b o hb), hst.dom, hst.le⟩, hk r u' hsub hp⟩

/-- The blocks of the marks are shut. -/
theorem Sim.shut {C : Ctx} {s : S} {u : World} {a : Act} {w : World} (h : Sim C s u a w) {d : Deferred} {ds : List Deferred} (hd : a.defers = d :: ds) {D : Nat} (e : d = { target := .collected D, args := #[] }) (h1 : w.heap[D]? = some (.deferred (some []))) (h2 : Fresh u D) (h3 : C.w0.heap.size ≤ D) (hx : ∀ p ∈ C.held, p.1 ≠ D) :
    Sim C s u { tmps := a.tmps, defers := ds } (w.putObj D (.deferred none)) := by
  have hm := h.defers
  rw [hd] at hm
  have hoth : ∀ b, b ≠ D → (w.putObj D (.deferred none)).heap[b]? = w.heap[b]? := fun b hb => World.putObj_heap_other hb
  have hsub : ∀ {v : World}, Sub v w → Fresh v D → Sub v (w.putObj D (.deferred none)) := fun hv hf b o hb ho => by
    rw [hoth b (fun e => by subst e; exact ho (hf o hb))]
    exact hv b o hb ho
  have h0 : Fresh C.u0 D := fun o ho => Classical.byContradiction fun hn => by
    have := lt_of_some (h.sub00 D o ho hn)
    omega
  refine ⟨h.size, ⟨(List.nodup_cons.1 hm.nd).2, fun d' hd' => ?_, hm.rcd, fun p hp => ?_⟩, h.slots, h.wfl, h.wfe, hsub h.sub h2, fun k l hk => ?_, h.dist, fun b o hb => ?_, h.dom, ⟨by have := h.le.size; simpa using this, h.le.os, h.le.output⟩, hsub h.sub0 h0, h.sub00⟩
  · obtain ⟨D', e', g1, g2, g3⟩ := hm.mks d' (List.mem_cons_of_mem _ hd')
    refine ⟨D', e', ?_, g2, g3⟩
    rw [hoth D' (fun e2 => (List.nodup_cons.1 hm.nd).1 (by rw [e, ← e2, ← e']; exact hd'))]
    exact g1
  · obtain ⟨g1, g2, g3⟩ := hm.hld p hp
    refine ⟨?_, g2, g3⟩
    rw [hoth p.1 (fun e2 => hx p hp e2)]
    exact g1
  · obtain ⟨g1, g2, g3⟩ := h.locs k l hk
    refine ⟨?_, g2, g3⟩
    rw [hoth l.b (fun e2 => by rw [e2, h1] at g1; cases g1)]
    exact g1
  · rw [hoth b (fun e2 => by have := lt_of_some hb; omega)]
    exact h.keep b o hb
theorem Sim.leaves {P : Program} {fn : Func} {C : Ctx} {s : S} {u : World} {R : Ending → World → Prop} {t : Array Value} (hh : C.held = []) : ∀ {ds : List Deferred} {w : World}, Sim C s u ⟨t, ds⟩ w →
    (∀ w2, Sim C s u ⟨t, []⟩ w2 → ∃ v, (results fn t).run P w2 = .ok v w2 ∧ R (.returned v) w2) → LeavesInM Fence.wide 0 P fn t R ds .returning w
  | [], w, h, k => k w h
  | d :: ds, w, h, k => by
    obtain ⟨D, e, h1, h2, h3⟩ := h.defers.mks d List.mem_cons_self
    exact ⟨(fun h => by cases h), .inl ⟨D, _, by rw [e], run_takeDeferred h1, Sim.leaves hh (h.shut rfl e h1 h2 h3 (fun p hp => by rw [hh] at hp; cases hp)) k⟩⟩

theorem call_of_Vc {P : Program} (hm : P.follows .mixedOrders = true) {f : FuncId} {fn : Func} {c : Code} (hf : P.funcs[f]? = some fn) (hb : fn.body = some c) (hbody : hasBody P f = true)
    (hfit : fits fn.ntmps c = true) {args : List Value} (hn : Nat.ble args.length fn.ntmps = true) (rs : List ResultVar) (hrs : fn.results.toList = rs) {u0 u : World} {Post : Value → World → Prop}
    (h : Vc P u0 c (RetK P rs Post) ⟨initR 0 args, []⟩ u) : CallB false P f args u0 u Post := by
  subst hrs
  refine ⟨hbody, fun w hu h0 => callsIn_wide.1 (callsIn_of_wp_marks (F := Fence.wide) (n := 0) hf hb trivial ?_)⟩
  have hsim := sim_init (Nat.le_of_ble_eq_true hn) hu h0
  refine wpIn_mono (h hm ⟨fn.ntmps, w, u, u0, none, []⟩ _ w rfl hfit hsim 0) ?_
  have fin : ∀ a w', (∃ s u', Sim ⟨fn.ntmps, w, u, u0, none, []⟩ s u' a w' ∧ DoneK Post (resAll P s fn.results.toList) u') →
      LeavesInM Fence.wide 0 P fn a.tmps (fun e w' => ∃ r u', e = .returned r ∧ Step false u0 u w u' w' ∧ Post r u') a.defers .returning w' := by
    rintro a w' ⟨s, u', hs, hd⟩
    unfold DoneK at hd
    split at hd
    · rename_i v hv
      refine hs.leaves rfl fun w2 h2 => ⟨v, resAll_run h2 hv, v, u', rfl, ⟨h2.sub, fun b o hb => (h2.keep b o hb).imp id (fun h => ⟨rfl, h⟩), h2.dom, h2.le⟩, hd⟩
    · exact hd.elim
  intro e a w' hl
  cases e with
  | normal => exact fin a w' hl
  | ret => exact fin a w' hl
  | exit id => obtain ⟨s, u', _, h⟩ := hl; exact h.elim
  | goto l => exact hl.elim
  | panic c => exact hl.elim
  | outgrown => exact hl.elim

theorem call_of_vc {P : Program} (hm : P.follows .mixedOrders = true) {f : FuncId} {fn : Func} {c : Code} (hf : P.funcs[f]? = some fn) (hb : fn.body = some c) (hbody : hasBody P f = true)
    (hfit : fits fn.ntmps c = true) {args : List Value} (hn : Nat.ble args.length fn.ntmps = true) (rs : List ResultVar) (hrs : fn.results.toList = rs) {u0 u : World} {Post : Value → World → Prop}
    (h : vc P u0 c (RetK P rs Post) ⟨initR 0 args, []⟩ u) : CallB false P f args u0 u Post :=
  call_of_Vc hm hf hb hbody hfit hn rs hrs (Vc.of h)

theorem spec_of_vc {P : Program} (hm : P.follows .mixedOrders = true) {f : FuncId} {fn : Func} {c : Code} (hf : P.funcs[f]? = some fn) (hb : fn.body = some c) (hbody : hasBody P f = true)
    (hfit : fits fn.ntmps c = true) {args : List Value} (hn : Nat.ble args.length fn.ntmps = true) (rs : List ResultVar) (hrs : fn.results.toList = rs) {u : World} {Post : Value → World → Prop}
    (h : vc P u c (RetK P rs (fun r u' => Sub u u' ∧ Post r u')) ⟨initR 0 args, []⟩ u) : Con P f args u Post := by
  obtain ⟨h1, h2⟩ := call_of_vc hm hf hb hbody hfit hn rs hrs h
  refine ⟨h1, fun w hu => (h2 w hu hu).mono ?_⟩
  rintro e w' ⟨r, u', he, hst, hsub, hp⟩
  exact ⟨r, u', he, ⟨hst.sub, fun b o hb => .inl ((hst.keep b o hb).resolve_right (fun h => h.2.1 h.2.2)), hst.dom, hst.le⟩, hsub, hp⟩

theorem spec_of_Vc {P : Program} (hm : P.follows .mixedOrders = true) {f : FuncId} {fn : Func} {c : Code} (hf : P.funcs[f]? = some fn) (hb : fn.body = some c) (hbody : hasBody P f = true)
    (hfit : fits fn.ntmps c = true) {args : List Value} (hn : Nat.ble args.length fn.ntmps = true) (rs : List ResultVar) (hrs : fn.results.toList = rs) {u : World} {Post : Value → World → Prop}
    (h : Vc P u c (RetK P rs (fun r u' => Sub u u' ∧ Post r u')) ⟨initR 0 args, []⟩ u) : Con P f args u Post := by
  obtain ⟨h1, h2⟩ := call_of_Vc hm hf hb hbody hfit hn rs hrs h
  refine ⟨h1, fun w hu => (h2 w hu hu).mono ?_⟩
  rintro e w' ⟨r, u', he, hst, hsub, hp⟩
  exact ⟨r, u', he, ⟨hst.sub, fun b o hb => .inl ((hst.keep b o hb).resolve_right (fun h => h.2.1 h.2.2)), hst.dom, hst.le⟩, hsub, hp⟩

end Go.Eng
