/-
  Engine, part F: regions, code, loops, functions.
-/
import Derived.Test.YtcaobkpfafcnjaaEy
set_option linter.unusedSimpArgs false
set_option linter.unusedVariables false
namespace Go.Eng

/-! ### Regions -/

def dstAt : List Oper → Nat → Option Nat
  | [], _ => none
  | o :: _, 0 => o.dst
  | _ :: r, j + 1 => dstAt r j

def operAt : List Oper → Nat → Option Oper
  | [], _ => none
  | o :: _, 0 => some o
  | _ :: r, j + 1 => operAt r j

/-- A guarded operation. -/
def vcG (P : Program) (x : Bool) (u0 : World) (all : List Oper) (o : Oper) (K : S → World → Prop) (s : S) (u : World) : Prop :=
  match o.guard with
  | none => vcOp P x u0 o K s u
  | some (j, want) =>
    match dstAt all j with
    | some d =>
      match s.get d with
      | .v (.bool c) => (c = want → vcOp P x u0 o K s u) ∧ (c = !want → K (s.put o.dst (.v undef)) u)
      | .v (.tuple _) => K (s.put o.dst (.v undef)) u
      | _ => False
    | none => False

/-- In the text's order. -/
def vcOps (P : Program) (u0 : World) (all : List Oper) (K : S → World → Prop) : List Oper → S → World → Prop
  | [], s, u => K s u
  | o :: r, s, u => vcG P false u0 all o (vcOps P u0 all K r) s u

/-- In an order that is given. -/
def vcOrd (P : Program) (u0 : World) (all : List Oper) (K : S → World → Prop) : List (Nat × Bool) → S → World → Prop
  | [], s, u => K s u
  | (i, x) :: r, s, u =>
    match operAt all i with
    | some o => vcG P x u0 all o (vcOrd P u0 all K r) s u
    | none => False

def isStore : Op → Bool
  | .store .. => true
  | _ => false

def okFlags (ops : Array Oper) (A : List (List Nat)) : List Nat → List (Nat × Bool) → Bool
  | _, [] => true
  | acc, (i, x) :: r =>
    match ops[i]? with
    | some o =>
      if floating o.op then okFlags ops A (if pureOp o.op then acc else i :: acc) r
      else ((x && !isStore o.op) || (!x && acc.all fun y => (A.getD i []).contains y)) && okFlags ops A acc r
    | none => false

def okDraw (ops : Array Oper) (ord : List (Nat × Bool)) : Bool := okOrd ops (ord.map (·.1)) && okFlags ops (ancs ops.toList []) [] ord

/-- Less may be said of the slots. -/
def LeK (K : S → World → Prop) (s : S) (u : World) : Prop := K s u ∨ ∃ s1 : S, s1.le s ∧ K s1 u

/-- Along a tree of orders. -/
def vcT (P : Program) (u0 : World) (all : List Oper) (K : S → World → Prop) : OT → S → World → Prop
  | .done, s, u => K s u
  | .no, _, _ => True
  | .fl i t, s, u =>
    match operAt all i with
    | some o => vcG P false u0 all o (vcT P u0 all K t) s u
    | none => False
  | .eff i x t alt, s, u =>
    (match operAt all i with
    | some o => vcG P x u0 all o (vcT P u0 all K t) s u
    | none => False) ∧ vcT P u0 all K alt s u

def okFlagsT (ops : Array Oper) (A : List (List Nat)) : List Nat → OT → Bool
  | _, .done => true
  | _, .no => true
  | acc, .fl i t =>
    match ops[i]? with
    | some o => floating o.op && okFlagsT ops A (if pureOp o.op then acc else i :: acc) t
    | none => false
  | acc, .eff i x t alt =>
    match ops[i]? with
    | some o => (floating o.op || ((x && !isStore o.op) || (!x && acc.all fun y => (A.getD i []).contains y))) && okFlagsT ops A acc t && okFlagsT ops A acc alt
    | none => false

def okTreeF (ops : Array Oper) (t : OT) : Bool := okTree ops t && okFlagsT ops (ancs ops.toList []) [] t

/-- In an order that is given; stores to some local variables may stand beside reads of other things. -/
def vcOrdL (P : Program) (u0 : World) (all : List Oper) (ks : List Nat) (K : S → World → Prop) : List (Nat × Bool) → S → World → Prop
  | [], s, u => K s u
  | (i, x) :: r, s, u =>
    match operAt all i with
    | some o => ldOk ks o s ∧ (x = true → stOk ks o s) ∧ vcG P x u0 all o (fun s' u' => keepL s s' (newD o) ks ∧ vcOrdL P u0 all ks K r s' u') s u
    | none => False

def okFlagsL (ops : Array Oper) (A : List (List Nat)) : List Nat → List (Nat × Bool) → Bool
  | _, [] => true
  | acc, (i, x) :: r =>
    match ops[i]? with
    | some o =>
      if floating o.op then okFlagsL ops A (if pureOp o.op then acc else i :: acc) r
      else (x || acc.all fun y => (A.getD i []).contains y) && okFlagsL ops A acc r
    | none => false

def okDrawL (ops : Array Oper) (ord : List (Nat × Bool)) : Bool := okOrd ops (ord.map (·.1)) && okFlagsL ops (ancs ops.toList []) [] ord

def AtDraw (P : Program) (u0 : World) (ops : Array Oper) (K : S → World → Prop) (s : S) (u : World) : Prop :=
  (∃ ord, okDraw ops ord = true ∧ vcOrd P u0 ops.toList K ord s u) ∨ (∃ t, okTreeF ops t = true ∧ vcT P u0 ops.toList (LeK K) t s u) ∨ (∃ ord ks, okDrawL ops ord = true ∧ vcOrdL P u0 ops.toList ks K ord s u)

theorem dstAt_eq : ∀ (l : List Oper) (j : Nat), dstAt l j = (l[j]?).bind (·.dst) := by
  intro l
  induction l with
  | nil => intro j; rfl
  | cons o r ih => intro j; cases j with
    | zero => rfl
    | succ j => simpa [dstAt] using ih j

theorem operAt_eq : ∀ (l : List Oper) (j : Nat), operAt l j = l[j]? := by
  intro l
  induction l with
  | nil => intro j; rfl
  | cons o r ih => intro j; cases j with
    | zero => rfl
    | succ j => simpa [operAt] using ih j

section
variable {P : Program} {C : Ctx} {s : S} {u : World} {a : Act} {w : World} {K : S → World → Prop}

theorem slot_bool (hs : Sim C s u a w) {d : Nat} {c : Bool} (h : s.get d = .v (.bool c)) : a.tmps[d]? = some (.bool c) := by
  have h1 := hs.slots d (.bool c) (by rw [h]; rfl)
  cases hx : a.tmps[d]? with
  | none => simp [hx, undef] at h1
  | some v => simp [hx] at h1; rw [h1]

theorem slot_tuple (hs : Sim C s u a w) {d : Nat} {vs : Array Value} (h : s.get d = .v (.tuple vs)) : ∀ c, a.tmps[d]? ≠ some (.bool c) := by
  have h1 := hs.slots d (.tuple vs) (by rw [h]; rfl)
  intro c hx
  simp [hx] at h1

/-- What a guarded operation's condition says: it is wanted and its own condition holds, or it is not wanted. -/
theorem vcG_cases {x : Bool} {ops : Array Oper} {o : Oper} (hs : Sim C s u a w) (h : vcG P x C.u0 ops.toList o K s u) :
    (Region.wanted o (yielded ops a.tmps) = true ∧ vcOp P x C.u0 o K s u) ∨ (Region.wanted o (yielded ops a.tmps) = false ∧ K (s.put o.dst (.v undef)) u) := by
  unfold vcG at h
  split at h
  · rename_i hg; exact .inl ⟨by simp [Region.wanted, hg], h⟩
  · rename_i j want hg
    split at h
    · rename_i d hd
      rw [dstAt_eq] at hd
      have hd' : (ops[j]?).bind (·.dst) = some d := by simpa using hd
      split at h
      · rename_i c hc
        have hy : yielded ops a.tmps j = some c := by simp [yielded, hd', slot_bool hs hc]
        by_cases hcw : c = want
        · exact .inl ⟨by simp [Region.wanted, hg, hy, hcw], h.1 hcw⟩
        · refine .inr ⟨by simp [Region.wanted, hg, hy, hcw], h.2 ?_⟩
          cases c <;> cases want <;> simp_all
      · rename_i vs hc
        have hy : yielded ops a.tmps j = none := by
          unfold yielded
          rw [hd']
          simp only [Option.bind_some]
          split
          · rename_i b hb; exact (slot_tuple hs hc b hb).elim
          · rfl
        exact .inr ⟨by simp [Region.wanted, hg, hy], h⟩
      · exact h.elim
    · exact h.elim

def LiftN (C : Ctx) (K : S → World → Prop) (a : Act) (w : World) : Prop := ∃ s u, Sim C s u a w ∧ K s u

theorem LiftN.of_le (h : LiftN C (LeK K) a w) : LiftN C K a w := by
  obtain ⟨s, u, hs, h⟩ := h
  rcases h with h | ⟨s1, hle, h⟩
  · exact ⟨s, u, hs, h⟩
  · exact ⟨s1, u, hs.le_of hle, h⟩

def fitsOps (n : Nat) (l : List Oper) : Bool := l.all fun o => okDst n o.dst

theorem vcOps_sound {ops : Array Oper} {Q : Exit → Act → World → Prop} (hQ : ∀ a w, LiftN C K a w → Q .normal a w) : ∀ (l : List Oper) (s : S) (u : World) (a : Act) (w : World),
    fitsOps C.n l = true → vcOps P C.u0 ops.toList K l s u → Sim C s u a w → wpList P ops Q l a w := by
  intro l
  induction l with
  | nil => intro s u a w _ h hs; exact hQ a w ⟨s, u, hs, h⟩
  | cons o r ih =>
    intro s u a w hf h hs
    simp only [fitsOps, List.all_cons, Bool.and_eq_true] at hf
    rcases vcG_cases hs h with ⟨hw, h⟩ | ⟨hw, h⟩
    · unfold wpList
      rw [if_pos hw]
      refine .inl ?_
      cases hfl : floating o.op with
      | true =>
        obtain ⟨v, s', u', hK, hs', _, hr⟩ := fl_sound hfl hs hf.1 h
        simp only [Oper.wp, hr w (Ext.refl w), Oper.upon]
        exact ih s' u' _ w hf.2 hK hs'
      | false =>
        refine Oper.wp_mono ?_ (ef_sound hfl (fun h => by cases h) hs hf.1 h Q)
        rintro a' w' ⟨_, s', u', hs', hK⟩
        exact ih s' u' a' w' hf.2 hK hs'
    · refine wpList_skip hw (ih _ _ _ _ hf.2 h (hs.put_v hf.1))

theorem fitsOps_at {n : Nat} {ops : Array Oper} (h : fitsOps n ops.toList = true) {i : Nat} {o : Oper} (hi : ops[i]? = some o) : okDst n o.dst = true := by
  simp only [fitsOps, List.all_eq_true] at h
  exact h o (by simpa using Array.mem_of_getElem? hi)

theorem vcOrd_sound {ops : Array Oper} {Q : Exit → Act → World → Prop} (hQ : ∀ a w, LiftN C K a w → Q .normal a w) (A : List (List Nat)) (hfit : fitsOps C.n ops.toList = true) :
    ∀ (l : List (Nat × Bool)) (acc : List Nat) (s : S) (u : World) (a : Act) (w : World), okFlags ops A acc l = true → vcOrd P C.u0 ops.toList K l s u → Sim C s u a w →
      wpD P ops A Q acc (l.map (·.1)) a w := by
  intro l
  induction l with
  | nil => intro acc s u a w _ h hs; exact hQ a w ⟨s, u, hs, h⟩
  | cons p r ih =>
    intro acc s u a w hfl h hs
    obtain ⟨i, x⟩ := p
    simp only [vcOrd, operAt_eq, Array.getElem?_toList] at h
    simp only [okFlags] at hfl
    simp only [List.map_cons, wpD]
    cases hi : ops[i]? with
    | none => simp [hi] at h
    | some o =>
      simp only [hi] at h hfl ⊢
      have hd := fitsOps_at hfit hi
      cases hff : floating o.op with
      | true =>
        simp only [hff, if_true] at hfl ⊢
        rcases vcG_cases hs h with ⟨hw, h⟩ | ⟨hw, h⟩
        · obtain ⟨v, s', u', hK, hs', hp, hr⟩ := fl_sound hff hs hd h
          refine ⟨v, ?_, ih _ s' u' _ w hfl hK hs'⟩
          unfold Yld
          split
          · rename_i hpp; exact .inl ⟨hw, hp hpp⟩
          · exact .inl ⟨hw, hr⟩
        · refine ⟨undef, ?_, ih _ _ u _ w hfl h (hs.put_v hd)⟩
          unfold Yld
          split
          · exact .inr ⟨hw, rfl⟩
          · exact .inr ⟨hw, rfl⟩
      | false =>
        simp only [hff, Bool.false_eq_true, if_false, Bool.and_eq_true, Bool.or_eq_true, Bool.not_eq_true'] at hfl ⊢
        unfold wpOp
        simp only [hi]
        rcases vcG_cases hs h with ⟨hw, h⟩ | ⟨hw, h⟩
        · rw [if_pos hw]
          refine .inl (Oper.wp_mono ?_ (ef_sound hff (fun hx T y z ho => ?_) hs hd h Q))
          · rintro a' w' ⟨hx, s', u', hs', hK⟩
            refine ⟨?_, ih acc s' u' a' w' hfl.2 hK hs'⟩
            rcases hfl.1 with ⟨h1, _⟩ | ⟨_, h1⟩
            · exact .inl (hx h1)
            · exact .inr (fun y hy => by simpa using (List.all_eq_true.1 h1) y hy)
          · rcases hfl.1 with ⟨_, h1⟩ | ⟨h1, _⟩
            · rw [ho] at h1; cases h1
            · rw [h1] at hx; cases hx
        · rw [if_neg (by simp [hw])]
          exact ⟨.inl (Ext.refl w), ih acc _ u _ w hfl.2 h (hs.put_v hd)⟩

theorem keep_put {ks : List Nat} {d : Option Nat} {x : SV} : ∀ k l', memB ks k = true → (s.put d x).find k = some l' → ∃ l, s.find k = some l ∧ l.b = l'.b := fun k l' _ h => ⟨l', by rw [S.find_put] at h; exact h, rfl⟩

theorem vcOrdL_sound {ops : Array Oper} {Q : Exit → Act → World → Prop} (hQ : ∀ a w, LiftN C K a w → Q .normal a w) (A : List (List Nat)) (hfit : fitsOps C.n ops.toList = true) {ks : List Nat} :
    ∀ (l : List (Nat × Bool)) (acc : List Nat) (dyn : List (Nat × (World → Prop))) (s : S) (u : World) (a : Act) (w : World), okFlagsL ops A acc l = true → vcOrdL P C.u0 ops.toList ks K l s u → Sim C s u a w →
      (∀ e ∈ dyn, (∀ w', e.2 w') ∨ (e.1 ∈ acc ∧ HInv ks s w e.2)) → wpE P ops A Q dyn (l.map (·.1)) a w := by
  intro l
  induction l with
  | nil => intro acc dyn s u a w _ h hs _; exact hQ a w ⟨s, u, hs, h⟩
  | cons p r ih =>
    intro acc dyn s u a w hfl h hs hdyn
    obtain ⟨i, x⟩ := p
    simp only [vcOrdL, operAt_eq, Array.getElem?_toList] at h
    simp only [okFlagsL] at hfl
    simp only [List.map_cons, wpE]
    cases hi : ops[i]? with
    | none => simp [hi] at h
    | some o =>
      simp only [hi] at h hfl ⊢
      obtain ⟨hld, hso, h⟩ := h
      have hd := fitsOps_at hfit hi
      cases hff : floating o.op with
      | true =>
        have hnd : newD o = none := by unfold newD; split <;> first | rfl | (rename_i hop; rw [hop] at hff; cases hff)
        simp only [hff, if_true] at hfl ⊢
        rcases vcG_cases hs h with ⟨hw, h⟩ | ⟨hw, h⟩
        · obtain ⟨v, s', u', ⟨hkp, hK⟩, hs', hr⟩ := fl_near hff hld hs hd h
          rw [hnd] at hkp
          have hst : ∀ e ∈ dyn, (∀ w', e.2 w') ∨ (e.1 ∈ acc ∧ HInv ks s' w e.2) := fun e he => (hdyn e he).imp id fun h1 => ⟨h1.1, h1.2.ext (Ext.refl w) (fun k l' hm hf => .inl ((keepL_spec hkp k l' hm hf).resolve_left (by intro h; cases h)))⟩
          rcases hr with hr | ⟨hp, hr⟩
          · refine ⟨v, fun _ => True, trivial, .inl ⟨hw, fun w' _ => hr w'⟩, ih _ _ s' u' _ w hfl hK hs' ?_⟩
            intro e he
            rcases List.mem_cons.1 he with rfl | he
            · exact .inl (fun _ => trivial)
            · refine (hst e he).imp id (fun h1 => ⟨?_, h1.2⟩)
              split
              · exact h1.1
              · exact List.mem_cons_of_mem _ h1.1
          · refine ⟨v, Near ks s u, near_self hs, .inl ⟨hw, hr⟩, ih _ _ s' u' _ w hfl hK hs' ?_⟩
            intro e he
            rw [hp]
            simp only [Bool.false_eq_true, if_false]
            rcases List.mem_cons.1 he with rfl | he
            · exact .inr ⟨List.mem_cons_self, (HInv.self hs).ext (Ext.refl w) (fun k l' hm hf => .inl ((keepL_spec hkp k l' hm hf).resolve_left (by intro h; cases h)))⟩
            · exact (hst e he).imp id (fun h1 => ⟨List.mem_cons_of_mem _ h1.1, h1.2⟩)
        · refine ⟨undef, fun _ => True, trivial, .inr ⟨hw, rfl⟩, ih _ _ _ u _ w hfl h.2 (hs.put_v hd) ?_⟩
          intro e he
          rcases List.mem_cons.1 he with rfl | he
          · exact .inl (fun _ => trivial)
          · refine (hdyn e he).imp id (fun h1 => ⟨?_, h1.2.ext (Ext.refl w) (fun k l' hm hf => .inl (keep_put k l' hm hf))⟩)
            split
            · exact h1.1
            · exact List.mem_cons_of_mem _ h1.1
      | false =>
        simp only [hff, Bool.false_eq_true, if_false, Bool.and_eq_true, Bool.or_eq_true] at hfl ⊢
        -- behind an effect that keeps what is held
        have next : ∀ (a' : Act) (w' : World) (s' : S) (u' : World), Sim C s' u' a' w' → vcOrdL P C.u0 ops.toList ks K r s' u' → (∀ e ∈ dyn, (∀ w', e.2 w') ∨ (e.1 ∈ acc ∧ HInv ks s' w' e.2)) →
            (∀ e ∈ dyn, (A.getD i []).contains e.1 = true ∨ e.2 w') ∧ wpE P ops A Q (dyn.filter fun e => !(A.getD i []).contains e.1) (r.map (·.1)) a' w' := by
          intro a' w' s' u' hs' hK hd'
          refine ⟨fun e he => .inr ?_, ih acc _ s' u' a' w' hfl.2 hK hs' (fun e he => hd' e (List.mem_filter.1 he).1)⟩
          rcases hd' e he with h1 | h1
          · exact h1 w'
          · exact h1.2.holds
        unfold wpOp
        simp only [hi]
        rcases vcG_cases hs h with ⟨hw, h⟩ | ⟨hw, h⟩
        rotate_left
        · rw [if_neg (by simp [hw])]
          exact next _ w _ u (hs.put_v hd) h.2 (fun e he => (hdyn e he).imp id fun h1 => ⟨h1.1, h1.2.ext (Ext.refl w) (fun k l' hm hf => .inl (keep_put k l' hm hf))⟩)
        rw [if_pos hw]
        refine .inl ?_
        by_cases hnd : newD o = none
        · rw [hnd] at h
          cases x with
          | true =>
            by_cases hsto : ∃ T y z, o.op = .store T y z
            · obtain ⟨T, y, z, hop⟩ := hsto
              have hso' := hso rfl
              simp only [stOk, hop] at hso'
              simp only [vcOp, hop] at h
              refine Oper.wp_mono ?_ (ef_storeL hop hso' hs hd h Q)
              rintro a' w' ⟨k, l, hm, hk, ho, s', u', hs', hkp, hK⟩
              exact next a' w' s' u' hs' hK (fun e he => (hdyn e he).imp id fun h1 => ⟨h1.1, h1.2.store hm hk ho (fun k l' hm hf => (keepL_spec hkp k l' hm hf).resolve_left (by intro h; cases h))⟩)
            · refine Oper.wp_mono ?_ (ef_sound hff (fun _ T y z ho => hsto ⟨T, y, z, ho⟩) hs hd h Q)
              rintro a' w' ⟨hx, s', u', hs', hkp, hK⟩
              exact next a' w' s' u' hs' hK (fun e he => (hdyn e he).imp id fun h1 => ⟨h1.1, h1.2.ext (hx rfl) (fun k l' hm hf => .inl ((keepL_spec hkp k l' hm hf).resolve_left (by intro h; cases h)))⟩)
          | false =>
            have hall := hfl.1.resolve_left (by simp)
            refine Oper.wp_mono ?_ (ef_sound hff (fun h => by cases h) hs hd h Q)
            rintro a' w' ⟨_, s', u', hs', hkp, hK⟩
            have hin : ∀ e ∈ dyn, (∀ w', e.2 w') ∨ (A.getD i []).contains e.1 = true := fun e he => (hdyn e he).imp id fun h1 => (List.all_eq_true.1 hall) e.1 h1.1
            refine ⟨fun e he => (hin e he).elim (fun h1 => .inr (h1 w')) .inl, ih acc _ s' u' a' w' hfl.2 hK hs' (fun e he => ?_)⟩
            obtain ⟨he, hne⟩ := List.mem_filter.1 he
            rcases hin e he with h1 | h1
            · exact .inl h1
            · rw [h1] at hne; cases hne
        · refine Oper.wp_mono ?_ (ef_alloc hnd hs hd h Q)
          rintro a' w' ⟨hx, d, cs, T, hnd', hs', hkp, hK⟩
          refine next a' w' _ u hs' hK (fun e he => (hdyn e he).imp id fun h1 => ⟨h1.1, h1.2.ext hx (fun k l' hm hf => ?_)⟩)
          rcases keepL_spec hkp k l' hm hf with h2 | h2
          · right
            rw [hnd'] at h2
            cases h2
            rw [find_addLoc_eq] at hf
            cases hf
            exact Nat.le_refl _
          · exact .inl h2

theorem vcT_sound {ops : Array Oper} {Q : Exit → Act → World → Prop} (hQ : ∀ a w, LiftN C K a w → Q .normal a w) (A : List (List Nat)) (hfit : fitsOps C.n ops.toList = true) :
    ∀ (t : OT) (acc : List Nat) (s : S) (u : World) (a : Act) (w : World), okFlagsT ops A acc t = true → vcT P C.u0 ops.toList K t s u → Sim C s u a w →
      wpT P ops A Q acc t a w := by
  intro t
  induction t with
  | done =>
    intro acc s u a w _ h hs
    exact hQ a w ⟨s, u, hs, h⟩
  | no => intro acc s u a w _ h hs; trivial
  | fl i t ih =>
    intro acc s u a w hfl h hs
    simp only [vcT, operAt_eq, Array.getElem?_toList] at h
    simp only [okFlagsT] at hfl
    simp only [wpT]
    cases hi : ops[i]? with
    | none => simp [hi] at h
    | some o =>
      simp only [hi, Bool.and_eq_true] at h hfl ⊢
      have hd := fitsOps_at hfit hi
      obtain ⟨hff, hfl⟩ := hfl
      rcases vcG_cases hs h with ⟨hw, h⟩ | ⟨hw, h⟩
      · obtain ⟨v, s', u', hK, hs', hp, hr⟩ := fl_sound hff hs hd h
        refine ⟨v, ?_, ih _ s' u' _ w hfl hK hs'⟩
        unfold Yld
        split
        · rename_i hpp; exact .inl ⟨hw, hp hpp⟩
        · exact .inl ⟨hw, hr⟩
      · refine ⟨undef, ?_, ih _ _ u _ w hfl h (hs.put_v hd)⟩
        unfold Yld
        split
        · exact .inr ⟨hw, rfl⟩
        · exact .inr ⟨hw, rfl⟩
  | eff i x t alt iht iha =>
    intro acc s u a w hfl h hs
    simp only [vcT, operAt_eq, Array.getElem?_toList] at h
    simp only [okFlagsT] at hfl
    simp only [wpT]
    obtain ⟨h, halt⟩ := h
    cases hi : ops[i]? with
    | none => simp [hi] at h
    | some o =>
      simp only [hi, Bool.and_eq_true, Bool.or_eq_true, Bool.not_eq_true'] at h hfl ⊢
      have hd := fitsOps_at hfit hi
      obtain ⟨⟨hx1, hft⟩, hfa⟩ := hfl
      refine ⟨?_, iha acc s u a w hfa halt hs⟩
      unfold wpOp
      simp only [hi]
      rcases vcG_cases hs h with ⟨hw, h⟩ | ⟨hw, h⟩
      · rw [if_pos hw]
        cases hff : floating o.op with
        | true =>
          refine .inl ?_
          obtain ⟨v, s', u', hK, hs', _, hr⟩ := fl_sound hff hs hd h
          simp only [Oper.wp, hr w (Ext.refl w), Oper.upon]
          exact ⟨.inl (Ext.refl w), iht acc s' u' _ w hft hK hs'⟩
        | false =>
        replace hx1 := hx1.resolve_left (by rw [hff]; simp)
        refine .inl (Oper.wp_mono ?_ (ef_sound hff (fun hx T y z ho => ?_) hs hd h Q))
        · rintro a' w' ⟨hx, s', u', hs', hK⟩
          refine ⟨?_, iht acc s' u' a' w' hft hK hs'⟩
          rcases hx1 with ⟨h1, _⟩ | ⟨_, h1⟩
          · exact .inl (hx h1)
          · exact .inr (fun y hy => by simpa using (List.all_eq_true.1 h1) y hy)
        · rcases hx1 with ⟨_, h1⟩ | ⟨h1, _⟩
          · rw [ho] at h1; cases h1
          · rw [h1] at hx; cases hx
      · rw [if_neg (by simp [hw])]
        exact ⟨.inl (Ext.refl w), iht acc _ u _ w hft h (hs.put_v hd)⟩

end

/-! ### Code -/

def BlockK (id : Nat) (Q : Exit → S → World → Prop) (e : Exit) (s : S) (u : World) : Prop :=
  match e with
  | .exit j => bif j == id then Q .normal s u else Q (.exit j) s u
  | e => Q e s u

/-- Behind a block: less may be said of the slots. -/
def BlockW (id : Nat) (Q : Exit → S → World → Prop) (e : Exit) (s : S) (u : World) : Prop :=
  match e with
  | .exit j => bif j == id then LeK (Q .normal) s u else Q (.exit j) s u
  | .normal => LeK (Q .normal) s u
  | e => Q e s u

/-- Behind a round of a loop. -/
def LoopK {γ : Type} (st : γ → S) (F : γ → World → Prop) (μ : γ → Nat) (g : γ) (Q : Exit → S → World → Prop) (e : Exit) (s : S) (u : World) : Prop :=
  match e with
  | .normal => ∃ g', (st g').le s ∧ F g' u ∧ μ g' < μ g
  | e => Q e s u

def fits (n : Nat) : Code → Bool
  | .region _ ops _ => fitsOps n ops.toList
  | .seq x y => fits n x && fits n y
  | .cond _ x y => fits n x && fits n y
  | .block _ x => fits n x
  | .loop x => fits n x
  | _ => true

def LiftQ (C : Ctx) (Q : Exit → S → World → Prop) : Exit → Act → World → Prop
  | .normal, a, w => LiftN C (Q .normal) a w
  | .ret, a, w => LiftN C (Q .ret) a w
  | .exit id, a, w => LiftN C (Q (.exit id)) a w
  | _, _, _ => False

/-- What a piece of code does, whatever stands below the symbolic state: here ways may be cut. -/
def Vc (P : Program) (u0 : World) (c : Code) (Q : Exit → S → World → Prop) (s : S) (u : World) : Prop :=
  P.follows .mixedOrders = true → ∀ (C : Ctx) (a : Act) (w : World), C.u0 = u0 → fits C.n c = true → Sim C s u a w → c.wp P (LiftQ C Q) a w

def vc (P : Program) (u0 : World) : Code → (Exit → S → World → Prop) → S → World → Prop
  | .skip, Q, s, u => Q .normal s u
  | .region _ ops false, Q, s, u => vcOps P u0 ops.toList (Q .normal) ops.toList s u
  | .region _ ops true, Q, s, u => AtDraw P u0 ops (Q .normal) s u
  | .seq x y, Q, s, u => vc P u0 x (fun e s u => match e with | .normal => vc P u0 y Q s u | e => Q e s u) s u
  | .cond c x y, Q, s, u =>
    match s.sv c with
    | .v (.bool t) => (t = true → vc P u0 x Q s u) ∧ (t = false → vc P u0 y Q s u)
    | _ => False
  | .block id x, Q, s, u => vc P u0 x (BlockW id Q) s u
  | .loop x, Q, s, u => ∃ (γ : Type) (st : γ → S) (F : γ → World → Prop) (μ : γ → Nat), (∃ g, (st g).le s ∧ F g u) ∧ ∀ g u, F g u → Vc P u0 x (LoopK st F μ g Q) (st g) u
  | .exit id, Q, s, u => Q (.exit id) s u
  | .ret, Q, s, u => Q .ret s u
  | _, _, _, _ => False

/-- Behind the first of two pieces. -/
def SeqK (P : Program) (u0 : World) (y : Code) (Q : Exit → S → World → Prop) (e : Exit) (s : S) (u : World) : Prop :=
  match e with
  | .normal => vc P u0 y Q s u
  | e => Q e s u

theorem vc_sound {P : Program} (hm : P.follows .mixedOrders = true) {C : Ctx} : ∀ (c : Code) (Q : Exit → S → World → Prop) (s : S) (u : World) (a : Act) (w : World),
    fits C.n c = true → vc P C.u0 c Q s u → Sim C s u a w → c.wp P (LiftQ C Q) a w := by
  intro c
  induction c with
  | skip => intro Q s u a w _ h hs; exact wp_skip ⟨s, u, hs, h⟩
  | region id ops draw =>
    intro Q s u a w hf h hs
    cases draw with
    | false => exact wp_region_list (vcOps_sound (fun a w h => h) _ s u a w hf h hs)
    | true =>
      rcases h with ⟨ord, hok, h⟩ | ⟨t, hok, h⟩ | ⟨ord, ks, hok, h⟩
      rotate_right
      · simp only [okDrawL, Bool.and_eq_true] at hok
        refine wp_region_ordL hm hok.1 ?_ (vcOrdL_sound (fun a w h => h) _ hf ord [] [] s u a _ hok.2 h (hs.ext (ext_drawn w _) ⟨Nat.le_refl _, rfl, rfl⟩) (fun e he => by cases he))
        intro c a w d v h
        exact h
      · simp only [okDraw, Bool.and_eq_true] at hok
        refine wp_region_ord hm hok.1 ?_ (vcOrd_sound (fun a w h => h) _ hf ord [] s u a _ hok.2 h (hs.ext (ext_drawn w _) ⟨Nat.le_refl _, rfl, rfl⟩))
        intro c a w d v h
        exact h
      · simp only [okTreeF, Bool.and_eq_true] at hok
        refine wp_region_tree hm hok.1 ?_ (vcT_sound (K := LeK (Q .normal)) (fun a w h => LiftN.of_le h) _ hf t [] s u a _ hok.2 h (hs.ext (ext_drawn w _) ⟨Nat.le_refl _, rfl, rfl⟩))
        intro c a w d v h
        exact h
  | seq x y ihx ihy =>
    intro Q s u a w hf h hs
    simp only [fits, Bool.and_eq_true] at hf
    refine wp_seq (wp_mono (ihx _ s u a w hf.1 h hs) ?_)
    intro e a w hl
    cases e with
    | normal => obtain ⟨s, u, hs, h⟩ := hl; exact ihy Q s u a w hf.2 h hs
    | exit id => exact hl
    | goto l => exact hl
    | ret => exact hl
    | panic c => exact hl
    | outgrown => exact hl
  | cond c x y ihx ihy =>
    intro Q s u a w hf h hs
    simp only [fits, Bool.and_eq_true] at hf
    simp only [vc] at h
    split at h
    · rename_i t ht
      exact wp_cond_split (hs.eval_v ht) (fun e => ihx Q s u a w hf.1 (h.1 e) hs) (fun e => ihy Q s u a w hf.2 (h.2 e) hs)
    · exact h.elim
  | block id x ih =>
    intro Q s u a w hf h hs
    refine wp_block (wp_mono (ih _ s u a w hf h hs) ?_)
    intro e a w hl
    cases e with
    | normal => exact LiftN.of_le hl
    | exit j =>
      obtain ⟨s, u, hs, h⟩ := hl
      simp only [BlockW] at h
      by_cases hj : j = id
      · subst hj
        simp only [beq_self_eq_true, cond_true] at h
        simp only [Exit.inBlock, if_true]
        exact LiftN.of_le ⟨s, u, hs, h⟩
      · have hb : (j == id) = false := by simpa using hj
        simp only [hb, cond_false] at h
        simp only [Exit.inBlock, hj, if_false]
        exact ⟨s, u, hs, h⟩
    | goto l => exact hl
    | ret => exact hl
    | panic c => exact hl
    | outgrown => exact hl
  | loop x ih =>
    intro Q s u a w hf h hs
    obtain ⟨γ, st, F, μ, ⟨g0, hle, hF⟩, hround⟩ := h
    intro b k cs
    have key : ∀ n g, μ g = n → ∀ a w, (∃ u, Sim C (st g) u a w ∧ F g u) →
        ∃ e a' w', LiftQ C Q e a' w' ∧ Arrives P (lone (b.at a (.code x :: .inLoop x :: k)) cs w) b k cs e a' w' := by
      intro n
      induction n using Nat.strongRecOn with
      | _ n ihn =>
        intro g hg a w ⟨u, hs, hF⟩
        obtain ⟨e, a1, w1, hq, harr⟩ := hround g u hF hm C a w rfl hf hs b (.inLoop x :: k) cs
        cases e with
        | normal =>
          obtain ⟨s', u', hs', g', hle', hF', hlt⟩ := hq
          obtain ⟨e2, a2, w2, hq2, harr2⟩ := ihn (μ g') (hg ▸ hlt) g' rfl a1 w1 ⟨u', hs'.le_of hle', hF'⟩
          exact ⟨e2, a2, w2, hq2, .of_steps (Steps.trans harr (.one step_inLoop)) harr2⟩
        | exit id => exact ⟨.exit id, a1, w1, hq, .pass (x := .inLoop x) rfl (fun _ _ => .inl (by simp)) harr⟩
        | goto l => exact hq.elim
        | ret => exact ⟨.ret, a1, w1, hq, .pass (x := .inLoop x) rfl (fun _ _ => .inl (by simp)) harr⟩
        | panic c => exact hq.elim
        | outgrown => exact hq.elim
    obtain ⟨e, a', w', hq, harr⟩ := key _ g0 rfl a w ⟨u, hs.le_of hle, hF⟩
    exact ⟨e, a', w', hq, .of_steps (.one step_loop) harr⟩
  | exit id => intro Q s u a w _ h hs; exact wp_exit ⟨s, u, hs, h⟩
  | ret => intro Q s u a w _ h hs; exact wp_ret ⟨s, u, hs, h⟩
  | rangeFunc f ps x y => intro Q s u a w _ h _; exact h.elim
  | scope x => intro Q s u a w _ h _; exact h.elim
  | label l => intro Q s u a w _ h _; exact h.elim
  | goto l => intro Q s u a w _ h _; exact h.elim
  | refuse w => intro Q s u a w _ h _; exact h.elim


theorem Vc.of {P : Program} {u0 : World} {c : Code} {Q : Exit → S → World → Prop} {s : S} {u : World} (h : vc P u0 c Q s u) : Vc P u0 c Q s u := by
  intro hm C a w hu hf hs
  subst hu
  exact vc_sound hm c Q s u a w hf h hs

/-- The first statements of a piece of code; those behind them. -/
def cFst : Nat → Code → Code
  | 0, .seq a _ => a
  | k + 1, .seq a r => .seq a (cFst k r)
  | _, c => c
def cSnd : Nat → Code → Code
  | 0, .seq _ r => r
  | k + 1, .seq _ r => cSnd k r
  | _, _ => .skip

/-- Behind the first statements. -/
def CutQ {γ : Type} (st : γ → S) (F : γ → World → Prop) (Q : Exit → S → World → Prop) (e : Exit) (s : S) (u : World) : Prop :=
  match e with
  | .normal => ∃ g, (st g).le s ∧ F g u
  | e => Q e s u

def cOk : Nat → Code → Bool
  | 0, .seq _ _ => true
  | k + 1, .seq _ r => cOk k r
  | _, _ => false

/-- **A cut**: behind the first statements no more is known than is said. -/
theorem cutV {P : Program} {u0 : World} {Q : Exit → S → World → Prop} {γ : Type} (st : γ → S) (F : γ → World → Prop) : ∀ (k : Nat) (c : Code) (s : S) (u : World), cOk k c = true → vc P u0 (cFst k c) (CutQ st F Q) s u →
    (∀ g u', F g u' → Vc P u0 (cSnd k c) Q (st g) u') → Vc P u0 c Q s u := by
  intro k
  induction k with
  | zero =>
    intro c s u hok h1 h2
    cases c with
    | seq x y =>
      intro hm C a w hu hf hs
      subst hu
      simp only [fits, Bool.and_eq_true] at hf
      refine wp_seq (wp_mono (vc_sound hm x _ s u a w hf.1 h1 hs) ?_)
      intro e a w hl
      cases e with
      | normal =>
        obtain ⟨s, u, hs, g, hle, hF⟩ := hl
        exact h2 g u hF hm C a w rfl hf.2 (hs.le_of hle)
      | exit id => exact hl
      | goto l => exact hl
      | ret => exact hl
      | panic c => exact hl
      | outgrown => exact hl
    | _ => cases hok
  | succ k ih =>
    intro c s u hok h1 h2
    cases c with
    | seq x y =>
      intro hm C a w hu hf hs
      subst hu
      simp only [fits, Bool.and_eq_true] at hf
      refine wp_seq (wp_mono (vc_sound hm x _ s u a w hf.1 h1 hs) ?_)
      intro e a w hl
      cases e with
      | normal =>
        obtain ⟨s, u, hs, h⟩ := hl
        exact ih y s u hok h h2 hm C a w rfl hf.2 hs
      | exit id => exact hl
      | goto l => exact hl
      | ret => exact hl
      | panic c => exact hl
      | outgrown => exact hl
    | _ => cases hok

/-! ### Functions -/

def initR : Nat → List Value → List (Nat × SV)
  | _, [] => []
  | i, v :: r => (i, .v v) :: initR (i + 1) r

def resOne (P : Program) (s : S) : ResultVar → Option Value
  | .tmp t => s.val (s.get t)
  | .cell t T =>
    match s.get t, lay P T with
    | .loc k off, some (ag, n) => match s.find k with
      | some l => if (n = 1 ∨ ag = true) ∧ off + n ≤ l.cells.length then some (ld ag n off l.cells) else none
      | none => none
    | _, _ => none

def resAll (P : Program) (s : S) : List ResultVar → Option Value
  | [] => some (.tuple #[])
  | [x] => resOne P s x
  | [x, y] => match resOne P s x, resOne P s y with
    | some a, some b => some (.tuple #[a, b])
    | _, _ => none
  | [x, y, z] => match resOne P s x, resOne P s y, resOne P s z with
    | some a, some b, some c => some (.tuple #[a, b, c])
    | _, _, _ => none
  | [x, y, z, t] => match resOne P s x, resOne P s y, resOne P s z, resOne P s t with
    | some a, some b, some c, some d => some (.tuple #[a, b, c, d])
    | _, _, _, _ => none
  | _ => none

abbrev DoneK (Post : Value → World → Prop) (r : Option Value) (u : World) : Prop :=
  match r with
  | some v => Post v u
  | none => False

/-- The end of a function. -/
def RetK (P : Program) (rs : List ResultVar) (Post : Value → World → Prop) (e : Exit) (s : S) (u : World) : Prop :=
  match e with
  | .normal => DoneK Post (resAll P s rs) u
  | .ret => DoneK Post (resAll P s rs) u
  | _ => False

section
variable {P : Program} {C : Ctx} {s : S} {u : World} {a : Act} {w : World}

def resRun (tmps : Array Value) : ResultVar → Sem Value
  | .tmp t => pure (tmps.getD t undef)
  | .cell x t => do loadVar t (← asAddr (tmps.getD x undef))

theorem resOne_run (hs : Sim C s u a w) {x : ResultVar} {v : Value} (h : resOne P s x = some v) : (resRun a.tmps x).run P w = .ok v w := by
  cases x with
  | tmp t => simp only [resRun, Sem.run_pure]; rw [hs.slots t v h]
  | cell t T =>
    simp only [resOne] at h
    split at h
    · rename_i k off ag n hg hl
      split at h
      · rename_i l hk
        split at h
        · rename_i hc
          cases h
          have h1 := hs.slots t (.pointer (some ⟨l.b, off, none⟩)) (by rw [hg]; simp [S.val, hk])
          have h2 := run_loadVar hl hc.1 hc.2 (cellsAt_loc (hs.locs k l hk).1)
          rw [Addr.add_lit, Nat.zero_add] at h2
          simp only [resRun, h1, asAddr, Sem.run_bind, Sem.run_pure, Result.andThen_ok]
          exact h2
        · cases h
      · cases h
    · cases h

theorem results_eq (fn : Func) (tmps : Array Value) : results fn tmps = (do let vs ← fn.results.mapM (resRun tmps); pure (if h : vs.size = 1 then vs[0] else .tuple vs)) := by
  unfold results
  congr 2

theorem resAll_run {fn : Func} (hs : Sim C s u a w) {v : Value} (h : resAll P s fn.results.toList = some v) : (results fn a.tmps).run P w = .ok v w := by
  rw [results_eq]
  obtain ⟨l, hr⟩ : ∃ l : List ResultVar, fn.results = l.toArray := ⟨fn.results.toList, by simp⟩
  rw [hr] at h ⊢
  simp only at h
  match l, h with
  | [], h => simp [resAll] at h; simp [h]
  | [x], h => simp [resAll] at h; simp [resOne_run hs h]
  | [x, y], h =>
    simp only [resAll] at h
    split at h
    · rename_i v1 v2 h1 h2; cases h; simp [resOne_run hs h1, resOne_run hs h2]
    · cases h
  | [x, y, z], h =>
    simp only [resAll] at h
    split at h
    · rename_i v1 v2 v3 h1 h2 h3; cases h; simp [resOne_run hs h1, resOne_run hs h2, resOne_run hs h3]
    · cases h
  | [x, y, z, t], h =>
    simp only [resAll] at h
    split at h
    · rename_i v1 v2 v3 v4 h1 h2 h3 h4; cases h; simp [resOne_run hs h1, resOne_run hs h2, resOne_run hs h3, resOne_run hs h4]
    · cases h
  | _ :: _ :: _ :: _ :: _ :: _, h => simp [resAll] at h

end

theorem lk_initR : ∀ (vs : List Value) (i t : Nat) (x : SV), lk (initR i vs) t = some x → ∃ j v, t = i + j ∧ vs[j]? = some v ∧ x = .v v := by
  intro vs
  induction vs with
  | nil => intro i t x h; cases h
  | cons v r ih =>
    intro i t x h
    simp only [initR] at h
    by_cases hit : i = t
    · subst hit
      rw [lk_cons_eq] at h
      cases h
      exact ⟨0, v, rfl, rfl, rfl⟩
    · rw [lk_cons_ne hit] at h
      obtain ⟨j, v', h1, h2, h3⟩ := ih (i + 1) t x h
      exact ⟨j + 1, v', by omega, by simpa using h2, h3⟩

theorem sim_init {n : Nat} {args : List Value} (hn : args.length ≤ n) {w u u0 : World} (hu : Sub u w) (h0 : Sub u0 w) :
    Sim ⟨n, w, u, u0⟩ ⟨initR 0 args, []⟩ u { tmps := args.toArray ++ Array.replicate (n - args.toArray.size) undef, defers := [] } w := by
  have hget : ∀ t x, (⟨initR 0 args, []⟩ : S).get t = x → x ≠ .unk → ∃ v, args[t]? = some v ∧ x = .v v := by
    intro t x h hx
    simp only [S.get] at h
    cases hl : lk (initR 0 args) t with
    | none => rw [hl] at h; exact absurd h.symm hx
    | some y =>
      rw [hl] at h
      obtain ⟨j, v, h1, h2, h3⟩ := lk_initR args 0 t y hl
      simp at h h1
      subst h1
      exact ⟨v, h2, by rw [← h]; exact h3⟩
  refine ⟨by simp; omega, rfl, ?_, ?_, ?_, hu, ?_, ?_, fun b o h => .inl h, fun b hb h => h, ⟨Nat.le_refl _, rfl, rfl⟩, h0, h0⟩
  · intro t v hv
    have hx : (⟨initR 0 args, []⟩ : S).get t ≠ .unk := by intro h; rw [h] at hv; cases hv
    obtain ⟨v', h1, h2⟩ := hget t _ rfl hx
    rw [h2] at hv
    simp [S.val] at hv
    subst hv
    have hlt : t < args.length := by rcases Nat.lt_or_ge t args.length with h | h; exact h; simp [List.getElem?_eq_none h] at h1
    have h3 : args[t] = v' := by simpa [hlt] using h1
    simp [Array.getElem?_append, hlt, h3]
  · intro t k off ht
    obtain ⟨v, _, h2⟩ := hget t _ ht (by intro h; cases h)
    cases h2
  · intro t sv sz i off ht
    obtain ⟨v, _, h2⟩ := hget t _ ht (by intro h; cases h)
    cases h2
  · intro k l h; cases h
  · intro k k' l l' h; cases h

/-- A contract: what was known stays known, and all of memory that stood stands. -/
def Con (P : Program) (f : FuncId) (args : List Value) (u : World) (Post : Value → World → Prop) : Prop :=
  hasBody P f = true ∧ ∀ w, Sub u w → Calls P f args.toArray w fun e w' => ∃ r u', e = .returned r ∧ Step true u u w u' w' ∧ Sub u u' ∧ Post r u'

theorem AtCall.of_spec {x : Bool} {P : Program} {f : FuncId} {args : List Value} {u0 u : World} {Post K : Value → World → Prop} (h : Con P f args u Post)
    (hk : ∀ r u', Sub u u' → Post r u' → K r u') : AtCall x P f args u0 u K := by
  refine .inl ⟨h.1, fun w hu _ => (h.2 w hu).mono ?_⟩
  rintro e w' ⟨r, u', rfl, hst, hsub, hp⟩
  exact ⟨r, u', rfl, ⟨hst.sub, fun b o hb => .inl (hst.ext b o hb), hst.dom, hst.le⟩, hk r u' hsub hp⟩

theorem call_of_Vc {P : Program} (hm : P.follows .mixedOrders = true) {f : FuncId} {fn : Func} {c : Code} (hf : P.funcs[f]? = some fn) (hb : fn.body = some c) (hbody : hasBody P f = true)
    (hfit : fits fn.ntmps c = true) {args : List Value} (hn : Nat.ble args.length fn.ntmps = true) (rs : List ResultVar) (hrs : fn.results.toList = rs) {u0 u : World} {Post : Value → World → Prop}
    (h : Vc P u0 c (RetK P rs Post) ⟨initR 0 args, []⟩ u) : CallB false P f args u0 u Post := by
  subst hrs
  refine ⟨hbody, fun w hu h0 => calls_of_wp hf hb ?_⟩
  have hsim := sim_init (Nat.le_of_ble_eq_true hn) hu h0
  refine wp_mono (h hm ⟨fn.ntmps, w, u, u0⟩ _ w rfl hfit hsim) ?_
  have fin : ∀ a w', (∃ s u', Sim ⟨fn.ntmps, w, u, u0⟩ s u' a w' ∧ DoneK Post (resAll P s fn.results.toList) u') →
      a.defers = [] ∧ ∃ v, (results fn a.tmps).run P w' = .ok v w' ∧ ∃ r u', Ending.returned v = .returned r ∧ Step false u0 u w u' w' ∧ Post r u' := by
    rintro a w' ⟨s, u', hs, hd⟩
    refine ⟨hs.defers, ?_⟩
    unfold DoneK at hd
    split at hd
    · rename_i v hv
      exact ⟨v, resAll_run hs hv, v, u', rfl, ⟨hs.sub, fun b o hb => (hs.keep b o hb).imp id (fun h => ⟨rfl, h⟩), hs.dom, hs.le⟩, hd⟩
    · exact hd.elim
  intro e a w' hl
  cases e with
  | normal => exact fin a w' hl
  | ret => exact fin a w' hl
  | exit id => obtain ⟨s, u', _, h⟩ := hl; exact h.elim
  | goto l => exact hl.elim
  | panic c => exact hl.elim
  | outgrown => exact hl.elim

theorem call_of_vc {P : Program} (hm : P.follows .mixedOrders = true) {f : FuncId} {fn : Func} {c : Code} (hf : P.funcs[f]? = some fn) (hb : fn.body = some c) (hbody : hasBody P f = true)
    (hfit : fits fn.ntmps c = true) {args : List Value} (hn : Nat.ble args.length fn.ntmps = true) (rs : List ResultVar) (hrs : fn.results.toList = rs) {u0 u : World} {Post : Value → World → Prop}
    (h : vc P u0 c (RetK P rs Post) ⟨initR 0 args, []⟩ u) : CallB false P f args u0 u Post :=
  call_of_Vc hm hf hb hbody hfit hn rs hrs (Vc.of h)

theorem spec_of_vc {P : Program} (hm : P.follows .mixedOrders = true) {f : FuncId} {fn : Func} {c : Code} (hf : P.funcs[f]? = some fn) (hb : fn.body = some c) (hbody : hasBody P f = true)
    (hfit : fits fn.ntmps c = true) {args : List Value} (hn : Nat.ble args.length fn.ntmps = true) (rs : List ResultVar) (hrs : fn.results.toList = rs) {u : World} {Post : Value → World → Prop}
    (h : vc P u c (RetK P rs (fun r u' => Sub u u' ∧ Post r u')) ⟨initR 0 args, []⟩ u) : Con P f args u Post := by
  obtain ⟨h1, h2⟩ := call_of_vc hm hf hb hbody hfit hn rs hrs h
  refine ⟨h1, fun w hu => (h2 w hu hu).mono ?_⟩
  rintro e w' ⟨r, u', he, hst, hsub, hp⟩
  exact ⟨r, u', he, ⟨hst.sub, fun b o hb => .inl ((hst.keep b o hb).resolve_right (fun h => h.2.1 h.2.2)), hst.dom, hst.le⟩, hsub, hp⟩

theorem spec_of_Vc {P : Program} (hm : P.follows .mixedOrders = true) {f : FuncId} {fn : Func} {c : Code} (hf : P.funcs[f]? = some fn) (hb : fn.body = some c) (hbody : hasBody P f = true)
    (hfit : fits fn.ntmps c = true) {args : List Value} (hn : Nat.ble args.length fn.ntmps = true) (rs : List ResultVar) (hrs : fn.results.toList = rs) {u : World} {Post : Value → World → Prop}
    (h : Vc P u c (RetK P rs (fun r u' => Sub u u' ∧ Post r u')) ⟨initR 0 args, []⟩ u) : Con P f args u Post := by
  obtain ⟨h1, h2⟩ := call_of_Vc hm hf hb hbody hfit hn rs hrs h
  refine ⟨h1, fun w hu => (h2 w hu hu).mono ?_⟩
  rintro e w' ⟨r, u', he, hst, hsub, hp⟩
  exact ⟨r, u', he, ⟨hst.sub, fun b o hb => .inl ((hst.keep b o hb).resolve_right (fun h => h.2.1 h.2.2)), hst.dom, hst.le⟩, hsub, hp⟩

end Go.Eng
