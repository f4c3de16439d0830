/-
  Engine, part B: the symbolic frame, the relation to a frame and a world, the conditions of one operation.
-/
import Derived.Test.YtcaobkpfafcnjaaEa
import Derived.Tactics
import Derived.WalkKit
set_option linter.unusedSimpArgs false
set_option linter.unusedVariables false
namespace Go.Eng

/-- What is known of a slot: nothing; a value; a pointer into a local variable; a pointer to (a cell of) an element of a slice. -/
inductive SV where
  | unk
  | v (x : Value)
  | loc (k off : Nat)
  | elt (s : Value) (sz : Nat) (i : Int) (off : Nat)

/-- A local variable: its block, its cells. -/
structure Loc where
  b : Nat
  cells : List Value
  T : TypeId

structure S where
  ρ : List (Nat × SV)
  σ : List (Nat × Loc)

def lk {α : Type} : List (Nat × α) → Nat → Option α
  | [], _ => none
  | (k, x) :: r, t => bif k == t then some x else lk r t

def S.get (s : S) (t : Nat) : SV := (lk s.ρ t).getD .unk
def S.find (s : S) (k : Nat) : Option Loc := lk s.σ k
def S.put (s : S) (d : Option Nat) (x : SV) : S :=
  match d with
  | some d => ⟨(d, x) :: s.ρ, s.σ⟩
  | none => s
def S.sv (s : S) : Operand → SV
  | .tmp t => s.get t
  | .const x => .v x
  | .global g => .v (.pointer (some ⟨g, 0, none⟩))
  | .func f => .v (.func (.func f) #[] #[])

def eltAddr (s : Value) (sz : Nat) (i : Int) (off : Nat) : Option Addr :=
  match s with
  | .slice (some a) _ _ => some ((a.add (i.toNat * sz)).add off)
  | _ => none

def S.val (s : S) : SV → Option Value
  | .unk => none
  | .v x => some x
  | .loc k off => (s.find k).map fun l => .pointer (some ⟨l.b, off, none⟩)
  | .elt sv sz i off => (eltAddr sv sz i off).map fun a => .pointer (some a)

structure Ctx where
  n : Nat
  w0 : World
  ue : World
  u0 : World

/-- Memory has not shrunk; nothing was said, and the system is as it was. -/
structure Le (w w' : World) : Prop where
  size : w.heap.size ≤ w'.heap.size
  os : w'.os = w.os
  output : w'.output = w.output

theorem Le.trans {a b c : World} (h : Le a b) (h' : Le b c) : Le a c := ⟨Nat.le_trans h.size h'.size, h'.os.trans h.os, h'.output.trans h.output⟩

/-- The frame and the world are as the symbolic state says. -/
structure Sim (C : Ctx) (s : S) (u : World) (a : Act) (w : World) : Prop where
  size : a.tmps.size = C.n
  defers : a.defers = []
  slots : ∀ t v, s.val (s.get t) = some v → a.tmps.getD t undef = v
  wfl : ∀ t k off, s.get t = .loc k off → s.find k ≠ none
  wfe : ∀ t sv sz i off, s.get t = .elt sv sz i off → eltAddr sv sz i off ≠ none
  sub : Sub u w
  locs : ∀ k l, s.find k = some l → w.heap[l.b]? = some (.cells l.cells.toArray l.T (0, 0)) ∧ Fresh u l.b ∧ C.w0.heap.size ≤ l.b
  dist : ∀ k k' l l', s.find k = some l → s.find k' = some l' → k ≠ k' → l.b ≠ l'.b
  keep : ∀ (b : Nat) (o : Obj), C.w0.heap[b]? = some o → w.heap[b]? = some o ∨ (¬ Fresh C.ue b ∧ Fresh C.u0 b)
  dom : ∀ b, b < C.w0.heap.size → ¬ Fresh u b → ¬ Fresh C.ue b
  le : Le C.w0 w
  sub0 : Sub C.u0 w
  sub00 : Sub C.u0 C.w0

theorem lk_cons_ne {α : Type} {k t : Nat} {x : α} {r : List (Nat × α)} (h : k ≠ t) : lk ((k, x) :: r) t = lk r t := by
  have : (k == t) = false := by simpa using h
  simp [lk, this]
theorem lk_cons_eq {α : Type} {k : Nat} {x : α} {r : List (Nat × α)} : lk ((k, x) :: r) k = some x := by simp [lk]

theorem S.get_put_ne {s : S} {d t : Nat} {x : SV} (h : d ≠ t) : (s.put (some d) x).get t = s.get t := by simp [S.put, S.get, lk_cons_ne h]
theorem S.get_put_eq {s : S} {d : Nat} {x : SV} : (s.put (some d) x).get d = x := by simp [S.put, S.get, lk_cons_eq]
theorem S.find_put {s : S} {d : Option Nat} {x : SV} {k : Nat} : (s.put d x).find k = s.find k := by cases d <;> rfl
theorem S.val_put {s : S} {d : Option Nat} {x y : SV} : (s.put d x).val y = s.val y := by
  cases y <;> simp [S.val, S.find_put]

theorem Sim.eval {C : Ctx} {s : S} {u : World} {a : Act} {w : World} (h : Sim C s u a w) {x : Operand} {v : Value} (hv : s.val (s.sv x) = some v) : a.eval x = v := by
  cases x with
  | tmp t => exact h.slots t v hv
  | const x => simpa [S.sv, S.val, Act.eval] using hv
  | global g => simpa [S.sv, S.val, Act.eval] using hv
  | func f => simpa [S.sv, S.val, Act.eval] using hv

theorem Sim.eval_v {C : Ctx} {s : S} {u : World} {a : Act} {w : World} (h : Sim C s u a w) {x : Operand} {v : Value} (hv : s.sv x = .v v) : a.eval x = v :=
  h.eval (by rw [hv]; rfl)

/-- Does the destination lie in the frame? -/
def okDst (n : Nat) : Option Tmp → Bool
  | some d => decide (d < n)
  | none => true

theorem Sim.put {C : Ctx} {s : S} {u : World} {a : Act} {w : World} (h : Sim C s u a w) {d : Option Tmp} {x : SV} {v : Value} (hd : okDst C.n d = true)
    (hv : ∀ v', s.val x = some v' → v' = v) (hw : ∀ k off, x = .loc k off → s.find k ≠ none)
    (he : ∀ sv sz i off, x = .elt sv sz i off → eltAddr sv sz i off ≠ none) : Sim C (s.put d x) u (a.put d v) w := by
  cases d with
  | none => exact h
  | some d =>
    have hd' : d < C.n := by simpa [okDst] using hd
    refine ⟨by simp [Act.put, h.size], h.defers, ?_, ?_, ?_, h.sub, ?_, ?_, h.keep, h.dom, h.le, h.sub0, h.sub00⟩
    · intro t v' ht
      rw [S.val_put] at ht
      by_cases hdt : d = t
      · subst hdt
        rw [S.get_put_eq] at ht
        have := hv v' ht
        subst this
        simp [Act.put, h.size, hd']
      · rw [S.get_put_ne hdt] at ht
        have := h.slots t v' ht
        simp only [Act.put]
        rw [← this]
        simp [Array.getElem?_setIfInBounds_ne hdt]
    · intro t k off ht
      rw [S.find_put]
      by_cases hdt : d = t
      · subst hdt
        rw [S.get_put_eq] at ht
        exact hw k off ht
      · rw [S.get_put_ne hdt] at ht
        exact h.wfl t k off ht
    · intro t sv sz i off ht
      by_cases hdt : d = t
      · subst hdt
        rw [S.get_put_eq] at ht
        exact he sv sz i off ht
      · rw [S.get_put_ne hdt] at ht
        exact h.wfe t sv sz i off ht
    · intro k l hk; rw [S.find_put] at hk; exact h.locs k l hk
    · intro k k' l l' hk hk'; rw [S.find_put] at hk hk'; exact h.dist k k' l l' hk hk'

theorem Sim.put_v {C : Ctx} {s : S} {u : World} {a : Act} {w : World} (h : Sim C s u a w) {d : Option Tmp} {v : Value} (hd : okDst C.n d = true) : Sim C (s.put d (.v v)) u (a.put d v) w :=
  h.put hd (fun v' h' => by simpa [S.val] using h'.symm) (fun _ _ h' => by cases h') (fun _ _ _ _ h' => by cases h')

/-- The same slots, a world that extends. -/
theorem Sim.ext {C : Ctx} {s : S} {u : World} {a : Act} {w w' : World} (h : Sim C s u a w) (he : Ext w w') (hl : Le w w') : Sim C s u a w' := by
  refine ⟨h.size, h.defers, h.slots, h.wfl, h.wfe, h.sub.trans he.sub, ?_, h.dist, ?_, h.dom, h.le.trans hl, h.sub0.trans he.sub, h.sub00⟩
  · intro k l hk
    obtain ⟨h1, h2, h3⟩ := h.locs k l hk
    exact ⟨he _ _ h1, h2, h3⟩
  · intro b o hb
    exact (h.keep b o hb).imp (he b o) id

/-- What a piece of code does to memory: 'u'' is known behind it; but for blocks that 'u' knows and 'u0' does not (and, where 'x' is set, without exception) all stands; nothing old becomes known. -/
structure Step (x : Bool) (u0 u w u' w' : World) : Prop where
  sub : Sub u' w'
  keep : ∀ (b : Nat) (o : Obj), w.heap[b]? = some o → w'.heap[b]? = some o ∨ (x = false ∧ ¬ Fresh u b ∧ Fresh u0 b)
  dom : ∀ b, b < w.heap.size → ¬ Fresh u' b → ¬ Fresh u b
  le : Le w w'

theorem Step.ext {u0 u w u' w' : World} (h : Step true u0 u w u' w') : Ext w w' := fun b o hb =>
  (h.keep b o hb).resolve_right (fun h => by cases h.1)

theorem Step.weaken {x : Bool} {u0 u w u' w' : World} (h : Step true u0 u w u' w') : Step x u0 u w u' w' :=
  ⟨h.sub, fun b o hb => .inl (h.ext b o hb), h.dom, h.le⟩

theorem Sim.step {C : Ctx} {s : S} {u : World} {a : Act} {w : World} (h : Sim C s u a w) {x : Bool} {u' w' : World} (hs : Step x C.u0 u w u' w') : Sim C s u' a w' := by
  refine ⟨h.size, h.defers, h.slots, h.wfl, h.wfe, hs.sub, ?_, h.dist, ?_, ?_, h.le.trans hs.le, ?_, h.sub00⟩
  · intro k l hk
    obtain ⟨h1, h2, h3⟩ := h.locs k l hk
    refine ⟨(hs.keep _ _ h1).resolve_right (fun hx => hx.2.1 h2), ?_, h3⟩
    exact Classical.byContradiction fun hn => hs.dom _ (lt_of_some h1) hn h2
  · intro b o hb
    rcases h.keep b o hb with h1 | h1
    · rcases hs.keep b o h1 with h2 | ⟨_, h2, h3⟩
      · exact .inl h2
      · exact .inr ⟨h.dom b (lt_of_some hb) h2, h3⟩
    · exact .inr h1
  · intro b hb hn
    exact h.dom b hb (hs.dom b (Nat.lt_of_lt_of_le hb h.le.size) hn)
  · intro b o hb ho
    refine (hs.keep b o (h.sub0 b o hb ho)).resolve_right (fun hx => ho (hx.2.2 o hb))

/-! ### Weakening -/

def leR (s1 s : S) : List (Nat × SV) → Prop
  | [] => True
  | (t, _) :: r => (s1.get t = .unk ∨ s.get t = s1.get t) ∧ (match s1.get t with | .loc k _ => (s1.find k).isSome = true | _ => True) ∧ leR s1 s r

def leL (s1 s : S) : List (Nat × Loc) → Prop
  | [] => True
  | (k, _) :: r => s.find k = s1.find k ∧ leL s1 s r

/-- 's' says all that 's1' says. -/
structure S.le (s1 s : S) : Prop where
  get : ∀ t, s1.get t = .unk ∨ s.get t = s1.get t
  wfl : ∀ t k off, s1.get t = .loc k off → s1.find k ≠ none
  find : ∀ k, s1.find k = none ∨ s.find k = s1.find k

theorem lk_none_of {α : Type} : ∀ (l : List (Nat × α)) (t : Nat), (∀ p ∈ l, p.1 ≠ t) → lk l t = none := by
  intro l
  induction l with
  | nil => intro t _; rfl
  | cons p r ih =>
    intro t h
    obtain ⟨k, x⟩ := p
    rw [lk_cons_ne (h (k, x) List.mem_cons_self)]
    exact ih t (fun q hq => h q (List.mem_cons_of_mem _ hq))

theorem leR_mem {s1 s : S} : ∀ (l : List (Nat × SV)), leR s1 s l → ∀ p ∈ l, (s1.get p.1 = .unk ∨ s.get p.1 = s1.get p.1) ∧ (∀ k off, s1.get p.1 = .loc k off → s1.find k ≠ none) := by
  intro l
  induction l with
  | nil => intro _ p hp; cases hp
  | cons q r ih =>
    intro h p hp
    obtain ⟨t, x⟩ := q
    obtain ⟨h1, h2, h3⟩ := h
    rcases List.mem_cons.1 hp with rfl | hp
    · refine ⟨h1, fun k off hk hn => ?_⟩
      simp only [hk] at h2
      rw [hn] at h2
      cases h2
    · exact ih h3 p hp

theorem leL_mem {s1 s : S} : ∀ (l : List (Nat × Loc)), leL s1 s l → ∀ p ∈ l, s.find p.1 = s1.find p.1 := by
  intro l
  induction l with
  | nil => intro _ p hp; cases hp
  | cons q r ih =>
    intro h p hp
    obtain ⟨t, x⟩ := q
    rcases List.mem_cons.1 hp with rfl | hp
    · exact h.1
    · exact ih h.2 p hp

theorem lk_some_mem {α : Type} : ∀ {l : List (Nat × α)} {t : Nat} {x : α}, lk l t = some x → (t, x) ∈ l := by
  intro l
  induction l with
  | nil => intro t x h; cases h
  | cons p r ih =>
    intro t x h
    obtain ⟨k, y⟩ := p
    by_cases hk : k = t
    · subst hk; rw [lk_cons_eq] at h; cases h; exact List.mem_cons_self
    · rw [lk_cons_ne hk] at h; exact List.mem_cons_of_mem _ (ih h)

theorem le_chk {s1 s : S} (h : leR s1 s s1.ρ ∧ leL s1 s s1.σ) : s1.le s := by
  obtain ⟨hR, hL⟩ := h
  refine ⟨fun t => ?_, fun t k off ht => ?_, fun k => ?_⟩
  · cases hl : lk s1.ρ t with
    | none => exact .inl (by simp [S.get, hl])
    | some x => exact (leR_mem _ hR (t, x) (lk_some_mem hl)).1
  · cases hl : lk s1.ρ t with
    | none => simp [S.get, hl] at ht
    | some x => exact (leR_mem _ hR (t, x) (lk_some_mem hl)).2 k off ht
  · cases hl : s1.find k with
    | none => exact .inl rfl
    | some l => exact .inr (by rw [← hl]; exact leL_mem _ hL (k, l) (lk_some_mem hl))

theorem Sim.le_of {C : Ctx} {s s1 : S} {u : World} {a : Act} {w : World} (h : Sim C s u a w) (hle : s1.le s) : Sim C s1 u a w := by
  have hfind : ∀ k l, s1.find k = some l → s.find k = some l := by
    intro k l hk
    rcases hle.find k with h1 | h1
    · rw [hk] at h1; cases h1
    · rw [h1]; exact hk
  have hget : ∀ t, s1.get t ≠ .unk → s.get t = s1.get t ∧ (∀ k off, s1.get t = .loc k off → s1.find k ≠ none) := by
    intro t ht
    exact ⟨(hle.get t).resolve_left ht, hle.wfl t⟩
  refine ⟨h.size, h.defers, ?_, ?_, ?_, h.sub, ?_, ?_, h.keep, h.dom, h.le, h.sub0, h.sub00⟩
  · intro t v hv
    have ht : s1.get t ≠ .unk := by intro he; rw [he] at hv; cases hv
    refine h.slots t v ?_
    rw [(hget t ht).1]
    cases hg : s1.get t with
    | unk => exact absurd hg ht
    | v x => rw [hg] at hv; exact hv
    | elt sv sz i off => rw [hg] at hv; exact hv
    | loc k off =>
      rw [hg] at hv
      simp only [S.val] at hv ⊢
      cases hk : s1.find k with
      | none => rw [hk] at hv; cases hv
      | some l => rw [hk] at hv; rw [hfind k l hk]; exact hv
  · intro t k off ht
    exact (hget t (by rw [ht]; intro h; cases h)).2 k off ht
  · intro t sv sz i off ht
    refine h.wfe t sv sz i off ?_
    rw [(hget t (by rw [ht]; intro h; cases h)).1]; exact ht
  · intro k l hk; exact h.locs k l (hfind k l hk)
  · intro k k' l l' hk hk'; exact h.dist k k' l l' (hfind k l hk) (hfind k' l' hk')

end Go.Eng
