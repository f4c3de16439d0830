/-
  Part 5 of the proof of M7: the engine and the walks, in their order.
-/
import Derived.Test.YtgpmgnbjpfggmaaM74
import Derived.Laws.Cover3
set_option linter.unusedSimpArgs false
set_option linter.unusedVariables false
/-
  Engine, part G: the conditions, written out step by step.
-/
set_option linter.unusedSimpArgs false
set_option linter.unusedVariables false
namespace Go.Eng

section
variable {P : Program} {u0 u : World} {Q : Exit → S → World → Prop} {s : S} {K : S → World → Prop}

theorem vc_skip : vc P u0 .skip Q s u = Q .normal s u := rfl
theorem vc_ret : vc P u0 .ret Q s u = Q .ret s u := rfl
theorem vc_exit {id : Nat} : vc P u0 (.exit id) Q s u = Q (.exit id) s u := rfl
theorem vc_region {id : Nat} {l : List Oper} : vc P u0 (.region id l.toArray false) Q s u = vcOps P u0 l (Q .normal) l s u := rfl
theorem vc_draw {id : Nat} {l : List Oper} : vc P u0 (.region id l.toArray true) Q s u = AtDraw P u0 l.toArray (Q .normal) s u := rfl
theorem vc_seq {x y : Code} : vc P u0 (.seq x y) Q s u = vc P u0 x (SeqK P u0 y Q) s u := rfl

/-- A test. -/
def CondK (c : SV) (s : S) (u : World) (P : Program) (u0 : World) (x y : Code) (Q : Exit → S → World → Prop) : Prop :=
  match c with
  | .v (.bool t) => (t = true → vc P u0 x Q s u) ∧ (t = false → vc P u0 y Q s u)
  | _ => False

theorem vc_cond {c : Operand} {x y : Code} : vc P u0 (.cond c x y) Q s u = CondK (s.sv c) s u P u0 x y Q := rfl
theorem CondK_true {x y : Code} : CondK (.v (.bool true)) s u P u0 x y Q = vc P u0 x Q s u := by simp [CondK]
theorem CondK_false {x y : Code} : CondK (.v (.bool false)) s u P u0 x y Q = vc P u0 y Q s u := by simp [CondK]
theorem CondK_not {x y : Code} {t : Bool} : CondK (.v (.bool (!t))) s u P u0 x y Q = CondK (.v (.bool t)) s u P u0 y x Q := by
  cases t <;> simp [CondK]

theorem cond_split {x y : Code} {t : Bool} (h1 : t = true → vc P u0 x Q s u) (h2 : t = false → vc P u0 y Q s u) : CondK (.v (.bool t)) s u P u0 x y Q := ⟨h1, h2⟩
theorem cond_dec {x y : Code} {p : Prop} [Decidable p] (h1 : p → vc P u0 x Q s u) (h2 : ¬ p → vc P u0 y Q s u) : CondK (.v (.bool (decide p))) s u P u0 x y Q :=
  ⟨fun h => h1 (of_decide_eq_true h), fun h => h2 (of_decide_eq_false h)⟩
theorem cond_eq {x y : Code} {a b : Int} (h1 : a = b → vc P u0 x Q s u) (h2 : a ≠ b → vc P u0 y Q s u) : CondK (.v (.bool (a == b))) s u P u0 x y Q :=
  ⟨fun h => h1 (by simpa using h), fun h => h2 (by simpa using h)⟩
theorem cond_ne {x y : Code} {a b : Int} (h1 : a ≠ b → vc P u0 x Q s u) (h2 : a = b → vc P u0 y Q s u) : CondK (.v (.bool (a != b))) s u P u0 x y Q :=
  ⟨fun h => h1 (by simpa using h), fun h => h2 (by simpa using h)⟩

theorem vc_block_seq {id : Nat} {x y : Code} : vc P u0 (.block id (.seq x y)) Q s u = vc P u0 (.seq x y) (BlockW id Q) s u := rfl
theorem vc_block_region {id i : Nat} {l : Array Oper} {d : Bool} : vc P u0 (.block id (.region i l d)) Q s u = vc P u0 (.region i l d) (BlockW id Q) s u := by cases d <;> rfl
theorem vc_block_cond {id : Nat} {c : Operand} {x y : Code} : vc P u0 (.block id (.cond c x y)) Q s u = vc P u0 (.cond c x y) (BlockW id Q) s u := rfl
theorem vc_block_block {id j : Nat} {x : Code} : vc P u0 (.block id (.block j x)) Q s u = vc P u0 (.block j x) (BlockW id Q) s u := rfl
theorem vc_block_ret {id : Nat} : vc P u0 (.block id .ret) Q s u = Q .ret s u := rfl
theorem vc_block_skip {id : Nat} : vc P u0 (.block id .skip) Q s u = LeK (Q .normal) s u := rfl
theorem vc_block_exit {id j : Nat} : vc P u0 (.block id (.exit j)) Q s u = BlockW id Q (.exit j) s u := rfl
theorem BlockW_normal {id : Nat} : BlockW id Q .normal s u = LeK (Q .normal) s u := rfl
theorem BlockW_ret {id : Nat} : BlockW id Q .ret s u = Q .ret s u := rfl
theorem BlockW_exit {id j : Nat} : BlockW id Q (.exit j) s u = bif j == id then LeK (Q .normal) s u else Q (.exit j) s u := rfl
theorem leK_refl {K : S → World → Prop} (h : K s u) : LeK K s u := .inl h
theorem vc_block_loop {id : Nat} {x : Code} : vc P u0 (.block id (.loop x)) Q s u = vc P u0 (.loop x) (BlockW id Q) s u := rfl

theorem SeqK_normal {y : Code} : SeqK P u0 y Q .normal s u = vc P u0 y Q s u := rfl
theorem SeqK_ret {y : Code} : SeqK P u0 y Q .ret s u = Q .ret s u := rfl
theorem SeqK_exit {y : Code} {j : Nat} : SeqK P u0 y Q (.exit j) s u = Q (.exit j) s u := rfl
theorem BlockK_normal {id : Nat} : BlockK id Q .normal s u = Q .normal s u := rfl
theorem BlockK_ret {id : Nat} : BlockK id Q .ret s u = Q .ret s u := rfl
theorem BlockK_exit {id j : Nat} : BlockK id Q (.exit j) s u = bif j == id then Q .normal s u else Q (.exit j) s u := rfl
theorem LoopK_normal {γ : Type} {st : γ → S} {F : γ → World → Prop} {μ : γ → Nat} {g : γ} : LoopK st F μ g Q .normal s u = ∃ g', (st g').le s ∧ F g' u ∧ μ g' < μ g := rfl
theorem LoopK_ret {γ : Type} {st : γ → S} {F : γ → World → Prop} {μ : γ → Nat} {g : γ} : LoopK st F μ g Q .ret s u = Q .ret s u := rfl
theorem LoopK_exit {γ : Type} {st : γ → S} {F : γ → World → Prop} {μ : γ → Nat} {g : γ} {j : Nat} : LoopK st F μ g Q (.exit j) s u = Q (.exit j) s u := rfl
theorem RetK_normal {rs : List ResultVar} {Post : Value → World → Prop} : RetK P rs Post .normal s u = DoneK Post (resAll P s rs) u := rfl
theorem RetK_ret {rs : List ResultVar} {Post : Value → World → Prop} : RetK P rs Post .ret s u = DoneK Post (resAll P s rs) u := rfl
theorem DoneK_some {Post : Value → World → Prop} {v : Value} : DoneK Post (some v) u = Post v u := rfl

theorem resAll_nil : resAll P s [] = some (.tuple #[]) := rfl
theorem resAll_one {x : ResultVar} : resAll P s [x] = resOne P s x := rfl
def resT2 (a b : Option Value) : Option Value :=
  match a, b with
  | some a, some b => some (.tuple #[a, b])
  | _, _ => none
def resT3 (a b c : Option Value) : Option Value :=
  match a, b, c with
  | some a, some b, some c => some (.tuple #[a, b, c])
  | _, _, _ => none
def resT4 (a b c d : Option Value) : Option Value :=
  match a, b, c, d with
  | some a, some b, some c, some d => some (.tuple #[a, b, c, d])
  | _, _, _, _ => none
theorem resAll_two {x y : ResultVar} : resAll P s [x, y] = resT2 (resOne P s x) (resOne P s y) := rfl
theorem resAll_three {x y z : ResultVar} : resAll P s [x, y, z] = resT3 (resOne P s x) (resOne P s y) (resOne P s z) := rfl
theorem resAll_four {x y z t : ResultVar} : resAll P s [x, y, z, t] = resT4 (resOne P s x) (resOne P s y) (resOne P s z) (resOne P s t) := rfl
theorem resT2_some {a b : Value} : resT2 (some a) (some b) = some (.tuple #[a, b]) := rfl
theorem resT3_some {a b c : Value} : resT3 (some a) (some b) (some c) = some (.tuple #[a, b, c]) := rfl
theorem resT4_some {a b c d : Value} : resT4 (some a) (some b) (some c) (some d) = some (.tuple #[a, b, c, d]) := rfl
theorem resOne_tmp {t : Nat} : resOne P s (.tmp t) = s.val (s.get t) := rfl
def ResL (ag : Bool) (n off : Nat) (l : Option Loc) : Option Value :=
  match l with
  | some l => if (n = 1 ∨ ag = true) ∧ off + n ≤ l.cells.length then some (ld ag n off l.cells) else none
  | none => none
def ResC (s : S) (x : SV) (l : Option (Bool × Nat)) : Option Value :=
  match x, l with
  | .loc k off, some (ag, n) => ResL ag n off (s.find k)
  | _, _ => none
theorem resOne_cell {t T : Nat} : resOne P s (.cell t T) = ResC s (s.get t) (lay P T) := by
  simp only [resOne, ResC]
  generalize s.get t = x
  generalize lay P T = l
  cases x with
  | loc k off => cases l with
    | none => rfl
    | some q =>
      obtain ⟨ag, n⟩ := q
      simp only [ResL]
      cases s.find k <;> rfl
  | _ => rfl
theorem ResC_loc {k off n : Nat} {ag : Bool} : ResC s (.loc k off) (some (ag, n)) = ResL ag n off (s.find k) := rfl
theorem ResL_agg {n off b : Nat} {cs : List Value} {T : TypeId} : ResL true n off (some ⟨b, cs, T⟩) = if off + n ≤ cs.length then some (.agg ((cs.drop off).take n).toArray) else none := by simp [ResL, ld]
theorem ResL_one {off b : Nat} {cs : List Value} {T : TypeId} : ResL false 1 off (some ⟨b, cs, T⟩) = if off + 1 ≤ cs.length then some ((cs.drop off).headD undef) else none := by simp [ResL, ld]

theorem vcOps_nil {all : List Oper} : vcOps P u0 all K [] s u = K s u := rfl
theorem vcOps_cons {all : List Oper} {o : Oper} {r : List Oper} : vcOps P u0 all K (o :: r) s u = vcG P false u0 all o (vcOps P u0 all K r) s u := rfl
theorem vcOrd_nil {all : List Oper} : vcOrd P u0 all K [] s u = K s u := rfl

def OrdK (P : Program) (u0 : World) (all : List Oper) (K : S → World → Prop) (x : Bool) (r : List (Nat × Bool)) (s : S) (u : World) (o : Option Oper) : Prop :=
  match o with
  | some o => vcG P x u0 all o (vcOrd P u0 all K r) s u
  | none => False
theorem vcOrd_cons {all : List Oper} {i : Nat} {x : Bool} {r : List (Nat × Bool)} : vcOrd P u0 all K ((i, x) :: r) s u = OrdK P u0 all K x r s u (operAt all i) := rfl
theorem OrdK_some {all : List Oper} {x : Bool} {r : List (Nat × Bool)} {o : Oper} : OrdK P u0 all K x r s u (some o) = vcG P x u0 all o (vcOrd P u0 all K r) s u := rfl
theorem vcOrdL_nil {all : List Oper} {ks : List Nat} : vcOrdL P u0 all ks K [] s u = K s u := rfl
def KeepK (P : Program) (u0 : World) (all : List Oper) (ks : List Nat) (K : S → World → Prop) (r : List (Nat × Bool)) (d : Option Nat) (s0 s : S) (u : World) : Prop := keepL s0 s d ks ∧ vcOrdL P u0 all ks K r s u
def StIf : Bool → Prop → Prop
  | true, p => p
  | false, _ => True
theorem StIf_tt {p : Prop} : StIf true p = p := rfl
theorem StIf_ff {p : Prop} : StIf false p = True := rfl
def OrdLK (P : Program) (u0 : World) (all : List Oper) (ks : List Nat) (K : S → World → Prop) (x : Bool) (r : List (Nat × Bool)) (s : S) (u : World) (o : Option Oper) : Prop :=
  match o with
  | some o => ldOk ks o s ∧ (x = true → stOk ks o s) ∧ vcG P x u0 all o (KeepK P u0 all ks K r (newD o) s) s u
  | none => False
theorem vcOrdL_cons {all : List Oper} {ks : List Nat} {i : Nat} {x : Bool} {r : List (Nat × Bool)} : vcOrdL P u0 all ks K ((i, x) :: r) s u = OrdLK P u0 all ks K x r s u (operAt all i) := rfl
theorem OrdLK_some {all : List Oper} {ks : List Nat} {x : Bool} {r : List (Nat × Bool)} {o : Oper} : OrdLK P u0 all ks K x r s u (some o) = (ldOk ks o s ∧ StIf x (stOk ks o s) ∧ vcG P x u0 all o (KeepK P u0 all ks K r (newD o) s) s u) := by
  cases x <;> simp [OrdLK, StIf]
theorem KeepK_eq {all : List Oper} {ks : List Nat} {r : List (Nat × Bool)} {d : Option Nat} {s0 : S} : KeepK P u0 all ks K r d s0 s u = (keepL s0 s d ks ∧ vcOrdL P u0 all ks K r s u) := rfl
theorem vcT_done {all : List Oper} : vcT P u0 all K .done s u = K s u := rfl
theorem vcT_no {all : List Oper} : vcT P u0 all K .no s u = True := rfl
def TreeK (P : Program) (x : Bool) (u0 : World) (all : List Oper) (K : S → World → Prop) (t : OT) (s : S) (u : World) (o : Option Oper) : Prop :=
  match o with
  | some o => vcG P x u0 all o (vcT P u0 all K t) s u
  | none => False
theorem vcT_fl {all : List Oper} {i : Nat} {t : OT} : vcT P u0 all K (.fl i t) s u = TreeK P false u0 all K t s u (operAt all i) := rfl
theorem vcT_one {all : List Oper} {i : Nat} {x : Bool} {t : OT} : vcT P u0 all K (.eff i x t .no) s u = TreeK P x u0 all K t s u (operAt all i) := by
  show (TreeK P x u0 all K t s u (operAt all i) ∧ True) = _
  simp
/-- One of several comes next. -/
theorem vcT_alt {all : List Oper} {i j : Nat} {x y : Bool} {t t' alt : OT} : vcT P u0 all K (.eff i x t (.eff j y t' alt)) s u = (TreeK P x u0 all K t s u (operAt all i) ∧ vcT P u0 all K (.eff j y t' alt) s u) := rfl
theorem TreeK_some {all : List Oper} {x : Bool} {t : OT} {o : Oper} : TreeK P x u0 all K t s u (some o) = vcG P x u0 all o (vcT P u0 all K t) s u := rfl
theorem operAt_zero {o : Oper} {r : List Oper} : operAt (o :: r) 0 = some o := rfl
theorem operAt_succ {o : Oper} {r : List Oper} {j : Nat} : operAt (o :: r) (j + 1) = operAt r j := rfl
theorem dstAt_zero {o : Oper} {r : List Oper} : dstAt (o :: r) 0 = o.dst := rfl
theorem dstAt_succ {o : Oper} {r : List Oper} {j : Nat} : dstAt (o :: r) (j + 1) = dstAt r j := rfl

/-- A guard. -/
def GuardK (want : Bool) (A B : Prop) (c : SV) : Prop :=
  match c with
  | .v (.bool c) => (c = want → A) ∧ (c = !want → B)
  | .v (.tuple _) => B
  | _ => False

def GuardD (P : Program) (x : Bool) (u0 : World) (o : Oper) (K : S → World → Prop) (s : S) (u : World) (want : Bool) (d : Option Nat) : Prop :=
  match d with
  | some d => GuardK want (vcOp P x u0 o K s u) (K (s.put o.dst (.v undef)) u) (s.get d)
  | none => False

section
variable {x : Bool} {all : List Oper} {d : Option Tmp} {op : Op} {ty : TypeId} {pos : String} {aft : Array Edge}
theorem vcG_none : vcG P x u0 all ⟨d, op, ty, pos, aft, none⟩ K s u = vcOp P x u0 ⟨d, op, ty, pos, aft, none⟩ K s u := rfl
theorem vcG_some {j : Nat} {b : Bool} : vcG P x u0 all ⟨d, op, ty, pos, aft, some (j, b)⟩ K s u = GuardD P x u0 ⟨d, op, ty, pos, aft, some (j, b)⟩ K s u b (dstAt all j) := by
  unfold vcG GuardD GuardK
  dsimp only
  cases dstAt all j with
  | none => rfl
  | some e =>
    cases s.get e with
    | v y => cases y <;> rfl
    | _ => rfl
end
/-- A guard, its branches not looked into. -/
def GuardV (P : Program) (x : Bool) (u0 : World) (o : Oper) (K : S → World → Prop) (s : S) (u : World) (want : Bool) (c : SV) : Prop :=
  GuardK want (vcOp P x u0 o K s u) (K (s.put o.dst (.v undef)) u) c
section
variable {x : Bool} {o : Oper} {b : Bool}
theorem GuardD_some {e : Nat} : GuardD P x u0 o K s u b (some e) = GuardV P x u0 o K s u b (s.get e) := rfl
theorem GuardV_tt : GuardV P x u0 o K s u true (.v (.bool true)) = vcOp P x u0 o K s u := by simp [GuardV, GuardK]
theorem GuardV_tf : GuardV P x u0 o K s u true (.v (.bool false)) = K (s.put o.dst (.v undef)) u := by simp [GuardV, GuardK]
theorem GuardV_ft : GuardV P x u0 o K s u false (.v (.bool true)) = K (s.put o.dst (.v undef)) u := by simp [GuardV, GuardK]
theorem GuardV_ff : GuardV P x u0 o K s u false (.v (.bool false)) = vcOp P x u0 o K s u := by simp [GuardV, GuardK]
theorem GuardV_undef : GuardV P x u0 o K s u b (.v undef) = K (s.put o.dst (.v undef)) u := rfl
theorem guard_split {c : Bool} (h1 : c = b → vcOp P x u0 o K s u) (h2 : c = !b → K (s.put o.dst (.v undef)) u) : GuardV P x u0 o K s u b (.v (.bool c)) := ⟨h1, h2⟩
theorem guard_yes {c : Bool} (h : c = b) (h1 : vcOp P x u0 o K s u) : GuardV P x u0 o K s u b (.v (.bool c)) := by subst h; exact ⟨fun _ => h1, fun h => by cases c <;> cases h⟩
theorem guard_no {c : Bool} (h : c = !b) (h1 : K (s.put o.dst (.v undef)) u) : GuardV P x u0 o K s u b (.v (.bool c)) := by subst h; exact ⟨(fun h => by cases b <;> cases h), fun _ => h1⟩
end

section
variable {x : Bool} {d : Option Tmp} {ty : TypeId} {pos : String} {aft : Array Edge} {g : Option (Nat × Bool)}
theorem op_move {y : Operand} : vcOp P x u0 ⟨d, .move y, ty, pos, aft, g⟩ K s u = K (s.put d (s.sv y)) u := rfl
theorem op_assign {y : Operand} : vcOp P x u0 ⟨d, .assign y, ty, pos, aft, g⟩ K s u = K (s.put d (s.sv y)) u := rfl

def PickK (K : S → World → Prop) (s : S) (d : Option Tmp) (u : World) (y z : SV) (c : SV) : Prop :=
  match c with
  | .v (.bool t) => K (s.put d (bif t then y else z)) u
  | _ => False
theorem op_pick {c y z : Operand} : vcOp P x u0 ⟨d, .pick c y z, ty, pos, aft, g⟩ K s u = PickK K s d u (s.sv y) (s.sv z) (s.sv c) := rfl
theorem PickK_b {y z : SV} {t : Bool} : PickK K s d u y z (.v (.bool t)) = K (s.put d (bif t then y else z)) u := rfl

def LoadL (K : Value → Prop) (ag : Bool) (n off : Nat) (l : Option Loc) : Prop :=
  match l with
  | some l => (n = 1 ∨ ag = true) ∧ off + n ≤ l.cells.length ∧ K (ld ag n off l.cells)
  | none => False
def LoadS (K : Value → Prop) (s : S) (u : World) (y : SV) (l : Option (Bool × Nat)) : Prop :=
  match l with
  | some (ag, n) =>
    match y with
    | .loc k off => LoadL K ag n off (s.find k)
    | .elt sv sz i off => AtElt u sv sz i ag n off K
    | .v (.pointer (some a)) => AtPtr u a ag n K
    | _ => False
  | none => False
theorem op_load {T : TypeId} {y : Operand} : vcOp P x u0 ⟨d, .load T y, ty, pos, aft, g⟩ K s u = LoadS (PutK s d u K) s u (s.sv y) (lay P T) := rfl
theorem LoadS_loc {Kv : Value → Prop} {k off n : Nat} {ag : Bool} : LoadS Kv s u (.loc k off) (some (ag, n)) = LoadL Kv ag n off (s.find k) := rfl
theorem LoadS_elt {Kv : Value → Prop} {sv : Value} {sz off n : Nat} {i : Int} {ag : Bool} : LoadS Kv s u (.elt sv sz i off) (some (ag, n)) = AtElt u sv sz i ag n off Kv := rfl
theorem LoadS_ptr {Kv : Value → Prop} {a : Addr} {n : Nat} {ag : Bool} : LoadS Kv s u (.v (.pointer (some a))) (some (ag, n)) = AtPtr u a ag n Kv := rfl
theorem LoadL_agg {Kv : Value → Prop} {n off b : Nat} {cs : List Value} {T : TypeId} : LoadL Kv true n off (some ⟨b, cs, T⟩) = (off + n ≤ cs.length ∧ Kv (.agg ((cs.drop off).take n).toArray)) := by
  simp [LoadL, ld]
theorem LoadL_one {Kv : Value → Prop} {off b : Nat} {cs : List Value} {T : TypeId} : LoadL Kv false 1 off (some ⟨b, cs, T⟩) = (off + 1 ≤ cs.length ∧ Kv ((cs.drop off).headD undef)) := by
  simp [LoadL, ld]
theorem PutK_eq {r : Value} : PutK s d u K r = K (s.put d (.v r)) u := rfl
theorem PutE_eq {r : Value} : PutE s d K r u = K (s.put d (.v r)) u := rfl
theorem PutU_eq : PutU s d K u = K (s.put d (.v undef)) u := rfl

def NilK (K : S → World → Prop) (s : S) (d : Option Tmp) (u : World) (y : SV) : Prop :=
  match y with
  | .loc k off => K (s.put d (.loc k off)) u
  | .elt sv sz i off => K (s.put d (.elt sv sz i off)) u
  | .v (.pointer (some a)) => K (s.put d (.v (.pointer (some a)))) u
  | _ => False
theorem op_nilCheck {y : Operand} : vcOp P x u0 ⟨d, .nilCheck y, ty, pos, aft, g⟩ K s u = NilK K s d u (s.sv y) := rfl
theorem NilK_loc {k off : Nat} : NilK K s d u (.loc k off) = K (s.put d (.loc k off)) u := rfl
theorem NilK_elt {sv : Value} {sz : Nat} {i : Int} {off : Nat} : NilK K s d u (.elt sv sz i off) = K (s.put d (.elt sv sz i off)) u := rfl
theorem NilK_ptr {a : Addr} : NilK K s d u (.v (.pointer (some a))) = K (s.put d (.v (.pointer (some a)))) u := rfl

def BinK (P : Program) (op : BinOp) (T : TypeId) (y z : Operand) (Kv : Value → Prop) (a b : SV) : Prop :=
  match a, b with
  | .v a, .v b => AtPure P (binS op T y z a b) Kv
  | _, _ => False
theorem op_bin {op : BinOp} {T t2 : TypeId} {y z : Operand} : vcOp P x u0 ⟨d, .binOp op T y z t2, ty, pos, aft, g⟩ K s u = BinK P op T y z (PutK s d u K) (s.sv y) (s.sv z) := rfl
theorem BinK_v {op : BinOp} {T : TypeId} {y z : Operand} {Kv : Value → Prop} {a b : Value} : BinK P op T y z Kv (.v a) (.v b) = AtPure P (binS op T y z a b) Kv := rfl

def UnK (P : Program) (op : UnOp) (Kv : Value → Prop) (a : SV) : Prop :=
  match a with
  | .v a => AtPure P (iUn op a) Kv
  | _ => False
theorem op_un {op : UnOp} {T : TypeId} {y : Operand} : vcOp P x u0 ⟨d, .unOp op T y, ty, pos, aft, g⟩ K s u = UnK P op (PutK s d u K) (s.sv y) := rfl
theorem UnK_v {op : UnOp} {Kv : Value → Prop} {a : Value} : UnK P op Kv (.v a) = AtPure P (iUn op a) Kv := rfl

def ConvB (P : Program) (x : Bool) (u0 : World) (src dst : TypeId) (s : S) (d : Option Tmp) (K : S → World → Prop) (u : World) (a : SV) (same : Bool) : Prop :=
  match a with
  | .v a => bif same then AtEff x P (iConv src dst a) u0 u (PutE s d K) else AtRead P (iConv src dst a) u (PutK s d u K)
  | _ => False
theorem op_convert {src dst : TypeId} {y : Operand} : vcOp P x u0 ⟨d, .convert src dst y, ty, pos, aft, g⟩ K s u = ConvB P x u0 src dst s d K u (s.sv y) (src == dst) := rfl
theorem ConvB_ff {src dst : TypeId} {a : Value} : ConvB P x u0 src dst s d K u (.v a) false = AtRead P (iConv src dst a) u (PutK s d u K) := rfl
theorem ConvB_tt {src dst : TypeId} {a : Value} : ConvB P x u0 src dst s d K u (.v a) true = AtEff x P (iConv src dst a) u0 u (PutE s d K) := rfl

theorem op_makeFunc {fn : Fn} {first captured : List Operand} : vcOp P x u0 ⟨d, .makeFunc fn first.toArray captured.toArray, ty, pos, aft, g⟩ K s u =
    pubs u0 (first ++ captured) s u (FuncK K d fn first.length) := rfl
theorem FuncK_eq {fn : Fn} {n : Nat} {vs : List Value} : FuncK K d fn n vs s u = K (s.put d (.v (.func fn (vs.take n).toArray (vs.drop n).toArray))) u := rfl

def BuildK (P : Program) (T : TypeId) (Kv : Value → Prop) (vs : Option (List (Nat × Value))) : Prop :=
  match vs with
  | some vs => AtPure P (iBuild T vs.toArray) Kv
  | none => False
theorem op_build {T : TypeId} {ps : List (Nat × Operand)} : vcOp P x u0 ⟨d, .build T ps.toArray, ty, pos, aft, g⟩ K s u = BuildK P T (PutK s d u K) (pvals s ps) := rfl
theorem BuildK_some {T : TypeId} {Kv : Value → Prop} {vs : List (Nat × Value)} : BuildK P T Kv (some vs) = AtPure P (iBuild T vs.toArray) Kv := rfl

def SliceK (P : Program) (T : TypeId) (Kv : Value → Prop) (a : SV) (l h m : Option (Option Value)) : Prop :=
  match a, l, h, m with
  | .v a, some l, some h, some m => AtPure P (iSlice T a l h m) Kv
  | _, _, _, _ => False
theorem op_slice {T : TypeId} {y : Operand} {lo hi mx : Option Operand} : vcOp P x u0 ⟨d, .slice T y lo hi mx, ty, pos, aft, g⟩ K s u =
    SliceK P T (PutK s d u K) (s.sv y) (oval s lo) (oval s hi) (oval s mx) := rfl
theorem SliceK_v {T : TypeId} {Kv : Value → Prop} {a : Value} {l h m : Option Value} : SliceK P T Kv (.v a) (some l) (some h) (some m) = AtPure P (iSlice T a l h m) Kv := rfl
def OvK (a : SV) : Option (Option Value) :=
  match a with
  | .v a => some (some a)
  | _ => none
theorem oval_none : oval s none = some none := rfl
theorem oval_some {y : Operand} : oval s (some y) = OvK (s.sv y) := rfl
theorem OvK_v {a : Value} : OvK (.v a) = some (some a) := rfl

def FieldK (d : Option Tmp) (K : S → World → Prop) (s : S) (u : World) (y : SV) (e : Option Nat) : Prop :=
  match e with
  | some e =>
    match y with
    | .loc k off => K (s.put d (.loc k (off + e))) u
    | .elt sv sz i off => K (s.put d (.elt sv sz i (off + e))) u
    | .v (.pointer (some a)) => K (s.put d (.v (.pointer (some (a.add e))))) u
    | _ => False
  | none => False
theorem op_fieldAddr {T : TypeId} {y : Operand} {f : Nat} : vcOp P x u0 ⟨d, .fieldAddr T y f, ty, pos, aft, g⟩ K s u = FieldK d K s u (s.sv y) (foff P T f) := rfl
theorem FieldK_loc {k off e : Nat} : FieldK d K s u (.loc k off) (some e) = K (s.put d (.loc k (off + e))) u := rfl
theorem FieldK_elt {sv : Value} {sz off e : Nat} {i : Int} : FieldK d K s u (.elt sv sz i off) (some e) = K (s.put d (.elt sv sz i (off + e))) u := rfl
theorem FieldK_ptr {a : Addr} {e : Nat} : FieldK d K s u (.v (.pointer (some a))) (some e) = K (s.put d (.v (.pointer (some (a.add e))))) u := rfl

def FvalK (d : Option Tmp) (K : S → World → Prop) (s : S) (u : World) (y : SV) (e : Option (Nat × Bool × Nat)) : Prop :=
  match y with
  | .v (.agg cs) => match e with
    | some (off, ag, n) => (n = 1 ∨ ag = true) ∧ off + n ≤ cs.toList.length ∧ K (s.put d (.v (ld ag n off cs.toList))) u
    | none => False
  | _ => False
theorem op_field {T : TypeId} {y : Operand} {f : Nat} : vcOp P x u0 ⟨d, .field T y f, ty, pos, aft, g⟩ K s u = FvalK d K s u (s.sv y) (fval P T f) := rfl
theorem FvalK_agg {cs : List Value} {off n : Nat} : FvalK d K s u (.v (.agg cs.toArray)) (some (off, true, n)) = (off + n ≤ cs.length ∧ K (s.put d (.v (.agg ((cs.drop off).take n).toArray))) u) := by
  simp [FvalK, ld]
theorem FvalK_one {cs : List Value} {off : Nat} : FvalK d K s u (.v (.agg cs.toArray)) (some (off, false, 1)) = (off + 1 ≤ cs.length ∧ K (s.put d (.v ((cs.drop off).headD undef))) u) := by
  simp [FvalK, ld]

def IdxK (as : Option (Nat × Nat)) (d : Option Tmp) (K : S → World → Prop) (s : S) (u : World) (y i : SV) (e : Option Nat) : Prop :=
  match e, y, i with
  | some sz, .v (.slice p n c), .v (.int _ i) => AtIdx p n i (K (s.put d (.elt (.slice p n c) sz i 0)) u)
  | none, .loc k off, .v (.int _ i) => IdxA d K s u k off i as
  | _, _, _ => False
theorem op_indexAddr {T : TypeId} {y z : Operand} : vcOp P x u0 ⟨d, .indexAddr T y z, ty, pos, aft, g⟩ K s u = IdxK (asz P T) d K s u (s.sv y) (s.sv z) (esz P T) := rfl
theorem IdxK_v {p : Option Addr} {n c sz : Nat} {k : IntKind} {i : Int} {as : Option (Nat × Nat)} : IdxK as d K s u (.v (.slice p n c)) (.v (.int k i)) (some sz) = AtIdx p n i (K (s.put d (.elt (.slice p n c) sz i 0)) u) := rfl

def ReadK2 (P : Program) (e : Value → Value → Sem Value) (u : World) (Kv : Value → Prop) (y z : SV) : Prop :=
  match y, z with
  | .v a, .v b => AtRead P (e a b) u Kv
  | _, _ => False
theorem op_index {T : TypeId} {y z : Operand} : vcOp P x u0 ⟨d, .index T y z, ty, pos, aft, g⟩ K s u = ReadK2 P (iIndex T) u (PutK s d u K) (s.sv y) (s.sv z) := rfl
theorem op_lookup {T : TypeId} {y z : Operand} {ok : Bool} : vcOp P x u0 ⟨d, .lookup T y z ok, ty, pos, aft, g⟩ K s u = ReadK2 P (fun a b => iLook T a b ok) u (PutK s d u K) (s.sv y) (s.sv z) := rfl
theorem ReadK2_v {e : Value → Value → Sem Value} {Kv : Value → Prop} {a b : Value} : ReadK2 P e u Kv (.v a) (.v b) = AtRead P (e a b) u Kv := rfl

def nthV : List Value → Nat → Option Value
  | [], _ => none
  | v :: _, 0 => some v
  | _ :: r, j + 1 => nthV r j
theorem nthV_eq : ∀ (l : List Value) (j : Nat), nthV l j = l[j]? := by
  intro l
  induction l with
  | nil => intro j; rfl
  | cons o r ih => intro j; cases j with
    | zero => rfl
    | succ j => simpa [nthV] using ih j
def ExtrR (d : Option Tmp) (K : S → World → Prop) (s : S) (u : World) (r : Option Value) : Prop :=
  match r with
  | some r => K (s.put d (.v r)) u
  | none => False
def ExtrK (d : Option Tmp) (K : S → World → Prop) (s : S) (u : World) (i : Nat) (y : SV) : Prop :=
  match y with
  | .v (.tuple vs) => match vs.toList[i]? with
    | some r => K (s.put d (.v r)) u
    | none => False
  | _ => False
theorem op_extract {y : Operand} {i : Nat} : vcOp P x u0 ⟨d, .extract y i, ty, pos, aft, g⟩ K s u = ExtrK d K s u i (s.sv y) := rfl
theorem ExtrK_v {vs : List Value} {i : Nat} : ExtrK d K s u i (.v (.tuple vs.toArray)) = ExtrR d K s u (nthV vs i) := by
  rw [nthV_eq]; rfl
theorem ExtrR_some {r : Value} : ExtrR d K s u (some r) = K (s.put d (.v r)) u := rfl
theorem nthV_zero {v : Value} {r : List Value} : nthV (v :: r) 0 = some v := rfl
theorem nthV_succ {v : Value} {r : List Value} {j : Nat} : nthV (v :: r) (j + 1) = nthV r j := rfl

def NewK (K : S → World → Prop) (s : S) (d : Nat) (cs : List Value) (T : TypeId) (u : World) (b : Nat) : Prop := K (addLoc s d b cs T) u
def AllocK (d : Option Tmp) (K : S → World → Prop) (s : S) (u : World) (T : TypeId) (cs : Option (List Value)) : Prop :=
  match cs, d with
  | some cs, some d => s.find d = none ∧ ∀ b, NewK K s d cs T u b
  | _, _ => False
theorem op_alloc {T : TypeId} : vcOp P x u0 ⟨d, .alloc T, ty, pos, aft, g⟩ K s u = AllocK d K s u T (zeroOf P T) := rfl
theorem AllocK_some {T : TypeId} {cs : List Value} {e : Nat} : AllocK (some e) K s u T (some cs) = (s.find e = none ∧ ∀ b, NewK K s e cs T u b) := rfl
def BoxK (d : Option Tmp) (K : S → World → Prop) (s : S) (u : World) (T : TypeId) (y : SV) : Prop :=
  match y, d with
  | .v a, some d => s.find d = none ∧ ∀ b, NewK K s d a.cells.toList T u b
  | _, _ => False
theorem op_box {T : TypeId} {y : Operand} : vcOp P x u0 ⟨d, .box T y, ty, pos, aft, g⟩ K s u = BoxK d K s u T (s.sv y) := rfl
theorem BoxK_agg {T : TypeId} {cs : List Value} {e : Nat} : BoxK (some e) K s u T (.v (.agg cs.toArray)) = (s.find e = none ∧ ∀ b, NewK K s e cs T u b) := rfl
theorem BoxK_int {T : TypeId} {k : IntKind} {n : Int} {e : Nat} : BoxK (some e) K s u T (.v (.int k n)) = (s.find e = none ∧ ∀ b, NewK K s e [.int k n] T u b) := rfl
theorem BoxK_bool {T : TypeId} {n : Bool} {e : Nat} : BoxK (some e) K s u T (.v (.bool n)) = (s.find e = none ∧ ∀ b, NewK K s e [.bool n] T u b) := rfl
theorem BoxK_slice {T : TypeId} {p : Option Addr} {n c : Nat} {e : Nat} : BoxK (some e) K s u T (.v (.slice p n c)) = (s.find e = none ∧ ∀ b, NewK K s e [.slice p n c] T u b) := rfl
theorem BoxK_string {T : TypeId} {b : ByteArray} {e : Nat} : BoxK (some e) K s u T (.v (.string b)) = (s.find e = none ∧ ∀ c, NewK K s e [.string b] T u c) := rfl
theorem NewK_eq {ρ : List (Nat × SV)} {σ : List (Nat × Loc)} {e b : Nat} {cs : List Value} {T : TypeId} : NewK K ⟨ρ, σ⟩ e cs T u b = K ⟨(e, .loc e 0) :: ρ, (e, ⟨b, cs, T⟩) :: σ⟩ u := rfl

def StoL (d : Option Tmp) (K : S → World → Prop) (s : S) (u : World) (k off : Nat) (vs : List Value) (l : Option Loc) (e : Option (Bool × Nat)) : Prop :=
  match l, e with
  | some l, some (_, n) => vs.length = n ∧ off + n ≤ l.cells.length ∧ allOne vs = true ∧ K (setLoc s k l (splice l.cells off vs) d) u
  | _, _ => False
def StoK (P : Program) (b : Bool) (u0 : World) (T : TypeId) (d : Option Tmp) (K : S → World → Prop) (s : S) (u : World) (y z : SV) : Prop :=
  match z with
  | .v a =>
    match y with
    | .loc k off => StoL d K s u k off a.cells.toList (s.find k) (lay P T)
    | .v p => AtDo b P (iStore T p a) u0 u (PutU s d K)
    | .elt sv sz i off => match eltAddr sv sz i off with
      | some ad => AtDo b P (iStore T (.pointer (some ad)) a) u0 u (PutU s d K)
      | none => False
    | .unk => False
  | _ => False
theorem op_store {T : TypeId} {y z : Operand} : vcOp P x u0 ⟨d, .store T y z, ty, pos, aft, g⟩ K s u = StoK P x u0 T d K s u (s.sv y) (s.sv z) := by
  show vcStore P x u0 T (s.sv y) (s.sv z) d K s u = _
  unfold vcStore StoK StoL
  cases s.sv z with
  | v a =>
    cases s.sv y with
    | loc k off => simp only []; cases s.find k <;> cases lay P T <;> rfl
    | _ => rfl
  | _ => rfl
theorem StoK_loc {T : TypeId} {k off : Nat} {a : Value} : StoK P x u0 T d K s u (.loc k off) (.v a) = StoL d K s u k off a.cells.toList (s.find k) (lay P T) := rfl
theorem StoL_some {ρ : List (Nat × SV)} {σ : List (Nat × Loc)} {k off n b : Nat} {cs vs : List Value} {T : TypeId} {ag : Bool} :
    StoL none K ⟨ρ, σ⟩ u k off vs (some ⟨b, cs, T⟩) (some (ag, n)) = (vs.length = n ∧ off + n ≤ cs.length ∧ allOne vs = true ∧ K ⟨ρ, (k, ⟨b, splice cs off vs, T⟩) :: σ⟩ u) := rfl
theorem StoK_ptr {T : TypeId} {p a : Value} : StoK P x u0 T d K s u (.v p) (.v a) = AtDo x P (iStore T p a) u0 u (PutU s d K) := rfl

/-- A store into an element of a slice. -/
def AtSto (b : Bool) (P : Program) (u0 : World) (T : TypeId) (sv : Value) (sz : Nat) (i : Int) (off : Nat) (a : Value) (u : World) (K : World → Prop) : Prop :=
  match eltAddr sv sz i off with
  | some ad => AtDo b P (iStore T (.pointer (some ad)) a) u0 u K
  | none => False
theorem StoK_elt {T : TypeId} {sv a : Value} {sz off : Nat} {i : Int} : StoK P x u0 T d K s u (.elt sv sz i off) (.v a) = AtSto x P u0 T sv sz i off a u (PutU s d K) := rfl

def EffP (P : Program) (x : Bool) (u0 u : World) (Ke : Value → World → Prop) (e : List (Nat × Value) → Sem Value) (vs : Option (List (Nat × Value))) : Prop :=
  match vs with
  | some vs => AtEff x P (e vs) u0 u Ke
  | none => False
theorem op_buildSlice {T : TypeId} {n : Nat} {ps : List (Nat × Operand)} : vcOp P x u0 ⟨d, .buildSlice T n ps.toArray, ty, pos, aft, g⟩ K s u =
    EffP P x u0 u (PutE s d K) (fun vs => iLit T n vs.toArray) (pvals s ps) := rfl
theorem EffP_some {Ke : Value → World → Prop} {e : List (Nat × Value) → Sem Value} {vs : List (Nat × Value)} : EffP P x u0 u Ke e (some vs) = AtEff x P (e vs) u0 u Ke := rfl

def EffK2 (P : Program) (x : Bool) (u0 u : World) (Ke : Value → World → Prop) (e : Value → Value → Sem Value) (y z : SV) : Prop :=
  match y, z with
  | .v a, .v b => AtEff x P (e a b) u0 u Ke
  | _, _ => False
theorem op_makeSlice {T : TypeId} {y z : Operand} : vcOp P x u0 ⟨d, .makeSlice T y z, ty, pos, aft, g⟩ K s u = EffK2 P x u0 u (PutE s d K) (iMake T) (s.sv y) (s.sv z) := rfl
theorem op_mapEntry {T : TypeId} {y z : Operand} : vcOp P x u0 ⟨d, .mapEntry T y z, ty, pos, aft, g⟩ K s u = EffK2 P x u0 u (PutE s d K) (iEnt T) (s.sv y) (s.sv z) := rfl
theorem EffK2_v {Ke : Value → World → Prop} {e : Value → Value → Sem Value} {a b : Value} : EffK2 P x u0 u Ke e (.v a) (.v b) = AtEff x P (e a b) u0 u Ke := rfl

def EffO (P : Program) (x : Bool) (u0 u : World) (Ke : Value → World → Prop) (e : Option Value → Sem Value) (y : Option (Option Value)) : Prop :=
  match y with
  | some a => AtEff x P (e a) u0 u Ke
  | none => False
theorem op_makeMap {T : TypeId} {r : Option Operand} : vcOp P x u0 ⟨d, .makeMap T r, ty, pos, aft, g⟩ K s u = EffO P x u0 u (PutE s d K) (iMap T) (oval s r) := rfl
theorem EffO_some {Ke : Value → World → Prop} {e : Option Value → Sem Value} {a : Option Value} : EffO P x u0 u Ke e (some a) = AtEff x P (e a) u0 u Ke := rfl

def DoK3 (P : Program) (x : Bool) (u0 u : World) (Kw : World → Prop) (e : Value → Value → Value → Sem Unit) (y z t : SV) : Prop :=
  match y, z, t with
  | .v a, .v b, .v c => AtDo x P (e a b c) u0 u Kw
  | _, _, _ => False
theorem op_mapUpdate {T : TypeId} {y z t : Operand} : vcOp P x u0 ⟨d, .mapUpdate T y z t, ty, pos, aft, g⟩ K s u = DoK3 P x u0 u (PutU s d K) (iUpd T) (s.sv y) (s.sv z) (s.sv t) := rfl
theorem op_insert {T : TypeId} {y z t : Operand} : vcOp P x u0 ⟨d, .insert T y z t, ty, pos, aft, g⟩ K s u = DoK3 P x u0 u (PutU s d K) (iUpd T) (s.sv y) (s.sv z) (s.sv t) := rfl
theorem op_entryStore {T : TypeId} {y z t : Operand} : vcOp P x u0 ⟨d, .entryStore T y z t, ty, pos, aft, g⟩ K s u = DoK3 P x u0 u (PutU s d K) (iEnts T) (s.sv y) (s.sv z) (s.sv t) := rfl
theorem DoK3_v {Kw : World → Prop} {e : Value → Value → Value → Sem Unit} {a b c : Value} : DoK3 P x u0 u Kw e (.v a) (.v b) (.v c) = AtDo x P (e a b c) u0 u Kw := rfl

def ReadL (P : Program) (u : World) (Kv : Value → Prop) (e : List Value → Sem Value) (vs : Option (List Value)) : Prop :=
  match vs with
  | some vs => AtRead P (e vs) u Kv
  | none => False
def EffL (P : Program) (x : Bool) (u0 u : World) (Ke : Value → World → Prop) (e : List Value → Sem Value) (vs : Option (List Value)) : Prop :=
  match vs with
  | some vs => AtEff x P (e vs) u0 u Ke
  | none => False
theorem ReadL_some {Kv : Value → Prop} {e : List Value → Sem Value} {vs : List Value} : ReadL P u Kv e (some vs) = AtRead P (e vs) u Kv := rfl
theorem EffL_some {Ke : Value → World → Prop} {e : List Value → Sem Value} {vs : List Value} : EffL P x u0 u Ke e (some vs) = AtEff x P (e vs) u0 u Ke := rfl
variable {args : List Operand} {tys : Array TypeId}
def PureL (P : Program) (Kv : Value → Prop) (e : List Value → Sem Value) (vs : Option (List Value)) : Prop :=
  match vs with
  | some vs => AtPure P (e vs) Kv
  | none => False
theorem PureL_some {Kv : Value → Prop} {e : List Value → Sem Value} {vs : List Value} : PureL P Kv e (some vs) = AtPure P (e vs) Kv := rfl

theorem op_len : vcOp P x u0 ⟨d, .call ⟨.builtin .len, args.toArray, tys⟩, ty, pos, aft, g⟩ K s u = ReadL P u (PutK s d u K) (fun vs => bLen tys ty vs.toArray) (vals s args) := rfl
theorem op_cap : vcOp P x u0 ⟨d, .call ⟨.builtin .cap, args.toArray, tys⟩, ty, pos, aft, g⟩ K s u = ReadL P u (PutK s d u K) (fun vs => bCap tys ty vs.toArray) (vals s args) := rfl
theorem op_min : vcOp P x u0 ⟨d, .call ⟨.builtin .min, args.toArray, tys⟩, ty, pos, aft, g⟩ K s u = PureL P (PutK s d u K) (fun vs => bMin tys ty vs.toArray) (vals s args) := rfl
theorem op_max : vcOp P x u0 ⟨d, .call ⟨.builtin .max, args.toArray, tys⟩, ty, pos, aft, g⟩ K s u = PureL P (PutK s d u K) (fun vs => bMax tys ty vs.toArray) (vals s args) := rfl
theorem op_append : vcOp P x u0 ⟨d, .call ⟨.builtin .append, args.toArray, tys⟩, ty, pos, aft, g⟩ K s u = EffL P x u0 u (PutE s d K) (fun vs => bApp tys ty vs.toArray) (vals s args) := rfl
theorem op_copy : vcOp P x u0 ⟨d, .call ⟨.builtin .copy, args.toArray, tys⟩, ty, pos, aft, g⟩ K s u = EffL P x u0 u (PutE s d K) (fun vs => bCopy tys ty vs.toArray) (vals s args) := rfl
theorem op_delete : vcOp P x u0 ⟨d, .call ⟨.builtin .delete, args.toArray, tys⟩, ty, pos, aft, g⟩ K s u = EffL P x u0 u (PutE s d K) (fun vs => bDel tys ty vs.toArray) (vals s args) := rfl
theorem op_clear : vcOp P x u0 ⟨d, .call ⟨.builtin .clear, args.toArray, tys⟩, ty, pos, aft, g⟩ K s u = EffL P x u0 u (PutE s d K) (fun vs => bClr tys ty vs.toArray) (vals s args) := rfl

def CalK (P : Program) (x : Bool) (u0 : World) (args : List Operand) (d : Option Tmp) (K : S → World → Prop) (s : S) (u : World) (f : SV) : Prop :=
  match f with
  | .v (.func (.func g) first captured) => pubs u0 args s u (CallK x P u0 g first.toList captured.toList K d)
  | .v fv => pubs u0 args s u (CallVK x P u0 fv K d)
  | _ => False
theorem op_call {f : Operand} : vcOp P x u0 ⟨d, .call ⟨.value f, args.toArray, tys⟩, ty, pos, aft, g⟩ K s u = CalK P x u0 args d K s u (s.sv f) := by
  show vcCall P x u0 ⟨.value f, args.toArray, tys⟩ ty d K s u = _
  unfold vcCall CalK
  simp only []
  cases s.sv f with
  | v y => cases y with
    | func fn first captured => cases fn <;> rfl
    | _ => rfl
  | _ => rfl
theorem CalK_func {f : FuncId} {first captured : List Value} : CalK P x u0 args d K s u (.v (.func (.func f) first.toArray captured.toArray)) = pubs u0 args s u (CallK x P u0 f first captured K d) := rfl
theorem CallK_eq {f : FuncId} {first captured vs : List Value} : CallK x P u0 f first captured K d vs s u = AtCall x P f (first ++ vs ++ captured) u0 u (PutE s d K) := rfl
end

theorem sv_tmp {ρ : List (Nat × SV)} {σ : List (Nat × Loc)} {t : Nat} : (S.mk ρ σ).sv (.tmp t) = (lk ρ t).getD .unk := rfl
theorem sv_const {v : Value} : s.sv (.const v) = .v v := rfl
theorem sv_global {g : Nat} : s.sv (.global g) = .v (.pointer (some ⟨g, 0, none⟩)) := rfl
theorem sv_func {f : Nat} : s.sv (.func f) = .v (.func (.func f) #[] #[]) := rfl
theorem get_mk {ρ : List (Nat × SV)} {σ : List (Nat × Loc)} {t : Nat} : (S.mk ρ σ).get t = (lk ρ t).getD .unk := rfl
theorem find_mk {ρ : List (Nat × SV)} {σ : List (Nat × Loc)} {k : Nat} : (S.mk ρ σ).find k = lk σ k := rfl
theorem put_some {ρ : List (Nat × SV)} {σ : List (Nat × Loc)} {d : Nat} {y : SV} : (S.mk ρ σ).put (some d) y = ⟨(d, y) :: ρ, σ⟩ := rfl
theorem put_none {y : SV} : s.put none y = s := rfl
theorem lk_nil {α : Type} {t : Nat} : lk ([] : List (Nat × α)) t = none := rfl
theorem lk_hit {α : Type} {t : Nat} {y : α} {r : List (Nat × α)} : lk ((t, y) :: r) t = some y := lk_cons_eq
theorem lk_miss {α : Type} {k t : Nat} {y : α} {r : List (Nat × α)} (h : (k == t) = false) : lk ((k, y) :: r) t = lk r t := lk_cons_ne (by simpa using h)
theorem val_v {y : Value} : s.val (.v y) = some y := rfl

theorem vals_nil : vals s [] = some [] := rfl
def VsK (a : SV) (r : Option (List Value)) : Option (List Value) :=
  match a with
  | .v a => match r with
    | some vs => some (a :: vs)
    | none => none
  | _ => none
theorem vals_cons {y : Operand} {r : List Operand} : vals s (y :: r) = VsK (s.sv y) (vals s r) := rfl
theorem VsK_v {a : Value} {vs : List Value} : VsK (.v a) (some vs) = some (a :: vs) := rfl
theorem pvals_nil : pvals s [] = some [] := rfl
def PsK (i : Nat) (a : SV) (r : Option (List (Nat × Value))) : Option (List (Nat × Value)) :=
  match a with
  | .v a => match r with
    | some vs => some ((i, a) :: vs)
    | none => none
  | _ => none
theorem pvals_cons {i : Nat} {y : Operand} {r : List (Nat × Operand)} : pvals s ((i, y) :: r) = PsK i (s.sv y) (pvals s r) := rfl
theorem PsK_v {i : Nat} {a : Value} {vs : List (Nat × Value)} : PsK i (.v a) (some vs) = some ((i, a) :: vs) := rfl

theorem pubs_nil {Kp : List Value → S → World → Prop} : pubs u0 [] s u Kp = Kp [] s u := rfl
def PubL (u0 : World) (k off : Nat) (r : List Operand) (s : S) (u : World) (Kp : List Value → S → World → Prop) (l : Option Loc) : Prop :=
  match l with
  | some l => ∀ u', Sub u u' → Fresh u l.b → Fresh u0 l.b → u'.heap[l.b]? = some (.cells l.cells.toArray l.T (0, 0)) → (∀ b', b' ≠ l.b → Fresh u b' → Fresh u' b') →
      pubs u0 r (s.pub k l.b) u' (ConsK (.pointer (some ⟨l.b, off, none⟩)) Kp)
  | none => False
def PubK (u0 : World) (r : List Operand) (s : S) (u : World) (Kp : List Value → S → World → Prop) (y : SV) : Prop :=
  match y with
  | .v a => pubs u0 r s u (ConsK a Kp)
  | .loc k off => PubL u0 k off r s u Kp (s.find k)
  | _ => False
theorem pubs_cons {y : Operand} {r : List Operand} {Kp : List Value → S → World → Prop} : pubs u0 (y :: r) s u Kp = PubK u0 r s u Kp (s.sv y) := by
  show pubs u0 (y :: r) s u Kp = _
  simp only [pubs]
  unfold PubK PubL
  cases s.sv y with
  | loc k off => simp only []; cases s.find k <;> rfl
  | _ => rfl
theorem PubK_v {r : List Operand} {Kp : List Value → S → World → Prop} {a : Value} : PubK u0 r s u Kp (.v a) = pubs u0 r s u (ConsK a Kp) := rfl
theorem PubK_loc {r : List Operand} {Kp : List Value → S → World → Prop} {k off : Nat} : PubK u0 r s u Kp (.loc k off) = PubL u0 k off r s u Kp (s.find k) := rfl
theorem PubL_some {r : List Operand} {Kp : List Value → S → World → Prop} {k off b : Nat} {cs : List Value} {T : TypeId} : PubL u0 k off r s u Kp (some ⟨b, cs, T⟩) =
    ∀ u', Sub u u' → Fresh u b → Fresh u0 b → u'.heap[b]? = some (.cells cs.toArray T (0, 0)) → (∀ b', b' ≠ b → Fresh u b' → Fresh u' b') → pubs u0 r (s.pub k b) u' (ConsK (.pointer (some ⟨b, off, none⟩)) Kp) := rfl
theorem ConsK_eq {a : Value} {vs : List Value} {Kp : List Value → S → World → Prop} : ConsK a Kp vs s u = Kp (a :: vs) s u := rfl
theorem pub_mk {ρ : List (Nat × SV)} {σ : List (Nat × Loc)} {k b : Nat} : (S.mk ρ σ).pub k b = ⟨pubR k b ρ, dropK k σ⟩ := rfl

/-! ### Numbers -/

def AtArith (k : IntKind) (z : Int) (Kv : Value → Prop) : Prop := Kv (.int k (k.wrap z))

theorem atPure_of {e : Sem Value} {Kv : Value → Prop} {r : Value} (h : ∀ w, e.run P w = .ok r w) : AtPure P e Kv = Kv r := by
  apply propext
  constructor
  · rintro ⟨r', h', hk⟩
    have := h' default
    rw [h default] at this
    cases this
    exact hk
  · intro hk; exact ⟨r, h, hk⟩

theorem atRead_of {e : Sem Value} {Kv : Value → Prop} {r : Value} (h : ∀ w, e.run P w = .ok r w) : AtRead P e u Kv = Kv r := by
  apply propext
  constructor
  · rintro ⟨r', h', hk⟩
    have := h' u (Sub.refl u)
    rw [h u] at this
    cases this
    exact hk
  · intro hk; exact ⟨r, fun w _ => h w, hk⟩

section
variable {k : IntKind} {T : TypeId} {y z : Operand} {a b : Int} {Kv : Value → Prop}
theorem bin_add : AtPure P (binS .add T y z (.int k a) (.int k b)) Kv = AtArith k (a + b) Kv := atPure_of fun w => by simp [binS, eqGuard, binOp, Op.intArith]
theorem bin_sub : AtPure P (binS .sub T y z (.int k a) (.int k b)) Kv = AtArith k (a - b) Kv := atPure_of fun w => by simp [binS, eqGuard, binOp, Op.intArith]
theorem bin_mul : AtPure P (binS .mul T y z (.int k a) (.int k b)) Kv = AtArith k (a * b) Kv := atPure_of fun w => by simp [binS, eqGuard, binOp, Op.intArith]
theorem bin_lss : AtPure P (binS .lss T y z (.int k a) (.int k b)) Kv = Kv (.bool (decide (a < b))) := atPure_of fun w => by simp [binS, eqGuard, binOp, Op.intCmp]
theorem bin_leq : AtPure P (binS .leq T y z (.int k a) (.int k b)) Kv = Kv (.bool (decide (a ≤ b))) := atPure_of fun w => by simp [binS, eqGuard, binOp, Op.intCmp]
theorem bin_gtr : AtPure P (binS .gtr T y z (.int k a) (.int k b)) Kv = Kv (.bool (decide (b < a))) := atPure_of fun w => by simp [binS, eqGuard, binOp, Op.intCmp]
theorem bin_geq : AtPure P (binS .geq T y z (.int k a) (.int k b)) Kv = Kv (.bool (decide (b ≤ a))) := atPure_of fun w => by simp [binS, eqGuard, binOp, Op.intCmp]
theorem bin_eql : AtPure P (binS .eql T y z (.int k a) (.int k b)) Kv = Kv (.bool (a == b)) := atPure_of fun w => by simp [binS, eqGuard, binOp, Op.intCmp]
theorem bin_neq : AtPure P (binS .neq T y z (.int k a) (.int k b)) Kv = Kv (.bool (a != b)) := atPure_of fun w => by simp [binS, eqGuard, binOp, Op.intCmp]
theorem un_not {t : Bool} : AtPure P (iUn .not (.bool t)) Kv = Kv (.bool (!t)) := atPure_of fun w => by simp [iUn, Op.unary]
theorem arith_i64 (h : -9223372036854775808 ≤ a ∧ a ≤ 9223372036854775807) : AtArith .i64 a Kv = Kv (.int .i64 a) := by unfold AtArith; rw [IntWalk.i64_in a h]
theorem arith_i32 (h : -2147483648 ≤ a ∧ a ≤ 2147483647) : AtArith .i32 a Kv = Kv (.int .i32 a) := by unfold AtArith; rw [IntWalk.i32_in a h]
theorem arith_u8 (h : 0 ≤ a ∧ a ≤ 255) : AtArith .u8 a Kv = Kv (.int .u8 a) := by unfold AtArith; rw [IntWalk.u8_in a h]
theorem arith_u16 (h : 0 ≤ a ∧ a ≤ 65535) : AtArith .u16 a Kv = Kv (.int .u16 a) := by unfold AtArith; rw [IntWalk.u16_in a h]
theorem arith_u32 (h : 0 ≤ a ∧ a ≤ 4294967295) : AtArith .u32 a Kv = Kv (.int .u32 a) := by unfold AtArith; rw [IntWalk.u32_in a h]
theorem arith_u64 (h : 0 ≤ a ∧ a ≤ 18446744073709551615) : AtArith .u64 a Kv = Kv (.int .u64 a) := by unfold AtArith; rw [IntWalk.u64_in a h]
theorem atIdx_of {p : Option Addr} {n : Nat} {i : Int} {K : Prop} (h1 : p.isSome = true) (h2 : 0 ≤ i) (h3 : i < n) : AtIdx p n i K = K := by
  apply propext
  exact ⟨fun h => h.2, fun h => ⟨⟨h1, h2, h3⟩, h⟩⟩
def isSl (P : Program) (T : TypeId) : Bool :=
  match P.underlying T with
  | some (.slice _) => true
  | _ => false
theorem isSl_spec (h : isSl P T = true) : ∃ e, P.underlying T = some (.slice e) := by
  unfold isSl at h
  split at h
  · rename_i e he; exact ⟨e, he⟩
  · cases h
def intK (P : Program) (T : TypeId) : Option IntKind :=
  match P.underlying T with
  | some (.int k) => some k
  | _ => none
theorem intK_spec {k' : IntKind} (h : intK P T = some k') : P.underlying T = some (.int k') := by
  unfold intK at h
  split at h
  · rename_i e he; cases h; exact he
  · cases h
def ConvI (k : Option IntKind) (P : Program) (src dst : TypeId) (v : Value) (a : Int) (u : World) (Kv : Value → Prop) (ks : Option IntKind) : Prop :=
  match ks, k with
  | some _, some k => AtArith k a Kv
  | _, _ => AtRead P (iConv src dst v) u Kv
theorem conv_int {src dst : TypeId} : AtRead P (iConv src dst (.int k a)) u Kv = ConvI (intK P dst) P src dst (.int k a) a u Kv (intK P src) := by
  unfold ConvI
  split
  · rename_i k1 k' hs hd
    exact atRead_of fun w => by simp [iConv, convert, run_underlying (intK_spec hs), run_underlying (intK_spec hd), Conv.intToInt]
  · rfl
theorem ConvI_some {src dst : TypeId} {v : Value} {k' k2 : IntKind} : ConvI (some k') P src dst v a u Kv (some k2) = AtArith k' a Kv := rfl
theorem len_slice {p : Option Addr} {n c : Nat} {ty : TypeId} (h : isSl P T = true) : AtRead P (bLen #[T] ty #[.slice p n c]) u Kv = Kv (.int .i64 n) := by
  obtain ⟨e, hs⟩ := isSl_spec h
  exact atRead_of fun w => by simp [bLen, Builtin.len_, run_underlying hs, goInt]
theorem cap_slice {p : Option Addr} {n c : Nat} {ty : TypeId} (h : isSl P T = true) : AtRead P (bCap #[T] ty #[.slice p n c]) u Kv = Kv (.int .i64 c) := by
  obtain ⟨e, hs⟩ := isSl_spec h
  exact atRead_of fun w => by simp [bCap, Builtin.cap_, run_underlying hs, goInt]
theorem len_string {s : ByteArray} {ty : TypeId} (hs : P.underlying T = some .string) : AtRead P (bLen #[T] ty #[.string s]) u Kv = Kv (.int .i64 s.size) :=
  atRead_of fun w => by simp [bLen, Builtin.len_, run_underlying hs, goInt]
theorem min_int {tys : Array TypeId} {ty : TypeId} : AtPure P (bMin tys ty #[.int k a, .int k b]) Kv = Kv (.int k (if b < a then b else a)) :=
  atPure_of fun w => by simp [bMin, Builtin.min_, Builtin.min2]
theorem max_int {tys : Array TypeId} {ty : TypeId} : AtPure P (bMax tys ty #[.int k a, .int k b]) Kv = Kv (.int k (if a < b then b else a)) :=
  atPure_of fun w => by simp [bMax, Builtin.max_, Builtin.max2]
theorem eql_bool {c d : Bool} (hs : P.underlying T = some .bool) : AtPure P (binS .eql T y z (.bool c) (.bool d)) Kv = Kv (.bool (c == d)) :=
  atPure_of fun w => by simp only [binS, eqGuard, Sem.run_bind, Sem.run_pure, Result.andThen_ok, Bool.not_true, Bool.false_eq_true, if_false, run_eql_bool w T c d hs]
theorem neq_bool {c d : Bool} (hs : P.underlying T = some .bool) : AtPure P (binS .neq T y z (.bool c) (.bool d)) Kv = Kv (.bool (!(c == d))) :=
  atPure_of fun w => by simp only [binS, eqGuard, Sem.run_bind, Sem.run_pure, Result.andThen_ok, Bool.not_true, Bool.false_eq_true, if_false, run_neq_bool w T c d hs]
theorem eql_slice_nil {p : Option Addr} {n c : Nat} (h : isSl P T = true) : AtPure P (binS .eql T y z (.slice p n c) (.slice none 0 0)) Kv = Kv (.bool p.isNone) := by
  obtain ⟨e, hs⟩ := isSl_spec h
  exact atPure_of fun w => by simp only [binS, eqGuard, Sem.run_bind, Sem.run_pure, Result.andThen_ok, Bool.not_true, Bool.false_eq_true, if_false, binOp, Op.equal, Op.maxDepth, run_equalIn_slice_nil w 9999 T e p n c hs]
theorem neq_slice_nil {p : Option Addr} {n c : Nat} (h : isSl P T = true) : AtPure P (binS .neq T y z (.slice p n c) (.slice none 0 0)) Kv = Kv (.bool (!p.isNone)) := by
  obtain ⟨e, hs⟩ := isSl_spec h
  exact atPure_of fun w => by simp only [binS, eqGuard, Sem.run_bind, Sem.run_pure, Result.andThen_ok, Bool.not_true, Bool.false_eq_true, if_false, run_neq_slice_nil w T e p n c hs]
end

end
attribute [go_sem] vc_skip vc_ret vc_exit vc_region vc_draw vc_seq vc_cond CondK_true CondK_false CondK_not vc_block_ret
  vc_block_skip vc_block_exit SeqK_normal SeqK_ret SeqK_exit BlockK_normal BlockK_ret BlockK_exit BlockW_normal BlockW_ret BlockW_exit LoopK_ret LoopK_exit RetK_normal RetK_ret vcOps_nil vcOps_cons vcOrd_nil
  vcOrd_cons OrdK_some vcOrdL_nil vcOrdL_cons OrdLK_some KeepK_eq StIf_tt StIf_ff ldOk ldSV stOk stSV memB keepL locB newD vcT_done vcT_fl vcT_one vcT_alt TreeK_some operAt_zero operAt_succ dstAt_zero dstAt_succ vcG_none vcG_some GuardD_some GuardV_tt GuardV_tf GuardV_ft GuardV_ff GuardV_undef op_move op_assign op_pick
  PickK_b op_load LoadS_loc LoadS_elt LoadS_ptr LoadL_agg LoadL_one PutK_eq PutE_eq PutU_eq op_nilCheck NilK_loc NilK_elt NilK_ptr op_bin BinK_v op_un UnK_v op_convert ConvB_ff ConvB_tt op_makeFunc
  FuncK_eq op_build BuildK_some op_slice SliceK_v oval_none oval_some OvK_v op_fieldAddr FieldK_loc FieldK_elt FieldK_ptr op_field FvalK_agg FvalK_one op_indexAddr IdxK_v op_index
  op_lookup ReadK2_v op_extract ExtrK_v ExtrR_some nthV_zero nthV_succ op_alloc AllocK_some op_box BoxK_agg BoxK_int BoxK_bool BoxK_slice BoxK_string NewK_eq op_store StoK_loc
  StoL_some StoK_ptr StoK_elt op_buildSlice EffP_some op_makeSlice op_mapEntry EffK2_v op_makeMap EffO_some op_mapUpdate op_insert op_entryStore DoK3_v ReadL_some PureL_some EffL_some op_len
  op_cap op_min op_max op_append op_copy op_delete op_clear op_call CalK_func CallK_eq sv_tmp sv_const sv_func get_mk find_mk put_some put_none lk_nil lk_hit lk_miss val_v vals_nil vals_cons VsK_v
  pvals_nil pvals_cons PsK_v pubs_nil pubs_cons PubK_v PubK_loc PubL_some ConsK_eq pub_mk pubR pubSV dropK initR resAll_nil resAll_one resAll_two resAll_three resAll_four resT2_some resT3_some resT4_some resOne_tmp resOne_cell ResC_loc ResL_agg ResL_one ite_true splice bin_add bin_sub bin_mul bin_lss bin_leq bin_gtr
  bin_geq bin_eql bin_neq un_not eql_bool neq_bool eql_slice_nil neq_slice_nil conv_int ConvI_some len_slice cap_slice len_string min_int max_int allOne Value.oneCell' Value.cells
  List.nil_append List.cons_append List.append_nil List.drop_zero List.drop_succ_cons List.drop_nil List.take_zero List.take_succ_cons List.take_nil List.headD_cons List.length_cons
  List.length_nil Option.getD_some Option.getD_none Option.map_some Option.isNone_none Option.isNone_some Option.isSome_some Nat.zero_add Nat.add_zero Nat.le_refl cond_true
  cond_false Bool.true_and Bool.and_true Bool.not_true Bool.not_false and_true true_and eq_self true_implies ge_iff_le

/-- Steps of a walk, short. -/
structure Lf2 (q : Prop) : Prop where
  out : q
theorem vs_ {p q : Prop} (k : q) (e : Lf2 q → p := by intro k; (simp only [go_sem, vc_block_seq, vc_block_region, vc_block_cond, vc_block_block, Nat.reduceBEq, Nat.reduceAdd, Nat.reduceLeDiff, Nat.reduceEqDiff, Int.reduceAdd, Int.reduceBEq, Int.reduceBNe, reduceCtorEq, beq_self_eq_true, Bool.true_beq, Bool.false_beq]; repeat ((with_reducible refine leK_refl ?_); simp only [go_sem, vc_block_seq, vc_block_region, vc_block_cond, vc_block_block, Nat.reduceBEq, Nat.reduceAdd, Nat.reduceLeDiff, Nat.reduceEqDiff, Int.reduceAdd, Int.reduceBEq, Int.reduceBNe, reduceCtorEq, beq_self_eq_true, Bool.true_beq, Bool.false_beq])); exact k.out) : p := e ⟨k⟩
end Go.Eng
