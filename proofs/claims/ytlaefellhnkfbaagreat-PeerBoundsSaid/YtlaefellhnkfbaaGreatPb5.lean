/-
 bF 5 of the proof of Pb: the engine and the walks, in their order.
-/
import Derived.Test.YtlaefellhnkfbaaGreatPb4
import Derived.Laws.Cover3
set_option linter.unusedSimpArgs false
set_option linter.unusedVariables false
namespace Go.Eng
def oF : List Nat → List (Nat × Bool) → List (Nat × Bool)
 | [], r => r
 | i :: l, r => (i, false) :: oF l r
def oT (i : Nat) (r : List (Nat × Bool)) : List (Nat × Bool) := (i, true) :: r
theorem ajg {r : List (Nat × Bool)} : oF [] r = r := rfl
theorem ahf {i : Nat} {l : List Nat} {r : List (Nat × Bool)} : oF (i :: l) r = (i, false) :: oF l r := rfl
theorem akG {i : Nat} {r : List (Nat × Bool)} : oT i r = (i, true) :: r := rfl
attribute [go_sem] ajg ahf akG
section
variable {P : Program} {u0 u : World} {Q : Exit → S → World → Prop} {s : S} {K : S → World → Prop}
theorem zr : vc P u0 .skip Q s u = Q .normal s u := rfl
theorem ai5 : vc P u0 .ret Q s u = Q .ret s u := rfl
theorem yF {id : Nat} : vc P u0 (.exit id) Q s u = Q (.exit id) s u := rfl
theorem lO {id : Nat} {l : List Oper} : vc P u0 (.region id l.toArray false) Q s u = jI P u0 l (Q .normal) l s u := rfl
theorem ahe {id : Nat} {l : List Oper} : vc P u0 (.region id l.toArray true) Q s u = vV P u0 l.toArray (Q .normal) s u := rfl
theorem aiX {x y : Code} : vc P u0 (.seq x y) Q s u = vc P u0 x (ahB P u0 y Q) s u := rfl
def iI (c : SV) (s : S) (u : World) (P : Program) (u0 : World) (x y : Code) (Q : Exit → S → World → Prop) : Prop :=
 match c with
 | .v (.bool t) => (t = true → vc P u0 x Q s u) ∧ (t = false → vc P u0 y Q s u)
 | _ => False
theorem yD {c : Operand} {x y : Code} : vc P u0 (.cond c x y) Q s u = iI (s.sv c) s u P u0 x y Q := rfl
theorem o4 {x y : Code} : iI (.v (.bool true)) s u P u0 x y Q = vc P u0 x Q s u := by simp [iI]
theorem mq {x y : Code} : iI (.v (.bool false)) s u P u0 x y Q = vc P u0 y Q s u := by simp [iI]
theorem aaL {x y : Code} {t : Bool} : iI (.v (.bool (!t))) s u P u0 x y Q = iI (.v (.bool t)) s u P u0 y x Q := by
 cases t <;> simp [iI]
theorem uq {x y : Code} {p : Prop} [Decidable p] (h1 : p → vc P u0 x Q s u) (h2 : ¬ p → vc P u0 y Q s u) : iI (.v (.bool (decide p))) s u P u0 x y Q :=
 ⟨fun h => h1 (of_decide_eq_true h), fun h => h2 (of_decide_eq_false h)⟩
theorem na {x y : Code} {a b : Int} (h1 : a = b → vc P u0 x Q s u) (h2 : a ≠ b → vc P u0 y Q s u) : iI (.v (.bool (a == b))) s u P u0 x y Q :=
 ⟨fun h => h1 (by simpa using h), fun h => h2 (by simpa using h)⟩
theorem yN {x y : Code} {a b : Int} (h1 : a ≠ b → vc P u0 x Q s u) (h2 : a = b → vc P u0 y Q s u) : iI (.v (.bool (a != b))) s u P u0 x y Q :=
 ⟨fun h => h1 (by simpa using h), fun h => h2 (by simpa using h)⟩
theorem bT {id : Nat} {x y : Code} : vc P u0 (.block id (.seq x y)) Q s u = vc P u0 (.seq x y) (dD id Q) s u := rfl
theorem bh {id i : Nat} {l : Array Oper} {d : Bool} : vc P u0 (.block id (.region i l d)) Q s u = vc P u0 (.region i l d) (dD id Q) s u := by cases d <;> rfl
theorem bH {id : Nat} {c : Operand} {x y : Code} : vc P u0 (.block id (.cond c x y)) Q s u = vc P u0 (.cond c x y) (dD id Q) s u := rfl
theorem bu {id j : Nat} {x : Code} : vc P u0 (.block id (.block j x)) Q s u = vc P u0 (.block j x) (dD id Q) s u := rfl
theorem sG {id : Nat} : vc P u0 (.block id .ret) Q s u = Q .ret s u := rfl
theorem pm {id : Nat} : vc P u0 (.block id .skip) Q s u = LeK (Q .normal) s u := rfl
theorem pn {id j : Nat} : vc P u0 (.block id (.exit j)) Q s u = dD id Q (.exit j) s u := rfl
theorem pf {id : Nat} : dD id Q .normal s u = LeK (Q .normal) s u := rfl
theorem yg {id : Nat} : dD id Q .ret s u = Q .ret s u := rfl
theorem sM {id j : Nat} : dD id Q (.exit j) s u = bif j == id then LeK (Q .normal) s u else Q (.exit j) s u := rfl
theorem ae0 {K : S → World → Prop} (h : K s u) : LeK K s u := .inl h
theorem u_ {y : Code} : ahB P u0 y Q .normal s u = vc P u0 y Q s u := rfl
theorem acj {y : Code} : ahB P u0 y Q .ret s u = Q .ret s u := rfl
theorem aaR {y : Code} {j : Nat} : ahB P u0 y Q (.exit j) s u = Q (.exit j) s u := rfl
theorem pc {id : Nat} : dV id Q .normal s u = Q .normal s u := rfl
theorem yd {id : Nat} : dV id Q .ret s u = Q .ret s u := rfl
theorem mj {id j : Nat} : dV id Q (.exit j) s u = bif j == id then Q .normal s u else Q (.exit j) s u := rfl
theorem rO {γ : Type} {st : γ → S} {F : γ → World → Prop} {μ : γ → Nat} {g : γ} : tV st F μ g Q .normal s u = ∃ g', (st g').le s ∧ F g' u ∧ μ g' < μ g := rfl
theorem abO {γ : Type} {st : γ → S} {F : γ → World → Prop} {μ : γ → Nat} {g : γ} : tV st F μ g Q .ret s u = Q .ret s u := rfl
theorem vZ {γ : Type} {st : γ → S} {F : γ → World → Prop} {μ : γ → Nat} {g : γ} {j : Nat} : tV st F μ g Q (.exit j) s u = Q (.exit j) s u := rfl
theorem tC {rs : List ResultVar} {Post : Value → World → Prop} : abI P rs Post .normal s u = jG Post (bZ P s rs) u := rfl
theorem aeO {rs : List ResultVar} {Post : Value → World → Prop} : abI P rs Post .ret s u = jG Post (bZ P s rs) u := rfl
theorem wd : bZ P s [] = some (.tuple #[]) := rfl
theorem yb {x : ResultVar} : bZ P s [x] = bA P s x := rfl
def ah8 (a b : Option Value) : Option Value :=
 match a, b with
 | some a, some b => some (.tuple #[a, b])
 | _, _ => none
def ah0 (a b c : Option Value) : Option Value :=
 match a, b, c with
 | some a, some b, some c => some (.tuple #[a, b, c])
 | _, _, _ => none
def ahN (a b c d : Option Value) : Option Value :=
 match a, b, c, d with
 | some a, some b, some c, some d => some (.tuple #[a, b, c, d])
 | _, _, _, _ => none
theorem vH {x y : ResultVar} : bZ P s [x, y] = ah8 (bA P s x) (bA P s y) := rfl
theorem sb {x y z : ResultVar} : bZ P s [x, y, z] = ah0 (bA P s x) (bA P s y) (bA P s z) := rfl
theorem ut {x y z t : ResultVar} : bZ P s [x, y, z, t] = ahN (bA P s x) (bA P s y) (bA P s z) (bA P s t) := rfl
theorem xi {a b : Value} : ah8 (some a) (some b) = some (.tuple #[a, b]) := rfl
theorem xy {a b c : Value} : ah0 (some a) (some b) (some c) = some (.tuple #[a, b, c]) := rfl
theorem vB {a b c d : Value} : ahN (some a) (some b) (some c) (some d) = some (.tuple #[a, b, c, d]) := rfl
theorem wD {t : Nat} : bA P s (.tmp t) = s.val (s.get t) := rfl
def aem (ag : Bool) (n off : Nat) (l : Option Loc) : Option Value :=
 match l with
 | some l => if (n = 1 ∨ ag = true) ∧ off + n ≤ l.cells.length then some (ld ag n off l.cells) else none
 | none => none
def aiT (s : S) (x : SV) (l : Option (Bool × Nat)) : Option Value :=
 match x, l with
 | .loc k off, some (ag, n) => aem ag n off (s.find k)
 | _, _ => none
theorem uP {t T : Nat} : bA P s (.cell t T) = aiT s (s.get t) (lay P T) := by
 simp only [bA, aiT]
 generalize s.get t = x
 generalize lay P T = l
 cases x with
 | loc k off => cases l with
  | none => rfl
  | some q =>
   obtain ⟨ag, n⟩ := q
   simp only [aem]
   cases s.find k <;> rfl
 | _ => rfl
theorem afa {k off n : Nat} {ag : Bool} : aiT s (.loc k off) (some (ag, n)) = aem ag n off (s.find k) := rfl
theorem ad0 {off b : Nat} {cs : List Value} {T : TypeId} : aem false 1 off (some ⟨b, cs, T⟩) = if off + 1 ≤ cs.length then some ((cs.drop off).headD undef) else none := by simp [aem, ld]
theorem mb {all : List Oper} : jI P u0 all K [] s u = K s u := rfl
theorem iq {all : List Oper} {o : Oper} {r : List Oper} : jI P u0 all K (o :: r) s u = vcG P false u0 all o (jI P u0 all K r) s u := rfl
theorem aaQ {all : List Oper} : gW P u0 all K [] s u = K s u := rfl
def ak5 (P : Program) (u0 : World) (all : List Oper) (K : S → World → Prop) (x : Bool) (r : List (Nat × Bool)) (s : S) (u : World) (o : Option Oper) : Prop :=
 match o with
 | some o => vcG P x u0 all o (gW P u0 all K r) s u
 | none => False
theorem w_ {all : List Oper} {i : Nat} {x : Bool} {r : List (Nat × Bool)} : gW P u0 all K ((i, x) :: r) s u = ak5 P u0 all K x r s u (a_ all i) := rfl
theorem abr {all : List Oper} {x : Bool} {r : List (Nat × Bool)} {o : Oper} : ak5 P u0 all K x r s u (some o) = vcG P x u0 all o (gW P u0 all K r) s u := rfl
theorem vN {all : List Oper} {ks : List Nat} : er P u0 all ks K [] s u = K s u := rfl
def ah2 (P : Program) (u0 : World) (all : List Oper) (ks : List Nat) (K : S → World → Prop) (r : List (Nat × Bool)) (d : Option Nat) (s0 s : S) (u : World) : Prop := keepL s0 s d ks ∧ er P u0 all ks K r s u
def alG : Bool → Prop → Prop
 | true, p => p
 | false, _ => True
theorem afF {p : Prop} : alG true p = p := rfl
theorem afW {p : Prop} : alG false p = True := rfl
def akU (P : Program) (u0 : World) (all : List Oper) (ks : List Nat) (K : S → World → Prop) (x : Bool) (r : List (Nat × Bool)) (s : S) (u : World) (o : Option Oper) : Prop :=
 match o with
 | some o => xO ks o s ∧ (x = true → abh ks o s) ∧ vcG P x u0 all o (ah2 P u0 all ks K r (iU o) s) s u
 | none => False
theorem uL {all : List Oper} {ks : List Nat} {i : Nat} {x : Bool} {r : List (Nat × Bool)} : er P u0 all ks K ((i, x) :: r) s u = akU P u0 all ks K x r s u (a_ all i) := rfl
theorem ad1 {all : List Oper} {ks : List Nat} {r : List (Nat × Bool)} {d : Option Nat} {s0 : S} : ah2 P u0 all ks K r d s0 s u = (keepL s0 s d ks ∧ er P u0 all ks K r s u) := rfl
theorem aeT {all : List Oper} : vcT P u0 all K .done s u = K s u := rfl
def ad5 (P : Program) (x : Bool) (u0 : World) (all : List Oper) (K : S → World → Prop) (t : OT) (s : S) (u : World) (o : Option Oper) : Prop :=
 match o with
 | some o => vcG P x u0 all o (vcT P u0 all K t) s u
 | none => False
theorem aiK {all : List Oper} {i : Nat} {t : OT} : vcT P u0 all K (.fl i t) s u = ad5 P false u0 all K t s u (a_ all i) := rfl
theorem ahC {all : List Oper} {i j : Nat} {x y : Bool} {t t' alt : OT} : vcT P u0 all K (.eff i x t (.eff j y t' alt)) s u = (ad5 P x u0 all K t s u (a_ all i) ∧ vcT P u0 all K (.eff j y t' alt) s u) := rfl
theorem yh {all : List Oper} {x : Bool} {t : OT} {o : Oper} : ad5 P x u0 all K t s u (some o) = vcG P x u0 all o (vcT P u0 all K t) s u := rfl
theorem tY {o : Oper} {r : List Oper} : a_ (o :: r) 0 = some o := rfl
theorem vf {o : Oper} {r : List Oper} {j : Nat} : a_ (o :: r) (j + 1) = a_ r j := rfl
theorem xr {o : Oper} {r : List Oper} : gU (o :: r) 0 = o.dst := rfl
theorem wE {o : Oper} {r : List Oper} {j : Nat} : gU (o :: r) (j + 1) = gU r j := rfl
def vM (want : Bool) (A B : Prop) (c : SV) : Prop :=
 match c with
 | .v (.bool c) => (c = want → A) ∧ (c = !want → B)
 | .v (.tuple _) => B
 | _ => False
def ya (P : Program) (x : Bool) (u0 : World) (o : Oper) (K : S → World → Prop) (s : S) (u : World) (want : Bool) (d : Option Nat) : Prop :=
 match d with
 | some d => vM want (bp P x u0 o K s u) (K (s.put o.dst (.v undef)) u) (s.get d)
 | none => False
section
variable {x : Bool} {all : List Oper} {d : Option Tmp} {op : Op} {ty : TypeId} {pos : String} {aft : Array Edge}
theorem k_ : vcG P x u0 all ⟨d, op, ty, pos, aft, none⟩ K s u = bp P x u0 ⟨d, op, ty, pos, aft, none⟩ K s u := rfl
theorem ads {j : Nat} {b : Bool} : vcG P x u0 all ⟨d, op, ty, pos, aft, some (j, b)⟩ K s u = ya P x u0 ⟨d, op, ty, pos, aft, some (j, b)⟩ K s u b (gU all j) := by
 unfold vcG ya vM
 dsimp only
 cases gU all j with
 | none => rfl
 | some e =>
  cases s.get e with
  | v y => cases y <;> rfl
  | _ => rfl
end
def o3 (P : Program) (x : Bool) (u0 : World) (o : Oper) (K : S → World → Prop) (s : S) (u : World) (want : Bool) (c : SV) : Prop :=
 vM want (bp P x u0 o K s u) (K (s.put o.dst (.v undef)) u) c
section
variable {x : Bool} {o : Oper} {b : Bool}
theorem uk {e : Nat} : ya P x u0 o K s u b (some e) = o3 P x u0 o K s u b (s.get e) := rfl
theorem rR : o3 P x u0 o K s u b (.v undef) = K (s.put o.dst (.v undef)) u := rfl
theorem t_ {c : Bool} (h1 : c = b → bp P x u0 o K s u) (h2 : c = !b → K (s.put o.dst (.v undef)) u) : o3 P x u0 o K s u b (.v (.bool c)) := ⟨h1, h2⟩
theorem lx {c : Bool} (h : c = b) (h1 : bp P x u0 o K s u) : o3 P x u0 o K s u b (.v (.bool c)) := by subst h; exact ⟨fun _ => h1, fun h => by cases c <;> cases h⟩
theorem oB {c : Bool} (h : c = !b) (h1 : K (s.put o.dst (.v undef)) u) : o3 P x u0 o K s u b (.v (.bool c)) := by subst h; exact ⟨(fun h => by cases b <;> cases h), fun _ => h1⟩
end
section
variable {x : Bool} {d : Option Tmp} {ty : TypeId} {pos : String} {aft : Array Edge} {g : Option (Nat × Bool)}
theorem yJ {y : Operand} : bp P x u0 ⟨d, .move y, ty, pos, aft, g⟩ K s u = K (s.put d (s.sv y)) u := rfl
theorem abg {y : Operand} : bp P x u0 ⟨d, .assign y, ty, pos, aft, g⟩ K s u = K (s.put d (s.sv y)) u := rfl
def ah_ (K : S → World → Prop) (s : S) (d : Option Tmp) (u : World) (y z : SV) (c : SV) : Prop :=
 match c with
 | .v (.bool t) => K (s.put d (bif t then y else z)) u
 | _ => False
theorem agS {c y z : Operand} : bp P x u0 ⟨d, .pick c y z, ty, pos, aft, g⟩ K s u = ah_ K s d u (s.sv y) (s.sv z) (s.sv c) := rfl
theorem aga {y z : SV} {t : Bool} : ah_ K s d u y z (.v (.bool t)) = K (s.put d (bif t then y else z)) u := rfl
def qg (K : Value → Prop) (ag : Bool) (n off : Nat) (l : Option Loc) : Prop :=
 match l with
 | some l => (n = 1 ∨ ag = true) ∧ off + n ≤ l.cells.length ∧ K (ld ag n off l.cells)
 | none => False
def yR (K : Value → Prop) (s : S) (u : World) (y : SV) (l : Option (Bool × Nat)) : Prop :=
 match l with
 | some (ag, n) =>
  match y with
  | .loc k off => qg K ag n off (s.find k)
  | .elt sv sz i off => yr u sv sz i ag n off K
  | .v (.pointer (some a)) => afh u a ag n K
  | _ => False
 | none => False
theorem agz {T : TypeId} {y : Operand} : bp P x u0 ⟨d, .load T y, ty, pos, aft, g⟩ K s u = yR (dU s d u K) s u (s.sv y) (lay P T) := rfl
theorem abD {Kv : Value → Prop} {k off n : Nat} {ag : Bool} : yR Kv s u (.loc k off) (some (ag, n)) = qg Kv ag n off (s.find k) := rfl
theorem zQ {Kv : Value → Prop} {sv : Value} {sz off n : Nat} {i : Int} {ag : Bool} : yR Kv s u (.elt sv sz i off) (some (ag, n)) = yr u sv sz i ag n off Kv := rfl
theorem aa8 {Kv : Value → Prop} {a : Addr} {n : Nat} {ag : Bool} : yR Kv s u (.v (.pointer (some a))) (some (ag, n)) = afh u a ag n Kv := rfl
theorem aaK {Kv : Value → Prop} {n off b : Nat} {cs : List Value} {T : TypeId} : qg Kv true n off (some ⟨b, cs, T⟩) = (off + n ≤ cs.length ∧ Kv (.agg ((cs.drop off).take n).toArray)) := by
 simp [qg, ld]
theorem aad {Kv : Value → Prop} {off b : Nat} {cs : List Value} {T : TypeId} : qg Kv false 1 off (some ⟨b, cs, T⟩) = (off + 1 ≤ cs.length ∧ Kv ((cs.drop off).headD undef)) := by
 simp [qg, ld]
theorem qX {r : Value} : dU s d u K r = K (s.put d (.v r)) u := rfl
theorem agM {r : Value} : dE s d K r u = K (s.put d (.v r)) u := rfl
theorem agJ : iC s d K u = K (s.put d (.v undef)) u := rfl
def agr (K : S → World → Prop) (s : S) (d : Option Tmp) (u : World) (y : SV) : Prop :=
 match y with
 | .loc k off => K (s.put d (.loc k off)) u
 | .elt sv sz i off => K (s.put d (.elt sv sz i off)) u
 | .v (.pointer (some a)) => K (s.put d (.v (.pointer (some a)))) u
 | _ => False
theorem s6 {y : Operand} : bp P x u0 ⟨d, .nilCheck y, ty, pos, aft, g⟩ K s u = agr K s d u (s.sv y) := rfl
theorem adh {k off : Nat} : agr K s d u (.loc k off) = K (s.put d (.loc k off)) u := rfl
theorem aez {sv : Value} {sz : Nat} {i : Int} {off : Nat} : agr K s d u (.elt sv sz i off) = K (s.put d (.elt sv sz i off)) u := rfl
theorem acM {a : Addr} : agr K s d u (.v (.pointer (some a))) = K (s.put d (.v (.pointer (some a)))) u := rfl
def ak6 (P : Program) (op : BinOp) (T : TypeId) (y z : Operand) (Kv : Value → Prop) (a b : SV) : Prop :=
 match a, b with
 | .v a, .v b => AtPure P (bj op T y z a b) Kv
 | _, _ => False
theorem yk {op : BinOp} {T t2 : TypeId} {y z : Operand} : bp P x u0 ⟨d, .binOp op T y z t2, ty, pos, aft, g⟩ K s u = ak6 P op T y z (dU s d u K) (s.sv y) (s.sv z) := rfl
theorem wL {op : BinOp} {T : TypeId} {y z : Operand} {Kv : Value → Prop} {a b : Value} : ak6 P op T y z Kv (.v a) (.v b) = AtPure P (bj op T y z a b) Kv := rfl
def UnK (P : Program) (op : UnOp) (Kv : Value → Prop) (a : SV) : Prop :=
 match a with
 | .v a => AtPure P (iUn op a) Kv
 | _ => False
theorem aj4 {op : UnOp} {T : TypeId} {y : Operand} : bp P x u0 ⟨d, .unOp op T y, ty, pos, aft, g⟩ K s u = UnK P op (dU s d u K) (s.sv y) := rfl
theorem aj3 {op : UnOp} {Kv : Value → Prop} {a : Value} : UnK P op Kv (.v a) = AtPure P (iUn op a) Kv := rfl
def adL (P : Program) (x : Bool) (u0 : World) (src dst : TypeId) (s : S) (d : Option Tmp) (K : S → World → Prop) (u : World) (a : SV) (same : Bool) : Prop :=
 match a with
 | .v a => bif same then AtEff x P (db src dst a) u0 u (dE s d K) else AtRead P (db src dst a) u (dU s d u K)
 | _ => False
theorem xU {src dst : TypeId} {y : Operand} : bp P x u0 ⟨d, .convert src dst y, ty, pos, aft, g⟩ K s u = adL P x u0 src dst s d K u (s.sv y) (src == dst) := rfl
theorem ae7 {src dst : TypeId} {a : Value} : adL P x u0 src dst s d K u (.v a) false = AtRead P (db src dst a) u (dU s d u K) := rfl
theorem aeG {src dst : TypeId} {a : Value} : adL P x u0 src dst s d K u (.v a) true = AtEff x P (db src dst a) u0 u (dE s d K) := rfl
theorem uR {fn : Fn} {first captured : List Operand} : bp P x u0 ⟨d, .makeFunc fn first.toArray captured.toArray, ty, pos, aft, g⟩ K s u =
  ew u0 (first ++ captured) s u (zm K d fn first.length) := rfl
theorem aec {fn : Fn} {n : Nat} {vs : List Value} : zm K d fn n vs s u = K (s.put d (.v (.func fn (vs.take n).toArray (vs.drop n).toArray))) u := rfl
def acJ (P : Program) (T : TypeId) (Kv : Value → Prop) (vs : Option (List (Nat × Value))) : Prop :=
 match vs with
 | some vs => AtPure P (gE T vs.toArray) Kv
 | none => False
theorem acU {T : TypeId} {ps : List (Nat × Operand)} : bp P x u0 ⟨d, .build T ps.toArray, ty, pos, aft, g⟩ K s u = acJ P T (dU s d u K) (gY s ps) := rfl
theorem tw {T : TypeId} {Kv : Value → Prop} {vs : List (Nat × Value)} : acJ P T Kv (some vs) = AtPure P (gE T vs.toArray) Kv := rfl
def adm (P : Program) (T : TypeId) (Kv : Value → Prop) (a : SV) (l h m : Option (Option Value)) : Prop :=
 match a, l, h, m with
 | .v a, some l, some h, some m => AtPure P (bG T a l h m) Kv
 | _, _, _, _ => False
theorem adN {T : TypeId} {y : Operand} {lo hi mx : Option Operand} : bp P x u0 ⟨d, .slice T y lo hi mx, ty, pos, aft, g⟩ K s u =
  adm P T (dU s d u K) (s.sv y) (jD s lo) (jD s hi) (jD s mx) := rfl
theorem aeb {T : TypeId} {Kv : Value → Prop} {a : Value} {l h m : Option Value} : adm P T Kv (.v a) (some l) (some h) (some m) = AtPure P (bG T a l h m) Kv := rfl
def OvK (a : SV) : Option (Option Value) :=
 match a with
 | .v a => some (some a)
 | _ => none
theorem aaN : jD s none = some none := rfl
theorem aal {y : Operand} : jD s (some y) = OvK (s.sv y) := rfl
theorem alm {a : Value} : OvK (.v a) = some (some a) := rfl
def rC (d : Option Tmp) (K : S → World → Prop) (s : S) (u : World) (y : SV) (e : Option Nat) : Prop :=
 match e with
 | some e =>
  match y with
  | .loc k off => K (s.put d (.loc k (off + e))) u
  | .elt sv sz i off => K (s.put d (.elt sv sz i (off + e))) u
  | .v (.pointer (some a)) => K (s.put d (.v (.pointer (some (a.add e))))) u
  | _ => False
 | none => False
theorem rb {T : TypeId} {y : Operand} {f : Nat} : bp P x u0 ⟨d, .fieldAddr T y f, ty, pos, aft, g⟩ K s u = rC d K s u (s.sv y) (aV P T f) := rfl
theorem vF {k off e : Nat} : rC d K s u (.loc k off) (some e) = K (s.put d (.loc k (off + e))) u := rfl
theorem wO {sv : Value} {sz off e : Nat} {i : Int} : rC d K s u (.elt sv sz i off) (some e) = K (s.put d (.elt sv sz i (off + e))) u := rfl
theorem xo {a : Addr} {e : Nat} : rC d K s u (.v (.pointer (some a))) (some e) = K (s.put d (.v (.pointer (some (a.add e))))) u := rfl
def ak9 (d : Option Tmp) (K : S → World → Prop) (s : S) (u : World) (y : SV) (e : Option (Nat × Bool × Nat)) : Prop :=
 match y with
 | .v (.agg cs) => match e with
  | some (off, ag, n) => (n = 1 ∨ ag = true) ∧ off + n ≤ cs.toList.length ∧ K (s.put d (.v (ld ag n off cs.toList))) u
  | none => False
 | _ => False
theorem aeF {T : TypeId} {y : Operand} {f : Nat} : bp P x u0 ⟨d, .field T y f, ty, pos, aft, g⟩ K s u = ak9 d K s u (s.sv y) (vz P T f) := rfl
def alz (as : Option (Nat × Nat)) (d : Option Tmp) (K : S → World → Prop) (s : S) (u : World) (y i : SV) (e : Option Nat) : Prop :=
 match e, y, i with
 | some sz, .v (.slice p n c), .v (.int _ i) => afd p n i (K (s.put d (.elt (.slice p n c) sz i 0)) u)
 | none, .loc k off, .v (.int _ i) => z0 d K s u k off i as
 | _, _, _ => False
theorem rH {T : TypeId} {y z : Operand} : bp P x u0 ⟨d, .indexAddr T y z, ty, pos, aft, g⟩ K s u = alz (asz P T) d K s u (s.sv y) (s.sv z) (esz P T) := rfl
theorem aig {p : Option Addr} {n c sz : Nat} {k : IntKind} {i : Int} {as : Option (Nat × Nat)} : alz as d K s u (.v (.slice p n c)) (.v (.int k i)) (some sz) = afd p n i (K (s.put d (.elt (.slice p n c) sz i 0)) u) := rfl
def vE (P : Program) (e : Value → Value → Sem Value) (u : World) (Kv : Value → Prop) (y z : SV) : Prop :=
 match y, z with
 | .v a, .v b => AtRead P (e a b) u Kv
 | _, _ => False
theorem aeY {T : TypeId} {y z : Operand} : bp P x u0 ⟨d, .index T y z, ty, pos, aft, g⟩ K s u = vE P (fS T) u (dU s d u K) (s.sv y) (s.sv z) := rfl
theorem abF {T : TypeId} {y z : Operand} {ok : Bool} : bp P x u0 ⟨d, .lookup T y z ok, ty, pos, aft, g⟩ K s u = vE P (fun a b => jP T a b ok) u (dU s d u K) (s.sv y) (s.sv z) := rfl
theorem acF {e : Value → Value → Sem Value} {Kv : Value → Prop} {a b : Value} : vE P e u Kv (.v a) (.v b) = AtRead P (e a b) u Kv := rfl
def vy : List Value → Nat → Option Value
 | [], _ => none
 | v :: _, 0 => some v
 | _ :: r, j + 1 => vy r j
theorem afw : ∀ (l : List Value) (j : Nat), vy l j = l[j]? := by
 intro l
 induction l with
 | nil => intro j; rfl
 | cons o r ih => intro j; cases j with
  | zero => rfl
  | succ j => simpa [vy] using ih j
def ah6 (d : Option Tmp) (K : S → World → Prop) (s : S) (u : World) (r : Option Value) : Prop :=
 match r with
 | some r => K (s.put d (.v r)) u
 | none => False
def ahY (d : Option Tmp) (K : S → World → Prop) (s : S) (u : World) (i : Nat) (y : SV) : Prop :=
 match y with
 | .v (.tuple vs) => match vs.toList[i]? with
  | some r => K (s.put d (.v r)) u
  | none => False
 | _ => False
theorem xL {y : Operand} {i : Nat} : bp P x u0 ⟨d, .extract y i, ty, pos, aft, g⟩ K s u = ahY d K s u i (s.sv y) := rfl
theorem afE {vs : List Value} {i : Nat} : ahY d K s u i (.v (.tuple vs.toArray)) = ah6 d K s u (vy vs i) := by
 rw [afw]; rfl
theorem xI {r : Value} : ah6 d K s u (some r) = K (s.put d (.v r)) u := rfl
theorem aaT {v : Value} {r : List Value} : vy (v :: r) 0 = some v := rfl
theorem aby {v : Value} {r : List Value} {j : Nat} : vy (v :: r) (j + 1) = vy r j := rfl
def mZ (K : S → World → Prop) (s : S) (d : Nat) (cs : List Value) (T : TypeId) (u : World) (b : Nat) : Prop := K (addLoc s d b cs T) u
def adQ (d : Option Tmp) (K : S → World → Prop) (s : S) (u : World) (T : TypeId) (cs : Option (List Value)) : Prop :=
 match cs, d with
 | some cs, some d => s.find d = none ∧ ∀ b, mZ K s d cs T u b
 | _, _ => False
theorem ad9 {T : TypeId} : bp P x u0 ⟨d, .alloc T, ty, pos, aft, g⟩ K s u = adQ d K s u T (cX P T) := rfl
theorem ux {T : TypeId} {cs : List Value} {e : Nat} : adQ (some e) K s u T (some cs) = (s.find e = none ∧ ∀ b, mZ K s e cs T u b) := rfl
def rF (d : Option Tmp) (K : S → World → Prop) (s : S) (u : World) (T : TypeId) (y : SV) : Prop :=
 match y, d with
 | .v a, some d => s.find d = none ∧ ∀ b, mZ K s d a.cells.toList T u b
 | _, _ => False
theorem ail {T : TypeId} {y : Operand} : bp P x u0 ⟨d, .box T y, ty, pos, aft, g⟩ K s u = rF d K s u T (s.sv y) := rfl
theorem aey {T : TypeId} {cs : List Value} {e : Nat} : rF (some e) K s u T (.v (.agg cs.toArray)) = (s.find e = none ∧ ∀ b, mZ K s e cs T u b) := rfl
theorem ae6 {T : TypeId} {k : IntKind} {n : Int} {e : Nat} : rF (some e) K s u T (.v (.int k n)) = (s.find e = none ∧ ∀ b, mZ K s e [.int k n] T u b) := rfl
theorem abc {T : TypeId} {n : Bool} {e : Nat} : rF (some e) K s u T (.v (.bool n)) = (s.find e = none ∧ ∀ b, mZ K s e [.bool n] T u b) := rfl
theorem vQ {T : TypeId} {p : Option Addr} {n c : Nat} {e : Nat} : rF (some e) K s u T (.v (.slice p n c)) = (s.find e = none ∧ ∀ b, mZ K s e [.slice p n c] T u b) := rfl
theorem uY {T : TypeId} {b : ByteArray} {e : Nat} : rF (some e) K s u T (.v (.string b)) = (s.find e = none ∧ ∀ c, mZ K s e [.string b] T u c) := rfl
theorem agI {ρ : List (Nat × SV)} {σ : List (Nat × Loc)} {e b : Nat} {cs : List Value} {T : TypeId} : mZ K ⟨ρ, σ⟩ e cs T u b = K ⟨(e, .loc e 0) :: ρ, (e, ⟨b, cs, T⟩) :: σ⟩ u := rfl
def ahz (d : Option Tmp) (K : S → World → Prop) (s : S) (u : World) (k off : Nat) (vs : List Value) (l : Option Loc) (e : Option (Bool × Nat)) : Prop :=
 match l, e with
 | some l, some (_, n) => vs.length = n ∧ off + n ≤ l.cells.length ∧ be vs = true ∧ K (setLoc s k l (splice l.cells off vs) d) u
 | _, _ => False
def adH (P : Program) (b : Bool) (u0 : World) (T : TypeId) (d : Option Tmp) (K : S → World → Prop) (s : S) (u : World) (y z : SV) : Prop :=
 match z with
 | .v a =>
  match y with
  | .loc k off => ahz d K s u k off a.cells.toList (s.find k) (lay P T)
  | .v p => AtDo b P (dB T p a) u0 u (iC s d K)
  | .elt sv sz i off => match bf sv sz i off with
   | some ad => AtDo b P (dB T (.pointer (some ad)) a) u0 u (iC s d K)
   | none => False
  | .unk => False
 | _ => False
theorem acr {T : TypeId} {y z : Operand} : bp P x u0 ⟨d, .store T y z, ty, pos, aft, g⟩ K s u = adH P x u0 T d K s u (s.sv y) (s.sv z) := by
 show ek P x u0 T (s.sv y) (s.sv z) d K s u = _
 unfold ek adH ahz
 cases s.sv z with
 | v a =>
  cases s.sv y with
  | loc k off => simp only []; cases s.find k <;> cases lay P T <;> rfl
  | _ => rfl
 | _ => rfl
theorem ado {T : TypeId} {k off : Nat} {a : Value} : adH P x u0 T d K s u (.loc k off) (.v a) = ahz d K s u k off a.cells.toList (s.find k) (lay P T) := rfl
theorem aaU {ρ : List (Nat × SV)} {σ : List (Nat × Loc)} {k off n b : Nat} {cs vs : List Value} {T : TypeId} {ag : Bool} :
  ahz none K ⟨ρ, σ⟩ u k off vs (some ⟨b, cs, T⟩) (some (ag, n)) = (vs.length = n ∧ off + n ≤ cs.length ∧ be vs = true ∧ K ⟨ρ, (k, ⟨b, splice cs off vs, T⟩) :: σ⟩ u) := rfl
theorem ac3 {T : TypeId} {p a : Value} : adH P x u0 T d K s u (.v p) (.v a) = AtDo x P (dB T p a) u0 u (iC s d K) := rfl
def np (b : Bool) (P : Program) (u0 : World) (T : TypeId) (sv : Value) (sz : Nat) (i : Int) (off : Nat) (a : Value) (u : World) (K : World → Prop) : Prop :=
 match bf sv sz i off with
 | some ad => AtDo b P (dB T (.pointer (some ad)) a) u0 u K
 | none => False
theorem ad_ {T : TypeId} {sv a : Value} {sz off : Nat} {i : Int} : adH P x u0 T d K s u (.elt sv sz i off) (.v a) = np x P u0 T sv sz i off a u (iC s d K) := rfl
def alp (P : Program) (x : Bool) (u0 u : World) (Ke : Value → World → Prop) (e : List (Nat × Value) → Sem Value) (vs : Option (List (Nat × Value))) : Prop :=
 match vs with
 | some vs => AtEff x P (e vs) u0 u Ke
 | none => False
theorem pi {T : TypeId} {n : Nat} {ps : List (Nat × Operand)} : bp P x u0 ⟨d, .buildSlice T n ps.toArray, ty, pos, aft, g⟩ K s u =
  alp P x u0 u (dE s d K) (fun vs => lA T n vs.toArray) (gY s ps) := rfl
theorem aaJ {Ke : Value → World → Prop} {e : List (Nat × Value) → Sem Value} {vs : List (Nat × Value)} : alp P x u0 u Ke e (some vs) = AtEff x P (e vs) u0 u Ke := rfl
def ab5 (P : Program) (x : Bool) (u0 u : World) (Ke : Value → World → Prop) (e : Value → Value → Sem Value) (y z : SV) : Prop :=
 match y, z with
 | .v a, .v b => AtEff x P (e a b) u0 u Ke
 | _, _ => False
theorem q_ {T : TypeId} {y z : Operand} : bp P x u0 ⟨d, .makeSlice T y z, ty, pos, aft, g⟩ K s u = ab5 P x u0 u (dE s d K) (jQ T) (s.sv y) (s.sv z) := rfl
theorem tl {T : TypeId} {y z : Operand} : bp P x u0 ⟨d, .mapEntry T y z, ty, pos, aft, g⟩ K s u = ab5 P x u0 u (dE s d K) (tE T) (s.sv y) (s.sv z) := rfl
theorem agN {Ke : Value → World → Prop} {e : Value → Value → Sem Value} {a b : Value} : ab5 P x u0 u Ke e (.v a) (.v b) = AtEff x P (e a b) u0 u Ke := rfl
def aj2 (P : Program) (x : Bool) (u0 u : World) (Ke : Value → World → Prop) (e : Option Value → Sem Value) (y : Option (Option Value)) : Prop :=
 match y with
 | some a => AtEff x P (e a) u0 u Ke
 | none => False
theorem wT {T : TypeId} {r : Option Operand} : bp P x u0 ⟨d, .makeMap T r, ty, pos, aft, g⟩ K s u = aj2 P x u0 u (dE s d K) (o_ T) (jD s r) := rfl
theorem aaf {Ke : Value → World → Prop} {e : Option Value → Sem Value} {a : Option Value} : aj2 P x u0 u Ke e (some a) = AtEff x P (e a) u0 u Ke := rfl
def afS (P : Program) (x : Bool) (u0 u : World) (Kw : World → Prop) (e : Value → Value → Value → Sem Unit) (y z t : SV) : Prop :=
 match y, z, t with
 | .v a, .v b, .v c => AtDo x P (e a b c) u0 u Kw
 | _, _, _ => False
theorem rL {T : TypeId} {y z t : Operand} : bp P x u0 ⟨d, .mapUpdate T y z t, ty, pos, aft, g⟩ K s u = afS P x u0 u (iC s d K) (lG T) (s.sv y) (s.sv z) (s.sv t) := rfl
theorem aae {T : TypeId} {y z t : Operand} : bp P x u0 ⟨d, .insert T y z t, ty, pos, aft, g⟩ K s u = afS P x u0 u (iC s d K) (lG T) (s.sv y) (s.sv z) (s.sv t) := rfl
theorem pA {T : TypeId} {y z t : Operand} : bp P x u0 ⟨d, .entryStore T y z t, ty, pos, aft, g⟩ K s u = afS P x u0 u (iC s d K) (mL T) (s.sv y) (s.sv z) (s.sv t) := rfl
theorem ai8 {Kw : World → Prop} {e : Value → Value → Value → Sem Unit} {a b c : Value} : afS P x u0 u Kw e (.v a) (.v b) (.v c) = AtDo x P (e a b c) u0 u Kw := rfl
def ac_ (P : Program) (u : World) (Kv : Value → Prop) (e : List Value → Sem Value) (vs : Option (List Value)) : Prop :=
 match vs with
 | some vs => AtRead P (e vs) u Kv
 | none => False
def acO (P : Program) (x : Bool) (u0 u : World) (Ke : Value → World → Prop) (e : List Value → Sem Value) (vs : Option (List Value)) : Prop :=
 match vs with
 | some vs => AtEff x P (e vs) u0 u Ke
 | none => False
theorem ww {Kv : Value → Prop} {e : List Value → Sem Value} {vs : List Value} : ac_ P u Kv e (some vs) = AtRead P (e vs) u Kv := rfl
theorem abl {Ke : Value → World → Prop} {e : List Value → Sem Value} {vs : List Value} : acO P x u0 u Ke e (some vs) = AtEff x P (e vs) u0 u Ke := rfl
variable {args : List Operand} {tys : Array TypeId}
def ac5 (P : Program) (Kv : Value → Prop) (e : List Value → Sem Value) (vs : Option (List Value)) : Prop :=
 match vs with
 | some vs => AtPure P (e vs) Kv
 | none => False
theorem xh {Kv : Value → Prop} {e : List Value → Sem Value} {vs : List Value} : ac5 P Kv e (some vs) = AtPure P (e vs) Kv := rfl
theorem aiF : bp P x u0 ⟨d, .call ⟨.builtin .len, args.toArray, tys⟩, ty, pos, aft, g⟩ K s u = ac_ P u (dU s d u K) (fun vs => l_ tys ty vs.toArray) (vals s args) := rfl
theorem air : bp P x u0 ⟨d, .call ⟨.builtin .cap, args.toArray, tys⟩, ty, pos, aft, g⟩ K s u = ac_ P u (dU s d u K) (fun vs => nU tys ty vs.toArray) (vals s args) := rfl
theorem aiL : bp P x u0 ⟨d, .call ⟨.builtin .min, args.toArray, tys⟩, ty, pos, aft, g⟩ K s u = ac5 P (dU s d u K) (fun vs => oQ tys ty vs.toArray) (vals s args) := rfl
theorem ajb : bp P x u0 ⟨d, .call ⟨.builtin .max, args.toArray, tys⟩, ty, pos, aft, g⟩ K s u = ac5 P (dU s d u K) (fun vs => oV tys ty vs.toArray) (vals s args) := rfl
theorem abK : bp P x u0 ⟨d, .call ⟨.builtin .append, args.toArray, tys⟩, ty, pos, aft, g⟩ K s u = acO P x u0 u (dE s d K) (fun vs => gz tys ty vs.toArray) (vals s args) := rfl
theorem afV : bp P x u0 ⟨d, .call ⟨.builtin .copy, args.toArray, tys⟩, ty, pos, aft, g⟩ K s u = acO P x u0 u (dE s d K) (fun vs => gV tys ty vs.toArray) (vals s args) := rfl
theorem abi : bp P x u0 ⟨d, .call ⟨.builtin .delete, args.toArray, tys⟩, ty, pos, aft, g⟩ K s u = acO P x u0 u (dE s d K) (fun vs => sW tys ty vs.toArray) (vals s args) := rfl
theorem acp : bp P x u0 ⟨d, .call ⟨.builtin .clear, args.toArray, tys⟩, ty, pos, aft, g⟩ K s u = acO P x u0 u (dE s d K) (fun vs => nS tys ty vs.toArray) (vals s args) := rfl
def agK (P : Program) (x : Bool) (u0 : World) (args : List Operand) (d : Option Tmp) (K : S → World → Prop) (s : S) (u : World) (f : SV) : Prop :=
 match f with
 | .v (.func (.func g) first captured) => ew u0 args s u (qd x P u0 g first.toList captured.toList K d)
 | .v fv => ew u0 args s u (og x P u0 fv K d)
 | _ => False
theorem agR {f : Operand} : bp P x u0 ⟨d, .call ⟨.value f, args.toArray, tys⟩, ty, pos, aft, g⟩ K s u = agK P x u0 args d K s u (s.sv f) := by
 show iw P x u0 ⟨.value f, args.toArray, tys⟩ ty d K s u = _
 unfold iw agK
 simp only []
 cases s.sv f with
 | v y => cases y with
  | func fn first captured => cases fn <;> rfl
  | _ => rfl
 | _ => rfl
theorem abR {f : FuncId} {first captured : List Value} : agK P x u0 args d K s u (.v (.func (.func f) first.toArray captured.toArray)) = ew u0 args s u (qd x P u0 f first captured K d) := rfl
theorem adI {f : FuncId} {first captured vs : List Value} : qd x P u0 f first captured K d vs s u = AtCall x P f (first ++ vs ++ captured) u0 u (dE s d K) := rfl
end
theorem l7 {ρ : List (Nat × SV)} {σ : List (Nat × Loc)} {t : Nat} : (S.mk ρ σ).sv (.tmp t) = (lk ρ t).getD .unk := rfl
theorem sV {v : Value} : s.sv (.const v) = .v v := rfl
theorem agE {f : Nat} : s.sv (.func f) = .v (.func (.func f) #[] #[]) := rfl
theorem aiY {ρ : List (Nat × SV)} {σ : List (Nat × Loc)} {t : Nat} : (S.mk ρ σ).get t = (lk ρ t).getD .unk := rfl
theorem af_ {ρ : List (Nat × SV)} {σ : List (Nat × Loc)} {k : Nat} : (S.mk ρ σ).find k = lk σ k := rfl
theorem kC {ρ : List (Nat × SV)} {σ : List (Nat × Loc)} {d : Nat} {y : SV} : (S.mk ρ σ).put (some d) y = ⟨(d, y) :: ρ, σ⟩ := rfl
theorem acb {y : SV} : s.put none y = s := rfl
theorem ajf {α : Type} {t : Nat} : lk ([] : List (Nat × α)) t = none := rfl
theorem sh {α : Type} {t : Nat} {y : α} {r : List (Nat × α)} : lk ((t, y) :: r) t = some y := ao
theorem ahk {α : Type} {k t : Nat} {y : α} {r : List (Nat × α)} (h : (k == t) = false) : lk ((k, y) :: r) t = lk r t := aj (by simpa using h)
theorem alA {y : Value} : s.val (.v y) = some y := rfl
theorem ae1 : vals s [] = some [] := rfl
def VsK (a : SV) (r : Option (List Value)) : Option (List Value) :=
 match a with
 | .v a => match r with
  | some vs => some (a :: vs)
  | none => none
 | _ => none
theorem aa7 {y : Operand} {r : List Operand} : vals s (y :: r) = VsK (s.sv y) (vals s r) := rfl
theorem akE {a : Value} {vs : List Value} : VsK (.v a) (some vs) = some (a :: vs) := rfl
theorem aa_ : gY s [] = some [] := rfl
def PsK (i : Nat) (a : SV) (r : Option (List (Nat × Value))) : Option (List (Nat × Value)) :=
 match a with
 | .v a => match r with
  | some vs => some ((i, a) :: vs)
  | none => none
 | _ => none
theorem yj {i : Nat} {y : Operand} {r : List (Nat × Operand)} : gY s ((i, y) :: r) = PsK i (s.sv y) (gY s r) := rfl
theorem aj5 {i : Nat} {a : Value} {vs : List (Nat × Value)} : PsK i (.v a) (some vs) = some ((i, a) :: vs) := rfl
theorem ac6 {Kp : List Value → S → World → Prop} : ew u0 [] s u Kp = Kp [] s u := rfl
def ahx (u0 : World) (k off : Nat) (r : List Operand) (s : S) (u : World) (Kp : List Value → S → World → Prop) (l : Option Loc) : Prop :=
 match l with
 | some l => ∀ u', Sub u u' → Fresh u l.b → Fresh u0 l.b → u'.heap[l.b]? = some (.cells l.cells.toArray l.T (0, 0)) → (∀ b', b' ≠ l.b → Fresh u b' → Fresh u' b') →
   ew u0 r (s.pub k l.b) u' (nm (.pointer (some ⟨l.b, off, none⟩)) Kp)
 | none => False
def afU (u0 : World) (r : List Operand) (s : S) (u : World) (Kp : List Value → S → World → Prop) (y : SV) : Prop :=
 match y with
 | .v a => ew u0 r s u (nm a Kp)
 | .loc k off => ahx u0 k off r s u Kp (s.find k)
 | _ => False
theorem ab1 {y : Operand} {r : List Operand} {Kp : List Value → S → World → Prop} : ew u0 (y :: r) s u Kp = afU u0 r s u Kp (s.sv y) := by
 show ew u0 (y :: r) s u Kp = _
 simp only [ew]
 unfold afU ahx
 cases s.sv y with
 | loc k off => simp only []; cases s.find k <;> rfl
 | _ => rfl
theorem aik {r : List Operand} {Kp : List Value → S → World → Prop} {a : Value} : afU u0 r s u Kp (.v a) = ew u0 r s u (nm a Kp) := rfl
theorem ac9 {r : List Operand} {Kp : List Value → S → World → Prop} {k off : Nat} : afU u0 r s u Kp (.loc k off) = ahx u0 k off r s u Kp (s.find k) := rfl
theorem aaX {r : List Operand} {Kp : List Value → S → World → Prop} {k off b : Nat} {cs : List Value} {T : TypeId} : ahx u0 k off r s u Kp (some ⟨b, cs, T⟩) =
  ∀ u', Sub u u' → Fresh u b → Fresh u0 b → u'.heap[b]? = some (.cells cs.toArray T (0, 0)) → (∀ b', b' ≠ b → Fresh u b' → Fresh u' b') → ew u0 r (s.pub k b) u' (nm (.pointer (some ⟨b, off, none⟩)) Kp) := rfl
theorem adi {a : Value} {vs : List Value} {Kp : List Value → S → World → Prop} : nm a Kp vs s u = Kp (a :: vs) s u := rfl
theorem aix {ρ : List (Nat × SV)} {σ : List (Nat × Loc)} {k b : Nat} : (S.mk ρ σ).pub k b = ⟨v9 k b ρ, lq k σ⟩ := rfl
def aS (k : IntKind) (z : Int) (Kv : Value → Prop) : Prop := Kv (.int k (k.wrap z))
theorem aC {e : Sem Value} {Kv : Value → Prop} {r : Value} (h : ∀ w, e.run P w = .ok r w) : AtPure P e Kv = Kv r := by
 apply propext
 constructor
 ·rintro ⟨r', h', hk⟩
  have := h' default
  rw [h default] at this
  cases this
  exact hk
 ·intro hk; exact ⟨r, h, hk⟩
theorem lH {e : Sem Value} {Kv : Value → Prop} {r : Value} (h : ∀ w, e.run P w = .ok r w) : AtRead P e u Kv = Kv r := by
 apply propext
 constructor
 ·rintro ⟨r', h', hk⟩
  have := h' u (Sub.refl u)
  rw [h u] at this
  cases this
  exact hk
 ·intro hk; exact ⟨r, fun w _ => h w, hk⟩
section
variable {k : IntKind} {T : TypeId} {y z : Operand} {a b : Int} {Kv : Value → Prop}
theorem m7 : AtPure P (bj .add T y z (.int k a) (.int k b)) Kv = aS k (a + b) Kv := aC fun w => by simp [bj, eqGuard, binOp, Op.intArith]
theorem ahH : AtPure P (bj .sub T y z (.int k a) (.int k b)) Kv = aS k (a - b) Kv := aC fun w => by simp [bj, eqGuard, binOp, Op.intArith]
theorem af0 : AtPure P (bj .mul T y z (.int k a) (.int k b)) Kv = aS k (a * b) Kv := aC fun w => by simp [bj, eqGuard, binOp, Op.intArith]
theorem nc : AtPure P (bj .lss T y z (.int k a) (.int k b)) Kv = Kv (.bool (decide (a < b))) := aC fun w => by simp [bj, eqGuard, binOp, Op.intCmp]
theorem agv : AtPure P (bj .leq T y z (.int k a) (.int k b)) Kv = Kv (.bool (decide (a ≤ b))) := aC fun w => by simp [bj, eqGuard, binOp, Op.intCmp]
theorem afT : AtPure P (bj .gtr T y z (.int k a) (.int k b)) Kv = Kv (.bool (decide (b < a))) := aC fun w => by simp [bj, eqGuard, binOp, Op.intCmp]
theorem afy : AtPure P (bj .geq T y z (.int k a) (.int k b)) Kv = Kv (.bool (decide (b ≤ a))) := aC fun w => by simp [bj, eqGuard, binOp, Op.intCmp]
theorem agA : AtPure P (bj .eql T y z (.int k a) (.int k b)) Kv = Kv (.bool (a == b)) := aC fun w => by simp [bj, eqGuard, binOp, Op.intCmp]
theorem afL : AtPure P (bj .neq T y z (.int k a) (.int k b)) Kv = Kv (.bool (a != b)) := aC fun w => by simp [bj, eqGuard, binOp, Op.intCmp]
theorem ai1 {t : Bool} : AtPure P (iUn .not (.bool t)) Kv = Kv (.bool (!t)) := aC fun w => by simp [iUn, Op.unary]
theorem cx (h : -9223372036854775808 ≤ a ∧ a ≤ 9223372036854775807) : aS .i64 a Kv = Kv (.int .i64 a) := by unfold aS; rw [IntWalk.i64_in a h]
theorem acZ (h : 0 ≤ a ∧ a ≤ 255) : aS .u8 a Kv = Kv (.int .u8 a) := by unfold aS; rw [IntWalk.u8_in a h]
theorem zG (h : 0 ≤ a ∧ a ≤ 65535) : aS .u16 a Kv = Kv (.int .u16 a) := by unfold aS; rw [IntWalk.u16_in a h]
theorem abn (h : 0 ≤ a ∧ a ≤ 4294967295) : aS .u32 a Kv = Kv (.int .u32 a) := by unfold aS; rw [IntWalk.u32_in a h]
theorem l6 (h : 0 ≤ a ∧ a ≤ 18446744073709551615) : aS .u64 a Kv = Kv (.int .u64 a) := by unfold aS; rw [IntWalk.u64_in a h]
def eK (P : Program) (T : TypeId) : Bool :=
 match P.underlying T with
 | some (.slice _) => true
 | _ => false
theorem jl (h : eK P T = true) : ∃ e, P.underlying T = some (.slice e) := by
 unfold eK at h
 split at h
 ·rename_i e he; exact ⟨e, he⟩
 ·cases h
def kJ (P : Program) (T : TypeId) : Option IntKind :=
 match P.underlying T with
 | some (.int k) => some k
 | _ => none
theorem ma {k' : IntKind} (h : kJ P T = some k') : P.underlying T = some (.int k') := by
 unfold kJ at h
 split at h
 ·rename_i e he; cases h; exact he
 ·cases h
def ak4 (k : Option IntKind) (P : Program) (src dst : TypeId) (v : Value) (a : Int) (u : World) (Kv : Value → Prop) (ks : Option IntKind) : Prop :=
 match ks, k with
 | some _, some k => aS k a Kv
 | _, _ => AtRead P (db src dst v) u Kv
theorem wm {src dst : TypeId} {v : Value} {k' k2 : IntKind} : ak4 (some k') P src dst v a u Kv (some k2) = aS k' a Kv := rfl
theorem qH {p : Option Addr} {n c : Nat} {ty : TypeId} (h : eK P T = true) : AtRead P (l_ #[T] ty #[.slice p n c]) u Kv = Kv (.int .i64 n) := by
 obtain ⟨e, hs⟩ := jl h
 exact lH fun w => by simp [l_, Builtin.len_, run_underlying hs, goInt]
theorem qo {p : Option Addr} {n c : Nat} {ty : TypeId} (h : eK P T = true) : AtRead P (nU #[T] ty #[.slice p n c]) u Kv = Kv (.int .i64 c) := by
 obtain ⟨e, hs⟩ := jl h
 exact lH fun w => by simp [nU, Builtin.cap_, run_underlying hs, goInt]
theorem ow {s : ByteArray} {ty : TypeId} (hs : P.underlying T = some .string) : AtRead P (l_ #[T] ty #[.string s]) u Kv = Kv (.int .i64 s.size) :=
 lH fun w => by simp [l_, Builtin.len_, run_underlying hs, goInt]
theorem ahb {tys : Array TypeId} {ty : TypeId} : AtPure P (oQ tys ty #[.int k a, .int k b]) Kv = Kv (.int k (if b < a then b else a)) :=
 aC fun w => by simp [oQ, Builtin.min_, Builtin.min2]
theorem agT {tys : Array TypeId} {ty : TypeId} : AtPure P (oV tys ty #[.int k a, .int k b]) Kv = Kv (.int k (if a < b then b else a)) :=
 aC fun w => by simp [oV, Builtin.max_, Builtin.max2]
theorem acX {c d : Bool} (hs : P.underlying T = some .bool) : AtPure P (bj .eql T y z (.bool c) (.bool d)) Kv = Kv (.bool (c == d)) :=
 aC fun w => by simp only [bj, eqGuard, Sem.run_bind, Sem.run_pure, Result.andThen_ok, Bool.not_true, Bool.false_eq_true, if_false, run_eql_bool w T c d hs]
theorem acy {c d : Bool} (hs : P.underlying T = some .bool) : AtPure P (bj .neq T y z (.bool c) (.bool d)) Kv = Kv (.bool (!(c == d))) :=
 aC fun w => by simp only [bj, eqGuard, Sem.run_bind, Sem.run_pure, Result.andThen_ok, Bool.not_true, Bool.false_eq_true, if_false, run_neq_bool w T c d hs]
theorem jE {p : Option Addr} {n c : Nat} (h : eK P T = true) : AtPure P (bj .eql T y z (.slice p n c) (.slice none 0 0)) Kv = Kv (.bool p.isNone) := by
 obtain ⟨e, hs⟩ := jl h
 exact aC fun w => by simp only [bj, eqGuard, Sem.run_bind, Sem.run_pure, Result.andThen_ok, Bool.not_true, Bool.false_eq_true, if_false, binOp, Op.equal, Op.maxDepth, run_equalIn_slice_nil w 9999 T e p n c hs]
theorem jL {p : Option Addr} {n c : Nat} (h : eK P T = true) : AtPure P (bj .neq T y z (.slice p n c) (.slice none 0 0)) Kv = Kv (.bool (!p.isNone)) := by
 obtain ⟨e, hs⟩ := jl h
 exact aC fun w => by simp only [bj, eqGuard, Sem.run_bind, Sem.run_pure, Result.andThen_ok, Bool.not_true, Bool.false_eq_true, if_false, run_neq_slice_nil w T e p n c hs]
end
end
attribute [go_sem] zr ai5 yF lO ahe aiX yD o4 mq aaL sG pm pn u_ acj aaR pc yd mj pf yg sM abO vZ tC aeO mb iq aaQ w_ abr vN uL ad1 afF afW xO ajh abh aiN e_ keepL j9 iU aeT aiK ahC yh tY vf xr wE k_ ads uk rR yJ abg agS aga agz abD zQ aa8 aaK aad qX agM agJ s6 adh aez acM yk wL aj4 aj3 xU ae7 aeG uR aec acU tw adN aeb aaN aal alm rb vF wO xo aeF rH aig aeY abF acF xL afE xI aaT aby ad9 ux ail aey ae6 abc vQ uY agI acr ado aaU ac3 ad_ pi aaJ q_ tl agN wT aaf rL aae pA ai8 ww xh abl aiF air aiL ajb abK afV abi acp agR abR adI l7 sV agE aiY af_ kC acb ajf sh ahk alA ae1 aa7 akE aa_ yj aj5 ac6 ab1 aik ac9 aaX adi aix v9 iA lq ez wd yb vH sb ut xi xy vB wD uP afa ad0 ite_true splice m7 ahH af0 nc agv afT afy agA afL ai1 acX acy jE jL wm qH qo ow ahb agT be Value.oneCell' Value.cells List.nil_append List.cons_append List.append_nil List.drop_zero List.drop_succ_cons List.drop_nil List.take_zero List.take_succ_cons List.take_nil List.headD_cons List.length_cons List.length_nil Option.getD_some Option.getD_none Option.map_some Option.isNone_none Option.isNone_some Option.isSome_some Nat.zero_add Nat.add_zero Nat.le_refl cond_true cond_false Bool.true_and Bool.and_true Bool.not_true Bool.not_false and_true true_and eq_self true_implies ge_iff_le
structure Lf2 (q : Prop) : Prop where
 out : q
theorem vs_ {p q : Prop} (k : q) (e : Lf2 q → p := by intro k; (simp only [go_sem, bT, bh, bH, bu, Nat.reduceBEq, Nat.reduceAdd, Nat.reduceLeDiff, Nat.reduceEqDiff, Int.reduceAdd, Int.reduceBEq, Int.reduceBNe, reduceCtorEq, beq_self_eq_true, Bool.true_beq, Bool.false_beq]; repeat ((with_reducible refine ae0 ?_); simp only [go_sem, bT, bh, bH, bu, Nat.reduceBEq, Nat.reduceAdd, Nat.reduceLeDiff, Nat.reduceEqDiff, Int.reduceAdd, Int.reduceBEq, Int.reduceBNe, reduceCtorEq, beq_self_eq_true, Bool.true_beq, Bool.false_beq])); exact k.out) : p := e ⟨k⟩
end Go.Eng

set_option maxRecDepth 10000
namespace Go.Eng
structure GSpan where
 a : Int
 b : Int
deriving DecidableEq
def GSpan.enc (x : GSpan) : List Value := [.int .i32 x.a, .int .i32 x.b]
def GSpan.val (x : GSpan) : Value := .agg #[.int .i32 x.a, .int .i32 x.b]
theorem GSpan.cells (x : GSpan) : x.val.cells.toList = x.enc := rfl
structure GDesc where
 node : UInt8
 inc : UInt16
 age : UInt8
 filter : List GSpan
deriving DecidableEq
theorem aca {x y : GSpan} : (x.a == y.a && (x.b == y.b)) = decide (x = y) := by
 rw [Bool.eq_iff_iff]
 simp only [Bool.and_eq_true, beq_iff_eq, decide_eq_true_eq]
 cases x; cases y
 simp
attribute [go_sem] aca
theorem co (x y : UInt8) : ((x.toNat : Int) == (y.toNat : Int)) = decide (x = y) := by
 rw [Bool.eq_iff_iff]
 simp only [beq_iff_eq, decide_eq_true_eq]
 rw [← UInt8.toNat_inj]
 omega
theorem eX (x y : UInt16) : ((x.toNat : Int) == (y.toNat : Int)) = decide (x = y) := by
 rw [Bool.eq_iff_iff]
 simp only [beq_iff_eq, decide_eq_true_eq]
 rw [← UInt16.toNat_inj]
 omega
theorem rN (x y : UInt16) : ((x.toNat : Int) != (y.toNat : Int)) = !decide (x = y) := by rw [← eX]; rfl
theorem m_ (x : UInt16) : ((x.toNat : Int) == 0) = decide (x = 0) := eX x 0
theorem gw (x y : UInt8) : ((x.toNat : Int) < (y.toNat : Int)) ↔ x < y := by rw [UInt8.lt_iff_toNat_lt]; omega
theorem alx (x y : UInt8) : ((x.toNat : Int) ≤ (y.toNat : Int)) ↔ x ≤ y := by rw [UInt8.le_iff_toNat_le]; omega
theorem fR (x y : UInt16) : ((x.toNat : Int) < (y.toNat : Int)) ↔ x < y := by rw [UInt16.lt_iff_toNat_lt]; omega
end Go.Eng

set_option maxRecDepth 10000
namespace Go.Eng
def okS (s : GSpan) : Prop := -2147483648 ≤ s.a ∧ s.a ≤ 2147483647 ∧ -2147483648 ≤ s.b ∧ s.b ≤ 2147483647
def im (s : GSpan) : GSpan := if s.b < s.a then ⟨1, 0⟩ else s
def fP (s : GSpan) : Bool := decide (s.b < s.a)
def eB (x y : GSpan) : GSpan := ⟨if x.a < y.a then y.a else x.a, if y.b < x.b then y.b else x.b⟩
def afN (x y : GSpan) : Bool := fP y || (decide (x.a ≤ y.a) && decide (y.b ≤ x.b))
def sLen (s : GSpan) : Nat := if s.b < s.a then 0 else min (s.b - s.a + 1).toNat 4294967295
theorem tf (s : GSpan) : (im s = ⟨1, 0⟩) ↔ s.b < s.a := by
 unfold im
 split
 ·simp [*]
 ·constructor
  ·rintro rfl; simp_all
  ·intro h; contradiction
theorem lF (s : GSpan) : ((im s).a == 1 && ((im s).b == 0)) = fP s := by
 have := tf s
 unfold fP
 rw [Bool.eq_iff_iff]
 simp only [Bool.and_eq_true, beq_iff_eq, decide_eq_true_eq, ← this]
 constructor
 ·rintro ⟨h1, h2⟩; cases hs : im s; rw [hs] at h1 h2; simp_all
 ·intro h; rw [h]; exact ⟨rfl, rfl⟩
theorem tP {x y : GSpan} (hx : okS x) (hy : okS y) : okS (eB x y) := by
 obtain ⟨_, _, _, _⟩ := hx
 obtain ⟨_, _, _, _⟩ := hy
 unfold okS eB
 simp only
 omega
end Go.Eng
