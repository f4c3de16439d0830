/-
 Part 5 of the proof of Pj: the engine and the walks, in their order.
-/
import Derived.Test.YtlaefellhnkfbaaGreatPj4
import Derived.Laws.Cover3
set_option linter.unusedSimpArgs false
set_option linter.unusedVariables false
namespace Go.Eng
def oF : List Nat → List (Nat × Bool) → List (Nat × Bool)
 | [], r => r
 | i :: l, r => (i, false) :: oF l r
def oT (i : Nat) (r : List (Nat × Bool)) : List (Nat × Bool) := (i, true) :: r
theorem akn {r : List (Nat × Bool)} : oF [] r = r := rfl
theorem ai3 {i : Nat} {l : List Nat} {r : List (Nat × Bool)} : oF (i :: l) r = (i, false) :: oF l r := rfl
theorem alp {i : Nat} {r : List (Nat × Bool)} : oT i r = (i, true) :: r := rfl
attribute [go_sem] akn ai3 alp
section
variable {P : Program} {u0 u : World} {Q : Exit → S → World → Prop} {s : S} {K : S → World → Prop}
theorem zU : vc P u0 .skip Q s u = Q .normal s u := rfl
theorem ajW : vc P u0 .ret Q s u = Q .ret s u := rfl
theorem zT {id : Nat} : vc P u0 (.exit id) Q s u = Q (.exit id) s u := rfl
theorem mC {id : Nat} {l : List Oper} : vc P u0 (.region id l.toArray false) Q s u = kr P u0 l (Q .normal) l s u := rfl
theorem aiM {id : Nat} {l : List Oper} : vc P u0 (.region id l.toArray true) Q s u = zD P u0 l.toArray (Q .normal) s u := rfl
theorem akk {x y : Code} : vc P u0 (.seq x y) Q s u = vc P u0 x (ahj P u0 y Q) s u := rfl
def i7 (c : SV) (s : S) (u : World) (P : Program) (u0 : World) (x y : Code) (Q : Exit → S → World → Prop) : Prop :=
 match c with
 | .v (.bool t) => (t = true → vc P u0 x Q s u) ∧ (t = false → vc P u0 y Q s u)
 | _ => False
theorem zV {c : Operand} {x y : Code} : vc P u0 (.cond c x y) Q s u = i7 (s.sv c) s u P u0 x y Q := rfl
theorem oX {x y : Code} : i7 (.v (.bool true)) s u P u0 x y Q = vc P u0 x Q s u := by simp [i7]
theorem ni {x y : Code} : i7 (.v (.bool false)) s u P u0 x y Q = vc P u0 y Q s u := by simp [i7]
theorem adm {x y : Code} {t : Bool} : i7 (.v (.bool (!t))) s u P u0 x y Q = i7 (.v (.bool t)) s u P u0 y x Q := by
 cases t <;> simp [i7]
theorem uf {x y : Code} {p : Prop} [Decidable p] (h1 : p → vc P u0 x Q s u) (h2 : ¬ p → vc P u0 y Q s u) : i7 (.v (.bool (decide p))) s u P u0 x y Q :=
 ⟨fun h => h1 (of_decide_eq_true h), fun h => h2 (of_decide_eq_false h)⟩
theorem nU {x y : Code} {a b : Int} (h1 : a = b → vc P u0 x Q s u) (h2 : a ≠ b → vc P u0 y Q s u) : i7 (.v (.bool (a == b))) s u P u0 x y Q :=
 ⟨fun h => h1 (by simpa using h), fun h => h2 (by simpa using h)⟩
theorem aaa {x y : Code} {a b : Int} (h1 : a ≠ b → vc P u0 x Q s u) (h2 : a = b → vc P u0 y Q s u) : i7 (.v (.bool (a != b))) s u P u0 x y Q :=
 ⟨fun h => h1 (by simpa using h), fun h => h2 (by simpa using h)⟩
theorem ch {id : Nat} {x y : Code} : vc P u0 (.block id (.seq x y)) Q s u = vc P u0 (.seq x y) (dZ id Q) s u := rfl
theorem br {id i : Nat} {l : Array Oper} {d : Bool} : vc P u0 (.block id (.region i l d)) Q s u = vc P u0 (.region i l d) (dZ id Q) s u := by cases d <;> rfl
theorem bT {id : Nat} {c : Operand} {x y : Code} : vc P u0 (.block id (.cond c x y)) Q s u = vc P u0 (.cond c x y) (dZ id Q) s u := rfl
theorem bC {id j : Nat} {x : Code} : vc P u0 (.block id (.block j x)) Q s u = vc P u0 (.block j x) (dZ id Q) s u := rfl
theorem s9 {id : Nat} : vc P u0 (.block id .ret) Q s u = Q .ret s u := rfl
theorem qm {id : Nat} : vc P u0 (.block id .skip) Q s u = LeK (Q .normal) s u := rfl
theorem qh {id j : Nat} : vc P u0 (.block id (.exit j)) Q s u = dZ id Q (.exit j) s u := rfl
theorem qg {id : Nat} : dZ id Q .normal s u = LeK (Q .normal) s u := rfl
theorem xQ {id : Nat} : dZ id Q .ret s u = Q .ret s u := rfl
theorem wI {id j : Nat} : dZ id Q (.exit j) s u = bif j == id then LeK (Q .normal) s u else Q (.exit j) s u := rfl
theorem agB {K : S → World → Prop} (h : K s u) : LeK K s u := .inl h
theorem vN {y : Code} : ahj P u0 y Q .normal s u = vc P u0 y Q s u := rfl
theorem agT {y : Code} : ahj P u0 y Q .ret s u = Q .ret s u := rfl
theorem ab9 {y : Code} {j : Nat} : ahj P u0 y Q (.exit j) s u = Q (.exit j) s u := rfl
theorem qt {id : Nat} : ee id Q .normal s u = Q .normal s u := rfl
theorem xy {id : Nat} : ee id Q .ret s u = Q .ret s u := rfl
theorem nE {id j : Nat} : ee id Q (.exit j) s u = bif j == id then Q .normal s u else Q (.exit j) s u := rfl
theorem tT {γ : Type} {st : γ → S} {F : γ → World → Prop} {μ : γ → Nat} {g : γ} : um st F μ g Q .normal s u = ∃ g', (st g').le s ∧ F g' u ∧ μ g' < μ g := rfl
theorem adp {γ : Type} {st : γ → S} {F : γ → World → Prop} {μ : γ → Nat} {g : γ} : um st F μ g Q .ret s u = Q .ret s u := rfl
theorem xf {γ : Type} {st : γ → S} {F : γ → World → Prop} {μ : γ → Nat} {g : γ} {j : Nat} : um st F μ g Q (.exit j) s u = Q (.exit j) s u := rfl
theorem vQ {rs : List ResultVar} {Post : Value → World → Prop} : abq P rs Post .normal s u = ki Post (cq P s rs) u := rfl
theorem aeS {rs : List ResultVar} {Post : Value → World → Prop} : abq P rs Post .ret s u = ki Post (cq P s rs) u := rfl
theorem yw : cq P s [] = some (.tuple #[]) := rfl
theorem xP {x : ResultVar} : cq P s [x] = bJ P s x := rfl
def ajH (a b : Option Value) : Option Value :=
 match a, b with
 | some a, some b => some (.tuple #[a, b])
 | _, _ => none
def ajw (a b c : Option Value) : Option Value :=
 match a, b, c with
 | some a, some b, some c => some (.tuple #[a, b, c])
 | _, _, _ => none
def ajI (a b c d : Option Value) : Option Value :=
 match a, b, c, d with
 | some a, some b, some c, some d => some (.tuple #[a, b, c, d])
 | _, _, _, _ => none
theorem zr {x y : ResultVar} : cq P s [x, y] = ajH (bJ P s x) (bJ P s y) := rfl
theorem sG {x y z : ResultVar} : cq P s [x, y, z] = ajw (bJ P s x) (bJ P s y) (bJ P s z) := rfl
theorem vW {x y z t : ResultVar} : cq P s [x, y, z, t] = ajI (bJ P s x) (bJ P s y) (bJ P s z) (bJ P s t) := rfl
theorem xh {a b : Value} : ajH (some a) (some b) = some (.tuple #[a, b]) := rfl
theorem zi {a b c : Value} : ajw (some a) (some b) (some c) = some (.tuple #[a, b, c]) := rfl
theorem zl {a b c d : Value} : ajI (some a) (some b) (some c) (some d) = some (.tuple #[a, b, c, d]) := rfl
theorem wU {t : Nat} : bJ P s (.tmp t) = s.val (s.get t) := rfl
def aeG (ag : Bool) (n off : Nat) (l : Option Loc) : Option Value :=
 match l with
 | some l => if (n = 1 ∨ ag = true) ∧ off + n ≤ l.cells.length then some (ld ag n off l.cells) else none
 | none => none
def aj5 (s : S) (x : SV) (l : Option (Bool × Nat)) : Option Value :=
 match x, l with
 | .loc k off, some (ag, n) => aeG ag n off (s.find k)
 | _, _ => none
theorem wJ {t T : Nat} : bJ P s (.cell t T) = aj5 s (s.get t) (lay P T) := by
 simp only [bJ, aj5]
 generalize s.get t = x
 generalize lay P T = l
 cases x with
 | loc k off => cases l with
  | none => rfl
  | some q =>
   obtain ⟨ag, n⟩ := q
   simp only [aeG]
   cases s.find k <;> rfl
 | _ => rfl
theorem af7 {k off n : Nat} {ag : Bool} : aj5 s (.loc k off) (some (ag, n)) = aeG ag n off (s.find k) := rfl
theorem adS {off b : Nat} {cs : List Value} {T : TypeId} : aeG false 1 off (some ⟨b, cs, T⟩) = if off + 1 ≤ cs.length then some ((cs.drop off).headD undef) else none := by simp [aeG, ld]
theorem mv {all : List Oper} : kr P u0 all K [] s u = K s u := rfl
theorem iQ {all : List Oper} {o : Oper} {r : List Oper} : kr P u0 all K (o :: r) s u = vcG P false u0 all o (kr P u0 all K r) s u := rfl
theorem abn {all : List Oper} : iv P u0 all K [] s u = K s u := rfl
def alc (P : Program) (u0 : World) (all : List Oper) (K : S → World → Prop) (x : Bool) (r : List (Nat × Bool)) (s : S) (u : World) (o : Option Oper) : Prop :=
 match o with
 | some o => vcG P x u0 all o (iv P u0 all K r) s u
 | none => False
theorem wY {all : List Oper} {i : Nat} {x : Bool} {r : List (Nat × Bool)} : iv P u0 all K ((i, x) :: r) s u = alc P u0 all K x r s u (bg all i) := rfl
theorem ab0 {all : List Oper} {x : Bool} {r : List (Nat × Bool)} {o : Oper} : alc P u0 all K x r s u (some o) = vcG P x u0 all o (iv P u0 all K r) s u := rfl
theorem xR {all : List Oper} {ks : List Nat} : eY P u0 all ks K [] s u = K s u := rfl
def ajL (P : Program) (u0 : World) (all : List Oper) (ks : List Nat) (K : S → World → Prop) (r : List (Nat × Bool)) (d : Option Nat) (s0 s : S) (u : World) : Prop := keepL s0 s d ks ∧ eY P u0 all ks K r s u
def aln : Bool → Prop → Prop
 | true, p => p
 | false, _ => True
theorem aiY {p : Prop} : aln true p = p := rfl
theorem ajn {p : Prop} : aln false p = True := rfl
def ak_ (P : Program) (u0 : World) (all : List Oper) (ks : List Nat) (K : S → World → Prop) (x : Bool) (r : List (Nat × Bool)) (s : S) (u : World) (o : Option Oper) : Prop :=
 match o with
 | some o => yT ks o s ∧ (x = true → abu ks o s) ∧ vcG P x u0 all o (ajL P u0 all ks K r (jB o) s) s u
 | none => False
theorem wG {all : List Oper} {ks : List Nat} {i : Nat} {x : Bool} {r : List (Nat × Bool)} : eY P u0 all ks K ((i, x) :: r) s u = ak_ P u0 all ks K x r s u (bg all i) := rfl
theorem ae4 {all : List Oper} {ks : List Nat} {r : List (Nat × Bool)} {d : Option Nat} {s0 : S} : ajL P u0 all ks K r d s0 s u = (keepL s0 s d ks ∧ eY P u0 all ks K r s u) := rfl
theorem aeX {all : List Oper} : vcT P u0 all K .done s u = K s u := rfl
def agU (P : Program) (x : Bool) (u0 : World) (all : List Oper) (K : S → World → Prop) (t : OT) (s : S) (u : World) (o : Option Oper) : Prop :=
 match o with
 | some o => vcG P x u0 all o (vcT P u0 all K t) s u
 | none => False
theorem akr {all : List Oper} {i : Nat} {t : OT} : vcT P u0 all K (.fl i t) s u = agU P false u0 all K t s u (bg all i) := rfl
theorem aiR {all : List Oper} {i j : Nat} {x y : Bool} {t t' alt : OT} : vcT P u0 all K (.eff i x t (.eff j y t' alt)) s u = (agU P x u0 all K t s u (bg all i) ∧ vcT P u0 all K (.eff j y t' alt) s u) := rfl
theorem zf {all : List Oper} {x : Bool} {t : OT} {o : Oper} : agU P x u0 all K t s u (some o) = vcG P x u0 all o (vcT P u0 all K t) s u := rfl
theorem uH {o : Oper} {r : List Oper} : bg (o :: r) 0 = some o := rfl
theorem u5 {o : Oper} {r : List Oper} {j : Nat} : bg (o :: r) (j + 1) = bg r j := rfl
theorem zp {o : Oper} {r : List Oper} : ix (o :: r) 0 = o.dst := rfl
theorem xW {o : Oper} {r : List Oper} {j : Nat} : ix (o :: r) (j + 1) = ix r j := rfl
def zF (want : Bool) (A B : Prop) (c : SV) : Prop :=
 match c with
 | .v (.bool c) => (c = want → A) ∧ (c = !want → B)
 | .v (.tuple _) => B
 | _ => False
def yb (P : Program) (x : Bool) (u0 : World) (o : Oper) (K : S → World → Prop) (s : S) (u : World) (want : Bool) (d : Option Nat) : Prop :=
 match d with
 | some d => zF want (bA P x u0 o K s u) (K (s.put o.dst (.v undef)) u) (s.get d)
 | none => False
section
variable {x : Bool} {all : List Oper} {d : Option Tmp} {op : Op} {ty : TypeId} {pos : String} {aft : Array Edge}
theorem lK : vcG P x u0 all ⟨d, op, ty, pos, aft, none⟩ K s u = bA P x u0 ⟨d, op, ty, pos, aft, none⟩ K s u := rfl
theorem ad4 {j : Nat} {b : Bool} : vcG P x u0 all ⟨d, op, ty, pos, aft, some (j, b)⟩ K s u = yb P x u0 ⟨d, op, ty, pos, aft, some (j, b)⟩ K s u b (ix all j) := by
 unfold vcG yb zF
 dsimp only
 cases ix all j with
 | none => rfl
 | some e =>
  cases s.get e with
  | v y => cases y <;> rfl
  | _ => rfl
end
def oQ (P : Program) (x : Bool) (u0 : World) (o : Oper) (K : S → World → Prop) (s : S) (u : World) (want : Bool) (c : SV) : Prop :=
 zF want (bA P x u0 o K s u) (K (s.put o.dst (.v undef)) u) c
section
variable {x : Bool} {o : Oper} {b : Bool}
theorem wO {e : Nat} : yb P x u0 o K s u b (some e) = oQ P x u0 o K s u b (s.get e) := rfl
theorem sN : oQ P x u0 o K s u b (.v undef) = K (s.put o.dst (.v undef)) u := rfl
theorem vM {c : Bool} (h1 : c = b → bA P x u0 o K s u) (h2 : c = !b → K (s.put o.dst (.v undef)) u) : oQ P x u0 o K s u b (.v (.bool c)) := ⟨h1, h2⟩
theorem mh {c : Bool} (h : c = b) (h1 : bA P x u0 o K s u) : oQ P x u0 o K s u b (.v (.bool c)) := by subst h; exact ⟨fun _ => h1, fun h => by cases c <;> cases h⟩
theorem pD {c : Bool} (h : c = !b) (h1 : K (s.put o.dst (.v undef)) u) : oQ P x u0 o K s u b (.v (.bool c)) := by subst h; exact ⟨(fun h => by cases b <;> cases h), fun _ => h1⟩
end
section
variable {x : Bool} {d : Option Tmp} {ty : TypeId} {pos : String} {aft : Array Edge} {g : Option (Nat × Bool)}
theorem zS {y : Operand} : bA P x u0 ⟨d, .move y, ty, pos, aft, g⟩ K s u = K (s.put d (s.sv y)) u := rfl
theorem adi {y : Operand} : bA P x u0 ⟨d, .assign y, ty, pos, aft, g⟩ K s u = K (s.put d (s.sv y)) u := rfl
def ajx (K : S → World → Prop) (s : S) (d : Option Tmp) (u : World) (y z : SV) (c : SV) : Prop :=
 match c with
 | .v (.bool t) => K (s.put d (bif t then y else z)) u
 | _ => False
theorem aik {c y z : Operand} : bA P x u0 ⟨d, .pick c y z, ty, pos, aft, g⟩ K s u = ajx K s d u (s.sv y) (s.sv z) (s.sv c) := rfl
theorem ah6 {y z : SV} {t : Bool} : ajx K s d u y z (.v (.bool t)) = K (s.put d (bif t then y else z)) u := rfl
def qQ (K : Value → Prop) (ag : Bool) (n off : Nat) (l : Option Loc) : Prop :=
 match l with
 | some l => (n = 1 ∨ ag = true) ∧ off + n ≤ l.cells.length ∧ K (ld ag n off l.cells)
 | none => False
def aaC (K : Value → Prop) (s : S) (u : World) (y : SV) (l : Option (Bool × Nat)) : Prop :=
 match l with
 | some (ag, n) =>
  match y with
  | .loc k off => qQ K ag n off (s.find k)
  | .elt sv sz i off => aac u sv sz i ag n off K
  | .v (.pointer (some a)) => afC u a ag n K
  | _ => False
 | none => False
theorem ahO {T : TypeId} {y : Operand} : bA P x u0 ⟨d, .load T y, ty, pos, aft, g⟩ K s u = aaC (eh s d u K) s u (s.sv y) (lay P T) := rfl
theorem abJ {Kv : Value → Prop} {k off n : Nat} {ag : Bool} : aaC Kv s u (.loc k off) (some (ag, n)) = qQ Kv ag n off (s.find k) := rfl
theorem adl {Kv : Value → Prop} {sv : Value} {sz off n : Nat} {i : Int} {ag : Bool} : aaC Kv s u (.elt sv sz i off) (some (ag, n)) = aac u sv sz i ag n off Kv := rfl
theorem acf {Kv : Value → Prop} {a : Addr} {n : Nat} {ag : Bool} : aaC Kv s u (.v (.pointer (some a))) (some (ag, n)) = afC u a ag n Kv := rfl
theorem acJ {Kv : Value → Prop} {n off b : Nat} {cs : List Value} {T : TypeId} : qQ Kv true n off (some ⟨b, cs, T⟩) = (off + n ≤ cs.length ∧ Kv (.agg ((cs.drop off).take n).toArray)) := by
 simp [qQ, ld]
theorem adg {Kv : Value → Prop} {off b : Nat} {cs : List Value} {T : TypeId} : qQ Kv false 1 off (some ⟨b, cs, T⟩) = (off + 1 ≤ cs.length ∧ Kv ((cs.drop off).headD undef)) := by
 simp [qQ, ld]
theorem tE {r : Value} : eh s d u K r = K (s.put d (.v r)) u := rfl
theorem ajj {r : Value} : d5 s d K r u = K (s.put d (.v r)) u := rfl
theorem ag9 : i3 s d K u = K (s.put d (.v undef)) u := rfl
def ai6 (K : S → World → Prop) (s : S) (d : Option Tmp) (u : World) (y : SV) : Prop :=
 match y with
 | .loc k off => K (s.put d (.loc k off)) u
 | .elt sv sz i off => K (s.put d (.elt sv sz i off)) u
 | .v (.pointer (some a)) => K (s.put d (.v (.pointer (some a)))) u
 | _ => False
theorem uJ {y : Operand} : bA P x u0 ⟨d, .nilCheck y, ty, pos, aft, g⟩ K s u = ai6 K s d u (s.sv y) := rfl
theorem aex {k off : Nat} : ai6 K s d u (.loc k off) = K (s.put d (.loc k off)) u := rfl
theorem afi {sv : Value} {sz : Nat} {i : Int} {off : Nat} : ai6 K s d u (.elt sv sz i off) = K (s.put d (.elt sv sz i off)) u := rfl
theorem aec {a : Addr} : ai6 K s d u (.v (.pointer (some a))) = K (s.put d (.v (.pointer (some a)))) u := rfl
def alq (P : Program) (op : BinOp) (T : TypeId) (y z : Operand) (Kv : Value → Prop) (a b : SV) : Prop :=
 match a, b with
 | .v a, .v b => AtPure P (bq op T y z a b) Kv
 | _, _ => False
theorem yV {op : BinOp} {T t2 : TypeId} {y z : Operand} : bA P x u0 ⟨d, .binOp op T y z t2, ty, pos, aft, g⟩ K s u = alq P op T y z (eh s d u K) (s.sv y) (s.sv z) := rfl
theorem yo {op : BinOp} {T : TypeId} {y z : Operand} {Kv : Value → Prop} {a b : Value} : alq P op T y z Kv (.v a) (.v b) = AtPure P (bq op T y z a b) Kv := rfl
def UnK (P : Program) (op : UnOp) (Kv : Value → Prop) (a : SV) : Prop :=
 match a with
 | .v a => AtPure P (iUn op a) Kv
 | _ => False
theorem alm {op : UnOp} {T : TypeId} {y : Operand} : bA P x u0 ⟨d, .unOp op T y, ty, pos, aft, g⟩ K s u = UnK P op (eh s d u K) (s.sv y) := rfl
theorem ali {op : UnOp} {Kv : Value → Prop} {a : Value} : UnK P op Kv (.v a) = AtPure P (iUn op a) Kv := rfl
def aeM (P : Program) (x : Bool) (u0 : World) (src dst : TypeId) (s : S) (d : Option Tmp) (K : S → World → Prop) (u : World) (a : SV) (same : Bool) : Prop :=
 match a with
 | .v a => bif same then AtEff x P (dx src dst a) u0 u (d5 s d K) else AtRead P (dx src dst a) u (eh s d u K)
 | _ => False
theorem xT {src dst : TypeId} {y : Operand} : bA P x u0 ⟨d, .convert src dst y, ty, pos, aft, g⟩ K s u = aeM P x u0 src dst s d K u (s.sv y) (src == dst) := rfl
theorem afR {src dst : TypeId} {a : Value} : aeM P x u0 src dst s d K u (.v a) false = AtRead P (dx src dst a) u (eh s d u K) := rfl
theorem aeJ {src dst : TypeId} {a : Value} : aeM P x u0 src dst s d K u (.v a) true = AtEff x P (dx src dst a) u0 u (d5 s d K) := rfl
theorem wv {fn : Fn} {first captured : List Operand} : bA P x u0 ⟨d, .makeFunc fn first.toArray captured.toArray, ty, pos, aft, g⟩ K s u =
  fb u0 (first ++ captured) s u (aak K d fn first.length) := rfl
theorem ag3 {fn : Fn} {n : Nat} {vs : List Value} : aak K d fn n vs s u = K (s.put d (.v (.func fn (vs.take n).toArray (vs.drop n).toArray))) u := rfl
def afL (P : Program) (T : TypeId) (Kv : Value → Prop) (vs : Option (List (Nat × Value))) : Prop :=
 match vs with
 | some vs => AtPure P (gV T vs.toArray) Kv
 | none => False
theorem agn {T : TypeId} {ps : List (Nat × Operand)} : bA P x u0 ⟨d, .build T ps.toArray, ty, pos, aft, g⟩ K s u = afL P T (eh s d u K) (iu s ps) := rfl
theorem uT {T : TypeId} {Kv : Value → Prop} {vs : List (Nat × Value)} : afL P T Kv (some vs) = AtPure P (gV T vs.toArray) Kv := rfl
def adD (P : Program) (T : TypeId) (Kv : Value → Prop) (a : SV) (l h m : Option (Option Value)) : Prop :=
 match a, l, h, m with
 | .v a, some l, some h, some m => AtPure P (bM T a l h m) Kv
 | _, _, _, _ => False
theorem aeA {T : TypeId} {y : Operand} {lo hi mx : Option Operand} : bA P x u0 ⟨d, .slice T y lo hi mx, ty, pos, aft, g⟩ K s u =
  adD P T (eh s d u K) (s.sv y) (j7 s lo) (j7 s hi) (j7 s mx) := rfl
theorem agP {T : TypeId} {Kv : Value → Prop} {a : Value} {l h m : Option Value} : adD P T Kv (.v a) (some l) (some h) (some m) = AtPure P (bM T a l h m) Kv := rfl
def OvK (a : SV) : Option (Option Value) :=
 match a with
 | .v a => some (some a)
 | _ => none
theorem ac5 : j7 s none = some none := rfl
theorem adb {y : Operand} : j7 s (some y) = OvK (s.sv y) := rfl
theorem alJ {a : Value} : OvK (.v a) = some (some a) := rfl
def tZ (d : Option Tmp) (K : S → World → Prop) (s : S) (u : World) (y : SV) (e : Option Nat) : Prop :=
 match e with
 | some e =>
  match y with
  | .loc k off => K (s.put d (.loc k (off + e))) u
  | .elt sv sz i off => K (s.put d (.elt sv sz i (off + e))) u
  | .v (.pointer (some a)) => K (s.put d (.v (.pointer (some (a.add e))))) u
  | _ => False
 | none => False
theorem sK {T : TypeId} {y : Operand} {f : Nat} : bA P x u0 ⟨d, .fieldAddr T y f, ty, pos, aft, g⟩ K s u = tZ d K s u (s.sv y) (ba P T f) := rfl
theorem yG {k off e : Nat} : tZ d K s u (.loc k off) (some e) = K (s.put d (.loc k (off + e))) u := rfl
theorem yh {sv : Value} {sz off e : Nat} {i : Int} : tZ d K s u (.elt sv sz i off) (some e) = K (s.put d (.elt sv sz i (off + e))) u := rfl
theorem xU {a : Addr} {e : Nat} : tZ d K s u (.v (.pointer (some a))) (some e) = K (s.put d (.v (.pointer (some (a.add e))))) u := rfl
def alF (d : Option Tmp) (K : S → World → Prop) (s : S) (u : World) (y : SV) (e : Option (Nat × Bool × Nat)) : Prop :=
 match y with
 | .v (.agg cs) => match e with
  | some (off, ag, n) => (n = 1 ∨ ag = true) ∧ off + n ≤ cs.toList.length ∧ K (s.put d (.v (ld ag n off cs.toList))) u
  | none => False
 | _ => False
theorem aeL {T : TypeId} {y : Operand} {f : Nat} : bA P x u0 ⟨d, .field T y f, ty, pos, aft, g⟩ K s u = alF d K s u (s.sv y) (yI P T f) := rfl
def alj (as : Option (Nat × Nat)) (d : Option Tmp) (K : S → World → Prop) (s : S) (u : World) (y i : SV) (e : Option Nat) : Prop :=
 match e, y, i with
 | some sz, .v (.slice p n c), .v (.int _ i) => agZ p n i (K (s.put d (.elt (.slice p n c) sz i 0)) u)
 | none, .loc k off, .v (.int _ i) => abb d K s u k off i as
 | _, _, _ => False
theorem s_ {T : TypeId} {y z : Operand} : bA P x u0 ⟨d, .indexAddr T y z, ty, pos, aft, g⟩ K s u = alj (asz P T) d K s u (s.sv y) (s.sv z) (esz P T) := rfl
theorem akA {p : Option Addr} {n c sz : Nat} {k : IntKind} {i : Int} {as : Option (Nat × Nat)} : alj as d K s u (.v (.slice p n c)) (.v (.int k i)) (some sz) = agZ p n i (K (s.put d (.elt (.slice p n c) sz i 0)) u) := rfl
def xA (P : Program) (e : Value → Value → Sem Value) (u : World) (Kv : Value → Prop) (y z : SV) : Prop :=
 match y, z with
 | .v a, .v b => AtRead P (e a b) u Kv
 | _, _ => False
theorem af0 {T : TypeId} {y z : Operand} : bA P x u0 ⟨d, .index T y z, ty, pos, aft, g⟩ K s u = xA P (gn T) u (eh s d u K) (s.sv y) (s.sv z) := rfl
theorem ab6 {T : TypeId} {y z : Operand} {ok : Bool} : bA P x u0 ⟨d, .lookup T y z ok, ty, pos, aft, g⟩ K s u = xA P (fun a b => kh T a b ok) u (eh s d u K) (s.sv y) (s.sv z) := rfl
theorem afg {e : Value → Value → Sem Value} {Kv : Value → Prop} {a b : Value} : xA P e u Kv (.v a) (.v b) = AtRead P (e a b) u Kv := rfl
def xo : List Value → Nat → Option Value
 | [], _ => none
 | v :: _, 0 => some v
 | _ :: r, j + 1 => xo r j
theorem ahB : ∀ (l : List Value) (j : Nat), xo l j = l[j]? := by
 intro l
 induction l with
 | nil => intro j; rfl
 | cons o r ih => intro j; cases j with
  | zero => rfl
  | succ j => simpa [xo] using ih j
def ajJ (d : Option Tmp) (K : S → World → Prop) (s : S) (u : World) (r : Option Value) : Prop :=
 match r with
 | some r => K (s.put d (.v r)) u
 | none => False
def ajA (d : Option Tmp) (K : S → World → Prop) (s : S) (u : World) (i : Nat) (y : SV) : Prop :=
 match y with
 | .v (.tuple vs) => match vs.toList[i]? with
  | some r => K (s.put d (.v r)) u
  | none => False
 | _ => False
theorem yZ {y : Operand} {i : Nat} : bA P x u0 ⟨d, .extract y i, ty, pos, aft, g⟩ K s u = ajA d K s u i (s.sv y) := rfl
theorem aio {vs : List Value} {i : Nat} : ajA d K s u i (.v (.tuple vs.toArray)) = ajJ d K s u (xo vs i) := by
 rw [ahB]; rfl
theorem xj {r : Value} : ajJ d K s u (some r) = K (s.put d (.v r)) u := rfl
theorem ac7 {v : Value} {r : List Value} : xo (v :: r) 0 = some v := rfl
theorem ac9 {v : Value} {r : List Value} {j : Nat} : xo (v :: r) (j + 1) = xo r j := rfl
def nI (K : S → World → Prop) (s : S) (d : Nat) (cs : List Value) (T : TypeId) (u : World) (b : Nat) : Prop := K (addLoc s d b cs T) u
def agO (d : Option Tmp) (K : S → World → Prop) (s : S) (u : World) (T : TypeId) (cs : Option (List Value)) : Prop :=
 match cs, d with
 | some cs, some d => s.find d = none ∧ ∀ b, nI K s d cs T u b
 | _, _ => False
theorem afv {T : TypeId} : bA P x u0 ⟨d, .alloc T, ty, pos, aft, g⟩ K s u = agO d K s u T (du P T) := rfl
theorem ug {T : TypeId} {cs : List Value} {e : Nat} : agO (some e) K s u T (some cs) = (s.find e = none ∧ ∀ b, nI K s e cs T u b) := rfl
def sS (d : Option Tmp) (K : S → World → Prop) (s : S) (u : World) (T : TypeId) (y : SV) : Prop :=
 match y, d with
 | .v a, some d => s.find d = none ∧ ∀ b, nI K s d a.cells.toList T u b
 | _, _ => False
theorem ajZ {T : TypeId} {y : Operand} : bA P x u0 ⟨d, .box T y, ty, pos, aft, g⟩ K s u = sS d K s u T (s.sv y) := rfl
theorem aeR {T : TypeId} {cs : List Value} {e : Nat} : sS (some e) K s u T (.v (.agg cs.toArray)) = (s.find e = none ∧ ∀ b, nI K s e cs T u b) := rfl
theorem aei {T : TypeId} {k : IntKind} {n : Int} {e : Nat} : sS (some e) K s u T (.v (.int k n)) = (s.find e = none ∧ ∀ b, nI K s e [.int k n] T u b) := rfl
theorem abc {T : TypeId} {n : Bool} {e : Nat} : sS (some e) K s u T (.v (.bool n)) = (s.find e = none ∧ ∀ b, nI K s e [.bool n] T u b) := rfl
theorem xG {T : TypeId} {p : Option Addr} {n c : Nat} {e : Nat} : sS (some e) K s u T (.v (.slice p n c)) = (s.find e = none ∧ ∀ b, nI K s e [.slice p n c] T u b) := rfl
theorem vu {T : TypeId} {b : ByteArray} {e : Nat} : sS (some e) K s u T (.v (.string b)) = (s.find e = none ∧ ∀ c, nI K s e [.string b] T u c) := rfl
theorem ahb {ρ : List (Nat × SV)} {σ : List (Nat × Loc)} {e b : Nat} {cs : List Value} {T : TypeId} : nI K ⟨ρ, σ⟩ e cs T u b = K ⟨(e, .loc e 0) :: ρ, (e, ⟨b, cs, T⟩) :: σ⟩ u := rfl
def aiT (d : Option Tmp) (K : S → World → Prop) (s : S) (u : World) (k off : Nat) (vs : List Value) (l : Option Loc) (e : Option (Bool × Nat)) : Prop :=
 match l, e with
 | some l, some (_, n) => vs.length = n ∧ off + n ≤ l.cells.length ∧ bn vs = true ∧ K (setLoc s k l (splice l.cells off vs) d) u
 | _, _ => False
def agH (P : Program) (b : Bool) (u0 : World) (T : TypeId) (d : Option Tmp) (K : S → World → Prop) (s : S) (u : World) (y z : SV) : Prop :=
 match z with
 | .v a =>
  match y with
  | .loc k off => aiT d K s u k off a.cells.toList (s.find k) (lay P T)
  | .v p => AtDo b P (d4 T p a) u0 u (i3 s d K)
  | .elt sv sz i off => match bo sv sz i off with
   | some ad => AtDo b P (d4 T (.pointer (some ad)) a) u0 u (i3 s d K)
   | none => False
  | .unk => False
 | _ => False
theorem ad5 {T : TypeId} {y z : Operand} : bA P x u0 ⟨d, .store T y z, ty, pos, aft, g⟩ K s u = agH P x u0 T d K s u (s.sv y) (s.sv z) := by
 show eU P x u0 T (s.sv y) (s.sv z) d K s u = _
 unfold eU agH aiT
 cases s.sv z with
 | v a =>
  cases s.sv y with
  | loc k off => simp only []; cases s.find k <;> cases lay P T <;> rfl
  | _ => rfl
 | _ => rfl
theorem agN {T : TypeId} {k off : Nat} {a : Value} : agH P x u0 T d K s u (.loc k off) (.v a) = aiT d K s u k off a.cells.toList (s.find k) (lay P T) := rfl
theorem acU {ρ : List (Nat × SV)} {σ : List (Nat × Loc)} {k off n b : Nat} {cs vs : List Value} {T : TypeId} {ag : Bool} :
  aiT none K ⟨ρ, σ⟩ u k off vs (some ⟨b, cs, T⟩) (some (ag, n)) = (vs.length = n ∧ off + n ≤ cs.length ∧ bn vs = true ∧ K ⟨ρ, (k, ⟨b, splice cs off vs, T⟩) :: σ⟩ u) := rfl
theorem afd {T : TypeId} {p a : Value} : agH P x u0 T d K s u (.v p) (.v a) = AtDo x P (d4 T p a) u0 u (i3 s d K) := rfl
def o_ (b : Bool) (P : Program) (u0 : World) (T : TypeId) (sv : Value) (sz : Nat) (i : Int) (off : Nat) (a : Value) (u : World) (K : World → Prop) : Prop :=
 match bo sv sz i off with
 | some ad => AtDo b P (d4 T (.pointer (some ad)) a) u0 u K
 | none => False
theorem agX {T : TypeId} {sv a : Value} {sz off : Nat} {i : Int} : agH P x u0 T d K s u (.elt sv sz i off) (.v a) = o_ x P u0 T sv sz i off a u (i3 s d K) := rfl
def ak3 (P : Program) (x : Bool) (u0 u : World) (Ke : Value → World → Prop) (e : List (Nat × Value) → Sem Value) (vs : Option (List (Nat × Value))) : Prop :=
 match vs with
 | some vs => AtEff x P (e vs) u0 u Ke
 | none => False
theorem qx {T : TypeId} {n : Nat} {ps : List (Nat × Operand)} : bA P x u0 ⟨d, .buildSlice T n ps.toArray, ty, pos, aft, g⟩ K s u =
  ak3 P x u0 u (d5 s d K) (fun vs => mE T n vs.toArray) (iu s ps) := rfl
theorem abg {Ke : Value → World → Prop} {e : List (Nat × Value) → Sem Value} {vs : List (Nat × Value)} : ak3 P x u0 u Ke e (some vs) = AtEff x P (e vs) u0 u Ke := rfl
def ae7 (P : Program) (x : Bool) (u0 u : World) (Ke : Value → World → Prop) (e : Value → Value → Sem Value) (y z : SV) : Prop :=
 match y, z with
 | .v a, .v b => AtEff x P (e a b) u0 u Ke
 | _, _ => False
theorem sX {T : TypeId} {y z : Operand} : bA P x u0 ⟨d, .makeSlice T y z, ty, pos, aft, g⟩ K s u = ae7 P x u0 u (d5 s d K) (kj T) (s.sv y) (s.sv z) := rfl
theorem vY {T : TypeId} {y z : Operand} : bA P x u0 ⟨d, .mapEntry T y z, ty, pos, aft, g⟩ K s u = ae7 P x u0 u (d5 s d K) (ud T) (s.sv y) (s.sv z) := rfl
theorem ahp {Ke : Value → World → Prop} {e : Value → Value → Sem Value} {a b : Value} : ae7 P x u0 u Ke e (.v a) (.v b) = AtEff x P (e a b) u0 u Ke := rfl
def alv (P : Program) (x : Bool) (u0 u : World) (Ke : Value → World → Prop) (e : Option Value → Sem Value) (y : Option (Option Value)) : Prop :=
 match y with
 | some a => AtEff x P (e a) u0 u Ke
 | none => False
theorem yE {T : TypeId} {r : Option Operand} : bA P x u0 ⟨d, .makeMap T r, ty, pos, aft, g⟩ K s u = alv P x u0 u (d5 s d K) (qi T) (j7 s r) := rfl
theorem abk {Ke : Value → World → Prop} {e : Option Value → Sem Value} {a : Option Value} : alv P x u0 u Ke e (some a) = AtEff x P (e a) u0 u Ke := rfl
def ai8 (P : Program) (x : Bool) (u0 u : World) (Kw : World → Prop) (e : Value → Value → Value → Sem Unit) (y z t : SV) : Prop :=
 match y, z, t with
 | .v a, .v b, .v c => AtDo x P (e a b c) u0 u Kw
 | _, _, _ => False
theorem tv {T : TypeId} {y z t : Operand} : bA P x u0 ⟨d, .mapUpdate T y z t, ty, pos, aft, g⟩ K s u = ai8 P x u0 u (i3 s d K) (mD T) (s.sv y) (s.sv z) (s.sv t) := rfl
theorem acs {T : TypeId} {y z t : Operand} : bA P x u0 ⟨d, .insert T y z t, ty, pos, aft, g⟩ K s u = ai8 P x u0 u (i3 s d K) (mD T) (s.sv y) (s.sv z) (s.sv t) := rfl
theorem qn {T : TypeId} {y z t : Operand} : bA P x u0 ⟨d, .entryStore T y z t, ty, pos, aft, g⟩ K s u = ai8 P x u0 u (i3 s d K) (m8 T) (s.sv y) (s.sv z) (s.sv t) := rfl
theorem ajV {Kw : World → Prop} {e : Value → Value → Value → Sem Unit} {a b c : Value} : ai8 P x u0 u Kw e (.v a) (.v b) (.v c) = AtDo x P (e a b c) u0 u Kw := rfl
def afp (P : Program) (u : World) (Kv : Value → Prop) (e : List Value → Sem Value) (vs : Option (List Value)) : Prop :=
 match vs with
 | some vs => AtRead P (e vs) u Kv
 | none => False
def aeh (P : Program) (x : Bool) (u0 u : World) (Ke : Value → World → Prop) (e : List Value → Sem Value) (vs : Option (List Value)) : Prop :=
 match vs with
 | some vs => AtEff x P (e vs) u0 u Ke
 | none => False
theorem yJ {Kv : Value → Prop} {e : List Value → Sem Value} {vs : List Value} : afp P u Kv e (some vs) = AtRead P (e vs) u Kv := rfl
theorem aa7 {Ke : Value → World → Prop} {e : List Value → Sem Value} {vs : List Value} : aeh P x u0 u Ke e (some vs) = AtEff x P (e vs) u0 u Ke := rfl
variable {args : List Operand} {tys : Array TypeId}
def agd (P : Program) (Kv : Value → Prop) (e : List Value → Sem Value) (vs : Option (List Value)) : Prop :=
 match vs with
 | some vs => AtPure P (e vs) Kv
 | none => False
theorem yv {Kv : Value → Prop} {e : List Value → Sem Value} {vs : List Value} : agd P Kv e (some vs) = AtPure P (e vs) Kv := rfl
theorem akC : bA P x u0 ⟨d, .call ⟨.builtin .len, args.toArray, tys⟩, ty, pos, aft, g⟩ K s u = afp P u (eh s d u K) (fun vs => mK tys ty vs.toArray) (vals s args) := rfl
theorem akX : bA P x u0 ⟨d, .call ⟨.builtin .cap, args.toArray, tys⟩, ty, pos, aft, g⟩ K s u = afp P u (eh s d u K) (fun vs => oS tys ty vs.toArray) (vals s args) := rfl
theorem akY : bA P x u0 ⟨d, .call ⟨.builtin .min, args.toArray, tys⟩, ty, pos, aft, g⟩ K s u = agd P (eh s d u K) (fun vs => oP tys ty vs.toArray) (vals s args) := rfl
theorem aj4 : bA P x u0 ⟨d, .call ⟨.builtin .max, args.toArray, tys⟩, ty, pos, aft, g⟩ K s u = agd P (eh s d u K) (fun vs => pQ tys ty vs.toArray) (vals s args) := rfl
theorem ada : bA P x u0 ⟨d, .call ⟨.builtin .append, args.toArray, tys⟩, ty, pos, aft, g⟩ K s u = aeh P x u0 u (d5 s d K) (fun vs => gY tys ty vs.toArray) (vals s args) := rfl
theorem ah9 : bA P x u0 ⟨d, .call ⟨.builtin .copy, args.toArray, tys⟩, ty, pos, aft, g⟩ K s u = aeh P x u0 u (d5 s d K) (fun vs => il tys ty vs.toArray) (vals s args) := rfl
theorem aca : bA P x u0 ⟨d, .call ⟨.builtin .delete, args.toArray, tys⟩, ty, pos, aft, g⟩ K s u = aeh P x u0 u (d5 s d K) (fun vs => vX tys ty vs.toArray) (vals s args) := rfl
theorem adK : bA P x u0 ⟨d, .call ⟨.builtin .clear, args.toArray, tys⟩, ty, pos, aft, g⟩ K s u = aeh P x u0 u (d5 s d K) (fun vs => p8 tys ty vs.toArray) (vals s args) := rfl
def ajm (P : Program) (x : Bool) (u0 : World) (args : List Operand) (d : Option Tmp) (K : S → World → Prop) (s : S) (u : World) (f : SV) : Prop :=
 match f with
 | .v (.func (.func g) first captured) => fb u0 args s u (qR x P u0 g first.toList captured.toList K d)
 | .v fv => fb u0 args s u (p9 x P u0 fv K d)
 | _ => False
theorem aiS {f : Operand} : bA P x u0 ⟨d, .call ⟨.value f, args.toArray, tys⟩, ty, pos, aft, g⟩ K s u = ajm P x u0 args d K s u (s.sv f) := by
 show iR P x u0 ⟨.value f, args.toArray, tys⟩ ty d K s u = _
 unfold iR ajm
 simp only []
 cases s.sv f with
 | v y => cases y with
  | func fn first captured => cases fn <;> rfl
  | _ => rfl
 | _ => rfl
theorem ab4 {f : FuncId} {first captured : List Value} : ajm P x u0 args d K s u (.v (.func (.func f) first.toArray captured.toArray)) = fb u0 args s u (qR x P u0 f first captured K d) := rfl
theorem afD {f : FuncId} {first captured vs : List Value} : qR x P u0 f first captured K d vs s u = AtCall x P f (first ++ vs ++ captured) u0 u (d5 s d K) := rfl
end
theorem mu {ρ : List (Nat × SV)} {σ : List (Nat × Loc)} {t : Nat} : (S.mk ρ σ).sv (.tmp t) = (lk ρ t).getD .unk := rfl
theorem wq {v : Value} : s.sv (.const v) = .v v := rfl
theorem aha {f : Nat} : s.sv (.func f) = .v (.func (.func f) #[] #[]) := rfl
theorem aj9 {ρ : List (Nat × SV)} {σ : List (Nat × Loc)} {t : Nat} : (S.mk ρ σ).get t = (lk ρ t).getD .unk := rfl
theorem ah7 {ρ : List (Nat × SV)} {σ : List (Nat × Loc)} {k : Nat} : (S.mk ρ σ).find k = lk σ k := rfl
theorem lv {ρ : List (Nat × SV)} {σ : List (Nat × Loc)} {d : Nat} {y : SV} : (S.mk ρ σ).put (some d) y = ⟨(d, y) :: ρ, σ⟩ := rfl
theorem ad0 {y : SV} : s.put none y = s := rfl
theorem akz {α : Type} {t : Nat} : lk ([] : List (Nat × α)) t = none := rfl
theorem tD {α : Type} {t : Nat} {y : α} {r : List (Nat × α)} : lk ((t, y) :: r) t = some y := aq
theorem ajf {α : Type} {k t : Nat} {y : α} {r : List (Nat × α)} (h : (k == t) = false) : lk ((k, y) :: r) t = lk r t := aj (by simpa using h)
theorem alC {y : Value} : s.val (.v y) = some y := rfl
theorem aek : vals s [] = some [] := rfl
def VsK (a : SV) (r : Option (List Value)) : Option (List Value) :=
 match a with
 | .v a => match r with
  | some vs => some (a :: vs)
  | none => none
 | _ => none
theorem acp {y : Operand} {r : List Operand} : vals s (y :: r) = VsK (s.sv y) (vals s r) := rfl
theorem alk {a : Value} {vs : List Value} : VsK (.v a) (some vs) = some (a :: vs) := rfl
theorem aby : iu s [] = some [] := rfl
def PsK (i : Nat) (a : SV) (r : Option (List (Nat × Value))) : Option (List (Nat × Value)) :=
 match a with
 | .v a => match r with
  | some vs => some ((i, a) :: vs)
  | none => none
 | _ => none
theorem yx {i : Nat} {y : Operand} {r : List (Nat × Operand)} : iu s ((i, y) :: r) = PsK i (s.sv y) (iu s r) := rfl
theorem alW {i : Nat} {a : Value} {vs : List (Nat × Value)} : PsK i (.v a) (some vs) = some ((i, a) :: vs) := rfl
theorem ae_ {Kp : List Value → S → World → Prop} : fb u0 [] s u Kp = Kp [] s u := rfl
def ahM (u0 : World) (k off : Nat) (r : List Operand) (s : S) (u : World) (Kp : List Value → S → World → Prop) (l : Option Loc) : Prop :=
 match l with
 | some l => ∀ u', Sub u u' → Fresh u l.b → Fresh u0 l.b → u'.heap[l.b]? = some (.cells l.cells.toArray l.T (0, 0)) → (∀ b', b' ≠ l.b → Fresh u b' → Fresh u' b') →
   fb u0 r (s.pub k l.b) u' (pc (.pointer (some ⟨l.b, off, none⟩)) Kp)
 | none => False
def ain (u0 : World) (r : List Operand) (s : S) (u : World) (Kp : List Value → S → World → Prop) (y : SV) : Prop :=
 match y with
 | .v a => fb u0 r s u (pc a Kp)
 | .loc k off => ahM u0 k off r s u Kp (s.find k)
 | _ => False
theorem acW {y : Operand} {r : List Operand} {Kp : List Value → S → World → Prop} : fb u0 (y :: r) s u Kp = ain u0 r s u Kp (s.sv y) := by
 show fb u0 (y :: r) s u Kp = _
 simp only [fb]
 unfold ain ahM
 cases s.sv y with
 | loc k off => simp only []; cases s.find k <;> rfl
 | _ => rfl
theorem akj {r : List Operand} {Kp : List Value → S → World → Prop} {a : Value} : ain u0 r s u Kp (.v a) = fb u0 r s u (pc a Kp) := rfl
theorem adI {r : List Operand} {Kp : List Value → S → World → Prop} {k off : Nat} : ain u0 r s u Kp (.loc k off) = ahM u0 k off r s u Kp (s.find k) := rfl
theorem abl {r : List Operand} {Kp : List Value → S → World → Prop} {k off b : Nat} {cs : List Value} {T : TypeId} : ahM u0 k off r s u Kp (some ⟨b, cs, T⟩) =
  ∀ u', Sub u u' → Fresh u b → Fresh u0 b → u'.heap[b]? = some (.cells cs.toArray T (0, 0)) → (∀ b', b' ≠ b → Fresh u b' → Fresh u' b') → fb u0 r (s.pub k b) u' (pc (.pointer (some ⟨b, off, none⟩)) Kp) := rfl
theorem afU {a : Value} {vs : List Value} {Kp : List Value → S → World → Prop} : pc a Kp vs s u = Kp (a :: vs) s u := rfl
theorem aj7 {ρ : List (Nat × SV)} {σ : List (Nat × Loc)} {k b : Nat} : (S.mk ρ σ).pub k b = ⟨xc k b ρ, ly k σ⟩ := rfl
def aY (k : IntKind) (z : Int) (Kv : Value → Prop) : Prop := Kv (.int k (k.wrap z))
theorem aF {e : Sem Value} {Kv : Value → Prop} {r : Value} (h : ∀ w, e.run P w = .ok r w) : AtPure P e Kv = Kv r := by
 apply propext
 constructor
 ·rintro ⟨r', h', hk⟩
  have := h' default
  rw [h default] at this
  cases this
  exact hk
 ·intro hk; exact ⟨r, h, hk⟩
theorem mO {e : Sem Value} {Kv : Value → Prop} {r : Value} (h : ∀ w, e.run P w = .ok r w) : AtRead P e u Kv = Kv r := by
 apply propext
 constructor
 ·rintro ⟨r', h', hk⟩
  have := h' u (Sub.refl u)
  rw [h u] at this
  cases this
  exact hk
 ·intro hk; exact ⟨r, fun w _ => h w, hk⟩
section
variable {k : IntKind} {T : TypeId} {y z : Operand} {a b : Int} {Kv : Value → Prop}
theorem nR : AtPure P (bq .add T y z (.int k a) (.int k b)) Kv = aY k (a + b) Kv := aF fun w => by simp [bq, eqGuard, binOp, Op.intArith]
theorem ajg : AtPure P (bq .sub T y z (.int k a) (.int k b)) Kv = aY k (a - b) Kv := aF fun w => by simp [bq, eqGuard, binOp, Op.intArith]
theorem ahw : AtPure P (bq .mul T y z (.int k a) (.int k b)) Kv = aY k (a * b) Kv := aF fun w => by simp [bq, eqGuard, binOp, Op.intArith]
theorem nN : AtPure P (bq .lss T y z (.int k a) (.int k b)) Kv = Kv (.bool (decide (a < b))) := aF fun w => by simp [bq, eqGuard, binOp, Op.intCmp]
theorem ahE : AtPure P (bq .leq T y z (.int k a) (.int k b)) Kv = Kv (.bool (decide (a ≤ b))) := aF fun w => by simp [bq, eqGuard, binOp, Op.intCmp]
theorem aim : AtPure P (bq .gtr T y z (.int k a) (.int k b)) Kv = Kv (.bool (decide (b < a))) := aF fun w => by simp [bq, eqGuard, binOp, Op.intCmp]
theorem ajl : AtPure P (bq .geq T y z (.int k a) (.int k b)) Kv = Kv (.bool (decide (b ≤ a))) := aF fun w => by simp [bq, eqGuard, binOp, Op.intCmp]
theorem aii : AtPure P (bq .eql T y z (.int k a) (.int k b)) Kv = Kv (.bool (a == b)) := aF fun w => by simp [bq, eqGuard, binOp, Op.intCmp]
theorem ahc : AtPure P (bq .neq T y z (.int k a) (.int k b)) Kv = Kv (.bool (a != b)) := aF fun w => by simp [bq, eqGuard, binOp, Op.intCmp]
theorem aj1 {t : Bool} : AtPure P (iUn .not (.bool t)) Kv = Kv (.bool (!t)) := aF fun w => by simp [iUn, Op.unary]
theorem cW (h : -9223372036854775808 ≤ a ∧ a ≤ 9223372036854775807) : aY .i64 a Kv = Kv (.int .i64 a) := by unfold aY; rw [IntWalk.i64_in a h]
theorem af4 (h : 0 ≤ a ∧ a ≤ 255) : aY .u8 a Kv = Kv (.int .u8 a) := by unfold aY; rw [IntWalk.u8_in a h]
theorem aa6 (h : 0 ≤ a ∧ a ≤ 65535) : aY .u16 a Kv = Kv (.int .u16 a) := by unfold aY; rw [IntWalk.u16_in a h]
theorem ace (h : 0 ≤ a ∧ a ≤ 4294967295) : aY .u32 a Kv = Kv (.int .u32 a) := by unfold aY; rw [IntWalk.u32_in a h]
theorem mB (h : 0 ≤ a ∧ a ≤ 18446744073709551615) : aY .u64 a Kv = Kv (.int .u64 a) := by unfold aY; rw [IntWalk.u64_in a h]
def fh (P : Program) (T : TypeId) : Bool :=
 match P.underlying T with
 | some (.slice _) => true
 | _ => false
theorem j4 (h : fh P T = true) : ∃ e, P.underlying T = some (.slice e) := by
 unfold fh at h
 split at h
 ·rename_i e he; exact ⟨e, he⟩
 ·cases h
def lV (P : Program) (T : TypeId) : Option IntKind :=
 match P.underlying T with
 | some (.int k) => some k
 | _ => none
theorem mT {k' : IntKind} (h : lV P T = some k') : P.underlying T = some (.int k') := by
 unfold lV at h
 split at h
 ·rename_i e he; cases h; exact he
 ·cases h
def alO (k : Option IntKind) (P : Program) (src dst : TypeId) (v : Value) (a : Int) (u : World) (Kv : Value → Prop) (ks : Option IntKind) : Prop :=
 match ks, k with
 | some _, some k => aY k a Kv
 | _, _ => AtRead P (dx src dst v) u Kv
theorem yP {src dst : TypeId} {v : Value} {k' k2 : IntKind} : alO (some k') P src dst v a u Kv (some k2) = aY k' a Kv := rfl
theorem rl {p : Option Addr} {n c : Nat} {ty : TypeId} (h : fh P T = true) : AtRead P (mK #[T] ty #[.slice p n c]) u Kv = Kv (.int .i64 n) := by
 obtain ⟨e, hs⟩ := j4 h
 exact mO fun w => by simp [mK, Builtin.len_, run_underlying hs, goInt]
theorem qN {p : Option Addr} {n c : Nat} {ty : TypeId} (h : fh P T = true) : AtRead P (oS #[T] ty #[.slice p n c]) u Kv = Kv (.int .i64 c) := by
 obtain ⟨e, hs⟩ := j4 h
 exact mO fun w => by simp [oS, Builtin.cap_, run_underlying hs, goInt]
theorem ot {s : ByteArray} {ty : TypeId} (hs : P.underlying T = some .string) : AtRead P (mK #[T] ty #[.string s]) u Kv = Kv (.int .i64 s.size) :=
 mO fun w => by simp [mK, Builtin.len_, run_underlying hs, goInt]
theorem ajp {tys : Array TypeId} {ty : TypeId} : AtPure P (oP tys ty #[.int k a, .int k b]) Kv = Kv (.int k (if b < a then b else a)) :=
 aF fun w => by simp [oP, Builtin.min_, Builtin.min2]
theorem aiz {tys : Array TypeId} {ty : TypeId} : AtPure P (pQ tys ty #[.int k a, .int k b]) Kv = Kv (.int k (if a < b then b else a)) :=
 aF fun w => by simp [pQ, Builtin.max_, Builtin.max2]
theorem agE {c d : Bool} (hs : P.underlying T = some .bool) : AtPure P (bq .eql T y z (.bool c) (.bool d)) Kv = Kv (.bool (c == d)) :=
 aF fun w => by simp only [bq, eqGuard, Sem.run_bind, Sem.run_pure, Result.andThen_ok, Bool.not_true, Bool.false_eq_true, if_false, run_eql_bool w T c d hs]
theorem aez {c d : Bool} (hs : P.underlying T = some .bool) : AtPure P (bq .neq T y z (.bool c) (.bool d)) Kv = Kv (.bool (!(c == d))) :=
 aF fun w => by simp only [bq, eqGuard, Sem.run_bind, Sem.run_pure, Result.andThen_ok, Bool.not_true, Bool.false_eq_true, if_false, run_neq_bool w T c d hs]
theorem ko {p : Option Addr} {n c : Nat} (h : fh P T = true) : AtPure P (bq .eql T y z (.slice p n c) (.slice none 0 0)) Kv = Kv (.bool p.isNone) := by
 obtain ⟨e, hs⟩ := j4 h
 exact aF fun w => by simp only [bq, eqGuard, Sem.run_bind, Sem.run_pure, Result.andThen_ok, Bool.not_true, Bool.false_eq_true, if_false, binOp, Op.equal, Op.maxDepth, run_equalIn_slice_nil w 9999 T e p n c hs]
theorem ke {p : Option Addr} {n c : Nat} (h : fh P T = true) : AtPure P (bq .neq T y z (.slice p n c) (.slice none 0 0)) Kv = Kv (.bool (!p.isNone)) := by
 obtain ⟨e, hs⟩ := j4 h
 exact aF fun w => by simp only [bq, eqGuard, Sem.run_bind, Sem.run_pure, Result.andThen_ok, Bool.not_true, Bool.false_eq_true, if_false, run_neq_slice_nil w T e p n c hs]
end
end
attribute [go_sem] zU ajW zT mC aiM akk zV oX ni adm s9 qm qh vN agT ab9 qt xy nE qg xQ wI adp xf vQ aeS mv iQ abn wY ab0 xR wG ae4 aiY ajn yT akv abu aj6 fD keepL kR jB aeX akr aiR zf uH u5 zp xW lK ad4 wO sN zS adi aik ah6 ahO abJ adl acf acJ adg tE ajj ag9 uJ aex afi aec yV yo alm ali xT afR aeJ wv ag3 agn uT aeA agP ac5 adb alJ sK yG yh xU aeL s_ akA af0 ab6 afg yZ aio xj ac7 ac9 afv ug ajZ aeR aei abc xG vu ahb ad5 agN acU afd agX qx abg sX vY ahp yE abk tv acs qn ajV yJ yv aa7 akC akX akY aj4 ada ah9 aca adK aiS ab4 afD mu wq aha aj9 ah7 lv ad0 akz tD ajf alC aek acp alk aby yx alW ae_ acW akj adI abl afU aj7 xc iY ly fe yw xP zr sG vW xh zi zl wU wJ af7 adS ite_true splice nR ajg ahw nN ahE aim ajl aii ahc aj1 agE aez ko ke yP rl qN ot ajp aiz bn Value.oneCell' Value.cells List.nil_append List.cons_append List.append_nil List.drop_zero List.drop_succ_cons List.drop_nil List.take_zero List.take_succ_cons List.take_nil List.headD_cons List.length_cons List.length_nil Option.getD_some Option.getD_none Option.map_some Option.isNone_none Option.isNone_some Option.isSome_some Nat.zero_add Nat.add_zero Nat.le_refl cond_true cond_false Bool.true_and Bool.and_true Bool.not_true Bool.not_false and_true true_and eq_self true_implies ge_iff_le
structure Lf2 (q : Prop) : Prop where
 out : q
theorem vs_ {p q : Prop} (k : q) (e : Lf2 q → p := by intro k; (simp only [go_sem, ch, br, bT, bC, Nat.reduceBEq, Nat.reduceAdd, Nat.reduceLeDiff, Nat.reduceEqDiff, Int.reduceAdd, Int.reduceBEq, Int.reduceBNe, reduceCtorEq, beq_self_eq_true, Bool.true_beq, Bool.false_beq]; repeat ((with_reducible refine agB ?_); simp only [go_sem, ch, br, bT, bC, Nat.reduceBEq, Nat.reduceAdd, Nat.reduceLeDiff, Nat.reduceEqDiff, Int.reduceAdd, Int.reduceBEq, Int.reduceBNe, reduceCtorEq, beq_self_eq_true, Bool.true_beq, Bool.false_beq])); exact k.out) : p := e ⟨k⟩
end Go.Eng

set_option maxRecDepth 10000
namespace Go.Eng
structure GSpan where
 a : Int
 b : Int
deriving DecidableEq
def GSpan.enc (x : GSpan) : List Value := [.int .i32 x.a, .int .i32 x.b]
def GSpan.val (x : GSpan) : Value := .agg #[.int .i32 x.a, .int .i32 x.b]
theorem GSpan.cells (x : GSpan) : x.val.cells.toList = x.enc := rfl
structure GDesc where
 node : UInt8
 inc : UInt16
 age : UInt8
 filter : List GSpan
deriving DecidableEq
theorem aeb {x y : GSpan} : (x.a == y.a && (x.b == y.b)) = decide (x = y) := by
 rw [Bool.eq_iff_iff]
 simp only [Bool.and_eq_true, beq_iff_eq, decide_eq_true_eq]
 cases x; cases y
 simp
attribute [go_sem] aeb
theorem cM (x y : UInt8) : ((x.toNat : Int) == (y.toNat : Int)) = decide (x = y) := by
 rw [Bool.eq_iff_iff]
 simp only [beq_iff_eq, decide_eq_true_eq]
 rw [← UInt8.toNat_inj]
 omega
theorem fA (x y : UInt16) : ((x.toNat : Int) == (y.toNat : Int)) = decide (x = y) := by
 rw [Bool.eq_iff_iff]
 simp only [beq_iff_eq, decide_eq_true_eq]
 rw [← UInt16.toNat_inj]
 omega
theorem sE (x y : UInt16) : ((x.toNat : Int) != (y.toNat : Int)) = !decide (x = y) := by rw [← fA]; rfl
theorem nY (x : UInt16) : ((x.toNat : Int) == 0) = decide (x = 0) := fA x 0
theorem gQ (x y : UInt8) : ((x.toNat : Int) < (y.toNat : Int)) ↔ x < y := by rw [UInt8.lt_iff_toNat_lt]; omega
theorem al5 (x y : UInt8) : ((x.toNat : Int) ≤ (y.toNat : Int)) ↔ x ≤ y := by rw [UInt8.le_iff_toNat_le]; omega
theorem gH (x y : UInt16) : ((x.toNat : Int) < (y.toNat : Int)) ↔ x < y := by rw [UInt16.lt_iff_toNat_lt]; omega
end Go.Eng

set_option maxRecDepth 10000
namespace Go.Eng
def okS (s : GSpan) : Prop := -2147483648 ≤ s.a ∧ s.a ≤ 2147483647 ∧ -2147483648 ≤ s.b ∧ s.b ≤ 2147483647
def iU (s : GSpan) : GSpan := if s.b < s.a then ⟨1, 0⟩ else s
def gB (s : GSpan) : Bool := decide (s.b < s.a)
def fc (x y : GSpan) : GSpan := ⟨if x.a < y.a then y.a else x.a, if y.b < x.b then y.b else x.b⟩
def ai1 (x y : GSpan) : Bool := gB y || (decide (x.a ≤ y.a) && decide (y.b ≤ x.b))
def sLen (s : GSpan) : Nat := if s.b < s.a then 0 else min (s.b - s.a + 1).toNat 4294967295
theorem t9 (s : GSpan) : (iU s = ⟨1, 0⟩) ↔ s.b < s.a := by
 unfold iU
 split
 ·simp [*]
 ·constructor
  ·rintro rfl; simp_all
  ·intro h; contradiction
theorem mW (s : GSpan) : ((iU s).a == 1 && ((iU s).b == 0)) = gB s := by
 have := t9 s
 unfold gB
 rw [Bool.eq_iff_iff]
 simp only [Bool.and_eq_true, beq_iff_eq, decide_eq_true_eq, ← this]
 constructor
 ·rintro ⟨h1, h2⟩; cases hs : iU s; rw [hs] at h1 h2; simp_all
 ·intro h; rw [h]; exact ⟨rfl, rfl⟩
theorem vl {x y : GSpan} (hx : okS x) (hy : okS y) : okS (fc x y) := by
 obtain ⟨_, _, _, _⟩ := hx
 obtain ⟨_, _, _, _⟩ := hy
 unfold okS fc
 simp only
 omega
end Go.Eng
