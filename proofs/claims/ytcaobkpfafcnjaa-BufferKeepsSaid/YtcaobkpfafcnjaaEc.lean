/-
  Engine, part C: the conditions of the operations, and that they are right.
-/
import Derived.Test.YtcaobkpfafcnjaaEb
set_option linter.unusedSimpArgs false
set_option linter.unusedVariables false
namespace Go.Eng

/-! ### Tables of types -/

/-- Is it a struct or an array; how many cells has it. -/
def lay (P : Program) (T : TypeId) : Option (Bool × Nat) :=
  match P.underlying T, P.info? T with
  | some (.struct _), some i => some (true, i.size)
  | some (.array _ _), some i => some (true, i.size)
  | some _, some i => some (false, i.size)
  | _, _ => none

def foff (P : Program) (T : TypeId) (f : Nat) : Option Nat :=
  match P.underlying T with
  | some (.struct fs) => match fs[f]? with
    | some fd => match P.info? fd.type with
      | some i => if i.size = 0 then none else some fd.offset
      | none => none
    | none => none
  | _ => none

/-- A field by value: its offset, its lay. -/
def fval (P : Program) (T : TypeId) (f : Nat) : Option (Nat × Bool × Nat) :=
  match P.underlying T with
  | some (.struct fs) => match fs[f]? with
    | some fd => (lay P fd.type).map fun (ag, n) => (fd.offset, ag, n)
    | none => none
  | _ => none

def esz (P : Program) (T : TypeId) : Option Nat :=
  match P.underlying T with
  | some (.slice e) => (P.info? e).map (·.size)
  | _ => none

def zeroOf (P : Program) (T : TypeId) : Option (List Value) :=
  match P.info? T with
  | some i => i.zero.map (·.cells.toList)
  | none => none

/-- A value out of cells. -/
def ld (ag : Bool) (n off : Nat) (cs : List Value) : Value :=
  bif ag then .agg ((cs.drop off).take n).toArray else (cs.drop off).headD undef

def splice (cs : List Value) (off : Nat) (vs : List Value) : List Value := cs.take off ++ vs ++ cs.drop (off + vs.length)

def allOne : List Value → Bool
  | [] => true
  | v :: r => v.oneCell' && allOne r

/-! ### The nodes at which a prover is asked -/

def AtPure (P : Program) (e : Sem Value) (K : Value → Prop) : Prop := ∃ r, (∀ w, e.run P w = .ok r w) ∧ K r
def AtRead (P : Program) (e : Sem Value) (u : World) (K : Value → Prop) : Prop := ∃ r, (∀ w, Sub u w → e.run P w = .ok r w) ∧ K r
def AtEff (x : Bool) (P : Program) (e : Sem Value) (u0 u : World) (K : Value → World → Prop) : Prop :=
  ∀ w, Sub u w → Sub u0 w → ∃ r w' u', e.run P w = .ok r w' ∧ Step x u0 u w u' w' ∧ K r u'
def AtDo (x : Bool) (P : Program) (e : Sem Unit) (u0 u : World) (K : World → Prop) : Prop :=
  ∀ w, Sub u w → Sub u0 w → ∃ w' u', e.run P w = .ok () w' ∧ Step x u0 u w u' w' ∧ K u'

def hasBody (P : Program) (f : FuncId) : Bool :=
  match P.funcs[f]? with
  | some fn => fn.body.isSome && !(fn.name == "runtime.NumGoroutine")
  | none => false

def CallB (x : Bool) (P : Program) (f : FuncId) (args : List Value) (u0 u : World) (K : Value → World → Prop) : Prop :=
  hasBody P f = true ∧ ∀ w, Sub u w → Sub u0 w → Calls P f args.toArray w fun e w' => ∃ r u', e = .returned r ∧ Step x u0 u w u' w' ∧ K r u'

/-- What a function without a body does, by the model's own table. -/
def extOf (P : Program) (f : FuncId) : Option (Array Value → Sem Value) :=
  match P.funcs[f]? with
  | some fn => if fn.name == "runtime.NumGoroutine" || fn.body.isSome || (Extern.findNext fn).isSome then none else Extern.find fn
  | none => none

def CallE (x : Bool) (P : Program) (f : FuncId) (args : List Value) (u0 u : World) (K : Value → World → Prop) : Prop :=
  ∃ e, extOf P f = some e ∧ AtEff x P (e args.toArray) u0 u K

def AtCall (x : Bool) (P : Program) (f : FuncId) (args : List Value) (u0 u : World) (K : Value → World → Prop) : Prop := CallB x P f args u0 u K ∨ CallE x P f args u0 u K

/-- A function value that is not written out. -/
def AtCallV (x : Bool) (P : Program) (fv : Value) (args : List Value) (u0 u : World) (K : Value → World → Prop) : Prop :=
  ∃ f first captured, fv = .func (.func f) first captured ∧ AtCall x P f (first.toList ++ args ++ captured.toList) u0 u K

/-- The cells of element 'i' of a slice. -/
def EltAt (u : World) (sv : Value) (sz : Nat) (i : Int) (cs : List Value) : Prop :=
  ∃ a len cap, sv = .slice (some a) len cap ∧ cs.length = sz ∧ ∀ j v, cs[j]? = some v → u.cell? ((a.add (i.toNat * sz)).add j) = some v

def AtElt (u : World) (sv : Value) (sz : Nat) (i : Int) (ag : Bool) (n off : Nat) (K : Value → Prop) : Prop :=
  ∃ cs, EltAt u sv sz i cs ∧ (n = 1 ∨ ag = true) ∧ off + n ≤ cs.length ∧ K (ld ag n off cs)

/-- The cells at an address. -/
def CellsAt (u : World) (a : Addr) (cs : List Value) : Prop := ∀ j v, cs[j]? = some v → u.cell? (a.add j) = some v

def AtPtr (u : World) (a : Addr) (ag : Bool) (n : Nat) (K : Value → Prop) : Prop :=
  ∃ cs, CellsAt u a cs ∧ cs.length = n ∧ (n = 1 ∨ ag = true) ∧ K (ld ag n 0 cs)

def PutK (s : S) (d : Option Tmp) (u : World) (K : S → World → Prop) (r : Value) : Prop := K (s.put d (.v r)) u
def PutE (s : S) (d : Option Tmp) (K : S → World → Prop) (r : Value) (u : World) : Prop := K (s.put d (.v r)) u
def PutU (s : S) (d : Option Tmp) (K : S → World → Prop) (u : World) : Prop := K (s.put d (.v undef)) u
def IfK (c : Prop) (K : S → World → Prop) (s : S) (u : World) : Prop := c ∧ K s u

/-- An index into a slice: it is there. -/
def AtIdx (p : Option Addr) (n : Nat) (i : Int) (K : Prop) : Prop := (p.isSome = true ∧ 0 ≤ i ∧ i < n) ∧ K

/-! ### Values of operands; locals that become known -/

def pubSV (k b : Nat) : SV → SV
  | .loc k' off => bif k' == k then .v (.pointer (some ⟨b, off, none⟩)) else .loc k' off
  | x => x
def pubR (k b : Nat) : List (Nat × SV) → List (Nat × SV)
  | [] => []
  | (t, x) :: r => (t, pubSV k b x) :: pubR k b r
def dropK (k : Nat) : List (Nat × Loc) → List (Nat × Loc)
  | [] => []
  | (k', l) :: r => bif k' == k then dropK k r else (k', l) :: dropK k r
def S.pub (s : S) (k b : Nat) : S := ⟨pubR k b s.ρ, dropK k s.σ⟩

def ConsK (a : Value) (K : List Value → S → World → Prop) (vs : List Value) (s : S) (u : World) : Prop := K (a :: vs) s u

/-- The values of operands; a local whose address is among them becomes known. -/
def pubs (u0 : World) : List Operand → S → World → (List Value → S → World → Prop) → Prop
  | [], s, u, K => K [] s u
  | x :: r, s, u, K =>
    match s.sv x with
    | .v a => pubs u0 r s u (ConsK a K)
    | .loc k off =>
      match s.find k with
      | some l => ∀ u', Sub u u' → Fresh u l.b → Fresh u0 l.b → u'.heap[l.b]? = some (.cells l.cells.toArray l.T (0, 0)) → (∀ b', b' ≠ l.b → Fresh u b' → Fresh u' b') →
          pubs u0 r (s.pub k l.b) u' (ConsK (.pointer (some ⟨l.b, off, none⟩)) K)
      | none => False
    | _ => False

/-- The values of operands, none of them a local's address. -/
def vals (s : S) : List Operand → Option (List Value)
  | [] => some []
  | x :: r =>
    match s.sv x with
    | .v a => match vals s r with
      | some vs => some (a :: vs)
      | none => none
    | _ => none

def oval (s : S) : Option Operand → Option (Option Value)
  | none => some none
  | some x => match s.sv x with
    | .v a => some (some a)
    | _ => none

def pvals (s : S) : List (Nat × Operand) → Option (List (Nat × Value))
  | [] => some []
  | (i, x) :: r =>
    match s.sv x with
    | .v a => match pvals s r with
      | some vs => some ((i, a) :: vs)
      | none => none
    | _ => none

def addLoc (s : S) (d b : Nat) (cs : List Value) (T : TypeId) : S := ⟨(d, .loc d 0) :: s.ρ, (d, ⟨b, cs, T⟩) :: s.σ⟩
def setLoc (s : S) (k : Nat) (l : Loc) (cs : List Value) (d : Option Tmp) : S := (⟨s.ρ, (k, ⟨l.b, cs, l.T⟩) :: s.σ⟩ : S).put d (.v undef)

def FuncK (K : S → World → Prop) (d : Option Tmp) (fn : Fn) (nf : Nat) (vs : List Value) (s : S) (u : World) : Prop :=
  K (s.put d (.v (.func fn (vs.take nf).toArray (vs.drop nf).toArray))) u
def CallK (x : Bool) (P : Program) (u0 : World) (f : FuncId) (first captured : List Value) (K : S → World → Prop) (d : Option Tmp) (vs : List Value) (s : S) (u : World) : Prop :=
  AtCall x P f (first ++ vs ++ captured) u0 u (PutE s d K)
def CallVK (x : Bool) (P : Program) (u0 : World) (fv : Value) (K : S → World → Prop) (d : Option Tmp) (vs : List Value) (s : S) (u : World) : Prop :=
  AtCallV x P fv vs u0 u (PutE s d K)

/-! ### Names of our own for what operations do (the walk's own set of equations opens the model's) -/

def bLen := @Builtin.len_
def bCap := @Builtin.cap_
def bMin := @Builtin.min_
def bMax := @Builtin.max_
def bApp := @Builtin.append_
def bCopy := @Builtin.copy_
def bDel := @Builtin.delete_
def bClr := @Builtin.clear_
def iLit := @Instr.buildSlice
def iBuild := @Instr.build
def iSlice := @Instr.sliceAt
def iStore := @Instr.storeAt
def iIndex := @Instr.index
def iLook := @Instr.lookup
def iMake := @Instr.makeSlice
def iMap := @Instr.makeMap
def iUpd := @Instr.mapUpdate
def iEnt := @Instr.mapEntry
def iEnts := @Instr.entryStore
def iUn := @Op.unary
def iConv := @convert

/-! ### One operation -/

/-- A binary operation, with the guard ahead of a comparison. -/
def binS (op : BinOp) (T : TypeId) (y z : Operand) (a b : Value) : Sem Value := do eqGuard op T y z a b; binOp op T a b


def vcLoad (P : Program) (T : TypeId) (x : SV) (K : Value → Prop) (s : S) (u : World) : Prop :=
  match lay P T with
  | some (ag, n) =>
    match x with
    | .loc k off => match s.find k with
      | some l => (n = 1 ∨ ag = true) ∧ off + n ≤ l.cells.length ∧ K (ld ag n off l.cells)
      | none => False
    | .elt sv sz i off => AtElt u sv sz i ag n off K
    | .v (.pointer (some a)) => AtPtr u a ag n K
    | _ => False
  | none => False

def vcField (P : Program) (T : TypeId) (f : Nat) (x : SV) (d : Option Tmp) (K : S → World → Prop) (s : S) (u : World) : Prop :=
  match foff P T f with
  | some e =>
    match x with
    | .loc k off => K (s.put d (.loc k (off + e))) u
    | .elt sv sz i off => K (s.put d (.elt sv sz i (off + e))) u
    | .v (.pointer (some a)) => K (s.put d (.v (.pointer (some (a.add e))))) u
    | _ => False
  | none => False

def vcStore (P : Program) (b : Bool) (u0 : World) (T : TypeId) (x : SV) (y : SV) (d : Option Tmp) (K : S → World → Prop) (s : S) (u : World) : Prop :=
  match y with
  | .v a =>
    match x with
    | .loc k off => match s.find k, lay P T with
      | some l, some (_, n) => a.cells.toList.length = n ∧ off + n ≤ l.cells.length ∧ allOne a.cells.toList = true ∧ K (setLoc s k l (splice l.cells off a.cells.toList) d) u
      | _, _ => False
    | .v p => AtDo b P (iStore T p a) u0 u (PutU s d K)
    | .elt sv sz i off => match eltAddr sv sz i off with
      | some ad => AtDo b P (iStore T (.pointer (some ad)) a) u0 u (PutU s d K)
      | none => False
    | .unk => False
  | _ => False

def vcIdx (P : Program) (T : TypeId) (x i : SV) (d : Option Tmp) (K : S → World → Prop) (s : S) (u : World) : Prop :=
  match esz P T, x, i with
  | some sz, .v (.slice p n c), .v (.int _ i) => AtIdx p n i (K (s.put d (.elt (.slice p n c) sz i 0)) u)
  | _, _, _ => False

def vcCall (P : Program) (x : Bool) (u0 : World) (c : Call) (ty : TypeId) (d : Option Tmp) (K : S → World → Prop) (s : S) (u : World) : Prop :=
  match c.callee with
  | .builtin .len => match vals s c.args.toList with
    | some vs => AtRead P (bLen c.argTypes ty vs.toArray) u (PutK s d u K)
    | none => False
  | .builtin .cap => match vals s c.args.toList with
    | some vs => AtRead P (bCap c.argTypes ty vs.toArray) u (PutK s d u K)
    | none => False
  | .builtin .min => match vals s c.args.toList with
    | some vs => AtPure P (bMin c.argTypes ty vs.toArray) (PutK s d u K)
    | none => False
  | .builtin .max => match vals s c.args.toList with
    | some vs => AtPure P (bMax c.argTypes ty vs.toArray) (PutK s d u K)
    | none => False
  | .builtin .append => match vals s c.args.toList with
    | some vs => AtEff x P (bApp c.argTypes ty vs.toArray) u0 u (PutE s d K)
    | none => False
  | .builtin .copy => match vals s c.args.toList with
    | some vs => AtEff x P (bCopy c.argTypes ty vs.toArray) u0 u (PutE s d K)
    | none => False
  | .builtin .delete => match vals s c.args.toList with
    | some vs => AtEff x P (bDel c.argTypes ty vs.toArray) u0 u (PutE s d K)
    | none => False
  | .builtin .clear => match vals s c.args.toList with
    | some vs => AtEff x P (bClr c.argTypes ty vs.toArray) u0 u (PutE s d K)
    | none => False
  | .value f => match s.sv f with
    | .v (.func (.func g) first captured) => pubs u0 c.args.toList s u (CallK x P u0 g first.toList captured.toList K d)
    | .v fv => pubs u0 c.args.toList s u (CallVK x P u0 fv K d)
    | _ => False
  | _ => False

/-- The condition of an operation: 'x' is set where the world must be extended. -/
def vcOp (P : Program) (x : Bool) (u0 : World) (o : Oper) (K : S → World → Prop) (s : S) (u : World) : Prop :=
  match o.op with
  | .move y => K (s.put o.dst (s.sv y)) u
  | .assign y => K (s.put o.dst (s.sv y)) u
  | .pick c y z => match s.sv c with
    | .v (.bool t) => K (s.put o.dst (bif t then s.sv y else s.sv z)) u
    | _ => False
  | .load T y => vcLoad P T (s.sv y) (PutK s o.dst u K) s u
  | .nilCheck y => match s.sv y with
    | .loc k off => K (s.put o.dst (.loc k off)) u
    | .v (.pointer (some a)) => K (s.put o.dst (.v (.pointer (some a)))) u
    | _ => False
  | .binOp op T y z _ => match s.sv y, s.sv z with
    | .v a, .v b => AtPure P (binS op T y z a b) (PutK s o.dst u K)
    | _, _ => False
  | .unOp op _ y => match s.sv y with
    | .v a => AtPure P (iUn op a) (PutK s o.dst u K)
    | _ => False
  | .convert src dst y => match s.sv y with
    | .v a => bif src == dst then AtEff x P (iConv src dst a) u0 u (PutE s o.dst K) else AtRead P (iConv src dst a) u (PutK s o.dst u K)
    | _ => False
  | .makeFunc fn first captured => pubs u0 (first.toList ++ captured.toList) s u (FuncK K o.dst fn first.size)
  | .build T ps => match pvals s ps.toList with
    | some vs => AtPure P (iBuild T vs.toArray) (PutK s o.dst u K)
    | none => False
  | .slice T y lo hi mx => match s.sv y, oval s lo, oval s hi, oval s mx with
    | .v a, some l, some h, some m => AtPure P (iSlice T a l h m) (PutK s o.dst u K)
    | _, _, _, _ => False
  | .fieldAddr T y f => vcField P T f (s.sv y) o.dst K s u
  | .field T y f => match s.sv y with
    | .v (.agg cs) => match fval P T f with
      | some (off, ag, n) => (n = 1 ∨ ag = true) ∧ off + n ≤ cs.toList.length ∧ K (s.put o.dst (.v (ld ag n off cs.toList))) u
      | none => False
    | _ => False
  | .indexAddr T y i => vcIdx P T (s.sv y) (s.sv i) o.dst K s u
  | .index T y i => match s.sv y, s.sv i with
    | .v a, .v b => AtRead P (iIndex T a b) u (PutK s o.dst u K)
    | _, _ => False
  | .lookup T y i ok => match s.sv y, s.sv i with
    | .v a, .v b => AtRead P (iLook T a b ok) u (PutK s o.dst u K)
    | _, _ => False
  | .extract y i => match s.sv y with
    | .v (.tuple vs) => match vs.toList[i]? with
      | some r => K (s.put o.dst (.v r)) u
      | none => False
    | _ => False
  | .alloc T => match zeroOf P T, o.dst with
    | some cs, some d => s.find d = none ∧ ∀ b, K (addLoc s d b cs T) u
    | _, _ => False
  | .box T y => match s.sv y, o.dst with
    | .v a, some d => s.find d = none ∧ ∀ b, K (addLoc s d b a.cells.toList T) u
    | _, _ => False
  | .store T y z => vcStore P x u0 T (s.sv y) (s.sv z) o.dst K s u
  | .buildSlice T n ps => match pvals s ps.toList with
    | some vs => AtEff x P (iLit T n vs.toArray) u0 u (PutE s o.dst K)
    | none => False
  | .makeSlice T l c => match s.sv l, s.sv c with
    | .v a, .v b => AtEff x P (iMake T a b) u0 u (PutE s o.dst K)
    | _, _ => False
  | .makeMap T r => match oval s r with
    | some a => AtEff x P (iMap T a) u0 u (PutE s o.dst K)
    | none => False
  | .mapUpdate T m k y => match s.sv m, s.sv k, s.sv y with
    | .v a, .v b, .v c => AtDo x P (iUpd T a b c) u0 u (PutU s o.dst K)
    | _, _, _ => False
  | .insert T m k y => match s.sv m, s.sv k, s.sv y with
    | .v a, .v b, .v c => AtDo x P (iUpd T a b c) u0 u (PutU s o.dst K)
    | _, _, _ => False
  | .mapEntry T m k => match s.sv m, s.sv k with
    | .v a, .v b => AtEff x P (iEnt T a b) u0 u (PutE s o.dst K)
    | _, _ => False
  | .entryStore T m k y => match s.sv m, s.sv k, s.sv y with
    | .v a, .v b, .v c => AtDo x P (iEnts T a b c) u0 u (PutU s o.dst K)
    | _, _, _ => False
  | .call c => vcCall P x u0 c o.type o.dst K s u
  | _ => False

end Go.Eng
