/-
  Part 17 of the proof of Ap: the engine and the walks, in their order.
-/
import Derived.Test.YtcaobkpfafcnjaaAp10
import Derived.Test.YtcaobkpfafcnjaaAp13
import Derived.Test.YtcaobkpfafcnjaaAp14
import Derived.Test.YtcaobkpfafcnjaaAp15
import Derived.Test.YtcaobkpfafcnjaaAp16
set_option linter.unusedSimpArgs false
set_option linter.unusedVariables false
/-
  The data of the program: events and buffers; what is done with them.
-/
set_option linter.unusedSimpArgs false
set_option linter.unusedVariables false
namespace Go.Eng
def encI (x : Int) : List Value := [.int .i32 x]
theorem onesI (l : List Int) : allOnes (l.map encI) := by intro y hy; obtain ⟨x, _, rfl⟩ := List.mem_map.1 hy; rfl
theorem onesB (l : List UInt8) : allOnes (l.map encB) := by intro y hy; obtain ⟨x, _, rfl⟩ := List.mem_map.1 hy; rfl

structure GEv where
  id : GID
  vals : List Int
  data : List UInt8
deriving DecidableEq

/-- An event in memory: where its values and its data lie. -/
structure PE where
  g : GEv
  p : Option Addr
  n : Nat
  c : Nat
  q : Option Addr
  m : Nat
  d : Nat

def PE.enc (x : PE) : List Value := [.int .u8 x.g.id.node.toNat, .int .u16 x.g.id.inc.toNat, .int .u32 x.g.id.seq.toNat, .slice x.p x.n x.c, .slice x.q x.m x.d]
def PE.val (x : PE) : Value := .agg #[.int .u8 x.g.id.node.toNat, .int .u16 x.g.id.inc.toNat, .int .u32 x.g.id.seq.toNat, .slice x.p x.n x.c, .slice x.q x.m x.d]
theorem PE.cells (x : PE) : x.val.cells.toList = x.enc := rfl
theorem PE.ones (xs : List PE) : allOnes (xs.map PE.enc) := by intro y hy; obtain ⟨x, _, rfl⟩ := List.mem_map.1 hy; rfl
def evP (TI TB : TypeId) (x : PE) : List Part := [⟨TI, 1, x.p, x.n, x.c, x.g.vals.map encI⟩, ⟨TB, 1, x.q, x.m, x.d, x.g.data.map encB⟩]
@[reducible] def evK (TE TI TB : TypeId) : Kind PE := ⟨TE, 5, PE.enc, evP TI TB⟩
@[go_sem] theorem evk_enc (TE TI TB : TypeId) (x : PE) : (evK TE TI TB).enc x = x.enc := rfl
section
variable {u0 u : World} {x : PE} {TI TB : TypeId}
theorem ev_there (h1 : Sl u 1 x.p x.n x.c (x.g.vals.map encI)) (h2 : Sl u 1 x.q x.m x.d (x.g.data.map encB)) : There u (evP TI TB x) := fun s hs => by
  simp only [evP, List.mem_cons, List.not_mem_nil, or_false] at hs
  rcases hs with rfl | rfl
  · exact h1
  · exact h2
theorem ev_vals (h : There u (evP TI TB x)) : Sl u 1 x.p x.n x.c (x.g.vals.map encI) := h ⟨TI, 1, x.p, x.n, x.c, x.g.vals.map encI⟩ (by simp [evP])
theorem ev_data (h : There u (evP TI TB x)) : Sl u 1 x.q x.m x.d (x.g.data.map encB) := h ⟨TB, 1, x.q, x.m, x.d, x.g.data.map encB⟩ (by simp [evP])
theorem ev_owned (h1 : Own u0 u TI 1 x.p x.n x.c (x.g.vals.map encI)) (h2 : Own u0 u TB 1 x.q x.m x.d (x.g.data.map encB)) : Owned u0 u (evP TI TB x) := fun s hs => by
  simp only [evP, List.mem_cons, List.not_mem_nil, or_false] at hs
  rcases hs with rfl | rfl
  · exact h1
  · exact h2
theorem ev_ownv (h : Owned u0 u (evP TI TB x)) : Own u0 u TI 1 x.p x.n x.c (x.g.vals.map encI) := h ⟨TI, 1, x.p, x.n, x.c, x.g.vals.map encI⟩ (by simp [evP])
theorem ev_ownd (h : Owned u0 u (evP TI TB x)) : Own u0 u TB 1 x.q x.m x.d (x.g.data.map encB) := h ⟨TB, 1, x.q, x.m, x.d, x.g.data.map encB⟩ (by simp [evP])
theorem ev_nlen (h : There u (evP TI TB x)) : x.g.vals.length = x.n := by simpa using (ev_vals h).len
theorem ev_mlen (h : There u (evP TI TB x)) : x.g.data.length = x.m := by simpa using (ev_data h).len
end

abbrev es (l : List PE) : List GEv := l.map PE.g
theorem getEs {l : List PE} {k : Nat} {x : PE} (h : l[k]? = some x) : (es l)[k]? = some x.g := by simp [h]
theorem atEs {l : List PE} {k : Nat} {x : PE} {d : GEv} (h : l[k]? = some x) (hd : (es l)[k]? = some d) : d = x.g := by
  rw [getEs h] at hd; exact (Option.some.inj hd).symm

/-- A buffer in memory. -/
structure PB where
  room : Int
  p : Option Addr
  n : Nat
  c : Nat
  l : List PE
def PB.val (b : PB) : Value := .agg #[.int .i64 b.room, .slice b.p b.n b.c]
def PB.enc (b : PB) : List Value := [.int .i64 b.room, .slice b.p b.n b.c]

/-! ### What is done with buffers -/
abbrev evKey (e : GEv) : Nat := e.id.key
def bIdx (l : List GEv) (q : GID → Bool) : Option Nat := l.findIdx? fun e => q e.id
def oInt : Option Nat → Int
  | some i => (i : Int)
  | none => -1
def bOf (l : List GEv) (x : GID) : Option Nat := bIdx l fun a => decide (a = x)
def bHas (l : List GEv) (x : GID) : Bool := (bOf l x).isSome
def bWo {α : Type} (l : List α) : Option Nat → List α
  | some i => l.eraseIdx i
  | none => l
def bErr (l : List GEv) (room : Int) (x : GID) : Int := if bHas l x = true then 150 else if room ≤ (l.length : Int) then 52 else 0
def bPut (l : List GEv) (room : Int) (e : GEv) : List GEv := if bErr l room e.id = 0 then kIns evKey l e else l
def bNot (node : UInt8) (inc : UInt16) (x : GID) : Bool := !decide (x.node = node) || !decide (x.inc = inc)
def bOld (l : List GEv) (node : UInt8) (inc : UInt16) : Option Nat := bIdx l (bNot node inc)
def gid0 : GID := ⟨0, 0, 0⟩
def gev0 : GEv := ⟨gid0, [], []⟩
def bGone (l : List GEv) (node : UInt8) (inc : UInt16) : GID := match bOld l node inc with
  | some i => match l[i]? with
    | some e => e.id
    | none => gid0
  | none => gid0
def bGet (l : List GEv) (x : GID) : GEv := match bOf l x with
  | some i => (l[i]?).getD gev0
  | none => gev0
def bIds (l : List GEv) : List GID := l.map GEv.id
def bRight (l : List GEv) (room : Int) : Bool := decide (0 ≤ room) && (decide ((l.length : Int) ≤ room) && iRising (bIds l))

theorem bIdx_some {l : List GEv} {q : GID → Bool} {i : Nat} (h : bIdx l q = some i) : ∃ e, l[i]? = some e ∧ q e.id = true := by
  obtain ⟨hi, h1, _⟩ := List.findIdx?_eq_some_iff_getElem.1 h
  exact ⟨l[i], List.getElem?_eq_getElem hi, h1⟩
theorem bIdx_lt {l : List GEv} {q : GID → Bool} {i : Nat} (h : bIdx l q = some i) : i < l.length := (List.findIdx?_eq_some_iff_getElem.1 h).1
theorem bIdx_none {l : List GEv} {q : GID → Bool} (h : bIdx l q = none) : ∀ e ∈ l, q e.id = false := fun e he => by
  simpa using (List.findIdx?_eq_none_iff.1 h) e he

theorem wo_nil {α : Type} (o : Option Nat) : bWo ([] : List α) o = [] := by cases o <;> rfl
/-- One step of copying all but one. -/
theorem wo_eq {α : Type} {l : List α} {k : Nat} {x : α} (hx : l[k]? = some x) : bWo (l.take (k + 1)) (some k) = bWo (l.take k) (some k) := by
  obtain ⟨hk, _⟩ := List.getElem?_eq_some_iff.1 hx
  have hl : (l.take k).length = k := by simp; omega
  simp only [bWo]
  rw [take_succ hx, List.eraseIdx_append_of_length_le (by omega), hl, Nat.sub_self, List.eraseIdx_of_length_le (l := l.take k) (by omega)]
  simp
theorem wo_ne {α : Type} {l : List α} {k : Nat} {x : α} {o : Option Nat} (hx : l[k]? = some x) (h : o ≠ some k) : bWo (l.take (k + 1)) o = bWo (l.take k) o ++ [x] := by
  obtain ⟨hk, _⟩ := List.getElem?_eq_some_iff.1 hx
  have hl : (l.take k).length = k := by simp; omega
  cases o with
  | none => exact take_succ hx
  | some i =>
    have hik : i ≠ k := fun e => h (by rw [e])
    simp only [bWo]
    rw [take_succ hx]
    rcases Nat.lt_or_ge i k with h1 | h1
    · rw [List.eraseIdx_append_of_lt_length (by omega)]
    · rw [List.eraseIdx_append_of_length_le (by omega), hl, List.eraseIdx_of_length_le (by simp; omega), List.eraseIdx_of_length_le (by omega)]
theorem wo_map {α β : Type} (f : α → β) (l : List α) (o : Option Nat) : (bWo l o).map f = bWo (l.map f) o := by
  cases o with
  | none => rfl
  | some i => simp only [bWo]; rw [eraseIdx_map_]
theorem wo_len {α : Type} (l : List α) (o : Option Nat) : (bWo l o).length ≤ l.length := by
  cases o with
  | none => exact Nat.le_refl _
  | some i => simp only [bWo]; rw [List.length_eraseIdx]; split <;> omega
theorem wo_mem {α : Type} {l : List α} {o : Option Nat} {x : α} (h : x ∈ bWo l o) : x ∈ l := by
  cases o with
  | none => exact h
  | some i => exact List.mem_of_mem_eraseIdx h
theorem oInt_ne {o : Option Nat} {k : Nat} : ((k : Int) != oInt o) = !decide (o = some k) := by
  cases o with
  | none => simp [oInt]
  | some i =>
    rw [Bool.eq_iff_iff]
    simp [oInt]
    omega
end Go.Eng
