/-
  Part 22 of the proof of M7: the engine and the walks, in their order.
-/
import Derived.Test.YtgpmgnbjpfggmaaM77
set_option linter.unusedSimpArgs false
set_option linter.unusedVariables false
/-
  The data of the program: ids and asks, and how they lie in memory.
-/
set_option linter.unusedSimpArgs false
set_option linter.unusedVariables false
namespace Go.Eng

theorem ld_agg {n off : Nat} {cs : List Value} : ld true n off cs = .agg ((cs.drop off).take n).toArray := rfl
theorem ld_one {n off : Nat} {cs : List Value} : ld false n off cs = (cs.drop off).headD undef := rfl
attribute [go_sem] ld_agg ld_one LoopK_normal RangeK_normal RangeK_ret RangeK_exit leR leL true_or or_true false_or or_false and_self

/-- A load through a pointer into a block that is known. -/
theorem ptr_load {u : World} {b off n : Nat} {cs : List Value} {T : TypeId} {fr : Nat × Nat} {ag : Bool} {K : Value → Prop} (h : u.heap[b]? = some (.cells cs.toArray T fr)) (hn : n = 1 ∨ ag = true) (hl : off + n ≤ cs.length)
    (hK : K (ld ag n off cs)) : AtPtr u ⟨b, off, none⟩ ag n K := by
  refine ⟨(cs.drop off).take n, fun j v hv => ?_, by simp; omega, hn, ?_⟩
  · rw [Addr.add_lit]
    refine cell?_of h ?_
    rw [List.getElem?_take] at hv
    split at hv
    · rw [List.getElem?_drop] at hv; simpa using hv
    · cases hv
  · have e : ld ag n 0 ((cs.drop off).take n) = ld ag n off cs := by
      cases ag with
      | true => simp [ld, List.take_take]
      | false =>
        have h1 : n = 1 := by rcases hn with h | h; exact h; cases h
        subst h1
        simp only [ld, cond_false, List.drop_zero]
        cases cs.drop off <;> rfl
    rw [e]; exact hK

structure GID where
  node : UInt8
  inc : UInt16
  seq : UInt32
deriving DecidableEq

structure GAsk where
  id : GID
  frm : UInt8
  left : UInt8
deriving DecidableEq

def GID.enc (x : GID) : List Value := [.int .u8 x.node.toNat, .int .u16 x.inc.toNat, .int .u32 x.seq.toNat]
def GID.val (x : GID) : Value := .agg #[.int .u8 x.node.toNat, .int .u16 x.inc.toNat, .int .u32 x.seq.toNat]
def GAsk.enc (x : GAsk) : List Value := [.int .u8 x.id.node.toNat, .int .u16 x.id.inc.toNat, .int .u32 x.id.seq.toNat, .int .u8 x.frm.toNat, .int .u8 x.left.toNat]
def GAsk.val (x : GAsk) : Value := .agg #[.int .u8 x.id.node.toNat, .int .u16 x.id.inc.toNat, .int .u32 x.id.seq.toNat, .int .u8 x.frm.toNat, .int .u8 x.left.toNat]

/-- The order of ids, by a number. -/
def GID.key (x : GID) : Nat := x.node.toNat * 281474976710656 + x.inc.toNat * 4294967296 + x.seq.toNat

theorem GID.bd (x : GID) : x.node.toNat < 256 ∧ x.inc.toNat < 65536 ∧ x.seq.toNat < 4294967296 := ⟨x.node.toNat_lt, x.inc.toNat_lt, x.seq.toNat_lt⟩

theorem GID.ext_nat {x y : GID} (h1 : x.node.toNat = y.node.toNat) (h2 : x.inc.toNat = y.inc.toNat) (h3 : x.seq.toNat = y.seq.toNat) : x = y := by
  cases x; cases y
  simp only [GID.mk.injEq]
  exact ⟨UInt8.toNat_inj.1 h1, UInt16.toNat_inj.1 h2, UInt32.toNat_inj.1 h3⟩

theorem GID.key_inj {x y : GID} (h : x.key = y.key) : x = y := by
  have hx := x.bd
  have hy := y.bd
  unfold GID.key at h
  exact GID.ext_nat (by omega) (by omega) (by omega)

theorem u8_eq0 (x : UInt8) : ((x.toNat : Int) == 0) = decide (x = 0) := by
  rw [Bool.eq_iff_iff]
  simp only [beq_iff_eq, decide_eq_true_eq]
  rw [← UInt8.toNat_inj]
  have : (0 : UInt8).toNat = 0 := rfl
  omega

def GID.less (x y : GID) : Bool := decide (x.key < y.key)

theorem GID.less_iff (x y : GID) : x.less y = decide ((x.node.toNat : Int) < y.node.toNat ∨ ((x.node.toNat : Int) = y.node.toNat ∧ ((x.inc.toNat : Int) < y.inc.toNat ∨ (x.inc.toNat : Int) = y.inc.toNat ∧ (x.seq.toNat : Int) < y.seq.toNat))) := by
  have hx := x.bd
  have hy := y.bd
  unfold GID.less
  congr 1
  apply propext
  unfold GID.key
  omega

theorem GID.eq_iff (x y : GID) : (x = y) ↔ ((x.node.toNat : Int) = y.node.toNat ∧ (x.inc.toNat : Int) = y.inc.toNat ∧ (x.seq.toNat : Int) = y.seq.toNat) := by
  constructor
  · rintro rfl; exact ⟨rfl, rfl, rfl⟩
  · rintro ⟨h1, h2, h3⟩; exact GID.ext_nat (by omega) (by omega) (by omega)

theorem GAsk.eq_iff (x y : GAsk) : (x = y) ↔ (x.id = y.id ∧ (x.frm.toNat : Int) = y.frm.toNat ∧ (x.left.toNat : Int) = y.left.toNat) := by
  constructor
  · rintro rfl; exact ⟨rfl, rfl, rfl⟩
  · rintro ⟨h1, h2, h3⟩
    cases x; cases y
    simp only [GAsk.mk.injEq] at *
    exact ⟨h1, UInt8.toNat_inj.1 (by omega), UInt8.toNat_inj.1 (by omega)⟩

theorem eqB_id {x y : GID} : ((x.node.toNat : Int) == y.node.toNat && ((x.inc.toNat : Int) == y.inc.toNat && (x.seq.toNat : Int) == y.seq.toNat)) = decide (x = y) := by
  rw [Bool.eq_iff_iff]
  simp only [Bool.and_eq_true, beq_iff_eq, decide_eq_true_eq]
  exact (GID.eq_iff x y).symm
theorem eqB_ask {x y : GAsk} : ((x.id.node.toNat : Int) == y.id.node.toNat && ((x.id.inc.toNat : Int) == y.id.inc.toNat && ((x.id.seq.toNat : Int) == y.id.seq.toNat && ((x.frm.toNat : Int) == y.frm.toNat && (x.left.toNat : Int) == y.left.toNat)))) = decide (x = y) := by
  rw [Bool.eq_iff_iff]
  simp only [Bool.and_eq_true, beq_iff_eq, decide_eq_true_eq]
  rw [GAsk.eq_iff, GID.eq_iff]
  simp only [and_assoc]
attribute [go_sem] eqB_id eqB_ask

theorem GAsk.cells (x : GAsk) : x.val.cells.toList = x.enc := rfl
theorem GID.cells (x : GID) : x.val.cells.toList = x.enc := rfl
theorem GID.enc_one (x : GID) : allOne x.enc = true := rfl
theorem GAsk.enc_one (x : GAsk) : allOne x.enc = true := rfl
theorem GID.enc_len (x : GID) : x.enc.length = 3 := rfl
theorem GAsk.enc_len (x : GAsk) : x.enc.length = 5 := rfl
theorem GID.ones (xs : List GID) : allOnes (xs.map GID.enc) := by intro y hy; obtain ⟨x, _, rfl⟩ := List.mem_map.1 hy; rfl
theorem GAsk.ones (xs : List GAsk) : allOnes (xs.map GAsk.enc) := by intro y hy; obtain ⟨x, _, rfl⟩ := List.mem_map.1 hy; rfl

/-- Element 'k' of a list in memory. -/
theorem getMap {α β : Type} {f : α → β} {xs : List α} {k : Nat} {x : α} (h : xs[k]? = some x) : (xs.map f)[k]? = some (f x) := by simp [h]
theorem exAt {α : Type} {xs : List α} {k n : Nat} (h : k < n) (hl : xs.length = n) : ∃ x, xs[k]? = some x := ⟨xs[k], by simp [hl, h]⟩


/-! ### Lists -/

theorem take_succ_mem {α : Type} {xs : List α} {k : Nat} {x : α} (hx : xs[k]? = some x) {P : α → Prop} (h : ∀ y ∈ xs.take k, P y) (h1 : P x) : ∀ y ∈ xs.take (k + 1), P y := by
  intro y hy
  rw [List.take_add_one, hx] at hy
  rcases List.mem_append.1 hy with hy | hy
  · exact h y hy
  · simp at hy; subst hy; exact h1

theorem take_succ {α : Type} {xs : List α} {k : Nat} {x : α} (hx : xs[k]? = some x) : xs.take (k + 1) = xs.take k ++ [x] := by
  rw [List.take_add_one, hx]; rfl

theorem take_all {α : Type} {xs : List α} {n : Nat} (h : xs.length = n) : xs.take n = xs := List.take_of_length_le (by omega)

theorem findIdx_at {α : Type} {xs : List α} {k : Nat} {x : α} {q : α → Bool} (hx : xs[k]? = some x) (hq : q x = true) (h : ∀ y ∈ xs.take k, q y = false) : xs.findIdx? q = some k := by
  rw [List.findIdx?_eq_some_iff_getElem]
  have hk : k < xs.length := by rcases Nat.lt_or_ge k xs.length with h | h; exact h; simp [List.getElem?_eq_none h] at hx
  have hx' : xs[k] = x := by simpa [hk] using hx
  refine ⟨hk, by rw [hx']; exact hq, fun j hj => ?_⟩
  have := h xs[j] (List.mem_take_iff_getElem.2 ⟨j, by omega, rfl⟩)
  rw [this]; simp

theorem findIdx_none {α : Type} {xs : List α} {q : α → Bool} (h : ∀ y ∈ xs, q y = false) : xs.findIdx? q = none := by
  rw [List.findIdx?_eq_none_iff]; exact h

end Go.Eng
