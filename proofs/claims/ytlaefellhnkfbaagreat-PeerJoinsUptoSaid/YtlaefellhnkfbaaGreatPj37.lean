/-
 Part 37 of the proof of Pj: the engine and the walks, in their order.
-/
import Derived.Test.YtlaefellhnkfbaaGreatPj29
import Derived.Test.YtlaefellhnkfbaaGreatPj35
import Derived.Test.YtlaefellhnkfbaaGreatPj36
set_option linter.unusedSimpArgs false
set_option linter.unusedVariables false
namespace Go.Eng
section
variable {α : Type}
def c_ (lt : α → α → Bool) (x : α) (P : List α) : Nat → Nat
 | 0 => 0
 | j + 1 => match P[j]? with
  | some y => bif lt x y then c_ lt x P j else j + 1
  | none => j + 1
def bK (P : List α) (x : α) (j : Nat) : List α := P.take j ++ x :: P.drop j
def iZ (lt : α → α → Bool) (P : List α) (x : α) : List α := bK P x (c_ lt x P P.length)
def aL (lt : α → α → Bool) (l : List α) : List α := l.foldl (iZ lt) []
theorem kW {lt : α → α → Bool} {x : α} {P : List α} {j : Nat} (h : j < P.length) (hl : lt x P[j] = true) : c_ lt x P (j + 1) = c_ lt x P j := by
 simp only [c_, List.getElem?_eq_getElem h, hl, cond_true]
theorem kC {lt : α → α → Bool} {x : α} {P : List α} {j : Nat} (h : j < P.length) (hl : lt x P[j] = false) : c_ lt x P (j + 1) = j + 1 := by
 simp only [c_, List.getElem?_eq_getElem h, hl, cond_false]
theorem cC {P : List α} {x : α} {j : Nat} : (bK P x j).length = P.length + 1 := by
 simp only [bK, List.length_append, List.length_cons, List.length_take, List.length_drop]; omega
theorem pg {P : List α} {x : α} {j : Nat} (h : j ≤ P.length) : (bK P x j)[j]? = some x := by
 rw [bK, List.getElem?_append_right (by simp; omega)]
 have : j - (P.take j).length = 0 := by simp; omega
 rw [this]; rfl
theorem lM {P : List α} {x : α} {j : Nat} (h : j < P.length) : (bK P x (j + 1))[j]? = some P[j] := by
 rw [bK, List.getElem?_append_left (by simp; omega), List.getElem?_take_of_lt (by omega), List.getElem?_eq_getElem h]
theorem oW {P : List α} {x : α} {j : Nat} (h : j < P.length) : ((bK P x (j + 1)).set (j + 1) P[j]).set j x = bK P x j := by
 apply List.ext_getElem?
 intro k
 have l1 := cC (P := P) (x := x) (j := j + 1)
 rw [List.getElem?_set]
 by_cases e1 : j = k
 ·subst e1
  rw [if_pos rfl, if_pos (by simp only [List.length_set]; omega), pg (by omega)]
 rw [if_neg e1, List.getElem?_set]
 by_cases e2 : j + 1 = k
 ·subst e2
  rw [if_pos rfl, if_pos (by omega)]
  symm
  rw [bK, List.getElem?_append_right (by simp; omega)]
  have : j + 1 - (P.take j).length = 1 := by simp; omega
  rw [this, List.getElem?_cons_succ, List.getElem?_drop, Nat.add_zero, List.getElem?_eq_getElem h]
 rw [if_neg e2]
 simp only [bK]
 by_cases e3 : k < j
 ·rw [List.getElem?_append_left (by simp; omega), List.getElem?_append_left (by simp; omega), List.getElem?_take_of_lt (by omega), List.getElem?_take_of_lt (by omega)]
 ·rw [List.getElem?_append_right (by simp; omega), List.getElem?_append_right (by simp; omega)]
  have a1 : k - (P.take (j + 1)).length = (k - (j + 2)) + 1 := by simp; omega
  have a2 : k - (P.take j).length = (k - (j + 2)) + 2 := by simp; omega
  rw [a1, a2, List.getElem?_cons_succ, List.getElem?_cons_succ, List.getElem?_drop, List.getElem?_drop]
  congr 1; omega
theorem od {l : List α} {i : Nat} (P : List α) (h : i < l.length) (hP : P.length = i) : P ++ l.drop i = bK P l[i] P.length ++ l.drop (i + 1) := by
 rw [bK, List.take_length, List.drop_length, List.drop_eq_getElem_cons h, List.append_assoc]; rfl
theorem afj {lt : α → α → Bool} {P : List α} {x : α} : (iZ lt P x).length = P.length + 1 := cC
theorem jA {lt : α → α → Bool} : ∀ (l P : List α), (l.foldl (iZ lt) P).length = P.length + l.length
 | [], P => rfl
 | x :: r, P => by rw [List.foldl_cons, jA r, afj, List.length_cons]; omega
theorem bD {lt : α → α → Bool} {l : List α} : (aL lt l).length = l.length := by rw [aL, jA]; simp
theorem m9 {lt : α → α → Bool} {l : List α} {i : Nat} (h : i < l.length) : aL lt (l.take (i + 1)) = iZ lt (aL lt (l.take i)) l[i] := by
 rw [aL, List.take_add_one, List.getElem?_eq_getElem h, List.foldl_append]; rfl
theorem aa_ {P : List α} {x y : α} {j : Nat} (h : y ∈ bK P x j) : y = x ∨ y ∈ P := by
 simp only [bK, List.mem_append, List.mem_cons] at h
 rcases h with h | h | h
 ·exact .inr (List.mem_of_mem_take h)
 ·exact .inl h
 ·exact .inr (List.mem_of_mem_drop h)
theorem ft {lt : α → α → Bool} : ∀ {l P : List α} {y : α}, y ∈ l.foldl (iZ lt) P → y ∈ l ∨ y ∈ P
 | [], P, y, h => .inr h
 | x :: r, P, y, h => by
  rcases ft (l := r) (P := iZ lt P x) h with h | h
  ·exact .inl (List.mem_cons_of_mem _ h)
  ·rcases aa_ h with h | h
   ·exact .inl (by rw [h]; exact List.mem_cons_self)
   ·exact .inr h
end
structure pV where
 d : GDesc
 o : Nat
def fG (a b : Nat) : Int := if a < b then -1 else if b < a then 1 else 0
def vq (a b : pV) : Int := if fG b.o a.o ≠ 0 then fG b.o a.o else if fG a.d.age.toNat b.d.age.toNat ≠ 0 then fG a.d.age.toNat b.d.age.toNat else fG a.d.node.toNat b.d.node.toNat
def cr (a b : pV) : Bool := decide (vq a b < 0)
def cu (a b : GDesc) : Bool := decide (fG a.node.toNat b.node.toNat < 0)
end Go.Eng
namespace Go.Proofs.YtlaefellhnkfbaaGreat.V
open Go.Eng
def cw (own : List GSpan) (l : List GDesc) : List pV := (l.map fun d => ⟨d, pG own d.filter⟩).filter fun x => decide (0 < x.o)
def cO (own : List GSpan) (self : UInt8) (room : Int) (ls : List (List GDesc)) : List GDesc :=
 if room < 1 then [] else aL cu (((aL cr (cw own (bl self ls))).take room.toNat).map (·.d))
def ey (far : UInt16 → UInt16 → UInt16) (here : UInt16) (dom : List GSpan) (l : List GDesc) : Nat → Nat × UInt16
 | 0 => (0, far here (dY dom (l.headD aO)))
 | k + 1 => match l[k]? with
  | some d => if far here (dY dom d) < (ey far here dom l k).2 then (k, far here (dY dom d)) else ey far here dom l k
  | none => ey far here dom l k
def cF (far : UInt16 → UInt16 → UInt16) (here : UInt16) (dom : List GSpan) (l : List GDesc) : GDesc := l.getD (ey far here dom l l.length).1 aO
def cR (dom : List GSpan) (self : GDesc) (ls : List (List GDesc)) : fI :=
 if bl self.node ls = [] then ⟨false, false, aO, aO⟩
 else ⟨true, true, cF (fun h t => t - h) (dY dom self) dom (bl self.node ls), cF (fun h t => h - t) (dY dom self) dom (bl self.node ls)⟩
end Go.Proofs.YtlaefellhnkfbaaGreat.V

set_option maxRecDepth 10000
namespace Go.Proofs.YtlaefellhnkfbaaGreat.V
open Go.Eng
attribute [local go_sem] aU ah fzD plR bH z8 z16 z32 z64 c00
theorem oq (a : Int) : Con2 Tryz.prog 221 [.v (.int .u8 a)] (· = plR (.v (.bool false))) := by
 refine af Ty.mixed Tryz.func221 rfl (by kernel_rfl) (by kernel_rfl) rfl [.tmp 2] rfl ?_
 refine g2_ ?_
 refine gx_ ?_
 exact ⟨_, rfl, ab [] wx_⟩
theorem ry (a : Int) : Con2 Tryz.prog 246 [.v (.int .u32 a)] (· = plR (.v (.bool false))) := by
 refine af Ty.mixed Tryz.func246 rfl (by kernel_rfl) (by kernel_rfl) rfl [.tmp 2] rfl ?_
 refine g2_ ?_
 refine gx_ ?_
 exact ⟨_, rfl, ab [] wx_⟩
theorem pw (a b : Nat) : Con2 Tryz.prog 175 [.v (.int .u8 a), .v (.int .u8 b)] (· = plR (.v (.int .i64 (fG a b)))) := by
 refine af Ty.mixed Tryz.func175 rfl (by kernel_rfl) (by kernel_rfl) rfl [.tmp 4] rfl ?_
 refine g2_ ?_
 refine g2_ ?_
 refine CallS.eq (oq a) ws_ (.inl ws_) ?_
 refine g2_ ?_
 refine CallS.eq (oq b) ws_ (.inl ws_) ?_
 refine g2_ ?_
 by_cases h1 : (a : Int) < (b : Int)
 ·rw [decide_eq_true h1]
  refine g2_ ?_
  exact ⟨_, rfl, ab [] (by simp -implicitDefEqProofs only [go_sem, aa, fG, show a < b by omega, if_true])⟩
 rw [decide_eq_false h1]
 refine g2_ ?_
 by_cases h2 : (b : Int) < (a : Int)
 ·rw [decide_eq_true h2]
  refine g2_ ?_
  exact ⟨_, rfl, ab [] (by simp -implicitDefEqProofs only [go_sem, aa, fG, show ¬ a < b by omega, show b < a by omega, if_true, if_false])⟩
 rw [decide_eq_false h2]
 refine g2_ ?_
 exact ⟨_, rfl, ab [] (by simp -implicitDefEqProofs only [go_sem, aa, fG, show ¬ a < b by omega, show ¬ b < a by omega, if_true, if_false])⟩
theorem acP (a b : Nat) : Con2 Tryz.prog 219 [.v (.int .u32 a), .v (.int .u32 b)] (· = plR (.v (.int .i64 (fG a b)))) := by
 refine af Ty.mixed Tryz.func219 rfl (by kernel_rfl) (by kernel_rfl) rfl [.tmp 4] rfl ?_
 refine g2_ ?_
 refine g2_ ?_
 refine CallS.eq (ry a) ws_ (.inl ws_) ?_
 refine g2_ ?_
 refine CallS.eq (ry b) ws_ (.inl ws_) ?_
 refine g2_ ?_
 by_cases h1 : (a : Int) < (b : Int)
 ·rw [decide_eq_true h1]
  refine g2_ ?_
  exact ⟨_, rfl, ab [] (by simp -implicitDefEqProofs only [go_sem, aa, fG, show a < b by omega, if_true])⟩
 rw [decide_eq_false h1]
 refine g2_ ?_
 by_cases h2 : (b : Int) < (a : Int)
 ·rw [decide_eq_true h2]
  refine g2_ ?_
  exact ⟨_, rfl, ab [] (by simp -implicitDefEqProofs only [go_sem, aa, fG, show ¬ a < b by omega, show b < a by omega, if_true, if_false])⟩
 rw [decide_eq_false h2]
 refine g2_ ?_
 exact ⟨_, rfl, ab [] (by simp -implicitDefEqProofs only [go_sem, aa, fG, show ¬ a < b by omega, show ¬ b < a by omega, if_true, if_false])⟩
def or3 (a b c : Int) : Int := if a ≠ 0 then a else if b ≠ 0 then b else c
theorem ahT (a b c : Int) : Con2 Tryz.prog 218 [.fz 1 [[.v (.int .i64 a)], [.v (.int .i64 b)], [.v (.int .i64 c)]]] (· = plR (.v (.int .i64 (or3 a b c)))) := by
 refine af Ty.mixed Tryz.func218 rfl (by kernel_rfl) (by kernel_rfl) rfl [.tmp 2] rfl ?_
 refine g2_ ?_
 refine g2_ ?_
 refine aB 3 (fun k => []) (fun _ => []) (fun k => []) 0 (fun k => (0 < k → a = 0) ∧ (1 < k → b = 0) ∧ (2 < k → c = 0)) (ab [] ?_) (by omega) (fun g k => by first | rfl | (repeat first | simp -implicitDefEqProofs only [go_sem, aa] | with_reducible refine gl_ ?_)) (by omega) (fun g => by simp -implicitDefEqProofs only [go_sem, aa]) (fun k hk hF => ?_) (fun hF => ?_)
 ·repeat first | simp -implicitDefEqProofs only [go_sem, aa] | with_reducible refine gl_ ?_
  first | done | rfl | exact ⟨rfl, rfl⟩
 ·obtain ⟨f1, f2, f3⟩ := hF
  obtain ⟨x, hx, hgo⟩ : ∃ x : Int, ([[DV.v (.int .i64 a)], [.v (.int .i64 b)], [.v (.int .i64 c)]] : List (List DV))[k]? = some [.v (.int .i64 x)] ∧ ((x ≠ 0 → or3 a b c = x) ∧ (x = 0 → ((0 < k + 1 → a = 0) ∧ (1 < k + 1 → b = 0) ∧ (2 < k + 1 → c = 0)))) := by
   match k, hk with
   | 0, _ => exact ⟨a, rfl, fun h => if_pos h, fun h => by omega⟩
   | 1, _ => exact ⟨b, rfl, fun h => by have := f1 (by omega); rw [or3, if_neg (by omega), if_pos h], fun h => by omega⟩
   | 2, _ => exact ⟨c, rfl, fun h => by have := f1 (by omega); have := f2 (by omega); rw [or3, if_neg (by omega), if_neg (by omega)], fun h => by omega⟩
  refine gf_ hx ?_
  refine oR (fun h => ?_) (fun h => ?_)
  ·rw [hgo.1 h]
   refine g2_ ?_
   exact ⟨_, rfl, ab [] ws_⟩
  ·refine g2_ ?_
   exact ⟨k + 1, ab [] ws_, rfl, hgo.2 (by omega)⟩
 ·obtain ⟨f1, f2, f3⟩ := hF
  have e : or3 a b c = 0 := by rw [or3, if_neg (by omega), if_neg (by omega)]; omega
  rw [e]
  refine g2_ ?_
  exact ⟨_, rfl, ab [] ws_⟩
theorem agJ (x y : pV) : Con2 Tryz.prog 172 [.agg (ah x.d), .v (.int .u32 x.o), .agg (ah y.d), .v (.int .u32 y.o)] (· = plR (.v (.int .i64 (vq x y)))) := by
 have e : vq x y = or3 (fG y.o x.o) (fG x.d.age.toNat y.d.age.toNat) (fG x.d.node.toNat y.d.node.toNat) := rfl
 rw [e]
 have k1 := acP y.o x.o
 have k2 := pw x.d.age.toNat y.d.age.toNat
 have k3 := pw x.d.node.toNat y.d.node.toNat
 have k4 := ahT (fG y.o x.o) (fG x.d.age.toNat y.d.age.toNat) (fG x.d.node.toNat y.d.node.toNat)
 generalize fG y.o x.o = a at k1 k4
 generalize fG x.d.age.toNat y.d.age.toNat = b at k2 k4
 generalize fG x.d.node.toNat y.d.node.toNat = c at k3 k4
 refine af Ty.mixed Tryz.func172 rfl (by kernel_rfl) (by kernel_rfl) rfl [.tmp 8] rfl ?_
 refine g2_ ?_
 refine g2_ ?_
 refine .inl ⟨oF [0, 1, 3, 5, 8, 10, 4, 6, 9, 11] (oT 2 (oT 7 (oF [12, 13, 14, 15] []))), by kernel_rfl, ?_⟩
 refine g2_ ?_
 refine CallS.eq k1 ws_ (.inl ws_) ?_
 refine g2_ ?_
 refine CallS.eq k2 ws_ (.inl ws_) ?_
 refine g2_ ?_
 refine CallS.eq k3 ws_ (.inl ws_) ?_
 refine g2_ ?_
 refine CallS.eq k4 ws_ (.inl ws_) ?_
 refine g2_ ?_
 exact ⟨_, rfl, ab [] ws_⟩
def ah1 : Nat → Nat
 | 0 => 0
 | 1 => 1
 | 2 => 2
 | 3 => 2
 | 4 => 3
 | 5 => 3
 | 6 => 3
 | 7 => 3
 | _ => 4
theorem aeT (n : Nat) (hn : n ≤ 12) : Con2 Tryz.prog 192 [.v (.int .u64 n)] (· = plR (.v (.int .i64 (ah1 n)))) := by
 refine af Ty.mixed Tryz.func192 rfl (by kernel_rfl) (by kernel_rfl) rfl [.tmp 2] rfl ?_
 refine g2_ ?_
 refine g2_ ?_
 rw [show decide ((4294967296 : Int) ≤ n) = false from decide_eq_false (by omega)]
 refine g2_ ?_
 rw [show decide ((65536 : Int) ≤ n) = false from decide_eq_false (by omega)]
 refine g2_ ?_
 rw [show decide ((256 : Int) ≤ n) = false from decide_eq_false (by omega)]
 refine g2_ ?_
 refine jg (by omega) ?_
 refine g2_ ?_
 refine ⟨.int .u8 (ah1 n), fun w => ?_, ?_⟩
 ·match n, hn with
  | 0, _ => show _ = _; kernel_rfl
  | 1, _ => show _ = _; kernel_rfl
  | 2, _ => show _ = _; kernel_rfl
  | 3, _ => show _ = _; kernel_rfl
  | 4, _ => show _ = _; kernel_rfl
  | 5, _ => show _ = _; kernel_rfl
  | 6, _ => show _ = _; kernel_rfl
  | 7, _ => show _ = _; kernel_rfl
  | 8, _ => show _ = _; kernel_rfl
  | 9, _ => show _ = _; kernel_rfl
  | 10, _ => show _ = _; kernel_rfl
  | 11, _ => show _ = _; kernel_rfl
  | 12, _ => show _ = _; kernel_rfl
  | k + 13, h => omega
 have hb : ah1 n ≤ 4 := by
  match n, hn with
  | 0, _ => decide
  | 1, _ => decide
  | 2, _ => decide
  | 3, _ => decide
  | 4, _ => decide
  | 5, _ => decide
  | 6, _ => decide
  | 7, _ => decide
  | k + 8, _ => exact Nat.le_refl 4
 refine gf_ @Int.zero_add ?_
 exact ⟨_, rfl, ab [] (wf_ @Int.zero_add)⟩
theorem uS (n : Nat) (hn : n ≤ 12) : Con2 Tryz.prog 115 [.v (.int .u64 n)] (· = plR (.v (.int .i64 (ah1 n)))) := by
 refine af Ty.mixed Tryz.func115 rfl (by kernel_rfl) (by kernel_rfl) rfl [.tmp 2] rfl ?_
 refine g2_ ?_
 refine g2_ ?_
 refine CallS.eq (aeT n hn) ws_ (.inl ws_) ?_
 refine g2_ ?_
 exact ⟨_, rfl, ab [] ws_⟩
end Go.Proofs.YtlaefellhnkfbaaGreat.V

set_option maxRecDepth 10000
namespace Go.Eng
def bE (s : pV) : List DV := [.v (.int .u8 s.d.node.toNat), .v (.int .u16 s.d.inc.toNat), .v (.int .u8 s.d.age.toNat), .fz 2 (s.d.filter.map aU), .v (.int .u32 s.o)]
end Go.Eng
namespace Go.Proofs.YtlaefellhnkfbaaGreat.V
open Go.Eng
attribute [local go_sem] aU ah fzD plR bH z8 z16 z32 z64 c00 bE
theorem agp (x y : pV) : Con2 Tryz.prog 171 [.agg (bE x), .agg (bE y)] (· = plR (.v (.int .i64 (vq x y)))) := by
 refine af Ty.mixed Tryz.func171 rfl (by kernel_rfl) (by kernel_rfl) rfl [.tmp 4] rfl ?_
 refine g2_ ?_
 refine g2_ ?_
 refine CallS.eq (agJ x y) ws_ (.inl ws_) ?_
 refine g2_ ?_
 exact ⟨_, rfl, ab [] ws_⟩
def ajC (a b : GDesc) : Int := fG a.node.toNat b.node.toNat
theorem afZ (x y : GDesc) : Con2 Tryz.prog 174 [.agg (ah x), .agg (ah y)] (· = plR (.v (.int .i64 (ajC x y)))) := by
 refine af Ty.mixed Tryz.func174 rfl (by kernel_rfl) (by kernel_rfl) rfl [.tmp 4] rfl ?_
 refine g2_ ?_
 refine g2_ ?_
 refine CallS.eq (pw x.node.toNat y.node.toNat) ws_ (.inl ws_) ?_
 refine g2_ ?_
 exact ⟨_, rfl, ab [] (by simp -implicitDefEqProofs only [go_sem, aa]; rfl)⟩
theorem aih (l : List pV) (hl : l.length ≤ 12) {ρ σ nb K} (hk : K (.tup []) ⟨ρ, σ, [(0, .arr 203 5 ((aL cr l).map bE) false)], 1, nb⟩) :
  CallS Tryz.prog false 238 [.rf 0 0 l.length, .v (.int .i64 0), .v (.int .i64 l.length), .fn 171 [] []] ⟨ρ, σ, [(0, .arr 203 5 (l.map bE) false)], 1, nb⟩ K := by
 refine CallS.inline Ty.mixed Tryz.func238 rfl (by kernel_rfl) (by kernel_rfl) rfl [] rfl (Vc2.of ?_)
 refine g2_ ?_
 refine g2_ ?_
 refine bF (γ := Nat) (fun i => [(8, .d (.v (.int .i64 (i : Nat))))]) (fun _ => []) (fun i => [(0, .arr 203 5 ((aL cr (l.take i) ++ l.drop i).map bE) false)]) 1 (fun i => 1 ≤ i ∧ (l.length < i → i = 1)) (fun i => l.length + 1 - i) 1 (ab [] ?_) ⟨by omega, by omega⟩ (fun i hi => ?_)
 ·have e : aL cr (l.take 1) ++ l.drop 1 = l := by
   cases l with
   | nil => rfl
   | cons x r => rfl
  repeat first | simp -implicitDefEqProofs only [go_sem, aa, e] | with_reducible refine gl_ ?_
  first | rfl | exact ⟨rfl, rfl⟩ | trace_state
 obtain ⟨hi1, hi2⟩ := hi
 refine g2_ ?_
 by_cases hlt : i < l.length
 ·rw [decide_eq_true (show (i : Int) < (l.length : Int) by omega)]
  refine g2_ ?_
  obtain ⟨P, hP⟩ : ∃ P, P = aL cr (l.take i) := ⟨_, rfl⟩
  have hPl : P.length = i := by rw [hP, bD, List.length_take]; omega
  obtain ⟨x, hx⟩ : ∃ x, x = l[i] := ⟨_, rfl⟩
  have hnext : c_ cr x P i ≤ i → bK P x (c_ cr x P i) ++ l.drop (i + 1) = aL cr (l.take (i + 1)) ++ l.drop (i + 1) := by
   intro _; rw [m9 hlt, ← hP, ← hx, iZ, hPl]
  have h0 : aL cr (l.take i) ++ l.drop i = bK P x i ++ l.drop (i + 1) := by
   rw [← hP, hx]; have := od P hlt hPl; rwa [hPl] at this
  rw [h0]
  generalize hD : l.drop (i + 1) = rest at hnext
  have r1 : ∀ j, j ≤ i → ((bK P x j ++ rest).map bE)[j]? = some (bE x) := fun j hj => by
   rw [List.getElem?_map, List.getElem?_append_left (by rw [cC]; omega), pg (by omega)]; rfl
  have r2 : ∀ j, (hj : j < i) → ((bK P x (j + 1) ++ rest).map bE)[j]? = some (bE (P[j]'(by omega))) := fun j hj => by
   rw [List.getElem?_map, List.getElem?_append_left (by rw [cC]; omega), lM (by omega)]; rfl
  have r3 : ∀ j, ((bK P x j ++ rest).map bE).length = l.length := fun j => by
   rw [List.length_map, List.length_append, cC, ← hD, List.length_drop]; omega
  have r4 : ∀ j, (hj : j < i) → ((((bK P x (j + 1) ++ rest).map bE).set (j + 1) (bE (P[j]'(by omega)))).set j (bE x)) = (bK P x j ++ rest).map bE := fun j hj => by
   rw [← List.map_set, ← List.map_set, List.set_append_left _ _ (by rw [cC]; omega), List.set_append_left _ _ (by rw [List.length_set, cC]; omega), oW (by omega)]
  refine bF (γ := Nat) (fun j => [(9, .d (.v (.int .i64 (j : Nat))))]) (fun _ => []) (fun j => [(0, .arr 203 5 ((bK P x j ++ rest).map bE) false)]) 1 (fun j => j ≤ i ∧ c_ cr x P j = c_ cr x P i) (fun j => j) i (ab [] ?_) ⟨Nat.le_refl _, rfl⟩ (fun j hj => ?_)
  ·repeat first | simp -implicitDefEqProofs only [go_sem, aa] | with_reducible refine gl_ ?_
   first | done | rfl | exact ⟨rfl, rfl⟩
  obtain ⟨hj1, hj2⟩ := hj
  cases j with
  | zero =>
   rw [← hj2] at hnext
   refine g2_ ?_
   refine .inl ⟨oF [0, 1, 2, 3, 4, 5, 6, 9, 10, 7, 11, 8, 12, 13, 14, 15, 16] [], by kernel_rfl, ?_⟩
   refine g2_ ?_
   rw [show decide ((0 : Int) < 0) = false from rfl]
   have hz : bK P x 0 ++ rest = aL cr (l.take (i + 1)) ++ l.drop (i + 1) := by rw [hD]; exact hnext (Nat.zero_le _)
   rw [hz]
   refine g2_ ?_
   refine ⟨i + 1, ab [] ?_, ⟨by omega, by omega⟩, by omega⟩
   refine g2_ ?_
   rfl
  | succ j =>
   have hjP : j < P.length := by omega
   have hcc := agp x P[j]
   have q1 := r1 (j + 1) hj1
   have q2 := r2 j (by omega)
   have q3 := r3 (j + 1)
   have q4 := r4 j (by omega)
   generalize q6 : (bK P x (j + 1) ++ rest).map bE = R at q1 q2 q3 q4
   have q5 : ∀ v, (R.set (j + 1) v)[j]? = some (bE P[j]) := fun v => by rw [List.getElem?_set_ne (by omega)]; exact q2
   simp only [bE] at q1 q2 q4 q5
   refine g2_ ?_
   refine .inl ⟨oF [0, 1, 2, 3, 4, 5, 6, 9, 10, 7, 11, 8, 12, 13, 14, 15, 16] [], by kernel_rfl, ?_⟩
   refine g2_ ?_
   rw [show decide ((0 : Int) < ((j + 1 : Nat) : Int)) = true from decide_eq_true (by omega)]
   have e1 : ((j + 1 : Nat) : Int) - 1 = (j : Nat) := by omega
   refine gi_ q1 q2 q3 e1 ?_
   refine CallS.eq hcc ws_ (.inl ws_) ?_
   refine g2_ ?_
   by_cases hc : vq x P[j] < 0
   ·rw [decide_eq_true hc]
    have hs : c_ cr x P (j + 1) = c_ cr x P j := kW hjP (decide_eq_true hc)
    refine g2_ ?_
    refine .inl ⟨oF [0, 1, 2, 3, 5, 6, 10, 11, 4, 7, 12, 8, 13, 9, 14, 15, 16, 17] [], by kernel_rfl, ?_⟩
    repeat first | simp -implicitDefEqProofs only [go_sem, aa, q1, q2, q3, q5, e1, Int.toNat_natCast, List.contains_nil] | with_reducible first | refine gl_ ?_ | refine ga_ ?_ | refine gn_ ?_
    refine ⟨j, ab [] ?_, ⟨by omega, by omega⟩, by omega⟩
    rw [← q4]
    exact ws_
   ·rw [decide_eq_false hc]
    have hs : c_ cr x P (j + 1) = j + 1 := kC hjP (decide_eq_false hc)
    rw [← hj2, hs] at hnext
    rw [← q6, hnext hj1, ← hD]
    refine g2_ ?_
    refine ⟨i + 1, ab [] ?_, ⟨by omega, by omega⟩, by omega⟩
    refine g2_ ?_
    rfl
 ·rw [decide_eq_false (show ¬ (i : Int) < (l.length : Int) by omega)]
  have e : aL cr (l.take i) ++ l.drop i = aL cr l := by
   by_cases h : l.length = 0
   ·have := List.eq_nil_of_length_eq_zero h; subst this; simp
   ·rw [List.take_of_length_le (by omega), List.drop_eq_nil_of_le (by omega), List.append_nil]
  rw [e]
  refine g2_ ?_
  exact hk
theorem aia (l : List pV) (m : Int) (hl : l.length ≤ 12) {ρ σ nb K} (hk : K (.tup []) ⟨ρ, σ, [(0, .arr 203 5 ((aL cr l).map bE) false)], 1, nb⟩) :
  CallS Tryz.prog false 217 [.rf 0 0 l.length, .v (.int .i64 0), .v (.int .i64 l.length), .v (.int .i64 m), .fn 171 [] []] ⟨ρ, σ, [(0, .arr 203 5 (l.map bE) false)], 1, nb⟩ K := by
 refine CallS.inline Ty.mixed Tryz.func217 rfl (by kernel_rfl) (by kernel_rfl) rfl [] rfl (Vc2.of ?_)
 refine g2_ ?_
 refine g2_ ?_
 refine bF (γ := Unit) (fun _ => []) (fun _ => []) (fun _ => [(0, .arr 203 5 (l.map bE) false)]) 1 (fun _ => True) (fun _ => 0) () (ab [] ws_) trivial (fun i hi => ?_)
 refine g2_ ?_
 rw [show decide ((l.length : Int) - 0 ≤ 12) = true from decide_eq_true (by omega)]
 refine g2_ ?_
 refine aih l hl ?_
 refine g2_ ?_
 exact hk
theorem afX (l : List pV) (hl : l.length ≤ 12) {ρ σ nb K} (hk : K (.tup []) ⟨ρ, σ, [(0, .arr 203 5 ((aL cr l).map bE) false)], 1, nb⟩) :
  CallS Tryz.prog false 170 [.rf 0 0 l.length, .fn 171 [] []] ⟨ρ, σ, [(0, .arr 203 5 (l.map bE) false)], 1, nb⟩ K := by
 refine CallS.inline Ty.mixed Tryz.func170 rfl (by kernel_rfl) (by kernel_rfl) rfl [] rfl (Vc2.of ?_)
 refine g2_ ?_
 refine g2_ ?_
 refine hZ (by omega) ?_
 refine g2_ ?_
 refine CallS.eq (uS l.length hl) ws_ (.inl ws_) ?_
 refine g2_ ?_
 refine aia l _ hl ?_
 refine g2_ ?_
 exact hk
theorem aho (l : List GDesc) (hl : l.length ≤ 12) {L0 : List (List DV)}{ρ σ nb K} (hk : K (.tup []) ⟨ρ, σ, [(1, .arr 34 4 ((aL cu l).map ah) false), (0, .arr 203 5 L0 false)], 2, nb⟩) :
  CallS Tryz.prog false 247 [.rf 1 0 l.length, .v (.int .i64 0), .v (.int .i64 l.length), .fn 174 [] []] ⟨ρ, σ, [(1, .arr 34 4 (l.map ah) false), (0, .arr 203 5 L0 false)], 2, nb⟩ K := by
 refine CallS.inline Ty.mixed Tryz.func247 rfl (by kernel_rfl) (by kernel_rfl) rfl [] rfl (Vc2.of ?_)
 refine g2_ ?_
 refine g2_ ?_
 refine bF (γ := Nat) (fun i => [(8, .d (.v (.int .i64 (i : Nat))))]) (fun _ => []) (fun i => [(1, .arr 34 4 ((aL cu (l.take i) ++ l.drop i).map ah) false), (0, .arr 203 5 L0 false)]) 2 (fun i => 1 ≤ i ∧ (l.length < i → i = 1)) (fun i => l.length + 1 - i) 1 (ab [] ?_) ⟨by omega, by omega⟩ (fun i hi => ?_)
 ·have e : aL cu (l.take 1) ++ l.drop 1 = l := by
   cases l with
   | nil => rfl
   | cons x r => rfl
  repeat first | simp -implicitDefEqProofs only [go_sem, aa, e] | with_reducible refine gl_ ?_
  first | rfl | exact ⟨rfl, rfl⟩ | trace_state
 obtain ⟨hi1, hi2⟩ := hi
 refine g2_ ?_
 by_cases hlt : i < l.length
 ·rw [decide_eq_true (show (i : Int) < (l.length : Int) by omega)]
  refine g2_ ?_
  obtain ⟨P, hP⟩ : ∃ P, P = aL cu (l.take i) := ⟨_, rfl⟩
  have hPl : P.length = i := by rw [hP, bD, List.length_take]; omega
  obtain ⟨x, hx⟩ : ∃ x, x = l[i] := ⟨_, rfl⟩
  have hnext : c_ cu x P i ≤ i → bK P x (c_ cu x P i) ++ l.drop (i + 1) = aL cu (l.take (i + 1)) ++ l.drop (i + 1) := by
   intro _; rw [m9 hlt, ← hP, ← hx, iZ, hPl]
  have h0 : aL cu (l.take i) ++ l.drop i = bK P x i ++ l.drop (i + 1) := by
   rw [← hP, hx]; have := od P hlt hPl; rwa [hPl] at this
  rw [h0]
  generalize hD : l.drop (i + 1) = rest at hnext
  have r1 : ∀ j, j ≤ i → ((bK P x j ++ rest).map ah)[j]? = some (ah x) := fun j hj => by
   rw [List.getElem?_map, List.getElem?_append_left (by rw [cC]; omega), pg (by omega)]; rfl
  have r2 : ∀ j, (hj : j < i) → ((bK P x (j + 1) ++ rest).map ah)[j]? = some (ah (P[j]'(by omega))) := fun j hj => by
   rw [List.getElem?_map, List.getElem?_append_left (by rw [cC]; omega), lM (by omega)]; rfl
  have r3 : ∀ j, ((bK P x j ++ rest).map ah).length = l.length := fun j => by
   rw [List.length_map, List.length_append, cC, ← hD, List.length_drop]; omega
  have r4 : ∀ j, (hj : j < i) → ((((bK P x (j + 1) ++ rest).map ah).set (j + 1) (ah (P[j]'(by omega)))).set j (ah x)) = (bK P x j ++ rest).map ah := fun j hj => by
   rw [← List.map_set, ← List.map_set, List.set_append_left _ _ (by rw [cC]; omega), List.set_append_left _ _ (by rw [List.length_set, cC]; omega), oW (by omega)]
  refine bF (γ := Nat) (fun j => [(9, .d (.v (.int .i64 (j : Nat))))]) (fun _ => []) (fun j => [(1, .arr 34 4 ((bK P x j ++ rest).map ah) false), (0, .arr 203 5 L0 false)]) 2 (fun j => j ≤ i ∧ c_ cu x P j = c_ cu x P i) (fun j => j) i (ab [] ?_) ⟨Nat.le_refl _, rfl⟩ (fun j hj => ?_)
  ·repeat first | simp -implicitDefEqProofs only [go_sem, aa] | with_reducible refine gl_ ?_
   first | done | rfl | exact ⟨rfl, rfl⟩
  obtain ⟨hj1, hj2⟩ := hj
  cases j with
  | zero =>
   rw [← hj2] at hnext
   refine g2_ ?_
   refine .inl ⟨oF [0, 1, 2, 3, 4, 5, 6, 9, 10, 7, 11, 8, 12, 13, 14, 15, 16] [], by kernel_rfl, ?_⟩
   refine g2_ ?_
   rw [show decide ((0 : Int) < 0) = false from rfl]
   have hz : bK P x 0 ++ rest = aL cu (l.take (i + 1)) ++ l.drop (i + 1) := by rw [hD]; exact hnext (Nat.zero_le _)
   rw [hz]
   refine g2_ ?_
   refine ⟨i + 1, ab [] ?_, ⟨by omega, by omega⟩, by omega⟩
   refine g2_ ?_
   rfl
  | succ j =>
   have hjP : j < P.length := by omega
   have hcc := afZ x P[j]
   have q1 := r1 (j + 1) hj1
   have q2 := r2 j (by omega)
   have q3 := r3 (j + 1)
   have q4 := r4 j (by omega)
   generalize q6 : (bK P x (j + 1) ++ rest).map ah = R at q1 q2 q3 q4
   have q5 : ∀ v, (R.set (j + 1) v)[j]? = some (ah P[j]) := fun v => by rw [List.getElem?_set_ne (by omega)]; exact q2
   simp only [ah] at q1 q2 q4 q5
   refine g2_ ?_
   refine .inl ⟨oF [0, 1, 2, 3, 4, 5, 6, 9, 10, 7, 11, 8, 12, 13, 14, 15, 16] [], by kernel_rfl, ?_⟩
   refine g2_ ?_
   rw [show decide ((0 : Int) < ((j + 1 : Nat) : Int)) = true from decide_eq_true (by omega)]
   have e1 : ((j + 1 : Nat) : Int) - 1 = (j : Nat) := by omega
   refine gi_ q1 q2 q3 e1 ?_
   refine CallS.eq hcc ws_ (.inl ws_) ?_
   refine g2_ ?_
   by_cases hc : ajC x P[j] < 0
   ·rw [decide_eq_true hc]
    have hs : c_ cu x P (j + 1) = c_ cu x P j := kW hjP (decide_eq_true hc)
    refine g2_ ?_
    refine .inl ⟨oF [0, 1, 2, 3, 5, 6, 10, 11, 4, 7, 12, 8, 13, 9, 14, 15, 16, 17] [], by kernel_rfl, ?_⟩
    repeat first | simp -implicitDefEqProofs only [go_sem, aa, q1, q2, q3, q5, e1, Int.toNat_natCast, List.contains_nil] | with_reducible first | refine gl_ ?_ | refine ga_ ?_ | refine gn_ ?_
    refine ⟨j, ab [] ?_, ⟨by omega, by omega⟩, by omega⟩
    rw [← q4]
    exact ws_
   ·rw [decide_eq_false hc]
    have hs : c_ cu x P (j + 1) = j + 1 := kC hjP (decide_eq_false hc)
    rw [← hj2, hs] at hnext
    rw [← q6, hnext hj1, ← hD]
    refine g2_ ?_
    refine ⟨i + 1, ab [] ?_, ⟨by omega, by omega⟩, by omega⟩
    refine g2_ ?_
    rfl
 ·rw [decide_eq_false (show ¬ (i : Int) < (l.length : Int) by omega)]
  have e : aL cu (l.take i) ++ l.drop i = aL cu l := by
   by_cases h : l.length = 0
   ·have := List.eq_nil_of_length_eq_zero h; subst this; simp
   ·rw [List.take_of_length_le (by omega), List.drop_eq_nil_of_le (by omega), List.append_nil]
  rw [e]
  refine g2_ ?_
  exact hk
theorem aiE (l : List GDesc) (m : Int) (hl : l.length ≤ 12) {L0 : List (List DV)}{ρ σ nb K} (hk : K (.tup []) ⟨ρ, σ, [(1, .arr 34 4 ((aL cu l).map ah) false), (0, .arr 203 5 L0 false)], 2, nb⟩) :
  CallS Tryz.prog false 220 [.rf 1 0 l.length, .v (.int .i64 0), .v (.int .i64 l.length), .v (.int .i64 m), .fn 174 [] []] ⟨ρ, σ, [(1, .arr 34 4 (l.map ah) false), (0, .arr 203 5 L0 false)], 2, nb⟩ K := by
 refine CallS.inline Ty.mixed Tryz.func220 rfl (by kernel_rfl) (by kernel_rfl) rfl [] rfl (Vc2.of ?_)
 refine g2_ ?_
 refine g2_ ?_
 refine bF (γ := Unit) (fun _ => []) (fun _ => []) (fun _ => [(1, .arr 34 4 (l.map ah) false), (0, .arr 203 5 L0 false)]) 2 (fun _ => True) (fun _ => 0) () (ab [] ws_) trivial (fun i hi => ?_)
 refine g2_ ?_
 rw [show decide ((l.length : Int) - 0 ≤ 12) = true from decide_eq_true (by omega)]
 refine g2_ ?_
 refine aho l hl ?_
 refine g2_ ?_
 exact hk
theorem agm (l : List GDesc) (hl : l.length ≤ 12) {L0 : List (List DV)}{ρ σ nb K} (hk : K (.tup []) ⟨ρ, σ, [(1, .arr 34 4 ((aL cu l).map ah) false), (0, .arr 203 5 L0 false)], 2, nb⟩) :
  CallS Tryz.prog false 173 [.rf 1 0 l.length, .fn 174 [] []] ⟨ρ, σ, [(1, .arr 34 4 (l.map ah) false), (0, .arr 203 5 L0 false)], 2, nb⟩ K := by
 refine CallS.inline Ty.mixed Tryz.func173 rfl (by kernel_rfl) (by kernel_rfl) rfl [] rfl (Vc2.of ?_)
 refine g2_ ?_
 refine g2_ ?_
 refine hZ (by omega) ?_
 refine g2_ ?_
 refine CallS.eq (uS l.length hl) ws_ (.inl ws_) ?_
 refine g2_ ?_
 refine aiE l _ hl ?_
 refine g2_ ?_
 exact hk
end Go.Proofs.YtlaefellhnkfbaaGreat.V

set_option maxRecDepth 10000
namespace Go.Proofs.YtlaefellhnkfbaaGreat.V
open Go.Eng
attribute [local go_sem] aU ah fzD plR bH z8 z16 z32 z64 c00
theorem ny (own : List GSpan) (l : List GDesc) (k : Nat) : (cw own (l.take k)).length ≤ l.length := by
 refine Nat.le_trans (List.length_filter_le _ _) ?_
 rw [List.length_map, List.length_take]; omega
theorem tl {own : List GSpan} {l : List GDesc} {k : Nat} (h : k < l.length) : cw own (l.take (k + 1)) = cw own (l.take k) ++ (if 0 < pG own l[k].filter then [⟨l[k], pG own l[k].filter⟩] else []) := by
 rw [cw, List.take_add_one, List.getElem?_eq_getElem h, List.map_append, List.filter_append]
 congr 1
 by_cases h2 : 0 < pG own l[k].filter
 ·rw [if_pos h2]; simp [h2]
 ·rw [if_neg h2]; simp [h2]
theorem wa (own : List GSpan) (self : UInt8) (room : Int) (L : List (List GDesc)) (hL : L.length ≤ 4000000) (hl : ∀ l ∈ L, bZ l) (h1 : own.length ≤ 4000000) (h2 : ∀ s ∈ own, okS s) (hok : ∀ d ∈ bl self L, d.filter.length ≤ 4000000 ∧ ∀ s ∈ d.filter, okS s) (h12 : (bl self L).length ≤ 12) :
  Con2 Tryz.prog 111 [fzS own, .v (.int .u8 self.toNat), .v (.int .i64 room), .fz 1 (lE L)] (· = plR (fzD (cO own self room L))) := by
 refine Con2.ofEmb ?_
 have hu := qX self L hL hl
 unfold cO
 generalize bl self L = known at hu hok h12
 refine af Ty.mixed Tryz.func111 rfl (by kernel_rfl) (by kernel_rfl) rfl [.tmp 8] rfl ?_
 refine g2_ ?_
 refine g2_ ?_
 by_cases hr : room < 1
 ·rw [decide_eq_true hr, if_pos hr]
  refine g2_ ?_
  refine ae ?_ rfl
  exact wx_
 rw [decide_eq_false hr, if_neg hr]
 refine g2_ ?_
 refine CallS.eq hu ws_ (.inl ws_) ?_
 refine g2_ ?_
 refine aB known.length (fun k => [(9, .d (.rf 0 0 (cw own (known.take k)).length))]) (fun _ => []) (fun k => [(0, .arr 203 5 ((cw own (known.take k)).map bE) false)]) 1 (fun _ => True) (ab [(0, .nil 5)] ?_) trivial (fun g k => by simp -implicitDefEqProofs only [go_sem, aa]) (by omega) (fun g => by simp -implicitDefEqProofs only [go_sem, aa]) (fun k hk _ => ?_) (fun _ => ?_)
 ·repeat first | simp -implicitDefEqProofs only [go_sem, aa, List.take_zero, cw, List.filter_nil, List.map_nil] | with_reducible refine gl_ ?_
  first | rfl | exact ⟨rfl, rfl⟩ | trace_state
 ·have hsl := ny own known k
  have hsn := tl (own := own) hk
  have hd := hok _ (List.getElem_mem hk)
  have hov := aaN own known[k].filter (by omega) (by omega) h2 hd.2
  repeat first | simp -implicitDefEqProofs only [go_sem, aa, aw hk] | with_reducible first | refine gl_ ?_ | refine ga_ ?_ | refine gn_ ?_
  generalize known[k] = d at hsn hov
  refine CallS.eq hov ws_ (.inl ws_) ?_
  refine g2_ ?_
  by_cases h3 : (0 : Int) < (pG own d.filter : Int)
  ·rw [decide_eq_true h3]
   rw [if_pos (by omega)] at hsn
   refine gx_ ?_
   refine ⟨k + 1, ab [(0, .to 2)] ?_, rfl⟩
   repeat first | simp -implicitDefEqProofs only [go_sem, aa, hsn, List.length_append] | with_reducible refine gl_ ?_
   rw [List.map_append]
   rfl
  ·rw [decide_eq_false h3]
   rw [if_neg (by omega), List.append_nil] at hsn
   refine gx_ ?_
   refine ⟨k + 1, ab [(0, .to 0)] ?_, rfl⟩
   repeat first | simp -implicitDefEqProofs only [go_sem, aa, hsn, List.length_append] | with_reducible refine gl_ ?_
 ·have he : known.take known.length = known := List.take_of_length_le (by omega)
  have hsl := ny own known known.length
  rw [he] at hsl ⊢
  generalize cw own known = S at hsl
  refine g2_ ?_
  refine afX S (by omega) ?_
  refine g2_ ?_
  obtain ⟨T, hT⟩ : ∃ T, T = aL cr S := ⟨_, rfl⟩
  have hTl : T.length = S.length := by rw [hT, bD]
  rw [← hT]
  obtain ⟨m, hm⟩ : ∃ m : Nat, m = min room.toNat T.length := ⟨_, rfl⟩
  have hmi : (if (S.length : Int) < room then (S.length : Int) else room) = (m : Int) := by split <;> omega
  have htk : T.take room.toNat = T.take m := by
   by_cases h : room.toNat ≤ T.length
   ·rw [show m = room.toNat by omega]
   ·rw [List.take_of_length_le (by omega), List.take_of_length_le (by omega)]
  rw [htk, hmi]
  refine aB m (fun k => [(13, .d (.rf 1 0 ((T.take k).map (·.d)).length))]) (fun _ => []) (fun k => [(1, .arr 34 4 (((T.take k).map (·.d)).map ah) false), (0, .arr 203 5 (T.map bE) false)]) 2 (fun _ => True) (ab [(1, .nil 4), (0, .to 0)] ?_) trivial (fun g k => by simp -implicitDefEqProofs only [go_sem, aa]) (by omega) (fun g => by simp -implicitDefEqProofs only [go_sem, aa]) (fun k hk _ => ?_) (fun _ => ?_)
  ·repeat first | simp -implicitDefEqProofs only [go_sem, aa, List.take_zero, List.map_nil] | with_reducible refine gl_ ?_
   first | done | rfl | exact ⟨rfl, rfl⟩
  ·have hkT : k < T.length := by omega
   have hg : (T.map bE)[k]? = some (bE T[k]) := by rw [List.getElem?_map, List.getElem?_eq_getElem hkT]; rfl
   have hsn : (T.take (k + 1)).map (·.d) = (T.take k).map (·.d) ++ [T[k].d] := by
    rw [List.take_add_one, List.getElem?_eq_getElem hkT, List.map_append]; rfl
   have hcl : ((T.take k).map (·.d)).length ≤ 12 := by rw [List.length_map, List.length_take]; omega
   generalize (T.take k).map (·.d) = C at hsn hcl
   simp only [bE] at hg
   refine gg_ hg hTl ?_
   refine ⟨k + 1, ab [(1, .to 3), (0, .to 0)] ?_, rfl⟩
   have hsl2 : (T.take (k + 1)).length = C.length + 1 := by have := congrArg List.length hsn; rw [List.length_map, List.length_append] at this; exact this
   repeat first | simp -implicitDefEqProofs only [go_sem, aa, hsn, List.length_append] | with_reducible refine gl_ ?_
   rw [List.map_append]
   exact ⟨hsl2, rfl⟩
  ·have hcl : ((T.take m).map (·.d)).length ≤ 12 := by rw [List.length_map, List.length_take]; omega
   generalize (T.take m).map (·.d) = C at hcl
   refine g2_ ?_
   refine agm C hcl ?_
   refine g2_ ?_
   refine ae ?_ rfl
   repeat first | simp -implicitDefEqProofs only [go_sem, aa, bD] | with_reducible refine gl_ ?_
   rw [List.take_of_length_le (by rw [List.length_map, bD]; exact Nat.le_refl _)]
end Go.Proofs.YtlaefellhnkfbaaGreat.V

set_option maxRecDepth 10000
namespace Go.Proofs.YtlaefellhnkfbaaGreat.V
open Go.Eng
attribute [local go_sem] aU ah fzD plR bH z8 z16 z32 z64 c00 aZ
theorem iA {far : UInt16 → UInt16 → UInt16} {here : UInt16} {dom : List GSpan} {l : List GDesc} (h : l ≠ []) : ∀ k, (ey far here dom l k).1 < l.length
 | 0 => by cases l with
  | nil => exact absurd rfl h
  | cons x r => exact Nat.zero_lt_succ _
 | k + 1 => by
  unfold ey
  cases h2 : l[k]? with
  | none => exact iA h k
  | some d =>
   simp only
   split
   ·exact (List.getElem?_eq_some_iff.1 h2).1
   ·exact iA h k
theorem pR {far : UInt16 → UInt16 → UInt16} {here : UInt16} {dom : List GSpan} {l : List GDesc} {k : Nat} (h : k < l.length) : ey far here dom l (k + 1) = if far here (dY dom l[k]) < (ey far here dom l k).2 then (k, far here (dY dom l[k])) else ey far here dom l k := by
 rw [ey, List.getElem?_eq_getElem h]
theorem nu (clo : FuncId) (far : UInt16 → UInt16 → UInt16) (hfar : ∀ a b : UInt16, Con2 Tryz.prog clo [.v (.int .u16 a.toNat), .v (.int .u16 b.toNat)] (· = plR (.v (.int .u16 (far a b).toNat)))) (dom : List GSpan) (here : UInt16) (known : List GDesc) (hne : known ≠ []) (hmax : known.length ≤ 100000)
  (h4 : dom.length ≤ 4) (hd : ∀ s ∈ dom, okS s) (hok : ∀ d ∈ known, d.filter.length ≤ 4000000 ∧ ∀ s ∈ d.filter, okS s) {ρ σ nb K}
  (hk : K (.agg (ah (cF far here dom known))) ⟨ρ, σ, [(2, .var 32 [fzD known]), (1, .var 23 [fzS dom]), (0, .var 30 [.v (.int .u16 here.toNat)])], 3, nb⟩) :
  CallS Tryz.prog false 177 [.fn clo [] [], .pt 0 0, .pt 1 0, .pt 2 0] ⟨ρ, σ, [(2, .var 32 [fzD known]), (1, .var 23 [fzS dom]), (0, .var 30 [.v (.int .u16 here.toNat)])], 3, nb⟩ K := by
 obtain ⟨d0, hd0⟩ : ∃ d0, known[0]? = some d0 := ⟨known[0]'(by cases known; exact absurd rfl hne; simp), List.getElem?_eq_getElem _⟩
 have hlen : 0 < known.length := by cases known; exact absurd rfl hne; simp
 have hh : known.headD aO = d0 := by cases known with
  | nil => exact absurd rfl hne
  | cons x r => simpa using hd0
 have hm0 : d0 ∈ known := List.mem_of_getElem? hd0
 have hp0 := ky dom d0 h4 (by have := (hok d0 hm0).1; omega) hd (hok d0 hm0).2
 have hg0 : (known.map ah)[0]? = some (ah d0) := by rw [List.getElem?_map, hd0]; rfl
 have hf0 := hfar here (dY dom d0)
 simp only [ah] at hg0
 have ek0 : ey far here dom known 0 = (0, far here (dY dom d0)) := by rw [ey, hh]
 refine CallS.inline Ty.mixed Tryz.func177 rfl (by kernel_rfl) (by kernel_rfl) rfl [.cell 5 34] rfl (Vc2.of ?_)
 refine g2_ ?_
 refine g2_ ?_
 refine .inl ⟨oF [0, 1, 2, 3, 4, 5] (oT 6 (oF [7, 8] [])), by kernel_rfl, ?_⟩
 refine gf_ hg0 ?_
 refine CallS.eq hp0 ws_ (.inl ws_) ?_
 refine g2_ ?_
 refine CallS.eq hf0 ws_ (.inl ws_) ?_
 refine g2_ ?_
 refine aB known.length (fun k => [(6, .d (.v (.int .i64 (ey far here dom known k).1))), (7, .d (.v (.int .u16 (ey far here dom known k).2.toNat)))]) (fun _ => []) (fun k => [(2, .var 32 [fzD known]), (1, .var 23 [fzS dom]), (0, .var 30 [.v (.int .u16 here.toNat)])]) 3 (fun _ => True) (ab [] ?_) trivial (fun g k => by simp -implicitDefEqProofs only [go_sem, aa]) (by omega) (fun g => by simp -implicitDefEqProofs only [go_sem, aa]) (fun k hk2 _ => ?_) (fun _ => ?_)
 ·repeat first | simp -implicitDefEqProofs only [go_sem, aa, ek0] | with_reducible refine gl_ ?_
  first | done | rfl | exact ⟨rfl, rfl⟩
 ·have hmk := hok _ (List.getElem_mem hk2)
  have hpk := ky dom known[k] h4 (by have := hmk.1; omega) hd hmk.2
  have hfk := hfar here (dY dom known[k])
  have hsu := pR (far := far) (here := here) (dom := dom) hk2
  have hlt1 := iA (far := far) (here := here) (dom := dom) hne k
  repeat first | simp -implicitDefEqProofs only [go_sem, aa, aw hk2] | with_reducible first | refine gl_ ?_ | refine ga_ ?_ | refine gn_ ?_
  refine .inl ⟨oF [0, 1, 2, 3] (oT 4 (oF [5, 6] [])), by kernel_rfl, ?_⟩
  refine g2_ ?_
  refine CallS.eq hpk ws_ (.inl ws_) ?_
  refine g2_ ?_
  refine CallS.eq hfk ws_ (.inl ws_) ?_
  refine g2_ ?_
  by_cases hc : ((far here (dY dom known[k])).toNat : Int) < ((ey far here dom known k).2.toNat : Int)
  ·rw [decide_eq_true hc]
   rw [if_pos ((gH _ _).1 hc)] at hsu
   refine g2_ ?_
   refine ⟨k + 1, ab [] ?_, rfl⟩
   exact wf_ hsu
  ·rw [decide_eq_false hc]
   rw [if_neg (fun h => hc ((gH _ _).2 h))] at hsu
   refine g2_ ?_
   refine ⟨k + 1, ab [] ?_, rfl⟩
   exact wf_ hsu
 ·have hb := iA (far := far) (here := here) (dom := dom) hne known.length
  have hgb : (known.map ah)[(ey far here dom known known.length).1]? = some (ah (cF far here dom known)) := by
   rw [List.getElem?_map, cF, List.getD_eq_getElem?_getD, List.getElem?_eq_getElem hb]; rfl
  have hmb : cF far here dom known ∈ known := by
   rw [cF, List.getD_eq_getElem?_getD, List.getElem?_eq_getElem hb]; exact List.getElem_mem hb
  have hone := aeY (cF far here dom known) (hok _ hmb).1
  generalize cF far here dom known = X at hgb hone hk
  generalize (ey far here dom known known.length).1 = B at hgb hb
  simp only [ah] at hgb
  refine gf_ hgb ?_
  refine CallS.eq hone ws_ (.inl ws_) ?_
  refine g2_ ?_
  exact hk
theorem afA (a b : UInt16) : Con2 Tryz.prog 179 [.v (.int .u16 a.toNat), .v (.int .u16 b.toNat)] (· = plR (.v (.int .u16 (b - a).toNat))) := by
 refine af Ty.mixed Tryz.func179 rfl (by kernel_rfl) (by kernel_rfl) rfl [.tmp 4] rfl ?_
 refine g2_ ?_
 refine g2_ ?_
 refine CallS.eq (v9 a b) ws_ (.inl ws_) ?_
 refine g2_ ?_
 exact ⟨_, rfl, ab [] ws_⟩
theorem aeC (a b : UInt16) : Con2 Tryz.prog 181 [.v (.int .u16 a.toNat), .v (.int .u16 b.toNat)] (· = plR (.v (.int .u16 (a - b).toNat))) := by
 refine af Ty.mixed Tryz.func181 rfl (by kernel_rfl) (by kernel_rfl) rfl [.tmp 4] rfl ?_
 refine g2_ ?_
 refine g2_ ?_
 refine CallS.eq (v9 b a) ws_ (.inl ws_) ?_
 refine g2_ ?_
 exact ⟨_, rfl, ab [] ws_⟩
theorem t_ (dom : List GSpan) (self : GDesc) (L : List (List GDesc)) (hL : L.length ≤ 4000000) (hl : ∀ l ∈ L, bZ l) (h4 : dom.length ≤ 4) (hd : ∀ s ∈ dom, okS s) (hs : self.filter.length ≤ 4000000) (hss : ∀ s ∈ self.filter, okS s) (hok : ∀ d ∈ bl self.node L, d.filter.length ≤ 4000000 ∧ ∀ s ∈ d.filter, okS s) (hlm : (bl self.node L).length ≤ 100000) :
  Con2 Tryz.prog 112 [fzS dom, .agg (ah self), .fz 1 (lE L)] (· = plR (.agg (aZ (cR dom self L)))) := by
 refine Con2.ofEmb ?_
 have hu := qX self.node L hL hl
 have hp := ky dom self h4 (by omega) hd hss
 unfold cR
 generalize bl self.node L = known at hu hok hlm
 refine af Ty.mixed Tryz.func112 rfl (by kernel_rfl) (by kernel_rfl) rfl [.cell 6 36] rfl ?_
 refine g2_ ?_
 refine g2_ ?_
 refine CallS.eq hu ws_ (.inl ws_) ?_
 refine g2_ ?_
 refine ui (fun h => ?_) (fun h => ?_)
 ·have e : known = [] := List.eq_nil_of_length_eq_zero (by omega)
  rw [if_pos e]
  refine g2_ ?_
  refine ae ?_ rfl
  repeat first | simp -implicitDefEqProofs only [go_sem, aa, aO, List.map_nil] | with_reducible refine gl_ ?_
 ·have e : known ≠ [] := fun e => h (by rw [e]; rfl)
  rw [if_neg e]
  refine g2_ ?_
  refine CallS.eq hp ws_ (.inl ws_) ?_
  refine g2_ ?_
  refine nu 179 (fun h t => t - h) afA dom _ known e hlm h4 hd hok ?_
  refine g2_ ?_
  refine nu 181 (fun h t => h - t) aeC dom _ known e hlm h4 hd hok ?_
  refine g2_ ?_
  refine ae ?_ rfl
  exact ws_
end Go.Proofs.YtlaefellhnkfbaaGreat.V

namespace Go.Eng
def okF (d : GDesc) : Prop := d.filter.length ≤ 4000000 ∧ ∀ s ∈ d.filter, okS s
theorem rh : okF aO := ⟨Nat.zero_le _, fun s h => by cases h⟩
theorem adG {self : UInt8} {P : GDesc → Prop} {l : List GDesc} {d : GDesc} (hl : ∀ i e, l[i]? = some e → e.inc = 0 ∨ (e.node.toNat = i ∧ P e)) (hd : P d) : ∀ i e, (f_ self l d)[i]? = some e → e.inc = 0 ∨ (e.node.toNat = i ∧ P e) := by
 intro i e h
 unfold f_ at h
 split at h
 ·exact hl i e h
 ·split at h
  ·split at h
   ·rw [List.getElem?_set] at h
    split at h
    ·split at h
     ·cases h; exact .inr ⟨‹_›, hd⟩
     ·cases h
    ·exact hl i e h
   ·exact hl i e h
  ·exact hl i e h
theorem lq {self : UInt8} {P : GDesc → Prop} : ∀ {ds l : List GDesc}, (∀ i e, l[i]? = some e → e.inc = 0 ∨ (e.node.toNat = i ∧ P e)) → (∀ d ∈ ds, P d) → ∀ i e, (eI self l ds)[i]? = some e → e.inc = 0 ∨ (e.node.toNat = i ∧ P e)
 | [], l, hl, _ => hl
 | d :: r, l, hl, hd => by
  show ∀ i e, (eI self (f_ self l d) r)[i]? = some e → _
  exact lq (adG hl (hd d List.mem_cons_self)) fun x hx => hd x (List.mem_cons_of_mem _ hx)
theorem afJ {P : GDesc → Prop} (i : Nat) (e : GDesc) (h : zL[i]? = some e) : e.inc = 0 ∨ (e.node.toNat = i ∧ P e) := by
 unfold zL at h
 rw [List.getElem?_replicate] at h
 split at h
 ·cases h; exact .inl rfl
 ·cases h
theorem gk {self : UInt8} {L : List (List GDesc)} {d : GDesc} (h : d ∈ bl self L) : ∃ l ∈ L, d ∈ l := by
 obtain ⟨h1, h2⟩ := List.mem_filter.1 h
 obtain ⟨i, hi, hd⟩ := List.mem_iff_getElem.1 h1
 rcases lq (P := fun d => d ∈ L.flatten) afJ (fun d hd => hd) i d (by rw [List.getElem?_eq_getElem hi, hd]) with h3 | h3
 ·rw [h3] at h2; simp at h2
 ·exact List.mem_flatten.1 h3.2
theorem g_ {α : Type} {f : α → Bool} : ∀ {l : List α}, (∀ x ∈ l, f x = false) → l.filter f = []
 | [], _ => rfl
 | x :: r, h => by rw [List.filter_cons, h x List.mem_cons_self]; exact g_ fun y hy => h y (List.mem_cons_of_mem _ hy)
theorem yf {self : UInt8} {L : List (List GDesc)} {n : Nat} (h : ∀ l ∈ L, ∀ d ∈ l, d.node.toNat < n) : (bl self L).length ≤ n := by
 unfold bl
 have key := lq (self := self) (P := fun d => d.node.toNat < n) afJ (ds := L.flatten) (fun d hd => by obtain ⟨l, h1, h2⟩ := List.mem_flatten.1 hd; exact h l h1 d h2)
 generalize eI self zL L.flatten = A at key
 rw [← List.take_append_drop n A, List.filter_append, List.length_append]
 have h1 := List.length_filter_le (fun d : GDesc => decide ((0 : Int) < (d.inc.toNat : Int))) (A.take n)
 have h2 : (A.drop n).filter (fun d : GDesc => decide ((0 : Int) < (d.inc.toNat : Int))) = [] := g_ fun x hx => by
  obtain ⟨i, hi, hd⟩ := List.mem_iff_getElem.1 hx
  have h3 : A[n + i]? = some x := by rw [← List.getElem?_drop, List.getElem?_eq_getElem hi, hd]
  rcases key _ _ h3 with h4 | h4
  ·rw [h4]; rfl
  ·omega
 rw [h2]
 rw [List.length_take] at h1
 simp only [List.length_nil]
 omega
end Go.Eng
namespace Go.Proofs.YtlaefellhnkfbaaGreat.V
open Go.Eng
theorem mq {own : List GSpan} {self : UInt8} {room : Int} {L : List (List GDesc)} {d : GDesc} (h : d ∈ cO own self room L) : d ∈ bl self L := by
 unfold cO at h
 split at h
 ·cases h
 ·rcases ft h with h | h
  ·obtain ⟨x, hx, rfl⟩ := List.mem_map.1 h
   rcases ft (List.mem_of_mem_take hx) with h | h
   ·obtain ⟨h, _⟩ := List.mem_filter.1 h
    obtain ⟨y, hy, rfl⟩ := List.mem_map.1 h
    exact hy
   ·cases h
  ·cases h
theorem rD {own : List GSpan} {self : UInt8} {room : Int} {L : List (List GDesc)} : (cO own self room L).length ≤ (bl self L).length := by
 unfold cO
 split
 ·exact Nat.zero_le _
 ·rw [bD, List.length_map, List.length_take, bD]
  have := List.length_filter_le (fun x : pV => decide (0 < x.o)) ((bl self L).map fun d => ⟨d, pG own d.filter⟩)
  rw [List.length_map] at this
  unfold cw
  omega
theorem nZ {p : ak} {d : GDesc} (h : b_ p d = true) : d.node.toNat < p.table.length := by
 unfold b_ at h
 split at h
 ·cases h
 ·split at h
  ·cases h
  ·rename_i h2; exact (List.getElem?_eq_some_iff.1 h2).1
theorem jN {r : fI} {d : GDesc} (h : d ∈ aN r) : (r.hs = true ∧ d = r.succ) ∨ (r.hp = true ∧ d = r.pred) := by
 unfold aN at h
 split at h
 ·rename_i h1
  unfold fJ at h
  repeat' (split at h)
  all_goals simp at h
  ·rcases h with h | h
   ·exact .inl ⟨h1.1, h⟩
   ·exact .inr ⟨h1.2, h⟩
  ·rcases h with h | h
   ·exact .inr ⟨h1.2, h⟩
   ·exact .inl ⟨h1.1, h⟩
  ·exact .inr ⟨h1.2, h⟩
  ·exact .inl ⟨h1.1, h⟩
 ·split at h
  ·simp at h; exact .inl ⟨‹_›, h⟩
  ·split at h
   ·simp at h; exact .inr ⟨‹_›, h⟩
   ·cases h
theorem eD (r : fI) : (aN r).length ≤ 2 := by
 unfold aN fJ
 repeat' split
 all_goals simp
def cd (p : ak) (r : fI) : fI := ⟨r.hs && b_ p r.succ, r.hp && b_ p r.pred, if r.hs && !b_ p r.succ then aO else r.succ, if r.hp && !b_ p r.pred then aO else r.pred⟩
def aH (c : av) (p : ak) (l : List GDesc) : ak :=
 let v := bk p p.view
 let b := aN (cd p p.ring)
 let m := bW c p l
 let n := cO p.filter p.node c.near [v, bk p p.near, b, m]
 { p with view := v, near := n, ring := cR c.schema (aT p) [v, n, b, m] }
structure okG (p : ak) : Prop where
 ok : okP p
 filter : ∀ s ∈ p.filter, okS s
 view : ∀ d ∈ p.view, okF d
 near : ∀ d ∈ p.near, okF d
 succ : okF p.ring.succ
 pred : okF p.ring.pred
 table : p.table.length ≤ 12
structure okM (n : Nat) (L : List (List GDesc)) : Prop where
 ds : ∀ l ∈ L, bZ l
 f : ∀ l ∈ L, ∀ d ∈ l, okF d
 lt : ∀ l ∈ L, ∀ d ∈ l, d.node.toNat < n
theorem okM.u {n : Nat} {L : List (List GDesc)} (h : okM n L) (self : UInt8) : (∀ d ∈ bl self L, d.filter.length ≤ 4000000 ∧ ∀ s ∈ d.filter, okS s) ∧ (bl self L).length ≤ n :=
 ⟨fun d hd => by obtain ⟨l, h1, h2⟩ := gk hd; exact h.f l h1 d h2, yf h.lt⟩
theorem dN {p : ak} {l : List GDesc} (h : bZ l) : bZ (bk p l) := eA h
theorem tw {c : av} {p : ak} {l : List GDesc} (hp : okG p) (hl : bZ l) (hl2 : ∀ d ∈ l, okF d) : okM 12 [bk p p.view, bk p p.near, aN (cd p p.ring), bW c p l] ∧
  ∀ room, okM 12 [bk p p.view, cO p.filter p.node room [bk p p.view, bk p p.near, aN (cd p p.ring), bW c p l], aN (cd p p.ring), bW c p l] := by
 have ht := hp.table
 have a : ∀ l, (∀ d ∈ l, okF d) → ∀ d ∈ bk p l, okF d ∧ d.node.toNat < 12 := fun l hl d hd => by
  obtain ⟨h1, h2⟩ := List.mem_filter.1 hd
  have := nZ h2
  exact ⟨hl d h1, by omega⟩
 have b : ∀ d ∈ aN (cd p p.ring), okF d ∧ d.node.toNat < 12 := fun d hd => by
  rcases jN hd with ⟨h1, rfl⟩ | ⟨h1, rfl⟩
  ·have h2 : p.ring.hs = true ∧ b_ p p.ring.succ = true := by simpa [cd] using h1
   have e : (cd p p.ring).succ = p.ring.succ := by simp [cd, h2.2]
   have := nZ h2.2
   rw [e]
   exact ⟨hp.succ, by omega⟩
  ·have h2 : p.ring.hp = true ∧ b_ p p.ring.pred = true := by simpa [cd] using h1
   have e : (cd p p.ring).pred = p.ring.pred := by simp [cd, h2.2]
   have := nZ h2.2
   rw [e]
   exact ⟨hp.pred, by omega⟩
 have hb : bZ (aN (cd p p.ring)) := ⟨by have := eD (cd p p.ring); omega, fun d hd => (b d hd).1.1⟩
 have hf : ∀ d ∈ ew c l, okF d := fun d hd => hl2 d (List.mem_filter.1 hd).1
 have m1 : okM 12 [bk p p.view, bk p p.near, aN (cd p p.ring), bW c p l] := by
  refine ⟨fun l' h => ?_, fun l' h d hd => ?_, fun l' h d hd => ?_⟩
  ·simp at h
   rcases h with rfl | rfl | rfl | rfl
   ·exact dN hp.ok.view
   ·exact dN hp.ok.near
   ·exact hb
   ·exact eA (eA hl)
  ·simp at h
   rcases h with rfl | rfl | rfl | rfl
   ·exact (a _ hp.view d hd).1
   ·exact (a _ hp.near d hd).1
   ·exact (b d hd).1
   ·exact (a _ hf d hd).1
  ·simp at h
   rcases h with rfl | rfl | rfl | rfl
   ·exact (a _ hp.view d hd).2
   ·exact (a _ hp.near d hd).2
   ·exact (b d hd).2
   ·exact (a _ hf d hd).2
 refine ⟨m1, fun room => ?_⟩
 have hn : ∀ d ∈ cO p.filter p.node room [bk p p.view, bk p p.near, aN (cd p p.ring), bW c p l], okF d ∧ d.node.toNat < 12 := fun d hd => by
  obtain ⟨l', h1, h2⟩ := gk (mq hd)
  exact ⟨m1.f l' h1 d h2, m1.lt l' h1 d h2⟩
 have hn2 : bZ (cO p.filter p.node room [bk p p.view, bk p p.near, aN (cd p p.ring), bW c p l]) :=
  ⟨Nat.le_trans rD (Nat.le_trans (m1.u p.node).2 (by omega)), fun d hd => (hn d hd).1.1⟩
 generalize cO p.filter p.node room [bk p p.view, bk p p.near, aN (cd p p.ring), bW c p l] = N at hn hn2
 refine ⟨fun l' h => ?_, fun l' h d hd => ?_, fun l' h d hd => ?_⟩
 ·simp at h
  rcases h with rfl | rfl | rfl | rfl
  ·exact dN hp.ok.view
  ·exact hn2
  ·exact hb
  ·exact eA (eA hl)
 ·simp at h
  rcases h with rfl | rfl | rfl | rfl
  ·exact (a _ hp.view d hd).1
  ·exact (hn d hd).1
  ·exact (b d hd).1
  ·exact (a _ hf d hd).1
 ·simp at h
  rcases h with rfl | rfl | rfl | rfl
  ·exact (a _ hp.view d hd).2
  ·exact (hn d hd).2
  ·exact (b d hd).2
  ·exact (a _ hf d hd).2
end Go.Proofs.YtlaefellhnkfbaaGreat.V

set_option maxRecDepth 10000
namespace Go.Eng
theorem lX {p : ak} (h : okP p) {v n : List GDesc} {r : fI} (hv : bZ v) (hn : bZ n) (h1 : r.succ.filter.length ≤ 4000000) (h2 : r.pred.filter.length ≤ 4000000) : okP { p with view := v, near := n, ring := r } :=
 ⟨h.filter, hv, hn, h1, h2, h.sent, h.table, h.heard, h.rows, h.reports, h.evs, h.pulls⟩
end Go.Eng
namespace Go.Proofs.YtlaefellhnkfbaaGreat.V
open Go.Eng
attribute [local go_sem] aO aU ah fzD plR bH bw aM bL aJ au bu dC z8 z16 z32 z64 ax aZ fa lE List.map_cons List.map_nil
set_option maxHeartbeats 4000000 in
theorem bN (c : av) (p : ak) (l : List GDesc) (hc : c.schema.length ≤ 4) (hcs : ∀ s ∈ c.schema, okS s) (hp : okG p) (hl : bZ l) (hl2 : ∀ d ∈ l, okF d) :
  Con2 Tryz.prog 47 [.agg (aJ c), .agg (au p), fzD l] (· = plR (.agg (au (aH c p l)))) := by
 refine Con2.ofEmb ?_
 obtain ⟨m1, m2⟩ := tw (c := c) hp hl hl2
 have m2 := m2 c.near
 have u1 := m1.u p.node
 have u2 := m2.u p.node
 have hk := hp.ok
 have k1 : Con2 Tryz.prog 108 [.agg (au p), fzD p.view] (· = plR (fzD (bk p p.view))) := pP p p.view hk hk.view
 have k2 : Con2 Tryz.prog 108 [.agg (au { p with view := bk p p.view }), fzD p.near] (· = plR (fzD (bk p p.near))) := pP { p with view := bk p p.view } p.near (lX hk (dN hk.view) hk.near hk.succ hk.pred) hk.near
 have k3 : Con2 Tryz.prog 109 [.agg (au { p with view := bk p p.view, near := bk p p.near }), .agg (ah p.ring.succ)] (· = plR (.v (.bool (b_ p p.ring.succ)))) := l_ _ _ (lX hk (dN hk.view) (dN hk.near) hk.succ hk.pred)
 have k4 : ∀ hs su, su.filter.length ≤ 4000000 → Con2 Tryz.prog 109 [.agg (au { p with view := bk p p.view, near := bk p p.near, ring := ⟨hs, p.ring.hp, su, p.ring.pred⟩ }), .agg (ah p.ring.pred)] (· = plR (.v (.bool (b_ p p.ring.pred)))) := fun hs su h =>
  l_ _ _ (lX (r := ⟨hs, p.ring.hp, su, p.ring.pred⟩) hk (dN hk.view) (dN hk.near) h hk.pred)
 have hsf : (cd p p.ring).succ.filter.length ≤ 4000000 := by
  simp only [cd]; split
  ·exact Nat.zero_le _
  ·exact hk.succ
 have hpf : (cd p p.ring).pred.filter.length ≤ 4000000 := by
  simp only [cd]; split
  ·exact Nat.zero_le _
  ·exact hk.pred
 have k5 := ik (cd p p.ring) hsf hpf
 have k6 : Con2 Tryz.prog 110 [.agg (aJ c), .agg (au { p with view := bk p p.view, near := bk p p.near, ring := cd p p.ring }), fzD l] (· = plR (fzD (bW c p l))) := lB c _ l (by omega) (lX hk (dN hk.view) (dN hk.near) hsf hpf) hl
 have k7 := wa p.filter p.node c.near _ (by simp) m1.ds hk.filter hp.filter u1.1 u1.2
 have k8 : Con2 Tryz.prog 32 [.agg (au { p with view := bk p p.view, near := cO p.filter p.node c.near [bk p p.view, bk p p.near, aN (cd p p.ring), bW c p l], ring := cd p p.ring })] (· = plR (.agg (ah (aT p)))) :=
  fW _ (lX hk (dN hk.view) (m2.ds _ (by simp)) hsf hpf)
 have k9 := t_ c.schema (aT p) _ (by simp) m2.ds hc hcs hk.filter hp.filter u2.1 (Nat.le_trans u2.2 (by omega))
 have hres : aH c p l = { p with view := bk p p.view, near := cO p.filter p.node c.near [bk p p.view, bk p p.near, aN (cd p p.ring), bW c p l], ring := cR c.schema (aT p) [bk p p.view, cO p.filter p.node c.near [bk p p.view, bk p p.near, aN (cd p p.ring), bW c p l], aN (cd p p.ring), bW c p l] } := rfl
 rw [hres]
 clear hres m1 m2 u1 u2 hsf hpf
 generalize cR c.schema (aT p) [bk p p.view, cO p.filter p.node c.near [bk p p.view, bk p p.near, aN (cd p p.ring), bW c p l], aN (cd p p.ring), bW c p l] = R at k9
 generalize cO p.filter p.node c.near [bk p p.view, bk p p.near, aN (cd p p.ring), bW c p l] = N at k7 k8 k9
 generalize bW c p l = M at k6 k7 k9
 generalize aN (cd p p.ring) = B at k5 k7 k9
 generalize aT p = S at k8 k9
 generalize bk p p.view = v at k1 k2 k3 k4 k6 k7 k8 k9
 generalize bk p p.near = n at k2 k3 k4 k6 k7 k8
 have hr : ∀ a b s q, cd p p.ring = ⟨a, b, s, q⟩ → cd p p.ring = ⟨a, b, s, q⟩ := fun _ _ _ _ h => h
 unfold cd at hr
 generalize hR : cd p p.ring = r at k5 k6 k8
 unfold cd at hR
 clear hr
 refine af Ty.mixed Tryz.func47 rfl (by kernel_rfl) (by kernel_rfl) rfl [.cell 6 49] rfl ?_
 refine g2_ ?_
 refine g2_ ?_
 refine cw_ k1 ?_
 refine g2_ ?_
 refine cw_ k2 ?_
 refine g2_ ?_
 cases h1 : p.ring.hs with
 | false =>
  refine g2_ ?_
  cases h3 : p.ring.hp with
  | false =>
   obtain rfl : r = ⟨false, false, p.ring.succ, p.ring.pred⟩ := by rw [← hR]; simp [h1, h3]
   refine g2_ ?_
   refine cw_ k5 ?_
   refine g2_ ?_
   refine cw_ k6 ?_
   refine g2_ ?_
   refine cw_ k7 ?_
   refine g2_ ?_
   refine .inr (.inl ⟨(.fl 0 (.fl 2 (.fl 4 (.fl 6 (.fl 8 (.fl 9 (.fl 1 (.fl 5 (.fl 7 (.eff 3 true (.eff 10 true (.eff 11 false (.fl 12 (.eff 13 false .done .no)) .no) .no) (.eff 10 true (.eff 3 true (.eff 11 false (.fl 12 (.eff 13 false .done .no)) .no) .no) .no))))))))))), by kernel_rfl, ?_⟩)
   refine g2_ ?_
   repeat' (first
    | (with_reducible refine And.intro ?_ ?_)
    | (refine CallS.eqW k8 ?_ (.inl ?_) ?_; (focus ((repeat first | simp -implicitDefEqProofs only [go_sem, aa] | with_reducible refine gl_ ?_); done)); (focus ((repeat first | simp -implicitDefEqProofs only [go_sem, aa] | with_reducible refine gl_ ?_); done)); refine g2_ ?_)
    | (refine CallS.eqW k9 ?_ (.inl ?_) ?_; (focus ((repeat first | simp -implicitDefEqProofs only [go_sem, aa] | with_reducible refine gl_ ?_); done)); (focus ((repeat first | simp -implicitDefEqProofs only [go_sem, aa] | with_reducible refine gl_ ?_); done)); refine g2_ ?_)
    | (with_reducible refine ay ?_; refine g2_ ?_))
   all_goals
    refine ae ?_ rfl
    exact ws_
  | true =>
   have k4' := k4 false p.ring.succ hk.succ
   rw [h3] at k4'
   refine g2_ ?_
   refine cw_ k4' ?_
   refine g2_ ?_
   cases h4 : b_ p p.ring.pred with
   | true =>
    obtain rfl : r = ⟨false, true, p.ring.succ, p.ring.pred⟩ := by rw [← hR]; simp [h1, h3, h4]
    refine g2_ ?_
    refine cw_ k5 ?_
    refine g2_ ?_
    refine cw_ k6 ?_
    refine g2_ ?_
    refine cw_ k7 ?_
    refine g2_ ?_
    refine .inr (.inl ⟨(.fl 0 (.fl 2 (.fl 4 (.fl 6 (.fl 8 (.fl 9 (.fl 1 (.fl 5 (.fl 7 (.eff 3 true (.eff 10 true (.eff 11 false (.fl 12 (.eff 13 false .done .no)) .no) .no) (.eff 10 true (.eff 3 true (.eff 11 false (.fl 12 (.eff 13 false .done .no)) .no) .no) .no))))))))))), by kernel_rfl, ?_⟩)
    refine g2_ ?_
    repeat' (first
     | (with_reducible refine And.intro ?_ ?_)
     | (refine CallS.eqW k8 ?_ (.inl ?_) ?_; (focus ((repeat first | simp -implicitDefEqProofs only [go_sem, aa] | with_reducible refine gl_ ?_); done)); (focus ((repeat first | simp -implicitDefEqProofs only [go_sem, aa] | with_reducible refine gl_ ?_); done)); refine g2_ ?_)
     | (refine CallS.eqW k9 ?_ (.inl ?_) ?_; (focus ((repeat first | simp -implicitDefEqProofs only [go_sem, aa] | with_reducible refine gl_ ?_); done)); (focus ((repeat first | simp -implicitDefEqProofs only [go_sem, aa] | with_reducible refine gl_ ?_); done)); refine g2_ ?_)
     | (with_reducible refine ay ?_; refine g2_ ?_))
    all_goals
     refine ae ?_ rfl
     exact ws_
   | false =>
    obtain rfl : r = ⟨false, false, p.ring.succ, aO⟩ := by rw [← hR]; simp [h1, h3, h4]
    refine g2_ ?_
    refine cw_ k5 ?_
    refine g2_ ?_
    refine cw_ k6 ?_
    refine g2_ ?_
    refine cw_ k7 ?_
    refine g2_ ?_
    refine .inr (.inl ⟨(.fl 0 (.fl 2 (.fl 4 (.fl 6 (.fl 8 (.fl 9 (.fl 1 (.fl 5 (.fl 7 (.eff 3 true (.eff 10 true (.eff 11 false (.fl 12 (.eff 13 false .done .no)) .no) .no) (.eff 10 true (.eff 3 true (.eff 11 false (.fl 12 (.eff 13 false .done .no)) .no) .no) .no))))))))))), by kernel_rfl, ?_⟩)
    refine g2_ ?_
    repeat' (first
     | (with_reducible refine And.intro ?_ ?_)
     | (refine CallS.eqW k8 ?_ (.inl ?_) ?_; (focus ((repeat first | simp -implicitDefEqProofs only [go_sem, aa] | with_reducible refine gl_ ?_); done)); (focus ((repeat first | simp -implicitDefEqProofs only [go_sem, aa] | with_reducible refine gl_ ?_); done)); refine g2_ ?_)
     | (refine CallS.eqW k9 ?_ (.inl ?_) ?_; (focus ((repeat first | simp -implicitDefEqProofs only [go_sem, aa] | with_reducible refine gl_ ?_); done)); (focus ((repeat first | simp -implicitDefEqProofs only [go_sem, aa] | with_reducible refine gl_ ?_); done)); refine g2_ ?_)
     | (with_reducible refine ay ?_; refine g2_ ?_))
    all_goals
     refine ae ?_ rfl
     exact ws_
 | true =>
  refine g2_ ?_
  refine CallS.eqW k3 (wf_ h1) (.inl ws_) ?_
  refine g2_ ?_
  cases h2 : b_ p p.ring.succ with
  | true =>
   refine g2_ ?_
   cases h3 : p.ring.hp with
   | false =>
    obtain rfl : r = ⟨true, false, p.ring.succ, p.ring.pred⟩ := by rw [← hR]; simp [h1, h2, h3]
    refine g2_ ?_
    refine cw_ k5 ?_
    refine g2_ ?_
    refine cw_ k6 ?_
    refine g2_ ?_
    refine cw_ k7 ?_
    refine g2_ ?_
    refine .inr (.inl ⟨(.fl 0 (.fl 2 (.fl 4 (.fl 6 (.fl 8 (.fl 9 (.fl 1 (.fl 5 (.fl 7 (.eff 3 true (.eff 10 true (.eff 11 false (.fl 12 (.eff 13 false .done .no)) .no) .no) (.eff 10 true (.eff 3 true (.eff 11 false (.fl 12 (.eff 13 false .done .no)) .no) .no) .no))))))))))), by kernel_rfl, ?_⟩)
    refine g2_ ?_
    repeat' (first
     | (with_reducible refine And.intro ?_ ?_)
     | (refine CallS.eqW k8 ?_ (.inl ?_) ?_; (focus ((repeat first | simp -implicitDefEqProofs only [go_sem, aa] | with_reducible refine gl_ ?_); done)); (focus ((repeat first | simp -implicitDefEqProofs only [go_sem, aa] | with_reducible refine gl_ ?_); done)); refine g2_ ?_)
     | (refine CallS.eqW k9 ?_ (.inl ?_) ?_; (focus ((repeat first | simp -implicitDefEqProofs only [go_sem, aa] | with_reducible refine gl_ ?_); done)); (focus ((repeat first | simp -implicitDefEqProofs only [go_sem, aa] | with_reducible refine gl_ ?_); done)); refine g2_ ?_)
     | (with_reducible refine ay ?_; refine g2_ ?_))
    all_goals
     refine ae ?_ rfl
     exact ws_
   | true =>
    have k4' := k4 true p.ring.succ hk.succ
    rw [h3] at k4'
    refine g2_ ?_
    refine cw_ k4' ?_
    refine g2_ ?_
    cases h4 : b_ p p.ring.pred with
    | true =>
     obtain rfl : r = ⟨true, true, p.ring.succ, p.ring.pred⟩ := by rw [← hR]; simp [h1, h2, h3, h4]
     refine g2_ ?_
     refine cw_ k5 ?_
     refine g2_ ?_
     refine cw_ k6 ?_
     refine g2_ ?_
     refine cw_ k7 ?_
     refine g2_ ?_
     refine .inr (.inl ⟨(.fl 0 (.fl 2 (.fl 4 (.fl 6 (.fl 8 (.fl 9 (.fl 1 (.fl 5 (.fl 7 (.eff 3 true (.eff 10 true (.eff 11 false (.fl 12 (.eff 13 false .done .no)) .no) .no) (.eff 10 true (.eff 3 true (.eff 11 false (.fl 12 (.eff 13 false .done .no)) .no) .no) .no))))))))))), by kernel_rfl, ?_⟩)
     refine g2_ ?_
     repeat' (first
      | (with_reducible refine And.intro ?_ ?_)
      | (refine CallS.eqW k8 ?_ (.inl ?_) ?_; (focus ((repeat first | simp -implicitDefEqProofs only [go_sem, aa] | with_reducible refine gl_ ?_); done)); (focus ((repeat first | simp -implicitDefEqProofs only [go_sem, aa] | with_reducible refine gl_ ?_); done)); refine g2_ ?_)
      | (refine CallS.eqW k9 ?_ (.inl ?_) ?_; (focus ((repeat first | simp -implicitDefEqProofs only [go_sem, aa] | with_reducible refine gl_ ?_); done)); (focus ((repeat first | simp -implicitDefEqProofs only [go_sem, aa] | with_reducible refine gl_ ?_); done)); refine g2_ ?_)
      | (with_reducible refine ay ?_; refine g2_ ?_))
     all_goals
      refine ae ?_ rfl
      exact ws_
    | false =>
     obtain rfl : r = ⟨true, false, p.ring.succ, aO⟩ := by rw [← hR]; simp [h1, h2, h3, h4]
     refine g2_ ?_
     refine cw_ k5 ?_
     refine g2_ ?_
     refine cw_ k6 ?_
     refine g2_ ?_
     refine cw_ k7 ?_
     refine g2_ ?_
     refine .inr (.inl ⟨(.fl 0 (.fl 2 (.fl 4 (.fl 6 (.fl 8 (.fl 9 (.fl 1 (.fl 5 (.fl 7 (.eff 3 true (.eff 10 true (.eff 11 false (.fl 12 (.eff 13 false .done .no)) .no) .no) (.eff 10 true (.eff 3 true (.eff 11 false (.fl 12 (.eff 13 false .done .no)) .no) .no) .no))))))))))), by kernel_rfl, ?_⟩)
     refine g2_ ?_
     repeat' (first
      | (with_reducible refine And.intro ?_ ?_)
      | (refine CallS.eqW k8 ?_ (.inl ?_) ?_; (focus ((repeat first | simp -implicitDefEqProofs only [go_sem, aa] | with_reducible refine gl_ ?_); done)); (focus ((repeat first | simp -implicitDefEqProofs only [go_sem, aa] | with_reducible refine gl_ ?_); done)); refine g2_ ?_)
      | (refine CallS.eqW k9 ?_ (.inl ?_) ?_; (focus ((repeat first | simp -implicitDefEqProofs only [go_sem, aa] | with_reducible refine gl_ ?_); done)); (focus ((repeat first | simp -implicitDefEqProofs only [go_sem, aa] | with_reducible refine gl_ ?_); done)); refine g2_ ?_)
      | (with_reducible refine ay ?_; refine g2_ ?_))
     all_goals
      refine ae ?_ rfl
      exact ws_
  | false =>
   refine g2_ ?_
   cases h3 : p.ring.hp with
   | false =>
    obtain rfl : r = ⟨false, false, aO, p.ring.pred⟩ := by rw [← hR]; simp [h1, h2, h3]
    refine g2_ ?_
    refine cw_ k5 ?_
    refine g2_ ?_
    refine cw_ k6 ?_
    refine g2_ ?_
    refine cw_ k7 ?_
    refine g2_ ?_
    refine .inr (.inl ⟨(.fl 0 (.fl 2 (.fl 4 (.fl 6 (.fl 8 (.fl 9 (.fl 1 (.fl 5 (.fl 7 (.eff 3 true (.eff 10 true (.eff 11 false (.fl 12 (.eff 13 false .done .no)) .no) .no) (.eff 10 true (.eff 3 true (.eff 11 false (.fl 12 (.eff 13 false .done .no)) .no) .no) .no))))))))))), by kernel_rfl, ?_⟩)
    refine g2_ ?_
    repeat' (first
     | (with_reducible refine And.intro ?_ ?_)
     | (refine CallS.eqW k8 ?_ (.inl ?_) ?_; (focus ((repeat first | simp -implicitDefEqProofs only [go_sem, aa] | with_reducible refine gl_ ?_); done)); (focus ((repeat first | simp -implicitDefEqProofs only [go_sem, aa] | with_reducible refine gl_ ?_); done)); refine g2_ ?_)
     | (refine CallS.eqW k9 ?_ (.inl ?_) ?_; (focus ((repeat first | simp -implicitDefEqProofs only [go_sem, aa] | with_reducible refine gl_ ?_); done)); (focus ((repeat first | simp -implicitDefEqProofs only [go_sem, aa] | with_reducible refine gl_ ?_); done)); refine g2_ ?_)
     | (with_reducible refine ay ?_; refine g2_ ?_))
    all_goals
     refine ae ?_ rfl
     exact ws_
   | true =>
    have k4' := k4 false aO (Nat.zero_le _)
    rw [h3] at k4'
    refine g2_ ?_
    refine cw_ k4' ?_
    refine g2_ ?_
    cases h4 : b_ p p.ring.pred with
    | true =>
     obtain rfl : r = ⟨false, true, aO, p.ring.pred⟩ := by rw [← hR]; simp [h1, h2, h3, h4]
     refine g2_ ?_
     refine cw_ k5 ?_
     refine g2_ ?_
     refine cw_ k6 ?_
     refine g2_ ?_
     refine cw_ k7 ?_
     refine g2_ ?_
     refine .inr (.inl ⟨(.fl 0 (.fl 2 (.fl 4 (.fl 6 (.fl 8 (.fl 9 (.fl 1 (.fl 5 (.fl 7 (.eff 3 true (.eff 10 true (.eff 11 false (.fl 12 (.eff 13 false .done .no)) .no) .no) (.eff 10 true (.eff 3 true (.eff 11 false (.fl 12 (.eff 13 false .done .no)) .no) .no) .no))))))))))), by kernel_rfl, ?_⟩)
     refine g2_ ?_
     repeat' (first
      | (with_reducible refine And.intro ?_ ?_)
      | (refine CallS.eqW k8 ?_ (.inl ?_) ?_; (focus ((repeat first | simp -implicitDefEqProofs only [go_sem, aa] | with_reducible refine gl_ ?_); done)); (focus ((repeat first | simp -implicitDefEqProofs only [go_sem, aa] | with_reducible refine gl_ ?_); done)); refine g2_ ?_)
      | (refine CallS.eqW k9 ?_ (.inl ?_) ?_; (focus ((repeat first | simp -implicitDefEqProofs only [go_sem, aa] | with_reducible refine gl_ ?_); done)); (focus ((repeat first | simp -implicitDefEqProofs only [go_sem, aa] | with_reducible refine gl_ ?_); done)); refine g2_ ?_)
      | (with_reducible refine ay ?_; refine g2_ ?_))
     all_goals
      refine ae ?_ rfl
      exact ws_
    | false =>
     obtain rfl : r = ⟨false, false, aO, aO⟩ := by rw [← hR]; simp [h1, h2, h3, h4]
     refine g2_ ?_
     refine cw_ k5 ?_
     refine g2_ ?_
     refine cw_ k6 ?_
     refine g2_ ?_
     refine cw_ k7 ?_
     refine g2_ ?_
     refine .inr (.inl ⟨(.fl 0 (.fl 2 (.fl 4 (.fl 6 (.fl 8 (.fl 9 (.fl 1 (.fl 5 (.fl 7 (.eff 3 true (.eff 10 true (.eff 11 false (.fl 12 (.eff 13 false .done .no)) .no) .no) (.eff 10 true (.eff 3 true (.eff 11 false (.fl 12 (.eff 13 false .done .no)) .no) .no) .no))))))))))), by kernel_rfl, ?_⟩)
     refine g2_ ?_
     repeat' (first
      | (with_reducible refine And.intro ?_ ?_)
      | (refine CallS.eqW k8 ?_ (.inl ?_) ?_; (focus ((repeat first | simp -implicitDefEqProofs only [go_sem, aa] | with_reducible refine gl_ ?_); done)); (focus ((repeat first | simp -implicitDefEqProofs only [go_sem, aa] | with_reducible refine gl_ ?_); done)); refine g2_ ?_)
      | (refine CallS.eqW k9 ?_ (.inl ?_) ?_; (focus ((repeat first | simp -implicitDefEqProofs only [go_sem, aa] | with_reducible refine gl_ ?_); done)); (focus ((repeat first | simp -implicitDefEqProofs only [go_sem, aa] | with_reducible refine gl_ ?_); done)); refine g2_ ?_)
      | (with_reducible refine ay ?_; refine g2_ ?_))
     all_goals
      refine ae ?_ rfl
      exact ws_
end Go.Proofs.YtlaefellhnkfbaaGreat.V

set_option maxRecDepth 10000
set_option maxHeartbeats 4000000
namespace Go.Proofs.YtlaefellhnkfbaaGreat.V
open Go.Eng
structure okH (p : ak) : Prop where
 g : okG p
 rs : lA p.reports
 v8 : ok8 p.view
 vw : Vw p.node p.view
theorem okH.ok {p : ak} (h : okH p) : okP p := h.g.ok
theorem xJ (l : List ao) (i : UInt8) (inc : UInt16) : (de l i inc).length = l.length := by simp [de]
theorem ajo {p : ak} (h : okP p) {t : List ao} {r : List (List dv)} (ht : t.length ≤ 4000000) (hr : lA r) : okP { p with table := t, reports := r } :=
 ⟨h.filter, h.view, h.near, h.succ, h.pred, h.sent, ht, h.heard, h.rows, ⟨by have := hr.1; show r.length ≤ 4000000; omega, hr.2⟩, h.evs, h.pulls⟩
theorem aao {p : ak} (h : okG p) {t : List ao} {r : List (List dv)} (ht : t.length ≤ 12) (hr : lA r) : okG { p with table := t, reports := r } :=
 ⟨ajo h.ok (by omega) hr, h.filter, h.view, h.near, h.succ, h.pred, ht⟩
theorem tm {p : ak} (h : okH p) {t : List ao} {r : List (List dv)} (ht : t.length ≤ 12) (hr : lA r) : okH { p with table := t, reports := r } :=
 ⟨aao h.g ht hr, hr, h.v8, h.vw⟩
theorem di {c : av} {p : ak} (h : okH p) (node : UInt8) (inc : UInt16) : okH (aI c p node inc).1 := by
 have ht := h.g.table
 unfold aI
 split
 ·exact h
 ·split
  ·exact h
  ·split
   ·exact h
   ·refine tm h (by rw [xJ]; exact ht) ?_
    split
    ·exact jl h.rs
    ·exact h.rs
theorem wX {c : av} {p : ak} {node : UInt8} {inc : UInt16} : (aI c p node inc).1.node = p.node := by
 unfold aI
 split
 ·rfl
 ·split
  ·rfl
  ·split <;> rfl
def dz (c : av) (p : ak) (m : aV) : ak × List aV :=
 match m.list with
 | [d] => if d.node = m.frm ∧ d.inc = m.inc ∧ da c d = true then ({ p with view := db p.view d p.node c.view }, [{ bV p 2 m.frm with list := bY p.view (aT p), table := p.table }]) else (p, [])
 | _ => (p, [])
def nj (c : av) (p : ak) (m : aV) : ak × List aV :=
 let q := aI c p m.frm m.inc
 if q.2 = true then (aH c (dz c q.1 m).1 [], (dz c q.1 m).2) else (q.1, [])
structure okMg (m : aV) : Prop where
 list : m.list.length ≤ 1048576
 f8 : ∀ d ∈ m.list, d.filter.length ≤ 1048576
 fs : ∀ d ∈ m.list, ∀ s ∈ d.filter, okS s
 table : m.table.length ≤ 1048576
theorem okMg.ds {m : aV} (h : okMg m) : bZ m.list := ⟨by have := h.list; omega, fun d hd => by have := h.f8 d hd; omega⟩
theorem okMg.fs2 {m : aV} (h : okMg m) : ∀ d ∈ m.list, okF d := fun d hd => ⟨by have := h.f8 d hd; omega, h.fs d hd⟩
theorem ajO (a b : UInt8) : ((a.toNat : Int) = (b.toNat : Int)) ↔ a = b := ⟨fun h => UInt8.toNat_inj.1 (by omega), fun h => by rw [h]⟩
theorem akh (a b : UInt16) : ((a.toNat : Int) = (b.toNat : Int)) ↔ a = b := ⟨fun h => UInt16.toNat_inj.1 (by omega), fun h => by rw [h]⟩
theorem jG {l : List GDesc} {x d : GDesc} {self : UInt8} {room : Int} (h : x ∈ db l d self room) : x ∈ l ∨ x = d := by
 unfold db at h
 split at h
 ·exact put_mem x h
 ·split at h
  ·exact .inl h
  ·split at h
   ·exact .inl h
   ·split at h
    ·rcases put_mem x h with h | h
     ·exact .inl (List.mem_filter.1 h).1
     ·exact .inr h
    ·exact .inl h
theorem acM {l : List GDesc} {d : GDesc} {self : UInt8} {room : Int} : (db l d self room).length ≤ l.length + 1 := by
 unfold db
 split
 ·exact gM d room
 ·split
  ·exact Nat.le_succ _
  ·split
   ·exact Nat.le_succ _
   ·split
    ·refine Nat.le_trans (gM d _) ?_
     have := List.length_filter_le (fun e : GDesc => !decide (e.node = (‹GDesc›).node)) l
     exact Nat.succ_le_succ (List.length_filter_le _ _)
    ·exact Nat.le_succ _
theorem jh {p : ak} (h : okG p) {v : List GDesc} (h1 : v.length ≤ 4000000) (h2 : ∀ d ∈ v, okF d) : okG { p with view := v } :=
 ⟨⟨h.ok.filter, ⟨h1, fun d hd => (h2 d hd).1⟩, h.ok.near, h.ok.succ, h.ok.pred, h.ok.sent, h.ok.table, h.ok.heard, h.ok.rows, h.ok.reports, h.ok.evs, h.ok.pulls⟩, h.filter, h2, h.near, h.succ, h.pred, h.table⟩
end Go.Proofs.YtlaefellhnkfbaaGreat.V
namespace Go.Proofs.YtlaefellhnkfbaaGreat.V
open Go.Eng
attribute [local go_sem] aO aU ah fzD plR bH bw aM bL aJ au bu dC z8 z16 z32 z64 ax aZ fa List.map_cons List.map_nil
theorem se (c : av) (p : ak) (m : aV) (dr : List UInt32) (hc : c.schema.length ≤ 4) (hcs : ∀ s ∈ c.schema, okS s) (hp : okH p) (hm : okMg m) (hu : p.up = true) (hto : m.to = p.node) (hk : m.kind = 1) :
  Con2 Tryz.prog 12 [.agg (aJ c), .agg (au p), .agg (ax m), .fz 1 (dr.map aX)] (· = plR (.tup [.agg (au (nj c p m).1), .fz 17 ((nj c p m).2.map ax)])) := by
 refine Con2.ofEmb ?_
 have hf := aQ p hp.ok
 have hh := cY c p m.frm m.inc hp.ok hp.rs
 have hq := di (c := c) hp m.frm m.inc
 unfold nj
 generalize aI c p m.frm m.inc = Q at hh hq
 obtain ⟨q, hd⟩ := Q
 simp only at hq hh ⊢
 refine af Ty.mixed Tryz.func12 rfl (by kernel_rfl) (by kernel_rfl) rfl [.cell 8 49, .tmp 9] rfl ?_
 refine g2_ ?_
 refine g2_ ?_
 refine cw_ hf ?_
 refine g2_ ?_
 rw [hu, hto]
 refine gx_ ?_
 refine CallS.eqW hh (wg_ hu hto) (.inl ws_) ?_
 refine g2_ ?_
 cases hd with
 | false =>
  refine g2_ ?_
  refine ae ?_ rfl
  exact wx_
 | true =>
  refine g2_ ?_
  refine .inl ⟨oF [1, 2] (oT 0 (oF [3, 4, 5, 6, 7, 8] [])), by kernel_rfl, ?_⟩
  refine g2_ ?_
  refine cw_ dm ?_
  refine g2_ ?_
  refine ⟨d9, m.kind, rfl, ?_⟩
  rw [show lkF eM m.kind = some 100 by rw [hk]; rfl]
  refine g2_ ?_
  have kq := bN c q [] hc hcs hq.g ⟨by simp, by simp⟩ (by simp)
  have hfin := rz c m.list (by omega) hm.ds
  have hmf := hm.f8
  have hmi := hm.fs
  cases hml : m.list with
  | nil =>
   rw [show dz c q m = (q, []) by rw [dz, hml]]
   refine CallS.inline Ty.mixed Tryz.func100 rfl (by kernel_rfl) (by kernel_rfl) rfl [] rfl (Vc2.of ?_)
   refine g2_ ?_
   refine g2_ ?_
   refine .inl ⟨oF [0, 1, 2, 3, 4, 8, 5, 9, 6, 10, 7, 11, 12, 13, 14, 15, 16, 20, 17, 21, 18, 22, 19, 23, 24, 25, 26] [], by kernel_rfl, ?_⟩
   refine gf_ @c00 ?_
   refine .inl ⟨oF [0, 1, 2, 3, 4, 5, 6, 7, 8, 9] [], by kernel_rfl, ?_⟩
   refine g2_ ?_
   refine cw_ kq ?_
   refine g2_ ?_
   refine .inr (.inr (.inl ⟨oF [0, 4, 1, 5, 2, 6, 3, 7] (oT 8 (oF [9] [])), [8], by kernel_rfl, ?_⟩))
   refine g2_ ?_
   refine ae ?_ rfl
   exact wx_
  | cons d r =>
   cases r with
   | cons e r =>
    have hlen : ((r.length + 1 + 1 : Nat) : Int) ≠ 1 := by omega
    rw [show dz c q m = (q, []) by rw [dz, hml]]
    refine CallS.inline Ty.mixed Tryz.func100 rfl (by kernel_rfl) (by kernel_rfl) rfl [] rfl (Vc2.of ?_)
    refine g2_ ?_
    refine g2_ ?_
    refine .inl ⟨oF [0, 1, 2, 3, 4, 8, 5, 9, 6, 10, 7, 11, 12, 13, 14, 15, 16, 20, 17, 21, 18, 22, 19, 23, 24, 25, 26] [], by kernel_rfl, ?_⟩
    refine gx_ ?_
    rw [show (((r.length + 1 + 1 : Nat) : Int) != 1) = true from bne_iff_ne.2 hlen]
    refine g2_ ?_
    refine .inl ⟨oF [0, 1, 2, 3, 4, 5, 6, 7, 8, 9] [], by kernel_rfl, ?_⟩
    refine g2_ ?_
    refine cw_ kq ?_
    refine g2_ ?_
    refine .inr (.inr (.inl ⟨oF [0, 4, 1, 5, 2, 6, 3, 7] (oT 8 (oF [9] [])), [8], by kernel_rfl, ?_⟩))
    refine g2_ ?_
    refine ae ?_ rfl
    exact wx_
   | nil =>
    rw [hml] at hfin hmf hmi
    have hd8 := hmf d (by simp)
    have hdi := hmi d (by simp)
    refine CallS.inline Ty.mixed Tryz.func100 rfl (by kernel_rfl) (by kernel_rfl) rfl [] rfl (Vc2.of ?_)
    refine g2_ ?_
    refine g2_ ?_
    refine .inl ⟨oF [0, 1, 2, 3, 4, 8, 5, 9, 6, 10, 7, 11, 12, 13, 14, 15, 16, 20, 17, 21, 18, 22, 19, 23, 24, 25, 26] [], by kernel_rfl, ?_⟩
    refine gx_ ?_
    rw [show (((0 + 1 : Nat) : Int) != 1) = false from rfl]
    refine g2_ ?_
    by_cases e1 : d.node = m.frm
    ·rw [show ((d.node.toNat : Int) != (m.frm.toNat : Int)) = false by rw [e1]; exact bne_self_eq_false _]
     refine g2_ ?_
     by_cases e2 : d.inc = m.inc
     ·rw [show ((d.inc.toNat : Int) != (m.inc.toNat : Int)) = false by rw [e2]; exact bne_self_eq_false _]
      refine g2_ ?_
      refine cw_ hfin ?_
      cases e3 : da c d with
      | true =>
       have ef : ew c [d] = [d] := by simp [ew, e3]
       rw [ef]
       have hj : dz c q m = ({ q with view := db q.view d q.node c.view }, [{ bV q 2 m.frm with list := bY q.view (aT q), table := q.table }]) := by simp [dz, hml, e1, e2, e3]
       rw [hj]
       have ks := fW q hq.g.ok
       have kw := mr q.view (aT q) hq.g.ok.view hq.g.ok.filter
       have km := eV q 2 m.frm
       have hwl : bZ (bY q.view (aT q)) := by
        refine ⟨?_, fun x hx => ?_⟩
        ·have h1 := hq.v8.1
         simp only [bY, List.length_append, List.length_cons, List.length_take, List.length_drop]; omega
        ·simp only [bY, List.mem_append, List.mem_cons] at hx
         rcases hx with h | h | h
         ·exact hq.g.ok.view.2 x (List.mem_of_mem_take h)
         ·rw [h]; exact hq.g.ok.filter
         ·exact hq.g.ok.view.2 x (List.mem_of_mem_drop h)
       have kc := aS (bY q.view (aT q)) hwl
       have kt := fj (q.table.map aM) (by have := hq.g.table; rw [List.length_map]; omega)
       have ka := aij q.view d q.node c.view hq.v8 (ux hc e3) hq.vw
       have kq' := bN c { q with view := db q.view d q.node c.view } [] hc hcs (jh hq.g (Nat.le_trans acM (by have := hq.v8.1; omega)) (fun x hx => by
        rcases jG hx with h | h
        ·exact hq.g.view x h
        ·rw [h]; exact ⟨by omega, hdi⟩)) ⟨by simp, by simp⟩ (by simp)
       clear kq
       have kq := kq'
       clear kq'
       generalize db q.view d q.node c.view = V at ka kq ⊢
       generalize bY q.view (aT q) = Wl at kw kc ⊢
       generalize aT q = S at ks kw
       generalize hM : bV q 2 m.frm = M at km ⊢
       refine gx_ ?_
       rw [show (((1 : Nat) : Int) == 0) = false from rfl]
       refine g2_ ?_
       refine .inl ⟨oF [0, 1, 6, 11, 17, 2, 7, 12, 18, 3, 8, 13, 19, 4, 9, 14, 20, 5, 10, 21] (oT 15 (oT 16 (oF [22] []))), by kernel_rfl, ?_⟩
       refine g2_ ?_
       refine cw_ ks ?_
       refine g2_ ?_
       refine cw_ kw ?_
       refine g2_ ?_
       refine CallS.inline Ty.mixed Tryz.func63 rfl (by kernel_rfl) (by kernel_rfl) rfl [] rfl (Vc2.of ?_)
       refine g2_ ?_
       refine g2_ ?_
       refine cw_ km ?_
       refine g2_ ?_
       refine cw_ kc ?_
       refine g2_ ?_
       refine cw_ kt ?_
       refine g2_ ?_
       refine .inl ⟨oF [0, 1, 5, 2, 3, 4] (oT 6 (oF [7, 8, 9, 10] [])), by kernel_rfl, ?_⟩
       refine g2_ ?_
       refine .inl ⟨oF [0, 1, 6, 9, 14, 2, 7, 10, 15, 3, 8, 11, 16, 4, 12, 17, 5, 13, 18, 19, 20, 21, 22, 23] [], by kernel_rfl, ?_⟩
       refine g2_ ?_
       refine cw_ ka ?_
       refine g2_ ?_
       refine .inl ⟨oF [0, 1, 2, 3, 4, 5, 6, 7, 8, 9] [], by kernel_rfl, ?_⟩
       refine g2_ ?_
       refine cw_ kq ?_
       refine g2_ ?_
       refine .inr (.inr (.inl ⟨oF [0, 4, 1, 5, 2, 6, 3, 7] (oT 8 (oF [9] [])), [8], by kernel_rfl, ?_⟩))
       refine g2_ ?_
       refine ae ?_ rfl
       exact wx_
      | false =>
       have ef : ew c [d] = [] := by simp [ew, e3]
       have hj : dz c q m = (q, []) := by simp [dz, hml, e3]
       rw [ef, hj]
       refine gf_ @c00 ?_
       refine .inl ⟨oF [0, 1, 2, 3, 4, 5, 6, 7, 8, 9] [], by kernel_rfl, ?_⟩
       refine g2_ ?_
       refine cw_ kq ?_
       refine g2_ ?_
       refine .inr (.inr (.inl ⟨oF [0, 4, 1, 5, 2, 6, 3, 7] (oT 8 (oF [9] [])), [8], by kernel_rfl, ?_⟩))
       refine g2_ ?_
       refine ae ?_ rfl
       exact wx_
     ·have hj : dz c q m = (q, []) := by simp [dz, hml, e2]
      rw [hj, show ((d.inc.toNat : Int) != (m.inc.toNat : Int)) = true from bne_iff_ne.2 (fun h => e2 ((akh _ _).1 h))]
      refine g2_ ?_
      refine .inl ⟨oF [0, 1, 2, 3, 4, 5, 6, 7, 8, 9] [], by kernel_rfl, ?_⟩
      refine g2_ ?_
      refine cw_ kq ?_
      refine g2_ ?_
      refine .inr (.inr (.inl ⟨oF [0, 4, 1, 5, 2, 6, 3, 7] (oT 8 (oF [9] [])), [8], by kernel_rfl, ?_⟩))
      refine g2_ ?_
      refine ae ?_ rfl
      exact wx_
    ·have hj : dz c q m = (q, []) := by simp [dz, hml, e1]
     rw [hj, show ((d.node.toNat : Int) != (m.frm.toNat : Int)) = true from bne_iff_ne.2 (fun h => e1 ((ajO _ _).1 h))]
     refine g2_ ?_
     refine .inl ⟨oF [0, 1, 2, 3, 4, 5, 6, 7, 8, 9] [], by kernel_rfl, ?_⟩
     refine g2_ ?_
     refine cw_ kq ?_
     refine g2_ ?_
     refine .inr (.inr (.inl ⟨oF [0, 4, 1, 5, 2, 6, 3, 7] (oT 8 (oF [9] [])), [8], by kernel_rfl, ?_⟩))
     refine g2_ ?_
     refine ae ?_ rfl
     exact wx_
end Go.Proofs.YtlaefellhnkfbaaGreat.V
