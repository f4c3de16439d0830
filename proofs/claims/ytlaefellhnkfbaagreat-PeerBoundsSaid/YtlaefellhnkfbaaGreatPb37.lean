/-
 bF 37 of the proof of Pb: the engine and the walks, in their order.
-/
import Derived.Test.YtlaefellhnkfbaaGreatPb29
import Derived.Test.YtlaefellhnkfbaaGreatPb35
import Derived.Test.YtlaefellhnkfbaaGreatPb36
set_option linter.unusedSimpArgs false
set_option linter.unusedVariables false
namespace Go.Eng
section
variable {α : Type}
def cI (lt : α → α → Bool) (x : α) (P : List α) : Nat → Nat
 | 0 => 0
 | j + 1 => match P[j]? with
  | some y => bif lt x y then cI lt x P j else j + 1
  | none => j + 1
def bD (P : List α) (x : α) (j : Nat) : List α := P.take j ++ x :: P.drop j
def iB (lt : α → α → Bool) (P : List α) (x : α) : List α := bD P x (cI lt x P P.length)
def aG (lt : α → α → Bool) (l : List α) : List α := l.foldl (iB lt) []
theorem ke {lt : α → α → Bool} {x : α} {P : List α} {j : Nat} (h : j < P.length) (hl : lt x P[j] = true) : cI lt x P (j + 1) = cI lt x P j := by
 simp only [cI, List.getElem?_eq_getElem h, hl, cond_true]
theorem kb {lt : α → α → Bool} {x : α} {P : List α} {j : Nat} (h : j < P.length) (hl : lt x P[j] = false) : cI lt x P (j + 1) = j + 1 := by
 simp only [cI, List.getElem?_eq_getElem h, hl, cond_false]
theorem cg {P : List α} {x : α} {j : Nat} : (bD P x j).length = P.length + 1 := by
 simp only [bD, List.length_append, List.length_cons, List.length_take, List.length_drop]; omega
theorem nL {P : List α} {x : α} {j : Nat} (h : j ≤ P.length) : (bD P x j)[j]? = some x := by
 rw [bD, List.getElem?_append_right (by simp; omega)]
 have : j - (P.take j).length = 0 := by simp; omega
 rw [this]; rfl
theorem kX {P : List α} {x : α} {j : Nat} (h : j < P.length) : (bD P x (j + 1))[j]? = some P[j] := by
 rw [bD, List.getElem?_append_left (by simp; omega), List.getElem?_take_of_lt (by omega), List.getElem?_eq_getElem h]
theorem nE {P : List α} {x : α} {j : Nat} (h : j < P.length) : ((bD P x (j + 1)).set (j + 1) P[j]).set j x = bD P x j := by
 apply List.ext_getElem?
 intro k
 have l1 := cg (P := P) (x := x) (j := j + 1)
 rw [List.getElem?_set]
 by_cases e1 : j = k
 ·subst e1
  rw [if_pos rfl, if_pos (by simp only [List.length_set]; omega), nL (by omega)]
 rw [if_neg e1, List.getElem?_set]
 by_cases e2 : j + 1 = k
 ·subst e2
  rw [if_pos rfl, if_pos (by omega)]
  symm
  rw [bD, List.getElem?_append_right (by simp; omega)]
  have : j + 1 - (P.take j).length = 1 := by simp; omega
  rw [this, List.getElem?_cons_succ, List.getElem?_drop, Nat.add_zero, List.getElem?_eq_getElem h]
 rw [if_neg e2]
 simp only [bD]
 by_cases e3 : k < j
 ·rw [List.getElem?_append_left (by simp; omega), List.getElem?_append_left (by simp; omega), List.getElem?_take_of_lt (by omega), List.getElem?_take_of_lt (by omega)]
 ·rw [List.getElem?_append_right (by simp; omega), List.getElem?_append_right (by simp; omega)]
  have a1 : k - (P.take (j + 1)).length = (k - (j + 2)) + 1 := by simp; omega
  have a2 : k - (P.take j).length = (k - (j + 2)) + 2 := by simp; omega
  rw [a1, a2, List.getElem?_cons_succ, List.getElem?_cons_succ, List.getElem?_drop, List.getElem?_drop]
  congr 1; omega
theorem oP {l : List α} {i : Nat} (P : List α) (h : i < l.length) (hP : P.length = i) : P ++ l.drop i = bD P l[i] P.length ++ l.drop (i + 1) := by
 rw [bD, List.take_length, List.drop_length, List.drop_eq_getElem_cons h, List.append_assoc]; rfl
theorem adl {lt : α → α → Bool} {P : List α} {x : α} : (iB lt P x).length = P.length + 1 := cg
theorem iR {lt : α → α → Bool} : ∀ (l P : List α), (l.foldl (iB lt) P).length = P.length + l.length
 | [], P => rfl
 | x :: r, P => by rw [List.foldl_cons, iR r, adl, List.length_cons]; omega
theorem bv {lt : α → α → Bool} {l : List α} : (aG lt l).length = l.length := by rw [aG, iR]; simp
theorem ml {lt : α → α → Bool} {l : List α} {i : Nat} (h : i < l.length) : aG lt (l.take (i + 1)) = iB lt (aG lt (l.take i)) l[i] := by
 rw [aG, List.take_add_one, List.getElem?_eq_getElem h, List.foldl_append]; rfl
theorem aa4 {P : List α} {x y : α} {j : Nat} (h : y ∈ bD P x j) : y = x ∨ y ∈ P := by
 simp only [bD, List.mem_append, List.mem_cons] at h
 rcases h with h | h | h
 ·exact .inr (List.mem_of_mem_take h)
 ·exact .inl h
 ·exact .inr (List.mem_of_mem_drop h)
theorem eQ {lt : α → α → Bool} : ∀ {l P : List α} {y : α}, y ∈ l.foldl (iB lt) P → y ∈ l ∨ y ∈ P
 | [], P, y, h => .inr h
 | x :: r, P, y, h => by
  rcases eQ (l := r) (P := iB lt P x) h with h | h
  ·exact .inl (List.mem_cons_of_mem _ h)
  ·rcases aa4 h with h | h
   ·exact .inl (by rw [h]; exact List.mem_cons_self)
   ·exact .inr h
end
structure nB where
 d : GDesc
 o : Nat
def fg (a b : Nat) : Int := if a < b then -1 else if b < a then 1 else 0
def uF (a b : nB) : Int := if fg b.o a.o ≠ 0 then fg b.o a.o else if fg a.d.age.toNat b.d.age.toNat ≠ 0 then fg a.d.age.toNat b.d.age.toNat else fg a.d.node.toNat b.d.node.toNat
def b_ (a b : nB) : Bool := decide (uF a b < 0)
def b9 (a b : GDesc) : Bool := decide (fg a.node.toNat b.node.toNat < 0)
end Go.Eng
namespace Go.Proofs.YtlaefellhnkfbaaGreat.V
open Go.Eng
def cK (own : List GSpan) (l : List GDesc) : List nB := (l.map fun d => ⟨d, nw own d.filter⟩).filter fun x => decide (0 < x.o)
def cQ (own : List GSpan) (self : UInt8) (room : Int) (ls : List (List GDesc)) : List GDesc :=
 if room < 1 then [] else aG b9 (((aG b_ (cK own (bx self ls))).take room.toNat).map (·.d))
def fc (far : UInt16 → UInt16 → UInt16) (here : UInt16) (dom : List GSpan) (l : List GDesc) : Nat → Nat × UInt16
 | 0 => (0, far here (eo dom (l.headD aR)))
 | k + 1 => match l[k]? with
  | some d => if far here (eo dom d) < (fc far here dom l k).2 then (k, far here (eo dom d)) else fc far here dom l k
  | none => fc far here dom l k
def cw (far : UInt16 → UInt16 → UInt16) (here : UInt16) (dom : List GSpan) (l : List GDesc) : GDesc := l.getD (fc far here dom l l.length).1 aR
def dv (dom : List GSpan) (self : GDesc) (ls : List (List GDesc)) : fa :=
 if bx self.node ls = [] then ⟨false, false, aR, aR⟩
 else ⟨true, true, cw (fun h t => t - h) (eo dom self) dom (bx self.node ls), cw (fun h t => h - t) (eo dom self) dom (bx self.node ls)⟩
end Go.Proofs.YtlaefellhnkfbaaGreat.V

set_option maxRecDepth 10000
namespace Go.Proofs.YtlaefellhnkfbaaGreat.V
open Go.Eng
attribute [local go_sem] aP ah fzD plR bB z8 z16 z32 z64 c00
theorem n_ (a : Int) : Con2 Tryz.prog 221 [.v (.int .u8 a)] (· = plR (.v (.bool false))) := by
 refine af Ty.mixed Tryz.func221 rfl (by kernel_rfl) (by kernel_rfl) rfl [.tmp 2] rfl ?_
 refine g2_ ?_
 repeat first | simp -implicitDefEqProofs only [go_sem, aa, bne_self_eq_false] | with_reducible first | refine gl_ ?_ | refine ga_ ?_ | refine gn_ ?_
 exact ⟨_, rfl, ac [] (by simp -implicitDefEqProofs only [go_sem, aa, bne_self_eq_false])⟩
theorem qy (a : Int) : Con2 Tryz.prog 246 [.v (.int .u32 a)] (· = plR (.v (.bool false))) := by
 refine af Ty.mixed Tryz.func246 rfl (by kernel_rfl) (by kernel_rfl) rfl [.tmp 2] rfl ?_
 refine g2_ ?_
 repeat first | simp -implicitDefEqProofs only [go_sem, aa, bne_self_eq_false] | with_reducible first | refine gl_ ?_ | refine ga_ ?_ | refine gn_ ?_
 exact ⟨_, rfl, ac [] (by simp -implicitDefEqProofs only [go_sem, aa, bne_self_eq_false])⟩
theorem oM (a b : Nat) : Con2 Tryz.prog 175 [.v (.int .u8 a), .v (.int .u8 b)] (· = plR (.v (.int .i64 (fg a b)))) := by
 refine af Ty.mixed Tryz.func175 rfl (by kernel_rfl) (by kernel_rfl) rfl [.tmp 4] rfl ?_
 refine g2_ ?_
 refine g2_ ?_
 refine CallS.eq (n_ a) ws_ (.inl ws_) ?_
 refine g2_ ?_
 refine CallS.eq (n_ b) ws_ (.inl ws_) ?_
 refine g2_ ?_
 by_cases h1 : (a : Int) < (b : Int)
 ·rw [decide_eq_true h1]
  refine g2_ ?_
  exact ⟨_, rfl, ac [] (by simp -implicitDefEqProofs only [go_sem, aa, fg, show a < b by omega, if_true])⟩
 rw [decide_eq_false h1]
 refine g2_ ?_
 by_cases h2 : (b : Int) < (a : Int)
 ·rw [decide_eq_true h2]
  refine g2_ ?_
  exact ⟨_, rfl, ac [] (by simp -implicitDefEqProofs only [go_sem, aa, fg, show ¬ a < b by omega, show b < a by omega, if_true, if_false])⟩
 rw [decide_eq_false h2]
 refine g2_ ?_
 exact ⟨_, rfl, ac [] (by simp -implicitDefEqProofs only [go_sem, aa, fg, show ¬ a < b by omega, show ¬ b < a by omega, if_true, if_false])⟩
theorem aat (a b : Nat) : Con2 Tryz.prog 219 [.v (.int .u32 a), .v (.int .u32 b)] (· = plR (.v (.int .i64 (fg a b)))) := by
 refine af Ty.mixed Tryz.func219 rfl (by kernel_rfl) (by kernel_rfl) rfl [.tmp 4] rfl ?_
 refine g2_ ?_
 refine g2_ ?_
 refine CallS.eq (qy a) ws_ (.inl ws_) ?_
 refine g2_ ?_
 refine CallS.eq (qy b) ws_ (.inl ws_) ?_
 refine g2_ ?_
 by_cases h1 : (a : Int) < (b : Int)
 ·rw [decide_eq_true h1]
  refine g2_ ?_
  exact ⟨_, rfl, ac [] (by simp -implicitDefEqProofs only [go_sem, aa, fg, show a < b by omega, if_true])⟩
 rw [decide_eq_false h1]
 refine g2_ ?_
 by_cases h2 : (b : Int) < (a : Int)
 ·rw [decide_eq_true h2]
  refine g2_ ?_
  exact ⟨_, rfl, ac [] (by simp -implicitDefEqProofs only [go_sem, aa, fg, show ¬ a < b by omega, show b < a by omega, if_true, if_false])⟩
 rw [decide_eq_false h2]
 refine g2_ ?_
 exact ⟨_, rfl, ac [] (by simp -implicitDefEqProofs only [go_sem, aa, fg, show ¬ a < b by omega, show ¬ b < a by omega, if_true, if_false])⟩
def or3 (a b c : Int) : Int := if a ≠ 0 then a else if b ≠ 0 then b else c
theorem ahK (a b c : Int) : Con2 Tryz.prog 218 [.fz 1 [[.v (.int .i64 a)], [.v (.int .i64 b)], [.v (.int .i64 c)]]] (· = plR (.v (.int .i64 (or3 a b c)))) := by
 refine af Ty.mixed Tryz.func218 rfl (by kernel_rfl) (by kernel_rfl) rfl [.tmp 2] rfl ?_
 refine g2_ ?_
 refine g2_ ?_
 refine ax 3 (fun k => []) (fun _ => []) (fun k => []) 0 (fun k => (0 < k → a = 0) ∧ (1 < k → b = 0) ∧ (2 < k → c = 0)) (ac [] ?_) (by omega) (fun g k => by first | rfl | ((try (with_reducible refine ab ?_)); simp -implicitDefEqProofs only [go_sem, aa]; repeat ((with_reducible refine ab ?_); simp -implicitDefEqProofs only [go_sem, aa]))) (by omega) (fun g => by simp -implicitDefEqProofs only [go_sem, aa]) (fun k hk hF => ?_) (fun hF => ?_)
 ·((try (with_reducible refine ab ?_)); simp -implicitDefEqProofs only [go_sem, aa]; repeat ((with_reducible refine ab ?_); simp -implicitDefEqProofs only [go_sem, aa]))
  first | done | rfl | exact ⟨rfl, rfl⟩ | trace_state
 ·obtain ⟨f1, f2, f3⟩ := hF
  obtain ⟨x, hx, hgo⟩ : ∃ x : Int, ([[DV.v (.int .i64 a)], [.v (.int .i64 b)], [.v (.int .i64 c)]] : List (List DV))[k]? = some [.v (.int .i64 x)] ∧ ((x ≠ 0 → or3 a b c = x) ∧ (x = 0 → ((0 < k + 1 → a = 0) ∧ (1 < k + 1 → b = 0) ∧ (2 < k + 1 → c = 0)))) := by
   match k, hk with
   | 0, _ => exact ⟨a, rfl, fun h => if_pos h, fun h => by omega⟩
   | 1, _ => exact ⟨b, rfl, fun h => by have := f1 (by omega); rw [or3, if_neg (by omega), if_pos h], fun h => by omega⟩
   | 2, _ => exact ⟨c, rfl, fun h => by have := f1 (by omega); have := f2 (by omega); rw [or3, if_neg (by omega), if_neg (by omega)], fun h => by omega⟩
  repeat first | simp -implicitDefEqProofs only [go_sem, aa, hx] | with_reducible first | refine gl_ ?_ | refine ga_ ?_ | refine gn_ ?_
  refine nA (fun h => ?_) (fun h => ?_)
  ·rw [hgo.1 h]
   refine g2_ ?_
   exact ⟨_, rfl, ac [] ws_⟩
  ·refine g2_ ?_
   exact ⟨k + 1, ac [] ws_, rfl, hgo.2 (by omega)⟩
 ·obtain ⟨f1, f2, f3⟩ := hF
  have e : or3 a b c = 0 := by rw [or3, if_neg (by omega), if_neg (by omega)]; omega
  rw [e]
  refine g2_ ?_
  exact ⟨_, rfl, ac [] ws_⟩
theorem adZ (x y : nB) : Con2 Tryz.prog 172 [.agg (ah x.d), .v (.int .u32 x.o), .agg (ah y.d), .v (.int .u32 y.o)] (· = plR (.v (.int .i64 (uF x y)))) := by
 have e : uF x y = or3 (fg y.o x.o) (fg x.d.age.toNat y.d.age.toNat) (fg x.d.node.toNat y.d.node.toNat) := rfl
 rw [e]
 have k1 := aat y.o x.o
 have k2 := oM x.d.age.toNat y.d.age.toNat
 have k3 := oM x.d.node.toNat y.d.node.toNat
 have k4 := ahK (fg y.o x.o) (fg x.d.age.toNat y.d.age.toNat) (fg x.d.node.toNat y.d.node.toNat)
 generalize fg y.o x.o = a at k1 k4
 generalize fg x.d.age.toNat y.d.age.toNat = b at k2 k4
 generalize fg x.d.node.toNat y.d.node.toNat = c at k3 k4
 refine af Ty.mixed Tryz.func172 rfl (by kernel_rfl) (by kernel_rfl) rfl [.tmp 8] rfl ?_
 refine g2_ ?_
 refine g2_ ?_
 refine .inl ⟨oF [0, 1, 3, 5, 8, 10, 4, 6, 9, 11] (oT 2 (oT 7 (oF [12, 13, 14, 15] []))), by kernel_rfl, ?_⟩
 refine g2_ ?_
 refine CallS.eq k1 ws_ (.inl ws_) ?_
 refine g2_ ?_
 refine CallS.eq k2 ws_ (.inl ws_) ?_
 refine g2_ ?_
 refine CallS.eq k3 ws_ (.inl ws_) ?_
 refine g2_ ?_
 refine CallS.eq k4 ws_ (.inl ws_) ?_
 refine g2_ ?_
 exact ⟨_, rfl, ac [] ws_⟩
def ahI : Nat → Nat
 | 0 => 0
 | 1 => 1
 | 2 => 2
 | 3 => 2
 | 4 => 3
 | 5 => 3
 | 6 => 3
 | 7 => 3
 | _ => 4
theorem aen (n : Nat) (hn : n ≤ 12) : Con2 Tryz.prog 192 [.v (.int .u64 n)] (· = plR (.v (.int .i64 (ahI n)))) := by
 refine af Ty.mixed Tryz.func192 rfl (by kernel_rfl) (by kernel_rfl) rfl [.tmp 2] rfl ?_
 refine g2_ ?_
 refine g2_ ?_
 rw [show decide ((4294967296 : Int) ≤ n) = false from decide_eq_false (by omega)]
 refine g2_ ?_
 rw [show decide ((65536 : Int) ≤ n) = false from decide_eq_false (by omega)]
 refine g2_ ?_
 rw [show decide ((256 : Int) ≤ n) = false from decide_eq_false (by omega)]
 refine g2_ ?_
 refine jF (by omega) ?_
 refine g2_ ?_
 refine ⟨.int .u8 (ahI n), fun w => ?_, ?_⟩
 ·match n, hn with
  | 0, _ => show _ = _; kernel_rfl
  | 1, _ => show _ = _; kernel_rfl
  | 2, _ => show _ = _; kernel_rfl
  | 3, _ => show _ = _; kernel_rfl
  | 4, _ => show _ = _; kernel_rfl
  | 5, _ => show _ = _; kernel_rfl
  | 6, _ => show _ = _; kernel_rfl
  | 7, _ => show _ = _; kernel_rfl
  | 8, _ => show _ = _; kernel_rfl
  | 9, _ => show _ = _; kernel_rfl
  | 10, _ => show _ = _; kernel_rfl
  | 11, _ => show _ = _; kernel_rfl
  | 12, _ => show _ = _; kernel_rfl
  | k + 13, h => omega
 have hb : ahI n ≤ 4 := by
  match n, hn with
  | 0, _ => decide
  | 1, _ => decide
  | 2, _ => decide
  | 3, _ => decide
  | 4, _ => decide
  | 5, _ => decide
  | 6, _ => decide
  | 7, _ => decide
  | k + 8, _ => exact Nat.le_refl 4
 repeat first | simp -implicitDefEqProofs only [go_sem, aa, Int.zero_add] | with_reducible first | refine gl_ ?_ | refine ga_ ?_ | refine gn_ ?_
 exact ⟨_, rfl, ac [] (by simp -implicitDefEqProofs only [go_sem, aa, Int.zero_add])⟩
theorem uj (n : Nat) (hn : n ≤ 12) : Con2 Tryz.prog 115 [.v (.int .u64 n)] (· = plR (.v (.int .i64 (ahI n)))) := by
 refine af Ty.mixed Tryz.func115 rfl (by kernel_rfl) (by kernel_rfl) rfl [.tmp 2] rfl ?_
 refine g2_ ?_
 refine g2_ ?_
 refine CallS.eq (aen n hn) ws_ (.inl ws_) ?_
 refine g2_ ?_
 exact ⟨_, rfl, ac [] ws_⟩
end Go.Proofs.YtlaefellhnkfbaaGreat.V

set_option maxRecDepth 10000
namespace Go.Eng
def bw (s : nB) : List DV := [.v (.int .u8 s.d.node.toNat), .v (.int .u16 s.d.inc.toNat), .v (.int .u8 s.d.age.toNat), .fz 2 (s.d.filter.map aP), .v (.int .u32 s.o)]
end Go.Eng
namespace Go.Proofs.YtlaefellhnkfbaaGreat.V
open Go.Eng
attribute [local go_sem] aP ah fzD plR bB z8 z16 z32 z64 c00 bw
theorem acP (x y : nB) : Con2 Tryz.prog 171 [.agg (bw x), .agg (bw y)] (· = plR (.v (.int .i64 (uF x y)))) := by
 refine af Ty.mixed Tryz.func171 rfl (by kernel_rfl) (by kernel_rfl) rfl [.tmp 4] rfl ?_
 refine g2_ ?_
 refine g2_ ?_
 refine CallS.eq (adZ x y) ws_ (.inl ws_) ?_
 refine g2_ ?_
 exact ⟨_, rfl, ac [] ws_⟩
def ah9 (a b : GDesc) : Int := fg a.node.toNat b.node.toNat
theorem ae_ (x y : GDesc) : Con2 Tryz.prog 174 [.agg (ah x), .agg (ah y)] (· = plR (.v (.int .i64 (ah9 x y)))) := by
 refine af Ty.mixed Tryz.func174 rfl (by kernel_rfl) (by kernel_rfl) rfl [.tmp 4] rfl ?_
 refine g2_ ?_
 refine g2_ ?_
 refine CallS.eq (oM x.node.toNat y.node.toNat) ws_ (.inl ws_) ?_
 refine g2_ ?_
 exact ⟨_, rfl, ac [] (by simp -implicitDefEqProofs only [go_sem, aa]; rfl)⟩
theorem agc (l : List nB) (hl : l.length ≤ 12) {ρ σ nb K} (hk : K (.tup []) ⟨ρ, σ, [(0, .arr 203 5 ((aG b_ l).map bw) false)], 1, nb⟩) :
  CallS Tryz.prog false 238 [.rf 0 0 l.length, .v (.int .i64 0), .v (.int .i64 l.length), .fn 171 [] []] ⟨ρ, σ, [(0, .arr 203 5 (l.map bw) false)], 1, nb⟩ K := by
 refine CallS.inline Ty.mixed Tryz.func238 rfl (by kernel_rfl) (by kernel_rfl) rfl [] rfl (Vc2.of ?_)
 refine g2_ ?_
 refine g2_ ?_
 refine bt (γ := Nat) (fun i => [(8, .d (.v (.int .i64 (i : Nat))))]) (fun _ => []) (fun i => [(0, .arr 203 5 ((aG b_ (l.take i) ++ l.drop i).map bw) false)]) 1 (fun i => 1 ≤ i ∧ (l.length < i → i = 1)) (fun i => l.length + 1 - i) 1 (ac [] ?_) ⟨by omega, by omega⟩ (fun i hi => ?_)
 ·have e : aG b_ (l.take 1) ++ l.drop 1 = l := by
   cases l with
   | nil => rfl
   | cons x r => rfl
  repeat first | simp -implicitDefEqProofs only [go_sem, aa, e] | with_reducible refine gl_ ?_
  first | rfl | exact ⟨rfl, rfl⟩ | trace_state
 obtain ⟨hi1, hi2⟩ := hi
 refine g2_ ?_
 by_cases hlt : i < l.length
 ·rw [decide_eq_true (show (i : Int) < (l.length : Int) by omega)]
  refine g2_ ?_
  obtain ⟨P, hP⟩ : ∃ P, P = aG b_ (l.take i) := ⟨_, rfl⟩
  have hPl : P.length = i := by rw [hP, bv, List.length_take]; omega
  obtain ⟨x, hx⟩ : ∃ x, x = l[i] := ⟨_, rfl⟩
  have hnext : cI b_ x P i ≤ i → bD P x (cI b_ x P i) ++ l.drop (i + 1) = aG b_ (l.take (i + 1)) ++ l.drop (i + 1) := by
   intro _; rw [ml hlt, ← hP, ← hx, iB, hPl]
  have h0 : aG b_ (l.take i) ++ l.drop i = bD P x i ++ l.drop (i + 1) := by
   rw [← hP, hx]; have := oP P hlt hPl; rwa [hPl] at this
  rw [h0]
  generalize hD : l.drop (i + 1) = rest at hnext
  have r1 : ∀ j, j ≤ i → ((bD P x j ++ rest).map bw)[j]? = some (bw x) := fun j hj => by
   rw [List.getElem?_map, List.getElem?_append_left (by rw [cg]; omega), nL (by omega)]; rfl
  have r2 : ∀ j, (hj : j < i) → ((bD P x (j + 1) ++ rest).map bw)[j]? = some (bw (P[j]'(by omega))) := fun j hj => by
   rw [List.getElem?_map, List.getElem?_append_left (by rw [cg]; omega), kX (by omega)]; rfl
  have r3 : ∀ j, ((bD P x j ++ rest).map bw).length = l.length := fun j => by
   rw [List.length_map, List.length_append, cg, ← hD, List.length_drop]; omega
  have r4 : ∀ j, (hj : j < i) → ((((bD P x (j + 1) ++ rest).map bw).set (j + 1) (bw (P[j]'(by omega)))).set j (bw x)) = (bD P x j ++ rest).map bw := fun j hj => by
   rw [← List.map_set, ← List.map_set, List.set_append_left _ _ (by rw [cg]; omega), List.set_append_left _ _ (by rw [List.length_set, cg]; omega), nE (by omega)]
  refine bt (γ := Nat) (fun j => [(9, .d (.v (.int .i64 (j : Nat))))]) (fun _ => []) (fun j => [(0, .arr 203 5 ((bD P x j ++ rest).map bw) false)]) 1 (fun j => j ≤ i ∧ cI b_ x P j = cI b_ x P i) (fun j => j) i (ac [] ?_) ⟨Nat.le_refl _, rfl⟩ (fun j hj => ?_)
  ·((try (with_reducible refine ab ?_)); simp -implicitDefEqProofs only [go_sem, aa]; repeat ((with_reducible refine ab ?_); simp -implicitDefEqProofs only [go_sem, aa]))
   first | done | rfl | exact ⟨rfl, rfl⟩ | trace_state
  obtain ⟨hj1, hj2⟩ := hj
  cases j with
  | zero =>
   rw [← hj2] at hnext
   refine g2_ ?_
   refine .inl ⟨oF [0, 1, 2, 3, 4, 5, 6, 9, 10, 7, 11, 8, 12, 13, 14, 15, 16] [], by kernel_rfl, ?_⟩
   refine g2_ ?_
   rw [show decide ((0 : Int) < 0) = false from rfl]
   have hz : bD P x 0 ++ rest = aG b_ (l.take (i + 1)) ++ l.drop (i + 1) := by rw [hD]; exact hnext (Nat.zero_le _)
   rw [hz]
   refine g2_ ?_
   refine ⟨i + 1, ac [] ?_, ⟨by omega, by omega⟩, by omega⟩
   refine g2_ ?_
   rfl
  | succ j =>
   have hjP : j < P.length := by omega
   have hcc := acP x P[j]
   have q1 := r1 (j + 1) hj1
   have q2 := r2 j (by omega)
   have q3 := r3 (j + 1)
   have q4 := r4 j (by omega)
   generalize q6 : (bD P x (j + 1) ++ rest).map bw = R at q1 q2 q3 q4
   have q5 : ∀ v, (R.set (j + 1) v)[j]? = some (bw P[j]) := fun v => by rw [List.getElem?_set_ne (by omega)]; exact q2
   simp only [bw] at q1 q2 q4 q5
   refine g2_ ?_
   refine .inl ⟨oF [0, 1, 2, 3, 4, 5, 6, 9, 10, 7, 11, 8, 12, 13, 14, 15, 16] [], by kernel_rfl, ?_⟩
   refine g2_ ?_
   rw [show decide ((0 : Int) < ((j + 1 : Nat) : Int)) = true from decide_eq_true (by omega)]
   have e1 : ((j + 1 : Nat) : Int) - 1 = (j : Nat) := by omega
   repeat first | simp -implicitDefEqProofs only [go_sem, aa, q1, q2, q3, e1, Int.toNat_natCast] | with_reducible first | refine gl_ ?_ | refine ga_ ?_ | refine gn_ ?_
   refine CallS.eq hcc ws_ (.inl ws_) ?_
   refine g2_ ?_
   by_cases hc : uF x P[j] < 0
   ·rw [decide_eq_true hc]
    have hs : cI b_ x P (j + 1) = cI b_ x P j := ke hjP (decide_eq_true hc)
    refine g2_ ?_
    refine .inl ⟨oF [0, 1, 2, 3, 5, 6, 10, 11, 4, 7, 12, 8, 13, 9, 14, 15, 16, 17] [], by kernel_rfl, ?_⟩
    repeat first | simp -implicitDefEqProofs only [go_sem, aa, q1, q2, q3, q5, e1, Int.toNat_natCast, List.contains_nil] | with_reducible first | refine gl_ ?_ | refine ga_ ?_ | refine gn_ ?_
    refine ⟨j, ac [] ?_, ⟨by omega, by omega⟩, by omega⟩
    rw [← q4]
    exact ws_
   ·rw [decide_eq_false hc]
    have hs : cI b_ x P (j + 1) = j + 1 := kb hjP (decide_eq_false hc)
    rw [← hj2, hs] at hnext
    rw [← q6, hnext hj1, ← hD]
    refine g2_ ?_
    refine ⟨i + 1, ac [] ?_, ⟨by omega, by omega⟩, by omega⟩
    refine g2_ ?_
    rfl
 ·rw [decide_eq_false (show ¬ (i : Int) < (l.length : Int) by omega)]
  have e : aG b_ (l.take i) ++ l.drop i = aG b_ l := by
   by_cases h : l.length = 0
   ·have := List.eq_nil_of_length_eq_zero h; subst this; simp
   ·rw [List.take_of_length_le (by omega), List.drop_eq_nil_of_le (by omega), List.append_nil]
  rw [e]
  refine g2_ ?_
  exact hk
theorem ag7 (l : List nB) (m : Int) (hl : l.length ≤ 12) {ρ σ nb K} (hk : K (.tup []) ⟨ρ, σ, [(0, .arr 203 5 ((aG b_ l).map bw) false)], 1, nb⟩) :
  CallS Tryz.prog false 217 [.rf 0 0 l.length, .v (.int .i64 0), .v (.int .i64 l.length), .v (.int .i64 m), .fn 171 [] []] ⟨ρ, σ, [(0, .arr 203 5 (l.map bw) false)], 1, nb⟩ K := by
 refine CallS.inline Ty.mixed Tryz.func217 rfl (by kernel_rfl) (by kernel_rfl) rfl [] rfl (Vc2.of ?_)
 refine g2_ ?_
 refine g2_ ?_
 refine bt (γ := Unit) (fun _ => []) (fun _ => []) (fun _ => [(0, .arr 203 5 (l.map bw) false)]) 1 (fun _ => True) (fun _ => 0) () (ac [] ws_) trivial (fun i hi => ?_)
 refine g2_ ?_
 rw [show decide ((l.length : Int) - 0 ≤ 12) = true from decide_eq_true (by omega)]
 refine g2_ ?_
 refine agc l hl ?_
 refine g2_ ?_
 exact hk
theorem acS (l : List nB) (hl : l.length ≤ 12) {ρ σ nb K} (hk : K (.tup []) ⟨ρ, σ, [(0, .arr 203 5 ((aG b_ l).map bw) false)], 1, nb⟩) :
  CallS Tryz.prog false 170 [.rf 0 0 l.length, .fn 171 [] []] ⟨ρ, σ, [(0, .arr 203 5 (l.map bw) false)], 1, nb⟩ K := by
 refine CallS.inline Ty.mixed Tryz.func170 rfl (by kernel_rfl) (by kernel_rfl) rfl [] rfl (Vc2.of ?_)
 refine g2_ ?_
 refine g2_ ?_
 refine gA (by omega) ?_
 refine g2_ ?_
 refine CallS.eq (uj l.length hl) ws_ (.inl ws_) ?_
 refine g2_ ?_
 refine ag7 l _ hl ?_
 refine g2_ ?_
 exact hk
theorem agy (l : List GDesc) (hl : l.length ≤ 12) {L0 : List (List DV)}{ρ σ nb K} (hk : K (.tup []) ⟨ρ, σ, [(1, .arr 34 4 ((aG b9 l).map ah) false), (0, .arr 203 5 L0 false)], 2, nb⟩) :
  CallS Tryz.prog false 247 [.rf 1 0 l.length, .v (.int .i64 0), .v (.int .i64 l.length), .fn 174 [] []] ⟨ρ, σ, [(1, .arr 34 4 (l.map ah) false), (0, .arr 203 5 L0 false)], 2, nb⟩ K := by
 refine CallS.inline Ty.mixed Tryz.func247 rfl (by kernel_rfl) (by kernel_rfl) rfl [] rfl (Vc2.of ?_)
 refine g2_ ?_
 refine g2_ ?_
 refine bt (γ := Nat) (fun i => [(8, .d (.v (.int .i64 (i : Nat))))]) (fun _ => []) (fun i => [(1, .arr 34 4 ((aG b9 (l.take i) ++ l.drop i).map ah) false), (0, .arr 203 5 L0 false)]) 2 (fun i => 1 ≤ i ∧ (l.length < i → i = 1)) (fun i => l.length + 1 - i) 1 (ac [] ?_) ⟨by omega, by omega⟩ (fun i hi => ?_)
 ·have e : aG b9 (l.take 1) ++ l.drop 1 = l := by
   cases l with
   | nil => rfl
   | cons x r => rfl
  repeat first | simp -implicitDefEqProofs only [go_sem, aa, e] | with_reducible refine gl_ ?_
  first | rfl | exact ⟨rfl, rfl⟩ | trace_state
 obtain ⟨hi1, hi2⟩ := hi
 refine g2_ ?_
 by_cases hlt : i < l.length
 ·rw [decide_eq_true (show (i : Int) < (l.length : Int) by omega)]
  refine g2_ ?_
  obtain ⟨P, hP⟩ : ∃ P, P = aG b9 (l.take i) := ⟨_, rfl⟩
  have hPl : P.length = i := by rw [hP, bv, List.length_take]; omega
  obtain ⟨x, hx⟩ : ∃ x, x = l[i] := ⟨_, rfl⟩
  have hnext : cI b9 x P i ≤ i → bD P x (cI b9 x P i) ++ l.drop (i + 1) = aG b9 (l.take (i + 1)) ++ l.drop (i + 1) := by
   intro _; rw [ml hlt, ← hP, ← hx, iB, hPl]
  have h0 : aG b9 (l.take i) ++ l.drop i = bD P x i ++ l.drop (i + 1) := by
   rw [← hP, hx]; have := oP P hlt hPl; rwa [hPl] at this
  rw [h0]
  generalize hD : l.drop (i + 1) = rest at hnext
  have r1 : ∀ j, j ≤ i → ((bD P x j ++ rest).map ah)[j]? = some (ah x) := fun j hj => by
   rw [List.getElem?_map, List.getElem?_append_left (by rw [cg]; omega), nL (by omega)]; rfl
  have r2 : ∀ j, (hj : j < i) → ((bD P x (j + 1) ++ rest).map ah)[j]? = some (ah (P[j]'(by omega))) := fun j hj => by
   rw [List.getElem?_map, List.getElem?_append_left (by rw [cg]; omega), kX (by omega)]; rfl
  have r3 : ∀ j, ((bD P x j ++ rest).map ah).length = l.length := fun j => by
   rw [List.length_map, List.length_append, cg, ← hD, List.length_drop]; omega
  have r4 : ∀ j, (hj : j < i) → ((((bD P x (j + 1) ++ rest).map ah).set (j + 1) (ah (P[j]'(by omega)))).set j (ah x)) = (bD P x j ++ rest).map ah := fun j hj => by
   rw [← List.map_set, ← List.map_set, List.set_append_left _ _ (by rw [cg]; omega), List.set_append_left _ _ (by rw [List.length_set, cg]; omega), nE (by omega)]
  refine bt (γ := Nat) (fun j => [(9, .d (.v (.int .i64 (j : Nat))))]) (fun _ => []) (fun j => [(1, .arr 34 4 ((bD P x j ++ rest).map ah) false), (0, .arr 203 5 L0 false)]) 2 (fun j => j ≤ i ∧ cI b9 x P j = cI b9 x P i) (fun j => j) i (ac [] ?_) ⟨Nat.le_refl _, rfl⟩ (fun j hj => ?_)
  ·((try (with_reducible refine ab ?_)); simp -implicitDefEqProofs only [go_sem, aa]; repeat ((with_reducible refine ab ?_); simp -implicitDefEqProofs only [go_sem, aa]))
   first | done | rfl | exact ⟨rfl, rfl⟩ | trace_state
  obtain ⟨hj1, hj2⟩ := hj
  cases j with
  | zero =>
   rw [← hj2] at hnext
   refine g2_ ?_
   refine .inl ⟨oF [0, 1, 2, 3, 4, 5, 6, 9, 10, 7, 11, 8, 12, 13, 14, 15, 16] [], by kernel_rfl, ?_⟩
   refine g2_ ?_
   rw [show decide ((0 : Int) < 0) = false from rfl]
   have hz : bD P x 0 ++ rest = aG b9 (l.take (i + 1)) ++ l.drop (i + 1) := by rw [hD]; exact hnext (Nat.zero_le _)
   rw [hz]
   refine g2_ ?_
   refine ⟨i + 1, ac [] ?_, ⟨by omega, by omega⟩, by omega⟩
   refine g2_ ?_
   rfl
  | succ j =>
   have hjP : j < P.length := by omega
   have hcc := ae_ x P[j]
   have q1 := r1 (j + 1) hj1
   have q2 := r2 j (by omega)
   have q3 := r3 (j + 1)
   have q4 := r4 j (by omega)
   generalize q6 : (bD P x (j + 1) ++ rest).map ah = R at q1 q2 q3 q4
   have q5 : ∀ v, (R.set (j + 1) v)[j]? = some (ah P[j]) := fun v => by rw [List.getElem?_set_ne (by omega)]; exact q2
   simp only [ah] at q1 q2 q4 q5
   refine g2_ ?_
   refine .inl ⟨oF [0, 1, 2, 3, 4, 5, 6, 9, 10, 7, 11, 8, 12, 13, 14, 15, 16] [], by kernel_rfl, ?_⟩
   refine g2_ ?_
   rw [show decide ((0 : Int) < ((j + 1 : Nat) : Int)) = true from decide_eq_true (by omega)]
   have e1 : ((j + 1 : Nat) : Int) - 1 = (j : Nat) := by omega
   repeat first | simp -implicitDefEqProofs only [go_sem, aa, q1, q2, q3, e1, Int.toNat_natCast] | with_reducible first | refine gl_ ?_ | refine ga_ ?_ | refine gn_ ?_
   refine CallS.eq hcc ws_ (.inl ws_) ?_
   refine g2_ ?_
   by_cases hc : ah9 x P[j] < 0
   ·rw [decide_eq_true hc]
    have hs : cI b9 x P (j + 1) = cI b9 x P j := ke hjP (decide_eq_true hc)
    refine g2_ ?_
    refine .inl ⟨oF [0, 1, 2, 3, 5, 6, 10, 11, 4, 7, 12, 8, 13, 9, 14, 15, 16, 17] [], by kernel_rfl, ?_⟩
    repeat first | simp -implicitDefEqProofs only [go_sem, aa, q1, q2, q3, q5, e1, Int.toNat_natCast, List.contains_nil] | with_reducible first | refine gl_ ?_ | refine ga_ ?_ | refine gn_ ?_
    refine ⟨j, ac [] ?_, ⟨by omega, by omega⟩, by omega⟩
    rw [← q4]
    exact ws_
   ·rw [decide_eq_false hc]
    have hs : cI b9 x P (j + 1) = j + 1 := kb hjP (decide_eq_false hc)
    rw [← hj2, hs] at hnext
    rw [← q6, hnext hj1, ← hD]
    refine g2_ ?_
    refine ⟨i + 1, ac [] ?_, ⟨by omega, by omega⟩, by omega⟩
    refine g2_ ?_
    rfl
 ·rw [decide_eq_false (show ¬ (i : Int) < (l.length : Int) by omega)]
  have e : aG b9 (l.take i) ++ l.drop i = aG b9 l := by
   by_cases h : l.length = 0
   ·have := List.eq_nil_of_length_eq_zero h; subst this; simp
   ·rw [List.take_of_length_le (by omega), List.drop_eq_nil_of_le (by omega), List.append_nil]
  rw [e]
  refine g2_ ?_
  exact hk
theorem ahE (l : List GDesc) (m : Int) (hl : l.length ≤ 12) {L0 : List (List DV)}{ρ σ nb K} (hk : K (.tup []) ⟨ρ, σ, [(1, .arr 34 4 ((aG b9 l).map ah) false), (0, .arr 203 5 L0 false)], 2, nb⟩) :
  CallS Tryz.prog false 220 [.rf 1 0 l.length, .v (.int .i64 0), .v (.int .i64 l.length), .v (.int .i64 m), .fn 174 [] []] ⟨ρ, σ, [(1, .arr 34 4 (l.map ah) false), (0, .arr 203 5 L0 false)], 2, nb⟩ K := by
 refine CallS.inline Ty.mixed Tryz.func220 rfl (by kernel_rfl) (by kernel_rfl) rfl [] rfl (Vc2.of ?_)
 refine g2_ ?_
 refine g2_ ?_
 refine bt (γ := Unit) (fun _ => []) (fun _ => []) (fun _ => [(1, .arr 34 4 (l.map ah) false), (0, .arr 203 5 L0 false)]) 2 (fun _ => True) (fun _ => 0) () (ac [] ws_) trivial (fun i hi => ?_)
 refine g2_ ?_
 rw [show decide ((l.length : Int) - 0 ≤ 12) = true from decide_eq_true (by omega)]
 refine g2_ ?_
 refine agy l hl ?_
 refine g2_ ?_
 exact hk
theorem ac4 (l : List GDesc) (hl : l.length ≤ 12) {L0 : List (List DV)}{ρ σ nb K} (hk : K (.tup []) ⟨ρ, σ, [(1, .arr 34 4 ((aG b9 l).map ah) false), (0, .arr 203 5 L0 false)], 2, nb⟩) :
  CallS Tryz.prog false 173 [.rf 1 0 l.length, .fn 174 [] []] ⟨ρ, σ, [(1, .arr 34 4 (l.map ah) false), (0, .arr 203 5 L0 false)], 2, nb⟩ K := by
 refine CallS.inline Ty.mixed Tryz.func173 rfl (by kernel_rfl) (by kernel_rfl) rfl [] rfl (Vc2.of ?_)
 refine g2_ ?_
 refine g2_ ?_
 refine gA (by omega) ?_
 refine g2_ ?_
 refine CallS.eq (uj l.length hl) ws_ (.inl ws_) ?_
 refine g2_ ?_
 refine ahE l _ hl ?_
 refine g2_ ?_
 exact hk
end Go.Proofs.YtlaefellhnkfbaaGreat.V

set_option maxRecDepth 10000
namespace Go.Proofs.YtlaefellhnkfbaaGreat.V
open Go.Eng
attribute [local go_sem] aP ah fzD plR bB z8 z16 z32 z64 c00
theorem mt (own : List GSpan) (l : List GDesc) (k : Nat) : (cK own (l.take k)).length ≤ l.length := by
 refine Nat.le_trans (List.length_filter_le _ _) ?_
 rw [List.length_map, List.length_take]; omega
theorem rr {own : List GSpan} {l : List GDesc} {k : Nat} (h : k < l.length) : cK own (l.take (k + 1)) = cK own (l.take k) ++ (if 0 < nw own l[k].filter then [⟨l[k], nw own l[k].filter⟩] else []) := by
 rw [cK, List.take_add_one, List.getElem?_eq_getElem h, List.map_append, List.filter_append]
 congr 1
 by_cases h2 : 0 < nw own l[k].filter
 ·rw [if_pos h2]; simp [h2]
 ·rw [if_neg h2]; simp [h2]
theorem s7 (own : List GSpan) (self : UInt8) (room : Int) (L : List (List GDesc)) (hL : L.length ≤ 1000) (hl : ∀ l ∈ L, bO l) (h1 : own.length ≤ 1000) (h2 : ∀ s ∈ own, okS s) (hok : ∀ d ∈ bx self L, d.filter.length ≤ 1000 ∧ ∀ s ∈ d.filter, okS s) (h12 : (bx self L).length ≤ 12) :
  Con2 Tryz.prog 111 [fzS own, .v (.int .u8 self.toNat), .v (.int .i64 room), .fz 1 (kZ L)] (· = plR (fzD (cQ own self room L))) := by
 refine Con2.ofEmb ?_
 have hu := qt self L hL hl
 unfold cQ
 generalize bx self L = known at hu hok h12
 refine af Ty.mixed Tryz.func111 rfl (by kernel_rfl) (by kernel_rfl) rfl [.tmp 8] rfl ?_
 refine g2_ ?_
 refine g2_ ?_
 by_cases hr : room < 1
 ·rw [decide_eq_true hr, if_pos hr]
  refine g2_ ?_
  refine ae ?_ rfl
  repeat first | simp -implicitDefEqProofs only [go_sem, aa, List.map_nil] | with_reducible refine gl_ ?_
 rw [decide_eq_false hr, if_neg hr]
 refine g2_ ?_
 refine CallS.eq hu ws_ (.inl ws_) ?_
 refine g2_ ?_
 refine ax known.length (fun k => [(9, .d (.rf 0 0 (cK own (known.take k)).length))]) (fun _ => []) (fun k => [(0, .arr 203 5 ((cK own (known.take k)).map bw) false)]) 1 (fun _ => True) (ac [(0, .nil 5)] ?_) trivial (fun g k => by simp -implicitDefEqProofs only [go_sem, aa]) (by omega) (fun g => by simp -implicitDefEqProofs only [go_sem, aa]) (fun k hk _ => ?_) (fun _ => ?_)
 ·repeat first | simp -implicitDefEqProofs only [go_sem, aa, List.take_zero, cK, List.filter_nil, List.map_nil] | with_reducible refine gl_ ?_
  first | rfl | exact ⟨rfl, rfl⟩ | trace_state
 ·have hsl := mt own known k
  have hsn := rr (own := own) hk
  have hd := hok _ (List.getElem_mem hk)
  have hov := ym own known[k].filter (by omega) (by omega) h2 hd.2
  repeat first | simp -implicitDefEqProofs only [go_sem, aa, au hk] | with_reducible first | refine gl_ ?_ | refine ga_ ?_ | refine gn_ ?_
  generalize known[k] = d at hsn hov
  refine CallS.eq hov ws_ (.inl ws_) ?_
  refine g2_ ?_
  by_cases h3 : (0 : Int) < (nw own d.filter : Int)
  ·rw [decide_eq_true h3]
   rw [if_pos (by omega)] at hsn
   repeat first | simp -implicitDefEqProofs only [go_sem, aa, List.length_map] | with_reducible first | refine gl_ ?_ | refine ga_ ?_ | refine gn_ ?_
   refine ⟨k + 1, ac [(0, .to 2)] ?_, rfl⟩
   repeat first | simp -implicitDefEqProofs only [go_sem, aa, hsn, List.length_append] | with_reducible refine gl_ ?_
   rw [List.map_append]
   rfl
  ·rw [decide_eq_false h3]
   rw [if_neg (by omega), List.append_nil] at hsn
   repeat first | simp -implicitDefEqProofs only [go_sem, aa, List.length_map] | with_reducible first | refine gl_ ?_ | refine ga_ ?_ | refine gn_ ?_
   refine ⟨k + 1, ac [(0, .to 0)] ?_, rfl⟩
   repeat first | simp -implicitDefEqProofs only [go_sem, aa, hsn, List.length_append] | with_reducible refine gl_ ?_
 ·have he : known.take known.length = known := List.take_of_length_le (by omega)
  have hsl := mt own known known.length
  rw [he] at hsl ⊢
  generalize cK own known = S at hsl
  refine g2_ ?_
  refine acS S (by omega) ?_
  refine g2_ ?_
  obtain ⟨T, hT⟩ : ∃ T, T = aG b_ S := ⟨_, rfl⟩
  have hTl : T.length = S.length := by rw [hT, bv]
  rw [← hT]
  obtain ⟨m, hm⟩ : ∃ m : Nat, m = min room.toNat T.length := ⟨_, rfl⟩
  have hmi : (if (S.length : Int) < room then (S.length : Int) else room) = (m : Int) := by split <;> omega
  have htk : T.take room.toNat = T.take m := by
   by_cases h : room.toNat ≤ T.length
   ·rw [show m = room.toNat by omega]
   ·rw [List.take_of_length_le (by omega), List.take_of_length_le (by omega)]
  rw [htk, hmi]
  refine ax m (fun k => [(13, .d (.rf 1 0 ((T.take k).map (·.d)).length))]) (fun _ => []) (fun k => [(1, .arr 34 4 (((T.take k).map (·.d)).map ah) false), (0, .arr 203 5 (T.map bw) false)]) 2 (fun _ => True) (ac [(1, .nil 4), (0, .to 0)] ?_) trivial (fun g k => by simp -implicitDefEqProofs only [go_sem, aa]) (by omega) (fun g => by simp -implicitDefEqProofs only [go_sem, aa]) (fun k hk _ => ?_) (fun _ => ?_)
  ·repeat first | simp -implicitDefEqProofs only [go_sem, aa, List.take_zero, List.map_nil] | with_reducible refine gl_ ?_
   first | done | rfl | exact ⟨rfl, rfl⟩ | trace_state
  ·have hkT : k < T.length := by omega
   have hg : (T.map bw)[k]? = some (bw T[k]) := by rw [List.getElem?_map, List.getElem?_eq_getElem hkT]; rfl
   have hsn : (T.take (k + 1)).map (·.d) = (T.take k).map (·.d) ++ [T[k].d] := by
    rw [List.take_add_one, List.getElem?_eq_getElem hkT, List.map_append]; rfl
   have hcl : ((T.take k).map (·.d)).length ≤ 12 := by rw [List.length_map, List.length_take]; omega
   generalize (T.take k).map (·.d) = C at hsn hcl
   simp only [bw] at hg
   repeat first | simp -implicitDefEqProofs only [go_sem, aa, hg, hTl, List.length_map] | with_reducible first | refine gl_ ?_ | refine ga_ ?_ | refine gn_ ?_
   refine ⟨k + 1, ac [(1, .to 3), (0, .to 0)] ?_, rfl⟩
   have hsl2 : (T.take (k + 1)).length = C.length + 1 := by have := congrArg List.length hsn; rw [List.length_map, List.length_append] at this; exact this
   repeat first | simp -implicitDefEqProofs only [go_sem, aa, hsn, List.length_append] | with_reducible refine gl_ ?_
   rw [List.map_append]
   exact ⟨hsl2, rfl⟩
  ·have hcl : ((T.take m).map (·.d)).length ≤ 12 := by rw [List.length_map, List.length_take]; omega
   generalize (T.take m).map (·.d) = C at hcl
   refine g2_ ?_
   refine ac4 C hcl ?_
   refine g2_ ?_
   refine ae ?_ rfl
   repeat first | simp -implicitDefEqProofs only [go_sem, aa, bv] | with_reducible refine gl_ ?_
   rw [List.take_of_length_le (by rw [List.length_map, bv]; exact Nat.le_refl _)]
end Go.Proofs.YtlaefellhnkfbaaGreat.V

set_option maxRecDepth 10000
namespace Go.Proofs.YtlaefellhnkfbaaGreat.V
open Go.Eng
attribute [local go_sem] aP ah fzD plR bB z8 z16 z32 z64 c00 aT
theorem gK {far : UInt16 → UInt16 → UInt16} {here : UInt16} {dom : List GSpan} {l : List GDesc} (h : l ≠ []) : ∀ k, (fc far here dom l k).1 < l.length
 | 0 => by cases l with
  | nil => exact absurd rfl h
  | cons x r => exact Nat.zero_lt_succ _
 | k + 1 => by
  unfold fc
  cases h2 : l[k]? with
  | none => exact gK h k
  | some d =>
   simp only
   split
   ·exact (List.getElem?_eq_some_iff.1 h2).1
   ·exact gK h k
theorem wI {far : UInt16 → UInt16 → UInt16} {here : UInt16} {dom : List GSpan} {l : List GDesc} {k : Nat} (h : k < l.length) : fc far here dom l (k + 1) = if far here (eo dom l[k]) < (fc far here dom l k).2 then (k, far here (eo dom l[k])) else fc far here dom l k := by
 rw [fc, List.getElem?_eq_getElem h]
theorem mu (clo : FuncId) (far : UInt16 → UInt16 → UInt16) (hfar : ∀ a b : UInt16, Con2 Tryz.prog clo [.v (.int .u16 a.toNat), .v (.int .u16 b.toNat)] (· = plR (.v (.int .u16 (far a b).toNat)))) (dom : List GSpan) (here : UInt16) (known : List GDesc) (hne : known ≠ []) (hmax : known.length ≤ 100000)
  (h4 : dom.length ≤ 4) (hd : ∀ s ∈ dom, okS s) (hok : ∀ d ∈ known, d.filter.length ≤ 1000 ∧ ∀ s ∈ d.filter, okS s) {ρ σ nb K}
  (hk : K (.agg (ah (cw far here dom known))) ⟨ρ, σ, [(2, .var 32 [fzD known]), (1, .var 23 [fzS dom]), (0, .var 30 [.v (.int .u16 here.toNat)])], 3, nb⟩) :
  CallS Tryz.prog false 177 [.fn clo [] [], .pt 0 0, .pt 1 0, .pt 2 0] ⟨ρ, σ, [(2, .var 32 [fzD known]), (1, .var 23 [fzS dom]), (0, .var 30 [.v (.int .u16 here.toNat)])], 3, nb⟩ K := by
 obtain ⟨d0, hd0⟩ : ∃ d0, known[0]? = some d0 := ⟨known[0]'(by cases known; exact absurd rfl hne; simp), List.getElem?_eq_getElem _⟩
 have hlen : 0 < known.length := by cases known; exact absurd rfl hne; simp
 have hh : known.headD aR = d0 := by cases known with
  | nil => exact absurd rfl hne
  | cons x r => simpa using hd0
 have hm0 : d0 ∈ known := List.mem_of_getElem? hd0
 have hp0 := ku dom d0 h4 (by have := (hok d0 hm0).1; omega) hd (hok d0 hm0).2
 have hg0 : (known.map ah)[0]? = some (ah d0) := by rw [List.getElem?_map, hd0]; rfl
 have hf0 := hfar here (eo dom d0)
 simp only [ah] at hg0
 have ek0 : fc far here dom known 0 = (0, far here (eo dom d0)) := by rw [fc, hh]
 refine CallS.inline Ty.mixed Tryz.func177 rfl (by kernel_rfl) (by kernel_rfl) rfl [.cell 5 34] rfl (Vc2.of ?_)
 refine g2_ ?_
 refine g2_ ?_
 refine .inl ⟨oF [0, 1, 2, 3, 4, 5] (oT 6 (oF [7, 8] [])), by kernel_rfl, ?_⟩
 repeat first | simp -implicitDefEqProofs only [go_sem, aa, hg0] | with_reducible first | refine gl_ ?_ | refine ga_ ?_ | refine gn_ ?_
 refine CallS.eq hp0 ws_ (.inl ws_) ?_
 refine g2_ ?_
 refine CallS.eq hf0 ws_ (.inl ws_) ?_
 refine g2_ ?_
 refine ax known.length (fun k => [(6, .d (.v (.int .i64 (fc far here dom known k).1))), (7, .d (.v (.int .u16 (fc far here dom known k).2.toNat)))]) (fun _ => []) (fun k => [(2, .var 32 [fzD known]), (1, .var 23 [fzS dom]), (0, .var 30 [.v (.int .u16 here.toNat)])]) 3 (fun _ => True) (ac [] ?_) trivial (fun g k => by simp -implicitDefEqProofs only [go_sem, aa]) (by omega) (fun g => by simp -implicitDefEqProofs only [go_sem, aa]) (fun k hk2 _ => ?_) (fun _ => ?_)
 ·repeat first | simp -implicitDefEqProofs only [go_sem, aa, ek0] | with_reducible refine gl_ ?_
  first | done | rfl | exact ⟨rfl, rfl⟩ | trace_state
 ·have hmk := hok _ (List.getElem_mem hk2)
  have hpk := ku dom known[k] h4 (by have := hmk.1; omega) hd hmk.2
  have hfk := hfar here (eo dom known[k])
  have hsu := wI (far := far) (here := here) (dom := dom) hk2
  have hlt1 := gK (far := far) (here := here) (dom := dom) hne k
  repeat first | simp -implicitDefEqProofs only [go_sem, aa, au hk2] | with_reducible first | refine gl_ ?_ | refine ga_ ?_ | refine gn_ ?_
  refine .inl ⟨oF [0, 1, 2, 3] (oT 4 (oF [5, 6] [])), by kernel_rfl, ?_⟩
  refine g2_ ?_
  refine CallS.eq hpk ws_ (.inl ws_) ?_
  refine g2_ ?_
  refine CallS.eq hfk ws_ (.inl ws_) ?_
  refine g2_ ?_
  by_cases hc : ((far here (eo dom known[k])).toNat : Int) < ((fc far here dom known k).2.toNat : Int)
  ·rw [decide_eq_true hc]
   rw [if_pos ((fR _ _).1 hc)] at hsu
   refine g2_ ?_
   refine ⟨k + 1, ac [] ?_, rfl⟩
   repeat first | simp -implicitDefEqProofs only [go_sem, aa, hsu] | with_reducible refine gl_ ?_
  ·rw [decide_eq_false hc]
   rw [if_neg (fun h => hc ((fR _ _).2 h))] at hsu
   refine g2_ ?_
   refine ⟨k + 1, ac [] ?_, rfl⟩
   repeat first | simp -implicitDefEqProofs only [go_sem, aa, hsu] | with_reducible refine gl_ ?_
 ·have hb := gK (far := far) (here := here) (dom := dom) hne known.length
  have hgb : (known.map ah)[(fc far here dom known known.length).1]? = some (ah (cw far here dom known)) := by
   rw [List.getElem?_map, cw, List.getD_eq_getElem?_getD, List.getElem?_eq_getElem hb]; rfl
  have hmb : cw far here dom known ∈ known := by
   rw [cw, List.getD_eq_getElem?_getD, List.getElem?_eq_getElem hb]; exact List.getElem_mem hb
  have hone := acW (cw far here dom known) (hok _ hmb).1
  generalize cw far here dom known = X at hgb hone hk
  generalize (fc far here dom known known.length).1 = B at hgb hb
  simp only [ah] at hgb
  repeat first | simp -implicitDefEqProofs only [go_sem, aa, hgb, Int.toNat_natCast] | with_reducible first | refine gl_ ?_ | refine ga_ ?_ | refine gn_ ?_
  refine CallS.eq hone ws_ (.inl ws_) ?_
  refine g2_ ?_
  exact hk
theorem acz (a b : UInt16) : Con2 Tryz.prog 179 [.v (.int .u16 a.toNat), .v (.int .u16 b.toNat)] (· = plR (.v (.int .u16 (b - a).toNat))) := by
 refine af Ty.mixed Tryz.func179 rfl (by kernel_rfl) (by kernel_rfl) rfl [.tmp 4] rfl ?_
 refine g2_ ?_
 refine g2_ ?_
 refine CallS.eq (ve a b) ws_ (.inl ws_) ?_
 refine g2_ ?_
 exact ⟨_, rfl, ac [] ws_⟩
theorem ab7 (a b : UInt16) : Con2 Tryz.prog 181 [.v (.int .u16 a.toNat), .v (.int .u16 b.toNat)] (· = plR (.v (.int .u16 (a - b).toNat))) := by
 refine af Ty.mixed Tryz.func181 rfl (by kernel_rfl) (by kernel_rfl) rfl [.tmp 4] rfl ?_
 refine g2_ ?_
 refine g2_ ?_
 refine CallS.eq (ve b a) ws_ (.inl ws_) ?_
 refine g2_ ?_
 exact ⟨_, rfl, ac [] ws_⟩
theorem sO (dom : List GSpan) (self : GDesc) (L : List (List GDesc)) (hL : L.length ≤ 1000) (hl : ∀ l ∈ L, bO l) (h4 : dom.length ≤ 4) (hd : ∀ s ∈ dom, okS s) (hs : self.filter.length ≤ 1000) (hss : ∀ s ∈ self.filter, okS s) (hok : ∀ d ∈ bx self.node L, d.filter.length ≤ 1000 ∧ ∀ s ∈ d.filter, okS s) (hlm : (bx self.node L).length ≤ 100000) :
  Con2 Tryz.prog 112 [fzS dom, .agg (ah self), .fz 1 (kZ L)] (· = plR (.agg (aT (dv dom self L)))) := by
 refine Con2.ofEmb ?_
 have hu := qt self.node L hL hl
 have hp := ku dom self h4 (by omega) hd hss
 unfold dv
 generalize bx self.node L = known at hu hok hlm
 refine af Ty.mixed Tryz.func112 rfl (by kernel_rfl) (by kernel_rfl) rfl [.cell 6 36] rfl ?_
 refine g2_ ?_
 refine g2_ ?_
 refine CallS.eq hu ws_ (.inl ws_) ?_
 refine g2_ ?_
 refine tq (fun h => ?_) (fun h => ?_)
 ·have e : known = [] := List.eq_nil_of_length_eq_zero (by omega)
  rw [if_pos e]
  refine g2_ ?_
  refine ae ?_ rfl
  repeat first | simp -implicitDefEqProofs only [go_sem, aa, aR, List.map_nil] | with_reducible refine gl_ ?_
 ·have e : known ≠ [] := fun e => h (by rw [e]; rfl)
  rw [if_neg e]
  refine g2_ ?_
  refine CallS.eq hp ws_ (.inl ws_) ?_
  refine g2_ ?_
  refine mu 179 (fun h t => t - h) acz dom _ known e hlm h4 hd hok ?_
  refine g2_ ?_
  refine mu 181 (fun h t => h - t) ab7 dom _ known e hlm h4 hd hok ?_
  refine g2_ ?_
  refine ae ?_ rfl
  exact ws_
end Go.Proofs.YtlaefellhnkfbaaGreat.V

namespace Go.Eng
def okF (d : GDesc) : Prop := d.filter.length ≤ 1000 ∧ ∀ s ∈ d.filter, okS s
theorem pM : okF aR := ⟨Nat.zero_le _, fun s h => by cases h⟩
theorem ae8 {self : UInt8} {P : GDesc → Prop} {l : List GDesc} {d : GDesc} (hl : ∀ i e, l[i]? = some e → e.inc = 0 ∨ (e.node.toNat = i ∧ P e)) (hd : P d) : ∀ i e, (iy self l d)[i]? = some e → e.inc = 0 ∨ (e.node.toNat = i ∧ P e) := by
 intro i e h
 unfold iy at h
 split at h
 ·exact hl i e h
 ·split at h
  ·split at h
   ·rw [List.getElem?_set] at h
    split at h
    ·split at h
     ·cases h; exact .inr ⟨‹_›, hd⟩
     ·cases h
    ·exact hl i e h
   ·exact hl i e h
  ·exact hl i e h
theorem lc {self : UInt8} {P : GDesc → Prop} : ∀ {ds l : List GDesc}, (∀ i e, l[i]? = some e → e.inc = 0 ∨ (e.node.toNat = i ∧ P e)) → (∀ d ∈ ds, P d) → ∀ i e, (eA self l ds)[i]? = some e → e.inc = 0 ∨ (e.node.toNat = i ∧ P e)
 | [], l, hl, _ => hl
 | d :: r, l, hl, hd => by
  show ∀ i e, (eA self (iy self l d) r)[i]? = some e → _
  exact lc (ae8 hl (hd d List.mem_cons_self)) fun x hx => hd x (List.mem_cons_of_mem _ hx)
theorem aeZ {P : GDesc → Prop} (i : Nat) (e : GDesc) (h : zL[i]? = some e) : e.inc = 0 ∨ (e.node.toNat = i ∧ P e) := by
 unfold zL at h
 rw [List.getElem?_replicate] at h
 split at h
 ·cases h; exact .inl rfl
 ·cases h
theorem gi {self : UInt8} {L : List (List GDesc)} {d : GDesc} (h : d ∈ bx self L) : ∃ l ∈ L, d ∈ l := by
 obtain ⟨h1, h2⟩ := List.mem_filter.1 h
 obtain ⟨i, hi, hd⟩ := List.mem_iff_getElem.1 h1
 rcases lc (P := fun d => d ∈ L.flatten) aeZ (fun d hd => hd) i d (by rw [List.getElem?_eq_getElem hi, hd]) with h3 | h3
 ·rw [h3] at h2; simp at h2
 ·exact List.mem_flatten.1 h3.2
theorem jN {α : Type} {f : α → Bool} : ∀ {l : List α}, (∀ x ∈ l, f x = false) → l.filter f = []
 | [], _ => rfl
 | x :: r, h => by rw [List.filter_cons, h x List.mem_cons_self]; exact jN fun y hy => h y (List.mem_cons_of_mem _ hy)
theorem xZ {self : UInt8} {L : List (List GDesc)} {n : Nat} (h : ∀ l ∈ L, ∀ d ∈ l, d.node.toNat < n) : (bx self L).length ≤ n := by
 unfold bx
 have key := lc (self := self) (P := fun d => d.node.toNat < n) aeZ (ds := L.flatten) (fun d hd => by obtain ⟨l, h1, h2⟩ := List.mem_flatten.1 hd; exact h l h1 d h2)
 generalize eA self zL L.flatten = A at key
 rw [← List.take_append_drop n A, List.filter_append, List.length_append]
 have h1 := List.length_filter_le (fun d : GDesc => decide ((0 : Int) < (d.inc.toNat : Int))) (A.take n)
 have h2 : (A.drop n).filter (fun d : GDesc => decide ((0 : Int) < (d.inc.toNat : Int))) = [] := jN fun x hx => by
  obtain ⟨i, hi, hd⟩ := List.mem_iff_getElem.1 hx
  have h3 : A[n + i]? = some x := by rw [← List.getElem?_drop, List.getElem?_eq_getElem hi, hd]
  rcases key _ _ h3 with h4 | h4
  ·rw [h4]; rfl
  ·omega
 rw [h2]
 rw [List.length_take] at h1
 simp only [List.length_nil]
 omega
end Go.Eng
namespace Go.Proofs.YtlaefellhnkfbaaGreat.V
open Go.Eng
theorem l8 {own : List GSpan} {self : UInt8} {room : Int} {L : List (List GDesc)} {d : GDesc} (h : d ∈ cQ own self room L) : d ∈ bx self L := by
 unfold cQ at h
 split at h
 ·cases h
 ·rcases eQ h with h | h
  ·obtain ⟨x, hx, rfl⟩ := List.mem_map.1 h
   rcases eQ (List.mem_of_mem_take hx) with h | h
   ·obtain ⟨h, _⟩ := List.mem_filter.1 h
    obtain ⟨y, hy, rfl⟩ := List.mem_map.1 h
    exact hy
   ·cases h
  ·cases h
theorem qx {own : List GSpan} {self : UInt8} {room : Int} {L : List (List GDesc)} : (cQ own self room L).length ≤ (bx self L).length := by
 unfold cQ
 split
 ·exact Nat.zero_le _
 ·rw [bv, List.length_map, List.length_take, bv]
  have := List.length_filter_le (fun x : nB => decide (0 < x.o)) ((bx self L).map fun d => ⟨d, nw own d.filter⟩)
  rw [List.length_map] at this
  unfold cK
  omega
theorem ni {p : ak} {d : GDesc} (h : cH p d = true) : d.node.toNat < p.table.length := by
 unfold cH at h
 split at h
 ·cases h
 ·split at h
  ·cases h
  ·rename_i h2; exact (List.getElem?_eq_some_iff.1 h2).1
theorem jc {r : fa} {d : GDesc} (h : d ∈ aJ r) : (r.hs = true ∧ d = r.succ) ∨ (r.hp = true ∧ d = r.pred) := by
 unfold aJ at h
 split at h
 ·rename_i h1
  unfold fb at h
  repeat' (split at h)
  all_goals simp at h
  ·rcases h with h | h
   ·exact .inl ⟨h1.1, h⟩
   ·exact .inr ⟨h1.2, h⟩
  ·rcases h with h | h
   ·exact .inr ⟨h1.2, h⟩
   ·exact .inl ⟨h1.1, h⟩
  ·exact .inr ⟨h1.2, h⟩
  ·exact .inl ⟨h1.1, h⟩
 ·split at h
  ·simp at h; exact .inl ⟨‹_›, h⟩
  ·split at h
   ·simp at h; exact .inr ⟨‹_›, h⟩
   ·cases h
theorem dW (r : fa) : (aJ r).length ≤ 2 := by
 unfold aJ fb
 repeat' split
 all_goals simp
def bU (p : ak) (r : fa) : fa := ⟨r.hs && cH p r.succ, r.hp && cH p r.pred, if r.hs && !cH p r.succ then aR else r.succ, if r.hp && !cH p r.pred then aR else r.pred⟩
def aH (c : av) (p : ak) (l : List GDesc) : ak :=
 let v := bk p p.view
 let b := aJ (bU p p.ring)
 let m := cr c p l
 let n := cQ p.filter p.node c.near [v, bk p p.near, b, m]
 { p with view := v, near := n, ring := dv c.schema (aX p) [v, n, b, m] }
structure okG (p : ak) : Prop where
 ok : okP p
 filter : ∀ s ∈ p.filter, okS s
 view : ∀ d ∈ p.view, okF d
 near : ∀ d ∈ p.near, okF d
 succ : okF p.ring.succ
 pred : okF p.ring.pred
 table : p.table.length ≤ 12
structure okM (n : Nat) (L : List (List GDesc)) : Prop where
 ds : ∀ l ∈ L, bO l
 f : ∀ l ∈ L, ∀ d ∈ l, okF d
 lt : ∀ l ∈ L, ∀ d ∈ l, d.node.toNat < n
theorem okM.u {n : Nat} {L : List (List GDesc)} (h : okM n L) (self : UInt8) : (∀ d ∈ bx self L, d.filter.length ≤ 1000 ∧ ∀ s ∈ d.filter, okS s) ∧ (bx self L).length ≤ n :=
 ⟨fun d hd => by obtain ⟨l, h1, h2⟩ := gi hd; exact h.f l h1 d h2, xZ h.lt⟩
theorem dg {p : ak} {l : List GDesc} (h : bO l) : bO (bk p l) := dY h
theorem qQ {c : av} {p : ak} {l : List GDesc} (hp : okG p) (hl : bO l) (hl2 : ∀ d ∈ l, okF d) : okM 12 [bk p p.view, bk p p.near, aJ (bU p p.ring), cr c p l] ∧
  ∀ room, okM 12 [bk p p.view, cQ p.filter p.node room [bk p p.view, bk p p.near, aJ (bU p p.ring), cr c p l], aJ (bU p p.ring), cr c p l] := by
 have ht := hp.table
 have a : ∀ l, (∀ d ∈ l, okF d) → ∀ d ∈ bk p l, okF d ∧ d.node.toNat < 12 := fun l hl d hd => by
  obtain ⟨h1, h2⟩ := List.mem_filter.1 hd
  have := ni h2
  exact ⟨hl d h1, by omega⟩
 have b : ∀ d ∈ aJ (bU p p.ring), okF d ∧ d.node.toNat < 12 := fun d hd => by
  rcases jc hd with ⟨h1, rfl⟩ | ⟨h1, rfl⟩
  ·have h2 : p.ring.hs = true ∧ cH p p.ring.succ = true := by simpa [bU] using h1
   have e : (bU p p.ring).succ = p.ring.succ := by simp [bU, h2.2]
   have := ni h2.2
   rw [e]
   exact ⟨hp.succ, by omega⟩
  ·have h2 : p.ring.hp = true ∧ cH p p.ring.pred = true := by simpa [bU] using h1
   have e : (bU p p.ring).pred = p.ring.pred := by simp [bU, h2.2]
   have := ni h2.2
   rw [e]
   exact ⟨hp.pred, by omega⟩
 have hb : bO (aJ (bU p p.ring)) := ⟨by have := dW (bU p p.ring); omega, fun d hd => (b d hd).1.1⟩
 have hf : ∀ d ∈ fZ c l, okF d := fun d hd => hl2 d (List.mem_filter.1 hd).1
 have m1 : okM 12 [bk p p.view, bk p p.near, aJ (bU p p.ring), cr c p l] := by
  refine ⟨fun l' h => ?_, fun l' h d hd => ?_, fun l' h d hd => ?_⟩
  ·simp at h
   rcases h with rfl | rfl | rfl | rfl
   ·exact dg hp.ok.view
   ·exact dg hp.ok.near
   ·exact hb
   ·exact dY (dY hl)
  ·simp at h
   rcases h with rfl | rfl | rfl | rfl
   ·exact (a _ hp.view d hd).1
   ·exact (a _ hp.near d hd).1
   ·exact (b d hd).1
   ·exact (a _ hf d hd).1
  ·simp at h
   rcases h with rfl | rfl | rfl | rfl
   ·exact (a _ hp.view d hd).2
   ·exact (a _ hp.near d hd).2
   ·exact (b d hd).2
   ·exact (a _ hf d hd).2
 refine ⟨m1, fun room => ?_⟩
 have hn : ∀ d ∈ cQ p.filter p.node room [bk p p.view, bk p p.near, aJ (bU p p.ring), cr c p l], okF d ∧ d.node.toNat < 12 := fun d hd => by
  obtain ⟨l', h1, h2⟩ := gi (l8 hd)
  exact ⟨m1.f l' h1 d h2, m1.lt l' h1 d h2⟩
 have hn2 : bO (cQ p.filter p.node room [bk p p.view, bk p p.near, aJ (bU p p.ring), cr c p l]) :=
  ⟨Nat.le_trans qx (Nat.le_trans (m1.u p.node).2 (by omega)), fun d hd => (hn d hd).1.1⟩
 generalize cQ p.filter p.node room [bk p p.view, bk p p.near, aJ (bU p p.ring), cr c p l] = N at hn hn2
 refine ⟨fun l' h => ?_, fun l' h d hd => ?_, fun l' h d hd => ?_⟩
 ·simp at h
  rcases h with rfl | rfl | rfl | rfl
  ·exact dg hp.ok.view
  ·exact hn2
  ·exact hb
  ·exact dY (dY hl)
 ·simp at h
  rcases h with rfl | rfl | rfl | rfl
  ·exact (a _ hp.view d hd).1
  ·exact (hn d hd).1
  ·exact (b d hd).1
  ·exact (a _ hf d hd).1
 ·simp at h
  rcases h with rfl | rfl | rfl | rfl
  ·exact (a _ hp.view d hd).2
  ·exact (hn d hd).2
  ·exact (b d hd).2
  ·exact (a _ hf d hd).2
end Go.Proofs.YtlaefellhnkfbaaGreat.V

set_option maxRecDepth 10000
set_option maxHeartbeats 4000000
namespace Go.Eng
def ltU (a b : UInt8) : Bool := decide (a < b)
def kL (acc : List UInt8) (x : UInt8) : List UInt8 := if acc.getLast? = some x then acc else acc ++ [x]
def ct (l : List UInt8) : List UInt8 := l.foldl kL []
theorem jA {l : List UInt8} {j : Nat} (h : j < l.length) : ct (l.take (j + 1)) = kL (ct (l.take j)) l[j] := by
 rw [ct, List.take_add_one, List.getElem?_eq_getElem h, List.foldl_append]; rfl
theorem qJ {l : List UInt8} : ∀ {j : Nat} (h : j < l.length), (ct (l.take (j + 1))).getLast? = some l[j] := by
 intro j h
 rw [jA h, kL]
 split
 ·assumption
 ·simp
theorem nC (l : List UInt8) : ∀ j, (ct (l.take j)).length ≤ j
 | 0 => by simp [ct]
 | j + 1 => by
  have ih := nC l j
  by_cases h : j < l.length
  ·rw [jA h, kL]
   split
   ·omega
   ·rw [List.length_append]; simp; omega
  ·rw [List.take_of_length_le (by omega)] at ih ⊢
   omega
theorem zf {l : List UInt8} {j : Nat} (h : j + 1 < l.length) (he : l[j + 1] = l[j]) : ct (l.take (j + 1 + 1)) = ct (l.take (j + 1)) := by
 rw [jA h, kL, if_pos (by rw [qJ (by omega), he])]
theorem rX {l : List UInt8} {j : Nat} (h : j + 1 < l.length) (he : l[j + 1] ≠ l[j]) : ct (l.take (j + 1 + 1)) = ct (l.take (j + 1)) ++ [l[j + 1]] := by
 rw [jA h, kL, if_neg (by rw [qJ (by omega)]; simpa using fun e => he e.symm)]
def fH (l : List UInt8) (j : Nat) : List UInt8 := ct (l.take j) ++ l.drop (ct (l.take j)).length
theorem adA {l : List UInt8} {j : Nat} (h : j ≤ l.length) : (fH l j).length = l.length := by
 have := nC l j
 rw [fH, List.length_append, List.length_drop]; omega
theorem qW {l : List UInt8} {j i : Nat} (h1 : (ct (l.take j)).length ≤ i) : (fH l j)[i]? = l[i]? := by
 rw [fH, List.getElem?_append_right h1, List.getElem?_drop]; congr 1; omega
theorem adW {l : List UInt8} {j : Nat} (h : j + 1 < l.length) (he : l[j + 1] ≠ l[j]) (hc : (ct (l.take (j + 1))).length < l.length) : (fH l (j + 1)).set (ct (l.take (j + 1))).length l[j + 1] = fH l (j + 1 + 1) := by
 rw [fH, fH, rX h he]
 generalize ct (l.take (j + 1)) = C at hc
 rw [List.set_append_right _ _ (Nat.le_refl _), Nat.sub_self, List.drop_eq_getElem_cons hc, List.set_cons_zero, List.append_assoc, List.length_append]; rfl
def cW (p : ak) : List UInt8 := [p.view, p.near, aJ p.ring].flatten.map (·.node)
def bq (p : ak) : List UInt8 := ct (aG ltU (cW p))
end Go.Eng
namespace Go.Proofs.YtlaefellhnkfbaaGreat.V
open Go.Eng
attribute [local go_sem] aR aP ah fzD plR bB bn aI bC aE aq bm dd z8 z16 z32 z64 c00 ar aT ey List.map_cons List.map_nil aU
@[local go_sem] theorem ank : ab8 Tryz.prog 5 = true := by kernel_rfl
theorem aax (a b : Nat) : Con2 Tryz.prog 188 [.v (.int .u8 a), .v (.int .u8 b)] (· = plR (.v (.bool (decide ((a : Int) < (b : Int)))))) := by
 refine af Ty.mixed Tryz.func188 rfl (by kernel_rfl) (by kernel_rfl) rfl [.tmp 4] rfl ?_
 refine g2_ ?_
 refine g2_ ?_
 refine CallS.eq (n_ a) ws_ (.inl ws_) ?_
 refine g2_ ?_
 exact ⟨_, rfl, ac [] ws_⟩
theorem cY (a b : UInt8) : Con2 Tryz.prog 188 [.v (.int .u8 a.toNat), .v (.int .u8 b.toNat)] (· = plR (.v (.bool (decide ((a.toNat : Int) < (b.toNat : Int)))))) := aax a.toNat b.toNat
theorem afI (l : List UInt8) (hl : l.length ≤ 1000) {L0 : List (List DV)} {ρ σ nb K} (hk : K (.rf 1 0 (ct l).length) ⟨ρ, σ, [(1, .arr 5 1 ((ct l).map aU) false), (0, .arr 32 1 L0 false)], 2, nb⟩) :
  CallS Tryz.prog false 50 [.rf 1 0 l.length] ⟨ρ, σ, [(1, .arr 5 1 (l.map aU) false), (0, .arr 32 1 L0 false)], 2, nb⟩ K := by
 refine CallS.inline Ty.mixed Tryz.func50 rfl (by kernel_rfl) (by kernel_rfl) rfl [.tmp 2] rfl (Vc2.of ?_)
 refine g2_ ?_
 refine g2_ ?_
 by_cases h2 : (l.length : Int) < 2
 ·have e : ct l = l := by
   match l, h2 with
   | [], _ => rfl
   | [x], _ => rfl
   | x :: y :: r, h => simp at h; omega
  rw [e] at hk
  rw [decide_eq_true h2]
  refine g2_ ?_
  exact hk
 rw [decide_eq_false h2]
 refine g2_ ?_
 refine bt (γ := Nat) (fun j => [(3, .d (.v (.int .i64 ((j + 1 : Nat) : Int))))]) (fun _ => []) (fun j => [(1, .arr 5 1 (l.map aU) false), (0, .arr 32 1 L0 false)]) 2 (fun j => j + 1 ≤ l.length ∧ ct (l.take (j + 1)) = l.take (j + 1)) (fun j => l.length - j) 0 (ac [] ?_) ⟨by omega, ?_⟩ (fun j hj => ?_)
 ·refine g2_ ?_
  first | done | rfl | exact ⟨rfl, rfl⟩ | trace_state
 ·cases l with
  | nil => simp at h2
  | cons x r => rfl
 obtain ⟨hj1, hj2⟩ := hj
 refine g2_ ?_
 by_cases h3 : j + 1 < l.length
 ·rw [decide_eq_true (show ((j + 1 : Nat) : Int) < (l.length : Int) by omega)]
  have g1 : (l.map aU)[j + 1]? = some [.v (.int .u8 l[j + 1].toNat)] := by rw [List.getElem?_map, List.getElem?_eq_getElem h3]; rfl
  have g2 : (l.map aU)[j]? = some [.v (.int .u8 (l[j]'(by omega)).toNat)] := by rw [List.getElem?_map, List.getElem?_eq_getElem (by omega)]; rfl
  have e1 : ((j + 1 : Nat) : Int) - 1 = (j : Nat) := by omega
  refine g2_ ?_
  refine .inl ⟨oF [0, 1, 4, 5, 2, 6, 3, 7, 8, 9] [], by kernel_rfl, ?_⟩
  repeat first | simp -implicitDefEqProofs only [go_sem, aa, g1, g2, e1, List.length_map] | with_reducible first | refine gl_ ?_ | refine ga_ ?_ | refine gn_ ?_
  by_cases h4 : l[j + 1] = l[j]
  ·rw [show ((l[j + 1].toNat : Int) == (l[j].toNat : Int)) = true by rw [h4]; exact beq_self_eq_true _]
   repeat first | simp -implicitDefEqProofs only [go_sem, aa, List.length_map] | with_reducible first | refine gl_ ?_ | refine ga_ ?_ | refine gn_ ?_
   have b0 : ct (l.take (j + 1 + 0 + 1)) = l.take (j + 1) := (zf h3 h4).trans hj2
   have b1 : fH l (j + 1 + 0 + 1) = l := by rw [fH, b0, List.length_take, Nat.min_eq_left (by omega), List.take_append_drop]
   have b2 : (ct (l.take (j + 1 + 0 + 1))).length = j + 1 := by rw [b0, List.length_take]; omega
   refine bt (γ := Nat) (fun k => [(5, .d (.v (.int .i64 ((k + 1 : Nat) : Int)))), (3, .d (.v (.int .i64 (ct (l.take (j + 1 + k + 1))).length)))]) (fun _ => []) (fun k => [(1, .arr 5 1 ((fH l (j + 1 + k + 1)).map aU) false), (0, .arr 32 1 L0 false)]) 2 (fun k => j + 1 + k + 1 ≤ l.length ∧ (ct (l.take (j + 1 + k + 1))).length ≤ j + 1 + k) (fun k => l.length - k) 0 (ac [] ?_) ⟨by omega, by rw [b2]; omega⟩ (fun k hk2 => ?_)
   ·repeat first | simp -implicitDefEqProofs only [go_sem, aa, b1, b2] | with_reducible refine gl_ ?_
    first | done | rfl | exact ⟨rfl, rfl⟩ | trace_state
   obtain ⟨hk1, hk3⟩ := hk2
   have hRl : ((fH l (j + 1 + k + 1)).map aU).length = l.length := by rw [List.length_map, adA hk1]
   refine g2_ ?_
   by_cases h5 : k + 1 < l.length - (j + 1)
   ·rw [decide_eq_true (show ((k + 1 : Nat) : Int) < ((l.length - (j + 1) : Nat) : Int) by omega)]
    have hq : j + 1 + k + 1 < l.length := by omega
    have g3 : ((fH l (j + 1 + k + 1)).map aU)[j + 1 + (k + 1)]? = some [.v (.int .u8 l[j + 1 + k + 1].toNat)] := by rw [List.getElem?_map, qW (by omega), List.getElem?_eq_getElem (by omega)]; rfl
    have g4 : ((fH l (j + 1 + k + 1)).map aU)[j + 1 + k]? = some [.v (.int .u8 (l[j + 1 + k]'(by omega)).toNat)] := by rw [List.getElem?_map, qW hk3, List.getElem?_eq_getElem (by omega)]; rfl
    have e5 : ((k + 1 : Nat) : Int) - 1 = (k : Nat) := by omega
    have hset : l[j + 1 + k + 1] ≠ l[j + 1 + k] → ((fH l (j + 1 + k + 1)).map aU).set (ct (l.take (j + 1 + k + 1))).length [.v (.int .u8 l[j + 1 + k + 1].toNat)] = (fH l (j + 1 + k + 1 + 1)).map aU := fun h => by
     rw [← adW hq h (by omega), List.map_set]; rfl
    have hcn : l[j + 1 + k + 1] ≠ l[j + 1 + k] → (ct (l.take (j + 1 + k + 1 + 1))).length = (ct (l.take (j + 1 + k + 1))).length + 1 := fun h => by rw [rX hq h, List.length_append]; rfl
    have hce : l[j + 1 + k + 1] = l[j + 1 + k] → ct (l.take (j + 1 + k + 1 + 1)) = ct (l.take (j + 1 + k + 1)) := zf hq
    have hcr : l[j + 1 + k + 1] = l[j + 1 + k] → fH l (j + 1 + k + 1 + 1) = fH l (j + 1 + k + 1) := fun h => by rw [fH, fH, hce h]
    refine g2_ ?_
    refine .inl ⟨oF [0, 1, 4, 5, 2, 6, 3, 7, 8, 9] [], by kernel_rfl, ?_⟩
    repeat first | simp -implicitDefEqProofs only [go_sem, aa, g3, g4, e5, List.length_map, hRl] | with_reducible first | refine gl_ ?_ | refine ga_ ?_ | refine gn_ ?_
    by_cases h6 : l[j + 1 + k + 1] = l[j + 1 + k]
    ·rw [show ((l[j + 1 + k + 1].toNat : Int) != (l[j + 1 + k].toNat : Int)) = false by rw [h6]; exact bne_self_eq_false _]
     refine g2_ ?_
     refine ⟨k + 1, ac [] ?_, ⟨by omega, by rw [show j + 1 + (k + 1) + 1 = j + 1 + k + 1 + 1 by omega, hce h6]; omega⟩, by omega⟩
     rw [show j + 1 + (k + 1) + 1 = j + 1 + k + 1 + 1 by omega, hce h6, hcr h6]
     refine g2_ ?_
     rfl
    ·rw [show ((l[j + 1 + k + 1].toNat : Int) != (l[j + 1 + k].toNat : Int)) = true from bne_iff_ne.2 (fun h => h6 (UInt8.toNat_inj.1 (by omega)))]
     have hcl : (ct (l.take (j + 1 + k + 1))).length < l.length := by omega
     have gC : ((fH l (j + 1 + k + 1)).map aU)[(ct (l.take (j + 1 + k + 1))).length]? = some [.v (.int .u8 l[(ct (l.take (j + 1 + k + 1))).length].toNat)] := by rw [List.getElem?_map, qW (Nat.le_refl _), List.getElem?_eq_getElem hcl]; rfl
     have hs6 := hset h6
     have hc6 := hcn h6
     repeat first | simp -implicitDefEqProofs only [go_sem, aa, g3, g4, gC, e5, List.length_map, hRl, List.contains_nil] | with_reducible first | refine gl_ ?_ | refine ga_ ?_ | refine gn_ ?_
     refine ⟨k + 1, ac [] ?_, ⟨by omega, by rw [show j + 1 + (k + 1) + 1 = j + 1 + k + 1 + 1 by omega, hc6]; omega⟩, by omega⟩
     rw [show j + 1 + (k + 1) + 1 = j + 1 + k + 1 + 1 by omega, ← hs6, hc6]
     refine g2_ ?_
     exact ⟨rfl, rfl, rfl, rfl⟩
   ·rw [decide_eq_false (show ¬ ((k + 1 : Nat) : Int) < ((l.length - (j + 1) : Nat) : Int) by omega)]
    have eN : l.take (j + 1 + k + 1) = l := List.take_of_length_le (by omega)
    have eR : (fH l (j + 1 + k + 1)).map aU = (ct l ++ l.drop (ct l).length).map aU := by rw [fH, eN]
    have eL : (ct l).length < l.length := by rw [eN] at hk3; omega
    have eT : List.take (ct l).length ((ct l ++ l.drop (ct l).length).map aU) = (ct l).map aU := by rw [← List.map_take, List.take_left]
    rw [eN, eR]
    rw [eR] at hRl
    repeat first | simp -implicitDefEqProofs only [go_sem, aa, hRl] | with_reducible first | refine gl_ ?_ | refine ga_ ?_ | refine gn_ ?_
    rw [Nat.sub_zero, eT]
    exact hk
  ·rw [show ((l[j + 1].toNat : Int) == (l[j].toNat : Int)) = false from beq_eq_false_iff_ne.2 (fun h => h4 (UInt8.toNat_inj.1 (by omega)))]
   refine g2_ ?_
   refine ⟨j + 1, ac [] ?_, ⟨by omega, ?_⟩, by omega⟩
   ·refine g2_ ?_
    rfl
   ·rw [rX h3 h4, hj2]
    rw [List.take_add_one (i := j + 1), List.getElem?_eq_getElem h3]; rfl
 ·rw [decide_eq_false (show ¬ ((j + 1 : Nat) : Int) < (l.length : Int) by omega)]
  have e : ct l = l := by
   have := hj2
   rw [List.take_of_length_le (by omega)] at this
   exact this
  rw [e] at hk
  refine g2_ ?_
  exact hk
theorem zH (p : ak) (h1 : p.view.length ≤ 300) (h2 : p.near.length ≤ 300) (h4 : p.ring.succ.filter.length ≤ 1000) (h5 : p.ring.pred.filter.length ≤ 1000) (h12 : (cW p).length ≤ 700)
  (hs : ∀ {L0 : List (List DV)} {ρ : List (Nat × DSV)} {σ : List (Nat × dL)} {nb : Nat} {K : DV → DS → Prop}, K (.tup []) ⟨ρ, σ, [(1, .arr 5 1 ((aG ltU (cW p)).map aU) false), (0, .arr 32 1 L0 false)], 2, nb⟩ →
   CallS Tryz.prog false 49 [.rf 1 0 (cW p).length] ⟨ρ, σ, [(1, .arr 5 1 ((cW p).map aU) false), (0, .arr 32 1 L0 false)], 2, nb⟩ K) : Con2 Tryz.prog 14 [.agg (aq p)] (· = plR (.fz 1 ((bq p).map aU))) := by
 refine Con2.ofEmb ?_
 have hr := gM p.ring h4 h5
 have hrl := dW p.ring
 have el : cW p = [p.view, p.near, aJ p.ring].flatten.map (·.node) := rfl
 unfold bq
 generalize aJ p.ring = B at hr hrl el
 obtain ⟨L, hL⟩ : ∃ L : List (List GDesc), L = [p.view, p.near, B] := ⟨_, rfl⟩
 rw [← hL] at el
 have hLl : L.length = 3 := by rw [hL]; rfl
 have hge : ∀ k (hk : k < 3), ([[fzD p.view], [fzD p.near], [fzD B]] : List (List DV))[k]? = some [fzD (L[k]'(by omega))] := fun k hk => by
  subst hL
  match k, hk with
  | 0, _ => rfl
  | 1, _ => rfl
  | 2, _ => rfl
 have hll : ∀ k (hk : k < 3), (L[k]'(by omega)).length ≤ 300 := fun k hk => by
  subst hL
  match k, hk with
  | 0, _ => exact h1
  | 1, _ => exact h2
  | 2, _ => exact Nat.le_trans hrl (by omega)
 refine af Ty.mixed Tryz.func14 rfl (by kernel_rfl) (by kernel_rfl) rfl [.tmp 2] rfl ?_
 refine g2_ ?_
 refine g2_ ?_
 refine .inl ⟨oF [0, 2, 4, 9, 1, 3, 5] (oT 6 (oF [7, 8] [])), by kernel_rfl, ?_⟩
 refine g2_ ?_
 refine CallS.eq hr ws_ (.inl ws_) ?_
 refine g2_ ?_
 refine ax 3 (fun k => [(3, .d (.rf 1 0 ((L.take k).flatten.map (·.node)).length))]) (fun _ => []) (fun k => [(1, .arr 5 1 (((L.take k).flatten.map (·.node)).map aU) false), (0, .arr 32 1 [[fzD p.view], [fzD p.near], [fzD B]] false)]) 2 (fun k => True) (ac [(1, .nil 1), (0, .to 0)] ?_) trivial (fun g k => by first | rfl | ((try (with_reducible refine ab ?_)); simp -implicitDefEqProofs only [go_sem, aa]; repeat ((with_reducible refine ab ?_); simp -implicitDefEqProofs only [go_sem, aa]))) (by omega) (fun g => by simp -implicitDefEqProofs only [go_sem, aa]) (fun k hk hF => ?_) (fun hF => ?_)
 ·repeat first | simp -implicitDefEqProofs only [go_sem, aa, List.take_zero, List.flatten_nil] | with_reducible refine gl_ ?_
  first | done | rfl | exact ⟨rfl, rfl⟩ | trace_state
 ·have hg := hge k hk
  have hl := hll k hk
  have hsn : (L.take (k + 1)).flatten = (L.take k).flatten ++ L[k] := by rw [List.take_add_one, List.getElem?_eq_getElem (by omega), List.flatten_append]; simp
  generalize L[k] = lk at hg hl hsn
  have hfl : (L.take k).flatten.length ≤ 900 := by
   rw [hL]
   match k, hk with
   | 0, _ => simp
   | 1, _ => simp; omega
   | 2, _ => simp; omega
  simp only [fzD] at hg
  repeat first | simp -implicitDefEqProofs only [go_sem, aa, hg] | with_reducible first | refine gl_ ?_ | refine ga_ ?_ | refine gn_ ?_
  refine ax lk.length (fun j => [(3, .d (.rf 1 0 (((L.take k).flatten ++ lk.take j).map (·.node)).length))]) (fun _ => []) (fun j => [(1, .arr 5 1 ((((L.take k).flatten ++ lk.take j).map (·.node)).map aU) false), (0, .arr 32 1 [[fzD p.view], [fzD p.near], [fzD B]] false)]) 2 (fun j => True) (ac [(1, .to 1), (0, .to 0)] ?_) trivial (fun g j => by first | rfl | ((try (with_reducible refine ab ?_)); simp -implicitDefEqProofs only [go_sem, aa]; repeat ((with_reducible refine ab ?_); simp -implicitDefEqProofs only [go_sem, aa]))) (by omega) (fun g => by simp -implicitDefEqProofs only [go_sem, aa]) (fun j hj _ => ?_) (fun _ => ?_)
  ·repeat first | simp -implicitDefEqProofs only [go_sem, aa, List.take_zero, List.append_nil] | with_reducible refine gl_ ?_
   first | done | rfl | exact ⟨rfl, rfl⟩ | trace_state
  ·have hs2 : (L.take k).flatten ++ lk.take (j + 1) = ((L.take k).flatten ++ lk.take j) ++ [lk[j]] := by rw [List.take_add_one, List.getElem?_eq_getElem hj, List.append_assoc]; rfl
   have hfl2 : ((L.take k).flatten ++ lk.take j).length ≤ 1200 := by rw [List.length_append, List.length_take]; omega
   generalize (L.take k).flatten ++ lk.take j = A at hs2 hfl2
   repeat first | simp -implicitDefEqProofs only [go_sem, aa, au hj] | with_reducible first | refine gl_ ?_ | refine ga_ ?_ | refine gn_ ?_
   generalize lk[j] = d at hs2
   repeat first | simp -implicitDefEqProofs only [go_sem, aa, List.length_map] | with_reducible first | refine gl_ ?_ | refine ga_ ?_ | refine gn_ ?_
   refine ⟨j + 1, ac [(1, .to 3), (0, .to 0)] ?_, rfl⟩
   repeat first | simp -implicitDefEqProofs only [go_sem, aa, hs2, List.length_append, List.map_append, List.map_cons, List.map_nil] | with_reducible refine gl_ ?_
  ·rw [List.take_of_length_le (Nat.le_refl lk.length), ← hsn]
   refine g2_ ?_
   refine ⟨k + 1, ac [(1, .to 1), (0, .to 0)] ?_, rfl⟩
   exact ws_
 ·rw [List.take_of_length_le (show L.length ≤ 3 by omega), ← el]
  refine g2_ ?_
  refine hs ?_
  have h13 : (aG ltU (cW p)).length = (cW p).length := bv
  refine g2_ ?_
  rw [← h13]
  refine afI (aG ltU (cW p)) (by omega) ?_
  refine g2_ ?_
  refine ae ?_ rfl
  exact ws_
end Go.Proofs.YtlaefellhnkfbaaGreat.V
