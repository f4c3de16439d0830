/-
  Part 34 of the proof of Pl: the engine and the walks, in their order.
-/
import Derived.Test.YtlaefellhnkfbaaGreatPl29
import Derived.Test.YtlaefellhnkfbaaGreatPl32
import Derived.Test.YtlaefellhnkfbaaGreatPl33
set_option linter.unusedSimpArgs false
set_option linter.unusedVariables false
namespace Go.Eng
section
variable {α : Type}
def insAt (lt : α → α → Bool) (x : α) (P : List α) : Nat → Nat
  | 0 => 0
  | j + 1 => match P[j]? with
    | some y => bif lt x y then insAt lt x P j else j + 1
    | none => j + 1
def putAt (P : List α) (x : α) (j : Nat) : List α := P.take j ++ x :: P.drop j
def insG (lt : α → α → Bool) (P : List α) (x : α) : List α := putAt P x (insAt lt x P P.length)
def isortG (lt : α → α → Bool) (l : List α) : List α := l.foldl (insG lt) []
theorem insAt_step {lt : α → α → Bool} {x : α} {P : List α} {j : Nat} (h : j < P.length) (hl : lt x P[j] = true) : insAt lt x P (j + 1) = insAt lt x P j := by
  simp only [insAt, List.getElem?_eq_getElem h, hl, cond_true]
theorem insAt_stop {lt : α → α → Bool} {x : α} {P : List α} {j : Nat} (h : j < P.length) (hl : lt x P[j] = false) : insAt lt x P (j + 1) = j + 1 := by
  simp only [insAt, List.getElem?_eq_getElem h, hl, cond_false]
theorem putAt_len {P : List α} {x : α} {j : Nat} : (putAt P x j).length = P.length + 1 := by
  simp only [putAt, List.length_append, List.length_cons, List.length_take, List.length_drop]; omega
theorem putAt_at {P : List α} {x : α} {j : Nat} (h : j ≤ P.length) : (putAt P x j)[j]? = some x := by
  rw [putAt, List.getElem?_append_right (by simp; omega)]
  have : j - (P.take j).length = 0 := by simp; omega
  rw [this]; rfl
theorem putAt_before {P : List α} {x : α} {j : Nat} (h : j < P.length) : (putAt P x (j + 1))[j]? = some P[j] := by
  rw [putAt, List.getElem?_append_left (by simp; omega), List.getElem?_take_of_lt (by omega), List.getElem?_eq_getElem h]
theorem putAt_swap {P : List α} {x : α} {j : Nat} (h : j < P.length) : ((putAt P x (j + 1)).set (j + 1) P[j]).set j x = putAt P x j := by
  apply List.ext_getElem?
  intro k
  have l1 := putAt_len (P := P) (x := x) (j := j + 1)
  rw [List.getElem?_set]
  by_cases e1 : j = k
  · subst e1
    rw [if_pos rfl, if_pos (by simp only [List.length_set]; omega), putAt_at (by omega)]
  rw [if_neg e1, List.getElem?_set]
  by_cases e2 : j + 1 = k
  · subst e2
    rw [if_pos rfl, if_pos (by omega)]
    symm
    rw [putAt, List.getElem?_append_right (by simp; omega)]
    have : j + 1 - (P.take j).length = 1 := by simp; omega
    rw [this, List.getElem?_cons_succ, List.getElem?_drop, Nat.add_zero, List.getElem?_eq_getElem h]
  rw [if_neg e2]
  simp only [putAt]
  by_cases e3 : k < j
  · rw [List.getElem?_append_left (by simp; omega), List.getElem?_append_left (by simp; omega), List.getElem?_take_of_lt (by omega), List.getElem?_take_of_lt (by omega)]
  · rw [List.getElem?_append_right (by simp; omega), List.getElem?_append_right (by simp; omega)]
    have a1 : k - (P.take (j + 1)).length = (k - (j + 2)) + 1 := by simp; omega
    have a2 : k - (P.take j).length = (k - (j + 2)) + 2 := by simp; omega
    rw [a1, a2, List.getElem?_cons_succ, List.getElem?_cons_succ, List.getElem?_drop, List.getElem?_drop]
    congr 1; omega
theorem putAt_self {l : List α} {i : Nat} (P : List α) (h : i < l.length) (hP : P.length = i) : P ++ l.drop i = putAt P l[i] P.length ++ l.drop (i + 1) := by
  rw [putAt, List.take_length, List.drop_length, List.drop_eq_getElem_cons h, List.append_assoc]; rfl
theorem insG_len {lt : α → α → Bool} {P : List α} {x : α} : (insG lt P x).length = P.length + 1 := putAt_len
theorem foldl_insG_len {lt : α → α → Bool} : ∀ (l P : List α), (l.foldl (insG lt) P).length = P.length + l.length
  | [], P => rfl
  | x :: r, P => by rw [List.foldl_cons, foldl_insG_len r, insG_len, List.length_cons]; omega
theorem isortG_len {lt : α → α → Bool} {l : List α} : (isortG lt l).length = l.length := by rw [isortG, foldl_insG_len]; simp
theorem isortG_succ {lt : α → α → Bool} {l : List α} {i : Nat} (h : i < l.length) : isortG lt (l.take (i + 1)) = insG lt (isortG lt (l.take i)) l[i] := by
  rw [isortG, List.take_add_one, List.getElem?_eq_getElem h, List.foldl_append]; rfl
theorem putAt_mem {P : List α} {x y : α} {j : Nat} (h : y ∈ putAt P x j) : y = x ∨ y ∈ P := by
  simp only [putAt, List.mem_append, List.mem_cons] at h
  rcases h with h | h | h
  · exact .inr (List.mem_of_mem_take h)
  · exact .inl h
  · exact .inr (List.mem_of_mem_drop h)
theorem isortG_mem {lt : α → α → Bool} : ∀ {l P : List α} {y : α}, y ∈ l.foldl (insG lt) P → y ∈ l ∨ y ∈ P
  | [], P, y, h => .inr h
  | x :: r, P, y, h => by
    rcases isortG_mem (l := r) (P := insG lt P x) h with h | h
    · exact .inl (List.mem_cons_of_mem _ h)
    · rcases putAt_mem h with h | h
      · exact .inl (by rw [h]; exact List.mem_cons_self)
      · exact .inr h
end
structure GSco where
  d : GDesc
  o : Nat
def cmpN (a b : Nat) : Int := if a < b then -1 else if b < a then 1 else 0
def cRank (a b : GSco) : Int := if cmpN b.o a.o ≠ 0 then cmpN b.o a.o else if cmpN a.d.age.toNat b.d.age.toNat ≠ 0 then cmpN a.d.age.toNat b.d.age.toNat else cmpN a.d.node.toNat b.d.node.toNat
def ltRank (a b : GSco) : Bool := decide (cRank a b < 0)
def ltNode (a b : GDesc) : Bool := decide (cmpN a.node.toNat b.node.toNat < 0)
end Go.Eng
namespace Go.Proofs.YtlaefellhnkfbaaGreat.V
open Go.Eng
def fScored (own : List GSpan) (l : List GDesc) : List GSco := (l.map fun d => ⟨d, fOvl own d.filter⟩).filter fun x => decide (0 < x.o)
def fNear (own : List GSpan) (self : UInt8) (room : Int) (ls : List (List GDesc)) : List GDesc :=
  if room < 1 then [] else isortG ltNode (((isortG ltRank (fScored own (nUnion self ls))).take room.toNat).map (·.d))
def nearK (far : UInt16 → UInt16 → UInt16) (here : UInt16) (dom : List GSpan) (l : List GDesc) : Nat → Nat × UInt16
  | 0 => (0, far here (rPlace dom (l.headD zDesc)))
  | k + 1 => match l[k]? with
    | some d => if far here (rPlace dom d) < (nearK far here dom l k).2 then (k, far here (rPlace dom d)) else nearK far here dom l k
    | none => nearK far here dom l k
def nearestR (far : UInt16 → UInt16 → UInt16) (here : UInt16) (dom : List GSpan) (l : List GDesc) : GDesc := l.getD (nearK far here dom l l.length).1 zDesc
def rChoose (dom : List GSpan) (self : GDesc) (ls : List (List GDesc)) : GRing :=
  if nUnion self.node ls = [] then ⟨false, false, zDesc, zDesc⟩
  else ⟨true, true, nearestR (fun h t => t - h) (rPlace dom self) dom (nUnion self.node ls), nearestR (fun h t => h - t) (rPlace dom self) dom (nUnion self.node ls)⟩
end Go.Proofs.YtlaefellhnkfbaaGreat.V

set_option maxRecDepth 10000
namespace Go.Proofs.YtlaefellhnkfbaaGreat.V
open Go.Eng
attribute [local go_sem] encS encDD fzD plR rowR z8 z16 z32 z64 c00
theorem nan8_con (a : Int) : Con2 Tryz.prog 221 [.v (.int .u8 a)] (· = plR (.v (.bool false))) := by
  refine con2_of Ty.mixed Tryz.func221 rfl (by kernel_rfl) (by kernel_rfl) rfl [.tmp 2] rfl ?_
  refine g2_ ?_
  repeat first | simp -implicitDefEqProofs only [go_sem, vc2_blk, bne_self_eq_false] | with_reducible first | refine gl_ ?_ | refine ga_ ?_ | refine gn_ ?_
  exact ⟨_, rfl, le2_of [] (by simp -implicitDefEqProofs only [go_sem, vc2_blk, bne_self_eq_false])⟩
theorem nan32_con (a : Int) : Con2 Tryz.prog 246 [.v (.int .u32 a)] (· = plR (.v (.bool false))) := by
  refine con2_of Ty.mixed Tryz.func246 rfl (by kernel_rfl) (by kernel_rfl) rfl [.tmp 2] rfl ?_
  refine g2_ ?_
  repeat first | simp -implicitDefEqProofs only [go_sem, vc2_blk, bne_self_eq_false] | with_reducible first | refine gl_ ?_ | refine ga_ ?_ | refine gn_ ?_
  exact ⟨_, rfl, le2_of [] (by simp -implicitDefEqProofs only [go_sem, vc2_blk, bne_self_eq_false])⟩
theorem cmp8_con (a b : Nat) : Con2 Tryz.prog 175 [.v (.int .u8 a), .v (.int .u8 b)] (· = plR (.v (.int .i64 (cmpN a b)))) := by
  refine con2_of Ty.mixed Tryz.func175 rfl (by kernel_rfl) (by kernel_rfl) rfl [.tmp 4] rfl ?_
  refine g2_ ?_
  refine g2_ ?_
  refine CallS.eq (nan8_con a) ws_ (.inl ws_) ?_
  refine g2_ ?_
  refine CallS.eq (nan8_con b) ws_ (.inl ws_) ?_
  refine g2_ ?_
  by_cases h1 : (a : Int) < (b : Int)
  · rw [decide_eq_true h1]
    refine g2_ ?_
    exact ⟨_, rfl, le2_of [] (by simp -implicitDefEqProofs only [go_sem, vc2_blk, cmpN, show a < b by omega, if_true])⟩
  rw [decide_eq_false h1]
  refine g2_ ?_
  by_cases h2 : (b : Int) < (a : Int)
  · rw [decide_eq_true h2]
    refine g2_ ?_
    exact ⟨_, rfl, le2_of [] (by simp -implicitDefEqProofs only [go_sem, vc2_blk, cmpN, show ¬ a < b by omega, show b < a by omega, if_true, if_false])⟩
  rw [decide_eq_false h2]
  refine g2_ ?_
  exact ⟨_, rfl, le2_of [] (by simp -implicitDefEqProofs only [go_sem, vc2_blk, cmpN, show ¬ a < b by omega, show ¬ b < a by omega, if_true, if_false])⟩
theorem cmp32_con (a b : Nat) : Con2 Tryz.prog 219 [.v (.int .u32 a), .v (.int .u32 b)] (· = plR (.v (.int .i64 (cmpN a b)))) := by
  refine con2_of Ty.mixed Tryz.func219 rfl (by kernel_rfl) (by kernel_rfl) rfl [.tmp 4] rfl ?_
  refine g2_ ?_
  refine g2_ ?_
  refine CallS.eq (nan32_con a) ws_ (.inl ws_) ?_
  refine g2_ ?_
  refine CallS.eq (nan32_con b) ws_ (.inl ws_) ?_
  refine g2_ ?_
  by_cases h1 : (a : Int) < (b : Int)
  · rw [decide_eq_true h1]
    refine g2_ ?_
    exact ⟨_, rfl, le2_of [] (by simp -implicitDefEqProofs only [go_sem, vc2_blk, cmpN, show a < b by omega, if_true])⟩
  rw [decide_eq_false h1]
  refine g2_ ?_
  by_cases h2 : (b : Int) < (a : Int)
  · rw [decide_eq_true h2]
    refine g2_ ?_
    exact ⟨_, rfl, le2_of [] (by simp -implicitDefEqProofs only [go_sem, vc2_blk, cmpN, show ¬ a < b by omega, show b < a by omega, if_true, if_false])⟩
  rw [decide_eq_false h2]
  refine g2_ ?_
  exact ⟨_, rfl, le2_of [] (by simp -implicitDefEqProofs only [go_sem, vc2_blk, cmpN, show ¬ a < b by omega, show ¬ b < a by omega, if_true, if_false])⟩
def or3 (a b c : Int) : Int := if a ≠ 0 then a else if b ≠ 0 then b else c
theorem or3_con (a b c : Int) : Con2 Tryz.prog 218 [.fz 1 [[.v (.int .i64 a)], [.v (.int .i64 b)], [.v (.int .i64 c)]]] (· = plR (.v (.int .i64 (or3 a b c)))) := by
  refine con2_of Ty.mixed Tryz.func218 rfl (by kernel_rfl) (by kernel_rfl) rfl [.tmp 2] rfl ?_
  refine g2_ ?_
  refine g2_ ?_
  refine vc2_rangeA 3 (fun k => []) (fun _ => []) (fun k => []) 0 (fun k => (0 < k → a = 0) ∧ (1 < k → b = 0) ∧ (2 < k → c = 0)) (le2_of [] ?_) (by omega) (fun g k => by first | rfl | ((try (with_reducible refine leK2_refl ?_)); simp -implicitDefEqProofs only [go_sem, vc2_blk]; repeat ((with_reducible refine leK2_refl ?_); simp -implicitDefEqProofs only [go_sem, vc2_blk]))) (by omega) (fun g => by simp -implicitDefEqProofs only [go_sem, vc2_blk]) (fun k hk hF => ?_) (fun hF => ?_)
  · ((try (with_reducible refine leK2_refl ?_)); simp -implicitDefEqProofs only [go_sem, vc2_blk]; repeat ((with_reducible refine leK2_refl ?_); simp -implicitDefEqProofs only [go_sem, vc2_blk]))
    first | done | rfl | exact ⟨rfl, rfl⟩ | trace_state
  · obtain ⟨f1, f2, f3⟩ := hF
    obtain ⟨x, hx, hgo⟩ : ∃ x : Int, ([[DV.v (.int .i64 a)], [.v (.int .i64 b)], [.v (.int .i64 c)]] : List (List DV))[k]? = some [.v (.int .i64 x)] ∧ ((x ≠ 0 → or3 a b c = x) ∧ (x = 0 → ((0 < k + 1 → a = 0) ∧ (1 < k + 1 → b = 0) ∧ (2 < k + 1 → c = 0)))) := by
      match k, hk with
      | 0, _ => exact ⟨a, rfl, fun h => if_pos h, fun h => by omega⟩
      | 1, _ => exact ⟨b, rfl, fun h => by have := f1 (by omega); rw [or3, if_neg (by omega), if_pos h], fun h => by omega⟩
      | 2, _ => exact ⟨c, rfl, fun h => by have := f1 (by omega); have := f2 (by omega); rw [or3, if_neg (by omega), if_neg (by omega)], fun h => by omega⟩
    repeat first | simp -implicitDefEqProofs only [go_sem, vc2_blk, hx] | with_reducible first | refine gl_ ?_ | refine ga_ ?_ | refine gn_ ?_
    refine cond2_ne (fun h => ?_) (fun h => ?_)
    · rw [hgo.1 h]
      refine g2_ ?_
      exact ⟨_, rfl, le2_of [] ws_⟩
    · refine g2_ ?_
      exact ⟨k + 1, le2_of [] ws_, rfl, hgo.2 (by omega)⟩
  · obtain ⟨f1, f2, f3⟩ := hF
    have e : or3 a b c = 0 := by rw [or3, if_neg (by omega), if_neg (by omega)]; omega
    rw [e]
    refine g2_ ?_
    exact ⟨_, rfl, le2_of [] ws_⟩
theorem rank_con (x y : GSco) : Con2 Tryz.prog 172 [.agg (encDD x.d), .v (.int .u32 x.o), .agg (encDD y.d), .v (.int .u32 y.o)] (· = plR (.v (.int .i64 (cRank x y)))) := by
  have e : cRank x y = or3 (cmpN y.o x.o) (cmpN x.d.age.toNat y.d.age.toNat) (cmpN x.d.node.toNat y.d.node.toNat) := rfl
  rw [e]
  have k1 := cmp32_con y.o x.o
  have k2 := cmp8_con x.d.age.toNat y.d.age.toNat
  have k3 := cmp8_con x.d.node.toNat y.d.node.toNat
  have k4 := or3_con (cmpN y.o x.o) (cmpN x.d.age.toNat y.d.age.toNat) (cmpN x.d.node.toNat y.d.node.toNat)
  generalize cmpN y.o x.o = a at k1 k4
  generalize cmpN x.d.age.toNat y.d.age.toNat = b at k2 k4
  generalize cmpN x.d.node.toNat y.d.node.toNat = c at k3 k4
  refine con2_of Ty.mixed Tryz.func172 rfl (by kernel_rfl) (by kernel_rfl) rfl [.tmp 8] rfl ?_
  refine g2_ ?_
  refine g2_ ?_
  refine .inl ⟨[(0, false), (1, false), (3, false), (5, false), (8, false), (10, false), (4, false), (6, false), (9, false), (11, false), (2, true), (7, true), (12, false), (13, false), (14, false), (15, false)], by kernel_rfl, ?_⟩
  refine g2_ ?_
  refine CallS.eq k1 ws_ (.inl ws_) ?_
  refine g2_ ?_
  refine CallS.eq k2 ws_ (.inl ws_) ?_
  refine g2_ ?_
  refine CallS.eq k3 ws_ (.inl ws_) ?_
  refine g2_ ?_
  refine CallS.eq k4 ws_ (.inl ws_) ?_
  refine g2_ ?_
  exact ⟨_, rfl, le2_of [] ws_⟩
def blen : Nat → Nat
  | 0 => 0
  | 1 => 1
  | 2 => 2
  | 3 => 2
  | 4 => 3
  | 5 => 3
  | 6 => 3
  | 7 => 3
  | _ => 4
theorem len64_12 (n : Nat) (hn : n ≤ 12) : Con2 Tryz.prog 192 [.v (.int .u64 n)] (· = plR (.v (.int .i64 (blen n)))) := by
  refine con2_of Ty.mixed Tryz.func192 rfl (by kernel_rfl) (by kernel_rfl) rfl [.tmp 2] rfl ?_
  refine g2_ ?_
  refine g2_ ?_
  rw [show decide ((4294967296 : Int) ≤ n) = false from decide_eq_false (by omega)]
  refine g2_ ?_
  rw [show decide ((65536 : Int) ≤ n) = false from decide_eq_false (by omega)]
  refine g2_ ?_
  rw [show decide ((256 : Int) ≤ n) = false from decide_eq_false (by omega)]
  refine g2_ ?_
  refine ar_u8 (by omega) ?_
  refine g2_ ?_
  refine ⟨.int .u8 (blen n), fun w => ?_, ?_⟩
  · match n, hn with
    | 0, _ => show _ = _; kernel_rfl
    | 1, _ => show _ = _; kernel_rfl
    | 2, _ => show _ = _; kernel_rfl
    | 3, _ => show _ = _; kernel_rfl
    | 4, _ => show _ = _; kernel_rfl
    | 5, _ => show _ = _; kernel_rfl
    | 6, _ => show _ = _; kernel_rfl
    | 7, _ => show _ = _; kernel_rfl
    | 8, _ => show _ = _; kernel_rfl
    | 9, _ => show _ = _; kernel_rfl
    | 10, _ => show _ = _; kernel_rfl
    | 11, _ => show _ = _; kernel_rfl
    | 12, _ => show _ = _; kernel_rfl
    | k + 13, h => omega
  have hb : blen n ≤ 4 := by
    match n, hn with
    | 0, _ => decide
    | 1, _ => decide
    | 2, _ => decide
    | 3, _ => decide
    | 4, _ => decide
    | 5, _ => decide
    | 6, _ => decide
    | 7, _ => decide
    | k + 8, _ => exact Nat.le_refl 4
  repeat first | simp -implicitDefEqProofs only [go_sem, vc2_blk, Int.zero_add] | with_reducible first | refine gl_ ?_ | refine ga_ ?_ | refine gn_ ?_
  exact ⟨_, rfl, le2_of [] (by simp -implicitDefEqProofs only [go_sem, vc2_blk, Int.zero_add])⟩
theorem blen_con (n : Nat) (hn : n ≤ 12) : Con2 Tryz.prog 115 [.v (.int .u64 n)] (· = plR (.v (.int .i64 (blen n)))) := by
  refine con2_of Ty.mixed Tryz.func115 rfl (by kernel_rfl) (by kernel_rfl) rfl [.tmp 2] rfl ?_
  refine g2_ ?_
  refine g2_ ?_
  refine CallS.eq (len64_12 n hn) ws_ (.inl ws_) ?_
  refine g2_ ?_
  exact ⟨_, rfl, le2_of [] ws_⟩
end Go.Proofs.YtlaefellhnkfbaaGreat.V

set_option maxRecDepth 10000
namespace Go.Eng
def encSco (s : GSco) : List DV := [.v (.int .u8 s.d.node.toNat), .v (.int .u16 s.d.inc.toNat), .v (.int .u8 s.d.age.toNat), .fz 2 (s.d.filter.map encS), .v (.int .u32 s.o)]
end Go.Eng
namespace Go.Proofs.YtlaefellhnkfbaaGreat.V
open Go.Eng
attribute [local go_sem] encS encDD fzD plR rowR z8 z16 z32 z64 c00 encSco
theorem ncl1_con (x y : GSco) : Con2 Tryz.prog 171 [.agg (encSco x), .agg (encSco y)] (· = plR (.v (.int .i64 (cRank x y)))) := by
  refine con2_of Ty.mixed Tryz.func171 rfl (by kernel_rfl) (by kernel_rfl) rfl [.tmp 4] rfl ?_
  refine g2_ ?_
  refine g2_ ?_
  refine CallS.eq (rank_con x y) ws_ (.inl ws_) ?_
  refine g2_ ?_
  exact ⟨_, rfl, le2_of [] ws_⟩
def cNode (a b : GDesc) : Int := cmpN a.node.toNat b.node.toNat
theorem ncl2_con (x y : GDesc) : Con2 Tryz.prog 174 [.agg (encDD x), .agg (encDD y)] (· = plR (.v (.int .i64 (cNode x y)))) := by
  refine con2_of Ty.mixed Tryz.func174 rfl (by kernel_rfl) (by kernel_rfl) rfl [.tmp 4] rfl ?_
  refine g2_ ?_
  refine g2_ ?_
  refine CallS.eq (cmp8_con x.node.toNat y.node.toNat) ws_ (.inl ws_) ?_
  refine g2_ ?_
  exact ⟨_, rfl, le2_of [] (by simp -implicitDefEqProofs only [go_sem, vc2_blk]; rfl)⟩
theorem sco_ins (l : List GSco) (hl : l.length ≤ 12) {ρ σ nb K} (hk : K (.tup []) ⟨ρ, σ, [(0, .arr 203 5 ((isortG ltRank l).map encSco) false)], 1, nb⟩) :
    CallS Tryz.prog false 238 [.rf 0 0 l.length, .v (.int .i64 0), .v (.int .i64 l.length), .fn 171 [] []] ⟨ρ, σ, [(0, .arr 203 5 (l.map encSco) false)], 1, nb⟩ K := by
  refine CallS.inline Ty.mixed Tryz.func238 rfl (by kernel_rfl) (by kernel_rfl) rfl [] rfl (Vc2.of ?_)
  refine g2_ ?_
  refine g2_ ?_
  refine vc2_forA (γ := Nat) (fun i => [(8, .d (.v (.int .i64 (i : Nat))))]) (fun _ => []) (fun i => [(0, .arr 203 5 ((isortG ltRank (l.take i) ++ l.drop i).map encSco) false)]) 1 (fun i => 1 ≤ i ∧ (l.length < i → i = 1)) (fun i => l.length + 1 - i) 1 (le2_of [] ?_) ⟨by omega, by omega⟩ (fun i hi => ?_)
  · have e : isortG ltRank (l.take 1) ++ l.drop 1 = l := by
      cases l with
      | nil => rfl
      | cons x r => rfl
    repeat first | simp -implicitDefEqProofs only [go_sem, vc2_blk, e] | with_reducible refine gl_ ?_
    first | rfl | exact ⟨rfl, rfl⟩ | trace_state
  obtain ⟨hi1, hi2⟩ := hi
  refine g2_ ?_
  by_cases hlt : i < l.length
  · rw [decide_eq_true (show (i : Int) < (l.length : Int) by omega)]
    refine g2_ ?_
    obtain ⟨P, hP⟩ : ∃ P, P = isortG ltRank (l.take i) := ⟨_, rfl⟩
    have hPl : P.length = i := by rw [hP, isortG_len, List.length_take]; omega
    obtain ⟨x, hx⟩ : ∃ x, x = l[i] := ⟨_, rfl⟩
    have hnext : insAt ltRank x P i ≤ i → putAt P x (insAt ltRank x P i) ++ l.drop (i + 1) = isortG ltRank (l.take (i + 1)) ++ l.drop (i + 1) := by
      intro _; rw [isortG_succ hlt, ← hP, ← hx, insG, hPl]
    have h0 : isortG ltRank (l.take i) ++ l.drop i = putAt P x i ++ l.drop (i + 1) := by
      rw [← hP, hx]; have := putAt_self P hlt hPl; rwa [hPl] at this
    rw [h0]
    generalize hD : l.drop (i + 1) = rest at hnext
    have r1 : ∀ j, j ≤ i → ((putAt P x j ++ rest).map encSco)[j]? = some (encSco x) := fun j hj => by
      rw [List.getElem?_map, List.getElem?_append_left (by rw [putAt_len]; omega), putAt_at (by omega)]; rfl
    have r2 : ∀ j, (hj : j < i) → ((putAt P x (j + 1) ++ rest).map encSco)[j]? = some (encSco (P[j]'(by omega))) := fun j hj => by
      rw [List.getElem?_map, List.getElem?_append_left (by rw [putAt_len]; omega), putAt_before (by omega)]; rfl
    have r3 : ∀ j, ((putAt P x j ++ rest).map encSco).length = l.length := fun j => by
      rw [List.length_map, List.length_append, putAt_len, ← hD, List.length_drop]; omega
    have r4 : ∀ j, (hj : j < i) → ((((putAt P x (j + 1) ++ rest).map encSco).set (j + 1) (encSco (P[j]'(by omega)))).set j (encSco x)) = (putAt P x j ++ rest).map encSco := fun j hj => by
      rw [← List.map_set, ← List.map_set, List.set_append_left _ _ (by rw [putAt_len]; omega), List.set_append_left _ _ (by rw [List.length_set, putAt_len]; omega), putAt_swap (by omega)]
    refine vc2_forA (γ := Nat) (fun j => [(9, .d (.v (.int .i64 (j : Nat))))]) (fun _ => []) (fun j => [(0, .arr 203 5 ((putAt P x j ++ rest).map encSco) false)]) 1 (fun j => j ≤ i ∧ insAt ltRank x P j = insAt ltRank x P i) (fun j => j) i (le2_of [] ?_) ⟨Nat.le_refl _, rfl⟩ (fun j hj => ?_)
    · ((try (with_reducible refine leK2_refl ?_)); simp -implicitDefEqProofs only [go_sem, vc2_blk]; repeat ((with_reducible refine leK2_refl ?_); simp -implicitDefEqProofs only [go_sem, vc2_blk]))
      first | done | rfl | exact ⟨rfl, rfl⟩ | trace_state
    obtain ⟨hj1, hj2⟩ := hj
    cases j with
    | zero =>
      rw [← hj2] at hnext
      refine g2_ ?_
      refine .inl ⟨[(0, false), (1, false), (2, false), (3, false), (4, false), (5, false), (6, false), (9, false), (10, false), (7, false), (11, false), (8, false), (12, false), (13, false), (14, false), (15, false), (16, false)], by kernel_rfl, ?_⟩
      refine g2_ ?_
      rw [show decide ((0 : Int) < 0) = false from rfl]
      have hz : putAt P x 0 ++ rest = isortG ltRank (l.take (i + 1)) ++ l.drop (i + 1) := by rw [hD]; exact hnext (Nat.zero_le _)
      rw [hz]
      refine g2_ ?_
      refine ⟨i + 1, le2_of [] ?_, ⟨by omega, by omega⟩, by omega⟩
      refine g2_ ?_
      rfl
    | succ j =>
      have hjP : j < P.length := by omega
      have hcc := ncl1_con x P[j]
      have q1 := r1 (j + 1) hj1
      have q2 := r2 j (by omega)
      have q3 := r3 (j + 1)
      have q4 := r4 j (by omega)
      generalize q6 : (putAt P x (j + 1) ++ rest).map encSco = R at q1 q2 q3 q4
      have q5 : ∀ v, (R.set (j + 1) v)[j]? = some (encSco P[j]) := fun v => by rw [List.getElem?_set_ne (by omega)]; exact q2
      simp only [encSco] at q1 q2 q4 q5
      refine g2_ ?_
      refine .inl ⟨[(0, false), (1, false), (2, false), (3, false), (4, false), (5, false), (6, false), (9, false), (10, false), (7, false), (11, false), (8, false), (12, false), (13, false), (14, false), (15, false), (16, false)], by kernel_rfl, ?_⟩
      refine g2_ ?_
      rw [show decide ((0 : Int) < ((j + 1 : Nat) : Int)) = true from decide_eq_true (by omega)]
      have e1 : ((j + 1 : Nat) : Int) - 1 = (j : Nat) := by omega
      repeat first | simp -implicitDefEqProofs only [go_sem, vc2_blk, q1, q2, q3, e1, Int.toNat_natCast] | with_reducible first | refine gl_ ?_ | refine ga_ ?_ | refine gn_ ?_
      refine CallS.eq hcc ws_ (.inl ws_) ?_
      refine g2_ ?_
      by_cases hc : cRank x P[j] < 0
      · rw [decide_eq_true hc]
        have hs : insAt ltRank x P (j + 1) = insAt ltRank x P j := insAt_step hjP (decide_eq_true hc)
        refine g2_ ?_
        refine .inl ⟨[(0, false), (1, false), (2, false), (3, false), (5, false), (6, false), (10, false), (11, false), (4, false), (7, false), (12, false), (8, false), (13, false), (9, false), (14, false), (15, false), (16, false), (17, false)], by kernel_rfl, ?_⟩
        repeat first | simp -implicitDefEqProofs only [go_sem, vc2_blk, q1, q2, q3, q5, e1, Int.toNat_natCast, List.contains_nil] | with_reducible first | refine gl_ ?_ | refine ga_ ?_ | refine gn_ ?_
        refine ⟨j, le2_of [] ?_, ⟨by omega, by omega⟩, by omega⟩
        rw [← q4]
        exact ws_
      · rw [decide_eq_false hc]
        have hs : insAt ltRank x P (j + 1) = j + 1 := insAt_stop hjP (decide_eq_false hc)
        rw [← hj2, hs] at hnext
        rw [← q6, hnext hj1, ← hD]
        refine g2_ ?_
        refine ⟨i + 1, le2_of [] ?_, ⟨by omega, by omega⟩, by omega⟩
        refine g2_ ?_
        rfl
  · rw [decide_eq_false (show ¬ (i : Int) < (l.length : Int) by omega)]
    have e : isortG ltRank (l.take i) ++ l.drop i = isortG ltRank l := by
      by_cases h : l.length = 0
      · have := List.eq_nil_of_length_eq_zero h; subst this; simp
      · rw [List.take_of_length_le (by omega), List.drop_eq_nil_of_le (by omega), List.append_nil]
    rw [e]
    refine g2_ ?_
    exact hk
theorem sco_pdq (l : List GSco) (m : Int) (hl : l.length ≤ 12) {ρ σ nb K} (hk : K (.tup []) ⟨ρ, σ, [(0, .arr 203 5 ((isortG ltRank l).map encSco) false)], 1, nb⟩) :
    CallS Tryz.prog false 217 [.rf 0 0 l.length, .v (.int .i64 0), .v (.int .i64 l.length), .v (.int .i64 m), .fn 171 [] []] ⟨ρ, σ, [(0, .arr 203 5 (l.map encSco) false)], 1, nb⟩ K := by
  refine CallS.inline Ty.mixed Tryz.func217 rfl (by kernel_rfl) (by kernel_rfl) rfl [] rfl (Vc2.of ?_)
  refine g2_ ?_
  refine g2_ ?_
  refine vc2_forA (γ := Unit) (fun _ => []) (fun _ => []) (fun _ => [(0, .arr 203 5 (l.map encSco) false)]) 1 (fun _ => True) (fun _ => 0) () (le2_of [] ws_) trivial (fun i hi => ?_)
  refine g2_ ?_
  rw [show decide ((l.length : Int) - 0 ≤ 12) = true from decide_eq_true (by omega)]
  refine g2_ ?_
  refine sco_ins l hl ?_
  refine g2_ ?_
  exact hk
theorem sco_sort (l : List GSco) (hl : l.length ≤ 12) {ρ σ nb K} (hk : K (.tup []) ⟨ρ, σ, [(0, .arr 203 5 ((isortG ltRank l).map encSco) false)], 1, nb⟩) :
    CallS Tryz.prog false 170 [.rf 0 0 l.length, .fn 171 [] []] ⟨ρ, σ, [(0, .arr 203 5 (l.map encSco) false)], 1, nb⟩ K := by
  refine CallS.inline Ty.mixed Tryz.func170 rfl (by kernel_rfl) (by kernel_rfl) rfl [] rfl (Vc2.of ?_)
  refine g2_ ?_
  refine g2_ ?_
  refine ar_u64 (by omega) ?_
  refine g2_ ?_
  refine CallS.eq (blen_con l.length hl) ws_ (.inl ws_) ?_
  refine g2_ ?_
  refine sco_pdq l _ hl ?_
  refine g2_ ?_
  exact hk
theorem dsc_ins (l : List GDesc) (hl : l.length ≤ 12) {L0 : List (List DV)}{ρ σ nb K} (hk : K (.tup []) ⟨ρ, σ, [(1, .arr 34 4 ((isortG ltNode l).map encDD) false), (0, .arr 203 5 L0 false)], 2, nb⟩) :
    CallS Tryz.prog false 247 [.rf 1 0 l.length, .v (.int .i64 0), .v (.int .i64 l.length), .fn 174 [] []] ⟨ρ, σ, [(1, .arr 34 4 (l.map encDD) false), (0, .arr 203 5 L0 false)], 2, nb⟩ K := by
  refine CallS.inline Ty.mixed Tryz.func247 rfl (by kernel_rfl) (by kernel_rfl) rfl [] rfl (Vc2.of ?_)
  refine g2_ ?_
  refine g2_ ?_
  refine vc2_forA (γ := Nat) (fun i => [(8, .d (.v (.int .i64 (i : Nat))))]) (fun _ => []) (fun i => [(1, .arr 34 4 ((isortG ltNode (l.take i) ++ l.drop i).map encDD) false), (0, .arr 203 5 L0 false)]) 2 (fun i => 1 ≤ i ∧ (l.length < i → i = 1)) (fun i => l.length + 1 - i) 1 (le2_of [] ?_) ⟨by omega, by omega⟩ (fun i hi => ?_)
  · have e : isortG ltNode (l.take 1) ++ l.drop 1 = l := by
      cases l with
      | nil => rfl
      | cons x r => rfl
    repeat first | simp -implicitDefEqProofs only [go_sem, vc2_blk, e] | with_reducible refine gl_ ?_
    first | rfl | exact ⟨rfl, rfl⟩ | trace_state
  obtain ⟨hi1, hi2⟩ := hi
  refine g2_ ?_
  by_cases hlt : i < l.length
  · rw [decide_eq_true (show (i : Int) < (l.length : Int) by omega)]
    refine g2_ ?_
    obtain ⟨P, hP⟩ : ∃ P, P = isortG ltNode (l.take i) := ⟨_, rfl⟩
    have hPl : P.length = i := by rw [hP, isortG_len, List.length_take]; omega
    obtain ⟨x, hx⟩ : ∃ x, x = l[i] := ⟨_, rfl⟩
    have hnext : insAt ltNode x P i ≤ i → putAt P x (insAt ltNode x P i) ++ l.drop (i + 1) = isortG ltNode (l.take (i + 1)) ++ l.drop (i + 1) := by
      intro _; rw [isortG_succ hlt, ← hP, ← hx, insG, hPl]
    have h0 : isortG ltNode (l.take i) ++ l.drop i = putAt P x i ++ l.drop (i + 1) := by
      rw [← hP, hx]; have := putAt_self P hlt hPl; rwa [hPl] at this
    rw [h0]
    generalize hD : l.drop (i + 1) = rest at hnext
    have r1 : ∀ j, j ≤ i → ((putAt P x j ++ rest).map encDD)[j]? = some (encDD x) := fun j hj => by
      rw [List.getElem?_map, List.getElem?_append_left (by rw [putAt_len]; omega), putAt_at (by omega)]; rfl
    have r2 : ∀ j, (hj : j < i) → ((putAt P x (j + 1) ++ rest).map encDD)[j]? = some (encDD (P[j]'(by omega))) := fun j hj => by
      rw [List.getElem?_map, List.getElem?_append_left (by rw [putAt_len]; omega), putAt_before (by omega)]; rfl
    have r3 : ∀ j, ((putAt P x j ++ rest).map encDD).length = l.length := fun j => by
      rw [List.length_map, List.length_append, putAt_len, ← hD, List.length_drop]; omega
    have r4 : ∀ j, (hj : j < i) → ((((putAt P x (j + 1) ++ rest).map encDD).set (j + 1) (encDD (P[j]'(by omega)))).set j (encDD x)) = (putAt P x j ++ rest).map encDD := fun j hj => by
      rw [← List.map_set, ← List.map_set, List.set_append_left _ _ (by rw [putAt_len]; omega), List.set_append_left _ _ (by rw [List.length_set, putAt_len]; omega), putAt_swap (by omega)]
    refine vc2_forA (γ := Nat) (fun j => [(9, .d (.v (.int .i64 (j : Nat))))]) (fun _ => []) (fun j => [(1, .arr 34 4 ((putAt P x j ++ rest).map encDD) false), (0, .arr 203 5 L0 false)]) 2 (fun j => j ≤ i ∧ insAt ltNode x P j = insAt ltNode x P i) (fun j => j) i (le2_of [] ?_) ⟨Nat.le_refl _, rfl⟩ (fun j hj => ?_)
    · ((try (with_reducible refine leK2_refl ?_)); simp -implicitDefEqProofs only [go_sem, vc2_blk]; repeat ((with_reducible refine leK2_refl ?_); simp -implicitDefEqProofs only [go_sem, vc2_blk]))
      first | done | rfl | exact ⟨rfl, rfl⟩ | trace_state
    obtain ⟨hj1, hj2⟩ := hj
    cases j with
    | zero =>
      rw [← hj2] at hnext
      refine g2_ ?_
      refine .inl ⟨[(0, false), (1, false), (2, false), (3, false), (4, false), (5, false), (6, false), (9, false), (10, false), (7, false), (11, false), (8, false), (12, false), (13, false), (14, false), (15, false), (16, false)], by kernel_rfl, ?_⟩
      refine g2_ ?_
      rw [show decide ((0 : Int) < 0) = false from rfl]
      have hz : putAt P x 0 ++ rest = isortG ltNode (l.take (i + 1)) ++ l.drop (i + 1) := by rw [hD]; exact hnext (Nat.zero_le _)
      rw [hz]
      refine g2_ ?_
      refine ⟨i + 1, le2_of [] ?_, ⟨by omega, by omega⟩, by omega⟩
      refine g2_ ?_
      rfl
    | succ j =>
      have hjP : j < P.length := by omega
      have hcc := ncl2_con x P[j]
      have q1 := r1 (j + 1) hj1
      have q2 := r2 j (by omega)
      have q3 := r3 (j + 1)
      have q4 := r4 j (by omega)
      generalize q6 : (putAt P x (j + 1) ++ rest).map encDD = R at q1 q2 q3 q4
      have q5 : ∀ v, (R.set (j + 1) v)[j]? = some (encDD P[j]) := fun v => by rw [List.getElem?_set_ne (by omega)]; exact q2
      simp only [encDD] at q1 q2 q4 q5
      refine g2_ ?_
      refine .inl ⟨[(0, false), (1, false), (2, false), (3, false), (4, false), (5, false), (6, false), (9, false), (10, false), (7, false), (11, false), (8, false), (12, false), (13, false), (14, false), (15, false), (16, false)], by kernel_rfl, ?_⟩
      refine g2_ ?_
      rw [show decide ((0 : Int) < ((j + 1 : Nat) : Int)) = true from decide_eq_true (by omega)]
      have e1 : ((j + 1 : Nat) : Int) - 1 = (j : Nat) := by omega
      repeat first | simp -implicitDefEqProofs only [go_sem, vc2_blk, q1, q2, q3, e1, Int.toNat_natCast] | with_reducible first | refine gl_ ?_ | refine ga_ ?_ | refine gn_ ?_
      refine CallS.eq hcc ws_ (.inl ws_) ?_
      refine g2_ ?_
      by_cases hc : cNode x P[j] < 0
      · rw [decide_eq_true hc]
        have hs : insAt ltNode x P (j + 1) = insAt ltNode x P j := insAt_step hjP (decide_eq_true hc)
        refine g2_ ?_
        refine .inl ⟨[(0, false), (1, false), (2, false), (3, false), (5, false), (6, false), (10, false), (11, false), (4, false), (7, false), (12, false), (8, false), (13, false), (9, false), (14, false), (15, false), (16, false), (17, false)], by kernel_rfl, ?_⟩
        repeat first | simp -implicitDefEqProofs only [go_sem, vc2_blk, q1, q2, q3, q5, e1, Int.toNat_natCast, List.contains_nil] | with_reducible first | refine gl_ ?_ | refine ga_ ?_ | refine gn_ ?_
        refine ⟨j, le2_of [] ?_, ⟨by omega, by omega⟩, by omega⟩
        rw [← q4]
        exact ws_
      · rw [decide_eq_false hc]
        have hs : insAt ltNode x P (j + 1) = j + 1 := insAt_stop hjP (decide_eq_false hc)
        rw [← hj2, hs] at hnext
        rw [← q6, hnext hj1, ← hD]
        refine g2_ ?_
        refine ⟨i + 1, le2_of [] ?_, ⟨by omega, by omega⟩, by omega⟩
        refine g2_ ?_
        rfl
  · rw [decide_eq_false (show ¬ (i : Int) < (l.length : Int) by omega)]
    have e : isortG ltNode (l.take i) ++ l.drop i = isortG ltNode l := by
      by_cases h : l.length = 0
      · have := List.eq_nil_of_length_eq_zero h; subst this; simp
      · rw [List.take_of_length_le (by omega), List.drop_eq_nil_of_le (by omega), List.append_nil]
    rw [e]
    refine g2_ ?_
    exact hk
theorem dsc_pdq (l : List GDesc) (m : Int) (hl : l.length ≤ 12) {L0 : List (List DV)}{ρ σ nb K} (hk : K (.tup []) ⟨ρ, σ, [(1, .arr 34 4 ((isortG ltNode l).map encDD) false), (0, .arr 203 5 L0 false)], 2, nb⟩) :
    CallS Tryz.prog false 220 [.rf 1 0 l.length, .v (.int .i64 0), .v (.int .i64 l.length), .v (.int .i64 m), .fn 174 [] []] ⟨ρ, σ, [(1, .arr 34 4 (l.map encDD) false), (0, .arr 203 5 L0 false)], 2, nb⟩ K := by
  refine CallS.inline Ty.mixed Tryz.func220 rfl (by kernel_rfl) (by kernel_rfl) rfl [] rfl (Vc2.of ?_)
  refine g2_ ?_
  refine g2_ ?_
  refine vc2_forA (γ := Unit) (fun _ => []) (fun _ => []) (fun _ => [(1, .arr 34 4 (l.map encDD) false), (0, .arr 203 5 L0 false)]) 2 (fun _ => True) (fun _ => 0) () (le2_of [] ws_) trivial (fun i hi => ?_)
  refine g2_ ?_
  rw [show decide ((l.length : Int) - 0 ≤ 12) = true from decide_eq_true (by omega)]
  refine g2_ ?_
  refine dsc_ins l hl ?_
  refine g2_ ?_
  exact hk
theorem dsc_sort (l : List GDesc) (hl : l.length ≤ 12) {L0 : List (List DV)}{ρ σ nb K} (hk : K (.tup []) ⟨ρ, σ, [(1, .arr 34 4 ((isortG ltNode l).map encDD) false), (0, .arr 203 5 L0 false)], 2, nb⟩) :
    CallS Tryz.prog false 173 [.rf 1 0 l.length, .fn 174 [] []] ⟨ρ, σ, [(1, .arr 34 4 (l.map encDD) false), (0, .arr 203 5 L0 false)], 2, nb⟩ K := by
  refine CallS.inline Ty.mixed Tryz.func173 rfl (by kernel_rfl) (by kernel_rfl) rfl [] rfl (Vc2.of ?_)
  refine g2_ ?_
  refine g2_ ?_
  refine ar_u64 (by omega) ?_
  refine g2_ ?_
  refine CallS.eq (blen_con l.length hl) ws_ (.inl ws_) ?_
  refine g2_ ?_
  refine dsc_pdq l _ hl ?_
  refine g2_ ?_
  exact hk
end Go.Proofs.YtlaefellhnkfbaaGreat.V

set_option maxRecDepth 10000
namespace Go.Proofs.YtlaefellhnkfbaaGreat.V
open Go.Eng
attribute [local go_sem] encS encDD fzD plR rowR z8 z16 z32 z64 c00
theorem fScored_len (own : List GSpan) (l : List GDesc) (k : Nat) : (fScored own (l.take k)).length ≤ l.length := by
  refine Nat.le_trans (List.length_filter_le _ _) ?_
  rw [List.length_map, List.length_take]; omega
theorem fScored_snoc {own : List GSpan} {l : List GDesc} {k : Nat} (h : k < l.length) : fScored own (l.take (k + 1)) = fScored own (l.take k) ++ (if 0 < fOvl own l[k].filter then [⟨l[k], fOvl own l[k].filter⟩] else []) := by
  rw [fScored, List.take_add_one, List.getElem?_eq_getElem h, List.map_append, List.filter_append]
  congr 1
  by_cases h2 : 0 < fOvl own l[k].filter
  · rw [if_pos h2]; simp [h2]
  · rw [if_neg h2]; simp [h2]
theorem nchoose_con (own : List GSpan) (self : UInt8) (room : Int) (L : List (List GDesc)) (hL : L.length ≤ 1000) (hl : ∀ l ∈ L, okDs l) (h1 : own.length ≤ 1000) (h2 : ∀ s ∈ own, okS s) (hok : ∀ d ∈ nUnion self L, d.filter.length ≤ 1000 ∧ ∀ s ∈ d.filter, okS s) (h12 : (nUnion self L).length ≤ 12) :
    Con2 Tryz.prog 111 [fzS own, .v (.int .u8 self.toNat), .v (.int .i64 room), .fz 1 (encLs L)] (· = plR (fzD (fNear own self room L))) := by
  refine Con2.ofEmb ?_
  have hu := union_con self L hL hl
  unfold fNear
  generalize nUnion self L = known at hu hok h12
  refine con2_of Ty.mixed Tryz.func111 rfl (by kernel_rfl) (by kernel_rfl) rfl [.tmp 8] rfl ?_
  refine g2_ ?_
  refine g2_ ?_
  by_cases hr : room < 1
  · rw [decide_eq_true hr, if_pos hr]
    refine g2_ ?_
    refine ret_emb ?_ rfl
    repeat first | simp -implicitDefEqProofs only [go_sem, vc2_blk, List.map_nil] | with_reducible refine gl_ ?_
  rw [decide_eq_false hr, if_neg hr]
  refine g2_ ?_
  refine CallS.eq hu ws_ (.inl ws_) ?_
  refine g2_ ?_
  refine vc2_rangeA known.length (fun k => [(9, .d (.rf 0 0 (fScored own (known.take k)).length))]) (fun _ => []) (fun k => [(0, .arr 203 5 ((fScored own (known.take k)).map encSco) false)]) 1 (fun _ => True) (le2_of [(0, .nil 5)] ?_) trivial (fun g k => by simp -implicitDefEqProofs only [go_sem, vc2_blk]) (by omega) (fun g => by simp -implicitDefEqProofs only [go_sem, vc2_blk]) (fun k hk _ => ?_) (fun _ => ?_)
  · repeat first | simp -implicitDefEqProofs only [go_sem, vc2_blk, List.take_zero, fScored, List.filter_nil, List.map_nil] | with_reducible refine gl_ ?_
    first | rfl | exact ⟨rfl, rfl⟩ | trace_state
  · have hsl := fScored_len own known k
    have hsn := fScored_snoc (own := own) hk
    have hd := hok _ (List.getElem_mem hk)
    have hov := ovl_con own known[k].filter (by omega) (by omega) h2 hd.2
    repeat first | simp -implicitDefEqProofs only [go_sem, vc2_blk, mapE_get hk] | with_reducible first | refine gl_ ?_ | refine ga_ ?_ | refine gn_ ?_
    generalize known[k] = d at hsn hov
    refine CallS.eq hov ws_ (.inl ws_) ?_
    refine g2_ ?_
    by_cases h3 : (0 : Int) < (fOvl own d.filter : Int)
    · rw [decide_eq_true h3]
      rw [if_pos (by omega)] at hsn
      repeat first | simp -implicitDefEqProofs only [go_sem, vc2_blk, List.length_map] | with_reducible first | refine gl_ ?_ | refine ga_ ?_ | refine gn_ ?_
      refine ⟨k + 1, le2_of [(0, .to 2)] ?_, rfl⟩
      repeat first | simp -implicitDefEqProofs only [go_sem, vc2_blk, hsn, List.length_append] | with_reducible refine gl_ ?_
      rw [List.map_append]
      rfl
    · rw [decide_eq_false h3]
      rw [if_neg (by omega), List.append_nil] at hsn
      repeat first | simp -implicitDefEqProofs only [go_sem, vc2_blk, List.length_map] | with_reducible first | refine gl_ ?_ | refine ga_ ?_ | refine gn_ ?_
      refine ⟨k + 1, le2_of [(0, .to 0)] ?_, rfl⟩
      repeat first | simp -implicitDefEqProofs only [go_sem, vc2_blk, hsn, List.length_append] | with_reducible refine gl_ ?_
  · have he : known.take known.length = known := List.take_of_length_le (by omega)
    have hsl := fScored_len own known known.length
    rw [he] at hsl ⊢
    generalize fScored own known = S at hsl
    refine g2_ ?_
    refine sco_sort S (by omega) ?_
    refine g2_ ?_
    obtain ⟨T, hT⟩ : ∃ T, T = isortG ltRank S := ⟨_, rfl⟩
    have hTl : T.length = S.length := by rw [hT, isortG_len]
    rw [← hT]
    obtain ⟨m, hm⟩ : ∃ m : Nat, m = min room.toNat T.length := ⟨_, rfl⟩
    have hmi : (if (S.length : Int) < room then (S.length : Int) else room) = (m : Int) := by split <;> omega
    have htk : T.take room.toNat = T.take m := by
      by_cases h : room.toNat ≤ T.length
      · rw [show m = room.toNat by omega]
      · rw [List.take_of_length_le (by omega), List.take_of_length_le (by omega)]
    rw [htk, hmi]
    refine vc2_rangeA m (fun k => [(13, .d (.rf 1 0 ((T.take k).map (·.d)).length))]) (fun _ => []) (fun k => [(1, .arr 34 4 (((T.take k).map (·.d)).map encDD) false), (0, .arr 203 5 (T.map encSco) false)]) 2 (fun _ => True) (le2_of [(1, .nil 4), (0, .to 0)] ?_) trivial (fun g k => by simp -implicitDefEqProofs only [go_sem, vc2_blk]) (by omega) (fun g => by simp -implicitDefEqProofs only [go_sem, vc2_blk]) (fun k hk _ => ?_) (fun _ => ?_)
    · repeat first | simp -implicitDefEqProofs only [go_sem, vc2_blk, List.take_zero, List.map_nil] | with_reducible refine gl_ ?_
      first | done | rfl | exact ⟨rfl, rfl⟩ | trace_state
    · have hkT : k < T.length := by omega
      have hg : (T.map encSco)[k]? = some (encSco T[k]) := by rw [List.getElem?_map, List.getElem?_eq_getElem hkT]; rfl
      have hsn : (T.take (k + 1)).map (·.d) = (T.take k).map (·.d) ++ [T[k].d] := by
        rw [List.take_add_one, List.getElem?_eq_getElem hkT, List.map_append]; rfl
      have hcl : ((T.take k).map (·.d)).length ≤ 12 := by rw [List.length_map, List.length_take]; omega
      generalize (T.take k).map (·.d) = C at hsn hcl
      simp only [encSco] at hg
      repeat first | simp -implicitDefEqProofs only [go_sem, vc2_blk, hg, hTl, List.length_map] | with_reducible first | refine gl_ ?_ | refine ga_ ?_ | refine gn_ ?_
      refine ⟨k + 1, le2_of [(1, .to 3), (0, .to 0)] ?_, rfl⟩
      have hsl2 : (T.take (k + 1)).length = C.length + 1 := by have := congrArg List.length hsn; rw [List.length_map, List.length_append] at this; exact this
      repeat first | simp -implicitDefEqProofs only [go_sem, vc2_blk, hsn, List.length_append] | with_reducible refine gl_ ?_
      rw [List.map_append]
      exact ⟨hsl2, rfl⟩
    · have hcl : ((T.take m).map (·.d)).length ≤ 12 := by rw [List.length_map, List.length_take]; omega
      generalize (T.take m).map (·.d) = C at hcl
      refine g2_ ?_
      refine dsc_sort C hcl ?_
      refine g2_ ?_
      refine ret_emb ?_ rfl
      repeat first | simp -implicitDefEqProofs only [go_sem, vc2_blk, isortG_len] | with_reducible refine gl_ ?_
      rw [List.take_of_length_le (by rw [List.length_map, isortG_len]; exact Nat.le_refl _)]
end Go.Proofs.YtlaefellhnkfbaaGreat.V

set_option maxRecDepth 10000
namespace Go.Proofs.YtlaefellhnkfbaaGreat.V
open Go.Eng
attribute [local go_sem] encS encDD fzD plR rowR z8 z16 z32 z64 c00 encRing
theorem nearK_lt {far : UInt16 → UInt16 → UInt16} {here : UInt16} {dom : List GSpan} {l : List GDesc} (h : l ≠ []) : ∀ k, (nearK far here dom l k).1 < l.length
  | 0 => by cases l with
    | nil => exact absurd rfl h
    | cons x r => exact Nat.zero_lt_succ _
  | k + 1 => by
    unfold nearK
    cases h2 : l[k]? with
    | none => exact nearK_lt h k
    | some d =>
      simp only
      split
      · exact (List.getElem?_eq_some_iff.1 h2).1
      · exact nearK_lt h k
theorem nearK_succ {far : UInt16 → UInt16 → UInt16} {here : UInt16} {dom : List GSpan} {l : List GDesc} {k : Nat} (h : k < l.length) : nearK far here dom l (k + 1) = if far here (rPlace dom l[k]) < (nearK far here dom l k).2 then (k, far here (rPlace dom l[k])) else nearK far here dom l k := by
  rw [nearK, List.getElem?_eq_getElem h]
theorem nearest_con (clo : FuncId) (far : UInt16 → UInt16 → UInt16) (hfar : ∀ a b : UInt16, Con2 Tryz.prog clo [.v (.int .u16 a.toNat), .v (.int .u16 b.toNat)] (· = plR (.v (.int .u16 (far a b).toNat)))) (dom : List GSpan) (here : UInt16) (known : List GDesc) (hne : known ≠ []) (hmax : known.length ≤ 100000)
    (h4 : dom.length ≤ 4) (hd : ∀ s ∈ dom, okS s) (hok : ∀ d ∈ known, d.filter.length ≤ 1000 ∧ ∀ s ∈ d.filter, okS s) {ρ σ nb K}
    (hk : K (.agg (encDD (nearestR far here dom known))) ⟨ρ, σ, [(2, .var 32 [fzD known]), (1, .var 23 [fzS dom]), (0, .var 30 [.v (.int .u16 here.toNat)])], 3, nb⟩) :
    CallS Tryz.prog false 177 [.fn clo [] [], .pt 0 0, .pt 1 0, .pt 2 0] ⟨ρ, σ, [(2, .var 32 [fzD known]), (1, .var 23 [fzS dom]), (0, .var 30 [.v (.int .u16 here.toNat)])], 3, nb⟩ K := by
  obtain ⟨d0, hd0⟩ : ∃ d0, known[0]? = some d0 := ⟨known[0]'(by cases known; exact absurd rfl hne; simp), List.getElem?_eq_getElem _⟩
  have hlen : 0 < known.length := by cases known; exact absurd rfl hne; simp
  have hh : known.headD zDesc = d0 := by cases known with
    | nil => exact absurd rfl hne
    | cons x r => simpa using hd0
  have hm0 : d0 ∈ known := List.mem_of_getElem? hd0
  have hp0 := place2_con dom d0 h4 (by have := (hok d0 hm0).1; omega) hd (hok d0 hm0).2
  have hg0 : (known.map encDD)[0]? = some (encDD d0) := by rw [List.getElem?_map, hd0]; rfl
  have hf0 := hfar here (rPlace dom d0)
  simp only [encDD] at hg0
  have ek0 : nearK far here dom known 0 = (0, far here (rPlace dom d0)) := by rw [nearK, hh]
  refine CallS.inline Ty.mixed Tryz.func177 rfl (by kernel_rfl) (by kernel_rfl) rfl [.cell 5 34] rfl (Vc2.of ?_)
  refine g2_ ?_
  refine g2_ ?_
  refine .inl ⟨[(0, false), (1, false), (2, false), (3, false), (4, false), (5, false), (6, true), (7, false), (8, false)], by kernel_rfl, ?_⟩
  repeat first | simp -implicitDefEqProofs only [go_sem, vc2_blk, hg0] | with_reducible first | refine gl_ ?_ | refine ga_ ?_ | refine gn_ ?_
  refine CallS.eq hp0 ws_ (.inl ws_) ?_
  refine g2_ ?_
  refine CallS.eq hf0 ws_ (.inl ws_) ?_
  refine g2_ ?_
  refine vc2_rangeA known.length (fun k => [(6, .d (.v (.int .i64 (nearK far here dom known k).1))), (7, .d (.v (.int .u16 (nearK far here dom known k).2.toNat)))]) (fun _ => []) (fun k => [(2, .var 32 [fzD known]), (1, .var 23 [fzS dom]), (0, .var 30 [.v (.int .u16 here.toNat)])]) 3 (fun _ => True) (le2_of [] ?_) trivial (fun g k => by simp -implicitDefEqProofs only [go_sem, vc2_blk]) (by omega) (fun g => by simp -implicitDefEqProofs only [go_sem, vc2_blk]) (fun k hk2 _ => ?_) (fun _ => ?_)
  · repeat first | simp -implicitDefEqProofs only [go_sem, vc2_blk, ek0] | with_reducible refine gl_ ?_
    first | done | rfl | exact ⟨rfl, rfl⟩ | trace_state
  · have hmk := hok _ (List.getElem_mem hk2)
    have hpk := place2_con dom known[k] h4 (by have := hmk.1; omega) hd hmk.2
    have hfk := hfar here (rPlace dom known[k])
    have hsu := nearK_succ (far := far) (here := here) (dom := dom) hk2
    have hlt1 := nearK_lt (far := far) (here := here) (dom := dom) hne k
    repeat first | simp -implicitDefEqProofs only [go_sem, vc2_blk, mapE_get hk2] | with_reducible first | refine gl_ ?_ | refine ga_ ?_ | refine gn_ ?_
    refine .inl ⟨[(0, false), (1, false), (2, false), (3, false), (4, true), (5, false), (6, false)], by kernel_rfl, ?_⟩
    refine g2_ ?_
    refine CallS.eq hpk ws_ (.inl ws_) ?_
    refine g2_ ?_
    refine CallS.eq hfk ws_ (.inl ws_) ?_
    refine g2_ ?_
    by_cases hc : ((far here (rPlace dom known[k])).toNat : Int) < ((nearK far here dom known k).2.toNat : Int)
    · rw [decide_eq_true hc]
      rw [if_pos ((u16_lt _ _).1 hc)] at hsu
      refine g2_ ?_
      refine ⟨k + 1, le2_of [] ?_, rfl⟩
      repeat first | simp -implicitDefEqProofs only [go_sem, vc2_blk, hsu] | with_reducible refine gl_ ?_
    · rw [decide_eq_false hc]
      rw [if_neg (fun h => hc ((u16_lt _ _).2 h))] at hsu
      refine g2_ ?_
      refine ⟨k + 1, le2_of [] ?_, rfl⟩
      repeat first | simp -implicitDefEqProofs only [go_sem, vc2_blk, hsu] | with_reducible refine gl_ ?_
  · have hb := nearK_lt (far := far) (here := here) (dom := dom) hne known.length
    have hgb : (known.map encDD)[(nearK far here dom known known.length).1]? = some (encDD (nearestR far here dom known)) := by
      rw [List.getElem?_map, nearestR, List.getD_eq_getElem?_getD, List.getElem?_eq_getElem hb]; rfl
    have hmb : nearestR far here dom known ∈ known := by
      rw [nearestR, List.getD_eq_getElem?_getD, List.getElem?_eq_getElem hb]; exact List.getElem_mem hb
    have hone := rone_con (nearestR far here dom known) (hok _ hmb).1
    generalize nearestR far here dom known = X at hgb hone hk
    generalize (nearK far here dom known known.length).1 = B at hgb hb
    simp only [encDD] at hgb
    repeat first | simp -implicitDefEqProofs only [go_sem, vc2_blk, hgb, Int.toNat_natCast] | with_reducible first | refine gl_ ?_ | refine ga_ ?_ | refine gn_ ?_
    refine CallS.eq hone ws_ (.inl ws_) ?_
    refine g2_ ?_
    exact hk
theorem rcl2_con (a b : UInt16) : Con2 Tryz.prog 179 [.v (.int .u16 a.toNat), .v (.int .u16 b.toNat)] (· = plR (.v (.int .u16 (b - a).toNat))) := by
  refine con2_of Ty.mixed Tryz.func179 rfl (by kernel_rfl) (by kernel_rfl) rfl [.tmp 4] rfl ?_
  refine g2_ ?_
  refine g2_ ?_
  refine CallS.eq (rfar_con a b) ws_ (.inl ws_) ?_
  refine g2_ ?_
  exact ⟨_, rfl, le2_of [] ws_⟩
theorem rcl3_con (a b : UInt16) : Con2 Tryz.prog 181 [.v (.int .u16 a.toNat), .v (.int .u16 b.toNat)] (· = plR (.v (.int .u16 (a - b).toNat))) := by
  refine con2_of Ty.mixed Tryz.func181 rfl (by kernel_rfl) (by kernel_rfl) rfl [.tmp 4] rfl ?_
  refine g2_ ?_
  refine g2_ ?_
  refine CallS.eq (rfar_con b a) ws_ (.inl ws_) ?_
  refine g2_ ?_
  exact ⟨_, rfl, le2_of [] ws_⟩
theorem rchoose_con (dom : List GSpan) (self : GDesc) (L : List (List GDesc)) (hL : L.length ≤ 1000) (hl : ∀ l ∈ L, okDs l) (h4 : dom.length ≤ 4) (hd : ∀ s ∈ dom, okS s) (hs : self.filter.length ≤ 1000) (hss : ∀ s ∈ self.filter, okS s) (hok : ∀ d ∈ nUnion self.node L, d.filter.length ≤ 1000 ∧ ∀ s ∈ d.filter, okS s) (hlm : (nUnion self.node L).length ≤ 100000) :
    Con2 Tryz.prog 112 [fzS dom, .agg (encDD self), .fz 1 (encLs L)] (· = plR (.agg (encRing (rChoose dom self L)))) := by
  refine Con2.ofEmb ?_
  have hu := union_con self.node L hL hl
  have hp := place2_con dom self h4 (by omega) hd hss
  unfold rChoose
  generalize nUnion self.node L = known at hu hok hlm
  refine con2_of Ty.mixed Tryz.func112 rfl (by kernel_rfl) (by kernel_rfl) rfl [.cell 6 36] rfl ?_
  refine g2_ ?_
  refine g2_ ?_
  refine CallS.eq hu ws_ (.inl ws_) ?_
  refine g2_ ?_
  refine cond2_eq (fun h => ?_) (fun h => ?_)
  · have e : known = [] := List.eq_nil_of_length_eq_zero (by omega)
    rw [if_pos e]
    refine g2_ ?_
    refine ret_emb ?_ rfl
    repeat first | simp -implicitDefEqProofs only [go_sem, vc2_blk, zDesc, List.map_nil] | with_reducible refine gl_ ?_
  · have e : known ≠ [] := fun e => h (by rw [e]; rfl)
    rw [if_neg e]
    refine g2_ ?_
    refine CallS.eq hp ws_ (.inl ws_) ?_
    refine g2_ ?_
    refine nearest_con 179 (fun h t => t - h) rcl2_con dom _ known e hlm h4 hd hok ?_
    refine g2_ ?_
    refine nearest_con 181 (fun h t => h - t) rcl3_con dom _ known e hlm h4 hd hok ?_
    refine g2_ ?_
    refine ret_emb ?_ rfl
    exact ws_
end Go.Proofs.YtlaefellhnkfbaaGreat.V

namespace Go.Eng
def okF (d : GDesc) : Prop := d.filter.length ≤ 1000 ∧ ∀ s ∈ d.filter, okS s
theorem okF_z : okF zDesc := ⟨Nat.zero_le _, fun s h => by cases h⟩
theorem uStep_at {self : UInt8} {P : GDesc → Prop} {l : List GDesc} {d : GDesc} (hl : ∀ i e, l[i]? = some e → e.inc = 0 ∨ (e.node.toNat = i ∧ P e)) (hd : P d) : ∀ i e, (uStep self l d)[i]? = some e → e.inc = 0 ∨ (e.node.toNat = i ∧ P e) := by
  intro i e h
  unfold uStep at h
  split at h
  · exact hl i e h
  · split at h
    · split at h
      · rw [List.getElem?_set] at h
        split at h
        · split at h
          · cases h; exact .inr ⟨‹_›, hd⟩
          · cases h
        · exact hl i e h
      · exact hl i e h
    · exact hl i e h
theorem uFold_at {self : UInt8} {P : GDesc → Prop} : ∀ {ds l : List GDesc}, (∀ i e, l[i]? = some e → e.inc = 0 ∨ (e.node.toNat = i ∧ P e)) → (∀ d ∈ ds, P d) → ∀ i e, (uFold self l ds)[i]? = some e → e.inc = 0 ∨ (e.node.toNat = i ∧ P e)
  | [], l, hl, _ => hl
  | d :: r, l, hl, hd => by
    show ∀ i e, (uFold self (uStep self l d) r)[i]? = some e → _
    exact uFold_at (uStep_at hl (hd d List.mem_cons_self)) fun x hx => hd x (List.mem_cons_of_mem _ hx)
theorem zL_at {P : GDesc → Prop} (i : Nat) (e : GDesc) (h : zL[i]? = some e) : e.inc = 0 ∨ (e.node.toNat = i ∧ P e) := by
  unfold zL at h
  rw [List.getElem?_replicate] at h
  split at h
  · cases h; exact .inl rfl
  · cases h
theorem nUnion_mem {self : UInt8} {L : List (List GDesc)} {d : GDesc} (h : d ∈ nUnion self L) : ∃ l ∈ L, d ∈ l := by
  obtain ⟨h1, h2⟩ := List.mem_filter.1 h
  obtain ⟨i, hi, hd⟩ := List.mem_iff_getElem.1 h1
  rcases uFold_at (P := fun d => d ∈ L.flatten) zL_at (fun d hd => hd) i d (by rw [List.getElem?_eq_getElem hi, hd]) with h3 | h3
  · rw [h3] at h2; simp at h2
  · exact List.mem_flatten.1 h3.2
theorem filter_nil_of {α : Type} {f : α → Bool} : ∀ {l : List α}, (∀ x ∈ l, f x = false) → l.filter f = []
  | [], _ => rfl
  | x :: r, h => by rw [List.filter_cons, h x List.mem_cons_self]; exact filter_nil_of fun y hy => h y (List.mem_cons_of_mem _ hy)
theorem nUnion_len {self : UInt8} {L : List (List GDesc)} {n : Nat} (h : ∀ l ∈ L, ∀ d ∈ l, d.node.toNat < n) : (nUnion self L).length ≤ n := by
  unfold nUnion
  have key := uFold_at (self := self) (P := fun d => d.node.toNat < n) zL_at (ds := L.flatten) (fun d hd => by obtain ⟨l, h1, h2⟩ := List.mem_flatten.1 hd; exact h l h1 d h2)
  generalize uFold self zL L.flatten = A at key
  rw [← List.take_append_drop n A, List.filter_append, List.length_append]
  have h1 := List.length_filter_le (fun d : GDesc => decide ((0 : Int) < (d.inc.toNat : Int))) (A.take n)
  have h2 : (A.drop n).filter (fun d : GDesc => decide ((0 : Int) < (d.inc.toNat : Int))) = [] := filter_nil_of fun x hx => by
    obtain ⟨i, hi, hd⟩ := List.mem_iff_getElem.1 hx
    have h3 : A[n + i]? = some x := by rw [← List.getElem?_drop, List.getElem?_eq_getElem hi, hd]
    rcases key _ _ h3 with h4 | h4
    · rw [h4]; rfl
    · omega
  rw [h2]
  rw [List.length_take] at h1
  simp only [List.length_nil]
  omega
end Go.Eng
namespace Go.Proofs.YtlaefellhnkfbaaGreat.V
open Go.Eng
theorem fNear_mem {own : List GSpan} {self : UInt8} {room : Int} {L : List (List GDesc)} {d : GDesc} (h : d ∈ fNear own self room L) : d ∈ nUnion self L := by
  unfold fNear at h
  split at h
  · cases h
  · rcases isortG_mem h with h | h
    · obtain ⟨x, hx, rfl⟩ := List.mem_map.1 h
      rcases isortG_mem (List.mem_of_mem_take hx) with h | h
      · obtain ⟨h, _⟩ := List.mem_filter.1 h
        obtain ⟨y, hy, rfl⟩ := List.mem_map.1 h
        exact hy
      · cases h
    · cases h
theorem fNear_len {own : List GSpan} {self : UInt8} {room : Int} {L : List (List GDesc)} : (fNear own self room L).length ≤ (nUnion self L).length := by
  unfold fNear
  split
  · exact Nat.zero_le _
  · rw [isortG_len, List.length_map, List.length_take, isortG_len]
    have := List.length_filter_le (fun x : GSco => decide (0 < x.o)) ((nUnion self L).map fun d => ⟨d, fOvl own d.filter⟩)
    rw [List.length_map] at this
    unfold fScored
    omega
theorem dCur_lt {p : GPeer} {d : GDesc} (h : dCur p d = true) : d.node.toNat < p.table.length := by
  unfold dCur at h
  split at h
  · cases h
  · split at h
    · cases h
    · rename_i h2; exact (List.getElem?_eq_some_iff.1 h2).1
theorem rList_mem {r : GRing} {d : GDesc} (h : d ∈ rList r) : (r.hs = true ∧ d = r.succ) ∨ (r.hp = true ∧ d = r.pred) := by
  unfold rList at h
  split at h
  · rename_i h1
    unfold rBoth at h
    repeat' (split at h)
    all_goals simp at h
    · rcases h with h | h
      · exact .inl ⟨h1.1, h⟩
      · exact .inr ⟨h1.2, h⟩
    · rcases h with h | h
      · exact .inr ⟨h1.2, h⟩
      · exact .inl ⟨h1.1, h⟩
    · exact .inr ⟨h1.2, h⟩
    · exact .inl ⟨h1.1, h⟩
  · split at h
    · simp at h; exact .inl ⟨‹_›, h⟩
    · split at h
      · simp at h; exact .inr ⟨‹_›, h⟩
      · cases h
theorem rList_len (r : GRing) : (rList r).length ≤ 2 := by
  unfold rList rBoth
  repeat' split
  all_goals simp
def rCur (p : GPeer) (r : GRing) : GRing := ⟨r.hs && dCur p r.succ, r.hp && dCur p r.pred, if r.hs && !dCur p r.succ then zDesc else r.succ, if r.hp && !dCur p r.pred then zDesc else r.pred⟩
def pMeet (c : GConf) (p : GPeer) (l : List GDesc) : GPeer :=
  let v := pCur p p.view
  let b := rList (rCur p p.ring)
  let m := pUse c p l
  let n := fNear p.filter p.node c.near [v, pCur p p.near, b, m]
  { p with view := v, near := n, ring := rChoose c.schema (pSelf p) [v, n, b, m] }
structure okG (p : GPeer) : Prop where
  ok : okP p
  filter : ∀ s ∈ p.filter, okS s
  view : ∀ d ∈ p.view, okF d
  near : ∀ d ∈ p.near, okF d
  succ : okF p.ring.succ
  pred : okF p.ring.pred
  table : p.table.length ≤ 12
structure okM (n : Nat) (L : List (List GDesc)) : Prop where
  ds : ∀ l ∈ L, okDs l
  f : ∀ l ∈ L, ∀ d ∈ l, okF d
  lt : ∀ l ∈ L, ∀ d ∈ l, d.node.toNat < n
theorem okM.u {n : Nat} {L : List (List GDesc)} (h : okM n L) (self : UInt8) : (∀ d ∈ nUnion self L, d.filter.length ≤ 1000 ∧ ∀ s ∈ d.filter, okS s) ∧ (nUnion self L).length ≤ n :=
  ⟨fun d hd => by obtain ⟨l, h1, h2⟩ := nUnion_mem hd; exact h.f l h1 d h2, nUnion_len h.lt⟩
theorem okDs_cur {p : GPeer} {l : List GDesc} (h : okDs l) : okDs (pCur p l) := okDs_filter h
theorem meet_ok {c : GConf} {p : GPeer} {l : List GDesc} (hp : okG p) (hl : okDs l) (hl2 : ∀ d ∈ l, okF d) : okM 12 [pCur p p.view, pCur p p.near, rList (rCur p p.ring), pUse c p l] ∧
    ∀ room, okM 12 [pCur p p.view, fNear p.filter p.node room [pCur p p.view, pCur p p.near, rList (rCur p p.ring), pUse c p l], rList (rCur p p.ring), pUse c p l] := by
  have ht := hp.table
  have a : ∀ l, (∀ d ∈ l, okF d) → ∀ d ∈ pCur p l, okF d ∧ d.node.toNat < 12 := fun l hl d hd => by
    obtain ⟨h1, h2⟩ := List.mem_filter.1 hd
    have := dCur_lt h2
    exact ⟨hl d h1, by omega⟩
  have b : ∀ d ∈ rList (rCur p p.ring), okF d ∧ d.node.toNat < 12 := fun d hd => by
    rcases rList_mem hd with ⟨h1, rfl⟩ | ⟨h1, rfl⟩
    · have h2 : p.ring.hs = true ∧ dCur p p.ring.succ = true := by simpa [rCur] using h1
      have e : (rCur p p.ring).succ = p.ring.succ := by simp [rCur, h2.2]
      have := dCur_lt h2.2
      rw [e]
      exact ⟨hp.succ, by omega⟩
    · have h2 : p.ring.hp = true ∧ dCur p p.ring.pred = true := by simpa [rCur] using h1
      have e : (rCur p p.ring).pred = p.ring.pred := by simp [rCur, h2.2]
      have := dCur_lt h2.2
      rw [e]
      exact ⟨hp.pred, by omega⟩
  have hb : okDs (rList (rCur p p.ring)) := ⟨by have := rList_len (rCur p p.ring); omega, fun d hd => (b d hd).1.1⟩
  have hf : ∀ d ∈ pFine c l, okF d := fun d hd => hl2 d (List.mem_filter.1 hd).1
  have m1 : okM 12 [pCur p p.view, pCur p p.near, rList (rCur p p.ring), pUse c p l] := by
    refine ⟨fun l' h => ?_, fun l' h d hd => ?_, fun l' h d hd => ?_⟩
    · simp at h
      rcases h with rfl | rfl | rfl | rfl
      · exact okDs_cur hp.ok.view
      · exact okDs_cur hp.ok.near
      · exact hb
      · exact okDs_filter (okDs_filter hl)
    · simp at h
      rcases h with rfl | rfl | rfl | rfl
      · exact (a _ hp.view d hd).1
      · exact (a _ hp.near d hd).1
      · exact (b d hd).1
      · exact (a _ hf d hd).1
    · simp at h
      rcases h with rfl | rfl | rfl | rfl
      · exact (a _ hp.view d hd).2
      · exact (a _ hp.near d hd).2
      · exact (b d hd).2
      · exact (a _ hf d hd).2
  refine ⟨m1, fun room => ?_⟩
  have hn : ∀ d ∈ fNear p.filter p.node room [pCur p p.view, pCur p p.near, rList (rCur p p.ring), pUse c p l], okF d ∧ d.node.toNat < 12 := fun d hd => by
    obtain ⟨l', h1, h2⟩ := nUnion_mem (fNear_mem hd)
    exact ⟨m1.f l' h1 d h2, m1.lt l' h1 d h2⟩
  have hn2 : okDs (fNear p.filter p.node room [pCur p p.view, pCur p p.near, rList (rCur p p.ring), pUse c p l]) :=
    ⟨Nat.le_trans fNear_len (Nat.le_trans (m1.u p.node).2 (by omega)), fun d hd => (hn d hd).1.1⟩
  generalize fNear p.filter p.node room [pCur p p.view, pCur p p.near, rList (rCur p p.ring), pUse c p l] = N at hn hn2
  refine ⟨fun l' h => ?_, fun l' h d hd => ?_, fun l' h d hd => ?_⟩
  · simp at h
    rcases h with rfl | rfl | rfl | rfl
    · exact okDs_cur hp.ok.view
    · exact hn2
    · exact hb
    · exact okDs_filter (okDs_filter hl)
  · simp at h
    rcases h with rfl | rfl | rfl | rfl
    · exact (a _ hp.view d hd).1
    · exact (hn d hd).1
    · exact (b d hd).1
    · exact (a _ hf d hd).1
  · simp at h
    rcases h with rfl | rfl | rfl | rfl
    · exact (a _ hp.view d hd).2
    · exact (hn d hd).2
    · exact (b d hd).2
    · exact (a _ hf d hd).2
end Go.Proofs.YtlaefellhnkfbaaGreat.V

set_option maxRecDepth 10000
namespace Go.Eng
theorem okP_set {p : GPeer} (h : okP p) {v n : List GDesc} {r : GRing} (hv : okDs v) (hn : okDs n) (h1 : r.succ.filter.length ≤ 1000) (h2 : r.pred.filter.length ≤ 1000) : okP { p with view := v, near := n, ring := r } :=
  ⟨h.filter, hv, hn, h1, h2, h.sent, h.table, h.heard, h.rows, h.reports, h.evs, h.pulls⟩
end Go.Eng
namespace Go.Proofs.YtlaefellhnkfbaaGreat.V
open Go.Eng
attribute [local go_sem] zDesc encS encDD fzD plR rowR encK encM encRw encC encP encEv encA z8 z16 z32 z64 encMg encRing encI encLs List.map_cons List.map_nil
set_option maxHeartbeats 4000000 in
theorem pmeet_con (c : GConf) (p : GPeer) (l : List GDesc) (hc : c.schema.length ≤ 4) (hcs : ∀ s ∈ c.schema, okS s) (hp : okG p) (hl : okDs l) (hl2 : ∀ d ∈ l, okF d) :
    Con2 Tryz.prog 47 [.agg (encC c), .agg (encP p), fzD l] (· = plR (.agg (encP (pMeet c p l)))) := by
  refine Con2.ofEmb ?_
  obtain ⟨m1, m2⟩ := meet_ok (c := c) hp hl hl2
  have m2 := m2 c.near
  have u1 := m1.u p.node
  have u2 := m2.u p.node
  have hk := hp.ok
  have k1 : Con2 Tryz.prog 108 [.agg (encP p), fzD p.view] (· = plR (fzD (pCur p p.view))) := curF_con p p.view hk hk.view
  have k2 : Con2 Tryz.prog 108 [.agg (encP { p with view := pCur p p.view }), fzD p.near] (· = plR (fzD (pCur p p.near))) := curF_con { p with view := pCur p p.view } p.near (okP_set hk (okDs_cur hk.view) hk.near hk.succ hk.pred) hk.near
  have k3 : Con2 Tryz.prog 109 [.agg (encP { p with view := pCur p p.view, near := pCur p p.near }), .agg (encDD p.ring.succ)] (· = plR (.v (.bool (dCur p p.ring.succ)))) := pcur1_con _ _ (okP_set hk (okDs_cur hk.view) (okDs_cur hk.near) hk.succ hk.pred)
  have k4 : ∀ hs su, su.filter.length ≤ 1000 → Con2 Tryz.prog 109 [.agg (encP { p with view := pCur p p.view, near := pCur p p.near, ring := ⟨hs, p.ring.hp, su, p.ring.pred⟩ }), .agg (encDD p.ring.pred)] (· = plR (.v (.bool (dCur p p.ring.pred)))) := fun hs su h =>
    pcur1_con _ _ (okP_set (r := ⟨hs, p.ring.hp, su, p.ring.pred⟩) hk (okDs_cur hk.view) (okDs_cur hk.near) h hk.pred)
  have hsf : (rCur p p.ring).succ.filter.length ≤ 1000 := by
    simp only [rCur]; split
    · exact Nat.zero_le _
    · exact hk.succ
  have hpf : (rCur p p.ring).pred.filter.length ≤ 1000 := by
    simp only [rCur]; split
    · exact Nat.zero_le _
    · exact hk.pred
  have k5 := rlist_con (rCur p p.ring) hsf hpf
  have k6 : Con2 Tryz.prog 110 [.agg (encC c), .agg (encP { p with view := pCur p p.view, near := pCur p p.near, ring := rCur p p.ring }), fzD l] (· = plR (fzD (pUse c p l))) := puse_con c _ l (by omega) (okP_set hk (okDs_cur hk.view) (okDs_cur hk.near) hsf hpf) hl
  have k7 := nchoose_con p.filter p.node c.near _ (by simp) m1.ds hk.filter hp.filter u1.1 u1.2
  have k8 : Con2 Tryz.prog 32 [.agg (encP { p with view := pCur p p.view, near := fNear p.filter p.node c.near [pCur p p.view, pCur p p.near, rList (rCur p p.ring), pUse c p l], ring := rCur p p.ring })] (· = plR (.agg (encDD (pSelf p)))) :=
    pself_con _ (okP_set hk (okDs_cur hk.view) (m2.ds _ (by simp)) hsf hpf)
  have k9 := rchoose_con c.schema (pSelf p) _ (by simp) m2.ds hc hcs hk.filter hp.filter u2.1 (Nat.le_trans u2.2 (by omega))
  have hres : pMeet c p l = { p with view := pCur p p.view, near := fNear p.filter p.node c.near [pCur p p.view, pCur p p.near, rList (rCur p p.ring), pUse c p l], ring := rChoose c.schema (pSelf p) [pCur p p.view, fNear p.filter p.node c.near [pCur p p.view, pCur p p.near, rList (rCur p p.ring), pUse c p l], rList (rCur p p.ring), pUse c p l] } := rfl
  rw [hres]
  clear hres m1 m2 u1 u2 hsf hpf
  generalize rChoose c.schema (pSelf p) [pCur p p.view, fNear p.filter p.node c.near [pCur p p.view, pCur p p.near, rList (rCur p p.ring), pUse c p l], rList (rCur p p.ring), pUse c p l] = R at k9
  generalize fNear p.filter p.node c.near [pCur p p.view, pCur p p.near, rList (rCur p p.ring), pUse c p l] = N at k7 k8 k9
  generalize pUse c p l = M at k6 k7 k9
  generalize rList (rCur p p.ring) = B at k5 k7 k9
  generalize pSelf p = S at k8 k9
  generalize pCur p p.view = v at k1 k2 k3 k4 k6 k7 k8 k9
  generalize pCur p p.near = n at k2 k3 k4 k6 k7 k8
  have hr : ∀ a b s q, rCur p p.ring = ⟨a, b, s, q⟩ → rCur p p.ring = ⟨a, b, s, q⟩ := fun _ _ _ _ h => h
  unfold rCur at hr
  generalize hR : rCur p p.ring = r at k5 k6 k8
  unfold rCur at hR
  clear hr
  refine con2_of Ty.mixed Tryz.func47 rfl (by kernel_rfl) (by kernel_rfl) rfl [.cell 6 49] rfl ?_
  refine g2_ ?_
  refine g2_ ?_
  refine CallS.eqW k1 ws_ (.inl ws_) ?_
  refine g2_ ?_
  refine CallS.eqW k2 ws_ (.inl ws_) ?_
  refine g2_ ?_
  cases h1 : p.ring.hs with
  | false =>
    refine g2_ ?_
    cases h3 : p.ring.hp with
    | false =>
      obtain rfl : r = ⟨false, false, p.ring.succ, p.ring.pred⟩ := by rw [← hR]; simp [h1, h3]
      refine g2_ ?_
      refine CallS.eqW k5 ws_ (.inl ws_) ?_
      refine g2_ ?_
      refine CallS.eqW k6 ws_ (.inl ws_) ?_
      refine g2_ ?_
      refine CallS.eqW k7 ws_ (.inl ws_) ?_
      refine g2_ ?_
      refine .inr (.inl ⟨(.fl 0 (.fl 2 (.fl 4 (.fl 6 (.fl 8 (.fl 9 (.fl 1 (.fl 5 (.fl 7 (.eff 3 true (.eff 10 true (.eff 11 false (.fl 12 (.eff 13 false .done .no)) .no) .no) (.eff 10 true (.eff 3 true (.eff 11 false (.fl 12 (.eff 13 false .done .no)) .no) .no) .no))))))))))), by kernel_rfl, ?_⟩)
      refine g2_ ?_
      repeat' (first
        | (with_reducible refine And.intro ?_ ?_)
        | (refine CallS.eqW k8 ?_ (.inl ?_) ?_; (focus (((try (with_reducible refine leK2_refl ?_)); simp -implicitDefEqProofs only [go_sem, vc2_blk]; repeat ((with_reducible refine leK2_refl ?_); simp -implicitDefEqProofs only [go_sem, vc2_blk])); done)); (focus (((try (with_reducible refine leK2_refl ?_)); simp -implicitDefEqProofs only [go_sem, vc2_blk]; repeat ((with_reducible refine leK2_refl ?_); simp -implicitDefEqProofs only [go_sem, vc2_blk])); done)); refine g2_ ?_)
        | (refine CallS.eqW k9 ?_ (.inl ?_) ?_; (focus (((try (with_reducible refine leK2_refl ?_)); simp -implicitDefEqProofs only [go_sem, vc2_blk]; repeat ((with_reducible refine leK2_refl ?_); simp -implicitDefEqProofs only [go_sem, vc2_blk])); done)); (focus (((try (with_reducible refine leK2_refl ?_)); simp -implicitDefEqProofs only [go_sem, vc2_blk]; repeat ((with_reducible refine leK2_refl ?_); simp -implicitDefEqProofs only [go_sem, vc2_blk])); done)); refine g2_ ?_)
        | (with_reducible refine leK2_refl ?_; refine g2_ ?_))
      all_goals
        refine ret_emb ?_ rfl
        exact ws_
    | true =>
      have k4' := k4 false p.ring.succ hk.succ
      rw [h3] at k4'
      refine g2_ ?_
      refine CallS.eqW k4' ws_ (.inl ws_) ?_
      refine g2_ ?_
      cases h4 : dCur p p.ring.pred with
      | true =>
        obtain rfl : r = ⟨false, true, p.ring.succ, p.ring.pred⟩ := by rw [← hR]; simp [h1, h3, h4]
        refine g2_ ?_
        refine CallS.eqW k5 ws_ (.inl ws_) ?_
        refine g2_ ?_
        refine CallS.eqW k6 ws_ (.inl ws_) ?_
        refine g2_ ?_
        refine CallS.eqW k7 ws_ (.inl ws_) ?_
        refine g2_ ?_
        refine .inr (.inl ⟨(.fl 0 (.fl 2 (.fl 4 (.fl 6 (.fl 8 (.fl 9 (.fl 1 (.fl 5 (.fl 7 (.eff 3 true (.eff 10 true (.eff 11 false (.fl 12 (.eff 13 false .done .no)) .no) .no) (.eff 10 true (.eff 3 true (.eff 11 false (.fl 12 (.eff 13 false .done .no)) .no) .no) .no))))))))))), by kernel_rfl, ?_⟩)
        refine g2_ ?_
        repeat' (first
          | (with_reducible refine And.intro ?_ ?_)
          | (refine CallS.eqW k8 ?_ (.inl ?_) ?_; (focus (((try (with_reducible refine leK2_refl ?_)); simp -implicitDefEqProofs only [go_sem, vc2_blk]; repeat ((with_reducible refine leK2_refl ?_); simp -implicitDefEqProofs only [go_sem, vc2_blk])); done)); (focus (((try (with_reducible refine leK2_refl ?_)); simp -implicitDefEqProofs only [go_sem, vc2_blk]; repeat ((with_reducible refine leK2_refl ?_); simp -implicitDefEqProofs only [go_sem, vc2_blk])); done)); refine g2_ ?_)
          | (refine CallS.eqW k9 ?_ (.inl ?_) ?_; (focus (((try (with_reducible refine leK2_refl ?_)); simp -implicitDefEqProofs only [go_sem, vc2_blk]; repeat ((with_reducible refine leK2_refl ?_); simp -implicitDefEqProofs only [go_sem, vc2_blk])); done)); (focus (((try (with_reducible refine leK2_refl ?_)); simp -implicitDefEqProofs only [go_sem, vc2_blk]; repeat ((with_reducible refine leK2_refl ?_); simp -implicitDefEqProofs only [go_sem, vc2_blk])); done)); refine g2_ ?_)
          | (with_reducible refine leK2_refl ?_; refine g2_ ?_))
        all_goals
          refine ret_emb ?_ rfl
          exact ws_
      | false =>
        obtain rfl : r = ⟨false, false, p.ring.succ, zDesc⟩ := by rw [← hR]; simp [h1, h3, h4]
        refine g2_ ?_
        refine CallS.eqW k5 ws_ (.inl ws_) ?_
        refine g2_ ?_
        refine CallS.eqW k6 ws_ (.inl ws_) ?_
        refine g2_ ?_
        refine CallS.eqW k7 ws_ (.inl ws_) ?_
        refine g2_ ?_
        refine .inr (.inl ⟨(.fl 0 (.fl 2 (.fl 4 (.fl 6 (.fl 8 (.fl 9 (.fl 1 (.fl 5 (.fl 7 (.eff 3 true (.eff 10 true (.eff 11 false (.fl 12 (.eff 13 false .done .no)) .no) .no) (.eff 10 true (.eff 3 true (.eff 11 false (.fl 12 (.eff 13 false .done .no)) .no) .no) .no))))))))))), by kernel_rfl, ?_⟩)
        refine g2_ ?_
        repeat' (first
          | (with_reducible refine And.intro ?_ ?_)
          | (refine CallS.eqW k8 ?_ (.inl ?_) ?_; (focus (((try (with_reducible refine leK2_refl ?_)); simp -implicitDefEqProofs only [go_sem, vc2_blk]; repeat ((with_reducible refine leK2_refl ?_); simp -implicitDefEqProofs only [go_sem, vc2_blk])); done)); (focus (((try (with_reducible refine leK2_refl ?_)); simp -implicitDefEqProofs only [go_sem, vc2_blk]; repeat ((with_reducible refine leK2_refl ?_); simp -implicitDefEqProofs only [go_sem, vc2_blk])); done)); refine g2_ ?_)
          | (refine CallS.eqW k9 ?_ (.inl ?_) ?_; (focus (((try (with_reducible refine leK2_refl ?_)); simp -implicitDefEqProofs only [go_sem, vc2_blk]; repeat ((with_reducible refine leK2_refl ?_); simp -implicitDefEqProofs only [go_sem, vc2_blk])); done)); (focus (((try (with_reducible refine leK2_refl ?_)); simp -implicitDefEqProofs only [go_sem, vc2_blk]; repeat ((with_reducible refine leK2_refl ?_); simp -implicitDefEqProofs only [go_sem, vc2_blk])); done)); refine g2_ ?_)
          | (with_reducible refine leK2_refl ?_; refine g2_ ?_))
        all_goals
          refine ret_emb ?_ rfl
          exact ws_
  | true =>
    refine g2_ ?_
    refine CallS.eqW k3 (by simp -implicitDefEqProofs only [go_sem, vc2_blk, h1]) (.inl ws_) ?_
    refine g2_ ?_
    cases h2 : dCur p p.ring.succ with
    | true =>
      refine g2_ ?_
      cases h3 : p.ring.hp with
      | false =>
        obtain rfl : r = ⟨true, false, p.ring.succ, p.ring.pred⟩ := by rw [← hR]; simp [h1, h2, h3]
        refine g2_ ?_
        refine CallS.eqW k5 ws_ (.inl ws_) ?_
        refine g2_ ?_
        refine CallS.eqW k6 ws_ (.inl ws_) ?_
        refine g2_ ?_
        refine CallS.eqW k7 ws_ (.inl ws_) ?_
        refine g2_ ?_
        refine .inr (.inl ⟨(.fl 0 (.fl 2 (.fl 4 (.fl 6 (.fl 8 (.fl 9 (.fl 1 (.fl 5 (.fl 7 (.eff 3 true (.eff 10 true (.eff 11 false (.fl 12 (.eff 13 false .done .no)) .no) .no) (.eff 10 true (.eff 3 true (.eff 11 false (.fl 12 (.eff 13 false .done .no)) .no) .no) .no))))))))))), by kernel_rfl, ?_⟩)
        refine g2_ ?_
        repeat' (first
          | (with_reducible refine And.intro ?_ ?_)
          | (refine CallS.eqW k8 ?_ (.inl ?_) ?_; (focus (((try (with_reducible refine leK2_refl ?_)); simp -implicitDefEqProofs only [go_sem, vc2_blk]; repeat ((with_reducible refine leK2_refl ?_); simp -implicitDefEqProofs only [go_sem, vc2_blk])); done)); (focus (((try (with_reducible refine leK2_refl ?_)); simp -implicitDefEqProofs only [go_sem, vc2_blk]; repeat ((with_reducible refine leK2_refl ?_); simp -implicitDefEqProofs only [go_sem, vc2_blk])); done)); refine g2_ ?_)
          | (refine CallS.eqW k9 ?_ (.inl ?_) ?_; (focus (((try (with_reducible refine leK2_refl ?_)); simp -implicitDefEqProofs only [go_sem, vc2_blk]; repeat ((with_reducible refine leK2_refl ?_); simp -implicitDefEqProofs only [go_sem, vc2_blk])); done)); (focus (((try (with_reducible refine leK2_refl ?_)); simp -implicitDefEqProofs only [go_sem, vc2_blk]; repeat ((with_reducible refine leK2_refl ?_); simp -implicitDefEqProofs only [go_sem, vc2_blk])); done)); refine g2_ ?_)
          | (with_reducible refine leK2_refl ?_; refine g2_ ?_))
        all_goals
          refine ret_emb ?_ rfl
          exact ws_
      | true =>
        have k4' := k4 true p.ring.succ hk.succ
        rw [h3] at k4'
        refine g2_ ?_
        refine CallS.eqW k4' ws_ (.inl ws_) ?_
        refine g2_ ?_
        cases h4 : dCur p p.ring.pred with
        | true =>
          obtain rfl : r = ⟨true, true, p.ring.succ, p.ring.pred⟩ := by rw [← hR]; simp [h1, h2, h3, h4]
          refine g2_ ?_
          refine CallS.eqW k5 ws_ (.inl ws_) ?_
          refine g2_ ?_
          refine CallS.eqW k6 ws_ (.inl ws_) ?_
          refine g2_ ?_
          refine CallS.eqW k7 ws_ (.inl ws_) ?_
          refine g2_ ?_
          refine .inr (.inl ⟨(.fl 0 (.fl 2 (.fl 4 (.fl 6 (.fl 8 (.fl 9 (.fl 1 (.fl 5 (.fl 7 (.eff 3 true (.eff 10 true (.eff 11 false (.fl 12 (.eff 13 false .done .no)) .no) .no) (.eff 10 true (.eff 3 true (.eff 11 false (.fl 12 (.eff 13 false .done .no)) .no) .no) .no))))))))))), by kernel_rfl, ?_⟩)
          refine g2_ ?_
          repeat' (first
            | (with_reducible refine And.intro ?_ ?_)
            | (refine CallS.eqW k8 ?_ (.inl ?_) ?_; (focus (((try (with_reducible refine leK2_refl ?_)); simp -implicitDefEqProofs only [go_sem, vc2_blk]; repeat ((with_reducible refine leK2_refl ?_); simp -implicitDefEqProofs only [go_sem, vc2_blk])); done)); (focus (((try (with_reducible refine leK2_refl ?_)); simp -implicitDefEqProofs only [go_sem, vc2_blk]; repeat ((with_reducible refine leK2_refl ?_); simp -implicitDefEqProofs only [go_sem, vc2_blk])); done)); refine g2_ ?_)
            | (refine CallS.eqW k9 ?_ (.inl ?_) ?_; (focus (((try (with_reducible refine leK2_refl ?_)); simp -implicitDefEqProofs only [go_sem, vc2_blk]; repeat ((with_reducible refine leK2_refl ?_); simp -implicitDefEqProofs only [go_sem, vc2_blk])); done)); (focus (((try (with_reducible refine leK2_refl ?_)); simp -implicitDefEqProofs only [go_sem, vc2_blk]; repeat ((with_reducible refine leK2_refl ?_); simp -implicitDefEqProofs only [go_sem, vc2_blk])); done)); refine g2_ ?_)
            | (with_reducible refine leK2_refl ?_; refine g2_ ?_))
          all_goals
            refine ret_emb ?_ rfl
            exact ws_
        | false =>
          obtain rfl : r = ⟨true, false, p.ring.succ, zDesc⟩ := by rw [← hR]; simp [h1, h2, h3, h4]
          refine g2_ ?_
          refine CallS.eqW k5 ws_ (.inl ws_) ?_
          refine g2_ ?_
          refine CallS.eqW k6 ws_ (.inl ws_) ?_
          refine g2_ ?_
          refine CallS.eqW k7 ws_ (.inl ws_) ?_
          refine g2_ ?_
          refine .inr (.inl ⟨(.fl 0 (.fl 2 (.fl 4 (.fl 6 (.fl 8 (.fl 9 (.fl 1 (.fl 5 (.fl 7 (.eff 3 true (.eff 10 true (.eff 11 false (.fl 12 (.eff 13 false .done .no)) .no) .no) (.eff 10 true (.eff 3 true (.eff 11 false (.fl 12 (.eff 13 false .done .no)) .no) .no) .no))))))))))), by kernel_rfl, ?_⟩)
          refine g2_ ?_
          repeat' (first
            | (with_reducible refine And.intro ?_ ?_)
            | (refine CallS.eqW k8 ?_ (.inl ?_) ?_; (focus (((try (with_reducible refine leK2_refl ?_)); simp -implicitDefEqProofs only [go_sem, vc2_blk]; repeat ((with_reducible refine leK2_refl ?_); simp -implicitDefEqProofs only [go_sem, vc2_blk])); done)); (focus (((try (with_reducible refine leK2_refl ?_)); simp -implicitDefEqProofs only [go_sem, vc2_blk]; repeat ((with_reducible refine leK2_refl ?_); simp -implicitDefEqProofs only [go_sem, vc2_blk])); done)); refine g2_ ?_)
            | (refine CallS.eqW k9 ?_ (.inl ?_) ?_; (focus (((try (with_reducible refine leK2_refl ?_)); simp -implicitDefEqProofs only [go_sem, vc2_blk]; repeat ((with_reducible refine leK2_refl ?_); simp -implicitDefEqProofs only [go_sem, vc2_blk])); done)); (focus (((try (with_reducible refine leK2_refl ?_)); simp -implicitDefEqProofs only [go_sem, vc2_blk]; repeat ((with_reducible refine leK2_refl ?_); simp -implicitDefEqProofs only [go_sem, vc2_blk])); done)); refine g2_ ?_)
            | (with_reducible refine leK2_refl ?_; refine g2_ ?_))
          all_goals
            refine ret_emb ?_ rfl
            exact ws_
    | false =>
      refine g2_ ?_
      cases h3 : p.ring.hp with
      | false =>
        obtain rfl : r = ⟨false, false, zDesc, p.ring.pred⟩ := by rw [← hR]; simp [h1, h2, h3]
        refine g2_ ?_
        refine CallS.eqW k5 ws_ (.inl ws_) ?_
        refine g2_ ?_
        refine CallS.eqW k6 ws_ (.inl ws_) ?_
        refine g2_ ?_
        refine CallS.eqW k7 ws_ (.inl ws_) ?_
        refine g2_ ?_
        refine .inr (.inl ⟨(.fl 0 (.fl 2 (.fl 4 (.fl 6 (.fl 8 (.fl 9 (.fl 1 (.fl 5 (.fl 7 (.eff 3 true (.eff 10 true (.eff 11 false (.fl 12 (.eff 13 false .done .no)) .no) .no) (.eff 10 true (.eff 3 true (.eff 11 false (.fl 12 (.eff 13 false .done .no)) .no) .no) .no))))))))))), by kernel_rfl, ?_⟩)
        refine g2_ ?_
        repeat' (first
          | (with_reducible refine And.intro ?_ ?_)
          | (refine CallS.eqW k8 ?_ (.inl ?_) ?_; (focus (((try (with_reducible refine leK2_refl ?_)); simp -implicitDefEqProofs only [go_sem, vc2_blk]; repeat ((with_reducible refine leK2_refl ?_); simp -implicitDefEqProofs only [go_sem, vc2_blk])); done)); (focus (((try (with_reducible refine leK2_refl ?_)); simp -implicitDefEqProofs only [go_sem, vc2_blk]; repeat ((with_reducible refine leK2_refl ?_); simp -implicitDefEqProofs only [go_sem, vc2_blk])); done)); refine g2_ ?_)
          | (refine CallS.eqW k9 ?_ (.inl ?_) ?_; (focus (((try (with_reducible refine leK2_refl ?_)); simp -implicitDefEqProofs only [go_sem, vc2_blk]; repeat ((with_reducible refine leK2_refl ?_); simp -implicitDefEqProofs only [go_sem, vc2_blk])); done)); (focus (((try (with_reducible refine leK2_refl ?_)); simp -implicitDefEqProofs only [go_sem, vc2_blk]; repeat ((with_reducible refine leK2_refl ?_); simp -implicitDefEqProofs only [go_sem, vc2_blk])); done)); refine g2_ ?_)
          | (with_reducible refine leK2_refl ?_; refine g2_ ?_))
        all_goals
          refine ret_emb ?_ rfl
          exact ws_
      | true =>
        have k4' := k4 false zDesc (Nat.zero_le _)
        rw [h3] at k4'
        refine g2_ ?_
        refine CallS.eqW k4' ws_ (.inl ws_) ?_
        refine g2_ ?_
        cases h4 : dCur p p.ring.pred with
        | true =>
          obtain rfl : r = ⟨false, true, zDesc, p.ring.pred⟩ := by rw [← hR]; simp [h1, h2, h3, h4]
          refine g2_ ?_
          refine CallS.eqW k5 ws_ (.inl ws_) ?_
          refine g2_ ?_
          refine CallS.eqW k6 ws_ (.inl ws_) ?_
          refine g2_ ?_
          refine CallS.eqW k7 ws_ (.inl ws_) ?_
          refine g2_ ?_
          refine .inr (.inl ⟨(.fl 0 (.fl 2 (.fl 4 (.fl 6 (.fl 8 (.fl 9 (.fl 1 (.fl 5 (.fl 7 (.eff 3 true (.eff 10 true (.eff 11 false (.fl 12 (.eff 13 false .done .no)) .no) .no) (.eff 10 true (.eff 3 true (.eff 11 false (.fl 12 (.eff 13 false .done .no)) .no) .no) .no))))))))))), by kernel_rfl, ?_⟩)
          refine g2_ ?_
          repeat' (first
            | (with_reducible refine And.intro ?_ ?_)
            | (refine CallS.eqW k8 ?_ (.inl ?_) ?_; (focus (((try (with_reducible refine leK2_refl ?_)); simp -implicitDefEqProofs only [go_sem, vc2_blk]; repeat ((with_reducible refine leK2_refl ?_); simp -implicitDefEqProofs only [go_sem, vc2_blk])); done)); (focus (((try (with_reducible refine leK2_refl ?_)); simp -implicitDefEqProofs only [go_sem, vc2_blk]; repeat ((with_reducible refine leK2_refl ?_); simp -implicitDefEqProofs only [go_sem, vc2_blk])); done)); refine g2_ ?_)
            | (refine CallS.eqW k9 ?_ (.inl ?_) ?_; (focus (((try (with_reducible refine leK2_refl ?_)); simp -implicitDefEqProofs only [go_sem, vc2_blk]; repeat ((with_reducible refine leK2_refl ?_); simp -implicitDefEqProofs only [go_sem, vc2_blk])); done)); (focus (((try (with_reducible refine leK2_refl ?_)); simp -implicitDefEqProofs only [go_sem, vc2_blk]; repeat ((with_reducible refine leK2_refl ?_); simp -implicitDefEqProofs only [go_sem, vc2_blk])); done)); refine g2_ ?_)
            | (with_reducible refine leK2_refl ?_; refine g2_ ?_))
          all_goals
            refine ret_emb ?_ rfl
            exact ws_
        | false =>
          obtain rfl : r = ⟨false, false, zDesc, zDesc⟩ := by rw [← hR]; simp [h1, h2, h3, h4]
          refine g2_ ?_
          refine CallS.eqW k5 ws_ (.inl ws_) ?_
          refine g2_ ?_
          refine CallS.eqW k6 ws_ (.inl ws_) ?_
          refine g2_ ?_
          refine CallS.eqW k7 ws_ (.inl ws_) ?_
          refine g2_ ?_
          refine .inr (.inl ⟨(.fl 0 (.fl 2 (.fl 4 (.fl 6 (.fl 8 (.fl 9 (.fl 1 (.fl 5 (.fl 7 (.eff 3 true (.eff 10 true (.eff 11 false (.fl 12 (.eff 13 false .done .no)) .no) .no) (.eff 10 true (.eff 3 true (.eff 11 false (.fl 12 (.eff 13 false .done .no)) .no) .no) .no))))))))))), by kernel_rfl, ?_⟩)
          refine g2_ ?_
          repeat' (first
            | (with_reducible refine And.intro ?_ ?_)
            | (refine CallS.eqW k8 ?_ (.inl ?_) ?_; (focus (((try (with_reducible refine leK2_refl ?_)); simp -implicitDefEqProofs only [go_sem, vc2_blk]; repeat ((with_reducible refine leK2_refl ?_); simp -implicitDefEqProofs only [go_sem, vc2_blk])); done)); (focus (((try (with_reducible refine leK2_refl ?_)); simp -implicitDefEqProofs only [go_sem, vc2_blk]; repeat ((with_reducible refine leK2_refl ?_); simp -implicitDefEqProofs only [go_sem, vc2_blk])); done)); refine g2_ ?_)
            | (refine CallS.eqW k9 ?_ (.inl ?_) ?_; (focus (((try (with_reducible refine leK2_refl ?_)); simp -implicitDefEqProofs only [go_sem, vc2_blk]; repeat ((with_reducible refine leK2_refl ?_); simp -implicitDefEqProofs only [go_sem, vc2_blk])); done)); (focus (((try (with_reducible refine leK2_refl ?_)); simp -implicitDefEqProofs only [go_sem, vc2_blk]; repeat ((with_reducible refine leK2_refl ?_); simp -implicitDefEqProofs only [go_sem, vc2_blk])); done)); refine g2_ ?_)
            | (with_reducible refine leK2_refl ?_; refine g2_ ?_))
          all_goals
            refine ret_emb ?_ rfl
            exact ws_
end Go.Proofs.YtlaefellhnkfbaaGreat.V

set_option maxRecDepth 10000
set_option maxHeartbeats 4000000
namespace Go.Proofs.YtlaefellhnkfbaaGreat.V
open Go.Eng
structure okH (p : GPeer) : Prop where
  g : okG p
  rs : okRs p.reports
  v8 : ok8 p.view
  vw : Vw p.node p.view
theorem okH.ok {p : GPeer} (h : okH p) : okP p := h.g.ok
theorem tHeard_len (l : List GMember) (i : UInt8) (inc : UInt16) : (tHeard l i inc).length = l.length := by simp [tHeard]
theorem okP_tab {p : GPeer} (h : okP p) {t : List GMember} {r : List (List GMark)} (ht : t.length ≤ 1000) (hr : okRs r) : okP { p with table := t, reports := r } :=
  ⟨h.filter, h.view, h.near, h.succ, h.pred, h.sent, ht, h.heard, h.rows, ⟨by have := hr.1; show r.length ≤ 1000; omega, hr.2⟩, h.evs, h.pulls⟩
theorem okG_tab {p : GPeer} (h : okG p) {t : List GMember} {r : List (List GMark)} (ht : t.length ≤ 12) (hr : okRs r) : okG { p with table := t, reports := r } :=
  ⟨okP_tab h.ok (by omega) hr, h.filter, h.view, h.near, h.succ, h.pred, ht⟩
theorem okH_tab {p : GPeer} (h : okH p) {t : List GMember} {r : List (List GMark)} (ht : t.length ≤ 12) (hr : okRs r) : okH { p with table := t, reports := r } :=
  ⟨okG_tab h.g ht hr, hr, h.v8, h.vw⟩
theorem okH_hear {c : GConf} {p : GPeer} (h : okH p) (node : UInt8) (inc : UInt16) : okH (pHear c p node inc).1 := by
  have ht := h.g.table
  unfold pHear
  split
  · exact h
  · split
    · exact h
    · split
      · exact h
      · refine okH_tab h (by rw [tHeard_len]; exact ht) ?_
        split
        · exact okRs_forget h.rs
        · exact h.rs
def hJoin (c : GConf) (p : GPeer) (m : GMsg) : GPeer × List GMsg :=
  match m.list with
  | [d] => if d.node = m.frm ∧ d.inc = m.inc ∧ dFine c d = true then ({ p with view := sAdmit p.view d p.node c.view }, [{ pMsg p 2 m.frm with list := pWith p.view (pSelf p), table := p.table }]) else (p, [])
  | _ => (p, [])
def tJoin (c : GConf) (p : GPeer) (m : GMsg) : GPeer × List GMsg :=
  let q := pHear c p m.frm m.inc
  if q.2 = true then (pMeet c (hJoin c q.1 m).1 [], (hJoin c q.1 m).2) else (q.1, [])
structure okMg (m : GMsg) : Prop where
  list : m.list.length ≤ 20
  f8 : ∀ d ∈ m.list, d.filter.length ≤ 8
  fs : ∀ d ∈ m.list, ∀ s ∈ d.filter, okS s
  table : m.table.length ≤ 20
theorem okMg.ds {m : GMsg} (h : okMg m) : okDs m.list := ⟨by have := h.list; omega, fun d hd => by have := h.f8 d hd; omega⟩
theorem okMg.fs2 {m : GMsg} (h : okMg m) : ∀ d ∈ m.list, okF d := fun d hd => ⟨by have := h.f8 d hd; omega, h.fs d hd⟩
theorem u8_eq (a b : UInt8) : ((a.toNat : Int) = (b.toNat : Int)) ↔ a = b := ⟨fun h => UInt8.toNat_inj.1 (by omega), fun h => by rw [h]⟩
theorem u16_eq (a b : UInt16) : ((a.toNat : Int) = (b.toNat : Int)) ↔ a = b := ⟨fun h => UInt16.toNat_inj.1 (by omega), fun h => by rw [h]⟩
theorem admit_mem {l : List GDesc} {x d : GDesc} {self : UInt8} {room : Int} (h : x ∈ sAdmit l d self room) : x ∈ l ∨ x = d := by
  unfold sAdmit at h
  split at h
  · exact put_mem x h
  · split at h
    · exact .inl h
    · split at h
      · exact .inl h
      · split at h
        · rcases put_mem x h with h | h
          · exact .inl (List.mem_filter.1 h).1
          · exact .inr h
        · exact .inl h
theorem admit_len {l : List GDesc} {d : GDesc} {self : UInt8} {room : Int} : (sAdmit l d self room).length ≤ l.length + 1 := by
  unfold sAdmit
  split
  · exact put_len d room
  · split
    · exact Nat.le_succ _
    · split
      · exact Nat.le_succ _
      · split
        · refine Nat.le_trans (put_len d _) ?_
          have := List.length_filter_le (fun e : GDesc => !decide (e.node = (‹GDesc›).node)) l
          exact Nat.succ_le_succ (List.length_filter_le _ _)
        · exact Nat.le_succ _
theorem okG_view {p : GPeer} (h : okG p) {v : List GDesc} (h1 : v.length ≤ 1000) (h2 : ∀ d ∈ v, okF d) : okG { p with view := v } :=
  ⟨⟨h.ok.filter, ⟨h1, fun d hd => (h2 d hd).1⟩, h.ok.near, h.ok.succ, h.ok.pred, h.ok.sent, h.ok.table, h.ok.heard, h.ok.rows, h.ok.reports, h.ok.evs, h.ok.pulls⟩, h.filter, h2, h.near, h.succ, h.pred, h.table⟩
end Go.Proofs.YtlaefellhnkfbaaGreat.V
namespace Go.Proofs.YtlaefellhnkfbaaGreat.V
open Go.Eng
attribute [local go_sem] zDesc encS encDD fzD plR rowR encK encM encRw encC encP encEv encA z8 z16 z32 z64 encMg encRing encI List.map_cons List.map_nil
theorem take_join (c : GConf) (p : GPeer) (m : GMsg) (dr : List UInt32) (hc : c.schema.length ≤ 4) (hcs : ∀ s ∈ c.schema, okS s) (hp : okH p) (hm : okMg m) (hu : p.up = true) (hto : m.to = p.node) (hk : m.kind = 1) :
    Con2 Tryz.prog 12 [.agg (encC c), .agg (encP p), .agg (encMg m), .fz 1 (dr.map enc32D)] (· = plR (.tup [.agg (encP (tJoin c p m).1), .fz 17 ((tJoin c p m).2.map encMg)])) := by
  refine Con2.ofEmb ?_
  have hf := pfresh_con p hp.ok
  have hh := phear_con c p m.frm m.inc hp.ok hp.rs
  have hq := okH_hear (c := c) hp m.frm m.inc
  unfold tJoin
  generalize pHear c p m.frm m.inc = Q at hh hq
  obtain ⟨q, hd⟩ := Q
  simp only at hq hh ⊢
  refine con2_of Ty.mixed Tryz.func12 rfl (by kernel_rfl) (by kernel_rfl) rfl [.cell 8 49, .tmp 9] rfl ?_
  refine g2_ ?_
  refine g2_ ?_
  refine CallS.eqW hf ws_ (.inl ws_) ?_
  refine g2_ ?_
  rw [hu, hto]
  repeat first | simp -implicitDefEqProofs only [go_sem, vc2_blk, bne_self_eq_false] | with_reducible first | refine gl_ ?_ | refine ga_ ?_ | refine gn_ ?_
  refine CallS.eqW hh (by simp -implicitDefEqProofs only [go_sem, vc2_blk, hu, hto]) (.inl ws_) ?_
  refine g2_ ?_
  cases hd with
  | false =>
    refine g2_ ?_
    refine ret_emb ?_ rfl
    repeat first | simp -implicitDefEqProofs only [go_sem, vc2_blk, Bool.false_eq_true, if_false] | with_reducible refine gl_ ?_
  | true =>
    refine g2_ ?_
    refine .inl ⟨[(1, false), (2, false), (0, true), (3, false), (4, false), (5, false), (6, false), (7, false), (8, false)], by kernel_rfl, ?_⟩
    refine g2_ ?_
    refine CallS.eqW kinds_con ws_ (.inl ws_) ?_
    refine g2_ ?_
    refine ⟨mapFn108, m.kind, rfl, ?_⟩
    rw [show lkF kindsT m.kind = some 100 by rw [hk]; rfl]
    refine g2_ ?_
    have kq := pmeet_con c q [] hc hcs hq.g ⟨by simp, by simp⟩ (by simp)
    have hfin := fineF_con c m.list (by omega) hm.ds
    have hmf := hm.f8
    have hmi := hm.fs
    cases hml : m.list with
    | nil =>
      rw [show hJoin c q m = (q, []) by rw [hJoin, hml]]
      refine CallS.inline Ty.mixed Tryz.func100 rfl (by kernel_rfl) (by kernel_rfl) rfl [] rfl (Vc2.of ?_)
      refine g2_ ?_
      refine g2_ ?_
      refine .inl ⟨[(0, false), (1, false), (2, false), (3, false), (4, false), (8, false), (5, false), (9, false), (6, false), (10, false), (7, false), (11, false), (12, false), (13, false), (14, false), (15, false), (16, false), (20, false), (17, false), (21, false), (18, false), (22, false), (19, false), (23, false), (24, false), (25, false), (26, false)], by kernel_rfl, ?_⟩
      repeat first | simp -implicitDefEqProofs only [go_sem, vc2_blk, List.length_nil, c00] | with_reducible first | refine gl_ ?_ | refine ga_ ?_ | refine gn_ ?_
      refine .inl ⟨[(0, false), (1, false), (2, false), (3, false), (4, false), (5, false), (6, false), (7, false), (8, false), (9, false)], by kernel_rfl, ?_⟩
      refine g2_ ?_
      refine CallS.eqW kq ws_ (.inl ws_) ?_
      refine g2_ ?_
      refine .inr (.inr (.inl ⟨[(0, false), (4, false), (1, false), (5, false), (2, false), (6, false), (3, false), (7, false), (8, true), (9, false)], [8], by kernel_rfl, ?_⟩))
      refine g2_ ?_
      refine ret_emb ?_ rfl
      repeat first | simp -implicitDefEqProofs only [go_sem, vc2_blk, if_true] | with_reducible refine gl_ ?_
    | cons d r =>
      cases r with
      | cons e r =>
        have hlen : ((r.length + 1 + 1 : Nat) : Int) ≠ 1 := by omega
        rw [show hJoin c q m = (q, []) by rw [hJoin, hml]]
        refine CallS.inline Ty.mixed Tryz.func100 rfl (by kernel_rfl) (by kernel_rfl) rfl [] rfl (Vc2.of ?_)
        refine g2_ ?_
        refine g2_ ?_
        refine .inl ⟨[(0, false), (1, false), (2, false), (3, false), (4, false), (8, false), (5, false), (9, false), (6, false), (10, false), (7, false), (11, false), (12, false), (13, false), (14, false), (15, false), (16, false), (20, false), (17, false), (21, false), (18, false), (22, false), (19, false), (23, false), (24, false), (25, false), (26, false)], by kernel_rfl, ?_⟩
        repeat first | simp -implicitDefEqProofs only [go_sem, vc2_blk, List.length_cons] | with_reducible first | refine gl_ ?_ | refine ga_ ?_ | refine gn_ ?_
        rw [show (((r.length + 1 + 1 : Nat) : Int) != 1) = true from bne_iff_ne.2 hlen]
        refine g2_ ?_
        refine .inl ⟨[(0, false), (1, false), (2, false), (3, false), (4, false), (5, false), (6, false), (7, false), (8, false), (9, false)], by kernel_rfl, ?_⟩
        refine g2_ ?_
        refine CallS.eqW kq ws_ (.inl ws_) ?_
        refine g2_ ?_
        refine .inr (.inr (.inl ⟨[(0, false), (4, false), (1, false), (5, false), (2, false), (6, false), (3, false), (7, false), (8, true), (9, false)], [8], by kernel_rfl, ?_⟩))
        refine g2_ ?_
        refine ret_emb ?_ rfl
        repeat first | simp -implicitDefEqProofs only [go_sem, vc2_blk, if_true] | with_reducible refine gl_ ?_
      | nil =>
        rw [hml] at hfin hmf hmi
        have hd8 := hmf d (by simp)
        have hdi := hmi d (by simp)
        refine CallS.inline Ty.mixed Tryz.func100 rfl (by kernel_rfl) (by kernel_rfl) rfl [] rfl (Vc2.of ?_)
        refine g2_ ?_
        refine g2_ ?_
        refine .inl ⟨[(0, false), (1, false), (2, false), (3, false), (4, false), (8, false), (5, false), (9, false), (6, false), (10, false), (7, false), (11, false), (12, false), (13, false), (14, false), (15, false), (16, false), (20, false), (17, false), (21, false), (18, false), (22, false), (19, false), (23, false), (24, false), (25, false), (26, false)], by kernel_rfl, ?_⟩
        repeat first | simp -implicitDefEqProofs only [go_sem, vc2_blk, List.length_cons, List.length_nil] | with_reducible first | refine gl_ ?_ | refine ga_ ?_ | refine gn_ ?_
        rw [show (((0 + 1 : Nat) : Int) != 1) = false from rfl]
        refine g2_ ?_
        by_cases e1 : d.node = m.frm
        · rw [show ((d.node.toNat : Int) != (m.frm.toNat : Int)) = false by rw [e1]; exact bne_self_eq_false _]
          refine g2_ ?_
          by_cases e2 : d.inc = m.inc
          · rw [show ((d.inc.toNat : Int) != (m.inc.toNat : Int)) = false by rw [e2]; exact bne_self_eq_false _]
            refine g2_ ?_
            refine CallS.eqW hfin ws_ (.inl ws_) ?_
            cases e3 : dFine c d with
            | true =>
              have ef : pFine c [d] = [d] := by simp [pFine, e3]
              rw [ef]
              have hj : hJoin c q m = ({ q with view := sAdmit q.view d q.node c.view }, [{ pMsg q 2 m.frm with list := pWith q.view (pSelf q), table := q.table }]) := by simp [hJoin, hml, e1, e2, e3]
              rw [hj]
              have ks := pself_con q hq.g.ok
              have kw := pwith_con q.view (pSelf q) hq.g.ok.view hq.g.ok.filter
              have km := pmsg_con q 2 m.frm
              have hwl : okDs (pWith q.view (pSelf q)) := by
                refine ⟨?_, fun x hx => ?_⟩
                · have h1 := hq.v8.1
                  simp only [pWith, List.length_append, List.length_cons, List.length_take, List.length_drop]; omega
                · simp only [pWith, List.mem_append, List.mem_cons] at hx
                  rcases hx with h | h | h
                  · exact hq.g.ok.view.2 x (List.mem_of_mem_take h)
                  · rw [h]; exact hq.g.ok.filter
                  · exact hq.g.ok.view.2 x (List.mem_of_mem_drop h)
              have kc := copyF_con (pWith q.view (pSelf q)) hwl
              have kt := cloneM_con (q.table.map encM) (by have := hq.g.table; rw [List.length_map]; omega)
              have ka := sadmit2 q.view d q.node c.view hq.v8 hd8 hq.vw
              have kq' := pmeet_con c { q with view := sAdmit q.view d q.node c.view } [] hc hcs (okG_view hq.g (Nat.le_trans admit_len (by have := hq.v8.1; omega)) (fun x hx => by
                rcases admit_mem hx with h | h
                · exact hq.g.view x h
                · rw [h]; exact ⟨by omega, hdi⟩)) ⟨by simp, by simp⟩ (by simp)
              clear kq
              have kq := kq'
              clear kq'
              generalize sAdmit q.view d q.node c.view = V at ka kq ⊢
              generalize pWith q.view (pSelf q) = Wl at kw kc ⊢
              generalize pSelf q = S at ks kw
              generalize hM : pMsg q 2 m.frm = M at km ⊢
              repeat first | simp -implicitDefEqProofs only [go_sem, vc2_blk, List.length_cons, List.length_nil] | with_reducible first | refine gl_ ?_ | refine ga_ ?_ | refine gn_ ?_
              rw [show (((1 : Nat) : Int) == 0) = false from rfl]
              refine g2_ ?_
              refine .inl ⟨[(0, false), (1, false), (6, false), (11, false), (17, false), (2, false), (7, false), (12, false), (18, false), (3, false), (8, false), (13, false), (19, false), (4, false), (9, false), (14, false), (20, false), (5, false), (10, false), (21, false), (15, true), (16, true), (22, false)], by kernel_rfl, ?_⟩
              refine g2_ ?_
              refine CallS.eqW ks ws_ (.inl ws_) ?_
              refine g2_ ?_
              refine CallS.eqW kw ws_ (.inl ws_) ?_
              refine g2_ ?_
              refine CallS.inline Ty.mixed Tryz.func63 rfl (by kernel_rfl) (by kernel_rfl) rfl [] rfl (Vc2.of ?_)
              refine g2_ ?_
              refine g2_ ?_
              refine CallS.eqW km ws_ (.inl ws_) ?_
              refine g2_ ?_
              refine CallS.eqW kc ws_ (.inl ws_) ?_
              refine g2_ ?_
              refine CallS.eqW kt ws_ (.inl ws_) ?_
              refine g2_ ?_
              refine .inl ⟨[(0, false), (1, false), (5, false), (2, false), (3, false), (4, false), (6, true), (7, false), (8, false), (9, false), (10, false)], by kernel_rfl, ?_⟩
              refine g2_ ?_
              refine .inl ⟨[(0, false), (1, false), (6, false), (9, false), (14, false), (2, false), (7, false), (10, false), (15, false), (3, false), (8, false), (11, false), (16, false), (4, false), (12, false), (17, false), (5, false), (13, false), (18, false), (19, false), (20, false), (21, false), (22, false), (23, false)], by kernel_rfl, ?_⟩
              refine g2_ ?_
              refine CallS.eqW ka ws_ (.inl ws_) ?_
              refine g2_ ?_
              refine .inl ⟨[(0, false), (1, false), (2, false), (3, false), (4, false), (5, false), (6, false), (7, false), (8, false), (9, false)], by kernel_rfl, ?_⟩
              refine g2_ ?_
              refine CallS.eqW kq ws_ (.inl ws_) ?_
              refine g2_ ?_
              refine .inr (.inr (.inl ⟨[(0, false), (4, false), (1, false), (5, false), (2, false), (6, false), (3, false), (7, false), (8, true), (9, false)], [8], by kernel_rfl, ?_⟩))
              refine g2_ ?_
              refine ret_emb ?_ rfl
              repeat first | simp -implicitDefEqProofs only [go_sem, vc2_blk, if_true] | with_reducible refine gl_ ?_
            | false =>
              have ef : pFine c [d] = [] := by simp [pFine, e3]
              have hj : hJoin c q m = (q, []) := by simp [hJoin, hml, e3]
              rw [ef, hj]
              repeat first | simp -implicitDefEqProofs only [go_sem, vc2_blk, List.length_nil, c00] | with_reducible first | refine gl_ ?_ | refine ga_ ?_ | refine gn_ ?_
              refine .inl ⟨[(0, false), (1, false), (2, false), (3, false), (4, false), (5, false), (6, false), (7, false), (8, false), (9, false)], by kernel_rfl, ?_⟩
              refine g2_ ?_
              refine CallS.eqW kq ws_ (.inl ws_) ?_
              refine g2_ ?_
              refine .inr (.inr (.inl ⟨[(0, false), (4, false), (1, false), (5, false), (2, false), (6, false), (3, false), (7, false), (8, true), (9, false)], [8], by kernel_rfl, ?_⟩))
              refine g2_ ?_
              refine ret_emb ?_ rfl
              repeat first | simp -implicitDefEqProofs only [go_sem, vc2_blk, if_true] | with_reducible refine gl_ ?_
          · have hj : hJoin c q m = (q, []) := by simp [hJoin, hml, e2]
            rw [hj, show ((d.inc.toNat : Int) != (m.inc.toNat : Int)) = true from bne_iff_ne.2 (fun h => e2 ((u16_eq _ _).1 h))]
            refine g2_ ?_
            refine .inl ⟨[(0, false), (1, false), (2, false), (3, false), (4, false), (5, false), (6, false), (7, false), (8, false), (9, false)], by kernel_rfl, ?_⟩
            refine g2_ ?_
            refine CallS.eqW kq ws_ (.inl ws_) ?_
            refine g2_ ?_
            refine .inr (.inr (.inl ⟨[(0, false), (4, false), (1, false), (5, false), (2, false), (6, false), (3, false), (7, false), (8, true), (9, false)], [8], by kernel_rfl, ?_⟩))
            refine g2_ ?_
            refine ret_emb ?_ rfl
            repeat first | simp -implicitDefEqProofs only [go_sem, vc2_blk, if_true] | with_reducible refine gl_ ?_
        · have hj : hJoin c q m = (q, []) := by simp [hJoin, hml, e1]
          rw [hj, show ((d.node.toNat : Int) != (m.frm.toNat : Int)) = true from bne_iff_ne.2 (fun h => e1 ((u8_eq _ _).1 h))]
          refine g2_ ?_
          refine .inl ⟨[(0, false), (1, false), (2, false), (3, false), (4, false), (5, false), (6, false), (7, false), (8, false), (9, false)], by kernel_rfl, ?_⟩
          refine g2_ ?_
          refine CallS.eqW kq ws_ (.inl ws_) ?_
          refine g2_ ?_
          refine .inr (.inr (.inl ⟨[(0, false), (4, false), (1, false), (5, false), (2, false), (6, false), (3, false), (7, false), (8, true), (9, false)], [8], by kernel_rfl, ?_⟩))
          refine g2_ ?_
          refine ret_emb ?_ rfl
          repeat first | simp -implicitDefEqProofs only [go_sem, vc2_blk, if_true] | with_reducible refine gl_ ?_
end Go.Proofs.YtlaefellhnkfbaaGreat.V
