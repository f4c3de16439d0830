/-
 Part 10 of the proof of Pj: the engine and the walks, in their order.
-/
import Derived.Test.YtlaefellhnkfbaaGreatPj5
import Derived.Test.YtlaefellhnkfbaaGreatPj6
import Derived.Test.YtlaefellhnkfbaaGreatPj7
import Derived.Test.YtlaefellhnkfbaaGreatPj9
set_option linter.unusedSimpArgs false
set_option linter.unusedVariables false
set_option maxRecDepth 10000
namespace Go.Proofs.YtlaefellhnkfbaaGreat.V
open Go.Eng
attribute [local go_sem] GSpan.val GSpan.enc
abbrev PPr : Type := GSpan × GSpan
def adP (x : PPr) : List Value := [x.1.val, x.2.val]
attribute [local go_sem] adP
theorem ajP (a b : Value) : ([a, b].drop 0).take 2 = [a, b] := rfl
theorem ajB (a : Value) : ([a].drop 0).headD undef = a := rfl
attribute [local go_sem] ajP ajB
section
variable {P : Program} {x : Bool} {u0 : World} {args : List Operand} {d : Option Tmp} {K : S → World → Prop} {s : S} {u : World} {l : Nat} {vs : List Value}
theorem yF : ajm P x u0 args d K s u (.v (.func (.yield l) #[] #[])) = fb u0 args s u (p9 x P u0 (.func (.yield l) #[] #[]) K d) := rfl
theorem sD : p9 x P u0 (.func (.yield l) #[] #[]) K d vs s u = AtYield x P l vs u0 u (d5 s d K) := by
 refine propext ⟨fun ⟨l', e, h⟩ => ?_, fun h => ⟨l, rfl, h⟩⟩
 cases e
 exact h
end
attribute [local go_sem] yF sD
theorem sd {ub : World} {b1 b2 c1 c2 : Nat} {p1 p2 : Option Addr} {l1 l2 : List GSpan} (h1 : CellsAt ub ⟨b1, 0, none⟩ [.slice p1 l1.length c1]) (h2 : CellsAt ub ⟨b2, 0, none⟩ [.slice p2 l2.length c2])
  (s1 : Sl ub 2 p1 l1.length c1 (l1.map GSpan.enc)) (s2 : Sl ub 2 p2 l2.length c2 (l2.map GSpan.enc)) (hn1 : l1.length ≤ 1000000000) (hn2 : l2.length ≤ 1000000000) :
  ajE Tryz.prog 206 [.pointer (some ⟨b1, 0, none⟩), .pointer (some ⟨b2, 0, none⟩)] adP (· = l1.zip l2) (· <+: l1.zip l2) ub := by
 refine ⟨by kernel_rfl, fun l I Ix u0 u hub hy h0 => ?_⟩
 refine gj Ty.mixed Tryz.func206 rfl (by kernel_rfl) (by kernel_rfl) rfl [] rfl ?_
 have hS := hub _ _ h0
 refine vs_ ?_
 refine ⟨_, h1.mono hS, rfl, .inl rfl, ?_⟩
 refine vs_ ?_
 refine ⟨_, h2.mono hS, rfl, .inl rfl, ?_⟩
 refine vs_ ?_
 obtain ⟨m, hm⟩ : ∃ m, m = (l1.zip l2).length := ⟨_, rfl⟩
 have hmm : m = min l1.length l2.length := by rw [hm, List.length_zip]
 rw [show (if (l2.length : Int) < (l1.length : Int) then (l2.length : Int) else (l1.length : Int)) = (m : Int) by split <;> omega]
 refine afx (γ := Unit) m (fun _ => []) (fun _ => []) (fun k _ u' => I ((l1.zip l2).take k) u') () (kX (by simp only [go_sem, ch, br, bT, bC, Nat.reduceBEq, Nat.reduceAdd, Nat.reduceLeDiff, Nat.reduceEqDiff, Int.reduceAdd, Int.reduceBEq, Int.reduceBNe, reduceCtorEq, beq_self_eq_true, Bool.true_beq, Bool.false_beq])) h0 (fun _ _ => rfl) (by omega) (fun _ => rfl) ?_ ?_
 ·intro k _ u' hk hI
  have hS2 := hub _ _ hI
  have hk1 : k < l1.length := by omega
  have hk2 : k < l2.length := by omega
  have e1 : l1[k]? = some l1[k] := List.getElem?_eq_getElem hk1
  have e2 : l2[k]? = some l2[k] := List.getElem?_eq_getElem hk2
  have e3 : (l1.zip l2).take (k + 1) = (l1.zip l2).take k ++ [(l1[k], l2[k])] := by
   rw [List.take_add_one, List.getElem?_eq_getElem (by omega), List.getElem_zip]; rfl
  generalize l1[k] = x1 at e1 e3
  generalize l2[k] = x2 at e2 e3
  refine vs_ ?_
  refine .inl ⟨oF [0, 1, 2, 5, 6, 3, 7, 4, 8, 9, 10] [], by kernel_rfl, ?_⟩
  refine vs_ ?_
  refine ⟨_, h1.mono hS2, rfl, .inl rfl, ?_⟩
  refine vs_ ?_
  refine ⟨_, h2.mono hS2, rfl, .inl rfl, ?_⟩
  refine vs_ ?_
  refine ⟨⟨s1.some_ hk1, by omega, by omega⟩, ?_⟩
  refine ⟨⟨s2.some_ hk2, by omega, by omega⟩, ?_⟩
  refine (s1.mono hS2).load (aeo e1) (.inr rfl) (Nat.le_of_ble_eq_true rfl) ?_
  refine vs_ ?_
  refine (s2.mono hS2).load (aeo e2) (.inr rfl) (Nat.le_of_ble_eq_true rfl) ?_
  refine vs_ ?_
  have hsp : (l1.zip l2).take k ++ [(x1, x2)] <+: l1.zip l2 := by rw [← e3]; exact List.take_prefix _ _
  have hyk := hy _ _ _ hI hsp
  refine AtYield.mono ?_ hyk
  rintro r v' (⟨rfl, hI'⟩ | ⟨rfl, hI'⟩)
  ·refine vs_ ?_
   refine ⟨(), kX (by simp only [go_sem, ch, br, bT, bC, Nat.reduceBEq, Nat.reduceAdd, Nat.reduceLeDiff, Nat.reduceEqDiff, Int.reduceAdd, Int.reduceBEq, Int.reduceBNe, reduceCtorEq, beq_self_eq_true, Bool.true_beq, Bool.false_beq]), ?_⟩
   rw [e3]; exact hI'
  ·refine vs_ ?_
   exact .inr ⟨_, hsp, hI'⟩
 ·intro _ u' hI
  refine vs_ ?_
  refine .inl ⟨_, rfl, ?_⟩
  rw [← List.take_of_length_le (l := l1.zip l2) (i := m) (by omega)]
  exact hI
end Go.Proofs.YtlaefellhnkfbaaGreat.V
