/-
  Part 10 of the proof of Pl: the engine and the walks, in their order.
-/
import Derived.Test.YtlaefellhnkfbaaGreatPl5
import Derived.Test.YtlaefellhnkfbaaGreatPl6
import Derived.Test.YtlaefellhnkfbaaGreatPl7
import Derived.Test.YtlaefellhnkfbaaGreatPl9
set_option linter.unusedSimpArgs false
set_option linter.unusedVariables false
set_option maxRecDepth 10000
namespace Go.Proofs.YtlaefellhnkfbaaGreat.V
open Go.Eng
attribute [local go_sem] GSpan.val GSpan.enc
abbrev PPr : Type := GSpan × GSpan
def encPr (x : PPr) : List Value := [x.1.val, x.2.val]
attribute [local go_sem] encPr
theorem take1 (a b : Value) : ([a, b].drop 0).take 2 = [a, b] := rfl
theorem head1 (a : Value) : ([a].drop 0).headD undef = a := rfl
attribute [local go_sem] take1 head1
section
variable {P : Program} {x : Bool} {u0 : World} {args : List Operand} {d : Option Tmp} {K : S → World → Prop} {s : S} {u : World} {l : Nat} {vs : List Value}
theorem CalK_yield : CalK P x u0 args d K s u (.v (.func (.yield l) #[] #[])) = pubs u0 args s u (CallVK x P u0 (.func (.yield l) #[] #[]) K d) := rfl
theorem CallVK_yield : CallVK x P u0 (.func (.yield l) #[] #[]) K d vs s u = AtYield x P l vs u0 u (PutE s d K) := by
  refine propext ⟨fun ⟨l', e, h⟩ => ?_, fun h => ⟨l, rfl, h⟩⟩
  cases e
  exact h
end
attribute [local go_sem] CalK_yield CallVK_yield
theorem pairs1_it {ub : World} {b1 b2 c1 c2 : Nat} {p1 p2 : Option Addr} {l1 l2 : List GSpan} (h1 : CellsAt ub ⟨b1, 0, none⟩ [.slice p1 l1.length c1]) (h2 : CellsAt ub ⟨b2, 0, none⟩ [.slice p2 l2.length c2])
    (s1 : Sl ub 2 p1 l1.length c1 (l1.map GSpan.enc)) (s2 : Sl ub 2 p2 l2.length c2 (l2.map GSpan.enc)) (hn1 : l1.length ≤ 1000000000) (hn2 : l2.length ≤ 1000000000) :
    IterC Tryz.prog 206 [.pointer (some ⟨b1, 0, none⟩), .pointer (some ⟨b2, 0, none⟩)] encPr (· = l1.zip l2) (· <+: l1.zip l2) ub := by
  refine ⟨by kernel_rfl, fun l I Ix u0 u hub hy h0 => ?_⟩
  refine call_of_vc Ty.mixed Tryz.func206 rfl (by kernel_rfl) (by kernel_rfl) rfl [] rfl ?_
  have hS := hub _ _ h0
  refine vs_ ?_
  refine ⟨_, h1.mono hS, rfl, .inl rfl, ?_⟩
  refine vs_ ?_
  refine ⟨_, h2.mono hS, rfl, .inl rfl, ?_⟩
  refine vs_ ?_
  obtain ⟨m, hm⟩ : ∃ m, m = (l1.zip l2).length := ⟨_, rfl⟩
  have hmm : m = min l1.length l2.length := by rw [hm, List.length_zip]
  rw [show (if (l2.length : Int) < (l1.length : Int) then (l2.length : Int) else (l1.length : Int)) = (m : Int) by split <;> omega]
  refine vc_range (γ := Unit) m (fun _ => []) (fun _ => []) (fun k _ u' => I ((l1.zip l2).take k) u') () (le_chk (by simp only [go_sem, vc_block_seq, vc_block_region, vc_block_cond, vc_block_block, Nat.reduceBEq, Nat.reduceAdd, Nat.reduceLeDiff, Nat.reduceEqDiff, Int.reduceAdd, Int.reduceBEq, Int.reduceBNe, reduceCtorEq, beq_self_eq_true, Bool.true_beq, Bool.false_beq])) h0 (fun _ _ => rfl) (by omega) (fun _ => rfl) ?_ ?_
  · intro k _ u' hk hI
    have hS2 := hub _ _ hI
    have hk1 : k < l1.length := by omega
    have hk2 : k < l2.length := by omega
    have e1 : l1[k]? = some l1[k] := List.getElem?_eq_getElem hk1
    have e2 : l2[k]? = some l2[k] := List.getElem?_eq_getElem hk2
    have e3 : (l1.zip l2).take (k + 1) = (l1.zip l2).take k ++ [(l1[k], l2[k])] := by
      rw [List.take_add_one, List.getElem?_eq_getElem (by omega), List.getElem_zip]; rfl
    generalize l1[k] = x1 at e1 e3
    generalize l2[k] = x2 at e2 e3
    refine vs_ ?_
    refine .inl ⟨[(0, false), (1, false), (2, false), (5, false), (6, false), (3, false), (7, false), (4, false), (8, false), (9, false), (10, false)], by kernel_rfl, ?_⟩
    refine vs_ ?_
    refine ⟨_, h1.mono hS2, rfl, .inl rfl, ?_⟩
    refine vs_ ?_
    refine ⟨_, h2.mono hS2, rfl, .inl rfl, ?_⟩
    refine vs_ ?_
    refine ⟨⟨s1.some_ hk1, by omega, by omega⟩, ?_⟩
    refine ⟨⟨s2.some_ hk2, by omega, by omega⟩, ?_⟩
    refine (s1.mono hS2).load (getMap e1) (.inr rfl) (Nat.le_of_ble_eq_true rfl) ?_
    refine vs_ ?_
    refine (s2.mono hS2).load (getMap e2) (.inr rfl) (Nat.le_of_ble_eq_true rfl) ?_
    refine vs_ ?_
    have hsp : (l1.zip l2).take k ++ [(x1, x2)] <+: l1.zip l2 := by rw [← e3]; exact List.take_prefix _ _
    have hyk := hy _ _ _ hI hsp
    refine AtYield.mono ?_ hyk
    rintro r v' (⟨rfl, hI'⟩ | ⟨rfl, hI'⟩)
    · refine vs_ ?_
      refine ⟨(), le_chk (by simp only [go_sem, vc_block_seq, vc_block_region, vc_block_cond, vc_block_block, Nat.reduceBEq, Nat.reduceAdd, Nat.reduceLeDiff, Nat.reduceEqDiff, Int.reduceAdd, Int.reduceBEq, Int.reduceBNe, reduceCtorEq, beq_self_eq_true, Bool.true_beq, Bool.false_beq]), ?_⟩
      rw [e3]; exact hI'
    · refine vs_ ?_
      exact .inr ⟨_, hsp, hI'⟩
  · intro _ u' hI
    refine vs_ ?_
    refine .inl ⟨_, rfl, ?_⟩
    rw [← List.take_of_length_le (l := l1.zip l2) (i := m) (by omega)]
    exact hI
end Go.Proofs.YtlaefellhnkfbaaGreat.V
