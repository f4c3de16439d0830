/-
  Engine, part K: stores through pointers and into elements.
-/
import Derived.Test.YtcaobkpfafcnjaaEj
set_option linter.unusedSimpArgs false
set_option linter.unusedVariables false
namespace Go.Eng

/-- A store through a pointer into a block of the call's own. -/
theorem do_store {P : Program} {T n b off : Nat} {ag : Bool} (hl : lay P T = some (ag, n)) {u0 u : World} {cs : List Value} {T' : TypeId} {a : Value} (hg : u.heap[b]? = some (.cells cs.toArray T' (0, 0))) (hf : Fresh u0 b)
    (hn : a.cells.toList.length = n) (hfit : off + n ≤ cs.length) (h1 : allOne a.cells.toList = true) {K : World → Prop}
    (hK : ∀ u', u'.heap[b]? = some (.cells (splice cs off a.cells.toList).toArray T' (0, 0)) → SubX (some ⟨b, 0, none⟩) u u' → K u') : AtDo false P (iStore T (.pointer (some ⟨b, off, none⟩)) a) u0 u K := by
  unfold iStore
  intro w hu h0
  have hgw := hu b _ hg cells_ne_junk
  have hst := run_storeCells_at P b off T' a.cells.toList 0 cs.toArray w hgw (by simp only [Nat.add_zero, List.size_toArray]; rw [hn]; exact hfit) (allOne_mem h1)
  simp only [Nat.add_zero] at hst
  have hsz := (run_lay hl w).2
  have hc : a.cells.size = n := by simpa using hn
  refine ⟨_, _, ?_, step_set (cs := (splice cs off a.cells.toList).toArray) hu hg hf, hK _ (learn_at _ _ _) (learn_subX rfl)⟩
  simp [Instr.storeAt, Instr.sureAddr, storeVar, hsz, hc, hst, splice]

theorem flatten_set {sz : Nat} : ∀ (xs : List (List Value)) (i : Nat) (x y : List Value), (∀ z ∈ xs, z.length = sz) → xs[i]? = some x → y.length = sz →
    (xs.set i y).flatten = xs.flatten.take (i * sz) ++ y ++ xs.flatten.drop (i * sz + sz) := by
  intro xs
  induction xs with
  | nil => intro i x y _ h; simp at h
  | cons z r ih =>
    intro i x y hl hx hy
    have hz := hl z List.mem_cons_self
    cases i with
    | zero =>
      simp only [List.set_cons_zero, List.flatten_cons, Nat.zero_mul, List.take_zero, List.nil_append, Nat.zero_add]
      congr 1
      exact (List.drop_left' hz).symm
    | succ i =>
      simp only [List.set_cons_succ, List.flatten_cons]
      rw [ih i x y (fun w hw => hl w (List.mem_cons_of_mem _ hw)) (by simpa using hx) hy]
      have e1 : (i + 1) * sz = sz + i * sz := by rw [Nat.add_mul]; omega
      rw [e1, List.take_append, List.drop_append, hz]
      rw [List.take_of_length_le (l := z) (by omega), List.drop_eq_nil_of_le (as := z) (by omega)]
      rw [show sz + i * sz - sz = i * sz from by omega, show sz + i * sz + sz - sz = i * sz + sz from by omega]
      simp

theorem splice_take {L vs : List Value} {A off m sz N : Nat} (hA : A + sz ≤ N) (hoff : off + m ≤ sz) (hm : vs.length = m) (hN : N ≤ L.length) :
    (splice L (A + off) vs).take N = (L.take N).take A ++ splice ((L.drop A).take sz) off vs ++ (L.take N).drop (A + sz) := by
  obtain ⟨a, b, c, d, r, rfl, ha, hb, hc, hd⟩ : ∃ a b c d r : List Value, L = a ++ (b ++ (c ++ (d ++ r))) ∧ a.length = A ∧ b.length = off ∧ c.length = m ∧ d.length = sz - off - m := by
    refine ⟨L.take A, (L.drop A).take off, (L.drop (A + off)).take m, (L.drop (A + off + m)).take (sz - off - m), L.drop (A + off + m + (sz - off - m)), ?_, ?_, ?_, ?_, ?_⟩
    · have e1 : (L.drop (A + off + m)).take (sz - off - m) ++ L.drop (A + off + m + (sz - off - m)) = L.drop (A + off + m) := by
        have := List.take_append_drop (sz - off - m) (L.drop (A + off + m)); rwa [List.drop_drop] at this
      have e2 : (L.drop (A + off)).take m ++ L.drop (A + off + m) = L.drop (A + off) := by have := List.take_append_drop m (L.drop (A + off)); rwa [List.drop_drop] at this
      have e3 : (L.drop A).take off ++ L.drop (A + off) = L.drop A := by have := List.take_append_drop off (L.drop A); rwa [List.drop_drop] at this
      rw [e1, e2, e3, List.take_append_drop]
    all_goals (simp; omega)
  subst ha hb hc
  have hdl : b.length + c.length + d.length = sz := by omega
  obtain ⟨k, rfl⟩ : ∃ k, N = a.length + sz + k := ⟨N - (a.length + sz), by omega⟩
  subst hdl
  have t1 : splice (a ++ (b ++ (c ++ (d ++ r)))) (a.length + b.length) vs = a ++ (b ++ (vs ++ (d ++ r))) := by
    unfold splice
    rw [show a ++ (b ++ (c ++ (d ++ r))) = (a ++ b) ++ (c ++ (d ++ r)) from by simp, List.take_left' (by simp),
      show (a ++ b) ++ (c ++ (d ++ r)) = (a ++ b ++ c) ++ (d ++ r) from by simp, List.drop_left' (by simp [hm]; omega)]
    simp
  have t2 : (a ++ (b ++ (c ++ (d ++ r)))).drop a.length = b ++ (c ++ (d ++ r)) := List.drop_left' rfl
  have t3 : (b ++ (c ++ (d ++ r))).take (b.length + c.length + d.length) = b ++ (c ++ d) := by
    rw [show b ++ (c ++ (d ++ r)) = (b ++ (c ++ d)) ++ r from by simp]; exact List.take_left' (by simp; omega)
  have t4 : splice (b ++ (c ++ d)) b.length vs = b ++ (vs ++ d) := by
    unfold splice
    rw [List.take_left' rfl, show b ++ (c ++ d) = (b ++ c) ++ d from by simp, List.drop_left' (by simp [hm])]
    simp
  have t5 : (a ++ (b ++ (c ++ (d ++ r)))).take (a.length + (b.length + c.length + d.length) + k) = (a ++ (b ++ (c ++ d))) ++ r.take k := by
    rw [show a ++ (b ++ (c ++ (d ++ r))) = (a ++ (b ++ (c ++ d))) ++ r from by simp, List.take_append, List.take_of_length_le (by simp; omega)]
    congr 2
    simp; omega
  have t6 : (a ++ (b ++ (vs ++ (d ++ r)))).take (a.length + (b.length + c.length + d.length) + k) = (a ++ (b ++ (vs ++ d))) ++ r.take k := by
    rw [show a ++ (b ++ (vs ++ (d ++ r))) = (a ++ (b ++ (vs ++ d))) ++ r from by simp, List.take_append, List.take_of_length_le (by simp; omega)]
    congr 2
    simp; omega
  rw [t1, t6, t2, t3, t4, t5]
  rw [show (a ++ (b ++ (c ++ d)) ++ r.take k).take a.length = a from by rw [List.append_assoc]; exact List.take_left' rfl,
    show (a ++ (b ++ (c ++ d)) ++ r.take k).drop (a.length + (b.length + c.length + d.length)) = r.take k from List.drop_left' (by simp; omega)]
  try simp

/-- A store into an element of a slice of the call's own. -/
theorem own_store {P : Program} {T m e sz : Nat} {ag : Bool} (hl : lay P T = some (ag, m)) {u0 u : World} {p : Option Addr} {n c i off : Nat} {xs : List (List Value)} {x : List Value} {a : Value} (ho : Own u0 u e sz p n c xs)
    (hx : xs[i]? = some x) (hn : a.cells.toList.length = m) (hfit : off + m ≤ sz) (h1 : allOne a.cells.toList = true) {K : World → Prop}
    (hK : ∀ u', Own u0 u' e sz p n c (xs.set i (splice x off a.cells.toList)) → SubX p u u' → K u') : AtSto false P u0 T (.slice p n c) sz i off a u K := by
  have hlt : i < xs.length := by rcases Nat.lt_or_ge i xs.length with h | h; exact h; simp [List.getElem?_eq_none h] at hx
  have hxl := ho.each x (List.mem_of_getElem? hx)
  have hlen := ho.len
  rcases ho.at_ with ⟨_, h, _⟩ | ⟨g, cur, rfl, hg, k1, k2, k3, k4, k5⟩
  · omega
  have had : eltAddr (.slice (some ⟨g, 0, none⟩) n c) sz i off = some ⟨g, i * sz + off, none⟩ := by
    simp [eltAddr, Addr.add_lit]
  unfold AtSto
  rw [had]
  have hfl : xs.flatten.length = n * sz := by rw [flatten_length xs ho.each, hlen]
  have hin : i * sz + sz ≤ n * sz := by
    have : (i + 1) * sz ≤ n * sz := Nat.mul_le_mul_right _ (by omega)
    rw [Nat.add_mul] at this; omega
  have hcs : n * sz ≤ c * sz := Nat.mul_le_mul_right _ k1
  refine do_store (cs := cur.toList) hl (by simpa using hg) k5 hn (by simp [k3]; omega) h1 ?_
  intro u' hg' hs'
  have hsp : (splice x off a.cells.toList).length = sz := by rw [splice_length (by rw [hn, hxl]; exact hfit)]; exact hxl
  refine hK u' ⟨by simpa using hlen, ?_, .inr ⟨g, _, rfl, hg', k1, k2, ?_, ?_, k5⟩⟩ ?_
  · intro y hy
    rcases List.mem_or_eq_of_mem_set hy with hy | rfl
    · exact ho.each y hy
    · exact hsp
  · rw [List.size_toArray, splice_length (by rw [hn]; simp [k3]; omega)]
    simpa using k3
  · -- the cells
    simp only []
    rw [flatten_set xs i x _ ho.each hx hsp, ← k4]
    have hxat : x = (cur.toList.drop (i * sz)).take sz := by
      apply List.ext_getElem?
      intro j
      by_cases hj : j < sz
      · have h1 := flatten_at xs ho.each i x hx j (x[j]'(by omega)) (by simp [hxl, hj])
        rw [← k4, List.getElem?_take, if_pos (by omega)] at h1
        rw [List.getElem?_take, if_pos hj, List.getElem?_drop, h1]
        simp [hxl, hj]
      · rw [List.getElem?_eq_none (by omega), List.getElem?_take, if_neg hj]
    rw [hxat]
    exact splice_take hin hfit hn (by simp [k3]; omega)
  · exact hs'

end Go.Eng
