/-
  Part 20 of the proof of M7: the engine and the walks, in their order.
-/
import Derived.Test.YtgpmgnbjpfggmaaM79
import Derived.Test.YtgpmgnbjpfggmaaM710
set_option linter.unusedSimpArgs false
set_option linter.unusedVariables false
/-
  Slices of the call's own that are written over: what they hold stays of its kind.
-/
set_option linter.unusedSimpArgs false
set_option linter.unusedVariables false
namespace Go.Eng

/-- Slices that may be written: their elements' type, how many cells an element has, what cells of an element look like. -/
structure WK where
  T : TypeId
  sz : Nat
  Pd : List Value → Prop
structure WR where
  k : WK
  p : Option Addr
  n : Nat
  c : Nat
def WOk (uk u : World) (r : WR) : Prop := ∃ xs, Own uk u r.k.T r.k.sz r.p r.n r.c xs ∧ ∀ x ∈ xs, r.k.Pd x
def AllW (uk u : World) (R : WR → Prop) : Prop := ∀ r, R r → WOk uk u r
def Coh (R : WR → Prop) : Prop := ∀ r r', R r → R r' → r.k.T = r'.k.T → r.k = r'.k

section
variable {uk u u' : World} {R : WR → Prop}
theorem WOk.mono {r : WR} (h : WOk uk u r) (hs : Sub u u') : WOk uk u' r := by
  obtain ⟨xs, h1, h2⟩ := h
  exact ⟨xs, h1.mono hs, h2⟩
theorem AllW.mono (h : AllW uk u R) (hs : Sub u u') : AllW uk u' R := fun r hr => (h r hr).mono hs
theorem WOk.at_ {r : WR} {i : Nat} (h : WOk uk u r) (hi : i < r.n) : ∃ xs x, Own uk u r.k.T r.k.sz r.p r.n r.c xs ∧ xs[i]? = some x ∧ r.k.Pd x := by
  obtain ⟨xs, h1, h2⟩ := h
  have hl := h1.len
  exact ⟨xs, xs[i]'(by omega), h1, by simp [hl, hi], h2 _ (List.getElem_mem _)⟩
theorem WOk.cap {r : WR} (h : WOk uk u r) : r.n ≤ maxLen := by
  obtain ⟨xs, h1, _⟩ := h
  rcases h1.at_ with ⟨_, h, _⟩ | ⟨g, cur, _, _, h2, h3, _⟩
  · omega
  · omega
theorem WOk.some_ {r : WR} {i : Nat} (h : WOk uk u r) (hi : i < r.n) : r.p.isSome = true := by
  obtain ⟨xs, h1, _⟩ := h
  exact h1.sl.some_ hi

theorem splice_take_le {L vs : List Value} {A N : Nat} (hA : N ≤ A) (hL : A ≤ L.length) : (splice L A vs).take N = L.take N := by
  unfold splice
  rw [List.append_assoc, List.take_append_of_le_length (by simp; omega), List.take_take, Nat.min_eq_left hA]

theorem Own.base {u0 u1 : World} {e sz n c : Nat} {p : Option Addr} {xs : List (List Value)} (h : Own u0 u e sz p n c xs) (hf : FreshP u1 p) : Own u1 u e sz p n c xs :=
  ⟨h.len, h.each, h.at_.imp id fun ⟨g, cur, h1, h2, h3, h4, h5, h6, _⟩ => ⟨g, cur, h1, h2, h3, h4, h5, h6, hf _ h1⟩⟩
/-- A block of a slice is written: what the slice holds then. -/
theorem Own.spliced {e sz g n c i off m : Nat} {xs : List (List Value)} {vs : List Value} {cur : Array Value} (ho : Own uk u e sz (some ⟨g, 0, none⟩) n c xs) (hg : u.heap[g]? = some (.cells cur e (0, 0)))
    (hg' : u'.heap[g]? = some (.cells (splice cur.toList (i * sz + off) vs).toArray e (0, 0))) (hm : vs.length = m) (hfit : off + m ≤ sz) (hin : (i + 1) * sz ≤ cur.size) :
    ∃ ys, Own uk u' e sz (some ⟨g, 0, none⟩) n c ys ∧ ∀ y ∈ ys, y ∈ xs ∨ ∃ x ∈ xs, y = splice x off vs := by
  rcases ho.at_ with ⟨h, _⟩ | ⟨g2, cur2, e1, hg2, k1, k2, k3, k4, k5⟩
  · cases h
  cases e1
  rw [hg] at hg2
  cases hg2
  have hlen := ho.len
  have hcs : n * sz ≤ c * sz := Nat.mul_le_mul_right _ k1
  rw [Nat.add_mul, Nat.one_mul] at hin
  have hsz' : (splice cur.toList (i * sz + off) vs).toArray.size = c * sz := by
    rw [List.size_toArray, splice_length (by rw [hm]; simp; omega)]
    simpa using k3
  by_cases hi : i < n
  · have hx : xs[i]? = some (xs[i]'(by omega)) := by simp [hlen, hi]
    generalize xs[i]'(by omega) = x at hx
    have hxl := ho.each x (List.mem_of_getElem? hx)
    have hin' : i * sz + sz ≤ n * sz := by
      have : (i + 1) * sz ≤ n * sz := Nat.mul_le_mul_right _ (by omega)
      rw [Nat.add_mul] at this; omega
    have hsp : (splice x off vs).length = sz := by rw [splice_length (by rw [hm, hxl]; exact hfit)]; exact hxl
    refine ⟨xs.set i (splice x off vs), ⟨by simpa using hlen, ?_, .inr ⟨g, _, rfl, hg', k1, k2, hsz', ?_, k5⟩⟩, fun y hy => ?_⟩
    · intro y hy
      rcases List.mem_or_eq_of_mem_set hy with hy | rfl
      · exact ho.each y hy
      · exact hsp
    · simp only []
      rw [flatten_set xs i x _ ho.each hx hsp, ← k4]
      have hxat : x = (cur.toList.drop (i * sz)).take sz := by
        apply List.ext_getElem?
        intro j
        by_cases hj : j < sz
        · have h1 := flatten_at xs ho.each i x hx j (x[j]'(by omega)) (by simp [hxl, hj])
          rw [← k4, List.getElem?_take, if_pos (by omega)] at h1
          rw [List.getElem?_take, if_pos hj, List.getElem?_drop, h1]
          simp [hxl, hj]
        · rw [List.getElem?_eq_none (by omega), List.getElem?_take, if_neg hj]
      rw [hxat]
      exact splice_take hin' hfit hm (by simp [k3]; omega)
    · rcases List.mem_or_eq_of_mem_set hy with hy | rfl
      · exact .inl hy
      · exact .inr ⟨x, List.mem_of_getElem? hx, rfl⟩
  · refine ⟨xs, ⟨hlen, ho.each, .inr ⟨g, _, rfl, hg', k1, k2, hsz', ?_, k5⟩⟩, fun y hy => .inl hy⟩
    simp only []
    rw [splice_take_le ?_ (by simp; omega)]
    · exact k4
    · have : n * sz ≤ i * sz := Nat.mul_le_mul_right _ (by omega)
      omega

/-- **A store into an element of one of them.** -/
theorem wr_store {P : Program} {T m i off : Nat} {ag : Bool} (hl : lay P T = some (ag, m)) {u0 : World} {r : WR} {a : Value} (hA : AllW uk u R) (hc : Coh R) (hr : R r) (hi : i < r.n) (hn : a.cells.toList.length = m) (hfit : off + m ≤ r.k.sz)
    (h1 : allOne a.cells.toList = true) (hP : ∀ x, r.k.Pd x → r.k.Pd (splice x off a.cells.toList)) (h0 : Sub u0 uk) (hk : Sub uk u) {K : World → Prop}
    (hK : ∀ u', AllW uk u' R → Sub uk u' → (∀ r' : WR, r'.k.T ≠ r.k.T → ∀ xs, Own uk u r'.k.T r'.k.sz r'.p r'.n r'.c xs → Own uk u' r'.k.T r'.k.sz r'.p r'.n r'.c xs) → K u') : AtSto false P u0 T (.slice r.p r.n r.c) r.k.sz i off a u K := by
  obtain ⟨xs, ho, hp⟩ := hA r hr
  have hlen := ho.len
  rcases ho.at_ with ⟨_, h, _⟩ | ⟨g, cur, hpg, hg, k1, k2, k3, k4, k5⟩
  · omega
  have had : eltAddr (.slice r.p r.n r.c) r.k.sz i off = some ⟨g, i * r.k.sz + off, none⟩ := by
    rw [hpg]; simp [eltAddr, Addr.add_lit]
  unfold AtSto
  rw [had]
  have hin : (i + 1) * r.k.sz ≤ cur.size := by rw [k3]; exact Nat.mul_le_mul_right _ (by omega)
  have hin2 := hin
  rw [Nat.add_mul, Nat.one_mul] at hin2
  refine do_store (cs := cur.toList) hl (by simpa using hg) (Fresh.anti h0 k5) hn (by simp; omega) h1 ?_
  intro u' hg' hs'
  refine hK u' (fun r' hr' => ?_) (hs'.sub hk fun b hb => by cases hb; exact k5) (fun r' hne xs' ho' => ?_)
  rotate_left
  · refine ho'.subX hs' (fun a b ha hb hab => hne ?_)
    cases hb
    rcases ho'.at_ with ⟨e1, _⟩ | ⟨g2, cur2, e1, hg2, _⟩
    · rw [e1] at ha; cases ha
    · rw [e1] at ha; cases ha
      simp only at hab
      rw [hab, hg] at hg2
      injection hg2 with hg2
      injection hg2 with _ hT _
      exact hT.symm
  obtain ⟨xs', ho', hp'⟩ := hA r' hr'
  rcases ho'.at_ with ⟨e1, e2, e3⟩ | ⟨g2, cur2, e1, hg2, _⟩
  · exact ⟨xs', ⟨ho'.len, ho'.each, .inl ⟨e1, e2, e3⟩⟩, hp'⟩
  · by_cases hgg : g2 = g
    · subst hgg
      rw [hg] at hg2
      injection hg2 with hg2
      injection hg2 with hc1 hT _
      have hkk := hc r r' hr hr' hT
      rw [e1] at ho'
      rw [← hkk] at ho' hp'
      obtain ⟨ys, h3, h4⟩ := ho'.spliced hg hg' hn hfit hin
      refine ⟨ys, ?_, fun y hy => ?_⟩
      · rw [e1, ← hkk]; exact h3
      · rw [← hkk]
        rcases h4 y hy with h5 | ⟨x, h5, rfl⟩
        · exact hp' y h5
        · exact hP x (hp' x h5)
    · exact ⟨xs', ho'.subX hs' (fun a b ha hb => by rw [e1] at ha; cases ha; cases hb; exact hgg), hp'⟩
end
end Go.Eng
