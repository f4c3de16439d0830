/-
  Part 13 of the proof of M7: the engine and the walks, in their order.
-/
import Derived.Test.YtgpmgnbjpfggmaaM712
import Derived.Laws.IdiomStrings
set_option linter.unusedSimpArgs false
set_option linter.unusedVariables false
/-
  Engine: strings out of bytes; bytes of a constant string.
-/
set_option linter.unusedSimpArgs false
set_option linter.unusedVariables false
namespace Go.Eng
def encB (b : UInt8) : List Value := [.int .u8 b.toNat]
def strB (l : List UInt8) : ByteArray := ⟨l.toArray⟩
theorem strB_inj {l m : List UInt8} (h : strB l = strB m) : l = m := by
  unfold strB at h
  have : l.toArray = m.toArray := by injection h
  simpa using congrArg Array.toList this

section
variable {P : Program} {TS TE TD : TypeId} {u0 u : World} {p : Option Addr} {n c : Nat} {bs : List UInt8}

/-- string(b). -/
theorem conv_str (hs : P.underlying TS = some (.slice TE)) (he : P.underlying TE = some (.int .u8)) (hd : P.underlying TD = some .string) (h : Sl u 1 p n c (bs.map encB)) {K : Value → Prop} (hK : K (.string (strB bs))) : AtRead P (iConv TS TD (.slice p n c)) u K := by
  have hlen : bs.length = n := by simpa using h.len
  refine ⟨_, fun w hu => ?_, hK⟩
  unfold iConv
  cases p with
  | none =>
    obtain ⟨rfl, rfl⟩ := h.nil rfl
    have : bs = [] := List.eq_nil_of_length_eq_zero hlen
    subst this
    rw [run_convert_bytes_string w TS TD TE none 0 0 hs he hd]
    simp [Conv.bytesToString, strB]
    rfl
  | some a =>
    subst hlen
    refine run_convert_bytes_back w TS TD TE a c bs hs he hd (fun j hj => ?_)
    have hx : (bs.map encB)[j]? = some (encB bs[j]) := by simp [hj]
    obtain ⟨a', len', cap', e1, e2, e3⟩ := (h.mono hu).elt hx
    cases e1
    have := e3 0 (.int .u8 bs[j].toNat) rfl
    simp only [Int.toNat_natCast, Nat.mul_one] at this
    rw [Addr.add_zero'] at this
    exact this

theorem modify_set' {h : Array Obj} {g : Nat} {o : Obj} {f : Obj → Obj} (hg : h[g]? = some o) : h.modify g f = h.setIfInBounds g (f o) := by
  obtain ⟨hlt, he⟩ := Array.getElem?_eq_some_iff.1 hg
  apply Array.ext_getElem?
  intro i
  by_cases e : g = i
  · subst e; rw [Array.getElem?_modify, hg]; simp [hlt]
  · simp [Array.getElem?_modify, Array.getElem?_setIfInBounds_ne e, e]

theorem step_row {w : World} {g : Nat} {cur cur' : Array Value} {e e' : TypeId} {fr fr' : Nat × Nat} (hu : Sub u w) (hg : u.heap[g]? = some (.cells cur e fr)) (hf : Fresh u0 g) :
    Step false u0 u w (learn u g (.cells cur' e' fr')) { w with heap := w.heap.setIfInBounds g (.cells cur' e' fr') } := by
  have hgw := hu g _ hg cells_ne_junk
  have hlt := lt_of_some hgw
  have hn : ¬ Fresh u g := fun h => cells_ne_junk (h _ hg)
  refine ⟨?_, fun b o h => ?_, fun b _ hb hfb => ?_, ⟨by simp, rfl, rfl⟩⟩
  · intro b o h ho
    by_cases hb : b = g
    · subst hb; rw [learn_at] at h; cases h; simp [hlt]
    · simp only [Array.getElem?_setIfInBounds_ne (Ne.symm hb)]; exact hu b o ((learn_ne hb ho).1 h) ho
  · by_cases hb : b = g
    · subst hb; exact .inr ⟨rfl, hn, hf⟩
    · exact .inl (by simp only [Array.getElem?_setIfInBounds_ne (Ne.symm hb)]; exact h)
  · by_cases hbg : b = g
    · subst hbg; exact hn hfb
    · exact hb (learn_fresh hbg hfb)

/-- []byte of a constant: the slice is marked. -/
theorem conv_mark {T e : TypeId} {xs : List (List Value)} (hT : P.underlying T = some (.slice e)) (he : P.underlying e = some (.int .u8)) (ho : Own u0 u e 1 p n c xs) (hn : 0 < n) {K : Value → World → Prop}
    (hK : ∀ u', Sl u' 1 p n c xs → SubX p u u' → K (.slice p n c) u') : AtEff false P (iConv T T (.slice p n c)) u0 u K := by
  rcases ho.at_ with ⟨_, hn0, _⟩ | ⟨g, cur, rfl, hg, h1, h2, h3, h4, h5⟩
  · omega
  intro w hu h0
  have hgw := hu g _ hg cells_ne_junk
  have hsh : w.shape? g = some (e, cur.size) := by unfold World.shape?; rw [hgw]
  refine ⟨_, _, _, ?_, step_row (cur' := cur) (e' := e) (fr' := (cur.size, cur.size + 1)) hu hg h5, hK _ ?_ (learn_subX rfl)⟩
  · unfold iConv
    simp [convert, run_underlying hT, run_underlying he, markStringish, hsh]
    unfold World.freeze
    rw [if_neg (by decide)]
    simp only
    rw [modify_set' hgw]
    rfl
  · have hs := ho.sl
    refine ⟨hs.len, hs.cap, hs.each, (fun h => by cases h), fun a ha => ?_⟩
    cases ha
    refine ⟨(hs.at_ _ rfl).1, fun i y hy j v hv => ?_⟩
    have hc := (hs.at_ _ rfl).2 i y hy j v hv
    obtain ⟨cc, tt, ff, h6, h7⟩ := cell?_some hc
    simp only at h6 h7
    rw [hg] at h6
    cases h6
    exact cell?_of (learn_at _ _ _) h7.2
end

theorem strB_beq (a b : List UInt8) : ((strB a).toList == (strB b).toList) = decide (a = b) := by
  unfold strB
  rw [ByteArray.toList_mk, ByteArray.toList_mk, Bool.eq_iff_iff]
  simp
theorem eql_string {P : Program} {T : TypeId} (hT : P.underlying T = some .string) {y z : Operand} {a b : List UInt8} {K : Value → Prop} : AtPure P (binS .eql T y z (.string (strB a)) (.string (strB b))) K = K (.bool (decide (a = b))) :=
  atPure_of fun w => by
    rw [← strB_beq]
    simp only [binS, eqGuard, Sem.run_bind, Sem.run_pure, Result.andThen_ok, Bool.not_true, Bool.false_eq_true, if_false]
    go_simp
theorem neq_string {P : Program} {T : TypeId} (hT : P.underlying T = some .string) {y z : Operand} {a b : List UInt8} {K : Value → Prop} : AtPure P (binS .neq T y z (.string (strB a)) (.string (strB b))) K = K (.bool (!decide (a = b))) :=
  atPure_of fun w => by
    rw [← strB_beq]
    simp only [binS, eqGuard, Sem.run_bind, Sem.run_pure, Result.andThen_ok, Bool.not_true, Bool.false_eq_true, if_false]
    go_simp
end Go.Eng
