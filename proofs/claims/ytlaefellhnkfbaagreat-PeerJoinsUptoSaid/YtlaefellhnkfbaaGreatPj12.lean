/-
 Part 12 of the proof of Pj: the engine and the walks, in their order.
-/
import Derived.Test.YtlaefellhnkfbaaGreatPj8
import Derived.Test.YtlaefellhnkfbaaGreatPj11
import Derived.Laws.IdiomStrings
set_option linter.unusedSimpArgs false
set_option linter.unusedVariables false
set_option linter.unusedSectionVars false
namespace Go.Eng
structure adZ (P : Program) (K : TypeId) {κ : Type} [DecidableEq κ] (kv : κ → Value) : Prop where
 chk : ∀ b x w, (Instr.checkKey b 10000 K (kv x)).run P w = .ok () w
 bits : ∀ x, Instr.sameBits 10000 (kv x) (kv x) = true
 find : ∀ (k : κ) (ents : List MapEntry) (ks : List κ), ents.map (·.key) = ks.map kv → ∀ w,
  (Instr.findKey K (kv k) ents).run P w = .ok ((ks.findIdx? fun y => decide (k = y)).bind fun i => (ents[i]?).map fun e => (i, e.val)) w
def ent {κ : Type} (kv : κ → Value) (t : κ × Value × Nat) : MapEntry := { key := kv t.1, val := t.2.1, born := t.2.2 }
structure MapT (u : World) {κ : Type} (kv : κ → Value) (r : Nat) (ts : List (κ × Value × Nat)) : Prop where
 at_ : ∃ clock, u.heap[r]? = some (.map (ts.map (ent kv)).toArray clock) ∧ ∀ t ∈ ts, t.2.2 < clock
 keys : (ts.map (·.1)).Nodup
 borns : (ts.map (·.2.2)).Nodup
def MapIs (u : World) {κ : Type} (kv : κ → Value) (r : Nat) (es : List (κ × Value)) : Prop := ∃ ts, MapT u kv r ts ∧ es = ts.map fun t => (t.1, t.2.1)
section
variable {κ : Type} [DecidableEq κ] {kv : κ → Value} {P : Program} {T K E : TypeId} {u0 u : World} {r : Nat} {es : List (κ × Value)}
def mAt (es : List (κ × Value)) (k : κ) : Option Nat := es.findIdx? fun e => decide (k = e.1)
def ac0 (es : List (κ × Value)) (k : κ) : Option Value := (mAt es k).bind fun i => (es[i]?).map (·.2)
def aky (es : List (κ × Value)) (k : κ) (v : Value) : List (κ × Value) :=
 match mAt es k with
 | some i => es.set i (k, v)
 | none => es ++ [(k, v)]
theorem MapT.mono {u' : World} {ts : List (κ × Value × Nat)} (hs : Sub u u') (h : MapT u kv r ts) : MapT u' kv r ts := by
 obtain ⟨⟨clock, h1, h2⟩, h3, h4⟩ := h
 exact ⟨⟨clock, hs _ _ h1 ep, h2⟩, h3, h4⟩
theorem MapIs.mono {u' : World} (hs : Sub u u') (h : MapIs u kv r es) : MapIs u' kv r es := by
 obtain ⟨ts, h, rfl⟩ := h
 exact ⟨ts, h.mono hs, rfl⟩
theorem MapIs.known (h : MapIs u kv r es) : ¬ Fresh u r := by
 obtain ⟨ts, ⟨⟨clock, h1, _⟩, _, _⟩, _⟩ := h
 exact fun hf => ep (hf _ h1)
theorem uj (hk : adZ P K kv) (k : κ) (ts : List (κ × Value × Nat)) (w : World) :
  (Instr.findKey K (kv k) (ts.map (ent kv))).run P w = .ok ((ts.findIdx? fun t => decide (k = t.1)).bind fun i => (ts[i]?).map fun t => (i, t.2.1)) w := by
 rw [hk.find k (ts.map (ent kv)) (ts.map (·.1)) (by simp [ent, Function.comp_def]) w]
 congr 1
 have : (ts.map (·.1)).findIdx? (fun y => decide (k = y)) = ts.findIdx? fun t => decide (k = t.1) := by
  rw [List.findIdx?_map]; rfl
 rw [this]
 congr 1
 funext i
 simp [ent, Option.map_map, Function.comp_def]
theorem xS (ts : List (κ × Value × Nat)) (k : κ) : mAt (ts.map fun t => (t.1, t.2.1)) k = ts.findIdx? fun t => decide (k = t.1) := by
 unfold mAt
 rw [List.findIdx?_map]; rfl
theorem aiB (ts : List (κ × Value × Nat)) (k : κ) : ac0 (ts.map fun t => (t.1, t.2.1)) k = ((ts.findIdx? fun t => decide (k = t.1)).bind fun i => (ts[i]?).map fun t => (i, t.2.1)).map (·.2) := by
 unfold ac0
 rw [xS]
 cases ts.findIdx? fun t => decide (k = t.1) with
 | none => rfl
 | some i => simp [Option.map_map, Function.comp_def]
theorem vI {u0 u w : World} {r : Nat} {es es' : Array MapEntry} {c c' : Nat} (hu : Sub u w) (hg : u.heap[r]? = some (.map es c)) (hf : Fresh u0 r) :
  Step false u0 u w (learn u r (.map es' c')) { w with heap := w.heap.setIfInBounds r (.map es' c') } := by
 have hgw := hu r _ hg ep
 have hlt := aP hgw
 have hn : ¬ Fresh u r := fun h => ep (h _ hg)
 refine ⟨?_, fun b o h => ?_, fun b _ hb hfb => ?_, ⟨by simp, rfl, rfl⟩⟩
 ·intro b o h ho
  by_cases hb : b = r
  ·subst hb; rw [bp] at h; cases h; simp [hlt]
  ·simp only [Array.getElem?_setIfInBounds_ne (Ne.symm hb)]; exact hu b o ((fF hb ho).1 h) ho
 ·by_cases hb : b = r
  ·subst hb; exact .inr ⟨rfl, hn, hf⟩
  ·exact .inl (by simp only [Array.getElem?_setIfInBounds_ne (Ne.symm hb)]; exact h)
 ·by_cases hbg : b = r
  ·subst hbg; exact hn hfb
  ·exact hb (ck hbg hfb)
def SubR (r : Nat) (u u' : World) : Prop := ∀ (b : Nat) (o : Obj), b ≠ r → u.heap[b]? = some o → o ≠ iN → u'.heap[b]? = some o
theorem SubR.sub {u' : World} (h0 : Sub u0 u) (h : SubR r u u') (hf : Fresh u0 r) : Sub u0 u' := fun b o hb ho => by
 refine h b o (fun e => ?_) (h0 b o hb ho) ho
 subst e
 exact ho (hf o hb)
theorem SubR.own {u' : World} {e sz : Nat} {p : Option Addr} {n c : Nat} {xs : List (List Value)} (hs : SubR r u u') (hne : ∀ a, p = some a → a.block ≠ r) (h : Own u0 u e sz p n c xs) : Own u0 u' e sz p n c xs :=
 ⟨h.len, h.each, h.at_.imp id fun ⟨g, cur, h1, h2, h3⟩ => ⟨g, cur, h1, hs _ _ (hne _ h1) h2 ar, h3⟩⟩
theorem ob {o : Obj} : SubR r u (learn u r o) := fun b o' hb h hn => (fF hb hn).2 h
theorem adM {x : Bool} {Ke : Value → World → Prop} (hK : ∀ r u', MapIs u' kv r [] → Sub u u' → Fresh u r → Fresh u0 r → Ke (.map (some r)) u') : AtEff x P (qi T none) u0 u Ke := by
 intro w hu h0
 exact ⟨.map (some w.heap.size), { w with heap := w.heap.push (.map #[] 0) }, _, by simp [qi, Instr.makeMap], ij hu rfl, hK _ _ ⟨[], ⟨⟨0, bp _ _ _, by simp⟩, by simp, by simp⟩, rfl⟩ (dp (aE hu (Nat.le_refl _))) (aE hu (Nat.le_refl _)) (aE h0 (Nat.le_refl _))⟩
theorem xN (hk : adZ P K kv) (hT : P.underlying T = some (.map K E)) (h : MapIs u kv r es) {z : Value} (hz : ∀ w, (zeroValue E).run P w = .ok z w) {k : κ} {Kv : Value → Prop}
  (hK : Kv (.tuple #[(ac0 es k).getD z, .bool (ac0 es k).isSome])) : AtRead P (kh T (.map (some r)) (kv k) true) u Kv := by
 obtain ⟨ts, ⟨⟨clock, h1, h2⟩, _, _⟩, rfl⟩ := h
 refine ⟨_, fun w hu => ?_, hK⟩
 have hw := hu _ _ h1 ep
 have hf := uj hk k ts w
 rw [aiB]
 simp only [kh, Instr.lookup, Sem.run_bind, run_underlying hT, Result.andThen_ok, getObj, Sem.run, hw, Sem.run_pure, hk.chk, List.toList_toArray, hf]
 generalize (ts.findIdx? fun t => decide (k = t.1)).bind (fun i => (ts[i]?).map fun t => (i, t.2.1)) = q
 cases q with
 | none => simp [hz]
 | some q => simp
theorem oG {α β : Type} {l : List α} {i : Nat} {x y : α} {f : α → β} (hx : l[i]? = some x) (h : f y = f x) : (l.set i y).map f = l.map f := by
 rw [List.map_set, h]
 apply List.ext_getElem?
 intro j
 rw [List.getElem?_set]
 split
 ·rename_i e
  subst e
  split
  ·simp [hx]
  ·rename_i hn; simp at hn; simp [List.getElem?_eq_none hn]
 ·rfl
theorem xi {α : Type} (l : List α) (i : Nat) (x : α) (f : α → α) (hx : l[i]? = some x) : l.modify i f = l.set i (f x) := by
 apply List.ext_getElem?
 intro j
 rw [List.getElem?_modify, List.getElem?_set]
 split
 ·rename_i e
  subst e
  have hlt : i < l.length := by rcases Nat.lt_or_ge i l.length with h | h; exact h; simp [List.getElem?_eq_none h] at hx
  have hxx : l[i] = x := by simpa [hlt] using hx
  simp [hlt, hxx]
 ·simp
theorem MapT.set_ {ts : List (κ × Value × Nat)} {i : Nat} {k : κ} {v0 v : Value} {b clock : Nat} (hi : ts[i]? = some (k, v0, b)) (hkeys : (ts.map (·.1)).Nodup) (hborns : (ts.map (·.2.2)).Nodup) (hlt : ∀ t ∈ ts, t.2.2 < clock) {u' : World}
  (h : u'.heap[r]? = some (.map ((ts.set i (k, v, b)).map (ent kv)).toArray clock)) : MapT u' kv r (ts.set i (k, v, b)) := by
 refine ⟨⟨clock, h, fun t ht => ?_⟩, ?_, ?_⟩
 ·rcases List.mem_or_eq_of_mem_set ht with ht | rfl
  ·exact hlt t ht
  ·have h5 : (k, v0, b).2.2 < clock := hlt _ (List.mem_of_getElem? hi)
   exact h5
 ·rw [oG hi]; exact hkeys; rfl
 ·rw [oG hi]; exact hborns; rfl
theorem MapT.snoc_ {ts : List (κ × Value × Nat)} {k : κ} {v : Value} {clock : Nat} (hno : ts.findIdx? (fun t => decide (k = t.1)) = none) (hkeys : (ts.map (·.1)).Nodup) (hborns : (ts.map (·.2.2)).Nodup) (hlt : ∀ t ∈ ts, t.2.2 < clock) {u' : World}
  (h : u'.heap[r]? = some (.map ((ts ++ [(k, v, clock)]).map (ent kv)).toArray (clock + 1))) : MapT u' kv r (ts ++ [(k, v, clock)]) := by
 have hno' : ∀ t ∈ ts, ¬ k = t.1 := fun t ht => by simpa using List.findIdx?_eq_none_iff.1 hno t ht
 refine ⟨⟨clock + 1, h, fun t ht => ?_⟩, ?_, ?_⟩
 ·rcases List.mem_append.1 ht with ht | ht
  ·have := hlt t ht; omega
  ·simp at ht; subst ht; simp
 ·rw [List.map_append, List.nodup_append]
  refine ⟨hkeys, by simp, ?_⟩
  intro a ha b hb e
  simp at hb
  subst hb
  obtain ⟨x, hx, rfl⟩ := List.mem_map.1 ha
  exact hno' x hx e.symm
 ·rw [List.map_append, List.nodup_append]
  refine ⟨hborns, by simp, ?_⟩
  intro a ha b hb e
  simp at hb
  subst hb
  obtain ⟨x, hx, rfl⟩ := List.mem_map.1 ha
  have := hlt x hx
  omega
theorem alQ {ts : List (κ × Value × Nat)} {k : κ} {i : Nat} (h : ts.findIdx? (fun t => decide (k = t.1)) = some i) : ∃ v b, ts[i]? = some (k, v, b) := by
 obtain ⟨hi, hki, _⟩ := List.findIdx?_eq_some_iff_getElem.1 h
 simp at hki
 refine ⟨ts[i].2.1, ts[i].2.2, ?_⟩
 rw [List.getElem?_eq_getElem hi, hki]
theorem map_set (hk : adZ P K kv) (hT : P.underlying T = some (.map K E)) (h : MapIs u kv r es) (hf0 : Fresh u0 r) {k : κ} {v : Value} {Kw : World → Prop}
  (hK : ∀ u', MapIs u' kv r (aky es k v) → SubR r u u' → Kw u') : AtDo false P (mD T (.map (some r)) (kv k) v) u0 u Kw := by
 obtain ⟨ts, ⟨⟨clock, h1, h2⟩, h3, h4⟩, rfl⟩ := h
 intro w hu h0
 have hw := hu _ _ h1 ep
 have hf := uj hk k ts w
 cases hfi : ts.findIdx? fun t => decide (k = t.1) with
 | none =>
  rw [hfi] at hf
  refine ⟨_, _, ?_, vI (es' := (ts.map (ent kv)).toArray.push { key := kv k, val := v, born := clock }) (c' := clock + 1) hu h1 hf0, hK _ ⟨ts ++ [(k, v, clock)], MapT.snoc_ hfi h3 h4 h2 ?_, ?_⟩ ob⟩
  ·simp [mD, Instr.mapUpdate, run_underlying hT, getObj, Sem.run, hw, hk.chk, hf, setObj]
  ·rw [bp]; simp [ent]
  ·simp [aky, xS, hfi]
 | some i =>
  rw [hfi] at hf
  obtain ⟨v0, b0, hi⟩ := alQ hfi
  have hie : i < ts.length := by rcases Nat.lt_or_ge i ts.length with h | h; exact h; simp [List.getElem?_eq_none h] at hi
  refine ⟨_, _, ?_, vI (es' := ((ts.set i (k, v, b0)).map (ent kv)).toArray) (c' := clock) hu h1 hf0, hK _ ⟨ts.set i (k, v, b0), MapT.set_ hi h3 h4 h2 (bp _ _ _), ?_⟩ ob⟩
  ·simp [mD, Instr.mapUpdate, run_underlying hT, getObj, Sem.run, hw, hk.chk, hf, hi, setObj, Instr.keyThatStays, ent, hk.bits]
   rw [xi _ _ (ent kv (k, v0, b0)) _ (by simp [hi])]
   rfl
  ·simp [aky, xS, hfi, List.map_set]
def MapE (u : World) (kv : κ → Value) (r : Nat) (es : List (κ × Value)) (k : κ) (v : Value) (b : Nat) : Prop := ∃ (ts : List (κ × Value × Nat)) (i : Nat), MapT u kv r ts ∧ es = (ts.map fun t => (t.1, t.2.1)) ∧ ts[i]? = some (k, v, b)
theorem MapE.is {k : κ} {v : Value} {b : Nat} (h : MapE u kv r es k v b) : MapIs u kv r es := by
 obtain ⟨ts, i, h1, h2, _⟩ := h
 exact ⟨ts, h1, h2⟩
theorem MapE.mono {u' : World} {k : κ} {v : Value} {b : Nat} (hs : Sub u u') (h : MapE u kv r es k v b) : MapE u' kv r es k v b := by
 obtain ⟨ts, i, h1, h2⟩ := h
 exact ⟨ts, i, h1.mono hs, h2⟩
end
end Go.Eng

namespace Go.Eng
@[go_sem] theorem ak1 {K : S → World → Prop} {s : S} {u : World} {T : TypeId} {f : Fn} {a b : Array Value} {e : Nat} : sS (some e) K s u T (.v (.func f a b)) = (s.find e = none ∧ ∀ c, nI K s e [.func f a b] T u c) := rfl
@[go_sem] theorem alK {K : S → World → Prop} {s : S} {u : World} {T : TypeId} {r : Option Nat} {e : Nat} : sS (some e) K s u T (.v (.map r)) = (s.find e = none ∧ ∀ c, nI K s e [.map r] T u c) := rfl
@[go_sem] theorem ala {K : S → World → Prop} {s : S} {u : World} {T : TypeId} {r : Option Addr} {e : Nat} : sS (some e) K s u T (.v (.pointer r)) = (s.find e = none ∧ ∀ c, nI K s e [.pointer r] T u c) := rfl
abbrev NEP (p q : Option Addr) : Prop := ∀ a b, p = some a → q = some b → a.block ≠ b.block
theorem NEP.symm {p q : Option Addr} (h : NEP p q) : NEP q p := fun a b ha hb e => h b a hb ha e.symm
structure Part where
 T : TypeId
 sz : Nat
 p : Option Addr
 n : Nat
 c : Nat
 xs : List (List Value)
def There (u : World) (ps : List Part) : Prop := ∀ s ∈ ps, Sl u s.sz s.p s.n s.c s.xs
def Owned (u0 u : World) (ps : List Part) : Prop := ∀ s ∈ ps, Own u0 u s.T s.sz s.p s.n s.c s.xs
def Away (q : Option Addr) (ps : List Part) : Prop := ∀ s ∈ ps, NEP s.p q
def ah4 (u : World) (ps : List Part) : Prop := ∀ s ∈ ps, bU u s.p
section
variable {u0 u u' : World} {ps qs : List Part} {q : Option Addr}
theorem There.mono (hs : Sub u u') (h : There u ps) : There u' ps := fun s hx => (h s hx).mono hs
theorem Owned.mono (hs : Sub u u') (h : Owned u0 u ps) : Owned u0 u' ps := fun s hx => (h s hx).mono hs
theorem Owned.there (h : Owned u0 u ps) : There u ps := fun s hx => (h s hx).sl
theorem Owned.fresh (h : Owned u0 u ps) : ah4 u0 ps := fun s hx => (h s hx).fresh
theorem Owned.subX (h : Owned u0 u ps) (hx : SubX q u u') (ha : Away q ps) : Owned u0 u' ps := fun s hs => (h s hs).subX hx (ha s hs)
theorem There.subX (h : There u ps) (hx : SubX q u u') (ha : Away q ps) : There u' ps := fun s hs => (h s hs).subX hx (ha s hs)
theorem There.nil : There u [] := fun s hs => by cases hs
theorem Owned.nil : Owned u0 u [] := fun s hs => by cases hs
theorem There.append (h : There u ps) (h' : There u qs) : There u (ps ++ qs) := fun s hs => (List.mem_append.1 hs).elim (h s) (h' s)
theorem Owned.append (h : Owned u0 u ps) (h' : Owned u0 u qs) : Owned u0 u (ps ++ qs) := fun s hs => (List.mem_append.1 hs).elim (h s) (h' s)
theorem Away.append (h : Away q ps) (h' : Away q qs) : Away q (ps ++ qs) := fun s hs => (List.mem_append.1 hs).elim (h s) (h' s)
theorem Away.of_new (h : Owned u0 u ps) (hf : bU u q) : Away q ps := fun s hs => uE (h s hs) hf
theorem Away.none : Away none ps := fun s hs a b _ hb => by cases hb
end
structure Kind (α : Type) where
 T : TypeId
 sz : Nat
 enc : α → List Value
 parts : α → List Part
section
variable {α : Type} (κ : Kind α)
structure EL (u : World) (p : Option Addr) (n c : Nat) (l : List α) : Prop where
 sl : Sl u κ.sz p n c (l.map κ.enc)
 fl : ∀ x ∈ l, There u (κ.parts x)
structure EO (u0 u : World) (p : Option Addr) (n c : Nat) (l : List α) : Prop where
 own : Own u0 u κ.T κ.sz p n c (l.map κ.enc)
 fl : ∀ x ∈ l, Owned u0 u (κ.parts x)
 ne : ∀ x ∈ l, Away p (κ.parts x)
end
section
variable {α : Type} {κ : Kind α} {u0 u u' : World} {p : Option Addr} {n c : Nat} {l : List α}
theorem EL.mono (hs : Sub u u') (h : EL κ u p n c l) : EL κ u' p n c l := ⟨h.sl.mono hs, fun x hx => (h.fl x hx).mono hs⟩
theorem EO.mono (hs : Sub u u') (h : EO κ u0 u p n c l) : EO κ u0 u' p n c l := ⟨h.own.mono hs, fun x hx => (h.fl x hx).mono hs, h.ne⟩
theorem EO.el (h : EO κ u0 u p n c l) : EL κ u p n c l := ⟨h.own.sl, fun x hx => (h.fl x hx).there⟩
theorem EL.len (h : EL κ u p n c l) : l.length = n := by simpa using h.sl.len
theorem EO.len (h : EO κ u0 u p n c l) : l.length = n := by simpa using h.own.len
theorem EL.at_ {k : Nat} {x : α} (h : EL κ u p n c l) (hx : l[k]? = some x) : There u (κ.parts x) := h.fl x (List.mem_of_getElem? hx)
theorem EO.subX {q : Option Addr} (h : EO κ u0 u p n c l) (hs : SubX q u u') (h1 : NEP p q) (h2 : ∀ x ∈ l, Away q (κ.parts x)) : EO κ u0 u' p n c l :=
 ⟨h.own.subX hs h1, fun x hx => (h.fl x hx).subX hs (h2 x hx), h.ne⟩
theorem EO.any {l' : List α} {p' : Option Addr} {n' c' : Nat} (h : EO κ u0 u p n c l) (hx : SubX p u u') (ho : Own u0 u' κ.T κ.sz p' n' c' (l'.map κ.enc)) (hp : p' = p ∨ bU u p')
  (hl : ∀ y ∈ l', (∃ x ∈ l, κ.parts y = κ.parts x) ∨ (Owned u0 u (κ.parts y) ∧ Away p (κ.parts y))) : EO κ u0 u' p' n' c' l' := by
 have hall : ∀ z ∈ l', Owned u0 u (κ.parts z) ∧ Away p (κ.parts z) := fun z hz => by
  rcases hl z hz with ⟨x, hxl, e⟩ | h1
  ·rw [e]; exact ⟨h.fl x hxl, h.ne x hxl⟩
  ·exact h1
 refine ⟨ho, fun z hz => (hall z hz).1.subX hx (hall z hz).2, fun z hz => ?_⟩
 rcases hp with rfl | hf
 ·exact (hall z hz).2
 ·exact Away.of_new (hall z hz).1 hf
theorem EO.write {n' c' : Nat} {l' : List α} (h : EO κ u0 u p n c l) (hx : SubX p u u') (ho : Own u0 u' κ.T κ.sz p n' c' (l'.map κ.enc)) (hl : ∀ y ∈ l', ∃ x ∈ l, κ.parts y = κ.parts x) : EO κ u0 u' p n' c' l' := by
 refine ⟨ho, fun y hy => ?_, fun y hy => ?_⟩
 ·obtain ⟨x, hxl, e⟩ := hl y hy
  rw [e]; exact (h.fl x hxl).subX hx (h.ne x hxl)
 ·obtain ⟨x, hxl, e⟩ := hl y hy
  rw [e]; exact h.ne x hxl
end
end Go.Eng

namespace Go.Eng
def aiC (b : UInt8) : List Value := [.int .u8 b.toNat]
def ai5 (l : List UInt8) : ByteArray := ⟨l.toArray⟩
section
variable {P : Program} {TS TE TD : TypeId} {u0 u : World} {p : Option Addr} {n c : Nat} {bs : List UInt8}
theorem adX (hs : P.underlying TS = some (.slice TE)) (he : P.underlying TE = some (.int .u8)) (hd : P.underlying TD = some .string) (h : Sl u 1 p n c (bs.map aiC)) {K : Value → Prop} (hK : K (.string (ai5 bs))) : AtRead P (dx TS TD (.slice p n c)) u K := by
 have hlen : bs.length = n := by simpa using h.len
 refine ⟨_, fun w hu => ?_, hK⟩
 unfold dx
 cases p with
 | none =>
  obtain ⟨rfl, rfl⟩ := h.nil rfl
  have : bs = [] := List.eq_nil_of_length_eq_zero hlen
  subst this
  rw [run_convert_bytes_string w TS TD TE none 0 0 hs he hd]
  simp [Conv.bytesToString, ai5]
  rfl
 | some a =>
  subst hlen
  refine run_convert_bytes_back w TS TD TE a c bs hs he hd (fun j hj => ?_)
  have hx : (bs.map aiC)[j]? = some (aiC bs[j]) := by simp [hj]
  obtain ⟨a', len', cap', e1, e2, e3⟩ := (h.mono hu).elt hx
  cases e1
  have := e3 0 (.int .u8 bs[j].toNat) rfl
  simp only [Int.toNat_natCast, Nat.mul_one] at this
  rw [Addr.add_zero'] at this
  exact this
theorem wo {h : Array Obj} {g : Nat} {o : Obj} {f : Obj → Obj} (hg : h[g]? = some o) : h.modify g f = h.setIfInBounds g (f o) := by
 obtain ⟨hlt, he⟩ := Array.getElem?_eq_some_iff.1 hg
 apply Array.ext_getElem?
 intro i
 by_cases e : g = i
 ·subst e; rw [Array.getElem?_modify, hg]; simp [hlt]
 ·simp [Array.getElem?_modify, Array.getElem?_setIfInBounds_ne e, e]
theorem ae3 {w : World} {g : Nat} {cur cur' : Array Value} {e e' : TypeId} {fr fr' : Nat × Nat} (hu : Sub u w) (hg : u.heap[g]? = some (.cells cur e fr)) (hf : Fresh u0 g) :
  Step false u0 u w (learn u g (.cells cur' e' fr')) { w with heap := w.heap.setIfInBounds g (.cells cur' e' fr') } := by
 have hgw := hu g _ hg ar
 have hlt := aP hgw
 have hn : ¬ Fresh u g := fun h => ar (h _ hg)
 refine ⟨?_, fun b o h => ?_, fun b _ hb hfb => ?_, ⟨by simp, rfl, rfl⟩⟩
 ·intro b o h ho
  by_cases hb : b = g
  ·subst hb; rw [bp] at h; cases h; simp [hlt]
  ·simp only [Array.getElem?_setIfInBounds_ne (Ne.symm hb)]; exact hu b o ((fF hb ho).1 h) ho
 ·by_cases hb : b = g
  ·subst hb; exact .inr ⟨rfl, hn, hf⟩
  ·exact .inl (by simp only [Array.getElem?_setIfInBounds_ne (Ne.symm hb)]; exact h)
 ·by_cases hbg : b = g
  ·subst hbg; exact hn hfb
  ·exact hb (ck hbg hfb)
theorem adf {T e : TypeId} {xs : List (List Value)} (hT : P.underlying T = some (.slice e)) (he : P.underlying e = some (.int .u8)) (ho : Own u0 u e 1 p n c xs) (hn : 0 < n) {K : Value → World → Prop}
  (hK : ∀ u', Sl u' 1 p n c xs → SubX p u u' → K (.slice p n c) u') : AtEff false P (dx T T (.slice p n c)) u0 u K := by
 rcases ho.at_ with ⟨_, hn0, _⟩ | ⟨g, cur, rfl, hg, h1, h2, h3, h4, h5⟩
 ·omega
 intro w hu h0
 have hgw := hu g _ hg ar
 have hsh : w.shape? g = some (e, cur.size) := by unfold World.shape?; rw [hgw]
 refine ⟨_, _, _, ?_, ae3 (cur' := cur) (e' := e) (fr' := (cur.size, cur.size + 1)) hu hg h5, hK _ ?_ (fu rfl)⟩
 ·unfold dx
  simp [convert, run_underlying hT, run_underlying he, markStringish, hsh]
  unfold World.freeze
  rw [if_neg (by decide)]
  simp only
  rw [wo hgw]
  rfl
 ·have hs := ho.sl
  refine ⟨hs.len, hs.cap, hs.each, (fun h => by cases h), fun a ha => ?_⟩
  cases ha
  refine ⟨(hs.at_ _ rfl).1, fun i y hy j v hv => ?_⟩
  have hc := (hs.at_ _ rfl).2 i y hy j v hv
  obtain ⟨cc, tt, ff, h6, h7⟩ := fk hc
  simp only at h6 h7
  rw [hg] at h6
  cases h6
  exact eS (bp _ _ _) h7.2
end
end Go.Eng
