/-
 bF 9 of the proof of Pb: the engine and the walks, in their order.
-/
import Derived.Test.YtlaefellhnkfbaaGreatPb7
import Derived.Test.YtlaefellhnkfbaaGreatPb8
import Derived.ReadAgain
import Derived.ChangeSame
import Derived.OpenShut
import Derived.Deep.Slices
import Derived.Deep.Strs
import Derived.SizedLaws
import Derived.RowKit
import Derived.WalkKit
import Derived.ProofKit
import Derived.Test.YtlaefellhnkfbaaGreatProg
set_option linter.unusedSimpArgs false
set_option linter.unusedVariables false
namespace Go.Eng
open Go.ChangeShapes Go.WideShapes Go.RowKit
section
variable {H : Type} {enc : TypeId × Value → H} {P : Program} {W W' : World} {T : TypeId → Prop}
theorem Ext.get {b : Nat} (h : Ext W W') (hb : b < W.heap.size) : W'.heap[b]? = W.heap[b]? := by
 rw [h b _ (Array.getElem?_eq_getElem hb), Array.getElem?_eq_getElem hb]
theorem wh {p : MemPlace} (h : Ext W W') (hb : p.block < W.heap.size) : W.sameAt W' p := by
 cases p with
 | cell b off => show W'.cell? _ = W.cell? _; unfold World.cell?; rw [show W'.heap[(⟨b, off, none⟩ : Addr).block]? = W.heap[b]? from h.get hb]
 | map b => exact h.get hb
theorem mR {base : Nat} {sp : Nat → Bool} {held : Bool} (h : Ext W W') : ∀ {ts : List TypeId} {vs : List Value} {ds : List (DataW H)} {ps : List MemPlace}, (∀ p ∈ ps, p.block < W.heap.size) →
  DataW.TrodAll enc P W base sp held ts vs ds ps → DataW.TrodAll enc P W' base sp held ts vs ds ps
 | [], [], [], _, _, h' => h'
 | _ :: _, _ :: _, _ :: _, _, hb, ⟨p, q, ⟨n, h1⟩, h2, e⟩ => ⟨p, q, ⟨n, DataW.trod_carry n _ _ _ h1 (fun x hx => wh h (hb x (by rw [e]; exact List.mem_append_left _ hx)))⟩,
   mR h (fun x hx => hb x (by rw [e]; exact List.mem_append_right _ hx)) h2, e⟩
theorem adK (h : Ext W W') (hl : Le W W') (may : MemPlace → Prop) : W.keptBut W' may := by
 refine ⟨hl.os, hl.output, fun i hi => ?_⟩
 rw [h.get hi, Array.getElem?_eq_getElem hi]
 cases W.heap[i] with
 | cells c t fr => exact ⟨rfl, rfl, rfl, fun _ _ => rfl⟩
 | map es clock => exact .inr ⟨rfl, rfl⟩
 | _ => rfl
theorem tx {fn : Func} {s : ChangeSpec} {args : Array Value} {ds gs : List (DataW H)} {before : List MemPlace} {tb : TypeId}
  (hl : laidOutB P = true) (hm : mapsRowed P = true) (hz : ((List.range P.types.size).all fun t => match P.underlying t with | some (.slice e) => decide (0 < P.cellsOf e) | _ => true) = true)
  (hrow : (fn.params.toList.all fun t => decide (t < P.types.size)) = true) (hv0 : s.vars = []) (htb : P.underlying tb = some .bool) (hr : fn.resultTypes = #[tb])
  (hW : DataW.Whole enc P fn.params.toList s.vars false W args.toList ds gs before)
  (hfn : s.fn H (ds ++ gs) = { results := [.lit (.bool true)], args := ds }) (he : Ext W W') (hle : Le W W') :
  s.post enc P fn false true false false W args (.bool true) W' := by
 have hlt : ∀ p ∈ before, p.block < W.heap.size := hW.lt
 have hW' := hW
 obtain ⟨p, q, hA, hV, rfl, _, _⟩ := hW
 rw [hv0] at hV
 obtain ⟨rfl, rfl⟩ := trodVars_none hV
 refine ⟨ds, [], p ++ [], [], p, [], hW', ?_, ?_, ?_, adK he hle _, fun h => by cases h⟩
 ·rw [hfn, hr]
  exact trodAll_mk1 (shut_bool htb _)
 ·rw [hfn]
  refine DataW.TrodAll.respare (kids_rows hl hm) (slices_full_of P hz) (fun t ht => by simpa using List.all_eq_true.1 hrow t ht) (mR he (fun x hx => hlt x (List.mem_append_left _ hx)) hA) ?_
  intro x hx
  simpa using hlt x (List.mem_append_left _ hx)
 ·rw [hfn, hv0]
  rfl
theorem rI {f : FuncId} {fn : Func} {s : ChangeSpec} {args : List Value} {ds gs : List (DataW H)} {before : List MemPlace} {tb : TypeId}
  (hl : laidOutB P = true) (hm : mapsRowed P = true) (hz : ((List.range P.types.size).all fun t => match P.underlying t with | some (.slice e) => decide (0 < P.cellsOf e) | _ => true) = true)
  (hrow : (fn.params.toList.all fun t => decide (t < P.types.size)) = true) (hv0 : s.vars = []) (htb : P.underlying tb = some .bool) (hr : fn.resultTypes = #[tb])
  (hW : DataW.Whole enc P fn.params.toList s.vars false W args ds gs before)
  (hfn : s.fn H (ds ++ gs) = { results := [.lit (.bool true)], args := ds }) (h : Con P f args W fun r _ => r = .bool true) :
  Calls P f args.toArray W fun e W' => ∃ v, e = .returned v ∧ s.post enc P fn false true false false W args.toArray v W' := by
 refine (h.2 W (Sub.refl W)).mono ?_
 rintro e W' ⟨r, u', rfl, hst, _, rfl⟩
 exact ⟨_, rfl, tx (args := args.toArray) hl hm hz hrow hv0 htb hr hW hfn hst.ext hst.le⟩
theorem uW {α : Type} {R : α → Prop} {t e : TypeId} {sz base fuel : Nat} {sp : Nat → Bool} {held : Bool} {cs : List Value} {x : DataW H × List MemPlace} {encα : α → List Value} (ht : P.underlying t = some (.slice e)) (hc : P.cellsOf e = sz)
  (hsz : 0 < sz) (helt : ∀ n cs x, DataW.trod enc P W base sp held n e cs = some x → ∃ g, cs = encα g ∧ R g) (hlen : ∀ g, (encα g).length = sz) (h : DataW.trod enc P W base sp held fuel t cs = some x) :
  ∃ (p : Option Addr) (n c : Nat) (l : List α), cs = [.slice p n c] ∧ Sl W sz p n c (l.map encα) ∧ c ≤ maxLen ∧ (∀ g ∈ l, R g) ∧ ((x.1 = .nil ∧ n = 0) ∨ ∃ xs rest, x.1 = .slice xs rest ∧ xs.length = n) := by
 rcases Go.Deep.open_slice ht h with ⟨hcs, hx⟩ | ⟨a, len0, cap0, m, n, D, Pl, hcs, hb, hlc, hcm, hmm, hx, hi⟩
 ·cases hx
  exact ⟨none, 0, 0, [], hcs, Sl.none_ _ _, Nat.zero_le _, by simp, .inl ⟨rfl, rfl⟩⟩
 ·have hml : len0 ≤ m := by rw [hmm]; split <;> omega
  have hex : ∀ i, i < len0 → ∃ g, W.cells? base (a.add (i * P.cellsOf e)) (P.cellsOf e) = some (encα g) ∧ R g := by
   intro i hil
   obtain ⟨cs', h1, h2⟩ := hi i (by omega)
   obtain ⟨g, rfl, hR⟩ := helt _ _ _ h2
   exact ⟨g, h1, hR⟩
  have hl : ∃ l : List α, l.length = len0 ∧ (∀ g ∈ l, R g) ∧ ∀ i g, l[i]? = some g → W.cells? base (a.add (i * P.cellsOf e)) (P.cellsOf e) = some (encα g) := by
   have : ∀ k, k ≤ len0 → ∃ l : List α, l.length = k ∧ (∀ g ∈ l, R g) ∧ ∀ i g, l[i]? = some g → W.cells? base (a.add (i * P.cellsOf e)) (P.cellsOf e) = some (encα g) := by
    intro k
    induction k with
    | zero => intro _; exact ⟨[], rfl, by simp, fun i g h => by simp at h⟩
    | succ k ih =>
     intro hk
     obtain ⟨l, h1, hRl, h2⟩ := ih (by omega)
     obtain ⟨g, hg, hRg⟩ := hex k (by omega)
     refine ⟨l ++ [g], by simp [h1], fun g' hg' => ?_, fun i g' h => ?_⟩
     ·rcases List.mem_append.1 hg' with hg' | hg'
      ·exact hRl g' hg'
      ·simp at hg'; subst hg'; exact hRg
     by_cases hil : i < l.length
     ·rw [List.getElem?_append_left hil] at h; exact h2 i g' h
     ·have : i = k := by
       rcases Nat.lt_or_ge i (l ++ [g]).length with hlt | hge
       ·simp [h1] at hlt hil; omega
       ·rw [List.getElem?_eq_none hge] at h; cases h
      subst this
      rw [← h1] at h
      simp at h
      subst h
      exact hg
   exact this len0 (Nat.le_refl _)
  obtain ⟨l, hl1, hRl, hl2⟩ := hl
  have hspot : 0 < len0 → a.spot = none := by
   intro h0
   have hcl := hl2 0 l[0] (List.getElem?_eq_getElem (by omega))
   obtain ⟨_, hlen2, h1⟩ := World.cells?_some hcl
   have h2 := h1 0 (by rw [hc]; exact hsz)
   have hne : (encα l[0])[0]? = some (encα l[0])[0] := List.getElem?_eq_getElem (by rw [hlen]; exact hsz)
   rw [hne] at h2
   obtain ⟨_, _, _, _, hsp, _⟩ := eP h2
   simpa [Addr.add] using hsp
  cases hx
  refine ⟨some a, len0, cap0, l, hcs, ⟨by simp [hl1], hlc, ?_, (fun h => by cases h), ?_⟩, hcm, hRl, .inr ⟨_, _, rfl, by simp⟩⟩
  ·intro x hx
   obtain ⟨g, _, rfl⟩ := List.mem_map.1 hx
   exact hlen g
  ·intro a' ha'
   cases ha'
   refine ⟨hspot, fun i x hx j v hv => ?_⟩
   rw [List.getElem?_map, Option.map_eq_some_iff] at hx
   obtain ⟨g, hg, rfl⟩ := hx
   have hi0 : 0 < len0 := by
    rcases Nat.lt_or_ge i l.length with h | h
    ·omega
    ·rw [List.getElem?_eq_none h] at hg; cases hg
   have hcl := hl2 i g hg
   rw [hc] at hcl
   have hj : j < sz := by
    rcases Nat.lt_or_ge j (encα g).length with h | h
    ·rw [hlen] at h; exact h
    ·rw [List.getElem?_eq_none h] at hv; cases hv
   obtain ⟨_, _, h1⟩ := World.cells?_some hcl
   have h2 := h1 j hj
   rw [hv] at h2
   rw [← h2]
   have hs0 := hspot hi0
   obtain ⟨b, o, sp'⟩ := a
   cases hs0
   rw [Addr.add_lit, Addr.add_lit]
section
variable {w : World} {base : Nat} {spare : Nat → Bool} {held : Bool}
theorem trod_struct2 {t : TypeId} {f0 f1 : Field} {fuel : Nat} {cs : List Value} {x : DataW H × List MemPlace} (ht : P.underlying t = some (.struct #[f0, f1])) (h : DataW.trod enc P w base spare held fuel t cs = some x) :
  ∃ y0 y1 n, x = (.agg [y0.1, y1.1], y0.2 ++ y1.2) ∧ cs.length = P.cellsOf t ∧ DataW.trod enc P w base spare held n f0.type ((cs.drop f0.offset).take (P.cellsOf f0.type)) = some y0 ∧
   DataW.trod enc P w base spare held n f1.type ((cs.drop f1.offset).take (P.cellsOf f1.type)) = some y1 := by
 obtain ⟨xs, n, _, rfl, hl, hlen, hf⟩ := DataW.trod_struct ht h
 match xs, hlen with
 | [y0, y1], _ => exact ⟨y0, y1, n, by simp, hl, by simpa using hf 0 f0 rfl, by simpa using hf 1 f1 rfl⟩
theorem trod_struct3 {t : TypeId} {f0 f1 f2 : Field} {fuel : Nat} {cs : List Value} {x : DataW H × List MemPlace} (ht : P.underlying t = some (.struct #[f0, f1, f2])) (h : DataW.trod enc P w base spare held fuel t cs = some x) :
  ∃ y0 y1 y2 n, x = (.agg [y0.1, y1.1, y2.1], y0.2 ++ (y1.2 ++ y2.2)) ∧ cs.length = P.cellsOf t ∧ DataW.trod enc P w base spare held n f0.type ((cs.drop f0.offset).take (P.cellsOf f0.type)) = some y0 ∧
   DataW.trod enc P w base spare held n f1.type ((cs.drop f1.offset).take (P.cellsOf f1.type)) = some y1 ∧ DataW.trod enc P w base spare held n f2.type ((cs.drop f2.offset).take (P.cellsOf f2.type)) = some y2 := by
 obtain ⟨xs, n, _, rfl, hl, hlen, hf⟩ := DataW.trod_struct ht h
 match xs, hlen with
 | [y0, y1, y2], _ => exact ⟨y0, y1, y2, n, by simp, hl, by simpa using hf 0 f0 rfl, by simpa using hf 1 f1 rfl, by simpa using hf 2 f2 rfl⟩
theorem trod_struct4 {t : TypeId} {f0 f1 f2 f3 : Field} {fuel : Nat} {cs : List Value} {x : DataW H × List MemPlace} (ht : P.underlying t = some (.struct #[f0, f1, f2, f3])) (h : DataW.trod enc P w base spare held fuel t cs = some x) :
  ∃ y0 y1 y2 y3 n, x = (.agg [y0.1, y1.1, y2.1, y3.1], y0.2 ++ (y1.2 ++ (y2.2 ++ y3.2))) ∧ cs.length = P.cellsOf t ∧ DataW.trod enc P w base spare held n f0.type ((cs.drop f0.offset).take (P.cellsOf f0.type)) = some y0 ∧
   DataW.trod enc P w base spare held n f1.type ((cs.drop f1.offset).take (P.cellsOf f1.type)) = some y1 ∧ DataW.trod enc P w base spare held n f2.type ((cs.drop f2.offset).take (P.cellsOf f2.type)) = some y2 ∧
   DataW.trod enc P w base spare held n f3.type ((cs.drop f3.offset).take (P.cellsOf f3.type)) = some y3 := by
 obtain ⟨xs, n, _, rfl, hl, hlen, hf⟩ := DataW.trod_struct ht h
 match xs, hlen with
 | [y0, y1, y2, y3], _ => exact ⟨y0, y1, y2, y3, n, by simp, hl, by simpa using hf 0 f0 rfl, by simpa using hf 1 f1 rfl, by simpa using hf 2 f2 rfl, by simpa using hf 3 f3 rfl⟩
end
end
end Go.Eng

namespace Go.Proofs.YtlaefellhnkfbaaGreat.Ty
open Go.Eng
theorem mixed : Tryz.prog.follows .mixedOrders = true := by kernel_rfl
@[go_sem] theorem anV : kJ Tryz.prog 2 = some .i64 := by kernel_rfl
@[go_sem] theorem an4 : lay Tryz.prog 3 = some (false, 1) := by kernel_rfl
@[go_sem] theorem intK3 : kJ Tryz.prog 3 = some .i64 := by kernel_rfl
@[go_sem] theorem an5 : lay Tryz.prog 4 = some (false, 1) := by kernel_rfl
@[go_sem] theorem anW : cX Tryz.prog 4 = some [(.bool false)] := by kernel_rfl
@[go_sem] theorem an8 : Program.underlying Tryz.prog 4 = some .bool := by kernel_rfl
@[go_sem] theorem an7 : lay Tryz.prog 5 = some (false, 1) := by kernel_rfl
@[go_sem] theorem anA : kJ Tryz.prog 5 = some .u8 := by kernel_rfl
@[go_sem] theorem anN : lay Tryz.prog 21 = some (false, 1) := by kernel_rfl
@[go_sem] theorem amw : kJ Tryz.prog 21 = some .i32 := by kernel_rfl
@[go_sem] theorem anw : lay Tryz.prog 22 = some (false, 1) := by kernel_rfl
@[go_sem] theorem anS : esz Tryz.prog 22 = some 2 := by kernel_rfl
@[go_sem] theorem amn : eK Tryz.prog 22 = true := by kernel_rfl
@[go_sem] theorem anE : lay Tryz.prog 23 = some (false, 1) := by kernel_rfl
@[go_sem] theorem anL : esz Tryz.prog 23 = some 2 := by kernel_rfl
@[go_sem] theorem amT : eK Tryz.prog 23 = true := by kernel_rfl
@[go_sem] theorem anM : lay Tryz.prog 24 = some (false, 1) := by kernel_rfl
@[go_sem] theorem am5 : kJ Tryz.prog 24 = some .u32 := by kernel_rfl
@[go_sem] theorem anC : lay Tryz.prog 26 = some (true, 15) := by kernel_rfl
@[go_sem] theorem ajT : aV Tryz.prog 26 0 = some 0 := by kernel_rfl
@[go_sem] theorem aj8 : aV Tryz.prog 26 1 = some 1 := by kernel_rfl
@[go_sem] theorem akT : aV Tryz.prog 26 2 = some 2 := by kernel_rfl
@[go_sem] theorem alR : aV Tryz.prog 26 3 = some 3 := by kernel_rfl
@[go_sem] theorem akM : aV Tryz.prog 26 4 = some 4 := by kernel_rfl
@[go_sem] theorem akJ : aV Tryz.prog 26 5 = some 5 := by kernel_rfl
@[go_sem] theorem aj1 : aV Tryz.prog 26 6 = some 6 := by kernel_rfl
@[go_sem] theorem aki : aV Tryz.prog 26 7 = some 7 := by kernel_rfl
@[go_sem] theorem akz : aV Tryz.prog 26 8 = some 8 := by kernel_rfl
@[go_sem] theorem akS : aV Tryz.prog 26 9 = some 9 := by kernel_rfl
@[go_sem] theorem ajB : aV Tryz.prog 26 10 = some 10 := by kernel_rfl
@[go_sem] theorem ajH : aV Tryz.prog 26 11 = some 11 := by kernel_rfl
@[go_sem] theorem ajC : aV Tryz.prog 26 12 = some 12 := by kernel_rfl
@[go_sem] theorem ajn : aV Tryz.prog 26 13 = some 13 := by kernel_rfl
@[go_sem] theorem ajE : aV Tryz.prog 26 14 = some 14 := by kernel_rfl
@[go_sem] theorem ans : esz Tryz.prog 27 = some 22 := by kernel_rfl
@[go_sem] theorem amL : eK Tryz.prog 27 = true := by kernel_rfl
@[go_sem] theorem anX : lay Tryz.prog 30 = some (false, 1) := by kernel_rfl
@[go_sem] theorem amS : kJ Tryz.prog 30 = some .u16 := by kernel_rfl
@[go_sem] theorem an1 : lay Tryz.prog 31 = some (false, 1) := by kernel_rfl
@[go_sem] theorem amB : cX Tryz.prog 31 = some [(.slice none 0 0)] := by kernel_rfl
@[go_sem] theorem ant : esz Tryz.prog 31 = some 2 := by kernel_rfl
@[go_sem] theorem ani : eK Tryz.prog 31 = true := by kernel_rfl
@[go_sem] theorem el31 : cj Tryz.prog 31 145 2 8 = true := by kernel_rfl
@[go_sem] theorem ann : lay Tryz.prog 32 = some (false, 1) := by kernel_rfl
@[go_sem] theorem anu : esz Tryz.prog 32 = some 4 := by kernel_rfl
@[go_sem] theorem amM : eK Tryz.prog 32 = true := by kernel_rfl
@[go_sem] theorem el32 : cj Tryz.prog 32 34 4 32 = true := by kernel_rfl
@[go_sem] theorem anB : lay Tryz.prog 34 = some (true, 4) := by kernel_rfl
@[go_sem] theorem zero34 : cX Tryz.prog 34 = some [(.int .u8 0),(.int .u16 0),(.int .u8 0),(.slice none 0 0)] := by kernel_rfl
@[go_sem] theorem alQ : aV Tryz.prog 34 0 = some 0 := by kernel_rfl
@[go_sem] theorem akK : aV Tryz.prog 34 1 = some 1 := by kernel_rfl
@[go_sem] theorem ajL : aV Tryz.prog 34 2 = some 2 := by kernel_rfl
@[go_sem] theorem akZ : aV Tryz.prog 34 3 = some 3 := by kernel_rfl
@[go_sem] theorem ano : lay Tryz.prog 36 = some (true, 10) := by kernel_rfl
@[go_sem] theorem ajN : aV Tryz.prog 36 0 = some 0 := by kernel_rfl
@[go_sem] theorem ajV : aV Tryz.prog 36 1 = some 1 := by kernel_rfl
@[go_sem] theorem alJ : aV Tryz.prog 36 2 = some 2 := by kernel_rfl
@[go_sem] theorem ald : aV Tryz.prog 36 3 = some 6 := by kernel_rfl
@[go_sem] theorem anz : lay Tryz.prog 38 = some (true, 4) := by kernel_rfl
@[go_sem] theorem akn : aV Tryz.prog 38 0 = some 0 := by kernel_rfl
@[go_sem] theorem aky : aV Tryz.prog 38 1 = some 1 := by kernel_rfl
@[go_sem] theorem akC : aV Tryz.prog 38 2 = some 2 := by kernel_rfl
@[go_sem] theorem alb : aV Tryz.prog 38 3 = some 3 := by kernel_rfl
@[go_sem] theorem anr : lay Tryz.prog 39 = some (false, 1) := by kernel_rfl
@[go_sem] theorem anU : esz Tryz.prog 39 = some 3 := by kernel_rfl
@[go_sem] theorem am9 : eK Tryz.prog 39 = true := by kernel_rfl
@[go_sem] theorem anQ : lay Tryz.prog 40 = some (false, 1) := by kernel_rfl
@[go_sem] theorem anI : esz Tryz.prog 40 = some 3 := by kernel_rfl
@[go_sem] theorem amh : eK Tryz.prog 40 = true := by kernel_rfl
@[go_sem] theorem anq : lay Tryz.prog 41 = some (false, 1) := by kernel_rfl
@[go_sem] theorem ami : eK Tryz.prog 41 = true := by kernel_rfl
@[go_sem] theorem an2 : lay Tryz.prog 43 = some (false, 1) := by kernel_rfl
@[go_sem] theorem anJ : esz Tryz.prog 43 = some 1 := by kernel_rfl
@[go_sem] theorem ams : eK Tryz.prog 43 = true := by kernel_rfl
@[go_sem] theorem anD : lay Tryz.prog 44 = some (false, 1) := by kernel_rfl
@[go_sem] theorem anF : esz Tryz.prog 44 = some 5 := by kernel_rfl
@[go_sem] theorem anj : eK Tryz.prog 44 = true := by kernel_rfl
@[go_sem] theorem alK : aV Tryz.prog 46 1 = some 1 := by kernel_rfl
@[go_sem] theorem anH : lay Tryz.prog 47 = some (false, 1) := by kernel_rfl
@[go_sem] theorem am_ : eK Tryz.prog 47 = true := by kernel_rfl
@[go_sem] theorem anP : lay Tryz.prog 49 = some (true, 32) := by kernel_rfl
@[go_sem] theorem ako : aV Tryz.prog 49 0 = some 0 := by kernel_rfl
@[go_sem] theorem alP : aV Tryz.prog 49 1 = some 1 := by kernel_rfl
@[go_sem] theorem akm : aV Tryz.prog 49 2 = some 2 := by kernel_rfl
@[go_sem] theorem akA : aV Tryz.prog 49 3 = some 3 := by kernel_rfl
@[go_sem] theorem ak1 : aV Tryz.prog 49 4 = some 4 := by kernel_rfl
@[go_sem] theorem alH : aV Tryz.prog 49 5 = some 5 := by kernel_rfl
@[go_sem] theorem ala : aV Tryz.prog 49 6 = some 6 := by kernel_rfl
@[go_sem] theorem ale : aV Tryz.prog 49 7 = some 16 := by kernel_rfl
@[go_sem] theorem ajJ : aV Tryz.prog 49 8 = some 20 := by kernel_rfl
@[go_sem] theorem ajk : aV Tryz.prog 49 10 = some 22 := by kernel_rfl
@[go_sem] theorem ajo : aV Tryz.prog 49 12 = some 24 := by kernel_rfl
@[go_sem] theorem ajA : aV Tryz.prog 49 13 = some 25 := by kernel_rfl
@[go_sem] theorem ajm : aV Tryz.prog 49 14 = some 26 := by kernel_rfl
@[go_sem] theorem ajv : aV Tryz.prog 49 15 = some 28 := by kernel_rfl
@[go_sem] theorem anv : lay Tryz.prog 52 = some (false, 1) := by kernel_rfl
@[go_sem] theorem an3 : esz Tryz.prog 52 = some 17 := by kernel_rfl
@[go_sem] theorem am8 : eK Tryz.prog 52 = true := by kernel_rfl
@[go_sem] theorem anp : lay Tryz.prog 59 = some (true, 3) := by kernel_rfl
@[go_sem] theorem anT : lay Tryz.prog 60 = some (false, 1) := by kernel_rfl
@[go_sem] theorem anK : lay Tryz.prog 61 = some (false, 1) := by kernel_rfl
@[go_sem] theorem anY : esz Tryz.prog 61 = some 1 := by kernel_rfl
@[go_sem] theorem amU : eK Tryz.prog 61 = true := by kernel_rfl
@[go_sem] theorem an0 : lay Tryz.prog 63 = some (true, 5) := by kernel_rfl
@[go_sem] theorem akL : aV Tryz.prog 63 0 = some 0 := by kernel_rfl
@[go_sem] theorem ak7 : aV Tryz.prog 63 1 = some 3 := by kernel_rfl
@[go_sem] theorem akr : aV Tryz.prog 63 2 = some 4 := by kernel_rfl
@[go_sem] theorem ajP : aV Tryz.prog 64 0 = some 0 := by kernel_rfl
@[go_sem] theorem anR : lay Tryz.prog 67 = some (true, 17) := by kernel_rfl
@[go_sem] theorem akO : aV Tryz.prog 67 0 = some 0 := by kernel_rfl
@[go_sem] theorem alq : aV Tryz.prog 67 1 = some 1 := by kernel_rfl
@[go_sem] theorem akt : aV Tryz.prog 67 2 = some 2 := by kernel_rfl
@[go_sem] theorem alC : aV Tryz.prog 67 3 = some 3 := by kernel_rfl
@[go_sem] theorem alO : aV Tryz.prog 67 4 = some 4 := by kernel_rfl
@[go_sem] theorem akI : aV Tryz.prog 67 5 = some 5 := by kernel_rfl
@[go_sem] theorem anO : lay Tryz.prog 71 = some (true, 3) := by kernel_rfl
@[go_sem] theorem aln : aV Tryz.prog 71 0 = some 0 := by kernel_rfl
@[go_sem] theorem akV : aV Tryz.prog 71 1 = some 1 := by kernel_rfl
@[go_sem] theorem akH : aV Tryz.prog 71 2 = some 2 := by kernel_rfl
@[go_sem] theorem anG : lay Tryz.prog 73 = some (false, 1) := by kernel_rfl
@[go_sem] theorem anx : esz Tryz.prog 73 = some 1 := by kernel_rfl
@[go_sem] theorem ang : eK Tryz.prog 73 = true := by kernel_rfl
@[go_sem] theorem anm : lay Tryz.prog 75 = some (true, 22) := by kernel_rfl
@[go_sem] theorem alD : aV Tryz.prog 75 0 = some 0 := by kernel_rfl
@[go_sem] theorem alh : aV Tryz.prog 75 1 = some 1 := by kernel_rfl
@[go_sem] theorem akv : aV Tryz.prog 75 2 = some 2 := by kernel_rfl
@[go_sem] theorem akD : aV Tryz.prog 75 3 = some 3 := by kernel_rfl
@[go_sem] theorem ajU : aV Tryz.prog 75 4 = some 4 := by kernel_rfl
@[go_sem] theorem ajQ : aV Tryz.prog 75 5 = some 21 := by kernel_rfl
@[go_sem] theorem ajG : aV Tryz.prog 105 0 = some 0 := by kernel_rfl
@[go_sem] theorem ajy : aV Tryz.prog 105 1 = some 15 := by kernel_rfl
@[go_sem] theorem ajp : aV Tryz.prog 105 2 = some 47 := by kernel_rfl
@[go_sem] theorem ajs : aV Tryz.prog 105 3 = some 64 := by kernel_rfl
@[go_sem] theorem ajw : aV Tryz.prog 105 4 = some 65 := by kernel_rfl
@[go_sem] theorem ajr : aV Tryz.prog 105 5 = some 66 := by kernel_rfl
@[go_sem] theorem anh : esz Tryz.prog 112 = some 1 := by kernel_rfl
@[go_sem] theorem alY : eK Tryz.prog 112 = true := by kernel_rfl
@[go_sem] theorem amA : lay Tryz.prog 130 = some (false, 1) := by kernel_rfl
@[go_sem] theorem alT : kJ Tryz.prog 130 = some .u64 := by kernel_rfl
@[go_sem] theorem aml : lay Tryz.prog 145 = some (true, 2) := by kernel_rfl
@[go_sem] theorem alS : cX Tryz.prog 145 = some [(.int .i32 0),(.int .i32 0)] := by kernel_rfl
@[go_sem] theorem ajt : aV Tryz.prog 145 0 = some 0 := by kernel_rfl
@[go_sem] theorem ajl : aV Tryz.prog 145 1 = some 1 := by kernel_rfl
@[go_sem] theorem al_ : kJ Tryz.prog 162 = some .u64 := by kernel_rfl
@[go_sem] theorem amy : esz Tryz.prog 200 = some 5 := by kernel_rfl
@[go_sem] theorem al7 : eK Tryz.prog 200 = true := by kernel_rfl
@[go_sem] theorem amP : lay Tryz.prog 203 = some (true, 5) := by kernel_rfl
@[go_sem] theorem ajF : aV Tryz.prog 203 0 = some 0 := by kernel_rfl
@[go_sem] theorem ajz : aV Tryz.prog 203 1 = some 4 := by kernel_rfl
@[go_sem] theorem amq : lay Tryz.prog 238 = some (true, 1024) := by kernel_rfl
@[go_sem] theorem amr : lay Tryz.prog 245 = some (false, 1) := by kernel_rfl
@[go_sem] theorem alV : kJ Tryz.prog 245 = some .u64 := by kernel_rfl
@[go_sem] theorem anf : esz Tryz.prog 260 = some 1 := by kernel_rfl
@[go_sem] theorem amd : eK Tryz.prog 260 = true := by kernel_rfl
theorem xa : Tryz.prog.eqGuardType Tryz.prog.depth 145 = false := by kernel_rfl
theorem adz (a0 a1 b0 b1 : Int) (w : World) : (binOp .eql 145 (.agg #[.int .i32 a0, .int .i32 a1]) (.agg #[.int .i32 b0, .int .i32 b1])).run Tryz.prog w = .ok (.bool (a0 == b0 && (a1 == b1))) w := by
 go_simp
 by_cases h0 : a0 = b0 <;> by_cases h1 : a1 = b1 <;> simp [*]
@[go_sem] theorem amk {a0 a1 b0 b1 : Int} {y z : Operand} {K : Value → Prop} : AtPure Tryz.prog (bj .eql 145 y z (.agg #[.int .i32 a0, .int .i32 a1]) (.agg #[.int .i32 b0, .int .i32 b1])) K = K (.bool (a0 == b0 && (a1 == b1))) :=
 aC fun w => by simp only [bj, eqGuard, Sem.run_bind, Sem.run_pure, Result.andThen_ok, Bool.not_true, Bool.false_eq_true, if_false, run_program, xa, Bool.not_false, if_true, adz]
end Go.Proofs.YtlaefellhnkfbaaGreat.Ty
