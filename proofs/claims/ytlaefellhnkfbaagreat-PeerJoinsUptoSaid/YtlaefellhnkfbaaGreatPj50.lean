/-
 Part 50 of the proof of Pj: the engine and the walks, in their order.
-/
import Derived.Test.YtlaefellhnkfbaaGreatPj9
import Derived.Test.YtlaefellhnkfbaaGreatPj17
import Derived.Test.YtlaefellhnkfbaaGreatRows
set_option linter.unusedSimpArgs false
set_option linter.unusedVariables false
namespace Go.Eng
open Go.ChangeShapes Go.WideShapes Go.RowKit
section
variable {H : Type} {enc : TypeId × Value → H} {P : Program} {W : World}
theorem HVss.choose {α : Type} {R : α → Prop} {encα : α → List DV} {us : World} : ∀ {V : List (List Value)}, (∀ cs ∈ V, ∃ g : α, HVs us (encα g) noB cs ∧ R g) → ∃ l : List α, HVss us (l.map encα) V ∧ ∀ g ∈ l, R g
 | [], _ => ⟨[], rfl, by simp⟩
 | cs :: V, h => by
  obtain ⟨g, h1, h2⟩ := h cs List.mem_cons_self
  obtain ⟨l, h3, h4⟩ := HVss.choose (V := V) (fun c hc => h c (List.mem_cons_of_mem _ hc))
  exact ⟨g :: l, ⟨cs, V, rfl, h1, h3⟩, fun x hx => by
   rcases List.mem_cons.1 hx with rfl | hx
   ·exact h2
   ·exact h4 x hx⟩
theorem sJ {α : Type} {R : α → Prop} {Q : DataW H → Prop} {t e : TypeId} {sz base fuel : Nat} {sp : Nat → Bool} {held : Bool} {cs : List Value} {x : DataW H × List MemPlace} {encα : α → List DV} (ht : P.underlying t = some (.slice e)) (hc : P.cellsOf e = sz)
  (hsz : 0 < sz) (hone : ∀ g, onesD (encα g) = true) (hlen : ∀ g, (encα g).length = sz) (hQ : ∀ xs rest, x.1 = .slice xs rest → ∀ d ∈ xs, Q d) (helt : ∀ n cs x, DataW.trod enc P W base sp held n e cs = some x → Q x.1 → ∃ g, HVs W (encα g) noB cs ∧ R g)
  (h : DataW.trod enc P W base sp held fuel t cs = some x) : ∃ l : List α, HVs W [.fz sz (l.map encα)] noB cs ∧ (∀ g ∈ l, R g) ∧ l.length ≤ 9223372036854775807 ∧ ((x.1 = .nil ∧ l.length = 0) ∨ ∃ xs rest, x.1 = .slice xs rest ∧ xs.length = l.length) := by
 obtain ⟨p, n, c, l, rfl, hs, hcm, hR, hxl⟩ := tR (Q := Q) (α := {cs : List Value // cs.length = sz}) (R := fun cs => ∃ g, HVs W (encα g) noB cs.1 ∧ R g) (encα := fun cs => cs.1) ht hc hsz hQ
  (fun n cs x h hq => by
   obtain ⟨g, h1, h2⟩ := helt n cs x h hq
   exact ⟨⟨cs, by rw [h1.length, hlen]⟩, rfl, g, h1, h2⟩) (fun g => g.2) h
 obtain ⟨l', h1, h2⟩ := HVss.choose (us := W) (R := R) (encα := encα) (V := l.map fun cs => cs.1) (fun cs hcs => by
  obtain ⟨y, hy, rfl⟩ := List.mem_map.1 hcs
  exact hR y hy)
 have hl := h1.length
 have hcap := hs.cap
 have hln := hs.len
 simp only [maxLen] at hcm
 refine ⟨l', ⟨_, [], rfl, ⟨p, n, c, _, rfl, hs, fun y hy => ?_, h1⟩, rfl⟩, h2, ?_, ?_⟩
 ·refine HVs.allOnes_ h1 (fun y hy => ?_) y hy
  obtain ⟨g, _, rfl⟩ := List.mem_map.1 hy
  exact hone g
 ·simp only [List.length_map] at hl hln
  omega
 ·have e : l'.length = n := by simp only [List.length_map] at hl hln; omega
  rw [e]; exact hxl
theorem tf {b0 : Nat} {t : TypeId} {fs : Array Field} {v : Value} {ds : List DV} (ht : P.underlying t = some (.struct fs)) (hval : Value.okWide P W .any b0 t v) (h : HVs W ds noB v.cells.toList) : HV W (.agg ds) noB v := by
 obtain ⟨cs, rfl, hs⟩ := okWide_struct ht hval
 exact ⟨cs.toList, by simp, h⟩
theorem HV.plain {x : Value} (h : plain x = true) : HV W (.v x) noB x := ⟨rfl, h⟩
theorem HVs.cons {d : DV} {ds : List DV} {v : Value} {V : List Value} (h1 : HV W d noB v) (h2 : HVs W ds noB V) : HVs W (d :: ds) noB (v :: V) := ⟨v, V, rfl, h1, h2⟩
theorem Con2.con {f : FuncId} {fargs : List DV} {vs : List Value} (h : Con2 P f fargs (· = plR (.v (.bool true)))) (hv : HVs W fargs noB vs) : Con P f vs W (fun r _ => r = .bool true) := by
 obtain ⟨h1, h2⟩ := h W vs hv
 refine ⟨h1, fun w hw => (h2 w hw).mono ?_⟩
 rintro e w' ⟨r, u', rfl, hst, hs, r', rfl, β, us, s, hr, hg⟩
 have h0 := hr.slot 0
 rw [hg] at h0
 obtain ⟨w0, e0, hd⟩ : ∃ w, SV.v r = .v w ∧ HV us (.v (.bool true)) β w := h0
 cases e0
 exact ⟨r, u', rfl, hst, hs, hd.1⟩
end
end Go.Eng

namespace Go.Eng
open Go.ChangeShapes Go.WideShapes Go.RowKit
structure Sml {H : Type} (B : DataW H → Prop) (N : Nat) : Prop where
 agg : ∀ ds, B (.agg ds) → ∀ d ∈ ds, B d
 sl : ∀ es sp, B (.slice es sp) → (∀ d ∈ es, B d) ∧ es.length ≤ N
def ajY : List Field → Nat → (Field → Prop) → Prop
 | [], _, _ => True
 | f :: _, 0, K => K f
 | _ :: r, i + 1, K => ajY r i K
theorem aan {K : Field → Prop} : ∀ {l : List Field} {i : Nat}, (∀ f, l[i]? = some f → K f) → ajY l i K
 | [], _, _ => trivial
 | f :: _, 0, h => h f rfl
 | _ :: r, i + 1, h => aan (l := r) (i := i) (fun f hf => h f hf)
section
variable {H : Type} {enc : TypeId × Value → H} {P : Program} {w : World} {base : Nat} {spare : Nat → Bool} {held : Bool} {B : DataW H → Prop} {N : Nat}
theorem cj (hB : Sml B N) {t : TypeId} {fs : Array Field} {fuel : Nat} {cs : List Value} {x : DataW H × List MemPlace} (ht : P.underlying t = some (.struct fs)) (hb : B x.1) (h : DataW.trod enc P w base spare held fuel t cs = some x) :
  cs.length = P.cellsOf t ∧ ∀ (i : Nat), ajY fs.toList i fun f => ∃ y n, DataW.trod enc P w base spare held n f.type ((cs.drop f.offset).take (P.cellsOf f.type)) = some y ∧ B y.1 := by
 obtain ⟨xs, n, _, rfl, hl, hlen, hf⟩ := DataW.trod_struct ht h
 refine ⟨hl, fun i => aan fun f hi => ?_⟩
 have hi : fs[i]? = some f := by simpa using hi
 have h1 := hf i f hi
 have h2 : i < xs.length := by rw [hlen]; exact (Array.getElem?_eq_some_iff.1 hi).1
 rw [List.getElem?_eq_getElem h2] at h1
 exact ⟨_, n, h1, hB.agg _ hb _ (List.mem_map.2 ⟨_, List.getElem_mem h2, rfl⟩)⟩
theorem bP (hB : Sml B N) {α : Type} {R : α → Prop} {t e : TypeId} {sz fuel : Nat} {cs : List Value} {x : DataW H × List MemPlace} {encα : α → List DV} (ht : P.underlying t = some (.slice e)) (hc : P.cellsOf e = sz)
  (hsz : 0 < sz) (hone : ∀ g, onesD (encα g) = true) (hlen : ∀ g, (encα g).length = sz) (hb : B x.1) (helt : ∀ n cs x, DataW.trod enc P w base spare held n e cs = some x → B x.1 → ∃ g, HVs w (encα g) noB cs ∧ R g)
  (h : DataW.trod enc P w base spare held fuel t cs = some x) : ∃ l : List α, HVs w [.fz sz (l.map encα)] noB cs ∧ (∀ g ∈ l, R g) ∧ l.length ≤ N := by
 obtain ⟨l, h1, h2, _, h4⟩ := sJ (Q := B) ht hc hsz hone hlen (fun xs rest e d hd => by rw [e] at hb; exact (hB.sl _ _ hb).1 d hd) helt h
 refine ⟨l, h1, h2, ?_⟩
 rcases h4 with ⟨_, h4⟩ | ⟨xs, rest, e, h4⟩
 ·omega
 ·rw [e] at hb
  have := (hB.sl _ _ hb).2
  omega
end
end Go.Eng

namespace Go.Proofs.YtlaefellhnkfbaaGreat
open Go.Eng Go.ChangeShapes Go.WideShapes Go.RowKit
theorem afw {n : Int} (h : (Lit.int .u8 n).wf = true) : ∃ x : UInt8, n = x.toNat := by
 have hx : 0 ≤ n ∧ n ≤ 255 := by simpa [Lit.wf, IntKind.min, IntKind.max, IntKind.signed, IntKind.bits] using h
 refine ⟨UInt8.ofNat n.toNat, ?_⟩
 rw [UInt8.toNat_ofNat']
 omega
theorem akZ {n : Int} (h : (Lit.int .u16 n).wf = true) : ∃ x : UInt16, n = x.toNat := by
 have hx : 0 ≤ n ∧ n ≤ 65535 := by simpa [Lit.wf, IntKind.min, IntKind.max, IntKind.signed, IntKind.bits] using h
 refine ⟨UInt16.ofNat n.toNat, ?_⟩
 rw [UInt16.toNat_ofNat']
 omega
theorem akL {n : Int} (h : (Lit.int .u32 n).wf = true) : ∃ x : UInt32, n = x.toNat := by
 have hx : 0 ≤ n ∧ n ≤ 4294967295 := by simpa [Lit.wf, IntKind.min, IntKind.max, IntKind.signed, IntKind.bits] using h
 refine ⟨UInt32.ofNat n.toNat, ?_⟩
 rw [UInt32.toNat_ofNat']
 omega
theorem akd {n : Int} (h : (Lit.int .i64 n).wf = true) : -9223372036854775808 ≤ n ∧ n ≤ 9223372036854775807 := by
 simpa [Lit.wf, IntKind.min, IntKind.max, IntKind.signed, IntKind.bits] using h
theorem own : ownKnob Tryz.prog.godebug = none := by kernel_rfl
theorem laid : laidOutB Tryz.prog = true := by kernel_rfl
theorem als : mapsRowed Tryz.prog = true := by kernel_rfl
theorem full : ((List.range Tryz.prog.types.size).all fun t => match Tryz.prog.underlying t with | some (.slice e) => decide (0 < Tryz.prog.cellsOf e) | _ => true) = true := by kernel_rfl
end Go.Proofs.YtlaefellhnkfbaaGreat
