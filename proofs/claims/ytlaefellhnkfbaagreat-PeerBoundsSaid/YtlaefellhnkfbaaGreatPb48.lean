/-
 bF 48 of the proof of Pb: the engine and the walks, in their order.
-/
import Derived.Test.YtlaefellhnkfbaaGreatPb9
import Derived.Test.YtlaefellhnkfbaaGreatPb17
import Derived.Test.YtlaefellhnkfbaaGreatRows
set_option linter.unusedSimpArgs false
set_option linter.unusedVariables false
namespace Go.Eng
open Go.ChangeShapes Go.WideShapes Go.RowKit
section
variable {H : Type} {enc : TypeId × Value → H} {P : Program} {W : World}
theorem HVss.choose {α : Type} {R : α → Prop} {encα : α → List DV} {us : World} : ∀ {V : List (List Value)}, (∀ cs ∈ V, ∃ g : α, HVs us (encα g) noB cs ∧ R g) → ∃ l : List α, HVss us (l.map encα) V ∧ ∀ g ∈ l, R g
 | [], _ => ⟨[], rfl, by simp⟩
 | cs :: V, h => by
  obtain ⟨g, h1, h2⟩ := h cs List.mem_cons_self
  obtain ⟨l, h3, h4⟩ := HVss.choose (V := V) (fun c hc => h c (List.mem_cons_of_mem _ hc))
  exact ⟨g :: l, ⟨cs, V, rfl, h1, h3⟩, fun x hx => by
   rcases List.mem_cons.1 hx with rfl | hx
   ·exact h2
   ·exact h4 x hx⟩
theorem bW {α : Type} {R : α → Prop} {t e : TypeId} {sz base fuel : Nat} {sp : Nat → Bool} {held : Bool} {cs : List Value} {x : DataW H × List MemPlace} {encα : α → List DV} (ht : P.underlying t = some (.slice e)) (hc : P.cellsOf e = sz)
  (hsz : 0 < sz) (hone : ∀ g, onesD (encα g) = true) (hlen : ∀ g, (encα g).length = sz) (helt : ∀ n cs x, DataW.trod enc P W base sp held n e cs = some x → ∃ g, HVs W (encα g) noB cs ∧ R g)
  (h : DataW.trod enc P W base sp held fuel t cs = some x) : ∃ l : List α, HVs W [.fz sz (l.map encα)] noB cs ∧ (∀ g ∈ l, R g) ∧ l.length ≤ 9223372036854775807 := by
 obtain ⟨p, n, c, l, rfl, hs, hcm, hR, _⟩ := uW (α := {cs : List Value // cs.length = sz}) (R := fun cs => ∃ g, HVs W (encα g) noB cs.1 ∧ R g) (encα := fun cs => cs.1) ht hc hsz
  (fun n cs x h => by
   obtain ⟨g, h1, h2⟩ := helt n cs x h
   exact ⟨⟨cs, by rw [h1.length, hlen]⟩, rfl, g, h1, h2⟩) (fun g => g.2) h
 obtain ⟨l', h1, h2⟩ := HVss.choose (us := W) (R := R) (encα := encα) (V := l.map fun cs => cs.1) (fun cs hcs => by
  obtain ⟨y, hy, rfl⟩ := List.mem_map.1 hcs
  exact hR y hy)
 have hl := h1.length
 have hcap := hs.cap
 have hln := hs.len
 simp only [maxLen] at hcm
 refine ⟨l', ⟨_, [], rfl, ⟨p, n, c, _, rfl, hs, fun y hy => ?_, h1⟩, rfl⟩, h2, ?_⟩
 ·refine HVs.allOnes_ h1 (fun y hy => ?_) y hy
  obtain ⟨g, _, rfl⟩ := List.mem_map.1 hy
  exact hone g
 ·simp only [List.length_map] at hl hln
  omega
theorem wr {α : Type} {R : α → Prop} {t e : TypeId} {sz base b0 : Nat} {sp : Nat → Bool} {held : Bool} {v : Value} {d : DataW H} {ps : List MemPlace} {encα : α → List DV} (ht : P.underlying t = some (.slice e)) (hc : P.cellsOf e = sz)
  (hsz : 0 < sz) (hval : Value.okWide P W .any b0 t v) (hone : ∀ g, onesD (encα g) = true) (hlen : ∀ g, (encα g).length = sz) (helt : ∀ n cs x, DataW.trod enc P W base sp held n e cs = some x → ∃ g, HVs W (encα g) noB cs ∧ R g)
  (h : DataW.Trod enc P W base sp held t v d ps) : ∃ l : List α, HV W (.fz sz (l.map encα)) noB v ∧ (∀ g ∈ l, R g) ∧ l.length ≤ 9223372036854775807 := by
 obtain ⟨a0, len0, cap0, rfl⟩ := okWide_slice ht hval
 obtain ⟨fuel, hf⟩ := h
 obtain ⟨l, ⟨v, V, e1, h1, h2⟩, h3, h4⟩ := bW ht hc hsz hone hlen helt hf
 have : v = .slice a0 len0 cap0 := by
  have : [Value.slice a0 len0 cap0] = v :: V := e1
  cases this; rfl
 subst this
 exact ⟨l, h1, h3, h4⟩
theorem rq {b0 : Nat} {t : TypeId} {fs : Array Field} {v : Value} {ds : List DV} (ht : P.underlying t = some (.struct fs)) (hval : Value.okWide P W .any b0 t v) (h : HVs W ds noB v.cells.toList) : HV W (.agg ds) noB v := by
 obtain ⟨cs, rfl, hs⟩ := okWide_struct ht hval
 exact ⟨cs.toList, by simp, h⟩
theorem HV.plain {x : Value} (h : plain x = true) : HV W (.v x) noB x := ⟨rfl, h⟩
theorem HVs.cons {d : DV} {ds : List DV} {v : Value} {V : List Value} (h1 : HV W d noB v) (h2 : HVs W ds noB V) : HVs W (d :: ds) noB (v :: V) := ⟨v, V, rfl, h1, h2⟩
theorem Con2.con {f : FuncId} {fargs : List DV} {vs : List Value} (h : Con2 P f fargs (· = plR (.v (.bool true)))) (hv : HVs W fargs noB vs) : Con P f vs W (fun r _ => r = .bool true) := by
 obtain ⟨h1, h2⟩ := h W vs hv
 refine ⟨h1, fun w hw => (h2 w hw).mono ?_⟩
 rintro e w' ⟨r, u', rfl, hst, hs, r', rfl, β, us, s, hr, hg⟩
 have h0 := hr.slot 0
 rw [hg] at h0
 obtain ⟨w0, e0, hd⟩ : ∃ w, SV.v r = .v w ∧ HV us (.v (.bool true)) β w := h0
 cases e0
 exact ⟨r, u', rfl, hst, hs, hd.1⟩
end
end Go.Eng

namespace Go.Eng
open Go.ChangeShapes Go.WideShapes Go.RowKit
section
variable {H : Type} {enc : TypeId × Value → H} {P : Program} {w : World} {base : Nat} {spare : Nat → Bool} {held : Bool}
theorem trod_struct6 {t : TypeId} {f0 f1 f2 f3 f4 f5 : Field} {fuel : Nat} {cs : List Value} {x : DataW H × List MemPlace} (ht : P.underlying t = some (.struct #[f0, f1, f2, f3, f4, f5])) (h : DataW.trod enc P w base spare held fuel t cs = some x) :
  ∃ y0 y1 y2 y3 y4 y5 n, cs.length = P.cellsOf t ∧ DataW.trod enc P w base spare held n f0.type ((cs.drop f0.offset).take (P.cellsOf f0.type)) = some y0 ∧ DataW.trod enc P w base spare held n f1.type ((cs.drop f1.offset).take (P.cellsOf f1.type)) = some y1 ∧ DataW.trod enc P w base spare held n f2.type ((cs.drop f2.offset).take (P.cellsOf f2.type)) = some y2 ∧ DataW.trod enc P w base spare held n f3.type ((cs.drop f3.offset).take (P.cellsOf f3.type)) = some y3 ∧ DataW.trod enc P w base spare held n f4.type ((cs.drop f4.offset).take (P.cellsOf f4.type)) = some y4 ∧ DataW.trod enc P w base spare held n f5.type ((cs.drop f5.offset).take (P.cellsOf f5.type)) = some y5 := by
 obtain ⟨xs, n, _, rfl, hl, hlen, hf⟩ := DataW.trod_struct ht h
 match xs, hlen with
 | [y0, y1, y2, y3, y4, y5], _ => exact ⟨y0, y1, y2, y3, y4, y5, n, hl, by simpa using hf 0 f0 rfl, by simpa using hf 1 f1 rfl, by simpa using hf 2 f2 rfl, by simpa using hf 3 f3 rfl, by simpa using hf 4 f4 rfl, by simpa using hf 5 f5 rfl⟩
theorem trod_struct11 {t : TypeId} {f0 f1 f2 f3 f4 f5 f6 f7 f8 f9 f10 : Field} {fuel : Nat} {cs : List Value} {x : DataW H × List MemPlace} (ht : P.underlying t = some (.struct #[f0, f1, f2, f3, f4, f5, f6, f7, f8, f9, f10])) (h : DataW.trod enc P w base spare held fuel t cs = some x) :
  ∃ y0 y1 y2 y3 y4 y5 y6 y7 y8 y9 y10 n, cs.length = P.cellsOf t ∧ DataW.trod enc P w base spare held n f0.type ((cs.drop f0.offset).take (P.cellsOf f0.type)) = some y0 ∧ DataW.trod enc P w base spare held n f1.type ((cs.drop f1.offset).take (P.cellsOf f1.type)) = some y1 ∧ DataW.trod enc P w base spare held n f2.type ((cs.drop f2.offset).take (P.cellsOf f2.type)) = some y2 ∧ DataW.trod enc P w base spare held n f3.type ((cs.drop f3.offset).take (P.cellsOf f3.type)) = some y3 ∧ DataW.trod enc P w base spare held n f4.type ((cs.drop f4.offset).take (P.cellsOf f4.type)) = some y4 ∧ DataW.trod enc P w base spare held n f5.type ((cs.drop f5.offset).take (P.cellsOf f5.type)) = some y5 ∧ DataW.trod enc P w base spare held n f6.type ((cs.drop f6.offset).take (P.cellsOf f6.type)) = some y6 ∧ DataW.trod enc P w base spare held n f7.type ((cs.drop f7.offset).take (P.cellsOf f7.type)) = some y7 ∧ DataW.trod enc P w base spare held n f8.type ((cs.drop f8.offset).take (P.cellsOf f8.type)) = some y8 ∧ DataW.trod enc P w base spare held n f9.type ((cs.drop f9.offset).take (P.cellsOf f9.type)) = some y9 ∧ DataW.trod enc P w base spare held n f10.type ((cs.drop f10.offset).take (P.cellsOf f10.type)) = some y10 := by
 obtain ⟨xs, n, _, rfl, hl, hlen, hf⟩ := DataW.trod_struct ht h
 match xs, hlen with
 | [y0, y1, y2, y3, y4, y5, y6, y7, y8, y9, y10], _ => exact ⟨y0, y1, y2, y3, y4, y5, y6, y7, y8, y9, y10, n, hl, by simpa using hf 0 f0 rfl, by simpa using hf 1 f1 rfl, by simpa using hf 2 f2 rfl, by simpa using hf 3 f3 rfl, by simpa using hf 4 f4 rfl, by simpa using hf 5 f5 rfl, by simpa using hf 6 f6 rfl, by simpa using hf 7 f7 rfl, by simpa using hf 8 f8 rfl, by simpa using hf 9 f9 rfl, by simpa using hf 10 f10 rfl⟩
theorem trod_struct15 {t : TypeId} {f0 f1 f2 f3 f4 f5 f6 f7 f8 f9 f10 f11 f12 f13 f14 : Field} {fuel : Nat} {cs : List Value} {x : DataW H × List MemPlace} (ht : P.underlying t = some (.struct #[f0, f1, f2, f3, f4, f5, f6, f7, f8, f9, f10, f11, f12, f13, f14])) (h : DataW.trod enc P w base spare held fuel t cs = some x) :
  ∃ y0 y1 y2 y3 y4 y5 y6 y7 y8 y9 y10 y11 y12 y13 y14 n, cs.length = P.cellsOf t ∧ DataW.trod enc P w base spare held n f0.type ((cs.drop f0.offset).take (P.cellsOf f0.type)) = some y0 ∧ DataW.trod enc P w base spare held n f1.type ((cs.drop f1.offset).take (P.cellsOf f1.type)) = some y1 ∧ DataW.trod enc P w base spare held n f2.type ((cs.drop f2.offset).take (P.cellsOf f2.type)) = some y2 ∧ DataW.trod enc P w base spare held n f3.type ((cs.drop f3.offset).take (P.cellsOf f3.type)) = some y3 ∧ DataW.trod enc P w base spare held n f4.type ((cs.drop f4.offset).take (P.cellsOf f4.type)) = some y4 ∧ DataW.trod enc P w base spare held n f5.type ((cs.drop f5.offset).take (P.cellsOf f5.type)) = some y5 ∧ DataW.trod enc P w base spare held n f6.type ((cs.drop f6.offset).take (P.cellsOf f6.type)) = some y6 ∧ DataW.trod enc P w base spare held n f7.type ((cs.drop f7.offset).take (P.cellsOf f7.type)) = some y7 ∧ DataW.trod enc P w base spare held n f8.type ((cs.drop f8.offset).take (P.cellsOf f8.type)) = some y8 ∧ DataW.trod enc P w base spare held n f9.type ((cs.drop f9.offset).take (P.cellsOf f9.type)) = some y9 ∧ DataW.trod enc P w base spare held n f10.type ((cs.drop f10.offset).take (P.cellsOf f10.type)) = some y10 ∧ DataW.trod enc P w base spare held n f11.type ((cs.drop f11.offset).take (P.cellsOf f11.type)) = some y11 ∧ DataW.trod enc P w base spare held n f12.type ((cs.drop f12.offset).take (P.cellsOf f12.type)) = some y12 ∧ DataW.trod enc P w base spare held n f13.type ((cs.drop f13.offset).take (P.cellsOf f13.type)) = some y13 ∧ DataW.trod enc P w base spare held n f14.type ((cs.drop f14.offset).take (P.cellsOf f14.type)) = some y14 := by
 obtain ⟨xs, n, _, rfl, hl, hlen, hf⟩ := DataW.trod_struct ht h
 match xs, hlen with
 | [y0, y1, y2, y3, y4, y5, y6, y7, y8, y9, y10, y11, y12, y13, y14], _ => exact ⟨y0, y1, y2, y3, y4, y5, y6, y7, y8, y9, y10, y11, y12, y13, y14, n, hl, by simpa using hf 0 f0 rfl, by simpa using hf 1 f1 rfl, by simpa using hf 2 f2 rfl, by simpa using hf 3 f3 rfl, by simpa using hf 4 f4 rfl, by simpa using hf 5 f5 rfl, by simpa using hf 6 f6 rfl, by simpa using hf 7 f7 rfl, by simpa using hf 8 f8 rfl, by simpa using hf 9 f9 rfl, by simpa using hf 10 f10 rfl, by simpa using hf 11 f11 rfl, by simpa using hf 12 f12 rfl, by simpa using hf 13 f13 rfl, by simpa using hf 14 f14 rfl⟩
end
end Go.Eng

namespace Go.Proofs.YtlaefellhnkfbaaGreat
open Go.Eng Go.ChangeShapes Go.WideShapes Go.RowKit
theorem ahO {n : Int} (h : (Lit.int .u8 n).wf = true) : ∃ x : UInt8, n = x.toNat := by
 have hx : 0 ≤ n ∧ n ≤ 255 := by simpa [Lit.wf, IntKind.min, IntKind.max, IntKind.signed, IntKind.bits] using h
 refine ⟨UInt8.ofNat n.toNat, ?_⟩
 rw [UInt8.toNat_ofNat']
 omega
theorem aiW {n : Int} (h : (Lit.int .u16 n).wf = true) : ∃ x : UInt16, n = x.toNat := by
 have hx : 0 ≤ n ∧ n ≤ 65535 := by simpa [Lit.wf, IntKind.min, IntKind.max, IntKind.signed, IntKind.bits] using h
 refine ⟨UInt16.ofNat n.toNat, ?_⟩
 rw [UInt16.toNat_ofNat']
 omega
theorem aiA {n : Int} (h : (Lit.int .u32 n).wf = true) : ∃ x : UInt32, n = x.toNat := by
 have hx : 0 ≤ n ∧ n ≤ 4294967295 := by simpa [Lit.wf, IntKind.min, IntKind.max, IntKind.signed, IntKind.bits] using h
 refine ⟨UInt32.ofNat n.toNat, ?_⟩
 rw [UInt32.toNat_ofNat']
 omega
theorem ai_ {n : Int} (h : (Lit.int .i64 n).wf = true) : -9223372036854775808 ≤ n ∧ n ≤ 9223372036854775807 := by
 simpa [Lit.wf, IntKind.min, IntKind.max, IntKind.signed, IntKind.bits] using h
theorem own : ownKnob Tryz.prog.godebug = none := by kernel_rfl
theorem amK : laidOutB Tryz.prog = true := by kernel_rfl
theorem aj7 : mapsRowed Tryz.prog = true := by kernel_rfl
theorem am2 : ((List.range Tryz.prog.types.size).all fun t => match Tryz.prog.underlying t with | some (.slice e) => decide (0 < Tryz.prog.cellsOf e) | _ => true) = true := by kernel_rfl
end Go.Proofs.YtlaefellhnkfbaaGreat
