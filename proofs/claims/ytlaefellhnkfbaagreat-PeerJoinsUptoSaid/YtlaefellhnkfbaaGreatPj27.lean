/-
 Part 27 of the proof of Pj: the engine and the walks, in their order.
-/
import Derived.Test.YtlaefellhnkfbaaGreatPj19
import Derived.Test.YtlaefellhnkfbaaGreatPj22
set_option linter.unusedSimpArgs false
set_option linter.unusedVariables false
set_option maxRecDepth 10000
namespace Go.Proofs.YtlaefellhnkfbaaGreat.V
open Go.Eng
attribute [local go_sem] aU ah fzD plR
theorem xg (a b : GDesc) : Con2 Tryz.prog 233 [.agg (ah a), .agg (ah b)] (· = plR (.v (.bool (eQ a b)))) := by
 refine af Ty.mixed Tryz.func233 rfl (by kernel_rfl) (by kernel_rfl) rfl [.tmp 4] rfl ?_
 refine g2_ ?_
 rw [sE]
 by_cases h : a.inc = b.inc
 ·rw [decide_eq_true h]
  refine g2_ ?_
  exact ⟨_, rfl, ab [] (by simp -implicitDefEqProofs only [go_sem, aa, eQ, h, gQ, if_true])⟩
 ·rw [decide_eq_false h]
  refine g2_ ?_
  exact ⟨_, rfl, ab [] (by simp -implicitDefEqProofs only [go_sem, aa, eQ, h, gH, if_false])⟩
theorem alh (i j : Nat) : Int.fdiv ((i : Int) + j) (2 ^ min (Int.toNat 1) IntKind.u64.bits) = (((i + j) / 2 : Nat) : Int) := by
 rw [show min (Int.toNat 1) IntKind.u64.bits = 1 from rfl, Int.fdiv_eq_ediv_of_nonneg _ (by decide)]
 omega
theorem xK (n k : Nat) (hk : k ≤ n) (f : FuncId) (c1 c2 : List DV) (hn : n ≤ 1000000000) (hf : ∀ h : Nat, h < n → Con2 Tryz.prog f [.v (.int .i64 h), .fp c1, .fp c2] (· = plR (.v (.bool (decide (k ≤ h)))))) :
  Con2 Tryz.prog 119 [.v (.int .i64 n), .fn f [] [.fp c1, .fp c2]] (· = plR (.v (.int .i64 k))) := by
 refine af Ty.mixed Tryz.func119 rfl (by kernel_rfl) (by kernel_rfl) rfl [.tmp 4] rfl ?_
 refine g2_ ?_
 refine bF (γ := Nat × Nat) (fun g => [(5, .d (.v (.int .i64 g.1))), (6, .d (.v (.int .i64 g.2)))]) (fun _ => []) (fun _ => []) 0 (fun g => g.1 ≤ k ∧ k ≤ g.2 ∧ g.2 ≤ n) (fun g => g.2 - g.1) (0, n) (ab [] ?_) ⟨Nat.zero_le _, hk, Nat.le_refl _⟩ (fun g hF => ?_)
 ·refine g2_ ?_
  first | rfl | exact ⟨rfl, rfl⟩
 ·obtain ⟨i, j⟩ := g
  obtain ⟨h1, h2, h3⟩ := hF
  simp only at h1 h2 h3
  refine g2_ ?_
  refine bm (fun h => ?_) (fun h => ?_)
  ·have hij : i < j := by omega
   refine g2_ ?_
   rw [mB (by omega)]
   refine g2_ ?_
   rw [tg (by omega), alh]
   obtain ⟨m, hm⟩ : ∃ m, (i + j) / 2 = m := ⟨_, rfl⟩
   rw [hm]
   refine g2_ ?_
   refine CallS.eq (hf m (by omega)) ws_ (.inr rfl) ?_
   refine g2_ ?_
   refine bm (fun h4 => ?_) (fun h4 => ?_)
   ·refine g2_ ?_
    exact ⟨(i, m), ab [] ws_, ⟨h1, h4, by simp only; omega⟩, by simp only; omega⟩
   ·refine g2_ ?_
    exact ⟨(m + 1, j), ab [] (by simp -implicitDefEqProofs only [go_sem, aa]; rfl), ⟨by simp only; omega, h2, h3⟩, by simp only; omega⟩
  ·refine g2_ ?_
   have : i = k := by omega
   subst this
   exact ⟨_, rfl, ab [] ws_⟩
theorem xE (l : List GDesc) (hu : Up cx l) (node : UInt8) (h : Nat) (hh : h < l.length) : Con2 Tryz.prog 120 [.v (.int .i64 h), .fp [fzD l], .fp [.v (.int .u8 node.toNat)]] (· = plR (.v (.bool (decide (dq l node ≤ h))))) := by
 refine af Ty.mixed Tryz.func120 rfl (by kernel_rfl) (by kernel_rfl) rfl [.tmp 4] rfl ?_
 refine g2_ ?_
 refine .inl ⟨oF [0, 1, 5, 2, 3, 4, 6, 7] [], by kernel_rfl, ?_⟩
 repeat first | simp -implicitDefEqProofs only [go_sem, aa, aw hh] | with_reducible first | refine gl_ ?_ | refine ga_ ?_ | refine gn_ ?_
 refine ⟨_, rfl, ab [] ?_⟩
 have e : decide (dq l node ≤ h) = decide ((node.toNat : Int) ≤ (l[h].node.toNat : Int)) := by
  rw [decide_eq_decide, al5, mM hu (List.getElem?_eq_getElem hh)]
 exact wf_ e
theorem mI (l : List GDesc) (hu : Up cx l) (node : UInt8) (hn : l.length ≤ 5000000) : Con2 Tryz.prog 54 [fzD l, .v (.int .u8 node.toNat)] (· = plR (.tup [.v (.int .i64 (dq l node)), .v (.bool (dJ l node))])) := by
 have hle := vF l node
 refine af Ty.mixed Tryz.func54 rfl (by kernel_rfl) (by kernel_rfl) rfl [.tmp 4, .tmp 5] rfl ?_
 refine g2_ ?_
 refine CallS.eq (xK l.length (dq l node) hle 120 [fzD l] [.v (.int .u8 node.toNat)] (by omega) (fun h hh => xE l hu node h hh)) ws_ (.inr rfl) ?_
 refine g2_ ?_
 refine .inl ⟨oF [0, 1, 2, 3, 4, 5, 6, 7, 11, 14, 8, 9, 10, 12, 13, 15] [], by kernel_rfl, ?_⟩
 obtain ⟨k, hk⟩ : ∃ k, dq l node = k := ⟨_, rfl⟩
 rw [hk]
 by_cases hkl : k < l.length
 ·have e1 : decide ((k : Int) < (l.length : Int)) = true := by simpa using hkl
  repeat first | simp -implicitDefEqProofs only [go_sem, aa, e1, aw hkl] | with_reducible first | refine gl_ ?_ | refine ga_ ?_ | refine gn_ ?_
  rw [cM, ← uC hu (by rw [hk]; exact List.getElem?_eq_getElem hkl : l[dq l node]? = some l[k])]
  refine g2_ ?_
  exact ⟨_, rfl, ab [] ws_⟩
 ·have e1 : decide ((k : Int) < (l.length : Int)) = false := by simpa using hkl
  refine gf_ e1 ?_
  exact ⟨_, rfl, ab [] (by simp -implicitDefEqProofs only [go_sem, aa, abO hu (by rw [hk]; omega)])⟩
theorem lz (l : List GDesc) (hu : Up cx l) (node : UInt8) (hn : l.length ≤ 5000000) : Con2 Tryz.prog 18 [fzD l, .v (.int .u8 node.toNat)] (· = plR (.v (.int .i64 (gI l node)))) := by
 refine af Ty.mixed Tryz.func18 rfl (by kernel_rfl) (by kernel_rfl) rfl [.tmp 4] rfl ?_
 refine g2_ ?_
 refine CallS.eq (mI l hu node hn) ws_ (.inl ws_) ?_
 unfold gI
 cases hi : bX l node with
 | none =>
  have hT : dJ l node = false := by unfold dJ; rw [hi]; rfl
  refine gf_ hT ?_
  exact ⟨_, rfl, ab [] ws_⟩
 | some i =>
  have hT : dJ l node = true := by unfold dJ; rw [hi]; rfl
  refine gf_ hT ?_
  exact ⟨_, rfl, ab [] (wf_ (gu hu hi))⟩
end Go.Proofs.YtlaefellhnkfbaaGreat.V

set_option maxRecDepth 10000
namespace Go.Eng
def bZ (l : List GDesc) : Prop := l.length ≤ 4000000 ∧ ∀ d ∈ l, d.filter.length ≤ 4000000
def zDD : List DV := [.v (.int .u8 0), .v (.int .u16 0), .v (.int .u8 0), .v (.slice none 0 0)]
def iX (l : List GDesc) (k : Nat) : List (List DV) := (l.take k).map ah ++ List.replicate (l.length - k) zDD
theorem pM {l : List GDesc} {k : Nat} (h : k ≤ l.length) : ((l.take k).map ah).length = k := by rw [List.length_map, List.length_take, Nat.min_eq_left h]
theorem acL {l : List GDesc} {k : Nat} (h : k ≤ l.length) : (iX l k).length = l.length := by
 unfold iX
 rw [List.length_append, pM h, List.length_replicate]; omega
theorem ahv {l : List GDesc} : iX l 0 = List.replicate l.length zDD := by simp [iX]
theorem abi {l : List GDesc} : iX l l.length = l.map ah := by simp [iX]
theorem abh {l : List GDesc} {k : Nat} (h : k < l.length) : (iX l k)[k]? = some zDD := by
 have hl := pM (Nat.le_of_lt h)
 unfold iX
 rw [List.getElem?_append_right (by omega), List.getElem?_replicate, hl, if_pos (by omega)]
theorem acK {l : List GDesc} {k : Nat} (h : k < l.length) : (iX l k).set k (ah l[k]) = iX l (k + 1) := by
 have hl := pM (Nat.le_of_lt h)
 unfold iX
 rw [List.set_append_right _ _ (by omega), hl, Nat.sub_self, show l.length - k = (l.length - (k + 1)) + 1 from by omega, List.replicate_succ, List.set_cons_zero, List.take_add_one, List.getElem?_eq_getElem h, List.map_append, List.append_assoc]
 rfl
end Go.Eng
namespace Go.Proofs.YtlaefellhnkfbaaGreat.V
open Go.Eng
attribute [local go_sem] aU ah fzD plR bH
theorem aew (d : GDesc) (hd : d.filter.length ≤ 5000000) : Con2 Tryz.prog 158 [.agg (ah d)] (· = ⟨.agg [.v (.int .u8 d.node.toNat), .v (.int .u16 d.inc.toNat), .v (.int .u8 d.age.toNat), .rf 0 0 d.filter.length], [(0, .arr 145 2 (d.filter.map aU) false)], 1⟩) := by
 refine af Ty.mixed Tryz.func158 rfl (by kernel_rfl) (by kernel_rfl) rfl [.cell 2 34] rfl ?_
 refine g2_ ?_
 refine g2_ ?_
 exact ⟨_, rfl, ab [] ws_⟩
theorem sF (d : GDesc) (hd : d.filter.length ≤ 5000000) : Con2 Tryz.prog 158 [.agg (ah d)] (· = plR (.agg (ah d))) :=
 (aew d hd).emb (by simp [ah, embD, embDs, embC, lk, rfD, cg]) rfl
attribute [local go_sem] zDD
theorem gF (l : List GDesc) (hl : bZ l) : Con2 Tryz.prog 92 [fzD l] (· = bH 34 4 (l.map ah)) := by
 have hb := hl.1
 refine af Ty.mixed Tryz.func92 rfl (by kernel_rfl) (by kernel_rfl) rfl [.tmp 2] rfl ?_
 refine g2_ ?_
 refine g2_ ?_
 refine aB l.length (fun k => []) (fun _ => []) (fun k => [(0, .arr 34 4 (iX l k) false)]) 1 (fun _ => True) (ab [] ?_) trivial (fun g k => by simp -implicitDefEqProofs only [go_sem, aa]) (by omega) (fun g => by simp -implicitDefEqProofs only [go_sem, aa]) (fun k hk _ => ?_) (fun _ => ?_)
 ·repeat first | simp -implicitDefEqProofs only [go_sem, aa, ahv] | with_reducible refine gl_ ?_
  first | rfl | exact ⟨rfl, rfl⟩
 ·repeat first | simp -implicitDefEqProofs only [go_sem, aa, aw hk] | with_reducible first | refine gl_ ?_ | refine ga_ ?_ | refine gn_ ?_
  refine CallS.eq (sF l[k] (by have := hl.2 _ (List.getElem_mem hk); omega)) ws_ (.inl ws_) ?_
  repeat first | simp -implicitDefEqProofs only [go_sem, aa, abh hk, acL (Nat.le_of_lt hk), List.contains_nil] | with_reducible first | refine gl_ ?_ | refine ga_ ?_ | refine gn_ ?_
  refine ⟨k + 1, ab [] ?_, rfl⟩
  refine g2_ ?_
  exact (acK hk).symm
 ·refine g2_ ?_
  exact ⟨_, rfl, ab [] (by simp -implicitDefEqProofs only [go_sem, aa, abi])⟩
end Go.Proofs.YtlaefellhnkfbaaGreat.V

set_option maxRecDepth 10000
namespace Go.Eng
theorem aey {α : Type} {l : List α} {k : Nat} {x : α} (h : l[k]? = some x) : l.set k x = l := by
 apply List.ext_getElem?
 intro i
 rw [List.getElem?_set]
 split
 ·rename_i e; subst e; split
  ·exact h.symm
  ·rename_i h2; rw [List.getElem?_eq_none (by omega)] at h; cases h
 ·rfl
def oy (l : List GDesc) (k : Nat) : List GDesc := (l.take k).map GDesc.older ++ l.drop k
theorem pA {l : List GDesc} {k : Nat} : (oy l k).length = l.length := by simp [oy]; omega
theorem lp {l : List GDesc} {k : Nat} (h : k < l.length) : ((oy l k).map ah)[k]? = some (ah l[k]) := by
 have hl : ((l.take k).map GDesc.older).length = k := by rw [List.length_map, List.length_take, Nat.min_eq_left (Nat.le_of_lt h)]
 unfold oy
 rw [List.getElem?_map, List.getElem?_append_right (by omega), hl, Nat.sub_self, List.getElem?_drop, Nat.add_zero, List.getElem?_eq_getElem h]
 rfl
theorem uY {l : List GDesc} {k : Nat} (h : k < l.length) : ((oy l k).map ah).set k (ah l[k].older) = (oy l (k + 1)).map ah := by
 have hl : ((l.take k).map GDesc.older).length = k := by rw [List.length_map, List.length_take, Nat.min_eq_left (Nat.le_of_lt h)]
 rw [← List.map_set]
 congr 1
 unfold oy
 rw [List.set_append_right _ _ (by omega), hl, Nat.sub_self, List.drop_eq_getElem_cons h, List.set_cons_zero, List.take_add_one, List.getElem?_eq_getElem h, List.map_append, List.append_assoc]
 rfl
theorem abp {d : GDesc} (h : d.age.toNat < 255) : ah d.older = [.v (.int .u8 d.node.toNat), .v (.int .u16 d.inc.toNat), .v (.int .u8 ((d.age.toNat : Int) + 1)), .fz 2 (d.filter.map aU)] := by
 have : d.age ≠ 255 := fun e => by rw [e] at h; exact absurd h (by decide)
 unfold GDesc.older
 rw [if_neg this]
 have e : (d.age + 1).toNat = d.age.toNat + 1 := by rw [UInt8.toNat_add]; show (d.age.toNat + 1) % 256 = _; omega
 simp [ah, e]
theorem adR {d : GDesc} (h : ¬ d.age.toNat < 255) : d.older = d := by
 have hb := d.age.toNat_lt
 have : d.age = 255 := UInt8.toNat_inj.1 (by show d.age.toNat = 255; omega)
 unfold GDesc.older
 rw [if_pos this]
end Go.Eng
namespace Go.Proofs.YtlaefellhnkfbaaGreat.V
open Go.Eng
attribute [local go_sem] aU ah fzD plR bH
theorem mX (l : List GDesc) (hl : bZ l) : Con2 Tryz.prog 56 [fzD l] (· = bH 34 4 ((bI l).map ah)) := by
 have hb := hl.1
 refine af Ty.mixed Tryz.func56 rfl (by kernel_rfl) (by kernel_rfl) rfl [.tmp 2] rfl ?_
 refine g2_ ?_
 refine CallS.eq (gF l hl) ws_ (.inl ws_) ?_
 refine gx_ ?_
 refine aB l.length (fun k => []) (fun _ => []) (fun k => [(0, .arr 34 4 ((oy l k).map ah) false)]) 1 (fun _ => True) (ab [] ?_) trivial (fun g k => by simp -implicitDefEqProofs only [go_sem, aa]) (by omega) (fun g => by simp -implicitDefEqProofs only [go_sem, aa]) (fun k hk _ => ?_) (fun _ => ?_)
 ·repeat first | simp -implicitDefEqProofs only [go_sem, aa, oy] | with_reducible refine gl_ ?_
  first | rfl | exact ⟨rfl, rfl⟩
 ·refine gg_ (lp hk) @pA ?_
  refine bm (fun h => ?_) (fun h => ?_)
  ·refine gg_ (lp hk) @pA ?_
   refine jg (by omega) ?_
   refine gg_ (lp hk) @pA ?_
   refine ⟨k + 1, ab [] ?_, rfl⟩
   refine g2_ ?_
   rw [← uY hk, abp (by omega)]
  ·refine g2_ ?_
   refine ⟨k + 1, ab [] ?_, rfl⟩
   refine g2_ ?_
   rw [← uY hk, adR (by omega), aey (lp hk)]
 ·refine g2_ ?_
  have he : oy l l.length = bI l := by simp [oy, bI]
  have hlen : (bI l).length = l.length := by simp [bI]
  exact ⟨_, rfl, ab [] (wg_ he hlen)⟩
theorem iG {f : FuncId} {args : List DV} {l : List GDesc} (h : Con2 Tryz.prog f args (· = bH 34 4 (l.map ah))) : Con2 Tryz.prog f args (· = plR (fzD l)) :=
 Con2.emb h (by simp [fzD, embD, lk, rfD, cg]) rfl
def akG (e : Nat) (p : List GDesc × Bool) : Res := ⟨.tup [.rf 0 0 p.1.length, .v (.bool p.2)], [(0, .arr e 4 (p.1.map ah) false)], 1⟩
end Go.Proofs.YtlaefellhnkfbaaGreat.V

set_option maxRecDepth 10000
namespace Go.Proofs.YtlaefellhnkfbaaGreat.V
open Go.Eng
theorem nz : alD Tryz.prog 124 34 4 := by
 intro xs p n c i u0 u ho h1 hi hn K hK
 have hcap := ho.sl.cap
 refine .inl (gj Ty.mixed Tryz.func124 rfl (by kernel_rfl) (by kernel_rfl) rfl [.tmp 6] rfl ?_)
 refine vs_ ?_
 rw [ahg (l := i) (h := i + 1) (m := n) Ty.el32 rfl (by omega) rfl (by omega) (by omega) (by omega)]
 refine vs_ ?_
 rw [show ((i : Int) == (i : Int) + 1) = false from by simp; omega]
 refine vs_ ?_
 refine .inl ⟨oF [0, 1, 3, 4, 2, 5, 6, 7] [], by kernel_rfl, ?_⟩
 refine vs_ ?_
 rw [aci (k0 := i) Ty.el32 rfl (by omega)]
 refine vs_ ?_
 rw [ve (k0 := i + 1) Ty.el32 (by omega) (by omega)]
 refine vs_ ?_
 refine nJ Ty.el32 (ho.take (k := i) (by omega)) (ho.sl.drop (l := i + 1) (by omega)) (fun y hy => h1 y (List.mem_of_mem_drop hy)) (by omega) ?_
 intro u1 o1 x1
 rw [show i + (n - (i + 1)) = n - 1 by omega] at o1 ⊢
 refine vs_ ?_
 rw [xq (l := n - 1) (h := n) Ty.el32 (by omega) rfl (by omega) (by omega)]
 refine vs_ ?_
 refine rL Ty.el32 Ty.zero34 rfl o1 (by omega) (by omega) ?_
 intro u2 o2 x2
 refine vs_ ?_
 refine hK u2 o2 (fun b o hb h hn => x2 b o hb (x1 b o hb h hn) hn)
set_option maxHeartbeats 1000000 in
theorem jj : alM Tryz.prog 194 34 4 32 := by
 intro xs x i n c c2 p q u0 u ho hi ho2 hx1 hxs hne0 hb K hK
 have hvs : Sl u 4 q 1 c2 [x] := ho2.sl
 have hx : x.length = 4 := ho2.each x (List.mem_singleton.2 rfl)
 rcases ho2.at_ with ⟨_, hh, _⟩ | ⟨gv, cv, hq0, hv, hv1, _, hv3s, _, _⟩
 ·cases hh
 subst hq0
 have hne : ∀ a, p = some a → gv ≠ a.block := fun a ha e => hne0 a _ ha rfl e.symm
 have hvc : ∀ (u' : World), Sl u' 4 (some ⟨gv, 0, none⟩) 1 c2 [x] → ∀ j v, x[j]? = some v → u'.cell? ((⟨gv, 0, none⟩ : Addr).add j) = some v := fun u' h j v hj => h.cells j v (by simpa using hj)
 have hsl := ho.sl
 have hcap := hsl.cap
 have hlen := ho.len
 have hlA : (xs.take i).flatten.length = i * 4 := by rw [aD (sz := 4) _ (fun y hy => ho.each y (List.mem_of_mem_take hy))]; simp [hlen]; omega
 have hlB : (xs.drop i).flatten.length = (n - i) * 4 := by rw [aD (sz := 4) _ (fun y hy => ho.each y (List.mem_of_mem_drop hy))]; simp [hlen]
 have hfin : (xs.take i ++ [x] ++ xs.drop i).flatten = (xs.take i).flatten ++ x ++ (xs.drop i).flatten := by simp
 have hfl : (xs.take i ++ [x] ++ xs.drop i).length = n + 1 := by simp [hlen]; omega
 have hfe : ∀ y ∈ xs.take i ++ [x] ++ xs.drop i, y.length = 4 := by
  intro y hy
  simp only [List.append_assoc, List.mem_append, List.mem_singleton] at hy
  rcases hy with hy | rfl | hy
  ·exact ho.each y (List.mem_of_mem_take hy)
  ·exact hx
  ·exact ho.each y (List.mem_of_mem_drop hy)
 have hxs2 : xs.flatten = (xs.take i).flatten ++ (xs.drop i).flatten := by rw [← List.flatten_append, List.take_append_drop]
 refine .inl (gj Ty.mixed Tryz.func194 rfl (by kernel_rfl) (by kernel_rfl) rfl [.tmp 6] rfl ?_)
 refine vs_ ?_
 rw [cl Ty.el32 (by omega) (by omega)]
 refine vs_ ?_
 refine nU (fun h => absurd h (by omega)) (fun _ => ?_)
 refine vs_ ?_
 refine nU (fun h => ?_) (fun h => ?_)
 ·-- at the end
  have hin : i = n := by omega
  subst hin
  refine vs_ ?_
  refine iV Ty.el32 ho hvs (by intro y hy; simp at hy; subst hy; exact hx1) hb (by omega) ?_
  intro p' c' u' ho' hs' hq'
  refine vs_ ?_
  refine hK p' c' u' ?_ hs' hq'
  have : xs.take i ++ [x] ++ xs.drop i = xs ++ [x] := by rw [List.take_of_length_le (by omega), List.drop_eq_nil_of_le (by omega)]; simp
  rw [this]; exact ho'
 have hlt : i < n := by omega
 obtain ⟨a, hp⟩ : ∃ a, p = some a := by cases p with | none => have := hsl.some_ hlt; cases this | some a => exact ⟨a, rfl⟩
 subst hp
 rcases ho.at_ with ⟨hh, _⟩ | ⟨g, cur, hg0, hg, h1, h2, h3, h4, h5⟩
 ·cases hh
 cases hg0
 have hgne : gv ≠ g := hne _ rfl
 have hB1 : ∀ v ∈ (xs.drop i).flatten, v.oneCell' = true := fun v hv => fP hxs v (by rw [hxs2]; exact List.mem_append_right _ hv)
 refine vs_ ?_
 rw [cW (by omega)]
 refine vs_ ?_
 refine uf (fun h => ?_) (fun h => ?_)
 ·-- a new block
  refine vs_ ?_
  rw [mG Ty.el32 (by omega) (by omega)]
  refine vs_ ?_
  rw [cW (by omega)]
  refine vs_ ?_
  rw [cW (by omega)]
  refine vs_ ?_
  have e0 : ((i : Int).toNat) = i := by omega
  have e1 : ((n : Int) + (1 : Nat) - (i : Int)).toNat = n + 1 - i := by omega
  (try rw [e0])
  have e3 : i + ((n : Int) + (1 : Nat) - (i : Int)).toNat = n + 1 := by omega
  refine my Ty.el32 Ty.intK3 Ty.zero34 (hsl.take hi) (by omega) (by omega) (by rw [e3]; exact hb) (by omega) ?_
  rw [e3]
  intro p2 c2 u2 ho2 hs2 hf2
  rcases ho2.at_ with ⟨_, hh, _⟩ | ⟨g2, cur2, hg20, hg2, k1, k2, k3, k4, k5⟩
  ·omega
  subst hg20
  have hg2f : Fresh u g2 := hf2 _ rfl
  have hg2g : g2 ≠ g := fun e => ar (hg2f _ (e ▸ hg))
  have hg2v : g2 ≠ gv := fun e => ar (hg2f _ (e ▸ hv))
  refine vs_ ?_
  rw [cl Ty.el32 (by omega) (by omega)]
  refine vs_ ?_
  (try rw [e0])
  rw [fC (by omega)]
  have hcc : (n + 1) * 4 ≤ c2 * 4 := Nat.mul_le_mul_right _ k1
  have hv2 := hvc u2 (hvs.mono hs2)
  refine i9 (news := x) Ty.el32 hg2 k5 (by rw [hx, show Nat.min 1 (n + 1 - i) = 1 from by simp only [Nat.min_def]; split <;> omega]) hv2 (cL hx1) (by rw [k3, hx]; omega) ?_
  intro u3 hg3 hs3
  refine vs_ ?_
  refine .inl ⟨oF [0, 1, 2, 5, 6, 3, 7, 4, 8] [], by kernel_rfl, ?_⟩
  refine vs_ ?_
  rw [cW (by omega)]
  refine vs_ ?_
  have e2 : ((i : Int) + ((1 : Nat) : Int)).toNat = i + 1 := by omega
  rw [cl Ty.el32 (by omega) (by omega)]
  refine vs_ ?_
  rw [cl Ty.el32 (by omega) (by omega)]
  refine vs_ ?_
  (try rw [e0])
  rw [e2, fC (by omega), fC (by omega)]
  have hold : ∀ j v, (xs.drop i).flatten[j]? = some v → u3.cell? ((⟨g, 0 + i * 4, none⟩ : Addr).add j) = some v := by
   intro j v hj
   have hsl3 : Sl u3 4 (some ⟨g, 0, none⟩) n c xs := (hsl.mono hs2).subX hs3 (by intro a b ha hb; cases ha; cases hb; exact fun e => hg2g e.symm)
   have hd := hsl3.drop hi
   rw [fC (by omega)] at hd
   exact hd.cells j v hj
  have hmin : Nat.min (n - i) (n + 1 - (i + 1)) = n - i := by simp only [Nat.min_def]; split <;> omega
  refine i9 (news := (xs.drop i).flatten) Ty.el32 hg3 k5 (by rw [hlB, hmin]) hold hB1 ?_ ?_
  ·simp only [List.size_toArray, List.length_append, List.length_take, List.length_drop, Array.length_toList, k3, hx, hlB]
   omega
  intro u4 hg4 hs4
  refine vs_ ?_
  refine hK _ c2 u4 ⟨hfl, hfe, .inr ⟨g2, _, rfl, hg4, k1, k2, ?_, ?_, k5⟩⟩ ?_ (.inr (fun a ha => by cases ha; exact hg2f))
  ·simp only [List.size_toArray, List.length_append, List.length_take, List.length_drop, Array.length_toList, k3, hx, hlB]
   omega
  ·have hk : (cur2.toList.take (i * 4)) = (xs.take i).flatten := by
    have := congrArg (List.take (i * 4)) k4
    rw [List.take_take, Nat.min_eq_left (by omega), List.flatten_append] at this
    rw [this]
    apply List.take_left' hlA
   have := aht (s := 4) (b := (n - i) * 4) hk hlA hx hlB (by simp only [Array.length_toList, k3]; omega)
   simp only [hx, hlB, hfin]
   rw [show 0 + i * 4 = i * 4 from by omega, show 0 + (i + 1) * 4 = i * 4 + 4 from by omega, show (n + 1) * 4 = i * 4 + 4 + (n - i) * 4 from by omega]
   exact this
  ·intro b o hbn hbo hoj
   have hb2 : b ≠ g2 := fun e => hoj (hg2f o (e ▸ hbo))
   exact hs4 b o (fun a ha => by cases ha; exact hb2) (hs3 b o (fun a ha => by cases ha; exact hb2) (hs2 b o hbo hoj) hoj) hoj
 ·-- in place
  refine vs_ ?_
  rw [cW (by omega)]
  refine vs_ ?_
  rw [mG Ty.el32 (by omega) (by omega)]
  refine vs_ ?_
  rw [cW (by omega)]
  refine vs_ ?_
  have e0 : ((i : Int).toNat) = i := by omega
  have e1 : ((n : Int) + ((1 : Nat) : Int)).toNat = n + 1 := by omega
  have e2 : ((i : Int) + ((1 : Nat) : Int)).toNat = i + 1 := by omega
  rw [e1, cl Ty.el32 (by omega) (by omega)]
  refine vs_ ?_
  rw [e2, fC (by omega)]
  refine sM (R := 4) Ty.el32 (by kernel_rfl) hgne hv hg (by rw [h3]; intro h0; rcases Nat.mul_eq_zero.1 h0 with h0 | h0 <;> omega) ?_
  refine vs_ ?_
  refine .inl ⟨oF [0, 1, 2, 5, 6, 3, 7, 4, 8] [], by kernel_rfl, ?_⟩
  refine vs_ ?_
  rw [cW (by omega)]
  refine vs_ ?_
  rw [cl Ty.el32 (by omega) (by omega)]
  refine vs_ ?_
  rw [cl Ty.el32 (by omega) (by omega)]
  refine vs_ ?_
  (try rw [e0])
  rw [e2, fC (by omega), fC (by omega)]
  have hold : ∀ j v, (xs.drop i).flatten[j]? = some v → u.cell? ((⟨g, 0 + i * 4, none⟩ : Addr).add j) = some v := by
   intro j v hj
   have hd := hsl.drop hi
   rw [fC (by omega)] at hd
   exact hd.cells j v hj
  have hmin : Nat.min (n + 1 - i) (n + 1 - (i + 1)) = n - i := by simp only [Nat.min_def]; split <;> omega
  have hcc : (n + 1) * 4 ≤ c * 4 := Nat.mul_le_mul_right _ (by omega)
  refine i9 (news := (xs.drop i).flatten) Ty.el32 hg h5 (by rw [hlB, hmin]) hold hB1 (by rw [h3, hlB]; omega) ?_
  intro u3 hg3 hs3
  refine vs_ ?_
  rw [cl Ty.el32 (by omega) (by omega)]
  refine vs_ ?_
  (try rw [e0])
  rw [fC (by omega)]
  have hv2 := hvc u3 (hvs.subX hs3 (by intro a b ha hb; cases ha; cases hb; exact hgne))
  refine i9 (news := x) Ty.el32 hg3 h5 (by rw [hx, show Nat.min 1 (n + 1 - i) = 1 from by simp only [Nat.min_def]; split <;> omega]) hv2 (cL hx1) ?_ ?_
  ·simp only [List.size_toArray, List.length_append, List.length_take, List.length_drop, Array.length_toList, h3, hx, hlB]
   omega
  intro u4 hg4 hs4
  refine vs_ ?_
  refine hK _ c u4 ⟨hfl, hfe, .inr ⟨g, _, rfl, hg4, by omega, h2, ?_, ?_, h5⟩⟩ ?_ (.inl rfl)
  ·simp only [List.size_toArray, List.length_append, List.length_take, List.length_drop, Array.length_toList, h3, hx, hlB]
   omega
  ·have hk : (cur.toList.take (i * 4)) = (xs.take i).flatten := by
    have := congrArg (List.take (i * 4)) h4
    rw [List.take_take, Nat.min_eq_left (by omega), hxs2] at this
    rw [this]
    apply List.take_left' hlA
   have := ajX (s := 4) (b := (n - i) * 4) hk hlA hx hlB (by simp only [Array.length_toList, h3]; omega)
   simp only [hx, hlB, hfin]
   rw [show 0 + i * 4 = i * 4 from by omega, show 0 + (i + 1) * 4 = i * 4 + 4 from by omega, show (n + 1) * 4 = i * 4 + 4 + (n - i) * 4 from by omega]
   exact this
  ·intro b o hbn hbo hoj
   have hb2 := hbn _ rfl
   exact hs4 b o (fun a ha => by cases ha; exact hb2) (hs3 b o (fun a ha => by cases ha; exact hb2) hbo hoj) hoj
theorem iM : ajD Tryz.prog 194 34 4 := by
 intro x c2 p q u0 u ho2 hx1 K hK
 have hvs : Sl u 4 q 1 c2 [x] := ho2.sl
 refine .inl (gj Ty.mixed Tryz.func194 rfl (by kernel_rfl) (by kernel_rfl) rfl [.tmp 6] rfl ?_)
 refine vs_ ?_
 rw [cl Ty.el32 (by omega) (by omega)]
 refine vs_ ?_
 refine nU (fun h => absurd h (by omega)) (fun _ => ?_)
 refine vs_ ?_
 refine nU (fun _ => ?_) (fun h => absurd h (by omega))
 refine vs_ ?_
 refine jw Ty.el32 hvs (by intro y hy; simp at hy; subst hy; exact hx1) (by omega) (by omega) (fun h => absurd h (by omega)) ?_
 intro p' c' u' _ ho' hs' hf'
 refine vs_ ?_
 exact hK p' c' u' ho' hs' hf'
end Go.Proofs.YtlaefellhnkfbaaGreat.V

set_option maxRecDepth 10000
namespace Go.Proofs.YtlaefellhnkfbaaGreat.V
open Go.Eng
attribute [local go_sem] aU ah fzD plR bH akG
theorem yk {α β : Type} {f : α → β} (l : List α) (i : Nat) : (l.map f).take i ++ (l.map f).drop (i + 1) = (l.take i ++ l.drop (i + 1)).map f := by simp
theorem q_ {α β : Type} {f : α → β} : ∀ (l : List α) (i : Nat), (l.map f).eraseIdx i = (l.eraseIdx i).map f := by
 intro l i
 rw [List.eraseIdx_eq_take_drop_succ, List.eraseIdx_eq_take_drop_succ, yk]
theorem p7 (l : List GDesc) (hu : Up cx l) (node : UInt8) (hl : bZ l) : Con2 Tryz.prog 60 [fzD l, .v (.int .u8 node.toNat)] (· = bH 34 4 ((bb l node).map ah)) := by
 have hb := hl.1
 refine af Ty.mixed Tryz.func60 rfl (by kernel_rfl) (by kernel_rfl) rfl [.tmp 4] rfl ?_
 refine g2_ ?_
 refine CallS.eq (gF l hl) ws_ (.inl ws_) ?_
 refine gx_ ?_
 refine CallS.eq (mI l hu node (by omega)) ws_ (.inl ws_) ?_
 refine g2_ ?_
 cases hi : bX l node with
 | none =>
  have hT : dJ l node = false := by unfold dJ; rw [hi]; rfl
  refine gf_ hT ?_
  exact ⟨_, rfl, ab [] (wf_ (qG hi))⟩
 | some i =>
  have hT : dJ l node = true := by unfold dJ; rw [hi]; rfl
  obtain ⟨o, ho, _⟩ := cD hi
  obtain ⟨hil, _⟩ := List.getElem?_eq_some_iff.1 ho
  rw [gu hu hi]
  refine gf_ hT ?_
  refine CallS.del nz rfl (by simp) (by simpa using hil) (by simp; omega) ?_
  refine gf_ @q_ ?_
  have hlen : (bb l node).length = l.length - 1 := by rw [pJ hu hi]; simp; omega
  refine ⟨_, rfl, ab [] ?_⟩
  repeat first | simp -implicitDefEqProofs only [go_sem, aa, hlen] | with_reducible refine gl_ ?_
  rw [pJ hu hi, List.eraseIdx_eq_take_drop_succ]
theorem ahF (l : List GDesc) (hu : Up cx l) (d : GDesc) (self : UInt8) (room : Int) (hl : bZ l) (hd : d.filter.length ≤ 4000000) : Con2 Tryz.prog 210 [fzD l, .agg (ah d), .v (.int .u8 self.toNat), .v (.int .i64 room)] (· = akG 34 (bB l d self room)) := by
 have hb := hl.1
 refine af Ty.mixed Tryz.func210 rfl (by kernel_rfl) (by kernel_rfl) rfl [.tmp 8, .tmp 9] rfl ?_
 refine g2_ ?_
 refine CallS.eq (gF l hl) ws_ (.inl ws_) ?_
 refine gx_ ?_
 rw [cM]
 unfold bB
 by_cases h1 : d.node = self
 ·rw [decide_eq_true h1, if_pos (.inl h1)]
  refine g2_ ?_
  exact ⟨_, rfl, ab [] ws_⟩
 rw [decide_eq_false h1]
 refine g2_ ?_
 rw [nY]
 by_cases h2 : d.inc = 0
 ·rw [decide_eq_true h2, if_pos (.inr h2)]
  refine g2_ ?_
  exact ⟨_, rfl, ab [] ws_⟩
 rw [decide_eq_false h2, if_neg (not_or.2 ⟨h1, h2⟩)]
 refine g2_ ?_
 refine CallS.eq (mI l hu d.node (by omega)) ws_ (.inl ws_) ?_
 refine g2_ ?_
 cases hi : bX l d.node with
 | some i =>
  have hT : dJ l d.node = true := by unfold dJ; rw [hi]; rfl
  obtain ⟨o, ho, _⟩ := cD hi
  obtain ⟨hil, rfl⟩ := List.getElem?_eq_some_iff.1 ho
  rw [gu hu hi]
  refine gf_ hT ?_
  refine .inl ⟨oF [0, 1, 2, 3, 4, 5, 6] [], by kernel_rfl, ?_⟩
  repeat first | simp -implicitDefEqProofs only [go_sem, aa, aw hil] | with_reducible first | refine gl_ ?_ | refine ga_ ?_ | refine gn_ ?_
  refine CallS.eq (xg d l[i]) ws_ (.inl ws_) ?_
  refine g2_ ?_
  simp only [ho]
  cases hnw : eQ d l[i] with
  | false =>
   simp only [Bool.false_eq_true, if_false]
   refine g2_ ?_
   exact ⟨_, rfl, ab [] ws_⟩
  | true =>
   simp only [if_true]
   refine g2_ ?_
   refine CallS.eq (sF d (by omega)) ws_ (.inl ws_) ?_
   repeat first | simp -implicitDefEqProofs only [go_sem, aa, aw hil, List.length_map, List.contains_nil] | with_reducible first | refine gl_ ?_ | refine ga_ ?_ | refine gn_ ?_
   refine ⟨_, rfl, ab [] ?_⟩
   refine g2_ ?_
   exact ⟨by simp, by rw [List.map_set]; rfl⟩
 | none =>
  have hT : dJ l d.node = false := by unfold dJ; rw [hi]; rfl
  refine gf_ hT ?_
  refine bm (fun h => ?_) (fun h => ?_)
  ·rw [if_pos h]
   refine g2_ ?_
   exact ⟨_, rfl, ab [] ws_⟩
  ·rw [if_neg h]
   refine g2_ ?_
   refine CallS.eq (sF d (by omega)) ws_ (.inl ws_) ?_
   refine g2_ ?_
   have hple := vF l d.node
   refine CallS.ins jj iM (l := l.map ah) (x := ah d) rfl rfl (by decide) (by simp) (by simpa using hple) (by simp; omega) ?_
   refine gx_ ?_
   refine ⟨_, rfl, ab [(0, .to 2)] ?_⟩
   repeat first | simp -implicitDefEqProofs only [go_sem, aa, ig] | with_reducible refine gl_ ?_
   simp [ou, acY hi, ah]
end Go.Proofs.YtlaefellhnkfbaaGreat.V
