/-
 Part 41 of the proof of Pj: the engine and the walks, in their order.
-/
import Derived.Test.YtlaefellhnkfbaaGreatPj27
import Derived.Test.YtlaefellhnkfbaaGreatPj37
import Derived.Test.YtlaefellhnkfbaaGreatPj39
import Derived.Test.YtlaefellhnkfbaaGreatPj40
set_option linter.unusedSimpArgs false
set_option linter.unusedVariables false
set_option maxRecDepth 10000
set_option maxHeartbeats 4000000
namespace Go.Proofs.YtlaefellhnkfbaaGreat.V
open Go.Eng
def bx (c : av) (p : ak) : ak :=
 let w := fR p.wait
 { p with view := if w.2.2 = true then bb (bI p.view) w.2.1 else bI p.view, near := bI p.near, ring := iK p.ring, table := gy p.table p.node c.suspect, wait := w.1 }
def dE (c : av) (p : ak) (dr : List UInt32) : ak × List aV :=
 let a := fQ p.view (aT p) c.swap dr
 if p.wait.some = false ∧ a.2.2 = true then ({ p with wait := kB a.1 2 a.2.1 }, [{ bV p 3 a.1 with list := a.2.1 }]) else (p, [])
def dh (c : av) (dr : List UInt32) : UInt32 := if 0 ≤ c.swap ∧ c.swap < (dr.length : Int) then dr.getD c.swap.toNat 0 else 0
def iw (c : av) (p : ak) (dr : List UInt32) (links : List UInt8) : List aV :=
 if links = [] then [] else [{ bV p 5 (links.getD ((dh c dr).toNat % links.length) 0) with list := bY p.near (aT p) }]
def gD (p : ak) : List aV := if p.ring.hs = true then [{ bV p 6 p.ring.succ.node with list := [aT p] }] else []
def uu (p : ak) (d : GDesc) : aV := { bV p 8 d.node with table := p.table }
def eZ (c : av) (p : ak) (dr : List UInt32) (L : List UInt8) : ak × List aV :=
 let q := dE c (aH c (bx c p) []) dr
 (q.1, ((q.2 ++ iw c q.1 dr L) ++ gD q.1) ++ (aN q.1.ring).map (uu q.1))
theorem sO (d : GDesc) : d.older.filter = d.filter := by
 unfold GDesc.older; split <;> rfl
theorem jK {d : GDesc} (h : okF d) : okF d.older := by
 unfold okF; rw [sO]; exact h
theorem jH {l : List GDesc} {d : GDesc} (h : d ∈ bI l) : ∃ e ∈ l, d = e.older := by
 obtain ⟨e, h1, h2⟩ := List.mem_map.1 h
 exact ⟨e, h1, h2.symm⟩
theorem kM {l : List GDesc} (h : bZ l) : bZ (bI l) := ⟨by rw [bI, List.length_map]; exact h.1, fun d hd => by
 obtain ⟨e, h1, rfl⟩ := jH hd
 rw [sO]; exact h.2 e h1⟩
theorem uL {c : av} {p : ak} (hp : okG p) (hw : ok8 p.wait.sent) : okG (bx c p) := by
 have hv : ∀ d ∈ bI p.view, okF d := fun d hd => by
  obtain ⟨e, h1, rfl⟩ := jH hd
  exact jK (hp.view e h1)
 have hn : ∀ d ∈ bI p.near, okF d := fun d hd => by
  obtain ⟨e, h1, rfl⟩ := jH hd
  exact jK (hp.near e h1)
 have hv2 : ∀ d ∈ (bx c p).view, okF d := fun d hd => by
  unfold bx at hd
  simp only at hd
  split at hd
  ·exact hv d (List.mem_filter.1 hd).1
  ·exact hv d hd
 have hv3 : (bx c p).view.length ≤ 4000000 := by
  have h1 := (kM hp.ok.view).1
  unfold bx
  simp only
  split
  ·exact Nat.le_trans (List.length_filter_le _ _) h1
  ·exact h1
 have hs : okF (iK p.ring).succ := by
  unfold iK; simp only; split
  ·exact jK hp.succ
  ·exact rh
 have hpr : okF (iK p.ring).pred := by
  unfold iK; simp only; split
  ·exact jK hp.pred
  ·exact rh
 have hwt : bZ (fR p.wait).1.sent := by
  unfold fR
  split
  ·split
   ·exact ⟨Nat.zero_le _, fun d hd => by cases hd⟩
   ·exact hw.toDs
  ·exact ⟨Nat.zero_le _, fun d hd => by cases hd⟩
 have ht : (gy p.table p.node c.suspect).length = p.table.length := by simp [gy]
 exact ⟨⟨hp.ok.filter, ⟨hv3, fun d hd => (hv2 d hd).1⟩, kM hp.ok.near, hs.1, hpr.1, hwt, by show (gy p.table p.node c.suspect).length ≤ 4000000; rw [ht]; exact hp.ok.table, hp.ok.heard, hp.ok.rows, hp.ok.reports, hp.ok.evs, hp.ok.pulls⟩,
  hp.filter, hv2, hn, hs, hpr, by show (gy p.table p.node c.suspect).length ≤ 12; rw [ht]; exact hp.table⟩
theorem ad9 {p : ak} (h : okP p) {w : GW} (hw : bZ w.sent) : okP { p with wait := w } :=
 ⟨h.filter, h.view, h.near, h.succ, h.pred, hw, h.table, h.heard, h.rows, h.reports, h.evs, h.pulls⟩
theorem abj {l : List GDesc} {d : GDesc} (hl : l.length ≤ 4000000 ∧ ∀ d ∈ l, d.filter.length ≤ 4000000) (hd : d.filter.length ≤ 4000000) (hl9 : l.length ≤ 3900000 := by omega) : bZ (bY l d) := by
 refine ⟨?_, fun x hx => ?_⟩
 ·simp only [bY, List.length_append, List.length_cons, List.length_take, List.length_drop]; omega
 ·simp only [bY, List.mem_append, List.mem_cons] at hx
  rcases hx with h | h | h
  ·exact hl.2 x (List.mem_of_mem_take h)
  ·rw [h]; exact hd
  ·exact hl.2 x (List.mem_of_mem_drop h)
def zMc : List DV := [.v (.int .u8 0), .v (.int .u8 0), .v (.int .u16 0), .v (.int .u8 0), .v (.slice none 0 0), .v (.slice none 0 0), .v (.int .u8 0), .v (.int .u16 0), .v (.int .u32 0), .v (.slice none 0 0), .v (.slice none 0 0), .v (.int .u8 0), .v (.int .u8 0), .v (.int .u16 0), .v (.int .u32 0), .v (.slice none 0 0), .v (.slice none 0 0)]
attribute [local go_sem] aO aU ah fzD plR bH bw aM bL aJ au bu dC z8 z16 z32 z64 ax aZ fa i2 List.map_cons List.map_nil
end Go.Proofs.YtlaefellhnkfbaaGreat.V

set_option maxRecDepth 10000
set_option maxHeartbeats 4000000
namespace Go.Eng
def ltU (a b : UInt8) : Bool := decide (a < b)
def lY (acc : List UInt8) (x : UInt8) : List UInt8 := if acc.getLast? = some x then acc else acc ++ [x]
def cQ (l : List UInt8) : List UInt8 := l.foldl lY []
theorem j5 {l : List UInt8} {j : Nat} (h : j < l.length) : cQ (l.take (j + 1)) = lY (cQ (l.take j)) l[j] := by
 rw [cQ, List.take_add_one, List.getElem?_eq_getElem h, List.foldl_append]; rfl
theorem rF {l : List UInt8} : ∀ {j : Nat} (h : j < l.length), (cQ (l.take (j + 1))).getLast? = some l[j] := by
 intro j h
 rw [j5 h, lY]
 split
 ·assumption
 ·simp
theorem pd (l : List UInt8) : ∀ j, (cQ (l.take j)).length ≤ j
 | 0 => by simp [cQ]
 | j + 1 => by
  have ih := pd l j
  by_cases h : j < l.length
  ·rw [j5 h, lY]
   split
   ·omega
   ·rw [List.length_append]; simp; omega
  ·rw [List.take_of_length_le (by omega)] at ih ⊢
   omega
theorem aaS {l : List UInt8} {j : Nat} (h : j + 1 < l.length) (he : l[j + 1] = l[j]) : cQ (l.take (j + 1 + 1)) = cQ (l.take (j + 1)) := by
 rw [j5 h, lY, if_pos (by rw [rF (by omega), he])]
theorem tz {l : List UInt8} {j : Nat} (h : j + 1 < l.length) (he : l[j + 1] ≠ l[j]) : cQ (l.take (j + 1 + 1)) = cQ (l.take (j + 1)) ++ [l[j + 1]] := by
 rw [j5 h, lY, if_neg (by rw [rF (by omega)]; simpa using fun e => he e.symm)]
def gr (l : List UInt8) (j : Nat) : List UInt8 := cQ (l.take j) ++ l.drop (cQ (l.take j)).length
theorem agL {l : List UInt8} {j : Nat} (h : j ≤ l.length) : (gr l j).length = l.length := by
 have := pd l j
 rw [gr, List.length_append, List.length_drop]; omega
theorem tP {l : List UInt8} {j i : Nat} (h1 : (cQ (l.take j)).length ≤ i) : (gr l j)[i]? = l[i]? := by
 rw [gr, List.getElem?_append_right h1, List.getElem?_drop]; congr 1; omega
theorem ae2 {l : List UInt8} {j : Nat} (h : j + 1 < l.length) (he : l[j + 1] ≠ l[j]) (hc : (cQ (l.take (j + 1))).length < l.length) : (gr l (j + 1)).set (cQ (l.take (j + 1))).length l[j + 1] = gr l (j + 1 + 1) := by
 rw [gr, gr, tz h he]
 generalize cQ (l.take (j + 1)) = C at hc
 rw [List.set_append_right _ _ (Nat.le_refl _), Nat.sub_self, List.drop_eq_getElem_cons hc, List.set_cons_zero, List.append_assoc, List.length_append]; rfl
def dL (p : ak) : List UInt8 := [p.view, p.near, aN p.ring].flatten.map (·.node)
def bG (p : ak) : List UInt8 := cQ (aL ltU (dL p))
end Go.Eng
namespace Go.Proofs.YtlaefellhnkfbaaGreat.V
open Go.Eng
attribute [local go_sem] aO aU ah fzD plR bH bw aM bL aJ au bu dC z8 z16 z32 z64 c00 ax aZ fa List.map_cons List.map_nil a_
@[local go_sem] theorem amk : af8 Tryz.prog 5 = true := by kernel_rfl
theorem aba (a b : Nat) : Con2 Tryz.prog 188 [.v (.int .u8 a), .v (.int .u8 b)] (· = plR (.v (.bool (decide ((a : Int) < (b : Int)))))) := by
 refine af Ty.mixed Tryz.func188 rfl (by kernel_rfl) (by kernel_rfl) rfl [.tmp 4] rfl ?_
 refine g2_ ?_
 refine g2_ ?_
 refine CallS.eq (oq a) ws_ (.inl ws_) ?_
 refine g2_ ?_
 exact ⟨_, rfl, ab [] ws_⟩
theorem dA (a b : UInt8) : Con2 Tryz.prog 188 [.v (.int .u8 a.toNat), .v (.int .u8 b.toNat)] (· = plR (.v (.bool (decide ((a.toNat : Int) < (b.toNat : Int)))))) := aba a.toNat b.toNat
theorem ai7 (l : List UInt8) (hl : l.length ≤ 1000) {L0 : List (List DV)} {ρ σ nb K} (hk : K (.rf 1 0 (cQ l).length) ⟨ρ, σ, [(1, .arr 5 1 ((cQ l).map a_) false), (0, .arr 32 1 L0 false)], 2, nb⟩) :
  CallS Tryz.prog false 50 [.rf 1 0 l.length] ⟨ρ, σ, [(1, .arr 5 1 (l.map a_) false), (0, .arr 32 1 L0 false)], 2, nb⟩ K := by
 refine CallS.inline Ty.mixed Tryz.func50 rfl (by kernel_rfl) (by kernel_rfl) rfl [.tmp 2] rfl (Vc2.of ?_)
 refine g2_ ?_
 refine g2_ ?_
 by_cases h2 : (l.length : Int) < 2
 ·have e : cQ l = l := by
   match l, h2 with
   | [], _ => rfl
   | [x], _ => rfl
   | x :: y :: r, h => simp at h; omega
  rw [e] at hk
  rw [decide_eq_true h2]
  refine g2_ ?_
  exact hk
 rw [decide_eq_false h2]
 refine g2_ ?_
 refine bF (γ := Nat) (fun j => [(3, .d (.v (.int .i64 ((j + 1 : Nat) : Int))))]) (fun _ => []) (fun j => [(1, .arr 5 1 (l.map a_) false), (0, .arr 32 1 L0 false)]) 2 (fun j => j + 1 ≤ l.length ∧ cQ (l.take (j + 1)) = l.take (j + 1)) (fun j => l.length - j) 0 (ab [] ?_) ⟨by omega, ?_⟩ (fun j hj => ?_)
 ·refine g2_ ?_
  first | done | rfl | exact ⟨rfl, rfl⟩
 ·cases l with
  | nil => simp at h2
  | cons x r => rfl
 obtain ⟨hj1, hj2⟩ := hj
 refine g2_ ?_
 by_cases h3 : j + 1 < l.length
 ·rw [decide_eq_true (show ((j + 1 : Nat) : Int) < (l.length : Int) by omega)]
  have g1 : (l.map a_)[j + 1]? = some [.v (.int .u8 l[j + 1].toNat)] := by rw [List.getElem?_map, List.getElem?_eq_getElem h3]; rfl
  have g2 : (l.map a_)[j]? = some [.v (.int .u8 (l[j]'(by omega)).toNat)] := by rw [List.getElem?_map, List.getElem?_eq_getElem (by omega)]; rfl
  have e1 : ((j + 1 : Nat) : Int) - 1 = (j : Nat) := by omega
  refine g2_ ?_
  refine .inl ⟨oF [0, 1, 4, 5, 2, 6, 3, 7, 8, 9] [], by kernel_rfl, ?_⟩
  refine gh_ g1 g2 e1 ?_
  by_cases h4 : l[j + 1] = l[j]
  ·rw [show ((l[j + 1].toNat : Int) == (l[j].toNat : Int)) = true by rw [h4]; exact beq_self_eq_true _]
   refine gx_ ?_
   have b0 : cQ (l.take (j + 1 + 0 + 1)) = l.take (j + 1) := (aaS h3 h4).trans hj2
   have b1 : gr l (j + 1 + 0 + 1) = l := by rw [gr, b0, List.length_take, Nat.min_eq_left (by omega), List.take_append_drop]
   have b2 : (cQ (l.take (j + 1 + 0 + 1))).length = j + 1 := by rw [b0, List.length_take]; omega
   refine bF (γ := Nat) (fun k => [(5, .d (.v (.int .i64 ((k + 1 : Nat) : Int)))), (3, .d (.v (.int .i64 (cQ (l.take (j + 1 + k + 1))).length)))]) (fun _ => []) (fun k => [(1, .arr 5 1 ((gr l (j + 1 + k + 1)).map a_) false), (0, .arr 32 1 L0 false)]) 2 (fun k => j + 1 + k + 1 ≤ l.length ∧ (cQ (l.take (j + 1 + k + 1))).length ≤ j + 1 + k) (fun k => l.length - k) 0 (ab [] ?_) ⟨by omega, by rw [b2]; omega⟩ (fun k hk2 => ?_)
   ·repeat first | simp -implicitDefEqProofs only [go_sem, aa, b1, b2] | with_reducible refine gl_ ?_
    first | done | rfl | exact ⟨rfl, rfl⟩
   obtain ⟨hk1, hk3⟩ := hk2
   have hRl : ((gr l (j + 1 + k + 1)).map a_).length = l.length := by rw [List.length_map, agL hk1]
   refine g2_ ?_
   by_cases h5 : k + 1 < l.length - (j + 1)
   ·rw [decide_eq_true (show ((k + 1 : Nat) : Int) < ((l.length - (j + 1) : Nat) : Int) by omega)]
    have hq : j + 1 + k + 1 < l.length := by omega
    have g3 : ((gr l (j + 1 + k + 1)).map a_)[j + 1 + (k + 1)]? = some [.v (.int .u8 l[j + 1 + k + 1].toNat)] := by rw [List.getElem?_map, tP (by omega), List.getElem?_eq_getElem (by omega)]; rfl
    have g4 : ((gr l (j + 1 + k + 1)).map a_)[j + 1 + k]? = some [.v (.int .u8 (l[j + 1 + k]'(by omega)).toNat)] := by rw [List.getElem?_map, tP hk3, List.getElem?_eq_getElem (by omega)]; rfl
    have e5 : ((k + 1 : Nat) : Int) - 1 = (k : Nat) := by omega
    have hset : l[j + 1 + k + 1] ≠ l[j + 1 + k] → ((gr l (j + 1 + k + 1)).map a_).set (cQ (l.take (j + 1 + k + 1))).length [.v (.int .u8 l[j + 1 + k + 1].toNat)] = (gr l (j + 1 + k + 1 + 1)).map a_ := fun h => by
     rw [← ae2 hq h (by omega), List.map_set]; rfl
    have hcn : l[j + 1 + k + 1] ≠ l[j + 1 + k] → (cQ (l.take (j + 1 + k + 1 + 1))).length = (cQ (l.take (j + 1 + k + 1))).length + 1 := fun h => by rw [tz hq h, List.length_append]; rfl
    have hce : l[j + 1 + k + 1] = l[j + 1 + k] → cQ (l.take (j + 1 + k + 1 + 1)) = cQ (l.take (j + 1 + k + 1)) := aaS hq
    have hcr : l[j + 1 + k + 1] = l[j + 1 + k] → gr l (j + 1 + k + 1 + 1) = gr l (j + 1 + k + 1) := fun h => by rw [gr, gr, hce h]
    refine g2_ ?_
    refine .inl ⟨oF [0, 1, 4, 5, 2, 6, 3, 7, 8, 9] [], by kernel_rfl, ?_⟩
    refine gi_ g3 g4 e5 hRl ?_
    by_cases h6 : l[j + 1 + k + 1] = l[j + 1 + k]
    ·rw [show ((l[j + 1 + k + 1].toNat : Int) != (l[j + 1 + k].toNat : Int)) = false by rw [h6]; exact bne_self_eq_false _]
     refine g2_ ?_
     refine ⟨k + 1, ab [] ?_, ⟨by omega, by rw [show j + 1 + (k + 1) + 1 = j + 1 + k + 1 + 1 by omega, hce h6]; omega⟩, by omega⟩
     rw [show j + 1 + (k + 1) + 1 = j + 1 + k + 1 + 1 by omega, hce h6, hcr h6]
     refine g2_ ?_
     rfl
    ·rw [show ((l[j + 1 + k + 1].toNat : Int) != (l[j + 1 + k].toNat : Int)) = true from bne_iff_ne.2 (fun h => h6 (UInt8.toNat_inj.1 (by omega)))]
     have hcl : (cQ (l.take (j + 1 + k + 1))).length < l.length := by omega
     have gC : ((gr l (j + 1 + k + 1)).map a_)[(cQ (l.take (j + 1 + k + 1))).length]? = some [.v (.int .u8 l[(cQ (l.take (j + 1 + k + 1))).length].toNat)] := by rw [List.getElem?_map, tP (Nat.le_refl _), List.getElem?_eq_getElem hcl]; rfl
     have hs6 := hset h6
     have hc6 := hcn h6
     repeat first | simp -implicitDefEqProofs only [go_sem, aa, g3, g4, gC, e5, List.length_map, hRl, List.contains_nil] | with_reducible first | refine gl_ ?_ | refine ga_ ?_ | refine gn_ ?_
     refine ⟨k + 1, ab [] ?_, ⟨by omega, by rw [show j + 1 + (k + 1) + 1 = j + 1 + k + 1 + 1 by omega, hc6]; omega⟩, by omega⟩
     rw [show j + 1 + (k + 1) + 1 = j + 1 + k + 1 + 1 by omega, ← hs6, hc6]
     refine g2_ ?_
     exact ⟨rfl, rfl, rfl, rfl⟩
   ·rw [decide_eq_false (show ¬ ((k + 1 : Nat) : Int) < ((l.length - (j + 1) : Nat) : Int) by omega)]
    have eN : l.take (j + 1 + k + 1) = l := List.take_of_length_le (by omega)
    have eR : (gr l (j + 1 + k + 1)).map a_ = (cQ l ++ l.drop (cQ l).length).map a_ := by rw [gr, eN]
    have eL : (cQ l).length < l.length := by rw [eN] at hk3; omega
    have eT : List.take (cQ l).length ((cQ l ++ l.drop (cQ l).length).map a_) = (cQ l).map a_ := by rw [← List.map_take, List.take_left]
    rw [eN, eR]
    rw [eR] at hRl
    refine gf_ hRl ?_
    rw [Nat.sub_zero, eT]
    exact hk
  ·rw [show ((l[j + 1].toNat : Int) == (l[j].toNat : Int)) = false from beq_eq_false_iff_ne.2 (fun h => h4 (UInt8.toNat_inj.1 (by omega)))]
   refine g2_ ?_
   refine ⟨j + 1, ab [] ?_, ⟨by omega, ?_⟩, by omega⟩
   ·refine g2_ ?_
    rfl
   ·rw [tz h3 h4, hj2]
    rw [List.take_add_one (i := j + 1), List.getElem?_eq_getElem h3]; rfl
 ·rw [decide_eq_false (show ¬ ((j + 1 : Nat) : Int) < (l.length : Int) by omega)]
  have e : cQ l = l := by
   have := hj2
   rw [List.take_of_length_le (by omega)] at this
   exact this
  rw [e] at hk
  refine g2_ ?_
  exact hk
theorem abo (p : ak) (h1 : p.view.length ≤ 300) (h2 : p.near.length ≤ 300) (h4 : p.ring.succ.filter.length ≤ 4000000) (h5 : p.ring.pred.filter.length ≤ 4000000) (h12 : (dL p).length ≤ 700)
  (hs : ∀ {L0 : List (List DV)} {ρ : List (Nat × DSV)} {σ : List (Nat × d6)} {nb : Nat} {K : DV → DS → Prop}, K (.tup []) ⟨ρ, σ, [(1, .arr 5 1 ((aL ltU (dL p)).map a_) false), (0, .arr 32 1 L0 false)], 2, nb⟩ →
   CallS Tryz.prog false 49 [.rf 1 0 (dL p).length] ⟨ρ, σ, [(1, .arr 5 1 ((dL p).map a_) false), (0, .arr 32 1 L0 false)], 2, nb⟩ K) : Con2 Tryz.prog 14 [.agg (au p)] (· = plR (.fz 1 ((bG p).map a_))) := by
 refine Con2.ofEmb ?_
 have hr := ik p.ring h4 h5
 have hrl := eD p.ring
 have el : dL p = [p.view, p.near, aN p.ring].flatten.map (·.node) := rfl
 unfold bG
 generalize aN p.ring = B at hr hrl el
 obtain ⟨L, hL⟩ : ∃ L : List (List GDesc), L = [p.view, p.near, B] := ⟨_, rfl⟩
 rw [← hL] at el
 have hLl : L.length = 3 := by rw [hL]; rfl
 have hge : ∀ k (hk : k < 3), ([[fzD p.view], [fzD p.near], [fzD B]] : List (List DV))[k]? = some [fzD (L[k]'(by omega))] := fun k hk => by
  subst hL
  match k, hk with
  | 0, _ => rfl
  | 1, _ => rfl
  | 2, _ => rfl
 have hll : ∀ k (hk : k < 3), (L[k]'(by omega)).length ≤ 300 := fun k hk => by
  subst hL
  match k, hk with
  | 0, _ => exact h1
  | 1, _ => exact h2
  | 2, _ => exact Nat.le_trans hrl (by omega)
 refine af Ty.mixed Tryz.func14 rfl (by kernel_rfl) (by kernel_rfl) rfl [.tmp 2] rfl ?_
 refine g2_ ?_
 refine g2_ ?_
 refine .inl ⟨oF [0, 2, 4, 9, 1, 3, 5] (oT 6 (oF [7, 8] [])), by kernel_rfl, ?_⟩
 refine g2_ ?_
 refine CallS.eq hr ws_ (.inl ws_) ?_
 refine g2_ ?_
 refine aB 3 (fun k => [(3, .d (.rf 1 0 ((L.take k).flatten.map (·.node)).length))]) (fun _ => []) (fun k => [(1, .arr 5 1 (((L.take k).flatten.map (·.node)).map a_) false), (0, .arr 32 1 [[fzD p.view], [fzD p.near], [fzD B]] false)]) 2 (fun k => True) (ab [(1, .nil 1), (0, .to 0)] ?_) trivial (fun g k => by first | rfl | (repeat first | simp -implicitDefEqProofs only [go_sem, aa] | with_reducible refine gl_ ?_)) (by omega) (fun g => by simp -implicitDefEqProofs only [go_sem, aa]) (fun k hk hF => ?_) (fun hF => ?_)
 ·repeat first | simp -implicitDefEqProofs only [go_sem, aa, List.take_zero, List.flatten_nil] | with_reducible refine gl_ ?_
  first | done | rfl | exact ⟨rfl, rfl⟩
 ·have hg := hge k hk
  have hl := hll k hk
  have hsn : (L.take (k + 1)).flatten = (L.take k).flatten ++ L[k] := by rw [List.take_add_one, List.getElem?_eq_getElem (by omega), List.flatten_append]; simp
  generalize L[k] = lk at hg hl hsn
  have hfl : (L.take k).flatten.length ≤ 900 := by
   rw [hL]
   match k, hk with
   | 0, _ => simp
   | 1, _ => simp; omega
   | 2, _ => simp; omega
  simp only [fzD] at hg
  refine gf_ hg ?_
  refine aB lk.length (fun j => [(3, .d (.rf 1 0 (((L.take k).flatten ++ lk.take j).map (·.node)).length))]) (fun _ => []) (fun j => [(1, .arr 5 1 ((((L.take k).flatten ++ lk.take j).map (·.node)).map a_) false), (0, .arr 32 1 [[fzD p.view], [fzD p.near], [fzD B]] false)]) 2 (fun j => True) (ab [(1, .to 1), (0, .to 0)] ?_) trivial (fun g j => by first | rfl | (repeat first | simp -implicitDefEqProofs only [go_sem, aa] | with_reducible refine gl_ ?_)) (by omega) (fun g => by simp -implicitDefEqProofs only [go_sem, aa]) (fun j hj _ => ?_) (fun _ => ?_)
  ·repeat first | simp -implicitDefEqProofs only [go_sem, aa, List.take_zero, List.append_nil] | with_reducible refine gl_ ?_
   first | done | rfl | exact ⟨rfl, rfl⟩
  ·have hs2 : (L.take k).flatten ++ lk.take (j + 1) = ((L.take k).flatten ++ lk.take j) ++ [lk[j]] := by rw [List.take_add_one, List.getElem?_eq_getElem hj, List.append_assoc]; rfl
   have hfl2 : ((L.take k).flatten ++ lk.take j).length ≤ 1200 := by rw [List.length_append, List.length_take]; omega
   generalize (L.take k).flatten ++ lk.take j = A at hs2 hfl2
   repeat first | simp -implicitDefEqProofs only [go_sem, aa, aw hj] | with_reducible first | refine gl_ ?_ | refine ga_ ?_ | refine gn_ ?_
   generalize lk[j] = d at hs2
   refine gx_ ?_
   refine ⟨j + 1, ab [(1, .to 3), (0, .to 0)] ?_, rfl⟩
   repeat first | simp -implicitDefEqProofs only [go_sem, aa, hs2, List.length_append, List.map_append, List.map_cons, List.map_nil] | with_reducible refine gl_ ?_
  ·rw [List.take_of_length_le (Nat.le_refl lk.length), ← hsn]
   refine g2_ ?_
   refine ⟨k + 1, ab [(1, .to 1), (0, .to 0)] ?_, rfl⟩
   exact ws_
 ·rw [List.take_of_length_le (show L.length ≤ 3 by omega), ← el]
  refine g2_ ?_
  refine hs ?_
  have h13 : (aL ltU (dL p)).length = (dL p).length := bD
  refine g2_ ?_
  rw [← h13]
  refine ai7 (aL ltU (dL p)) (by omega) ?_
  refine g2_ ?_
  refine ae ?_ rfl
  exact ws_
end Go.Proofs.YtlaefellhnkfbaaGreat.V

set_option maxRecDepth 10000
set_option maxHeartbeats 4000000
namespace Go.Proofs.YtlaefellhnkfbaaGreat.V
open Go.Eng
def wV (n : Int) : av := ⟨n, [⟨0, 9⟩], 3, 2, 2, 2, 3, 8, 4, 3, 3, 4, 60, 200, 100⟩
theorem agR {c : av} {p : ak} {l : List GDesc} (hp : okH p) (hl : bZ l) (hl2 : ∀ d ∈ l, okF d) : okH (aH c p l) :=
 ⟨lI hp.g hl hl2, hp.rs, ⟨Nat.le_trans (List.length_filter_le _ _) hp.v8.1, fun d hd => hp.v8.2 d (List.mem_filter.1 hd).1⟩, ⟨fun d hd => hp.vw.1 d (List.mem_filter.1 hd).1, hp.vw.2.filter _⟩⟩
theorem lS (c : av) (node : UInt8) : okH (bh c node) := by
 have h := aaz c node
 refine ⟨⟨h, fun s hs => absurd (show s ∈ ([] : List GSpan) from hs) List.not_mem_nil, fun d hd => absurd (show d ∈ ([] : List GDesc) from hd) List.not_mem_nil, fun d hd => absurd (show d ∈ ([] : List GDesc) from hd) List.not_mem_nil, rh, rh, ?_⟩, ?_, ⟨Nat.zero_le _, fun d hd => absurd (show d ∈ ([] : List GDesc) from hd) List.not_mem_nil⟩, yj _⟩
 ·simp only [bh, List.length_replicate]; omega
 ·refine ⟨?_, fun r hr => ?_⟩
  ·simp only [bh, List.length_replicate]; omega
  ·simp only [bh, List.mem_replicate] at hr
   rw [hr.2, iW]; omega
theorem aau {p : ak} (h : okH p) {i : UInt16} {b : Bool} {t : List ao} (ht : t.length ≤ 12) : okH { p with inc := i, up := b, table := t } :=
 ⟨⟨⟨h.g.ok.filter, h.g.ok.view, h.g.ok.near, h.g.ok.succ, h.g.ok.pred, h.g.ok.sent, by show t.length ≤ 4000000; omega, h.g.ok.heard, h.g.ok.rows, h.g.ok.reports, h.g.ok.evs, h.g.ok.pulls⟩, h.g.filter, h.g.view, h.g.near, h.g.succ, h.g.pred, ht⟩, h.rs, h.v8, h.vw⟩
theorem l9 (c : av) (p : ak) (hp : okH p) : okH (bf c p).1 := by
 unfold bf
 split
 ·exact hp
 ·split
  ·exact hp
  ·refine aau (lS c p.node) ?_
   rw [List.length_set]
   simp only [bh, List.length_replicate]; omega
attribute [local go_sem] aO aU ah fzD plR bH bw aM bL aJ au bu dC z8 z16 z32 z64 ax aZ fa i2 List.map_cons List.map_nil
theorem abS (n : Int) : Con2 Tryz.prog 42 [.v (.int .i64 n)] (· = plR (.agg (aJ (wV n)))) := by
 refine Con2.ofEmb ?_
 refine af Ty.mixed Tryz.func42 rfl (by kernel_rfl) (by kernel_rfl) rfl [.cell 2 26] rfl ?_
 refine g2_ ?_
 refine g2_ ?_
 refine ae ?_ rfl
 repeat first | simp -implicitDefEqProofs only [go_sem, aa, wV] | with_reducible refine gl_ ?_
 rfl
def awC : av := wV 2
def awA : ak := (bf awC (bh awC 0)).1
def awB : ak := (bf awC (bh awC 1)).1
def awM : aV := { bV awB 1 0 with list := [aT awB] }
def awA1 : ak := (nj awC awA awM).1
def awW : aV := ⟨2, 0, 1, 1, [⟨0, 1, 0, []⟩], [⟨1, 1, 0⟩, ⟨1, 1, 0⟩], akl, 0, ⟨0, 0, 0⟩, [], []⟩
def awB1 : ak := (fE awC awB awW).1
def awQ : ak := aH awC (bx awC awB1) []
def awS : ak := (dE awC awQ [1, 2, 3]).1
def awL : List UInt8 := bG awS
theorem aw1 : bf awC (bh awC 0) = (awA, 0) := by kernel_rfl
theorem aw2 : bf awC (bh awC 1) = (awB, 0) := by kernel_rfl
theorem aw3 : awA.up = true := by kernel_rfl
theorem aw4 : awB.up = true := by kernel_rfl
theorem aw5 : eB awC awB 0 = ([awM], 0) := by kernel_rfl
theorem aw6 : (nj awC awA awM).2 = [awW] := by kernel_rfl
theorem aw7 : awA1.view = [⟨1, 1, 0, []⟩] := by kernel_rfl
theorem aw8 : (fE awC awB awW).2 = [] := by kernel_rfl
theorem amc : awQ.view = [⟨0, 1, 1, []⟩] := by kernel_rfl
theorem amm : awL = [0] := by kernel_rfl
theorem ami : (eZ awC awB1 [1, 2, 3] awL).2.map (fun m => (m.kind, m.to, m.frm, m.inc)) = [(3, 0, 1, 1), (5, 0, 1, 1), (6, 0, 1, 1), (8, 0, 1, 1)] := by kernel_rfl
theorem amu : fQ awQ.view (aT awQ) awC.swap [1, 2, 3] = (0, [⟨1, 1, 0, []⟩], true) := by kernel_rfl
end Go.Proofs.YtlaefellhnkfbaaGreat.V

set_option maxRecDepth 10000
set_option maxHeartbeats 4000000
namespace Go.Proofs.YtlaefellhnkfbaaGreat.V
open Go.Eng
attribute [local go_sem] aO aU ah fzD plR bH bw aM bL aJ au bu dC z8 z16 z32 z64 ax aZ fa i2 List.map_cons List.map_nil
theorem acC (c : av) (p : ak) (L : List UInt8) (hp : okP p) (hu : p.up = true) (hL : Con2 Tryz.prog 14 [.agg (au p)] (· = plR (.fz 1 (L.map a_)))) (hLn : L.length ≤ 4000000) :
  Con2 Tryz.prog 13 [.agg (aJ c), .agg (au p)] (· = plR (.tup [.agg (au (nw c p)), .fz 17 ((L.map (bV p 9)).map ax), .v (.int .i64 0)])) := by
 refine Con2.ofEmb ?_
 have kd := qF c p
 have km := fun to => eV p 9 to
 obtain ⟨f, hf⟩ : ∃ f : UInt8 → aV, f = bV p 9 := ⟨_, rfl⟩
 rw [← hf] at km ⊢
 generalize nw c p = D at kd ⊢
 refine af Ty.mixed Tryz.func13 rfl (by kernel_rfl) (by kernel_rfl) rfl [.cell 4 49, .tmp 5, .tmp 6] rfl ?_
 refine g2_ ?_
 refine g2_ ?_
 rw [hu]
 refine g2_ ?_
 refine CallS.eqW hL (wf_ hu) (.inl ws_) ?_
 refine gx_ ?_
 refine aB L.length (fun k => [(7, .d (.rf 0 0 ((L.take k).map f).length))]) (fun _ => []) (fun k => [(0, .arr 67 17 (((L.take k).map f).map ax) false)]) 1 (fun _ => True) (ab [(0, .nil 17)] ?_) trivial (fun g k => by simp -implicitDefEqProofs only [go_sem, aa]) (by omega) (fun g => by simp -implicitDefEqProofs only [go_sem, aa]) (fun k hk _ => ?_) (fun _ => ?_)
 ·repeat first | simp -implicitDefEqProofs only [go_sem, aa, List.take_zero] | with_reducible refine gl_ ?_
  first | done | rfl | exact ⟨rfl, rfl⟩
 ·have hg : (L.map a_)[k]? = some [.v (.int .u8 L[k].toNat)] := by rw [List.getElem?_map, List.getElem?_eq_getElem hk]; rfl
  have hsn : (L.take (k + 1)).map f = (L.take k).map f ++ [f L[k]] := by rw [List.take_add_one, List.getElem?_eq_getElem hk, List.map_append]; rfl
  have hsl : (L.take (k + 1)).length = ((L.take k).map f).length + 1 := by have := congrArg List.length hsn; rw [List.length_map, List.length_append] at this; exact this
  have hsl2 : ((L.take k).map f).length ≤ 4000000 := by rw [List.length_map, List.length_take]; omega
  have kk := km L[k]
  generalize (L.take k).map f = A at hsn hsl hsl2
  generalize f L[k] = x at hsn kk
  refine gf_ hg ?_
  refine CallS.eqW kk (wf_ hu) (.inl ws_) ?_
  refine gx_ ?_
  refine ⟨k + 1, ab [(0, .to 2)] ?_, rfl⟩
  repeat first | simp -implicitDefEqProofs only [go_sem, aa, hsn, hsl, List.map_append, List.length_append] | with_reducible refine gl_ ?_
 ·rw [List.take_of_length_le (Nat.le_refl L.length)]
  have hsl3 : (L.map f).length ≤ 4000000 := by rw [List.length_map]; omega
  generalize L.map f = A at hsl3 ⊢
  refine g2_ ?_
  refine CallS.eqW kd (wf_ hu) (.inl ws_) ?_
  refine g2_ ?_
  refine ae ?_ rfl
  exact ws_
end Go.Proofs.YtlaefellhnkfbaaGreat.V

set_option maxRecDepth 10000
namespace Go.Proofs.YtlaefellhnkfbaaGreat.V
open Go.Eng
theorem lL (far : UInt16 → UInt16 → UInt16) (here : UInt16) (dom : List GSpan) (d : GDesc) : cF far here dom [d] = d := by
 have h0 : ey far here dom [d] 0 = (0, far here (dY dom d)) := rfl
 have h : ey far here dom [d] 1 = (0, far here (dY dom d)) := by
  rw [pR (k := 0) (by simp), h0]
  exact if_neg (by simp)
 show [d].getD (ey far here dom [d] 1).1 aO = d
 rw [h]; rfl
theorem uX {dom : List GSpan} {self d : GDesc} {ls : List (List GDesc)} (h : bl self.node ls = [d]) : cR dom self ls = ⟨true, true, d, d⟩ := by
 unfold cR
 rw [h, if_neg (by simp), lL, lL]
theorem abI {own : List GSpan} {self : UInt8} {room : Int} {ls : List (List GDesc)} (h : cw own (bl self ls) = []) : cO own self room ls = [] := by
 unfold cO
 split
 ·rfl
 ·rw [h]
  simp [aL]
theorem adh {c : av} {p : ak} {d : GDesc} (hv : p.view = [d]) (hc : b_ p d = true) (hn : p.near = []) (hr : p.ring = ⟨false, false, aO, aO⟩) (hu : bl p.node [[d], [], [], []] = [d]) (hs : cw p.filter [d] = []) :
  aH c p [] = { p with view := [d], near := [], ring := ⟨true, true, d, d⟩ } := by
 have e1 : bk p p.view = [d] := by rw [hv]; simp [bk, hc]
 have e2 : bk p p.near = [] := by rw [hn]; rfl
 have e3 : aN (cd p p.ring) = [] := by rw [hr]; rfl
 have e4 : bW c p [] = [] := rfl
 have e5 : cO p.filter p.node c.near [[d], [], [], []] = [] := abI (by rw [hu]; exact hs)
 have e6 : cR c.schema (aT p) [[d], [], [], []] = ⟨true, true, d, d⟩ := uX hu
 unfold aH
 simp only [e1, e2, e3, e4, e5, e6]
theorem ak0 {d : GDesc} {self : UInt8} {room : Int} (h1 : d.node ≠ self) (h2 : d.inc ≠ 0) (h3 : 0 < room) : db [] d self room = [d] := by
 have h : bB [] d self room = ([d], true) := by
  unfold bB
  rw [if_neg (by simp [h1, h2])]
  show (if room ≤ (0 : Int) then _ else _) = _
  rw [if_neg (by omega)]; rfl
 unfold db
 rw [h]; rfl
theorem fill_one {d : GDesc} {self : UInt8} {room : Int} (h1 : d.node ≠ self) (h2 : d.inc ≠ 0) (h3 : 0 < room) : cZ self room [] [d] = [d] := by
 have h : bB [] d self room = ([d], true) := by
  unfold bB
  rw [if_neg (by simp [h1, h2])]
  show (if room ≤ (0 : Int) then _ else _) = _
  rw [if_neg (by omega)]; rfl
 rw [cZ, h]; rfl
structure Tab (c : av) (p : ak) (a b : ao) : Prop where
 len : (p.table.length : Int) = c.nodes
 a : p.table[0]? = some a
 b : p.table[1]? = some b
theorem uK {c : av} {p : ak} {node : UInt8} {inc : UInt16} {m : ao} (h1 : (node.toNat : Int) < c.nodes) (hl : (p.table.length : Int) = c.nodes) (h2 : node ≠ p.node) (h3 : inc ≠ 0) (hm : p.table[node.toNat]? = some m) (h4 : ¬ inc < m.inc) (h5 : ¬ (inc = m.inc ∧ m.state = 3)) :
  aI c p node inc = ({ p with table := de p.table node inc, reports := if m.inc < inc then ec p.reports node else p.reports }, true) := by
 unfold aI
 rw [if_neg (by simp [h2, h3]; omega), hm]
 simp only
 rw [if_neg (by simp only [not_or]; exact ⟨h4, h5⟩)]
theorem jJ {l : List ao} {i : UInt8} {inc : UInt16} {k : Nat} : (de l i inc)[k]? = (l[k]?).map (if i.toNat = k then gm inc else id) := by
 unfold de
 rw [List.getElem?_modify]
 cases l[k]? <;> (split <;> rfl)
structure Sh (c : av) (p : ak) (nd : UInt8) (i : UInt16) (v : List GDesc) (r : fI) (a b : ao) : Prop where
 h : okH p
 node : p.node = nd
 inc : p.inc = i
 up : p.up = true
 filter : p.filter = []
 view : p.view = v
 near : p.near = []
 ring : p.ring = r
 tab : Tab c p a b
def zR : fI := ⟨false, false, aO, aO⟩
theorem ahi {c : av} (h2 : 2 ≤ c.nodes) (h12 : c.nodes ≤ 12) (nd : UInt8) : ((bh c nd).table.length : Int) = c.nodes := by
 simp only [bh, List.length_replicate]; omega
theorem qD {l m : List ao} {self : UInt8} {k : Nat} : (dG l m self)[k]? = (l[k]?).map (mMg m self k) := by
 rw [dG, List.getElem?_mapIdx]
theorem adN {l : List ao} {i : UInt8} {inc : UInt16} {k : Nat} : (fH l i inc)[k]? = (l[k]?).map (if i.toNat = k then jo inc else id) := by
 unfold fH
 rw [List.getElem?_modify]
 cases l[k]? <;> (split <;> rfl)
theorem aeU {m : aV} {d : GDesc} (h1 : m.list = [d]) (h2 : d.filter = []) (h3 : m.table.length ≤ 1048576) : okMg m :=
 ⟨by rw [h1]; simp, fun x hx => (by rw [h1] at hx; rw [List.mem_singleton.1 hx, h2]; simp), fun x hx s hs => (by rw [h1] at hx; rw [List.mem_singleton.1 hx, h2] at hs; cases hs), h3⟩
structure amw (c : av) (A B : ak) (M : aV) (P1 : ak) (W : aV) (Q1 : ak) (P2 : ak) : Prop where
 a1 : bf c (bh c 0) = (A, 0)
 a2 : A.up = true
 a3 : okH A
 b1 : bf c (bh c 1) = (B, 0)
 b2 : B.up = true
 b3 : okH B
 m1 : eB c B 0 = ([M], 0)
 m2 : okMg M
 m3 : M.to = A.node
 m4 : M.kind = 1
 p1 : nj c A M = (P1, [W])
 p2 : okH P1
 p3 : P1.up = true
 w1 : okMg W
 w2 : W.to = B.node
 w3 : W.kind = 2
 q1 : fE c B W = (Q1, [])
 q2 : okH Q1
 q3 : Q1.up = true
 q4 : dL Q1 = [0, 0]
 q5 : Q1.node = 1
 q6 : Q1.inc = 1
 q7 : Q1.view.length ≤ 300 ∧ Q1.near.length ≤ 300
 e1 : okMg (bV Q1 9 0)
 e2 : (bV Q1 9 0).to = P1.node
 r1 : p_ c P1 (bV Q1 9 0) = (P2, [])
 r2 : Sh c P2 0 1 [] zR ⟨1, 1, 0⟩ ⟨1, 3, 0⟩
end Go.Proofs.YtlaefellhnkfbaaGreat.V
