/-
 Part 47 of the proof of Pj: the engine and the walks, in their order.
-/
import Derived.Test.YtlaefellhnkfbaaGreatPj41
import Derived.Test.YtlaefellhnkfbaaGreatPj42
import Derived.Test.YtlaefellhnkfbaaGreatPj45
import Derived.Test.YtlaefellhnkfbaaGreatPj46
set_option linter.unusedSimpArgs false
set_option linter.unusedVariables false
namespace Go.Proofs.YtlaefellhnkfbaaGreat.V
open Go.Eng
def Rt (self : UInt8) (room : Int) (l : List GDesc) : Prop := (l.length : Int) ≤ room ∧ Vw self l
section
variable {self : UInt8} {room : Int} {l : List GDesc}
theorem xV (h : Rt self room l) (d : GDesc) : Rt self room (bB l d self room).1 := ⟨pj d h.1, mg h.2 d room⟩
theorem z5 : ∀ (r l : List GDesc), Rt self room l → Rt self room (cZ self room l r)
 | [], l, h => h
 | d :: r, l, h => by rw [cZ]; exact z5 r _ (xV h d)
theorem agx (h : Rt self room l) (d : GDesc) : Rt self room (db l d self room) := by
 unfold db
 split
 ·exact xV h d
 ·split
  ·exact h
  ·split
   ·exact h
   ·split
    ·rename_i o _
     have h1 := pj (self := self) (l := bb l o.node) d (room := l.length) (by have := np l o.node; omega)
     exact ⟨Int.le_trans h1 h.1, mg (nS h.2 _) d _⟩
    ·exact h
theorem acZ {l : List GDesc} {s : UInt8} (h : bX l s ≠ none) : (bb l s).length < l.length := by
 cases hi : bX l s with
 | none => exact absurd hi h
 | some i =>
  obtain ⟨o, ho, hn⟩ := cD hi
  exact List.length_filter_lt_length_iff_exists.2 ⟨o, List.mem_of_getElem? ho, by simp [hn]⟩
theorem qH {L got : List GDesc} (hv : Vw self L) : ∀ S : List GDesc, Vw self (cy L got S).1 ∧ ((cy L got S).2.1 = true → (cy L got S).1.length + 1 ≤ L.length)
 | [] => ⟨hv, fun h => by cases h⟩
 | s :: r => by
  rw [cy]
  split
  ·rename_i h
   exact ⟨nS hv _, fun _ => acZ h.1⟩
  ·exact qH hv r
theorem ji {got : List GDesc} : ∀ (r L S : List GDesc), Rt self room L → Rt self room (dt got self room L S r)
 | [], L, S, h => h
 | d :: r, L, S, h => by
  rw [dt]
  split
  ·exact ji r _ _ (xV h d)
  ·split
   ·exact ji r _ _ h
   ·split
    ·rename_i hg
     obtain ⟨h1, h2⟩ := qH (got := got) h.2 S
     have h3 := h2 hg
     have h4 := pj (self := self) (l := (cy L got S).1) d (room := (cy L got S).1.length + 1) (by omega)
     have h5 := h.1
     exact ji r _ _ ⟨by omega, mg h1 d _⟩
    ·exact ji r _ _ h
theorem mY (h : Rt self room l) (f : GDesc → Bool) : Rt self room (l.filter f) := ⟨by have := List.length_filter_le f l; have := h.1; omega, fun d hd => h.2.1 d (List.mem_filter.1 hd).1, h.2.2.filter _⟩
theorem ad_ (h : Rt self room l) : Rt self room (bI l) := ⟨by rw [bI, List.length_map]; exact h.1, wM h.2⟩
theorem lU (h : Rt self room l) (h0 : 0 ≤ room) : dM l self room = true := by
 unfold dM
 exact decide_eq_true ⟨h0, h.1, h.2⟩
theorem gl (h : dM l self room = true) : Rt self room l := by
 unfold dM at h
 exact (of_decide_eq_true h).2
end
theorem union_up {self : UInt8} {L : List (List GDesc)} : Up cx (bl self L) := by
 unfold bl
 have key := lq (self := self) (P := fun _ => True) afJ (ds := L.flatten) (fun _ _ => trivial)
 generalize eI self zL L.flatten = A at key
 refine List.pairwise_filter.2 (List.pairwise_iff_getElem.2 fun i j hi hj hij h1 h2 => ?_)
 have k1 := key i _ (List.getElem?_eq_getElem hi)
 have k2 := key j _ (List.getElem?_eq_getElem hj)
 have z : ∀ {x : GDesc}, decide ((0 : Int) < (x.inc.toNat : Int)) = true → ¬ x.inc = 0 := fun h e => by rw [e] at h; simp at h
 have e1 := (k1.resolve_left (z h1)).1
 have e2 := (k2.resolve_left (z h2)).1
 show cx A[i] < cx A[j]
 simp only [cx]
 omega
theorem abv {self : UInt8} {L : List (List GDesc)} {d : GDesc} (h : d ∈ bl self L) : d.inc ≠ 0 := fun e => by
 have := (List.mem_filter.1 h).2
 rw [e] at this
 simp at this
instance : Inhabited GDesc := ⟨aO⟩
instance : Inhabited pV := ⟨⟨aO, 0⟩⟩
theorem aen {a b : Nat} : fG a b < 0 ↔ a < b := by
 unfold fG
 split
 ·simp; assumption
 ·split <;> simp <;> omega
theorem jT (a b : GDesc) : cu a b = decide (cx a < cx b) := by
 unfold cu
 congr 1
 exact propext aen
theorem air : Go.Sort.SWO cu where
 irrefl x := by rw [jT]; simp
 trans x y z := by simp only [jT, decide_eq_true_eq]; omega
 ntrans x y z := by simp only [jT, decide_eq_false_iff_not]; omega
theorem po {α : Type} {lt : α → α → Bool} : ∀ (l P : List α), (l.foldl (iZ lt) P).Perm (l ++ P)
 | [], P => List.Perm.refl _
 | x :: r, P => by
  refine (po r (iZ lt P x)).trans ?_
  exact ((List.Perm.refl r).append rY).trans List.perm_middle
theorem nk {α : Type} {lt : α → α → Bool} (l : List α) : (aL lt l).Perm l := by
 have := po (lt := lt) l []
 rwa [List.append_nil] at this
theorem aiu {own : List GSpan} {self : UInt8} {room : Int} {L : List (List GDesc)} (h0 : 0 ≤ room) (hs : ∀ l ∈ L, ∀ d ∈ l, d.node ≠ self) : Rt self room (cO own self room L) := by
 have hmem : ∀ d ∈ cO own self room L, d.node ≠ self ∧ d.inc ≠ 0 := fun d hd => by
  have h1 := mq hd
  obtain ⟨l, h2, h3⟩ := gk h1
  exact ⟨hs l h2 d h3, abv h1⟩
 refine ⟨?_, hmem, ?_⟩
 ·unfold cO
  split
  ·simpa using h0
  ·rw [bD, List.length_map, List.length_take]; omega
 ·unfold cO
  split
  ·exact List.Pairwise.nil
  ·have hu : ((bl self L).map cx).Nodup := (List.pairwise_map.2 (union_up.imp fun h => Nat.ne_of_lt h))
   have e1 : ((cw own (bl self L)).map fun x => cx x.d).Nodup := by
    refine List.Nodup.sublist ?_ hu
    unfold cw
    refine List.Sublist.trans (List.Sublist.map _ List.filter_sublist) ?_
    rw [List.map_map]
    exact List.Sublist.refl _
   have e2 : ((aL cr (cw own (bl self L))).map fun x => cx x.d).Nodup := ((nk _).map _).nodup_iff.2 e1
   have e3 : ((((aL cr (cw own (bl self L))).take room.toNat).map (·.d)).map cx).Nodup := by
    rw [List.map_map]
    exact List.Nodup.sublist (List.Sublist.map _ (List.take_sublist _ _)) e2
   generalize ((aL cr (cw own (bl self L))).take room.toNat).map (·.d) = X at e3
   have e4 : ((aL cu X).map cx).Nodup := ((nk _).map _).nodup_iff.2 e3
   have e5 := pT air X
   have e6 := List.pairwise_map.1 e4
   refine List.Pairwise.imp₂ ?_ e5 e6
   intro a b h1 h2
   rw [jT] at h1
   have := of_decide_eq_false h1
   show cx a < cx b
   omega
theorem agf {own : List GSpan} {self : UInt8} {room : Int} {L : List (List GDesc)} {d : GDesc} (h : d ∈ cO own self room L) : 0 < pG own d.filter := by
 unfold cO at h
 split at h
 ·cases h
 ·rcases ft h with h | h
  ·obtain ⟨x, hx, rfl⟩ := List.mem_map.1 h
   rcases ft (List.mem_of_mem_take hx) with h | h
   ·obtain ⟨h, h2⟩ := List.mem_filter.1 h
    obtain ⟨y, hy, rfl⟩ := List.mem_map.1 h
    exact of_decide_eq_true h2
   ·cases h
  ·cases h
theorem lT {p q : ak} (h1 : q.node = p.node) (h2 : q.table = p.table) (d : GDesc) : b_ q d = b_ p d := by
 unfold b_; rw [h1, h2]
theorem pW {p : ak} {d : GDesc} (h : b_ p d = true) : d.node ≠ p.node := (mw h).1
theorem afG {p : ak} {r : fI} {d : GDesc} (h : d ∈ aN (cd p r)) : b_ p d = true := by
 rcases jN h with ⟨h1, rfl⟩ | ⟨h1, rfl⟩
 ·have h2 : r.hs = true ∧ b_ p r.succ = true := by simpa [cd] using h1
  have e : (cd p r).succ = r.succ := by simp [cd, h2.2]
  rw [e]; exact h2.2
 ·have h2 : r.hp = true ∧ b_ p r.pred = true := by simpa [cd] using h1
  have e : (cd p r).pred = r.pred := by simp [cd, h2.2]
  rw [e]; exact h2.2
theorem nr {far : UInt16 → UInt16 → UInt16} {here : UInt16} {dom : List GSpan} {known : List GDesc} (h : known ≠ []) : cF far here dom known ∈ known := by
 have hb := iA (far := far) (here := here) (dom := dom) h known.length
 rw [cF, List.getD_eq_getElem?_getD, List.getElem?_eq_getElem hb]; exact List.getElem_mem hb
theorem xu {dom : List GSpan} {s : GDesc} {L : List (List GDesc)} {d : GDesc} (h : d ∈ aN (cR dom s L)) : d ∈ bl s.node L := by
 unfold cR at h
 split at h
 ·simp [aN] at h
 ·rename_i hn
  rcases jN h with ⟨_, rfl⟩ | ⟨_, rfl⟩
  ·exact nr hn
  ·exact nr hn
theorem vJ {dom : List GSpan} {s : GDesc} {L : List (List GDesc)} : (cR dom s L).hs = (cR dom s L).hp := by
 unfold cR
 split <;> rfl
structure Pre (c : av) (p : ak) : Prop where
 table : (p.table.length : Int) = c.nodes
 rows : (p.rows.length : Int) = c.nodes
 heard : (p.heard.length : Int) = c.nodes
 view : Rt p.node c.view p.view
theorem adU {c : av} {p : ak} {l : List GDesc} : (∀ k ∈ [bk p p.view, bk p p.near, aN (cd p p.ring), bW c p l], ∀ d ∈ k, b_ p d = true) ∧
  ∀ d ∈ cO p.filter p.node c.near [bk p p.view, bk p p.near, aN (cd p p.ring), bW c p l], b_ p d = true := by
 have h1 : ∀ k ∈ [bk p p.view, bk p p.near, aN (cd p p.ring), bW c p l], ∀ d ∈ k, b_ p d = true := by
  intro k hk d hd
  simp only [List.mem_cons, List.not_mem_nil, or_false] at hk
  rcases hk with rfl | rfl | rfl | rfl
  ·exact (List.mem_filter.1 hd).2
  ·exact (List.mem_filter.1 hd).2
  ·exact afG hd
  ·exact (List.mem_filter.1 hd).2
 refine ⟨h1, fun d hd => ?_⟩
 obtain ⟨k, h2, h3⟩ := gk (mq hd)
 exact h1 k h2 d h3
theorem aeF {c : av} {p : ak} {l : List GDesc} (hc : aA c = true) (h : Pre c p) : Win c (aH c p l) := by
 obtain ⟨m1, m2⟩ := adU (c := c) (p := p) (l := l)
 have hv0 : 0 ≤ c.view ∧ 0 ≤ c.near := by
  unfold aA inR at hc
  simp only [Bool.and_eq_true, decide_eq_true_eq] at hc
  omega
 have hsame : ∀ d, b_ (aH c p l) d = b_ p d := lT rfl rfl
 refine ⟨h.table, h.rows, h.heard, ?_, ?_, ?_, ?_, ?_⟩
 ·exact lU (mY h.view _) hv0.1
 ·exact lU (aiu hv0.2 (fun k hk d hd => pW (m1 k hk d hd))) hv0.2
 ·intro k hk d hd
  rw [hsame]
  simp only [List.mem_cons, List.not_mem_nil, or_false] at hk
  rcases hk with rfl | rfl | rfl
  ·exact (List.mem_filter.1 hd).2
  ·exact m2 d hd
  ·obtain ⟨k2, h2, h3⟩ := gk (xu hd)
   simp only [List.mem_cons, List.not_mem_nil, or_false] at h2
   rcases h2 with rfl | rfl | rfl | rfl
   ·exact m1 _ (by simp) d h3
   ·exact m2 d h3
   ·exact m1 _ (by simp) d h3
   ·exact m1 _ (by simp) d h3
 ·exact fun d hd => agf hd
 ·exact .inl vJ
end Go.Proofs.YtlaefellhnkfbaaGreat.V

namespace Go.Proofs.YtlaefellhnkfbaaGreat.V
open Go.Eng
theorem cV {c : av} (h : aA c = true) : 2 ≤ c.nodes ∧ c.nodes ≤ 12 ∧ 1 ≤ c.view ∧ c.view ≤ 12 ∧ 0 ≤ c.near ∧ c.near ≤ 12 ∧ 1 ≤ c.swap ∧ c.swap ≤ 12 ∧ 1 ≤ c.schema.length ∧ c.schema.length ≤ 4 := by
 unfold aA inR d_ at h
 simp only [Bool.and_eq_true, decide_eq_true_eq] at h
 omega
def TUp (a b : List ao) : Prop := a.length = b.length ∧ ∀ (i : Nat) (x y : ao), a[i]? = some x → b[i]? = some y → x.inc ≤ y.inc
theorem TUp.refl (a : List ao) : TUp a a := ⟨rfl, fun i x y h1 h2 => by rw [h1] at h2; cases h2; exact UInt16.le_refl _⟩
theorem TUp.trans {a b c : List ao} (h : TUp a b) (g : TUp b c) : TUp a c := ⟨h.1.trans g.1, fun i x z h1 h3 => by
 have hi := (List.getElem?_eq_some_iff.1 h1).1
 have h2 : b[i]? = some (b[i]'(by rw [← h.1]; exact hi)) := List.getElem?_eq_getElem _
 exact UInt16.le_trans (h.2 i _ _ h1 h2) (g.2 i _ _ h2 h3)⟩
theorem oC {l : List ao} {i : Nat} {f : ao → ao} (hf : ∀ m, m.inc ≤ (f m).inc) : TUp l (l.modify i f) := ⟨by simp, fun j x y h1 h2 => by
 rw [List.getElem?_modify, h1] at h2
 simp only [Option.map_eq_map, Option.map_some] at h2
 cases h2
 split
 ·exact hf x
 ·exact UInt16.le_refl _⟩
theorem pr {l : List ao} {f : Nat → ao → ao} (hf : ∀ i m, m.inc ≤ (f i m).inc) : TUp l (l.mapIdx f) := ⟨by simp, fun j x y h1 h2 => by
 rw [List.getElem?_mapIdx, h1] at h2
 simp only [Option.map_some] at h2
 cases h2
 exact hf j x⟩
theorem abX (l : List ao) (i : UInt8) (inc : UInt16) : TUp l (de l i inc) := oC fun m => by
 unfold gm
 split
 ·rename_i h
  rcases h with h | h
  ·exact UInt16.le_of_lt h
  ·rw [h.1]; exact UInt16.le_refl _
 ·exact UInt16.le_refl _
theorem afz (l : List ao) (i : UInt8) (inc : UInt16) : TUp l (fH l i inc) := oC fun m => by
 unfold jo
 split
 ·rename_i h; exact UInt16.le_of_lt h
 ·split <;> exact UInt16.le_refl _
theorem ab5 (l m : List ao) (self : UInt8) : TUp l (dG l m self) := pr fun i x => by
 unfold mMg
 split
 ·rename_i y _
  split
  ·rename_i h
   have h2 := h.2
   unfold iH at h2
   split at h2
   ·exact UInt16.le_of_lt (of_decide_eq_true h2)
   ·rename_i h3
    have h3 : y.inc = x.inc := Classical.byContradiction h3
    show x.inc ≤ y.inc
    rw [h3]; exact UInt16.le_refl _
  ·exact UInt16.le_refl _
 ·exact UInt16.le_refl _
theorem uA (l : List ao) (self : UInt8) (after : Int) : TUp l (gy l self after) := pr fun i m => by
 unfold mTk mQ
 split
 ·exact UInt16.le_refl _
 ·split <;> (split <;> exact UInt16.le_refl _)
structure Go1 (c : av) (p q : ak) : Prop where
 h : okH q
 pre : Pre c q
 node : q.node = p.node
 up : q.up = p.up
 inc : q.inc = p.inc
 ws : ok8 q.wait.sent
 f8 : q.filter.length ≤ 8
 tab : TUp p.table q.table
structure Bd (c : av) (nd : UInt8) (p : ak) : Prop where
 h : okH p
 win : Win c p
 node : p.node = nd
 ws : ok8 p.wait.sent
 f8 : p.filter.length ≤ 8
 dn : p.up = false → p.view = [] ∧ p.near = [] ∧ p.ring.hs = false ∧ p.ring.hp = false ∧ p.wait.some = false
structure MOk (c : av) (p : ak) (m : aV) : Prop where
 frm : m.frm = p.node
 inc : m.inc = p.inc
 ne : m.to ≠ p.node
 lt : (m.to.toNat : Int) < c.nodes
 k1 : 1 ≤ m.kind.toNat
 k9 : m.kind.toNat ≤ 9
structure Step1 (c : av) (p q : ak) (l : List aV) : Prop where
 bd : Bd c p.node q
 inc : q.inc = p.inc
 up : q.up = p.up
 tab : TUp p.table q.table
 ms : ∀ m ∈ l, MOk c p m
section
variable {c : av} {nd : UInt8} {p q : ak}
theorem Bd.pre (h : Bd c nd p) : Pre c p := ⟨h.win.table, h.win.rows, h.win.heard, gl h.win.view⟩
theorem Bd.go (h : Bd c nd p) : Go1 c p p := ⟨h.h, h.pre, rfl, rfl, rfl, h.ws, h.f8, TUp.refl _⟩
theorem Bd.stay (h : Bd c nd p) : Step1 c p p [] := by
 obtain rfl := h.node
 exact ⟨h, rfl, rfl, TUp.refl _, fun m hm => absurd hm List.not_mem_nil⟩
theorem Go1.meet (hc : aA c = true) (g : Go1 c p q) (hu : p.up = true) {l : List GDesc} (hl : bZ l) (hl2 : ∀ d ∈ l, okF d) {ms : List aV} (hms : ∀ m ∈ ms, MOk c p m) : Step1 c p (aH c q l) ms := by
 refine ⟨⟨⟨lI g.h.g hl hl2, g.h.rs, ⟨?_, ?_⟩, ?_⟩, aeF hc g.pre, g.node, g.ws, g.f8, fun e => ?_⟩, g.inc, g.up, g.tab, hms⟩
 ·exact Nat.le_trans (List.length_filter_le _ _) g.h.v8.1
 ·exact fun d hd => g.h.v8.2 d (List.mem_filter.1 hd).1
 ·exact (mY g.pre.view _).2
 ·have e2 : q.up = false := e
  rw [g.up, hu] at e2; cases e2
theorem Go1.tab_ (g : Go1 c p q) {t : List ao} {r : List (List dv)} (ht : TUp q.table t) (hr : lA r) : Go1 c p { q with table := t, reports := r } :=
 ⟨tm g.h (by rw [← ht.1]; exact g.h.g.table) hr, ⟨by have := g.pre.table; rw [ht.1] at this; exact this, g.pre.rows, g.pre.heard, g.pre.view⟩, g.node, g.up, g.inc, g.ws, g.f8, g.tab.trans ht⟩
theorem Go1.learn (g : Go1 c p q) (t : List ao) : Go1 c p (cK q t) := g.tab_ (ab5 _ _ _) (lf g.h.rs _)
theorem Go1.left (g : Go1 c p q) (i : UInt8) (inc : UInt16) : Go1 c p { q with table := fH q.table i inc } := g.tab_ (afz _ _ _) g.h.rs
theorem Go1.view (g : Go1 c p q) (hc : aA c = true) {V : List GDesc} (hv : Rt q.node c.view V) (h8 : ∀ d ∈ V, d.filter.length ≤ 8) (hF : ∀ d ∈ V, okF d) : Go1 c p { q with view := V } := by
 have hr := cV hc
 have h1 := hv.1
 exact ⟨⟨jh g.h.g (by omega) hF, g.h.rs, ⟨by show V.length ≤ 1100000; omega, h8⟩, hv.2⟩, ⟨g.pre.table, g.pre.rows, g.pre.heard, hv⟩, g.node, g.up, g.inc, g.ws, g.f8, g.tab⟩
theorem Go1.wait (g : Go1 c p q) {w : GW} (hw : ok8 w.sent) : Go1 c p { q with wait := w } := ⟨pB g.h hw.toDs, ⟨g.pre.table, g.pre.rows, g.pre.heard, g.pre.view⟩, g.node, g.up, g.inc, hw, g.f8, g.tab⟩
theorem zH {n : UInt8} {i : UInt16} (h : (aI c p n i).2 = false) : (aI c p n i).1 = p := by
 unfold aI at h ⊢
 split
 ·rfl
 ·split
  ·rfl
  ·split
   ·rfl
   ·rename_i h1 _ m hm h2
    rw [if_neg h1] at h
    simp only [hm, if_neg h2] at h
    cases h
theorem rM {n : UInt8} {i : UInt16} (h : (aI c p n i).2 = true) : (n.toNat : Int) < c.nodes ∧ n ≠ p.node := by
 unfold aI at h
 split at h
 ·cases h
 ·rename_i h1
  refine ⟨by omega, fun e => h1 (.inr (.inr (.inl e)))⟩
theorem Go1.hear (g : Go1 c p q) (n : UInt8) (i : UInt16) : Go1 c p (aI c q n i).1 := by
 unfold aI
 split
 ·exact g
 ·split
  ·exact g
  ·split
   ·exact g
   ·refine g.tab_ (abX _ _ _) ?_
    split
    ·exact jl g.h.rs
    ·exact g.h.rs
theorem Bd.curs (h : Bd c nd p) {k : List GDesc} (hk : k ∈ [p.view, p.near, aN p.ring]) {d : GDesc} (hd : d ∈ k) : d.node ≠ p.node ∧ (d.node.toNat : Int) < c.nodes := by
 have h1 := h.win.cur k hk d hd
 have h2 := nZ h1
 have h3 := h.win.table
 exact ⟨pW h1, by omega⟩
theorem MOk.of {k to : UInt8} (h1 : to ≠ p.node) (h2 : (to.toNat : Int) < c.nodes) (h3 : 1 ≤ k.toNat) (h4 : k.toNat ≤ 9) {l : List GDesc} {t : List ao} : MOk c p { bV p k to with list := l, table := t } := ⟨rfl, rfl, h1, h2, h3, h4⟩
end
end Go.Proofs.YtlaefellhnkfbaaGreat.V

namespace Go.Proofs.YtlaefellhnkfbaaGreat.V
open Go.Eng
section
variable {c : av} {nd : UInt8} {p q : ak} {m : aV} {dr : List UInt32}
theorem dT (hc : aA c = true) (hB : Bd c nd p) (hu : p.up = true) {L : List GDesc} (hL : bZ L) (hL2 : ∀ d ∈ L, okF d) {H : ak → ak} {M : ak → List aV}
  (hH : ∀ q, Go1 c p q → ((m.frm.toNat : Int) < c.nodes ∧ m.frm ≠ p.node) → Go1 c p (H q) ∧ ∀ x ∈ M q, MOk c p x) :
  Step1 c p (if (aI c p m.frm m.inc).2 = true then (aH c (H (aI c p m.frm m.inc).1) L, M (aI c p m.frm m.inc).1) else ((aI c p m.frm m.inc).1, [])).1
   (if (aI c p m.frm m.inc).2 = true then (aH c (H (aI c p m.frm m.inc).1) L, M (aI c p m.frm m.inc).1) else ((aI c p m.frm m.inc).1, [])).2 := by
 cases h : (aI c p m.frm m.inc).2 with
 | false =>
  rw [if_neg (by decide), zH h]
  exact hB.stay
 | true =>
  rw [if_pos rfl]
  obtain ⟨g, ms⟩ := hH _ (hB.go.hear m.frm m.inc) (rM h)
  exact g.meet hc hu hL hL2 ms
theorem gK : bZ [] := ⟨by simp, by simp⟩
theorem i_ : ∀ d ∈ ([] : List GDesc), okF d := by simp
theorem fT : ∀ x ∈ ([] : List aV), MOk c p x := by simp
theorem aiV (hc : aA c = true) (g : Go1 c p q) (hm : okMg m) (hf : (m.frm.toNat : Int) < c.nodes ∧ m.frm ≠ p.node) : Go1 c p (dz c q m).1 ∧ ∀ x ∈ (dz c q m).2, MOk c p x := by
 unfold dz
 split
 ·rename_i d hd
  have hdm : d ∈ m.list := by rw [hd]; exact List.mem_cons_self
  split
  ·rename_i hfi
   refine ⟨g.view hc (agx g.pre.view d) (fun x hx => ?_) (fun x hx => ?_), fun x hx => ?_⟩
   ·rcases jG hx with h | rfl
    ·exact g.h.v8.2 x h
    ·exact ux (by have := cV hc; omega) hfi.2.2
   ·rcases jG hx with h | rfl
    ·exact g.h.g.view x h
    ·exact hm.fs2 x hdm
   ·rw [List.mem_singleton.1 hx]
    exact ⟨g.node, g.inc, hf.2, hf.1, Nat.le_of_ble_eq_true rfl, Nat.le_of_ble_eq_true rfl⟩
  ·exact ⟨g, fT⟩
 ·exact ⟨g, fT⟩
theorem yc (hc : aA c = true) (g : Go1 c p q) (hm : okMg m) : Go1 c p (dk c q m) := by
 have g2 := g.learn m.table
 refine g2.view hc (z5 _ _ g2.pre.view) (fun x hx => ?_) (fun x hx => ?_)
 ·rcases lD _ _ x hx with h | h
  ·exact g2.h.v8.2 x h
  ·exact ux (by have := cV hc; omega) (oM h)
 ·rcases lD _ _ x hx with h | h
  ·exact g2.h.g.view x h
  ·exact hm.fs2 x (nT h)
theorem uV (hc : aA c = true) (g : Go1 c p q) (hm : okMg m) (sent : List GDesc) : Go1 c p (gb c q m sent) := by
 refine g.view hc (ji _ _ _ g.pre.view) (fun x hx => ?_) (fun x hx => ?_)
 ·rcases eg _ _ _ x hx with h | h
  ·exact g.h.v8.2 x h
  ·exact ux (by have := cV hc; omega) (oM h)
 ·rcases eg _ _ _ x hx with h | h
  ·exact g.h.g.view x h
  ·exact hm.fs2 x (nT h)
theorem abW (hc : aA c = true) (g : Go1 c p q) (hm : okMg m) : Go1 c p (jQ c q m) := by
 unfold jQ
 simp only
 split
 ·exact uV hc (g.wait (aad g.ws).1) hm _
 ·exact g
theorem mb (hc : aA c = true) (hB : Bd c nd p) (hm : okMg m) : Step1 c p (eO dr c p m).1 (eO dr c p m).2 ∧ (p.up = false → (eO dr c p m).2 = []) := by
 unfold eO
 by_cases h0 : p.up = false ∨ m.to ≠ p.node
 ·rw [if_pos h0]
  exact ⟨hB.stay, fun _ => rfl⟩
 rw [if_neg h0]
 have hu : p.up = true := by
  cases h : p.up with
  | true => rfl
  | false => exact absurd (.inl h) h0
 refine ⟨?_, fun h => absurd (.inl h) h0⟩
 by_cases k1 : m.kind = 1
 ·rw [if_pos k1]
  exact dT hc hB hu gK i_ (H := fun q => (dz c q m).1) (M := fun q => (dz c q m).2) fun q g hf => aiV hc g hm hf
 rw [if_neg k1]
 by_cases k2 : m.kind = 2
 ·rw [if_pos k2]
  exact dT hc hB hu gK i_ (H := fun q => dk c q m) (M := fun _ => []) fun q g hf => ⟨yc hc g hm, fT⟩
 rw [if_neg k2]
 by_cases k3 : m.kind = 3
 ·rw [if_pos k3]
  refine dT hc hB hu gK i_ (H := fun q => gb c q m (cN c.swap (bb q.view m.frm) [] dr)) (M := fun q => [{ bV q 4 m.frm with list := cN c.swap (bb q.view m.frm) [] dr }]) fun q g hf => ⟨uV hc g hm _, fun x hx => ?_⟩
  rw [List.mem_singleton.1 hx]
  exact ⟨g.node, g.inc, hf.2, hf.1, Nat.le_of_ble_eq_true rfl, Nat.le_of_ble_eq_true rfl⟩
 rw [if_neg k3]
 by_cases k4 : m.kind = 4
 ·rw [if_pos k4]
  exact dT hc hB hu gK i_ (H := fun q => jQ c q m) (M := fun _ => []) fun q g hf => ⟨abW hc g hm, fT⟩
 rw [if_neg k4]
 by_cases k5 : m.kind = 5 ∨ m.kind = 7
 ·rw [if_pos k5]
  exact dT hc hB hu hm.ds hm.fs2 (H := fun q => q) (M := fun _ => []) fun q g hf => ⟨g, fT⟩
 rw [if_neg k5]
 by_cases k6 : m.kind = 6
 ·rw [if_pos k6]
  refine dT hc hB hu hm.ds hm.fs2 (H := fun q => q) (M := fun q => [{ bV (aH c q m.list) 7 m.frm with list := bY (aN (aH c q m.list).ring) (aT (aH c q m.list)) }]) fun q g hf => ⟨g, fun x hx => ?_⟩
  rw [List.mem_singleton.1 hx]
  exact ⟨g.node, g.inc, hf.2, hf.1, Nat.le_of_ble_eq_true rfl, Nat.le_of_ble_eq_true rfl⟩
 rw [if_neg k6]
 by_cases k8 : m.kind = 8
 ·rw [if_pos k8]
  exact dT hc hB hu gK i_ (H := fun q => cK q m.table) (M := fun _ => []) fun q g hf => ⟨g.learn _, fT⟩
 rw [if_neg k8]
 by_cases k9 : m.kind = 9
 ·rw [if_pos k9]
  exact dT hc hB hu gK i_ (H := fun q => { q with table := fH q.table m.frm m.inc }) (M := fun _ => []) fun q g hf => ⟨g.left _ _, fT⟩
 rw [if_neg k9]
 exact dT hc hB hu gK i_ (H := fun q => q) (M := fun _ => []) fun q g hf => ⟨g, fT⟩
theorem adu {w : GW} (h : ok8 w.sent) : ok8 (fR w).1.sent := by
 unfold fR
 split
 ·split
  ·exact ⟨Nat.zero_le _, fun d hd => absurd (show d ∈ ([] : List GDesc) from hd) List.not_mem_nil⟩
  ·exact h
 ·exact ⟨Nat.zero_le _, fun d hd => absurd (show d ∈ ([] : List GDesc) from hd) List.not_mem_nil⟩
theorem ac1 {l : List GDesc} (h : ok8 l) : ok8 (bI l) := ⟨by rw [bI, List.length_map]; exact h.1, fun d hd => by
 obtain ⟨e, h1, rfl⟩ := jH hd
 rw [sO]; exact h.2 e h1⟩
theorem x_ {l : List GDesc} {f : GDesc → Bool} (h : ok8 l) : ok8 (l.filter f) := ⟨Nat.le_trans (List.length_filter_le _ _) h.1, fun d hd => h.2 d (List.mem_filter.1 hd).1⟩
theorem aaX (hB : Bd c nd p) : Go1 c p (bx c p) := by
 have hv : Rt p.node c.view (bx c p).view ∧ ok8 (bx c p).view := by
  have h1 := ad_ hB.pre.view
  have h2 := ac1 hB.h.v8
  unfold bx
  simp only
  split
  ·exact ⟨mY h1 _, x_ h2⟩
  ·exact ⟨h1, h2⟩
 refine ⟨⟨uL hB.h.g hB.ws, hB.h.rs, hv.2, hv.1.2⟩, ⟨?_, hB.win.rows, hB.win.heard, hv.1⟩, rfl, rfl, rfl, adu hB.ws, hB.f8, uA _ _ _⟩
 have := hB.win.table
 rw [(uA p.table p.node c.suspect).1] at this
 exact this
theorem afq {l : List GDesc} {self : GDesc} {many : Int} (h : (fQ l self many dr).2.2 = true) : ∃ o ∈ l, (fQ l self many dr).1 = o.node := by
 unfold fQ at h ⊢
 split
 ·rename_i i hi
  simp only [hi] at h
  split
  ·rename_i o ho
   simp only [ho] at h
   split
   ·exact ⟨o, List.mem_of_getElem? ho, rfl⟩
   ·rename_i h2; rw [if_neg h2] at h; cases h
  ·rename_i ho; simp only [ho] at h; cases h
 ·rename_i hi; simp only [hi] at h; cases h
theorem aat {l : List GDesc} {self : GDesc} {many : Int} (hl : ok8 l) (hl9 : l.length ≤ 99) (hs : self.filter.length ≤ 8) : ok8 (fQ l self many dr).2.1 := by
 have hz : ok8 [] := ⟨Nat.zero_le _, by simp⟩
 unfold fQ
 split
 ·split
  ·split
   ·rename_i o _ _
    show ok8 (aja l self many dr o.node)
    unfold aja
    have h1 := oa (many := many - 1) dr (bb l o.node) []
    have h2 := np l o.node
    have h3 := ajQ (many := many - 1) (nd := o.node) (dr := dr) hl
    simp only [List.length_nil] at h1
    refine ⟨by rw [List.length_cons]; omega, fun d hd => ?_⟩
    rcases List.mem_cons.1 hd with rfl | hd
    ·exact hs
    ·exact h3.2 d hd
   ·exact hz
  ·exact hz
 ·exact hz
theorem kQ (hc : aA c = true) (hB : Bd c nd p) : p.view.length ≤ 12 ∧ p.near.length ≤ 12 := by
 have hr := cV hc
 have h1 := (gl hB.win.view).1
 have h2 := (gl hB.win.near).1
 omega
theorem ae9 (hc : aA c = true) (hB : Bd c nd q) (hu : q.up = true) : Bd c nd (dE c q dr).1 ∧ (dE c q dr).1.inc = q.inc ∧ (dE c q dr).1.up = q.up ∧ (dE c q dr).1.table = q.table ∧ ∀ x ∈ (dE c q dr).2, MOk c q x := by
 unfold dE
 simp only
 split
 ·rename_i h
  have hs := aat (dr := dr) (many := c.swap) (self := aT q) hB.h.v8 (by have := (kQ hc hB).1; omega) hB.f8
  refine ⟨⟨pB hB.h (w := kB _ 2 _) hs.toDs, ⟨hB.win.table, hB.win.rows, hB.win.heard, hB.win.view, hB.win.near, hB.win.cur, hB.win.ovl, hB.win.ring⟩, hB.node, hs, hB.f8, fun e => ?_⟩, rfl, rfl, rfl, fun x hx => ?_⟩
  ·have e2 : q.up = false := e
   rw [hu] at e2; cases e2
  ·rw [List.mem_singleton.1 hx]
   obtain ⟨o, ho, e⟩ := afq h.2
   have h3 := hB.curs (k := q.view) (by simp) ho
   exact ⟨rfl, rfl, by rw [← e] at h3; exact h3.1, by rw [← e] at h3; exact h3.2, Nat.le_of_ble_eq_true rfl, Nat.le_of_ble_eq_true rfl⟩
 ·exact ⟨hB, rfl, rfl, rfl, fT⟩
theorem zP {x : UInt8} : ∀ (l acc : List UInt8), x ∈ l.foldl lY acc → x ∈ l ∨ x ∈ acc
 | [], acc, h => .inr h
 | y :: r, acc, h => by
  rcases zP r (lY acc y) h with h | h
  ·exact .inl (List.mem_cons_of_mem _ h)
  ·unfold lY at h
   split at h
   ·exact .inr h
   ·rcases List.mem_append.1 h with h | h
    ·exact .inr h
    ·exact .inl (by rw [List.mem_singleton.1 h]; exact List.mem_cons_self)
theorem abN {x : UInt8} (h : x ∈ bG p) : ∃ k ∈ [p.view, p.near, aN p.ring], ∃ d ∈ k, d.node = x := by
 rcases zP _ _ h with h | h
 ·rcases ft h with h | h
  ·obtain ⟨d, hd, e⟩ := List.mem_map.1 h
   obtain ⟨k, hk, hd⟩ := List.mem_flatten.1 hd
   exact ⟨k, hk, d, hd, e⟩
  ·cases h
 ·cases h
theorem re (hB : Bd c nd p) {x : UInt8} (h : x ∈ bG p) : x ≠ p.node ∧ (x.toNat : Int) < c.nodes := by
 obtain ⟨k, hk, d, hd, rfl⟩ := abN h
 exact hB.curs hk hd
theorem o8 (hc : aA c = true) (hB : Bd c nd p) : (dL p).length ≤ 26 := by
 have h1 := kQ hc hB
 have h2 := eD p.ring
 unfold dL
 simp only [List.length_map, List.flatten_cons, List.flatten_nil, List.length_append, List.length_nil]
 omega
theorem kU (hc : aA c = true) (hB : Bd c nd p) : (bG p).length ≤ 26 := by
 have h1 := pd (aL ltU (dL p)) (aL ltU (dL p)).length
 rw [List.take_length, bD] at h1
 have := o8 hc hB
 show (cQ _).length ≤ 26
 omega
theorem ab3 (hc : aA c = true) (hB : Bd c nd p) (hu : p.up = true) : Step1 c p (eZ c p dr (bG (dE c (aH c (bx c p) []) dr).1)).1 (eZ c p dr (bG (dE c (aH c (bx c p) []) dr).1)).2 := by
 have s1 := (aaX hB).meet hc hu gK i_ (ms := []) fT
 unfold eZ
 simp only
 generalize aH c (bx c p) [] = q at s1
 have hqu : q.up = true := by rw [s1.up, hu]
 have hqn : q.node = p.node := s1.bd.node
 obtain ⟨b1, b2, b3, b4, b5⟩ := ae9 (dr := dr) hc s1.bd hqu
 generalize dE c q dr = K at b1 b2 b3 b4 b5
 obtain ⟨r, M⟩ := K
 simp only at b1 b2 b3 b4 b5 ⊢
 have rn : r.node = p.node := b1.node
 have ri : r.inc = p.inc := b2.trans s1.inc
 have mk : ∀ {k to : UInt8}, to ≠ r.node → (to.toNat : Int) < c.nodes → 1 ≤ k.toNat → k.toNat ≤ 9 → ∀ {l : List GDesc} {t : List ao}, MOk c p { bV r k to with list := l, table := t } := fun h1 h2 h3 h4 => ⟨rn, ri, by rw [← rn]; exact h1, h2, h3, h4⟩
 refine ⟨b1, ri, b3.trans s1.up, by rw [b4]; exact s1.tab, fun x hx => ?_⟩
 rcases List.mem_append.1 hx with hx | hx
 ·rcases List.mem_append.1 hx with hx | hx
  ·rcases List.mem_append.1 hx with hx | hx
   ·have h := b5 x hx
    exact ⟨h.frm.trans hqn, h.inc.trans s1.inc, by rw [← hqn]; exact h.ne, h.lt, h.k1, h.k9⟩
   ·unfold iw at hx
    split at hx
    ·cases hx
    ·rename_i hne
     rw [List.mem_singleton.1 hx]
     have hl : 0 < (bG r).length := List.length_pos_iff.2 hne
     have hi : (dh c dr).toNat % (bG r).length < (bG r).length := Nat.mod_lt _ hl
     have h2 := re b1 (x := (bG r).getD ((dh c dr).toNat % (bG r).length) 0) (by rw [List.getD_eq_getElem?_getD, List.getElem?_eq_getElem hi]; exact List.getElem_mem hi)
     exact mk h2.1 h2.2 (Nat.le_of_ble_eq_true rfl) (Nat.le_of_ble_eq_true rfl)
  ·unfold gD at hx
   split at hx
   ·rename_i hs
    rw [List.mem_singleton.1 hx]
    obtain ⟨d, hd, hdn⟩ : ∃ d ∈ aN r.ring, d.node = r.ring.succ.node := by
     unfold aN
     split
     ·unfold fJ
      by_cases h1 : r.ring.succ.node < r.ring.pred.node
      ·rw [if_pos h1]; exact ⟨_, List.mem_cons_self, rfl⟩
      ·rw [if_neg h1]
       by_cases h2 : r.ring.pred.node < r.ring.succ.node
       ·rw [if_pos h2]; exact ⟨_, List.mem_cons_of_mem _ List.mem_cons_self, rfl⟩
       ·rw [if_neg h2]
        have e : r.ring.pred.node = r.ring.succ.node := UInt8.le_antisymm (UInt8.not_lt.1 h1) (UInt8.not_lt.1 h2)
        split
        ·exact ⟨_, List.mem_cons_self, e⟩
        ·exact ⟨_, List.mem_cons_self, rfl⟩
     ·first | exact ⟨_, List.mem_cons_self, rfl⟩ | (rw [if_pos hs]; exact ⟨_, List.mem_cons_self, rfl⟩)
    have h2 := b1.curs (k := aN r.ring) (by simp) hd
    rw [hdn] at h2
    exact mk h2.1 h2.2 (Nat.le_of_ble_eq_true rfl) (Nat.le_of_ble_eq_true rfl)
   ·cases hx
 ·obtain ⟨d, hd, rfl⟩ := List.mem_map.1 hx
  have h2 := b1.curs (k := aN r.ring) (by simp) hd
  exact mk h2.1 h2.2 (Nat.le_of_ble_eq_true rfl) (Nat.le_of_ble_eq_true rfl)
end
end Go.Proofs.YtlaefellhnkfbaaGreat.V

namespace Go.Proofs.YtlaefellhnkfbaaGreat.V
open Go.Eng
theorem adW {f g : List GSpan} (hf : ∀ s ∈ f, okS s) (hg : ∀ s ∈ g, okS s) : ∀ s ∈ dW f g, okS s := by
 intro s hs
 unfold dW at hs
 split at hs
 ·obtain ⟨x, hx, rfl⟩ := List.mem_map.1 hs
  exact vl (hf _ (List.of_mem_zip hx).1) (hg _ (List.of_mem_zip hx).2)
 ·cases hs
theorem rJ {dom f : List GSpan} (hd : ∀ s ∈ dom, okS s) (hf : ∀ s ∈ f, okS s) (hl : dom.length ≤ 4) : (∀ s ∈ (bz dom f).1, okS s) ∧ (bz dom f).1.length ≤ 8 := by
 unfold bz
 split
 ·exact ⟨fun s h => (by cases h), Nat.zero_le _⟩
 ·split
  ·exact ⟨adW hd hf, by have := qZ dom f; show (dW dom f).length ≤ 8; omega⟩
  ·exact ⟨fun s h => (by cases h), Nat.zero_le _⟩
section
variable {c : av} {nd : UInt8} {p q : ak} {o : GOp}
theorem pn (h : okG p) {f : List GSpan} (h1 : ∀ s ∈ f, okS s) (h2 : f.length ≤ 8) : okG { p with filter := f } :=
 ⟨⟨by show f.length ≤ 4000000; omega, h.ok.view, h.ok.near, h.ok.succ, h.ok.pred, h.ok.sent, h.ok.table, h.ok.heard, h.ok.rows, h.ok.reports, h.ok.evs, h.ok.pulls⟩, h1, h.view, h.near, h.succ, h.pred, h.table⟩
theorem Go1.filter (g : Go1 c p q) {f : List GSpan} (h1 : ∀ s ∈ f, okS s) (h2 : f.length ≤ 8) : Go1 c p { q with filter := f } :=
 ⟨⟨pn g.h.g h1 h2, g.h.rs, g.h.v8, g.h.vw⟩, ⟨g.pre.table, g.pre.rows, g.pre.heard, g.pre.view⟩, g.node, g.up, g.inc, g.ws, h2, g.tab⟩
theorem mj (hc : aA c = true) {node : UInt8} {inc : UInt16} {up : Bool} {t : List ao} (ht : (t.length : Int) = c.nodes) : Win c { bh c node with inc := inc, up := up, table := t } := by
 have hr := cV hc
 have hn : (((min (max c.nodes 0) 12).toNat : Nat) : Int) = c.nodes := by omega
 refine ⟨ht, ?_, ?_, ?_, ?_, ?_, ?_, .inl rfl⟩
 ·simp only [bh, List.length_replicate]; exact hn
 ·simp only [bh, List.length_replicate]; exact hn
 ·exact lU ⟨by simp only [bh, List.length_nil]; omega, yj _⟩ (by omega)
 ·exact lU ⟨by simp only [bh, List.length_nil]; omega, yj _⟩ (by omega)
 ·intro k hk d hd
  simp only [bh, List.mem_cons, List.not_mem_nil, or_false] at hk
  rcases hk with rfl | rfl | rfl
  ·cases hd
  ·cases hd
  ·simp [aN] at hd
 ·intro d hd; simp [bh] at hd
theorem jS (hc : aA c = true) (node : UInt8) : ((bh c node).table.length : Int) = c.nodes := by
 have hr := cV hc
 simp only [bh, List.length_replicate]
 omega
theorem ags : ok8 [] := ⟨Nat.zero_le _, by simp⟩
theorem akw (hc : aA c = true) (node : UInt8) : Bd c node (bh c node) :=
 ⟨lS c node, mj hc (up := false) (inc := 0) (jS hc node), rfl, ags, Nat.zero_le _, fun _ => ⟨rfl, rfl, rfl, rfl, rfl⟩⟩
theorem vT (hc : aA c = true) (hB : Bd c nd p) : Bd c nd (bf c p).1 ∧ p.inc ≤ (bf c p).1.inc ∧ (p.up = true → (bf c p).1 = p) := by
 have ho := l9 c p hB.h
 unfold bf at ho ⊢
 split
 ·exact ⟨hB, UInt16.le_refl _, fun _ => rfl⟩
 ·rename_i hu
  split
  ·exact ⟨hB, UInt16.le_refl _, fun _ => rfl⟩
  ·rename_i hi
   rw [if_neg hu, if_neg hi] at ho
   refine ⟨⟨ho, mj hc (by rw [List.length_set]; exact jS hc _), hB.node, ags, Nat.zero_le _, fun e => by cases e⟩, ?_, fun h => absurd h hu⟩
   show p.inc ≤ p.inc + 1
   have h1 : p.inc.toNat ≠ 65535 := fun e => hi (UInt16.toNat_inj.1 e)
   have h2 := p.inc.toNat_lt
   rw [UInt16.le_iff_toNat_le, UInt16.toNat_add]
   show p.inc.toNat ≤ (p.inc.toNat + 1) % 65536
   omega
theorem aaV (hc : aA c = true) (hB : Bd c nd p) : Bd c nd (nw c p) := by
 have h := aau (lS c p.node) (i := p.inc) (b := false) (t := (bh c p.node).table) (by have := jS hc p.node; have := cV hc; omega)
 exact ⟨h, mj hc (up := false) (inc := p.inc) (jS hc _), hB.node, ags, Nat.zero_le _, fun _ => ⟨rfl, rfl, rfl, rfl, rfl⟩⟩
structure ajM (c : av) (p : ak) (r : ak × List aV × Int) : Prop where
 bd : Bd c p.node r.1
 inc : p.inc ≤ r.1.inc
 tab : r.1.up = true → p.up = true → TUp p.table r.1.table
 ms : ∀ m ∈ r.2.1, MOk c p m
 quiet : r.2.1 ≠ [] → r.2.2 = 0 ∧ p.up = true
theorem Step1.d {l : List aV} {e : Int} (h : Step1 c p q l) (hq : l ≠ [] → e = 0 ∧ p.up = true) : ajM c p (q, l, e) := ⟨h.bd, by rw [h.inc]; exact UInt16.le_refl _, fun _ _ => h.tab, h.ms, hq⟩
theorem aa8 (hc : aA c = true) (hS : ∀ s ∈ c.schema, okS s) (hB : Bd c nd p) (hm : okMg o.m) (hfs : ∀ s ∈ o.filter, okS s) (hup : p.up = true ∨ ¬ (o.what = 6 ∨ o.what = 7)) : ajM c p (eG c p o) := by
 obtain rfl := hB.node
 have hr := cV hc
 have nq : ∀ {e : Int}, ([] : List aV) ≠ [] → e = 0 ∧ p.up = true := fun h => absurd rfl h
 unfold eG
 by_cases w0 : o.what = 0
 ·rw [if_pos w0]
  obtain ⟨b1, b2, b3⟩ := vT hc hB
  exact ⟨b1, b2, fun _ hu => by simp only; rw [b3 hu]; exact TUp.refl _, fT, nq⟩
 rw [if_neg w0]
 by_cases w1 : o.what = 1
 ·rw [if_pos w1]
  exact ⟨aaV hc hB, UInt16.le_refl _, fun e => (by cases e), fT, nq⟩
 rw [if_neg w1]
 by_cases w2 : o.what = 2
 ·rw [if_pos w2]
  by_cases hu : p.up = false
  ·rw [if_pos hu]; exact hB.stay.d nq
  ·rw [if_neg hu]
   have hu : p.up = true := by simpa using hu
   obtain ⟨n1, n2⟩ := rJ (f := o.filter) hS hfs (by omega)
   split
   ·exact ((hB.go.filter n1 n2).meet hc hu gK i_ fT).d nq
   ·exact hB.stay.d nq
 rw [if_neg w2]
 by_cases w3 : o.what = 3
 ·rw [if_pos w3]
  unfold eB
  by_cases hu : p.up = false
  ·rw [if_pos hu]; exact hB.stay.d nq
  ·rw [if_neg hu]
   have hu : p.up = true := by simpa using hu
   split
   ·exact hB.stay.d nq
   ·rename_i h
    refine Step1.d ⟨hB, rfl, rfl, TUp.refl _, fun x hx => ?_⟩ (fun _ => ⟨rfl, hu⟩)
    rw [List.mem_singleton.1 hx]
    exact ⟨rfl, rfl, fun e => h (.inr e), (show (o.node.toNat : Int) < c.nodes by omega), Nat.le_of_ble_eq_true rfl, Nat.le_of_ble_eq_true rfl⟩
 rw [if_neg w3]
 by_cases w4 : o.what = 4
 ·rw [if_pos w4]
  by_cases hu : p.up = false
  ·rw [if_pos hu, if_pos hu]; exact hB.stay.d nq
  ·rw [if_neg hu, if_neg hu, if_neg hu]
   have hu : p.up = true := by simpa using hu
   refine ⟨aaV hc hB, UInt16.le_refl _, fun e => (by cases e), fun x hx => ?_, fun _ => ⟨rfl, hu⟩⟩
   obtain ⟨y, hy, rfl⟩ := List.mem_map.1 hx
   have h2 := re hB hy
   exact ⟨rfl, rfl, h2.1, h2.2, Nat.le_of_ble_eq_true rfl, Nat.le_of_ble_eq_true rfl⟩
 rw [if_neg w4]
 by_cases w5 : o.what = 5
 ·rw [if_pos w5]
  by_cases hu : p.up = false
  ·rw [if_pos hu, if_pos hu]; exact hB.stay.d nq
  ·rw [if_neg hu, if_neg hu]
   have hu : p.up = true := by simpa using hu
   exact (ab3 hc hB hu).d (fun _ => ⟨rfl, hu⟩)
 rw [if_neg w5]
 by_cases w6 : o.what = 6
 ·rw [if_pos w6]
  have hu := hup.resolve_right (fun h => h (.inl w6))
  exact ((hB.go.hear o.node o.inc).meet hc hu gK i_ fT).d nq
 rw [if_neg w6]
 by_cases w7 : o.what = 7
 ·rw [if_pos w7]
  have hu := hup.resolve_right (fun h => h (.inr w7))
  exact (hB.go.meet hc hu hm.ds hm.fs2 fT).d nq
 rw [if_neg w7]
 obtain ⟨s1, s2⟩ := mb (dr := o.draws) hc hB hm
 refine s1.d fun h => ⟨rfl, ?_⟩
 cases hu : p.up with
 | true => rfl
 | false => exact absurd (s2 hu) h
end
end Go.Proofs.YtlaefellhnkfbaaGreat.V
