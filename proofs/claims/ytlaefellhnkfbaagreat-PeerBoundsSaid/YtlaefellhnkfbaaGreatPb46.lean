/-
 bF 46 of the proof of Pb: the engine and the walks, in their order.
-/
import Derived.Test.YtlaefellhnkfbaaGreatPb38
import Derived.Test.YtlaefellhnkfbaaGreatPb43
import Derived.Test.YtlaefellhnkfbaaGreatPb44
import Derived.Test.YtlaefellhnkfbaaGreatPb45
set_option linter.unusedSimpArgs false
set_option linter.unusedVariables false
namespace Go.Proofs.YtlaefellhnkfbaaGreat.V
open Go.Eng
def Rt (self : UInt8) (room : Int) (l : List GDesc) : Prop := (l.length : Int) ≤ room ∧ Vw self l
section
variable {self : UInt8} {room : Int} {l : List GDesc}
theorem wK (h : Rt self room l) (d : GDesc) : Rt self room (cP l d self room).1 := ⟨ny d h.1, l5 h.2 d room⟩
theorem zn : ∀ (r l : List GDesc), Rt self room l → Rt self room (dF self room l r)
 | [], l, h => h
 | d :: r, l, h => by rw [dF]; exact zn r _ (wK h d)
theorem adU (h : Rt self room l) (d : GDesc) : Rt self room (eM l d self room) := by
 unfold eM
 split
 ·exact wK h d
 ·split
  ·exact h
  ·split
   ·exact h
   ·split
    ·rename_i o _
     have h1 := ny (self := self) (l := bb l o.node) d (room := l.length) (by have := mH l o.node; omega)
     exact ⟨Int.le_trans h1 h.1, l5 (m8 h.2 _) d _⟩
    ·exact h
theorem zI {l : List GDesc} {s : UInt8} (h : cC l s ≠ none) : (bb l s).length < l.length := by
 cases hi : cC l s with
 | none => exact absurd hi h
 | some i =>
  obtain ⟨o, ho, hn⟩ := dX hi
  exact List.length_filter_lt_length_iff_exists.2 ⟨o, List.mem_of_getElem? ho, by simp [hn]⟩
theorem qA {L got : List GDesc} (hv : Vw self L) : ∀ S : List GDesc, Vw self (cf L got S).1 ∧ ((cf L got S).2.1 = true → (cf L got S).1.length + 1 ≤ L.length)
 | [] => ⟨hv, fun h => by cases h⟩
 | s :: r => by
  rw [cf]
  split
  ·rename_i h
   exact ⟨m8 hv _, fun _ => zI h.1⟩
  ·exact qA hv r
theorem iM {got : List GDesc} : ∀ (r L S : List GDesc), Rt self room L → Rt self room (cV got self room L S r)
 | [], L, S, h => h
 | d :: r, L, S, h => by
  rw [cV]
  split
  ·exact iM r _ _ (wK h d)
  ·split
   ·exact iM r _ _ h
   ·split
    ·rename_i hg
     obtain ⟨h1, h2⟩ := qA (got := got) h.2 S
     have h3 := h2 hg
     have h4 := ny (self := self) (l := (cf L got S).1) d (room := (cf L got S).1.length + 1) (by omega)
     have h5 := h.1
     exact iM r _ _ ⟨by omega, l5 h1 d _⟩
    ·exact iM r _ _ h
theorem ly (h : Rt self room l) (f : GDesc → Bool) : Rt self room (l.filter f) := ⟨by have := List.length_filter_le f l; have := h.1; omega, fun d hd => h.2.1 d (List.mem_filter.1 hd).1, h.2.2.filter _⟩
theorem adC (h : Rt self room l) : Rt self room (bz l) := ⟨by rw [bz, List.length_map]; exact h.1, uI h.2⟩
theorem lg (h : Rt self room l) (h0 : 0 ≤ room) : dk l self room = true := by
 unfold dk
 exact decide_eq_true ⟨h0, h.1, h.2⟩
theorem nk (h : dk l self room = true) : Rt self room l := by
 unfold dk at h
 exact (of_decide_eq_true h).2
end
theorem union_up {self : UInt8} {L : List (List GDesc)} : Up cm (bx self L) := by
 unfold bx
 have key := lc (self := self) (P := fun _ => True) aeZ (ds := L.flatten) (fun _ _ => trivial)
 generalize eA self zL L.flatten = A at key
 refine List.pairwise_filter.2 (List.pairwise_iff_getElem.2 fun i j hi hj hij h1 h2 => ?_)
 have k1 := key i _ (List.getElem?_eq_getElem hi)
 have k2 := key j _ (List.getElem?_eq_getElem hj)
 have z : ∀ {x : GDesc}, decide ((0 : Int) < (x.inc.toNat : Int)) = true → ¬ x.inc = 0 := fun h e => by rw [e] at h; simp at h
 have e1 := (k1.resolve_left (z h1)).1
 have e2 := (k2.resolve_left (z h2)).1
 show cm A[i] < cm A[j]
 simp only [cm]
 omega
theorem abk {self : UInt8} {L : List (List GDesc)} {d : GDesc} (h : d ∈ bx self L) : d.inc ≠ 0 := fun e => by
 have := (List.mem_filter.1 h).2
 rw [e] at this
 simp at this
instance : Inhabited GDesc := ⟨aR⟩
instance : Inhabited nB := ⟨⟨aR, 0⟩⟩
theorem acE {a b : Nat} : fg a b < 0 ↔ a < b := by
 unfold fg
 split
 ·simp; assumption
 ·split <;> simp <;> omega
theorem jx (a b : GDesc) : b9 a b = decide (cm a < cm b) := by
 unfold b9
 congr 1
 exact propext acE
theorem agn : Go.Sort.SWO b9 where
 irrefl x := by rw [jx]; simp
 trans x y z := by simp only [jx, decide_eq_true_eq]; omega
 ntrans x y z := by simp only [jx, decide_eq_false_iff_not]; omega
theorem nv {α : Type} {lt : α → α → Bool} : ∀ (l P : List α), (l.foldl (iB lt) P).Perm (l ++ P)
 | [], P => List.Perm.refl _
 | x :: r, P => by
  refine (nv r (iB lt P x)).trans ?_
  exact ((List.Perm.refl r).append qL).trans List.perm_middle
theorem mG {α : Type} {lt : α → α → Bool} (l : List α) : (aG lt l).Perm l := by
 have := nv (lt := lt) l []
 rwa [List.append_nil] at this
theorem afD {own : List GSpan} {self : UInt8} {room : Int} {L : List (List GDesc)} (h0 : 0 ≤ room) (hs : ∀ l ∈ L, ∀ d ∈ l, d.node ≠ self) : Rt self room (cQ own self room L) := by
 have hmem : ∀ d ∈ cQ own self room L, d.node ≠ self ∧ d.inc ≠ 0 := fun d hd => by
  have h1 := l8 hd
  obtain ⟨l, h2, h3⟩ := gi h1
  exact ⟨hs l h2 d h3, abk h1⟩
 refine ⟨?_, hmem, ?_⟩
 ·unfold cQ
  split
  ·simpa using h0
  ·rw [bv, List.length_map, List.length_take]; omega
 ·unfold cQ
  split
  ·exact List.Pairwise.nil
  ·have hu : ((bx self L).map cm).Nodup := (List.pairwise_map.2 (union_up.imp fun h => Nat.ne_of_lt h))
   have e1 : ((cK own (bx self L)).map fun x => cm x.d).Nodup := by
    refine List.Nodup.sublist ?_ hu
    unfold cK
    refine List.Sublist.trans (List.Sublist.map _ List.filter_sublist) ?_
    rw [List.map_map]
    exact List.Sublist.refl _
   have e2 : ((aG b_ (cK own (bx self L))).map fun x => cm x.d).Nodup := ((mG _).map _).nodup_iff.2 e1
   have e3 : ((((aG b_ (cK own (bx self L))).take room.toNat).map (·.d)).map cm).Nodup := by
    rw [List.map_map]
    exact List.Nodup.sublist (List.Sublist.map _ (List.take_sublist _ _)) e2
   generalize ((aG b_ (cK own (bx self L))).take room.toNat).map (·.d) = X at e3
   have e4 : ((aG b9 X).map cm).Nodup := ((mG _).map _).nodup_iff.2 e3
   have e5 := ou agn X
   have e6 := List.pairwise_map.1 e4
   refine List.Pairwise.imp₂ ?_ e5 e6
   intro a b h1 h2
   rw [jx] at h1
   have := of_decide_eq_false h1
   show cm a < cm b
   omega
theorem aeA {own : List GSpan} {self : UInt8} {room : Int} {L : List (List GDesc)} {d : GDesc} (h : d ∈ cQ own self room L) : 0 < nw own d.filter := by
 unfold cQ at h
 split at h
 ·cases h
 ·rcases eQ h with h | h
  ·obtain ⟨x, hx, rfl⟩ := List.mem_map.1 h
   rcases eQ (List.mem_of_mem_take hx) with h | h
   ·obtain ⟨h, h2⟩ := List.mem_filter.1 h
    obtain ⟨y, hy, rfl⟩ := List.mem_map.1 h
    exact of_decide_eq_true h2
   ·cases h
  ·cases h
theorem adk {p q : ak} (h1 : q.node = p.node) (h2 : q.table = p.table) (d : GDesc) : cH q d = cH p d := by
 unfold cH; rw [h1, h2]
theorem t7 {p : ak} {d : GDesc} (h : cH p d = true) : d.node ≠ p.node := (p4 h).1
theorem adD {p : ak} {r : fa} {d : GDesc} (h : d ∈ aJ (bU p r)) : cH p d = true := by
 rcases jc h with ⟨h1, rfl⟩ | ⟨h1, rfl⟩
 ·have h2 : r.hs = true ∧ cH p r.succ = true := by simpa [bU] using h1
  have e : (bU p r).succ = r.succ := by simp [bU, h2.2]
  rw [e]; exact h2.2
 ·have h2 : r.hp = true ∧ cH p r.pred = true := by simpa [bU] using h1
  have e : (bU p r).pred = r.pred := by simp [bU, h2.2]
  rw [e]; exact h2.2
theorem mJ {far : UInt16 → UInt16 → UInt16} {here : UInt16} {dom : List GSpan} {known : List GDesc} (h : known ≠ []) : cw far here dom known ∈ known := by
 have hb := gK (far := far) (here := here) (dom := dom) h known.length
 rw [cw, List.getD_eq_getElem?_getD, List.getElem?_eq_getElem hb]; exact List.getElem_mem hb
theorem vm {dom : List GSpan} {s : GDesc} {L : List (List GDesc)} {d : GDesc} (h : d ∈ aJ (dv dom s L)) : d ∈ bx s.node L := by
 unfold dv at h
 split at h
 ·simp [aJ] at h
 ·rename_i hn
  rcases jc h with ⟨_, rfl⟩ | ⟨_, rfl⟩
  ·exact mJ hn
  ·exact mJ hn
theorem ug {dom : List GSpan} {s : GDesc} {L : List (List GDesc)} : (dv dom s L).hs = (dv dom s L).hp := by
 unfold dv
 split <;> rfl
structure Pre (c : av) (p : ak) : Prop where
 table : (p.table.length : Int) = c.nodes
 rows : (p.rows.length : Int) = c.nodes
 heard : (p.heard.length : Int) = c.nodes
 view : Rt p.node c.view p.view
theorem afo {c : av} {p : ak} {l : List GDesc} : (∀ k ∈ [bk p p.view, bk p p.near, aJ (bU p p.ring), cr c p l], ∀ d ∈ k, cH p d = true) ∧
  ∀ d ∈ cQ p.filter p.node c.near [bk p p.view, bk p p.near, aJ (bU p p.ring), cr c p l], cH p d = true := by
 have h1 : ∀ k ∈ [bk p p.view, bk p p.near, aJ (bU p p.ring), cr c p l], ∀ d ∈ k, cH p d = true := by
  intro k hk d hd
  simp only [List.mem_cons, List.not_mem_nil, or_false] at hk
  rcases hk with rfl | rfl | rfl | rfl
  ·exact (List.mem_filter.1 hd).2
  ·exact (List.mem_filter.1 hd).2
  ·exact adD hd
  ·exact (List.mem_filter.1 hd).2
 refine ⟨h1, fun d hd => ?_⟩
 obtain ⟨k, h2, h3⟩ := gi (l8 hd)
 exact h1 k h2 d h3
theorem aex {c : av} {p : ak} {l : List GDesc} (hc : ay c = true) (h : Pre c p) : Win c (aH c p l) := by
 obtain ⟨m1, m2⟩ := afo (c := c) (p := p) (l := l)
 have hv0 : 0 ≤ c.view ∧ 0 ≤ c.near := by
  unfold ay inR at hc
  simp only [Bool.and_eq_true, decide_eq_true_eq] at hc
  omega
 have hsame : ∀ d, cH (aH c p l) d = cH p d := adk rfl rfl
 refine ⟨h.table, h.rows, h.heard, ?_, ?_, ?_, ?_, ?_⟩
 ·exact lg (ly h.view _) hv0.1
 ·exact lg (afD hv0.2 (fun k hk d hd => t7 (m1 k hk d hd))) hv0.2
 ·intro k hk d hd
  rw [hsame]
  simp only [List.mem_cons, List.not_mem_nil, or_false] at hk
  rcases hk with rfl | rfl | rfl
  ·exact (List.mem_filter.1 hd).2
  ·exact m2 d hd
  ·obtain ⟨k2, h2, h3⟩ := gi (vm hd)
   simp only [List.mem_cons, List.not_mem_nil, or_false] at h2
   rcases h2 with rfl | rfl | rfl | rfl
   ·exact m1 _ (by simp) d h3
   ·exact m2 d h3
   ·exact m1 _ (by simp) d h3
   ·exact m1 _ (by simp) d h3
 ·exact fun d hd => aeA hd
 ·exact .inl ug
end Go.Proofs.YtlaefellhnkfbaaGreat.V

namespace Go.Proofs.YtlaefellhnkfbaaGreat.V
open Go.Eng
theorem fM {c : av} (h : ay c = true) : 2 ≤ c.nodes ∧ c.nodes ≤ 12 ∧ 1 ≤ c.view ∧ c.view ≤ 12 ∧ 0 ≤ c.near ∧ c.near ≤ 12 ∧ 1 ≤ c.swap ∧ c.swap ≤ 12 ∧ 1 ≤ c.schema.length ∧ c.schema.length ≤ 4 := by
 unfold ay inR dM at h
 simp only [Bool.and_eq_true, decide_eq_true_eq] at h
 omega
def TUp (a b : List am) : Prop := a.length = b.length ∧ ∀ (i : Nat) (x y : am), a[i]? = some x → b[i]? = some y → x.inc ≤ y.inc
theorem TUp.refl (a : List am) : TUp a a := ⟨rfl, fun i x y h1 h2 => by rw [h1] at h2; cases h2; exact UInt16.le_refl _⟩
theorem TUp.trans {a b c : List am} (h : TUp a b) (g : TUp b c) : TUp a c := ⟨h.1.trans g.1, fun i x z h1 h3 => by
 have hi := (List.getElem?_eq_some_iff.1 h1).1
 have h2 : b[i]? = some (b[i]'(by rw [← h.1]; exact hi)) := List.getElem?_eq_getElem _
 exact UInt16.le_trans (h.2 i _ _ h1 h2) (g.2 i _ _ h2 h3)⟩
theorem nM {l : List am} {i : Nat} {f : am → am} (hf : ∀ m, m.inc ≤ (f m).inc) : TUp l (l.modify i f) := ⟨by simp, fun j x y h1 h2 => by
 rw [List.getElem?_modify, h1] at h2
 simp only [Option.map_eq_map, Option.map_some] at h2
 cases h2
 split
 ·exact hf x
 ·exact UInt16.le_refl _⟩
theorem oL {l : List am} {f : Nat → am → am} (hf : ∀ i m, m.inc ≤ (f i m).inc) : TUp l (l.mapIdx f) := ⟨by simp, fun j x y h1 h2 => by
 rw [List.getElem?_mapIdx, h1] at h2
 simp only [Option.map_some] at h2
 cases h2
 exact hf j x⟩
theorem abY (l : List am) (i : UInt8) (inc : UInt16) : TUp l (gy l i inc) := nM fun m => by
 unfold iE
 split
 ·rename_i h
  rcases h with h | h
  ·exact UInt16.le_of_lt h
  ·rw [h.1]; exact UInt16.le_refl _
 ·exact UInt16.le_refl _
theorem acK (l : List am) (i : UInt8) (inc : UInt16) : TUp l (gZ l i inc) := nM fun m => by
 unfold jJ
 split
 ·rename_i h; exact UInt16.le_of_lt h
 ·split <;> exact UInt16.le_refl _
theorem aa5 (l m : List am) (self : UInt8) : TUp l (eD l m self) := oL fun i x => by
 unfold mMg
 split
 ·rename_i y _
  split
  ·rename_i h
   have h2 := h.2
   unfold ic at h2
   split at h2
   ·exact UInt16.le_of_lt (of_decide_eq_true h2)
   ·rename_i h3
    have h3 : y.inc = x.inc := Classical.byContradiction h3
    show x.inc ≤ y.inc
    rw [h3]; exact UInt16.le_refl _
  ·exact UInt16.le_refl _
 ·exact UInt16.le_refl _
theorem tD (l : List am) (self : UInt8) (after : Int) : TUp l (gQ l self after) := oL fun i m => by
 unfold mTk mQ
 split
 ·exact UInt16.le_refl _
 ·split <;> (split <;> exact UInt16.le_refl _)
structure Go1 (c : av) (p q : ak) : Prop where
 h : okH q
 pre : Pre c q
 node : q.node = p.node
 up : q.up = p.up
 inc : q.inc = p.inc
 ws : ok8 q.wait.sent
 f8 : q.filter.length ≤ 8
 tab : TUp p.table q.table
structure Bd (c : av) (nd : UInt8) (p : ak) : Prop where
 h : okH p
 win : Win c p
 node : p.node = nd
 ws : ok8 p.wait.sent
 f8 : p.filter.length ≤ 8
 dn : p.up = false → p.view = [] ∧ p.near = [] ∧ p.ring.hs = false ∧ p.ring.hp = false ∧ p.wait.some = false
structure MOk (c : av) (p : ak) (m : aY) : Prop where
 frm : m.frm = p.node
 inc : m.inc = p.inc
 ne : m.to ≠ p.node
 lt : (m.to.toNat : Int) < c.nodes
 k1 : 1 ≤ m.kind.toNat
 k9 : m.kind.toNat ≤ 9
structure Step1 (c : av) (p q : ak) (l : List aY) : Prop where
 bd : Bd c p.node q
 inc : q.inc = p.inc
 up : q.up = p.up
 tab : TUp p.table q.table
 ms : ∀ m ∈ l, MOk c p m
section
variable {c : av} {nd : UInt8} {p q : ak}
theorem Bd.pre (h : Bd c nd p) : Pre c p := ⟨h.win.table, h.win.rows, h.win.heard, nk h.win.view⟩
theorem Bd.go (h : Bd c nd p) : Go1 c p p := ⟨h.h, h.pre, rfl, rfl, rfl, h.ws, h.f8, TUp.refl _⟩
theorem Bd.stay (h : Bd c nd p) : Step1 c p p [] := by
 obtain rfl := h.node
 exact ⟨h, rfl, rfl, TUp.refl _, fun m hm => absurd hm List.not_mem_nil⟩
theorem Go1.meet (hc : ay c = true) (g : Go1 c p q) (hu : p.up = true) {l : List GDesc} (hl : bO l) (hl2 : ∀ d ∈ l, okF d) {ms : List aY} (hms : ∀ m ∈ ms, MOk c p m) : Step1 c p (aH c q l) ms := by
 refine ⟨⟨⟨kN g.h.g hl hl2, g.h.rs, ⟨?_, ?_⟩, ?_⟩, aex hc g.pre, g.node, g.ws, g.f8, fun e => ?_⟩, g.inc, g.up, g.tab, hms⟩
 ·exact Nat.le_trans (List.length_filter_le _ _) g.h.v8.1
 ·exact fun d hd => g.h.v8.2 d (List.mem_filter.1 hd).1
 ·exact (ly g.pre.view _).2
 ·have e2 : q.up = false := e
  rw [g.up, hu] at e2; cases e2
theorem Go1.tab_ (g : Go1 c p q) {t : List am} {r : List (List da)} (ht : TUp q.table t) (hr : kR r) : Go1 c p { q with table := t, reports := r } :=
 ⟨ss g.h (by rw [← ht.1]; exact g.h.g.table) hr, ⟨by have := g.pre.table; rw [ht.1] at this; exact this, g.pre.rows, g.pre.heard, g.pre.view⟩, g.node, g.up, g.inc, g.ws, g.f8, g.tab.trans ht⟩
theorem Go1.learn (g : Go1 c p q) (t : List am) : Go1 c p (cL q t) := g.tab_ (aa5 _ _ _) (kH g.h.rs _)
theorem Go1.left (g : Go1 c p q) (i : UInt8) (inc : UInt16) : Go1 c p { q with table := gZ q.table i inc } := g.tab_ (acK _ _ _) g.h.rs
theorem Go1.view (g : Go1 c p q) (hc : ay c = true) {V : List GDesc} (hv : Rt q.node c.view V) (h8 : ∀ d ∈ V, d.filter.length ≤ 8) (hF : ∀ d ∈ V, okF d) : Go1 c p { q with view := V } := by
 have hr := fM hc
 have h1 := hv.1
 exact ⟨⟨i3 g.h.g (by omega) hF, g.h.rs, ⟨by show V.length ≤ 100; omega, h8⟩, hv.2⟩, ⟨g.pre.table, g.pre.rows, g.pre.heard, hv⟩, g.node, g.up, g.inc, g.ws, g.f8, g.tab⟩
theorem Go1.wait (g : Go1 c p q) {w : GW} (hw : ok8 w.sent) : Go1 c p { q with wait := w } := ⟨nH g.h hw.toDs, ⟨g.pre.table, g.pre.rows, g.pre.heard, g.pre.view⟩, g.node, g.up, g.inc, hw, g.f8, g.tab⟩
theorem wa {n : UInt8} {i : UInt16} (h : (aL c p n i).2 = false) : (aL c p n i).1 = p := by
 unfold aL at h ⊢
 split
 ·rfl
 ·split
  ·rfl
  ·split
   ·rfl
   ·rename_i h1 _ m hm h2
    rw [if_neg h1] at h
    simp only [hm, if_neg h2] at h
    cases h
theorem abs {n : UInt8} {i : UInt16} (h : (aL c p n i).2 = true) : (n.toNat : Int) < c.nodes ∧ n ≠ p.node := by
 unfold aL at h
 split at h
 ·cases h
 ·rename_i h1
  refine ⟨by omega, fun e => h1 (.inr (.inr (.inl e)))⟩
theorem Go1.hear (g : Go1 c p q) (n : UInt8) (i : UInt16) : Go1 c p (aL c q n i).1 := by
 unfold aL
 split
 ·exact g
 ·split
  ·exact g
  ·split
   ·exact g
   ·refine g.tab_ (abY _ _ _) ?_
    split
    ·exact i_ g.h.rs
    ·exact g.h.rs
theorem Bd.curs (h : Bd c nd p) {k : List GDesc} (hk : k ∈ [p.view, p.near, aJ p.ring]) {d : GDesc} (hd : d ∈ k) : d.node ≠ p.node ∧ (d.node.toNat : Int) < c.nodes := by
 have h1 := h.win.cur k hk d hd
 have h2 := ni h1
 have h3 := h.win.table
 exact ⟨t7 h1, by omega⟩
theorem MOk.of {k to : UInt8} (h1 : to ≠ p.node) (h2 : (to.toNat : Int) < c.nodes) (h3 : 1 ≤ k.toNat) (h4 : k.toNat ≤ 9) {l : List GDesc} {t : List am} : MOk c p { bP p k to with list := l, table := t } := ⟨rfl, rfl, h1, h2, h3, h4⟩
end
end Go.Proofs.YtlaefellhnkfbaaGreat.V

namespace Go.Proofs.YtlaefellhnkfbaaGreat.V
open Go.Eng
section
variable {c : av} {nd : UInt8} {p q : ak} {m : aY} {dr : List UInt32}
theorem dz (hc : ay c = true) (hB : Bd c nd p) (hu : p.up = true) {L : List GDesc} (hL : bO L) (hL2 : ∀ d ∈ L, okF d) {H : ak → ak} {M : ak → List aY}
  (hH : ∀ q, Go1 c p q → ((m.frm.toNat : Int) < c.nodes ∧ m.frm ≠ p.node) → Go1 c p (H q) ∧ ∀ x ∈ M q, MOk c p x) :
  Step1 c p (if (aL c p m.frm m.inc).2 = true then (aH c (H (aL c p m.frm m.inc).1) L, M (aL c p m.frm m.inc).1) else ((aL c p m.frm m.inc).1, [])).1
   (if (aL c p m.frm m.inc).2 = true then (aH c (H (aL c p m.frm m.inc).1) L, M (aL c p m.frm m.inc).1) else ((aL c p m.frm m.inc).1, [])).2 := by
 cases h : (aL c p m.frm m.inc).2 with
 | false =>
  rw [if_neg (by decide), wa h]
  exact hB.stay
 | true =>
  rw [if_pos rfl]
  obtain ⟨g, ms⟩ := hH _ (hB.go.hear m.frm m.inc) (abs h)
  exact g.meet hc hu hL hL2 ms
theorem gk : bO [] := ⟨by simp, by simp⟩
theorem iW : ∀ d ∈ ([] : List GDesc), okF d := by simp
theorem fu : ∀ x ∈ ([] : List aY), MOk c p x := by simp
theorem agi (hc : ay c = true) (g : Go1 c p q) (hm : okMg m) (hf : (m.frm.toNat : Int) < c.nodes ∧ m.frm ≠ p.node) : Go1 c p (dJ c q m).1 ∧ ∀ x ∈ (dJ c q m).2, MOk c p x := by
 unfold dJ
 split
 ·rename_i d hd
  have hdm : d ∈ m.list := by rw [hd]; exact List.mem_cons_self
  split
  ·refine ⟨g.view hc (adU g.pre.view d) (fun x hx => ?_) (fun x hx => ?_), fun x hx => ?_⟩
   ·rcases lZ hx with h | rfl
    ·exact g.h.v8.2 x h
    ·exact hm.f8 x hdm
   ·rcases lZ hx with h | rfl
    ·exact g.h.g.view x h
    ·exact hm.fs2 x hdm
   ·rw [List.mem_singleton.1 hx]
    exact ⟨g.node, g.inc, hf.2, hf.1, Nat.le_of_ble_eq_true rfl, Nat.le_of_ble_eq_true rfl⟩
  ·exact ⟨g, fu⟩
 ·exact ⟨g, fu⟩
theorem xC (hc : ay c = true) (g : Go1 c p q) (hm : okMg m) : Go1 c p (dK c q m) := by
 have g2 := g.learn m.table
 refine g2.view hc (zn _ _ g2.pre.view) (fun x hx => ?_) (fun x hx => ?_)
 ·rcases nD _ _ x hx with h | h
  ·exact g2.h.v8.2 x h
  ·exact hm.f8 x (jp h)
 ·rcases nD _ _ x hx with h | h
  ·exact g2.h.g.view x h
  ·exact hm.fs2 x (jp h)
theorem tJ (hc : ay c = true) (g : Go1 c p q) (hm : okMg m) (sent : List GDesc) : Go1 c p (gD c q m sent) := by
 refine g.view hc (iM _ _ _ g.pre.view) (fun x hx => ?_) (fun x hx => ?_)
 ·rcases dT _ _ _ x hx with h | h
  ·exact g.h.v8.2 x h
  ·exact hm.f8 x (jp h)
 ·rcases dT _ _ _ x hx with h | h
  ·exact g.h.g.view x h
  ·exact hm.fs2 x (jp h)
theorem abT (hc : ay c = true) (g : Go1 c p q) (hm : okMg m) : Go1 c p (kU c q m) := by
 unfold kU
 simp only
 split
 ·exact tJ hc (g.wait (yP g.ws).1) hm _
 ·exact g
theorem zX (hc : ay c = true) (hB : Bd c nd p) (hm : okMg m) : Step1 c p (iL dr c p m).1 (iL dr c p m).2 ∧ (p.up = false → (iL dr c p m).2 = []) := by
 unfold iL
 by_cases h0 : p.up = false ∨ m.to ≠ p.node
 ·rw [if_pos h0]
  exact ⟨hB.stay, fun _ => rfl⟩
 rw [if_neg h0]
 have hu : p.up = true := by
  cases h : p.up with
  | true => rfl
  | false => exact absurd (.inl h) h0
 refine ⟨?_, fun h => absurd (.inl h) h0⟩
 by_cases k1 : m.kind = 1
 ·rw [if_pos k1]
  exact dz hc hB hu gk iW (H := fun q => (dJ c q m).1) (M := fun q => (dJ c q m).2) fun q g hf => agi hc g hm hf
 rw [if_neg k1]
 by_cases k2 : m.kind = 2
 ·rw [if_pos k2]
  exact dz hc hB hu gk iW (H := fun q => dK c q m) (M := fun _ => []) fun q g hf => ⟨xC hc g hm, fu⟩
 rw [if_neg k2]
 by_cases k3 : m.kind = 3
 ·rw [if_pos k3]
  refine dz hc hB hu gk iW (H := fun q => gD c q m (cy c.swap (bb q.view m.frm) [] dr)) (M := fun q => [{ bP q 4 m.frm with list := cy c.swap (bb q.view m.frm) [] dr }]) fun q g hf => ⟨tJ hc g hm _, fun x hx => ?_⟩
  rw [List.mem_singleton.1 hx]
  exact ⟨g.node, g.inc, hf.2, hf.1, Nat.le_of_ble_eq_true rfl, Nat.le_of_ble_eq_true rfl⟩
 rw [if_neg k3]
 by_cases k4 : m.kind = 4
 ·rw [if_pos k4]
  exact dz hc hB hu gk iW (H := fun q => kU c q m) (M := fun _ => []) fun q g hf => ⟨abT hc g hm, fu⟩
 rw [if_neg k4]
 by_cases k5 : m.kind = 5 ∨ m.kind = 7
 ·rw [if_pos k5]
  exact dz hc hB hu hm.ds hm.fs2 (H := fun q => q) (M := fun _ => []) fun q g hf => ⟨g, fu⟩
 rw [if_neg k5]
 by_cases k6 : m.kind = 6
 ·rw [if_pos k6]
  refine dz hc hB hu hm.ds hm.fs2 (H := fun q => q) (M := fun q => [{ bP (aH c q m.list) 7 m.frm with list := cJ (aJ (aH c q m.list).ring) (aX (aH c q m.list)) }]) fun q g hf => ⟨g, fun x hx => ?_⟩
  rw [List.mem_singleton.1 hx]
  exact ⟨g.node, g.inc, hf.2, hf.1, Nat.le_of_ble_eq_true rfl, Nat.le_of_ble_eq_true rfl⟩
 rw [if_neg k6]
 by_cases k8 : m.kind = 8
 ·rw [if_pos k8]
  exact dz hc hB hu gk iW (H := fun q => cL q m.table) (M := fun _ => []) fun q g hf => ⟨g.learn _, fu⟩
 rw [if_neg k8]
 by_cases k9 : m.kind = 9
 ·rw [if_pos k9]
  exact dz hc hB hu gk iW (H := fun q => { q with table := gZ q.table m.frm m.inc }) (M := fun _ => []) fun q g hf => ⟨g.left _ _, fu⟩
 rw [if_neg k9]
 exact dz hc hB hu gk iW (H := fun q => q) (M := fun _ => []) fun q g hf => ⟨g, fu⟩
theorem zO {w : GW} (h : ok8 w.sent) : ok8 (fw w).1.sent := by
 unfold fw
 split
 ·split
  ·exact ⟨Nat.zero_le _, fun d hd => absurd (show d ∈ ([] : List GDesc) from hd) List.not_mem_nil⟩
  ·exact h
 ·exact ⟨Nat.zero_le _, fun d hd => absurd (show d ∈ ([] : List GDesc) from hd) List.not_mem_nil⟩
theorem z_ {l : List GDesc} (h : ok8 l) : ok8 (bz l) := ⟨by rw [bz, List.length_map]; exact h.1, fun d hd => by
 obtain ⟨e, h1, rfl⟩ := jh hd
 rw [re]; exact h.2 e h1⟩
theorem xD {l : List GDesc} {f : GDesc → Bool} (h : ok8 l) : ok8 (l.filter f) := ⟨Nat.le_trans (List.length_filter_le _ _) h.1, fun d hd => h.2 d (List.mem_filter.1 hd).1⟩
theorem yI (hB : Bd c nd p) : Go1 c p (br c p) := by
 have hv : Rt p.node c.view (br c p).view ∧ ok8 (br c p).view := by
  have h1 := adC hB.pre.view
  have h2 := z_ hB.h.v8
  unfold br
  simp only
  split
  ·exact ⟨ly h1 _, xD h2⟩
  ·exact ⟨h1, h2⟩
 refine ⟨⟨uw hB.h.g hB.ws, hB.h.rs, hv.2, hv.1.2⟩, ⟨?_, hB.win.rows, hB.win.heard, hv.1⟩, rfl, rfl, rfl, zO hB.ws, hB.f8, tD _ _ _⟩
 have := hB.win.table
 rw [(tD p.table p.node c.suspect).1] at this
 exact this
theorem aeV {l : List GDesc} {self : GDesc} {many : Int} (h : (ft l self many dr).2.2 = true) : ∃ o ∈ l, (ft l self many dr).1 = o.node := by
 unfold ft at h ⊢
 split
 ·rename_i i hi
  simp only [hi] at h
  split
  ·rename_i o ho
   simp only [ho] at h
   split
   ·exact ⟨o, List.mem_of_getElem? ho, rfl⟩
   ·rename_i h2; rw [if_neg h2] at h; cases h
  ·rename_i ho; simp only [ho] at h; cases h
 ·rename_i hi; simp only [hi] at h; cases h
theorem yQ {l : List GDesc} {self : GDesc} {many : Int} (hl : ok8 l) (hl9 : l.length ≤ 99) (hs : self.filter.length ≤ 8) : ok8 (ft l self many dr).2.1 := by
 have hz : ok8 [] := ⟨Nat.zero_le _, by simp⟩
 unfold ft
 split
 ·split
  ·split
   ·rename_i o _ _
    show ok8 (ag3 l self many dr o.node)
    unfold ag3
    have h1 := n9 (many := many - 1) dr (bb l o.node) []
    have h2 := mH l o.node
    have h3 := ah7 (many := many - 1) (nd := o.node) (dr := dr) hl
    simp only [List.length_nil] at h1
    refine ⟨by rw [List.length_cons]; omega, fun d hd => ?_⟩
    rcases List.mem_cons.1 hd with rfl | hd
    ·exact hs
    ·exact h3.2 d hd
   ·exact hz
  ·exact hz
 ·exact hz
theorem rY (hc : ay c = true) (hB : Bd c nd p) : p.view.length ≤ 12 ∧ p.near.length ≤ 12 := by
 have hr := fM hc
 have h1 := (nk hB.win.view).1
 have h2 := (nk hB.win.near).1
 omega
theorem acd (hc : ay c = true) (hB : Bd c nd q) (hu : q.up = true) : Bd c nd (dy c q dr).1 ∧ (dy c q dr).1.inc = q.inc ∧ (dy c q dr).1.up = q.up ∧ (dy c q dr).1.table = q.table ∧ ∀ x ∈ (dy c q dr).2, MOk c q x := by
 unfold dy
 simp only
 split
 ·rename_i h
  have hs := yQ (dr := dr) (many := c.swap) (self := aX q) hB.h.v8 (by have := (rY hc hB).1; omega) hB.f8
  refine ⟨⟨nH hB.h (w := j7 _ 2 _) hs.toDs, ⟨hB.win.table, hB.win.rows, hB.win.heard, hB.win.view, hB.win.near, hB.win.cur, hB.win.ovl, hB.win.ring⟩, hB.node, hs, hB.f8, fun e => ?_⟩, rfl, rfl, rfl, fun x hx => ?_⟩
  ·have e2 : q.up = false := e
   rw [hu] at e2; cases e2
  ·rw [List.mem_singleton.1 hx]
   obtain ⟨o, ho, e⟩ := aeV h.2
   have h3 := hB.curs (k := q.view) (by simp) ho
   exact ⟨rfl, rfl, by rw [← e] at h3; exact h3.1, by rw [← e] at h3; exact h3.2, Nat.le_of_ble_eq_true rfl, Nat.le_of_ble_eq_true rfl⟩
 ·exact ⟨hB, rfl, rfl, rfl, fu⟩
theorem yu {x : UInt8} : ∀ (l acc : List UInt8), x ∈ l.foldl kL acc → x ∈ l ∨ x ∈ acc
 | [], acc, h => .inr h
 | y :: r, acc, h => by
  rcases yu r (kL acc y) h with h | h
  ·exact .inl (List.mem_cons_of_mem _ h)
  ·unfold kL at h
   split at h
   ·exact .inr h
   ·rcases List.mem_append.1 h with h | h
    ·exact .inr h
    ·exact .inl (by rw [List.mem_singleton.1 h]; exact List.mem_cons_self)
theorem abZ {x : UInt8} (h : x ∈ bq p) : ∃ k ∈ [p.view, p.near, aJ p.ring], ∃ d ∈ k, d.node = x := by
 rcases yu _ _ h with h | h
 ·rcases eQ h with h | h
  ·obtain ⟨d, hd, e⟩ := List.mem_map.1 h
   obtain ⟨k, hk, hd⟩ := List.mem_flatten.1 hd
   exact ⟨k, hk, d, hd, e⟩
  ·cases h
 ·cases h
theorem pD (hB : Bd c nd p) {x : UInt8} (h : x ∈ bq p) : x ≠ p.node ∧ (x.toNat : Int) < c.nodes := by
 obtain ⟨k, hk, d, hd, rfl⟩ := abZ h
 exact hB.curs hk hd
theorem oK (hc : ay c = true) (hB : Bd c nd p) : (cW p).length ≤ 26 := by
 have h1 := rY hc hB
 have h2 := dW p.ring
 unfold cW
 simp only [List.length_map, List.flatten_cons, List.flatten_nil, List.length_append, List.length_nil]
 omega
theorem j3 (hc : ay c = true) (hB : Bd c nd p) : (bq p).length ≤ 26 := by
 have h1 := nC (aG ltU (cW p)) (aG ltU (cW p)).length
 rw [List.take_length, bv] at h1
 have := oK hc hB
 show (ct _).length ≤ 26
 omega
theorem aaD (hd : p.view = [] ∧ p.near = [] ∧ p.ring.hs = false ∧ p.ring.hp = false) : bq p = [] := by
 obtain ⟨h1, h2, h3, h4⟩ := hd
 have e : aJ p.ring = [] := by unfold aJ; rw [h3, h4]; rfl
 unfold bq cW
 rw [h1, h2, e]; rfl
theorem aac (hc : ay c = true) (hB : Bd c nd p) (hu : p.up = true) : Step1 c p (d_ c p dr (bq (dy c (aH c (br c p) []) dr).1)).1 (d_ c p dr (bq (dy c (aH c (br c p) []) dr).1)).2 := by
 have s1 := (yI hB).meet hc hu gk iW (ms := []) fu
 unfold d_
 simp only
 generalize aH c (br c p) [] = q at s1
 have hqu : q.up = true := by rw [s1.up, hu]
 have hqn : q.node = p.node := s1.bd.node
 obtain ⟨b1, b2, b3, b4, b5⟩ := acd (dr := dr) hc s1.bd hqu
 generalize dy c q dr = K at b1 b2 b3 b4 b5
 obtain ⟨r, M⟩ := K
 simp only at b1 b2 b3 b4 b5 ⊢
 have rn : r.node = p.node := b1.node
 have ri : r.inc = p.inc := b2.trans s1.inc
 have mk : ∀ {k to : UInt8}, to ≠ r.node → (to.toNat : Int) < c.nodes → 1 ≤ k.toNat → k.toNat ≤ 9 → ∀ {l : List GDesc} {t : List am}, MOk c p { bP r k to with list := l, table := t } := fun h1 h2 h3 h4 => ⟨rn, ri, by rw [← rn]; exact h1, h2, h3, h4⟩
 refine ⟨b1, ri, b3.trans s1.up, by rw [b4]; exact s1.tab, fun x hx => ?_⟩
 rcases List.mem_append.1 hx with hx | hx
 ·rcases List.mem_append.1 hx with hx | hx
  ·rcases List.mem_append.1 hx with hx | hx
   ·have h := b5 x hx
    exact ⟨h.frm.trans hqn, h.inc.trans s1.inc, by rw [← hqn]; exact h.ne, h.lt, h.k1, h.k9⟩
   ·unfold gR at hx
    split at hx
    ·cases hx
    ·rename_i hne
     rw [List.mem_singleton.1 hx]
     have hl : 0 < (bq r).length := List.length_pos_iff.2 hne
     have hi : (cN c dr).toNat % (bq r).length < (bq r).length := Nat.mod_lt _ hl
     have h2 := pD b1 (x := (bq r).getD ((cN c dr).toNat % (bq r).length) 0) (by rw [List.getD_eq_getElem?_getD, List.getElem?_eq_getElem hi]; exact List.getElem_mem hi)
     exact mk h2.1 h2.2 (Nat.le_of_ble_eq_true rfl) (Nat.le_of_ble_eq_true rfl)
  ·unfold fG at hx
   split at hx
   ·rename_i hs
    rw [List.mem_singleton.1 hx]
    obtain ⟨d, hd, hdn⟩ : ∃ d ∈ aJ r.ring, d.node = r.ring.succ.node := by
     unfold aJ
     split
     ·unfold fb
      by_cases h1 : r.ring.succ.node < r.ring.pred.node
      ·rw [if_pos h1]; exact ⟨_, List.mem_cons_self, rfl⟩
      ·rw [if_neg h1]
       by_cases h2 : r.ring.pred.node < r.ring.succ.node
       ·rw [if_pos h2]; exact ⟨_, List.mem_cons_of_mem _ List.mem_cons_self, rfl⟩
       ·rw [if_neg h2]
        have e : r.ring.pred.node = r.ring.succ.node := UInt8.le_antisymm (UInt8.not_lt.1 h1) (UInt8.not_lt.1 h2)
        split
        ·exact ⟨_, List.mem_cons_self, e⟩
        ·exact ⟨_, List.mem_cons_self, rfl⟩
     ·first | exact ⟨_, List.mem_cons_self, rfl⟩ | (rw [if_pos hs]; exact ⟨_, List.mem_cons_self, rfl⟩)
    have h2 := b1.curs (k := aJ r.ring) (by simp) hd
    rw [hdn] at h2
    exact mk h2.1 h2.2 (Nat.le_of_ble_eq_true rfl) (Nat.le_of_ble_eq_true rfl)
   ·cases hx
 ·obtain ⟨d, hd, rfl⟩ := List.mem_map.1 hx
  have h2 := b1.curs (k := aJ r.ring) (by simp) hd
  exact mk h2.1 h2.2 (Nat.le_of_ble_eq_true rfl) (Nat.le_of_ble_eq_true rfl)
end
end Go.Proofs.YtlaefellhnkfbaaGreat.V

namespace Go.Proofs.YtlaefellhnkfbaaGreat.V
open Go.Eng
theorem afj {f g : List GSpan} (hf : ∀ s ∈ f, okS s) (hg : ∀ s ∈ g, okS s) : ∀ s ∈ dA f g, okS s := by
 intro s hs
 unfold dA at hs
 split at hs
 ·obtain ⟨x, hx, rfl⟩ := List.mem_map.1 hs
  exact tP (hf _ (List.of_mem_zip hx).1) (hg _ (List.of_mem_zip hx).2)
 ·cases hs
theorem qw {dom f : List GSpan} (hd : ∀ s ∈ dom, okS s) (hf : ∀ s ∈ f, okS s) (hl : dom.length ≤ 4) : (∀ s ∈ (bo dom f).1, okS s) ∧ (bo dom f).1.length ≤ 8 := by
 unfold bo
 split
 ·exact ⟨fun s h => (by cases h), Nat.zero_le _⟩
 ·split
  ·exact ⟨afj hd hf, by have := pU dom f; show (dA dom f).length ≤ 8; omega⟩
  ·exact ⟨fun s h => (by cases h), Nat.zero_le _⟩
section
variable {c : av} {nd : UInt8} {p q : ak} {o : GOp}
theorem oy (h : okG p) {f : List GSpan} (h1 : ∀ s ∈ f, okS s) (h2 : f.length ≤ 8) : okG { p with filter := f } :=
 ⟨⟨by show f.length ≤ 1000; omega, h.ok.view, h.ok.near, h.ok.succ, h.ok.pred, h.ok.sent, h.ok.table, h.ok.heard, h.ok.rows, h.ok.reports, h.ok.evs, h.ok.pulls⟩, h1, h.view, h.near, h.succ, h.pred, h.table⟩
theorem Go1.filter (g : Go1 c p q) {f : List GSpan} (h1 : ∀ s ∈ f, okS s) (h2 : f.length ≤ 8) : Go1 c p { q with filter := f } :=
 ⟨⟨oy g.h.g h1 h2, g.h.rs, g.h.v8, g.h.vw⟩, ⟨g.pre.table, g.pre.rows, g.pre.heard, g.pre.view⟩, g.node, g.up, g.inc, g.ws, h2, g.tab⟩
theorem lM (hc : ay c = true) {node : UInt8} {inc : UInt16} {up : Bool} {t : List am} (ht : (t.length : Int) = c.nodes) : Win c { bN c node with inc := inc, up := up, table := t } := by
 have hr := fM hc
 have hn : (((min (max c.nodes 0) 12).toNat : Nat) : Int) = c.nodes := by omega
 refine ⟨ht, ?_, ?_, ?_, ?_, ?_, ?_, .inl rfl⟩
 ·simp only [bN, List.length_replicate]; exact hn
 ·simp only [bN, List.length_replicate]; exact hn
 ·exact lg ⟨by simp only [bN, List.length_nil]; omega, xF _⟩ (by omega)
 ·exact lg ⟨by simp only [bN, List.length_nil]; omega, xF _⟩ (by omega)
 ·intro k hk d hd
  simp only [bN, List.mem_cons, List.not_mem_nil, or_false] at hk
  rcases hk with rfl | rfl | rfl
  ·cases hd
  ·cases hd
  ·simp [aJ] at hd
 ·intro d hd; simp [bN] at hd
theorem jy (hc : ay c = true) (node : UInt8) : ((bN c node).table.length : Int) = c.nodes := by
 have hr := fM hc
 simp only [bN, List.length_replicate]
 omega
theorem aeu : ok8 [] := ⟨Nat.zero_le _, by simp⟩
theorem aiO (hc : ay c = true) (node : UInt8) : Bd c node (bN c node) :=
 ⟨kB c node, lM hc (up := false) (inc := 0) (jy hc node), rfl, aeu, Nat.zero_le _, fun _ => ⟨rfl, rfl, rfl, rfl, rfl⟩⟩
theorem acV (hc : ay c = true) (hB : Bd c nd p) : Bd c nd (bM c p).1 ∧ p.inc ≤ (bM c p).1.inc ∧ (p.up = true → (bM c p).1 = p) := by
 have ho := lP c p hB.h
 unfold bM at ho ⊢
 split
 ·exact ⟨hB, UInt16.le_refl _, fun _ => rfl⟩
 ·rename_i hu
  split
  ·exact ⟨hB, UInt16.le_refl _, fun _ => rfl⟩
  ·rename_i hi
   rw [if_neg hu, if_neg hi] at ho
   refine ⟨⟨ho, lM hc (by rw [List.length_set]; exact jy hc _), hB.node, aeu, Nat.zero_le _, fun e => by cases e⟩, ?_, fun h => absurd h hu⟩
   show p.inc ≤ p.inc + 1
   have h1 : p.inc.toNat ≠ 65535 := fun e => hi (UInt16.toNat_inj.1 e)
   have h2 := p.inc.toNat_lt
   rw [UInt16.le_iff_toNat_le, UInt16.toNat_add]
   show p.inc.toNat ≤ (p.inc.toNat + 1) % 65536
   omega
theorem za (hc : ay c = true) (hB : Bd c nd p) : Bd c nd (mC c p) := by
 have h := zt (kB c p.node) (i := p.inc) (b := false) (t := (bN c p.node).table) (by have := jy hc p.node; have := fM hc; omega)
 exact ⟨h, lM hc (up := false) (inc := p.inc) (jy hc _), hB.node, aeu, Nat.zero_le _, fun _ => ⟨rfl, rfl, rfl, rfl, rfl⟩⟩
structure aif (c : av) (p : ak) (r : ak × List aY × Int) : Prop where
 bd : Bd c p.node r.1
 inc : p.inc ≤ r.1.inc
 tab : r.1.up = true → p.up = true → TUp p.table r.1.table
 ms : ∀ m ∈ r.2.1, MOk c p m
 quiet : r.2.1 ≠ [] → r.2.2 = 0 ∧ p.up = true
theorem Step1.d {l : List aY} {e : Int} (h : Step1 c p q l) (hq : l ≠ [] → e = 0 ∧ p.up = true) : aif c p (q, l, e) := ⟨h.bd, by rw [h.inc]; exact UInt16.le_refl _, fun _ _ => h.tab, h.ms, hq⟩
theorem zU (hc : ay c = true) (hS : ∀ s ∈ c.schema, okS s) (hB : Bd c nd p) (hm : okMg o.m) (hfs : ∀ s ∈ o.filter, okS s) (hup : p.up = true ∨ ¬ (o.what = 6 ∨ o.what = 7)) : aif c p (f_ c p o) := by
 obtain rfl := hB.node
 have hr := fM hc
 have nq : ∀ {e : Int}, ([] : List aY) ≠ [] → e = 0 ∧ p.up = true := fun h => absurd rfl h
 unfold f_
 by_cases w0 : o.what = 0
 ·rw [if_pos w0]
  obtain ⟨b1, b2, b3⟩ := acV hc hB
  exact ⟨b1, b2, fun _ hu => by simp only; rw [b3 hu]; exact TUp.refl _, fu, nq⟩
 rw [if_neg w0]
 by_cases w1 : o.what = 1
 ·rw [if_pos w1]
  exact ⟨za hc hB, UInt16.le_refl _, fun e => (by cases e), fu, nq⟩
 rw [if_neg w1]
 by_cases w2 : o.what = 2
 ·rw [if_pos w2]
  by_cases hu : p.up = false
  ·rw [if_pos hu]; exact hB.stay.d nq
  ·rw [if_neg hu]
   have hu : p.up = true := by simpa using hu
   obtain ⟨n1, n2⟩ := qw (f := o.filter) hS hfs (by omega)
   split
   ·exact ((hB.go.filter n1 n2).meet hc hu gk iW fu).d nq
   ·exact hB.stay.d nq
 rw [if_neg w2]
 by_cases w3 : o.what = 3
 ·rw [if_pos w3]
  unfold eZ
  by_cases hu : p.up = false
  ·rw [if_pos hu]; exact hB.stay.d nq
  ·rw [if_neg hu]
   have hu : p.up = true := by simpa using hu
   split
   ·exact hB.stay.d nq
   ·rename_i h
    refine Step1.d ⟨hB, rfl, rfl, TUp.refl _, fun x hx => ?_⟩ (fun _ => ⟨rfl, hu⟩)
    rw [List.mem_singleton.1 hx]
    exact ⟨rfl, rfl, fun e => h (.inr e), (show (o.node.toNat : Int) < c.nodes by omega), Nat.le_of_ble_eq_true rfl, Nat.le_of_ble_eq_true rfl⟩
 rw [if_neg w3]
 by_cases w4 : o.what = 4
 ·rw [if_pos w4]
  by_cases hu : p.up = false
  ·rw [if_pos hu, if_pos hu]; exact hB.stay.d nq
  ·rw [if_neg hu, if_neg hu, if_neg hu]
   have hu : p.up = true := by simpa using hu
   refine ⟨za hc hB, UInt16.le_refl _, fun e => (by cases e), fun x hx => ?_, fun _ => ⟨rfl, hu⟩⟩
   obtain ⟨y, hy, rfl⟩ := List.mem_map.1 hx
   have h2 := pD hB hy
   exact ⟨rfl, rfl, h2.1, h2.2, Nat.le_of_ble_eq_true rfl, Nat.le_of_ble_eq_true rfl⟩
 rw [if_neg w4]
 by_cases w5 : o.what = 5
 ·rw [if_pos w5]
  by_cases hu : p.up = false
  ·rw [if_pos hu, if_pos hu]; exact hB.stay.d nq
  ·rw [if_neg hu, if_neg hu]
   have hu : p.up = true := by simpa using hu
   exact (aac hc hB hu).d (fun _ => ⟨rfl, hu⟩)
 rw [if_neg w5]
 by_cases w6 : o.what = 6
 ·rw [if_pos w6]
  have hu := hup.resolve_right (fun h => h (.inl w6))
  exact ((hB.go.hear o.node o.inc).meet hc hu gk iW fu).d nq
 rw [if_neg w6]
 by_cases w7 : o.what = 7
 ·rw [if_pos w7]
  have hu := hup.resolve_right (fun h => h (.inr w7))
  exact (hB.go.meet hc hu hm.ds hm.fs2 fu).d nq
 rw [if_neg w7]
 obtain ⟨s1, s2⟩ := zX (dr := o.draws) hc hB hm
 refine s1.d fun h => ⟨rfl, ?_⟩
 cases hu : p.up with
 | true => rfl
 | false => exact absurd (s2 hu) h
end
end Go.Proofs.YtlaefellhnkfbaaGreat.V
