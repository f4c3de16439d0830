/-
  Part 22 of the proof of Ap: the engine and the walks, in their order.
-/
import Derived.Test.YtcaobkpfafcnjaaAp20
import Derived.Test.YtcaobkpfafcnjaaAp21
set_option linter.unusedSimpArgs false
set_option linter.unusedVariables false
/-
  The walk of BufferEvicts.
-/
set_option linter.unusedSimpArgs false
set_option linter.unusedVariables false
namespace Go.Proofs.Ytcaobkpfafcnjaa
open Go.Eng
attribute [local go_sem] GID.val GID.enc PE.val PE.enc PB.val PB.enc encI encB

/-- A right buffer of small events. -/
structure BR (u : World) (N : Nat) (b : PB) : Prop where
  bl : BL u N b
  room : b.room = N
  up : Up evKey (es b.l)
  small : ∀ e ∈ es b.l, e.vals.length ≤ 8 ∧ e.data.length ≤ 70
theorem BR.mono {u u' : World} {N : Nat} {b : PB} (hs : Sub u u') (h : BR u N b) : BR u' N b := ⟨h.bl.mono hs, h.room, h.up, h.small⟩
theorem br_back {u u' : World} {r : Value} {N : Nat} {L : List GEv} (h : BackB u u' r N L) (hL : L.length ≤ N) (hu : Up evKey L) (h8 : ∀ e ∈ L, e.vals.length ≤ 8 ∧ e.data.length ≤ 70) : ∃ b : PB, r = b.val ∧ es b.l = L ∧ BR u' N b := by
  obtain ⟨b, h1, h2, h3, h4⟩ := bl_of h hL (fun e he => by have := h8 e he; omega)
  exact ⟨b, h1, h3, h4, h2, by rw [h3]; exact hu, by rw [h3]; exact h8⟩
theorem br_nil (u : World) (N : Nat) : BR u N ⟨N, none, 0, 0, []⟩ := ⟨⟨EL.nil_ _ _, Nat.zero_le _, by simp⟩, rfl, by simp, by simp⟩
theorem BR.n {u : World} {N : Nat} {b : PB} (h : BR u N b) : b.n ≤ N ∧ b.l.length = b.n := ⟨h.bl.len, h.bl.el.len⟩

/-- Put, of a right buffer. -/
theorem putR_con (b : PB) (e : PE) (N : Nat) (u : World) (hb : BR u N b) (hN : N ≤ 1000) (he : There u (EvK.parts e)) (hen : e.n ≤ 8) (hem : e.m ≤ 70) :
    Con Try.prog 10 [b.val, e.val] u (fun r u' => ∃ b' : PB, r = .tuple #[b'.val, .int .i64 (bErr (es b.l) N e.g.id)] ∧ es b'.l = bPut (es b.l) N e.g ∧ BR u' N b') := by
  obtain ⟨h1, h2⟩ := put_con b e u (hb.bl.wide (by omega)) he (by omega) (by omega)
  refine ⟨h1, fun w hw => (h2 w hw).mono ?_⟩
  rintro r w' ⟨v, u', rfl, hst, hsub, v', rfl, B⟩
  rw [hb.room] at B ⊢
  have hl := hb.bl.el.len
  have hn := hb.bl.len
  obtain ⟨b', rfl, h5, h6⟩ := br_back B (by have := bPut_len (e := e.g) (l := es b.l) (room := N) (by simp; omega); omega) (up_put hb.up) (fun x hx => by
    rcases bPut_mem hx with h | h
    · rw [h, ev_nlen he, ev_mlen he]; exact ⟨hen, hem⟩
    · exact hb.small x h)
  exact ⟨_, u', rfl, hst, hsub, b', rfl, h5, h6⟩

/-- Evict, of a right buffer. -/
theorem evictR_con (b : PB) (node : UInt8) (inc : UInt16) (N : Nat) (u : World) (hb : BR u N b) (hN : N ≤ 1000) :
    Con Try.prog 12 [b.val, .int .u8 node.toNat, .int .u16 inc.toNat] u (fun r u' => ∃ b' : PB, r = .tuple #[b'.val, (bGone (es b.l) node inc).val, .int .i64 (if (bOld (es b.l) node inc).isSome = true then 0 else 52)] ∧ es b'.l = bWo (es b.l) (bOld (es b.l) node inc) ∧ BR u' N b') := by
  obtain ⟨h1, h2⟩ := evict_con b node inc u (hb.bl.wide (by omega))
  refine ⟨h1, fun w hw => (h2 w hw).mono ?_⟩
  rintro r w' ⟨v, u', rfl, hst, hsub, v', rfl, B⟩
  rw [hb.room] at B
  have hl := hb.bl.el.len
  have hn := hb.bl.len
  obtain ⟨b', rfl, h5, h6⟩ := br_back B (by have := wo_len (es b.l) (bOld (es b.l) node inc); simp at this; omega) (up_wo hb.up) (fun x hx => hb.small x (wo_mem hx))
  exact ⟨_, u', rfl, hst, hsub, b', rfl, h5, h6⟩

/-- Remove, of a right buffer. -/
theorem removeR_con (b : PB) (x : GID) (N : Nat) (u : World) (hb : BR u N b) (hN : N ≤ 1000) :
    Con Try.prog 20 [b.val, x.val] u (fun r u' => ∃ b' : PB, r = .tuple #[b'.val, .int .i64 (if bHas (es b.l) x = true then 0 else 151)] ∧ es b'.l = bWo (es b.l) (bOf (es b.l) x) ∧ BR u' N b') := by
  obtain ⟨h1, h2⟩ := remove_con b x u (hb.bl.wide (by omega))
  refine ⟨h1, fun w hw => (h2 w hw).mono ?_⟩
  rintro r w' ⟨v, u', rfl, hst, hsub, v', rfl, B⟩
  rw [hb.room] at B
  have hl := hb.bl.el.len
  have hn := hb.bl.len
  obtain ⟨b', rfl, h5, h6⟩ := br_back B (by have := wo_len (es b.l) (bOf (es b.l) x); simp at this; omega) (up_wo hb.up) (fun y hy => hb.small y (wo_mem hy))
  exact ⟨_, u', rfl, hst, hsub, b', rfl, h5, h6⟩
end Go.Proofs.Ytcaobkpfafcnjaa
