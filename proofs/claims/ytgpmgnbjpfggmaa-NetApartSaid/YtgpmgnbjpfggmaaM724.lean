/-
  Part 24 of the proof of M7: the engine and the walks, in their order.
-/
import Derived.Test.YtgpmgnbjpfggmaaM716
set_option linter.unusedSimpArgs false
set_option linter.unusedVariables false
/-
  Data level, part Q: deletion and insertion in rows, by the engine's calls.
-/
set_option linter.unusedSimpArgs false
set_option linter.unusedVariables false
namespace Go.Eng

/-- The engine's call of slices.Delete of one element. -/
def DelC (P : Program) (f : FuncId) (e sz : Nat) : Prop := ∀ (xs : List (List Value)) (p : Option Addr) (n c i : Nat) (u0 u : World), Own u0 u e sz p n c xs → allOnes xs → i < n → n ≤ 1000000 → ∀ K : Value → World → Prop,
  (∀ u', Own u0 u' e sz p (n - 1) c (xs.take i ++ xs.drop (i + 1)) → SubX p u u' → K (.slice p (n - 1) c) u') → AtCall false P f [.slice p n c, .int .i64 i, .int .i64 ((i : Int) + 1)] u0 u K

theorem CallS.del {P : Program} {f : FuncId} {e sz : Nat} (hc : DelC P f e sz) {ds : DS} {K : DV → DS → Prop} {id i len : Nat} {l : List (List DV)} (hlk : lk ds.H id = some (.arr e sz l false)) (hlen : len = l.length) (hi : i < l.length) (hn : l.length ≤ 1000000)
    (hK : K (.rf id 0 (l.length - 1)) ⟨ds.ρ, ds.σ, setH id (.arr e sz (l.eraseIdx i) false) ds.H, ds.nx, ds.nb⟩) : CallS P false f [.rf id 0 len, .v (.int .i64 i), .v (.int .i64 ((i : Int) + 1))] ds K := by
  subst hlen
  rintro u0 β0 β us s u vs h ⟨w1, V1, rfl, ⟨p, c, sz', q, hb, rfl, hle, hq, hsm⟩, w2, V2, rfl, ⟨rfl, _⟩, w3, V3, rfl, ⟨rfl, _⟩, rfl⟩
  obtain ⟨p', c', g1, g2, g3⟩ := (h.row id _ hlk).2
  rw [hb] at g1
  cases g1
  rcases g3 with ⟨rfl, rfl⟩ | ⟨h0, V, h4, h5, h6, h7⟩
  · simp at hi
  have hq' : q = p := by rw [hq (by omega), addO]
  subst hq'
  have hVl := h7.length
  refine hc V q l.length c i u0 u h4 h6 hi hn _ (fun u' ho hx => ?_)
  have hn := h.set (r := .arr e sz (l.eraseIdx i) false) hlk hx (fun a ha => by rw [hb, liveB_live h0, ha]; rfl)
    ⟨q, c, hb, by rw [List.length_eraseIdx_of_lt hi]; omega, .inr ⟨h0, V.take i ++ V.drop (i + 1), by rw [List.length_eraseIdx_of_lt hi]; exact ho, h5, fun y hy => ?_, ?_⟩⟩ (by rw [hb, liveB_live h0, liveB_live h0])
  · exact ⟨β, us, _, .rf id 0 (l.length - 1), hn, ⟨q, c, sz, q, hb, by rw [Nat.sub_zero], by omega, hq, hsm⟩, hK⟩
  · rcases List.mem_append.1 hy with hy | hy
    · exact h6 y (List.mem_of_mem_take hy)
    · exact h6 y (List.mem_of_mem_drop hy)
  · rw [List.eraseIdx_eq_take_drop_succ]
    exact (h7.take i).append (h7.drop (i + 1))

/-- The engine's call of slices.Insert of one element. -/
def InsC (P : Program) (f : FuncId) (e sz bytes : Nat) : Prop := ∀ (xs : List (List Value)) (x : List Value) (i n c c2 : Nat) (p q : Option Addr) (u0 u : World), Own u0 u e sz p n c xs → i ≤ n → Own u0 u e sz q 1 c2 [x] → allOne x = true → allOnes xs → NEP p q → (n + 1) * bytes ≤ 140737488355328 →
  ∀ K : Value → World → Prop, (∀ p' c' u', Own u0 u' e sz p' (n + 1) c' (xs.take i ++ [x] ++ xs.drop i) → SubX p u u' → (p' = p ∨ FreshP u p') → K (.slice p' (n + 1) c') u') → AtCall false P f [.slice p n c, .int .i64 i, .slice q 1 c2] u0 u K
def InsC0 (P : Program) (f : FuncId) (e sz : Nat) : Prop := ∀ (x : List Value) (c2 : Nat) (p q : Option Addr) (u0 u : World), Own u0 u e sz q 1 c2 [x] → allOne x = true →
  ∀ K : Value → World → Prop, (∀ p' c' u', Own u0 u' e sz p' 1 c' [x] → Sub u u' → FreshP u p' → K (.slice p' 1 c') u') → AtCall false P f [.slice p 0 0, .int .i64 0, .slice q 1 c2] u0 u K

theorem CallS.ins {P : Program} {f : FuncId} {e sz bytes : Nat} (hc : InsC P f e sz bytes) (hc0 : InsC0 P f e sz) {ds : DS} {K : DV → DS → Prop} {id id2 i len : Nat} {l : List (List DV)} {x : List DV} (hlk : lk ds.H id = some (.arr e sz l false)) (hlk2 : lk ds.H id2 = some (.arr e sz [x] false)) (hne : id ≠ id2)
    (hlen : len = l.length) (hi : i ≤ l.length) (hn : (l.length + 1) * bytes ≤ 140737488355328)
    (hK : K (.rf ds.nx 0 (l.length + 1)) ⟨ds.ρ, ds.σ, (ds.nx, .arr e sz (l.take i ++ [x] ++ l.drop i) false) :: dropH id ds.H, ds.nx + 1, ds.nb⟩) : CallS P false f [.rf id 0 len, .v (.int .i64 i), .rf id2 0 1] ds K := by
  subst hlen
  rintro u0 β0 β us s u vs h ⟨w1, V1, rfl, ⟨p, c, sz', q, hb, rfl, hle, hq, hsm⟩, w2, V2, rfl, ⟨rfl, _⟩, w3, V3, rfl, ⟨p2, c2, sz2, q2, hb2, rfl, hle2, hq2, hsm2⟩, rfl⟩
  obtain ⟨p', c', g1, g2, g3⟩ := (h.row id _ hlk).2
  rw [hb] at g1
  cases g1
  obtain ⟨p2', c2', k1, k2, k3⟩ := (h.row id2 _ hlk2).2
  rw [hb2] at k1
  cases k1
  rcases k3 with ⟨_, hh⟩ | ⟨h02, V2, h42, h52, h62, h72⟩
  · cases hh
  have hq2' : q2 = p2 := by rw [hq2 h02, addO]
  subst hq2'
  obtain ⟨vx, rfl⟩ : ∃ vx, V2 = [vx] := by
    have := h72.length
    match V2, this with
    | [a], _ => exact ⟨a, rfl⟩
  have hvx : HVss us [x] [vx] := h72
  have hvx1 := h62 vx (List.mem_singleton.2 rfl)
  have hll : (l.take i ++ [x] ++ l.drop i).length = l.length + 1 := by simp; omega
  rcases g3 with ⟨rfl, rfl⟩ | ⟨h0, V, h4, h5, h6, h7⟩
  · have hi0 : i = 0 := by simpa using hi
    subst hi0
    refine hc0 vx (c2 - 0) q q2 u0 u (by simpa using h42) hvx1 _ (fun p3 c3 u' ho hx hf => ?_)
    obtain ⟨β', k1, k2⟩ := (h.drop id).newOwn (l := [x]) hx ho hf rfl (fun y hy => by simp at hy; subst hy; exact hvx1) hvx
    exact ⟨β', us, _, .rf ds.nx 0 1, k1, k2, hK⟩
  · have hq' : q = p := by rw [hq h0, addO]
    subst hq'
    have hVl := h7.length
    have hnep : NEP q q2 := fun a b ha hb' e => by
      subst ha; subst hb'
      refine h.dist id id2 _ _ a.block hne hlk hlk2 (by rw [hb, liveB_live h0]; rfl) (by rw [hb2, liveB_live h02, e]; rfl)
    refine hc V vx i l.length (c - 0) (c2 - 0) q q2 u0 u (by simpa using h4) hi (by simpa using h42) hvx1 h6 hnep hn _ (fun p' c' u' ho hs hf => ?_)
    have hcap' := ho.sl.cap
    have hsub : Sub us u' := hs.sub h.sub h5
    have hok : RowOk u0 u' us (upd β ds.nx (.arr p' c' sz)) (.arr p' c' sz) (.arr e sz (l.take i ++ [x] ++ l.drop i) false) := by
      refine ⟨p', c', rfl, by rw [hll]; exact hcap', .inr ⟨by omega, V.take i ++ [vx] ++ V.drop i, by rw [hll]; exact ho, fun a0 h00 => ?_, fun y hy => ?_, ((h7.take i).append hvx).append (h7.drop i)⟩⟩
      · rcases hf with rfl | hf
        · exact h5 a0 h00
        · exact Fresh.anti h.sub (hf a0 h00)
      · simp only [List.append_assoc, List.mem_append, List.mem_singleton] at hy
        rcases hy with hy | rfl | hy
        · exact h6 y (List.mem_of_mem_take hy)
        · exact hvx1
        · exact h6 y (List.mem_of_mem_drop hy)
    have ht := h.turn hlk hs (fun a ha => by rw [hb, liveB_live h0, ha]; rfl) (.arr p' c' sz) _ hok (fun b hb' => by
      rw [liveB_live (by omega)] at hb'
      obtain ⟨a0, h00, rfl⟩ := Option.map_eq_some_iff.1 hb'
      rcases hf with rfl | hf
      · exact .inl (by rw [hb, liveB_live h0, h00]; rfl)
      · exact .inr (hf a0 h00))
    refine ⟨_, us, _, .rf ds.nx 0 (l.length + 1), ht, ⟨p', c', sz, p', upd_eq _ _ _, rfl, by omega, fun _ => (addO p' sz).symm, fun hc => ?_⟩, hK⟩
    obtain ⟨g, cur, rfl, _⟩ := ho.none_iff hc
    rfl
end Go.Eng
