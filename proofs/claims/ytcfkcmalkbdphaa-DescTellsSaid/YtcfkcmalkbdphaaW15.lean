/-
  Part 15 of the proof of W: the engine and the walks, in their order.
-/
import Derived.Test.YtcfkcmalkbdphaaW13
set_option linter.unusedSimpArgs false
set_option linter.unusedVariables false
/-
  Data level, part Q: deletion and insertion in rows, by the engine's calls.
-/
set_option linter.unusedSimpArgs false
set_option linter.unusedVariables false
namespace Go.Eng

/-- The engine's call of slices.Delete of one element. -/
def DelC (P : Program) (f : FuncId) (e sz : Nat) : Prop := ∀ (xs : List (List Value)) (p : Option Addr) (n c i : Nat) (u0 u : World), Own u0 u e sz p n c xs → allOnes xs → i < n → n ≤ 1000000 → ∀ K : Value → World → Prop,
  (∀ u', Own u0 u' e sz p (n - 1) c (xs.take i ++ xs.drop (i + 1)) → SubX p u u' → K (.slice p (n - 1) c) u') → AtCall false P f [.slice p n c, .int .i64 i, .int .i64 ((i : Int) + 1)] u0 u K

theorem CallS.del {P : Program} {f : FuncId} {e sz : Nat} (hc : DelC P f e sz) {ds : DS} {K : DV → DS → Prop} {id i len : Nat} {l : List (List DV)} (hlk : lk ds.H id = some (.arr e sz l false)) (hlen : len = l.length) (hi : i < l.length) (hn : l.length ≤ 1000000)
    (hK : K (.rf id 0 (l.length - 1)) ⟨ds.ρ, ds.σ, setH id (.arr e sz (l.eraseIdx i) false) ds.H, ds.nx, ds.nb⟩) : CallS P false f [.rf id 0 len, .v (.int .i64 i), .v (.int .i64 ((i : Int) + 1))] ds K := by
  subst hlen
  rintro u0 β0 β us s u vs h ⟨w1, V1, rfl, ⟨p, c, sz', q, hb, rfl, hle, hq, hsm⟩, w2, V2, rfl, ⟨rfl, _⟩, w3, V3, rfl, ⟨rfl, _⟩, rfl⟩
  obtain ⟨p', c', g1, g2, g3⟩ := (h.row id _ hlk).2
  rw [hb] at g1
  cases g1
  rcases g3 with ⟨rfl, rfl⟩ | ⟨h0, V, h4, h5, h6, h7⟩
  · simp at hi
  have hq' : q = p := by rw [hq (by omega), addO]
  subst hq'
  have hVl := h7.length
  refine hc V q l.length c i u0 u h4 h6 hi hn _ (fun u' ho hx => ?_)
  have hn := h.set (r := .arr e sz (l.eraseIdx i) false) hlk hx (fun a ha => by rw [hb, liveB_live h0, ha]; rfl)
    ⟨q, c, hb, by rw [List.length_eraseIdx_of_lt hi]; omega, .inr ⟨h0, V.take i ++ V.drop (i + 1), by rw [List.length_eraseIdx_of_lt hi]; exact ho, h5, fun y hy => ?_, ?_⟩⟩ (by rw [hb, liveB_live h0, liveB_live h0])
  · exact ⟨β, us, _, .rf id 0 (l.length - 1), hn, ⟨q, c, sz, q, hb, by rw [Nat.sub_zero], by omega, hq, hsm⟩, hK⟩
  · rcases List.mem_append.1 hy with hy | hy
    · exact h6 y (List.mem_of_mem_take hy)
    · exact h6 y (List.mem_of_mem_drop hy)
  · rw [List.eraseIdx_eq_take_drop_succ]
    exact (h7.take i).append (h7.drop (i + 1))

/-- The engine's call of slices.Insert of one element. -/
def InsC (P : Program) (f : FuncId) (e sz bytes : Nat) : Prop := ∀ (xs : List (List Value)) (x : List Value) (i n c c2 : Nat) (p q : Option Addr) (u0 u : World), Own u0 u e sz p n c xs → i ≤ n → Own u0 u e sz q 1 c2 [x] → allOne x = true → allOnes xs → NEP p q → (n + 1) * bytes ≤ 140737488355328 →
  ∀ K : Value → World → Prop, (∀ p' c' u', Own u0 u' e sz p' (n + 1) c' (xs.take i ++ [x] ++ xs.drop i) → SubX p u u' → (p' = p ∨ FreshP u p') → K (.slice p' (n + 1) c') u') → AtCall false P f [.slice p n c, .int .i64 i, .slice q 1 c2] u0 u K
def InsC0 (P : Program) (f : FuncId) (e sz : Nat) : Prop := ∀ (x : List Value) (c2 : Nat) (p q : Option Addr) (u0 u : World), Own u0 u e sz q 1 c2 [x] → allOne x = true →
  ∀ K : Value → World → Prop, (∀ p' c' u', Own u0 u' e sz p' 1 c' [x] → Sub u u' → FreshP u p' → K (.slice p' 1 c') u') → AtCall false P f [.slice p 0 0, .int .i64 0, .slice q 1 c2] u0 u K

theorem CallS.ins {P : Program} {f : FuncId} {e sz bytes : Nat} (hc : InsC P f e sz bytes) (hc0 : InsC0 P f e sz) {ds : DS} {K : DV → DS → Prop} {id id2 i len : Nat} {l : List (List DV)} {x : List DV} (hlk : lk ds.H id = some (.arr e sz l false)) (hlk2 : lk ds.H id2 = some (.arr e sz [x] false)) (hne : id ≠ id2)
    (hlen : len = l.length) (hi : i ≤ l.length) (hn : (l.length + 1) * bytes ≤ 140737488355328)
    (hK : K (.rf ds.nx 0 (l.length + 1)) ⟨ds.ρ, ds.σ, (ds.nx, .arr e sz (l.take i ++ [x] ++ l.drop i) false) :: dropH id ds.H, ds.nx + 1, ds.nb⟩) : CallS P false f [.rf id 0 len, .v (.int .i64 i), .rf id2 0 1] ds K := by
  subst hlen
  rintro u0 β0 β us s u vs h ⟨w1, V1, rfl, ⟨p, c, sz', q, hb, rfl, hle, hq, hsm⟩, w2, V2, rfl, ⟨rfl, _⟩, w3, V3, rfl, ⟨p2, c2, sz2, q2, hb2, rfl, hle2, hq2, hsm2⟩, rfl⟩
  obtain ⟨p', c', g1, g2, g3⟩ := (h.row id _ hlk).2
  rw [hb] at g1
  cases g1
  obtain ⟨p2', c2', k1, k2, k3⟩ := (h.row id2 _ hlk2).2
  rw [hb2] at k1
  cases k1
  rcases k3 with ⟨_, hh⟩ | ⟨h02, V2, h42, h52, h62, h72⟩
  · cases hh
  have hq2' : q2 = p2 := by rw [hq2 h02, addO]
  subst hq2'
  obtain ⟨vx, rfl⟩ : ∃ vx, V2 = [vx] := by
    have := h72.length
    match V2, this with
    | [a], _ => exact ⟨a, rfl⟩
  have hvx : HVss us [x] [vx] := h72
  have hvx1 := h62 vx (List.mem_singleton.2 rfl)
  have hll : (l.take i ++ [x] ++ l.drop i).length = l.length + 1 := by simp; omega
  rcases g3 with ⟨rfl, rfl⟩ | ⟨h0, V, h4, h5, h6, h7⟩
  · have hi0 : i = 0 := by simpa using hi
    subst hi0
    refine hc0 vx (c2 - 0) q q2 u0 u (by simpa using h42) hvx1 _ (fun p3 c3 u' ho hx hf => ?_)
    obtain ⟨β', k1, k2⟩ := (h.drop id).newOwn (l := [x]) hx ho hf rfl (fun y hy => by simp at hy; subst hy; exact hvx1) hvx
    exact ⟨β', us, _, .rf ds.nx 0 1, k1, k2, hK⟩
  · have hq' : q = p := by rw [hq h0, addO]
    subst hq'
    have hVl := h7.length
    have hnep : NEP q q2 := fun a b ha hb' e => by
      subst ha; subst hb'
      refine h.dist id id2 _ _ a.block hne hlk hlk2 (by rw [hb, liveB_live h0]; rfl) (by rw [hb2, liveB_live h02, e]; rfl)
    refine hc V vx i l.length (c - 0) (c2 - 0) q q2 u0 u (by simpa using h4) hi (by simpa using h42) hvx1 h6 hnep hn _ (fun p' c' u' ho hs hf => ?_)
    have hcap' := ho.sl.cap
    have hsub : Sub us u' := hs.sub h.sub h5
    have hok : RowOk u0 u' us (upd β ds.nx (.arr p' c' sz)) (.arr p' c' sz) (.arr e sz (l.take i ++ [x] ++ l.drop i) false) := by
      refine ⟨p', c', rfl, by rw [hll]; exact hcap', .inr ⟨by omega, V.take i ++ [vx] ++ V.drop i, by rw [hll]; exact ho, fun a0 h00 => ?_, fun y hy => ?_, ((h7.take i).append hvx).append (h7.drop i)⟩⟩
      · rcases hf with rfl | hf
        · exact h5 a0 h00
        · exact Fresh.anti h.sub (hf a0 h00)
      · simp only [List.append_assoc, List.mem_append, List.mem_singleton] at hy
        rcases hy with hy | rfl | hy
        · exact h6 y (List.mem_of_mem_take hy)
        · exact hvx1
        · exact h6 y (List.mem_of_mem_drop hy)
    have ht := h.turn hlk hs (fun a ha => by rw [hb, liveB_live h0, ha]; rfl) (.arr p' c' sz) _ hok (fun b hb' => by
      rw [liveB_live (by omega)] at hb'
      obtain ⟨a0, h00, rfl⟩ := Option.map_eq_some_iff.1 hb'
      rcases hf with rfl | hf
      · exact .inl (by rw [hb, liveB_live h0, h00]; rfl)
      · exact .inr (hf a0 h00))
    refine ⟨_, us, _, .rf ds.nx 0 (l.length + 1), ht, ⟨p', c', sz, p', upd_eq _ _ _, rfl, by omega, fun _ => (addO p' sz).symm, fun hc => ?_⟩, hK⟩
    obtain ⟨g, cur, rfl, _⟩ := ho.none_iff hc
    rfl
end Go.Eng

/-
  Data level, part R: rows whose elements lead to rows become what nobody writes.
-/
set_option linter.unusedSimpArgs false
set_option linter.unusedVariables false
namespace Go.Eng

/-- Elements as they are, with rows as what nobody writes. -/
def embRows (H : List (Nat × Row)) (ids : List Nat) : List (List DV) → List (List DV) → Prop
  | [], y => y = []
  | cs :: l, y =>
    match y with
    | cs' :: m => (embDs H cs = some cs' ∧ noPts cs = true ∧ ∀ i ∈ idsDs H cs, i ∈ ids) ∧ embRows H ids l m
    | [] => False
theorem embRows_append {H : List (Nat × Row)} {ids : List Nat} : ∀ {a a' b b' : List (List DV)}, embRows H ids a a' → embRows H ids b b' → embRows H ids (a ++ b) (a' ++ b')
  | [], a', b, b', h, h' => by simp only [embRows] at h; subst h; exact h'
  | d :: l, [], b, b', h, _ => by simp [embRows] at h
  | d :: l, e :: m, b, b', h, h' => ⟨h.1, embRows_append h.2 h'⟩
theorem embRows_map {α : Type} {H : List (Nat × Row)} {ids : List Nat} {f : α → List DV} (h : ∀ x, embDs H (f x) = some (f x) ∧ noPts (f x) = true ∧ idsDs H (f x) = []) : ∀ (l : List α), embRows H ids (l.map f) (l.map f)
  | [] => rfl
  | x :: l => ⟨⟨(h x).1, (h x).2.1, fun i hi => by rw [(h x).2.2] at hi; cases hi⟩, embRows_map h l⟩
theorem embRows_set {H : List (Nat × Row)} {ids : List Nat} {c c' : List DV} (hc : embDs H c = some c' ∧ noPts c = true ∧ ∀ i ∈ idsDs H c, i ∈ ids) : ∀ {a a' : List (List DV)} (k : Nat), embRows H ids a a' → embRows H ids (a.set k c) (a'.set k c')
  | [], a', k, h => by simp only [embRows] at h; subst h; exact rfl
  | d :: l, [], k, h => by simp [embRows] at h
  | d :: l, e :: m, 0, h => ⟨hc, h.2⟩
  | d :: l, e :: m, k + 1, h => ⟨h.1, embRows_set hc k h.2⟩

theorem embRows_sound {us ws : World} {β : Nat → PB} {H : List (Nat × Row)} {ids : List Nat} (hus : Sub us ws) (hst : ∀ id ∈ ids, Stays ws H β id) : ∀ (l l' : List (List DV)) (V : List (List Value)), embRows H ids l l' → HVssB us β l V → HVss ws l' V
  | [], y, V, h, hv => by simp only [embRows] at h; subst h; exact hv
  | cs :: l, [], V, h, _ => by simp [embRows] at h
  | cs :: l, cs' :: m, V, h, ⟨v, V', h1, h2, h3⟩ => ⟨v, V', h1, embDs_sound hus cs cs' v (fun id hi => hst id (h.1.2.2 id hi)) (.inl h.1.2.1) h2 h.1.1, embRows_sound hus hst l m V' h.2 h3⟩
theorem embRows_length {H : List (Nat × Row)} {ids : List Nat} : ∀ {l l' : List (List DV)}, embRows H ids l l' → l'.length = l.length
  | [], y, h => by simp only [embRows] at h; subst h; rfl
  | cs :: l, [], h => by simp [embRows] at h
  | cs :: l, cs' :: m, h => by simp [embRows_length h.2]

theorem lk_roHs_nst {id e sz : Nat} {l : List (List DV)} : ∀ (ids : List Nat) {H : List (Nat × Row)}, lk H id = some (.nst e sz l) → lk (roHs ids H) id = some (.nst e sz l)
  | [], H, h => h
  | i :: r, H, h => by
    simp only [roHs]
    refine lk_roHs_nst r ?_
    rw [lk_roH, h]
    cases (id == i) <;> rfl

theorem Rel.frz {u0 u us : World} {β0 : Bse} {β : Nat → PB} {ds : DS} {s : S} (h : Rel u0 β0 β us ds s u) {id e sz : Nat} {l l' : List (List DV)} (ids : List Nat) (hlk : lk ds.H id = some (.nst e sz l)) (he : embRows ds.H ids l l') :
    ∃ us', Sub us us' ∧ Rel u0 β0 β us' ⟨ds.ρ, ds.σ, setH id (.arr e sz l' false) (roHs ids ds.H), ds.nx, ds.nb⟩ s u := by
  obtain ⟨us', g1, g2, g3⟩ := h.ros ids
  have hlk' : lk (ds.ros ids).H id = some (.nst e sz l) := lk_roHs_nst ids hlk
  have hle := embRows_length he
  obtain ⟨p, c, k1, k2, k3⟩ := (g2.row id _ hlk').2
  obtain ⟨p', c', j1, j2, j3⟩ := (h.row id _ hlk).2
  rw [k1] at j1
  cases j1
  refine ⟨us', g1, g2.set (r := .arr e sz l' false) (p := none) hlk' (SubX.of_sub (Sub.refl u)) (fun a ha => by cases ha) ⟨p, c, k1, by rw [hle]; exact k2, ?_⟩ ?_⟩
  · rcases k3 with ⟨h0, h00⟩ | ⟨h0, V, m1, m2, m3, m4⟩
    · exact .inl ⟨h0, List.eq_nil_of_length_eq_zero (by rw [hle, h00]; rfl)⟩
    · rcases j3 with ⟨h00, _⟩ | ⟨_, V', n1, n2, n3, n4⟩
      · exact absurd h00 h0
      · exact .inr ⟨h0, V', by rw [hle]; exact n1, m2, n3, embRows_sound g1 g3 l l' V' he n4⟩
  · rw [k1]
    by_cases h0 : c = 0
    · rw [liveB_zero h0, liveB_nst0 h0]
    · rw [liveB_live h0, liveB_nst h0]

/-- A contract's rows become what nobody writes. -/
theorem Con2.frz {P : Program} {f : FuncId} {args : List DV} {d : DV} {H : List (Nat × Row)} {nx id e sz : Nat} {l l' : List (List DV)} (ids : List Nat) (h : Con2 P f args (· = ⟨d, H, nx⟩)) (hlk : lk H id = some (.nst e sz l)) (he : embRows H ids l l') :
    Con2 P f args (· = ⟨d, setH id (.arr e sz l' false) (roHs ids H), nx⟩) := by
  intro u vs hv
  obtain ⟨hb, hc⟩ := h u vs hv
  refine ⟨hb, fun w hu => (hc w hu).mono ?_⟩
  rintro e' w' ⟨r, u', h1, h2, h3, r2, rfl, β, us, s, hr, hs⟩
  obtain ⟨us', g1, g2⟩ := hr.frz ids hlk he
  exact ⟨r, u', h1, h2, h3, _, rfl, β, us', s, g2, hs⟩
theorem Con2.le {P : Program} {f : FuncId} {args : List DV} {r r' : Res} (h : Con2 P f args (· = r)) (hle : leD (resS r'.d r'.H r'.nx) (resS r.d r.H r.nx)) : Con2 P f args (· = r') := by
  intro u vs hv
  obtain ⟨hb, hc⟩ := h u vs hv
  refine ⟨hb, fun w hu => (hc w hu).mono ?_⟩
  rintro e' w' ⟨rv, u', h1, h2, h3, r2, rfl, β, us, s, hr, hs⟩
  obtain ⟨β1, s1, g1, g2⟩ := hle _ _ _ _ _ _ hr
  have h3' := g2.slot 0
  obtain ⟨w0, e0, _⟩ : ∃ w, s1.get 0 = .v w ∧ HV us r'.d β1 w := h3'
  refine ⟨rv, u', h1, h2, h3, _, rfl, β1, us, s1, g2, ?_⟩
  rcases g1.get 0 with h4 | h4
  · rw [e0] at h4; cases h4
  · rw [← h4]; exact hs
end Go.Eng

/-
  Data level, part S: bits; slots alone; rows of a symbolic heap.
-/
set_option linter.unusedSimpArgs false
set_option linter.unusedVariables false
namespace Go.Eng

section
variable {P : Program} {T : TypeId} {y z : Operand} {Kv : Value → Prop} {k : IntKind}
theorem bin_and {a b : Int} : AtPure P (binS .and T y z (.int k a) (.int k b)) Kv = Kv (.int k (k.wrap (BitVec.ofInt k.bits a &&& BitVec.ofInt k.bits b).toNat)) := atPure_of fun w => by simp [binS, eqGuard, binOp, Op.intBits]
theorem bin_or {a b : Int} : AtPure P (binS .or T y z (.int k a) (.int k b)) Kv = Kv (.int k (k.wrap (BitVec.ofInt k.bits a ||| BitVec.ofInt k.bits b).toNat)) := atPure_of fun w => by simp [binS, eqGuard, binOp, Op.intBits]
theorem bin_xor {a b : Int} : AtPure P (binS .xor T y z (.int k a) (.int k b)) Kv = Kv (.int k (k.wrap (BitVec.ofInt k.bits a ^^^ BitVec.ofInt k.bits b).toNat)) := atPure_of fun w => by simp [binS, eqGuard, binOp, Op.intBits]
theorem wrap_u8 {n : Nat} (h : n < 256) : IntKind.u8.wrap (n : Int) = n := by
  simp only [IntKind.wrap, show IntKind.u8.bits = 8 from rfl, show IntKind.u8.signed = false from rfl, Bool.false_and, Bool.false_eq_true, if_false]
  omega
theorem wrap_u32 {n : Nat} (h : n < 4294967296) : IntKind.u32.wrap (n : Int) = n := by
  simp only [IntKind.wrap, show IntKind.u32.bits = 32 from rfl, show IntKind.u32.signed = false from rfl, Bool.false_and, Bool.false_eq_true, if_false]
  omega
theorem ofInt_u8 (a : UInt8) : BitVec.ofInt IntKind.u8.bits (a.toNat : Int) = a.toBitVec := by
  show BitVec.ofInt 8 (a.toNat : Int) = a.toBitVec
  rw [BitVec.ofInt_natCast]
  apply BitVec.eq_of_toNat_eq
  rw [BitVec.toNat_ofNat]
  exact Nat.mod_eq_of_lt (UInt8.toNat_lt a)
theorem xor_u8 {a b : UInt8} : AtPure P (binS .xor T y z (.int .u8 a.toNat) (.int .u8 b.toNat)) Kv = Kv (.int .u8 (a ^^^ b).toNat) := by
  rw [bin_xor, ofInt_u8, ofInt_u8, wrap_u8 (BitVec.isLt _)]
  rfl
/-- The lowest bit. -/
theorem and1_u32 {a : Nat} (h : a < 4294967296) : AtPure P (binS .and T y z (.int .u32 a) (.int .u32 1)) Kv = Kv (.int .u32 (a % 2 : Nat)) := by
  rw [bin_and, wrap_u32 (BitVec.isLt _)]
  congr 3
  show (BitVec.ofInt 32 (a : Int) &&& BitVec.ofInt 32 1).toNat = a % 2
  rw [BitVec.toNat_and, BitVec.ofInt_natCast, BitVec.toNat_ofNat, Nat.mod_eq_of_lt (by omega), show (BitVec.ofInt 32 1).toNat = 1 from rfl, Nat.and_one_is_mod]
theorem quo_i64 {a b : Int} (ha : 0 ≤ a) (ha2 : a ≤ 9223372036854775807) (hb : 0 < b) : AtPure P (binS .quo T y z (.int .i64 a) (.int .i64 b)) Kv = Kv (.int .i64 (a / b)) := by
  rw [bin_quo (by omega), Int.tdiv_eq_ediv_of_nonneg ha]
  have h1 : 0 ≤ a / b := Int.ediv_nonneg ha (by omega)
  have h2 : a / b ≤ a := Int.ediv_le_self b ha
  rw [arith_i64 ⟨by omega, by omega⟩]
theorem quo_u32 {a b : Int} (ha : 0 ≤ a) (ha2 : a ≤ 4294967295) (hb : 0 < b) : AtPure P (binS .quo T y z (.int .u32 a) (.int .u32 b)) Kv = Kv (.int .u32 (a / b)) := by
  rw [bin_quo (by omega), Int.tdiv_eq_ediv_of_nonneg ha]
  have h1 : 0 ≤ a / b := Int.ediv_nonneg ha (by omega)
  have h2 : a / b ≤ a := Int.ediv_le_self b ha
  rw [arith_u32 ⟨by omega, by omega⟩]
theorem rem_nn {a b : Int} (ha : 0 ≤ a) (hb : 0 < b) : AtPure P (binS .rem T y z (.int k a) (.int k b)) Kv = Kv (.int k (a % b)) := by
  rw [bin_rem (by omega), Int.tmod_eq_emod_of_nonneg ha]
theorem shl1_u8 {m : Int} {n : Nat} (hm : m = n) (hn : n < 8) : AtPure P (binS .shl T y z (.int .u8 1) (.int .i64 m)) Kv = Kv (.int .u8 (UInt8.ofNat (2 ^ n)).toNat) := by
  subst hm
  rw [bin_shl (by omega), show min (Int.toNat (n : Int)) IntKind.u8.bits = n from by show min (Int.toNat (n : Int)) 8 = n; simp; omega]
  have h1 : 2 ^ n < 256 := Nat.lt_of_le_of_lt (Nat.pow_le_pow_right (by decide) (show n ≤ 7 by omega)) (by decide)
  have h2 : ((UInt8.ofNat (2 ^ n)).toNat) = 2 ^ n := by rw [UInt8.toNat_ofNat']; exact Nat.mod_eq_of_lt h1
  rw [h2]
  have h3 : (1 : Int) * 2 ^ n = ((2 ^ n : Nat) : Int) := by simp
  rw [h3, arith_u8 ⟨by omega, by omega⟩]
end

theorem mk_str {l : List UInt8} : (ByteArray.mk l.toArray) = strB l := rfl
/-- Conversions between kinds of integers. -/
def CoI (k : Option IntKind) (P : Program) (src dst : TypeId) (v : Value) (a : Int) (Kv : Value → Prop) (ks : Option IntKind) : Prop :=
  match ks, k with
  | some _, some k => AtArith k a Kv
  | _, _ => AtPure P (iConv src dst v) Kv
theorem conv_i {P : Program} {src dst : TypeId} {k : IntKind} {a : Int} {Kv : Value → Prop} : AtPure P (iConv src dst (.int k a)) Kv = CoI (intK P dst) P src dst (.int k a) a Kv (intK P src) := by
  unfold CoI
  split
  · rename_i k1 k' hs hd
    exact atPure_of fun w => by simp [iConv, convert, run_underlying (intK_spec hs), run_underlying (intK_spec hd), Conv.intToInt]
  · rfl
theorem CoI_some {P : Program} {src dst : TypeId} {v : Value} {a : Int} {k' k2 : IntKind} {Kv : Value → Prop} : CoI (some k') P src dst v a Kv (some k2) = AtArith k' a Kv := rfl
attribute [go_sem] conv_i CoI_some
/-- Slots alone. -/
def eqR (ds1 ds : DS) : List (Nat × DSV) → Prop
  | [] => True
  | (t, _) :: l => (ds1.get t = .unk ∨ ds.get t = ds1.get t) ∧ eqR ds1 ds l
theorem eqR_get {ds1 ds : DS} : ∀ {l : List (Nat × DSV)}, eqR ds1 ds l → ∀ p ∈ l, ds1.get p.1 = .unk ∨ ds.get p.1 = ds1.get p.1
  | [], _, p, hp => by cases hp
  | (t, x) :: l, h, p, hp => by
    rcases List.mem_cons.1 hp with rfl | hp
    · exact h.1
    · exact eqR_get h.2 p hp
theorem leD_R {ds1 ds : DS} (h1 : eqR ds1 ds ds1.ρ) (h2 : ds1.σ = ds.σ) (h3 : ds1.H = ds.H) (h4 : ds1.nx = ds.nx) (h5 : ds1.nb = ds.nb) : leD ds1 ds :=
  leD_of_get (fun t => by
    cases hl : lk ds1.ρ t with
    | none => exact .inl (by unfold DS.get; rw [hl]; rfl)
    | some x => exact eqR_get h1 (t, x) (lk_some_mem hl)) h2 h3 h4 h5
theorem eqR_nil {ds1 ds : DS} : eqR ds1 ds [] = True := rfl
theorem eqR_cons {ds1 ds : DS} {t : Nat} {x : DSV} {l : List (Nat × DSV)} : eqR ds1 ds ((t, x) :: l) = ((ds1.get t = .unk ∨ ds.get t = ds1.get t) ∧ eqR ds1 ds l) := rfl
attribute [go_sem] eqR_nil eqR_cons

/-- Less may be known of arguments. -/
theorem Con2.args {P : Program} {f : FuncId} {fargs args : List DV} {Q : Res → Prop} (h : Con2 P f fargs Q) (hw : wkDs (fun _ => none) fargs args) : Con2 P f args Q := fun u vs hv => by
  have := wkDs_sound (us := u) (β := noB) fargs args vs hw hv
  exact h u vs this
def wkO (fargs : List DV) : Option (List DV) → Prop
  | some a => wkDs (fun _ => none) fargs a
  | none => False
theorem wkO_some {fargs a : List DV} : wkO fargs (some a) = wkDs (fun _ => none) fargs a := rfl
attribute [go_sem] wkO_some
theorem CallS.eqW {P : Program} {x : Bool} {f : FuncId} {args fargs : List DV} {r : Res} {K : DV → DS → Prop} {ds : DS} (hc : Con2 P f fargs (· = r)) (he : wkO fargs (embDs ds.H args))
    (hp : noPts args = true ∨ plainD r.d = true) (hk : K (bif plainD r.d then r.d else shD ds.nx r.d) (aftC ds args r)) : CallS P x f args ds K := by
  cases ha : embDs ds.H args with
  | none => rw [ha] at he; exact he.elim
  | some a => rw [ha] at he; exact CallS.eq (hc.args he) ha hp hk

/-- A contract's result as nobody writes it any more. -/
theorem Con2.emb {P : Program} {f : FuncId} {args : List DV} {d d' : DV} {H : List (Nat × Row)} {nx : Nat} (h : Con2 P f args (· = ⟨d, H, nx⟩)) (he : embD H d = some d') (hp : noPt d = true) : Con2 P f args (· = plR d') := by
  intro u vs hv
  obtain ⟨hb, hc⟩ := h u vs hv
  refine ⟨hb, fun w hu => (hc w hu).mono ?_⟩
  rintro e' w' ⟨r, u', h1, h2, h3, r2, rfl, β, us, s, hr, hs⟩
  obtain ⟨us', g1, g2, g3⟩ := hr.ros (idsD H d)
  have h0 := hr.slot 0
  rw [hs] at h0
  obtain ⟨w0, e0, hd⟩ : ∃ w, SV.v r = .v w ∧ HV us d β w := h0
  cases e0
  have h4 := embD_sound (H := H) g1 d d' r g3 (.inl hp) hd he
  refine ⟨r, u', h1, h2, h3, _, rfl, noB, us', ⟨[(0, .v r)], []⟩, ⟨⟨hr.base.1.trans g1, hr.base.2.trans g1⟩, g2.sub, fun t => ?_, fun k => rfl, (fun id r hr => by cases hr), fun id _ => rfl, fun id hi => rfl, Nat.le_refl _, (fun i j ri rj b _ hi => by cases hi)⟩, rfl⟩
  show HS us' noB ((lk [(0, DSV.d d')] t).getD DSV.unk) ((lk [(0, SV.v r)] t).getD SV.unk)
  by_cases e : 0 = t
  · subst e; exact ⟨r, rfl, h4⟩
  · rw [lk_cons_ne e]; trivial

theorem setH_self {id : Nat} {r : Row} : ∀ {H : List (Nat × Row)}, lk H id = some r → setH id r H = H
  | [], h => by cases h
  | (i, q) :: l, h => by
    by_cases e : i = id
    · subst e
      rw [lk_cons_eq] at h
      cases h
      simp [setH]
    · have hb : (i == id) = false := by simpa using e
      simp only [setH, hb, cond_false]
      rw [lk_cons_ne e] at h
      rw [setH_self h]
theorem setH_setH {id : Nat} {r r' : Row} : ∀ {H : List (Nat × Row)}, setH id r (setH id r' H) = setH id r H
  | [] => rfl
  | (i, q) :: l => by
    by_cases e : i = id
    · subst e; simp [setH]
    · have hb : (i == id) = false := by simpa using e
      simp only [setH, hb, cond_false, setH_setH]
theorem lk_setH_eq {id : Nat} {r q : Row} {H : List (Nat × Row)} (h : lk H id = some q) : lk (setH id r H) id = some r := by rw [lk_setH h, if_pos rfl]
theorem shDss_map {α : Type} {n : Nat} {f : α → List DV} (h : ∀ x, shDs n (f x) = f x) (l : List α) : (l.map f).map (shDs n) = l.map f := by
  rw [List.map_map]; congr 1; funext x; exact h x
end Go.Eng

/-
  Data level, part T: steps of a walk as theorems, whose small proofs Lean finds by itself.
-/
set_option linter.unusedSimpArgs false
set_option linter.unusedVariables false
namespace Go.Eng

/-- What is left to show. -/
structure Lft (q : Prop) : Prop where
  out : q
/-- On, as far as it goes. -/
theorem go_ {p q : Prop} (k : q) (e : Lft q → p := by intro k; (repeat (first | (simp -implicitDefEqProofs only [go_sem, vc2_blk]) | (with_reducible refine leK2_refl ?_) | (with_reducible refine ar_i64 (by omega) ?_) | (with_reducible refine And.intro (by omega) ?_))); exact k.out) : p := e ⟨k⟩
/-- .. with facts. -/
theorem gof {p q f : Prop} (hf : f) (k : q) (e : f → Lft q → p := by intro hf k; (repeat (first | (simp -implicitDefEqProofs only [go_sem, vc2_blk, hf]) | (with_reducible refine leK2_refl ?_) | (with_reducible refine ar_i64 (by omega) ?_) | (with_reducible refine And.intro (by omega) ?_))); exact k.out) : p := e hf ⟨k⟩

section
variable {P : Program} {x : Bool} {f : FuncId} {args fargs : List DV} {r : Res} {K : DV → DS → Prop} {ds : DS}
/-- A call by a contract, and on. -/
theorem cl {q : Prop} (hc : Con2 P f fargs (· = r)) (k : q) (he : embDs ds.H args = some fargs := by (simp -implicitDefEqProofs only [go_sem])) (hp : noPts args = true ∨ plainD r.d = true := by first | exact .inl rfl | exact .inr rfl)
    (e : Lft q → K (bif plainD r.d then r.d else shD ds.nx r.d) (aftC ds args r) := by intro k; (repeat (first | (simp -implicitDefEqProofs only [go_sem, vc2_blk]) | (with_reducible refine leK2_refl ?_) | (with_reducible refine ar_i64 (by omega) ?_) | (with_reducible refine And.intro (by omega) ?_))); exact k.out) : CallS P x f args ds K := CallS.eq hc he hp (e ⟨k⟩)
theorem clf {q g : Prop} (hg : g) (hc : Con2 P f fargs (· = r)) (k : q) (he : g → embDs ds.H args = some fargs := by intro hg; (simp -implicitDefEqProofs only [go_sem, hg])) (hp : noPts args = true ∨ plainD r.d = true := by first | exact .inl rfl | exact .inr rfl)
    (e : g → Lft q → K (bif plainD r.d then r.d else shD ds.nx r.d) (aftC ds args r) := by intro hg k; (repeat (first | (simp -implicitDefEqProofs only [go_sem, vc2_blk, hg]) | (with_reducible refine leK2_refl ?_) | (with_reducible refine ar_i64 (by omega) ?_) | (with_reducible refine And.intro (by omega) ?_))); exact k.out) : CallS P x f args ds K := CallS.eq hc (he hg) hp (e hg ⟨k⟩)
end

section
variable {P : Program} {Q : Exit → DS → Prop} {ds : DS} {a b : Code} {c : Bool}
/-- The way that is gone. -/
theorem cT {q : Prop} (k : q) (h : c = true := by first | rfl | exact decide_eq_true (by omega) | (simp; done) | (simp; omega)) (e : Lft q → vc2 P a Q ds := by intro k; (repeat (first | (simp -implicitDefEqProofs only [go_sem, vc2_blk]) | (with_reducible refine leK2_refl ?_) | (with_reducible refine ar_i64 (by omega) ?_) | (with_reducible refine And.intro (by omega) ?_))); exact k.out) : CondK2 P (.d (.v (.bool c))) a b Q ds := by
  subst h; rw [CondK2_true]; exact e ⟨k⟩
theorem cF {q : Prop} (k : q) (h : c = false := by first | rfl | exact decide_eq_false (by omega) | (simp; done) | (simp; omega)) (e : Lft q → vc2 P b Q ds := by intro k; (repeat (first | (simp -implicitDefEqProofs only [go_sem, vc2_blk]) | (with_reducible refine leK2_refl ?_) | (with_reducible refine ar_i64 (by omega) ?_) | (with_reducible refine And.intro (by omega) ?_))); exact k.out) : CondK2 P (.d (.v (.bool c))) a b Q ds := by
  subst h; rw [CondK2_false]; exact e ⟨k⟩
variable {x : Bool} {o : Oper} {K : DS → Prop} {w : Bool}
/-- What is guarded is done; is not done. -/
theorem gD {q : Prop} (k : q) (h : c = w := by first | rfl | exact decide_eq_true (by omega) | exact decide_eq_false (by omega) | (simp; done) | (simp; omega)) (e : Lft q → vcOp2 P x o K ds := by intro k; (repeat (first | (simp -implicitDefEqProofs only [go_sem, vc2_blk]) | (with_reducible refine leK2_refl ?_) | (with_reducible refine ar_i64 (by omega) ?_) | (with_reducible refine And.intro (by omega) ?_))); exact k.out) : GuardV2 P x o K ds w (.d (.v (.bool c))) := by
  subst h; exact ⟨fun _ => e ⟨k⟩, fun h => absurd h (by cases c <;> simp)⟩
theorem gN {q : Prop} (k : q) (h : c = !w := by first | rfl | exact decide_eq_true (by omega) | exact decide_eq_false (by omega) | (simp; done) | (simp; omega)) (e : Lft q → K (ds.put o.dst (.d undefD)) := by intro k; (repeat (first | (simp -implicitDefEqProofs only [go_sem, vc2_blk]) | (with_reducible refine leK2_refl ?_) | (with_reducible refine ar_i64 (by omega) ?_) | (with_reducible refine And.intro (by omega) ?_))); exact k.out) : GuardV2 P x o K ds w (.d (.v (.bool c))) := by
  subst h; exact ⟨fun h => absurd h (by cases w <;> simp), fun _ => e ⟨k⟩⟩
end

/-- A function is entered. -/
theorem ent_ {P : Program} {f : FuncId} {args : List DV} {Q : Res → Prop} {q : Prop} {fn : Func} {c : Code} (hm : P.follows .mixedOrders = true) (hf : P.funcs[f]? = some fn) (rs : List ResultVar) (k : q) (hb : fn.body = some c := by rfl) (hbody : hasBody P f = true := by kernel_rfl)
    (hfit : fits fn.ntmps c = true := by kernel_rfl) (hn : Nat.ble args.length fn.ntmps = true := by rfl) (hrs : fn.results.toList = rs := by rfl)
    (e : Lft q → vc2 P c (RetK2 P rs Q) ⟨initD 0 args, [], [], 0, 0⟩ := by intro k; (repeat (first | (simp -implicitDefEqProofs only [go_sem, vc2_blk]) | (with_reducible refine leK2_refl ?_) | (with_reducible refine ar_i64 (by omega) ?_) | (with_reducible refine And.intro (by omega) ?_))); exact k.out) : Con2 P f args Q :=
  con2_of hm hf hb hbody hfit hn rs hrs (e ⟨k⟩)
/-- .. walked in place. -/
theorem inl_ {P : Program} {f : FuncId} {args : List DV} {K : DV → DS → Prop} {ds : DS} {q : Prop} {fn : Func} {c : Code} (hm : P.follows .mixedOrders = true) (hf : P.funcs[f]? = some fn) (rs : List ResultVar) (k : q) (hb : fn.body = some c := by rfl) (hbody : hasBody P f = true := by kernel_rfl)
    (hfit : fits fn.ntmps c = true := by kernel_rfl) (hn : Nat.ble args.length fn.ntmps = true := by rfl) (hrs : fn.results.toList = rs := by rfl)
    (e : Lft q → vc2 P c (RetI P rs ds K) ⟨initD 0 args, [], ds.H, ds.nx, ds.nx⟩ := by intro k; (repeat (first | (simp -implicitDefEqProofs only [go_sem, vc2_blk]) | (with_reducible refine leK2_refl ?_) | (with_reducible refine ar_i64 (by omega) ?_) | (with_reducible refine And.intro (by omega) ?_))); exact k.out) : CallS P false f args ds K :=
  CallS.inline hm hf hb hbody hfit hn rs hrs (Vc2.of (e ⟨k⟩))
/-- Less may be said: what Lean sees by itself. -/
theorem l2 {ds1 ds : DS} (ι : List (Nat × Rn)) (h : ds1.nb = ds.nb ∧ ds1.nb ≤ ds1.nx ∧ wkKeys ds1.nb ds1.nx ι = true ∧ wkInj (rnOf ι ds1.nx) ds1.H = true ∧ wkR (rnOf ι ds1.nx) ds1 ds ds1.ρ ∧ wkL (rnOf ι ds1.nx) ds1 ds ds1.σ ∧ wkH (rnOf ι ds1.nx) ds1 ds ds1.H := by
    (simp -implicitDefEqProofs only [go_sem]; done)) : leD ds1 ds := le2_of ι h
/-- A region with several orders, whose ends are joined: 'pre' is what it makes. -/
theorem join_ {P : Program} {ops : Array Oper} {K : DS → Prop} {ds : DS} (t : OT) (pre : List (Nat × DSV)) {q : Prop} (hw : vcT2 P ops.toList (fun d => leD ⟨pre ++ ds.ρ, ds.σ, ds.H, ds.nx, ds.nb⟩ d) t ds) (k : q) (ht : okTreeF ops t = true := by kernel_rfl)
    (e : Lft q → K ⟨pre ++ ds.ρ, ds.σ, ds.H, ds.nx, ds.nb⟩ := by intro k; (repeat (first | (simp -implicitDefEqProofs only [go_sem, vc2_blk, List.cons_append, List.nil_append]) | (with_reducible refine leK2_refl ?_) | (with_reducible refine ar_i64 (by omega) ?_) | (with_reducible refine And.intro (by omega) ?_))); exact k.out) : AtDraw2 P ops K ds :=
  .inr (.inl ⟨t, ht, vcT2_mono (fun d hd => .inr ⟨_, hd, e ⟨k⟩⟩) t ds hw⟩)

/-- .. with local variables that it makes. -/
theorem joinL_ {P : Program} {ops : Array Oper} {K : DS → Prop} {ds : DS} (t : OT) (pre : List (Nat × DSV)) (loc : List (Nat × DLoc)) {q : Prop} (hw : vcT2 P ops.toList (fun d => leD ⟨pre ++ ds.ρ, loc ++ ds.σ, ds.H, ds.nx, ds.nb⟩ d) t ds) (k : q) (ht : okTreeF ops t = true := by kernel_rfl)
    (e : Lft q → K ⟨pre ++ ds.ρ, loc ++ ds.σ, ds.H, ds.nx, ds.nb⟩ := by intro k; (repeat (first | (simp -implicitDefEqProofs only [go_sem, vc2_blk, List.cons_append, List.nil_append]) | (with_reducible refine leK2_refl ?_) | (with_reducible refine ar_i64 (by omega) ?_) | (with_reducible refine And.intro (by omega) ?_))); exact k.out) : AtDraw2 P ops K ds :=
  .inr (.inl ⟨t, ht, vcT2_mono (fun d hd => .inr ⟨_, hd, e ⟨k⟩⟩) t ds hw⟩)

/-- Ways of an 'if' that are joined: 'pre', 'loc' are what they make, 'H' the rows behind them. -/
def JoinC (st : DS) (Q : Exit → DS → Prop) (e : Exit) (ds : DS) : Prop :=
  match e with
  | .normal => leD st ds
  | e => Q e ds
theorem JoinC_normal {st ds : DS} {Q : Exit → DS → Prop} : JoinC st Q .normal ds = leD st ds := rfl
theorem JoinC_ret {st ds : DS} {Q : Exit → DS → Prop} : JoinC st Q .ret ds = Q .ret ds := rfl
theorem JoinC_exit {st ds : DS} {Q : Exit → DS → Prop} {j : Nat} : JoinC st Q (.exit j) ds = Q (.exit j) ds := rfl
attribute [go_sem] JoinC_normal JoinC_ret JoinC_exit
theorem joinI_ {P : Program} {Q : Exit → DS → Prop} {ds : DS} {a b y : Code} {c : Bool} (pre : List (Nat × DSV)) (loc : List (Nat × DLoc)) (H : List (Nat × Row)) (nx : Nat)
    (hT : c = true → vc2 P a (JoinC ⟨pre ++ ds.ρ, loc ++ ds.σ, H, nx, ds.nb⟩ Q) ds) (hF : c = false → vc2 P b (JoinC ⟨pre ++ ds.ρ, loc ++ ds.σ, H, nx, ds.nb⟩ Q) ds) {q : Prop} (k : q)
    (e : Lft q → vc2 P y Q ⟨pre ++ ds.ρ, loc ++ ds.σ, H, nx, ds.nb⟩ := by intro k; (repeat (first | (simp -implicitDefEqProofs only [go_sem, vc2_blk, List.cons_append, List.nil_append]) | (with_reducible refine leK2_refl ?_) | (with_reducible refine ar_i64 (by omega) ?_) | (with_reducible refine And.intro (by omega) ?_))); exact k.out) : CondK2 P (.d (.v (.bool c))) a b (SeqK2 P true y Q) ds := by
  have key : ∀ x, vc2 P x (JoinC ⟨pre ++ ds.ρ, loc ++ ds.σ, H, nx, ds.nb⟩ Q) ds → vc2 P x (SeqK2 P true y Q) ds := fun x hx => vc2_monoS x _ _ ds (fun e' d hd => by
    cases e' with
    | normal => exact .inr ⟨_, hd, e ⟨k⟩⟩
    | _ => exact hd) hx
  cases c with
  | true => rw [CondK2_true]; exact key _ (hT rfl)
  | false => rw [CondK2_false]; exact key _ (hF rfl)

/-- The end. -/
theorem fin_ {Q : Res → Prop} {r : Res} {ds : DS} (ι : List (Nat × Rn)) (hQ : Q r) (h : leD (resS r.d r.H r.nx) ds) : ∃ r, Q r ∧ leD (resS r.d r.H r.nx) ds := ⟨r, hQ, h⟩
end Go.Eng
