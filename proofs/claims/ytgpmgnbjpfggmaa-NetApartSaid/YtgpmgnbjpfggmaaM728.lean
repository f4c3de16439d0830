/-
  Part 28 of the proof of M7: the engine and the walks, in their order.
-/
import Derived.Test.YtgpmgnbjpfggmaaM724
set_option linter.unusedSimpArgs false
set_option linter.unusedVariables false
/-
  Data level, part R: rows whose elements lead to rows become what nobody writes.
-/
set_option linter.unusedSimpArgs false
set_option linter.unusedVariables false
namespace Go.Eng

/-- Elements as they are, with rows as what nobody writes. -/
def embRows (H : List (Nat × Row)) (ids : List Nat) : List (List DV) → List (List DV) → Prop
  | [], y => y = []
  | cs :: l, y =>
    match y with
    | cs' :: m => (embDs H cs = some cs' ∧ noPts cs = true ∧ ∀ i ∈ idsDs H cs, i ∈ ids) ∧ embRows H ids l m
    | [] => False
theorem embRows_append {H : List (Nat × Row)} {ids : List Nat} : ∀ {a a' b b' : List (List DV)}, embRows H ids a a' → embRows H ids b b' → embRows H ids (a ++ b) (a' ++ b')
  | [], a', b, b', h, h' => by simp only [embRows] at h; subst h; exact h'
  | d :: l, [], b, b', h, _ => by simp [embRows] at h
  | d :: l, e :: m, b, b', h, h' => ⟨h.1, embRows_append h.2 h'⟩
theorem embRows_map {α : Type} {H : List (Nat × Row)} {ids : List Nat} {f : α → List DV} (h : ∀ x, embDs H (f x) = some (f x) ∧ noPts (f x) = true ∧ idsDs H (f x) = []) : ∀ (l : List α), embRows H ids (l.map f) (l.map f)
  | [] => rfl
  | x :: l => ⟨⟨(h x).1, (h x).2.1, fun i hi => by rw [(h x).2.2] at hi; cases hi⟩, embRows_map h l⟩
theorem embRows_set {H : List (Nat × Row)} {ids : List Nat} {c c' : List DV} (hc : embDs H c = some c' ∧ noPts c = true ∧ ∀ i ∈ idsDs H c, i ∈ ids) : ∀ {a a' : List (List DV)} (k : Nat), embRows H ids a a' → embRows H ids (a.set k c) (a'.set k c')
  | [], a', k, h => by simp only [embRows] at h; subst h; exact rfl
  | d :: l, [], k, h => by simp [embRows] at h
  | d :: l, e :: m, 0, h => ⟨hc, h.2⟩
  | d :: l, e :: m, k + 1, h => ⟨h.1, embRows_set hc k h.2⟩

theorem embRows_sound {us ws : World} {β : Nat → PB} {H : List (Nat × Row)} {ids : List Nat} (hus : Sub us ws) (hst : ∀ id ∈ ids, Stays ws H β id) : ∀ (l l' : List (List DV)) (V : List (List Value)), embRows H ids l l' → HVssB us β l V → HVss ws l' V
  | [], y, V, h, hv => by simp only [embRows] at h; subst h; exact hv
  | cs :: l, [], V, h, _ => by simp [embRows] at h
  | cs :: l, cs' :: m, V, h, ⟨v, V', h1, h2, h3⟩ => ⟨v, V', h1, embDs_sound hus cs cs' v (fun id hi => hst id (h.1.2.2 id hi)) (.inl h.1.2.1) h2 h.1.1, embRows_sound hus hst l m V' h.2 h3⟩
theorem embRows_length {H : List (Nat × Row)} {ids : List Nat} : ∀ {l l' : List (List DV)}, embRows H ids l l' → l'.length = l.length
  | [], y, h => by simp only [embRows] at h; subst h; rfl
  | cs :: l, [], h => by simp [embRows] at h
  | cs :: l, cs' :: m, h => by simp [embRows_length h.2]

theorem lk_roHs_nst {id e sz : Nat} {l : List (List DV)} : ∀ (ids : List Nat) {H : List (Nat × Row)}, lk H id = some (.nst e sz l) → lk (roHs ids H) id = some (.nst e sz l)
  | [], H, h => h
  | i :: r, H, h => by
    simp only [roHs]
    refine lk_roHs_nst r ?_
    rw [lk_roH, h]
    cases (id == i) <;> rfl

theorem Rel.frz {u0 u us : World} {β0 : Bse} {β : Nat → PB} {ds : DS} {s : S} (h : Rel u0 β0 β us ds s u) {id e sz : Nat} {l l' : List (List DV)} (ids : List Nat) (hlk : lk ds.H id = some (.nst e sz l)) (he : embRows ds.H ids l l') :
    ∃ us', Sub us us' ∧ Rel u0 β0 β us' ⟨ds.ρ, ds.σ, setH id (.arr e sz l' false) (roHs ids ds.H), ds.nx, ds.nb⟩ s u := by
  obtain ⟨us', g1, g2, g3⟩ := h.ros ids
  have hlk' : lk (ds.ros ids).H id = some (.nst e sz l) := lk_roHs_nst ids hlk
  have hle := embRows_length he
  obtain ⟨p, c, k1, k2, k3⟩ := (g2.row id _ hlk').2
  obtain ⟨p', c', j1, j2, j3⟩ := (h.row id _ hlk).2
  rw [k1] at j1
  cases j1
  refine ⟨us', g1, g2.set (r := .arr e sz l' false) (p := none) hlk' (SubX.of_sub (Sub.refl u)) (fun a ha => by cases ha) ⟨p, c, k1, by rw [hle]; exact k2, ?_⟩ ?_⟩
  · rcases k3 with ⟨h0, h00⟩ | ⟨h0, V, m1, m2, m3, m4⟩
    · exact .inl ⟨h0, List.eq_nil_of_length_eq_zero (by rw [hle, h00]; rfl)⟩
    · rcases j3 with ⟨h00, _⟩ | ⟨_, V', n1, n2, n3, n4⟩
      · exact absurd h00 h0
      · exact .inr ⟨h0, V', by rw [hle]; exact n1, m2, n3, embRows_sound g1 g3 l l' V' he n4⟩
  · rw [k1]
    by_cases h0 : c = 0
    · rw [liveB_zero h0, liveB_nst0 h0]
    · rw [liveB_live h0, liveB_nst h0]

/-- A contract's rows become what nobody writes. -/
theorem Con2.frz {P : Program} {f : FuncId} {args : List DV} {d : DV} {H : List (Nat × Row)} {nx id e sz : Nat} {l l' : List (List DV)} (ids : List Nat) (h : Con2 P f args (· = ⟨d, H, nx⟩)) (hlk : lk H id = some (.nst e sz l)) (he : embRows H ids l l') :
    Con2 P f args (· = ⟨d, setH id (.arr e sz l' false) (roHs ids H), nx⟩) := by
  intro u vs hv
  obtain ⟨hb, hc⟩ := h u vs hv
  refine ⟨hb, fun w hu => (hc w hu).mono ?_⟩
  rintro e' w' ⟨r, u', h1, h2, h3, r2, rfl, β, us, s, hr, hs⟩
  obtain ⟨us', g1, g2⟩ := hr.frz ids hlk he
  exact ⟨r, u', h1, h2, h3, _, rfl, β, us', s, g2, hs⟩
theorem Con2.le {P : Program} {f : FuncId} {args : List DV} {r r' : Res} (h : Con2 P f args (· = r)) (hle : leD (resS r'.d r'.H r'.nx) (resS r.d r.H r.nx)) : Con2 P f args (· = r') := by
  intro u vs hv
  obtain ⟨hb, hc⟩ := h u vs hv
  refine ⟨hb, fun w hu => (hc w hu).mono ?_⟩
  rintro e' w' ⟨rv, u', h1, h2, h3, r2, rfl, β, us, s, hr, hs⟩
  obtain ⟨β1, s1, g1, g2⟩ := hle _ _ _ _ _ _ hr
  have h3' := g2.slot 0
  obtain ⟨w0, e0, _⟩ : ∃ w, s1.get 0 = .v w ∧ HV us r'.d β1 w := h3'
  refine ⟨rv, u', h1, h2, h3, _, rfl, β1, us, s1, g2, ?_⟩
  rcases g1.get 0 with h4 | h4
  · rw [e0] at h4; cases h4
  · rw [← h4]; exact hs
end Go.Eng

/-
  Data level, part S: bits; slots alone; rows of a symbolic heap.
-/
set_option linter.unusedSimpArgs false
set_option linter.unusedVariables false
namespace Go.Eng

section
variable {P : Program} {T : TypeId} {y z : Operand} {Kv : Value → Prop} {k : IntKind}
theorem bin_and {a b : Int} : AtPure P (binS .and T y z (.int k a) (.int k b)) Kv = Kv (.int k (k.wrap (BitVec.ofInt k.bits a &&& BitVec.ofInt k.bits b).toNat)) := atPure_of fun w => by simp [binS, eqGuard, binOp, Op.intBits]
theorem bin_or {a b : Int} : AtPure P (binS .or T y z (.int k a) (.int k b)) Kv = Kv (.int k (k.wrap (BitVec.ofInt k.bits a ||| BitVec.ofInt k.bits b).toNat)) := atPure_of fun w => by simp [binS, eqGuard, binOp, Op.intBits]
theorem bin_xor {a b : Int} : AtPure P (binS .xor T y z (.int k a) (.int k b)) Kv = Kv (.int k (k.wrap (BitVec.ofInt k.bits a ^^^ BitVec.ofInt k.bits b).toNat)) := atPure_of fun w => by simp [binS, eqGuard, binOp, Op.intBits]
theorem wrap_u8 {n : Nat} (h : n < 256) : IntKind.u8.wrap (n : Int) = n := by
  simp only [IntKind.wrap, show IntKind.u8.bits = 8 from rfl, show IntKind.u8.signed = false from rfl, Bool.false_and, Bool.false_eq_true, if_false]
  omega
theorem wrap_u32 {n : Nat} (h : n < 4294967296) : IntKind.u32.wrap (n : Int) = n := by
  simp only [IntKind.wrap, show IntKind.u32.bits = 32 from rfl, show IntKind.u32.signed = false from rfl, Bool.false_and, Bool.false_eq_true, if_false]
  omega
theorem ofInt_u8 (a : UInt8) : BitVec.ofInt IntKind.u8.bits (a.toNat : Int) = a.toBitVec := by
  show BitVec.ofInt 8 (a.toNat : Int) = a.toBitVec
  rw [BitVec.ofInt_natCast]
  apply BitVec.eq_of_toNat_eq
  rw [BitVec.toNat_ofNat]
  exact Nat.mod_eq_of_lt (UInt8.toNat_lt a)
theorem xor_u8 {a b : UInt8} : AtPure P (binS .xor T y z (.int .u8 a.toNat) (.int .u8 b.toNat)) Kv = Kv (.int .u8 (a ^^^ b).toNat) := by
  rw [bin_xor, ofInt_u8, ofInt_u8, wrap_u8 (BitVec.isLt _)]
  rfl
/-- The lowest bit. -/
theorem and1_u32 {a : Nat} (h : a < 4294967296) : AtPure P (binS .and T y z (.int .u32 a) (.int .u32 1)) Kv = Kv (.int .u32 (a % 2 : Nat)) := by
  rw [bin_and, wrap_u32 (BitVec.isLt _)]
  congr 3
  show (BitVec.ofInt 32 (a : Int) &&& BitVec.ofInt 32 1).toNat = a % 2
  rw [BitVec.toNat_and, BitVec.ofInt_natCast, BitVec.toNat_ofNat, Nat.mod_eq_of_lt (by omega), show (BitVec.ofInt 32 1).toNat = 1 from rfl, Nat.and_one_is_mod]
theorem quo_i64 {a b : Int} (ha : 0 ≤ a) (ha2 : a ≤ 9223372036854775807) (hb : 0 < b) : AtPure P (binS .quo T y z (.int .i64 a) (.int .i64 b)) Kv = Kv (.int .i64 (a / b)) := by
  rw [bin_quo (by omega), Int.tdiv_eq_ediv_of_nonneg ha]
  have h1 : 0 ≤ a / b := Int.ediv_nonneg ha (by omega)
  have h2 : a / b ≤ a := Int.ediv_le_self b ha
  rw [arith_i64 ⟨by omega, by omega⟩]
theorem quo_u32 {a b : Int} (ha : 0 ≤ a) (ha2 : a ≤ 4294967295) (hb : 0 < b) : AtPure P (binS .quo T y z (.int .u32 a) (.int .u32 b)) Kv = Kv (.int .u32 (a / b)) := by
  rw [bin_quo (by omega), Int.tdiv_eq_ediv_of_nonneg ha]
  have h1 : 0 ≤ a / b := Int.ediv_nonneg ha (by omega)
  have h2 : a / b ≤ a := Int.ediv_le_self b ha
  rw [arith_u32 ⟨by omega, by omega⟩]
theorem rem_nn {a b : Int} (ha : 0 ≤ a) (hb : 0 < b) : AtPure P (binS .rem T y z (.int k a) (.int k b)) Kv = Kv (.int k (a % b)) := by
  rw [bin_rem (by omega), Int.tmod_eq_emod_of_nonneg ha]
theorem shl1_u8 {m : Int} {n : Nat} (hm : m = n) (hn : n < 8) : AtPure P (binS .shl T y z (.int .u8 1) (.int .i64 m)) Kv = Kv (.int .u8 (UInt8.ofNat (2 ^ n)).toNat) := by
  subst hm
  rw [bin_shl (by omega), show min (Int.toNat (n : Int)) IntKind.u8.bits = n from by show min (Int.toNat (n : Int)) 8 = n; simp; omega]
  have h1 : 2 ^ n < 256 := Nat.lt_of_le_of_lt (Nat.pow_le_pow_right (by decide) (show n ≤ 7 by omega)) (by decide)
  have h2 : ((UInt8.ofNat (2 ^ n)).toNat) = 2 ^ n := by rw [UInt8.toNat_ofNat']; exact Nat.mod_eq_of_lt h1
  rw [h2]
  have h3 : (1 : Int) * 2 ^ n = ((2 ^ n : Nat) : Int) := by simp
  rw [h3, arith_u8 ⟨by omega, by omega⟩]
end

theorem mk_str {l : List UInt8} : (ByteArray.mk l.toArray) = strB l := rfl
/-- Conversions between kinds of integers. -/
def CoI (k : Option IntKind) (P : Program) (src dst : TypeId) (v : Value) (a : Int) (Kv : Value → Prop) (ks : Option IntKind) : Prop :=
  match ks, k with
  | some _, some k => AtArith k a Kv
  | _, _ => AtPure P (iConv src dst v) Kv
theorem conv_i {P : Program} {src dst : TypeId} {k : IntKind} {a : Int} {Kv : Value → Prop} : AtPure P (iConv src dst (.int k a)) Kv = CoI (intK P dst) P src dst (.int k a) a Kv (intK P src) := by
  unfold CoI
  split
  · rename_i k1 k' hs hd
    exact atPure_of fun w => by simp [iConv, convert, run_underlying (intK_spec hs), run_underlying (intK_spec hd), Conv.intToInt]
  · rfl
theorem CoI_some {P : Program} {src dst : TypeId} {v : Value} {a : Int} {k' k2 : IntKind} {Kv : Value → Prop} : CoI (some k') P src dst v a Kv (some k2) = AtArith k' a Kv := rfl
attribute [go_sem] conv_i CoI_some
/-- Slots alone. -/
def eqR (ds1 ds : DS) : List (Nat × DSV) → Prop
  | [] => True
  | (t, _) :: l => (ds1.get t = .unk ∨ ds.get t = ds1.get t) ∧ eqR ds1 ds l
theorem eqR_get {ds1 ds : DS} : ∀ {l : List (Nat × DSV)}, eqR ds1 ds l → ∀ p ∈ l, ds1.get p.1 = .unk ∨ ds.get p.1 = ds1.get p.1
  | [], _, p, hp => by cases hp
  | (t, x) :: l, h, p, hp => by
    rcases List.mem_cons.1 hp with rfl | hp
    · exact h.1
    · exact eqR_get h.2 p hp
theorem leD_R {ds1 ds : DS} (h1 : eqR ds1 ds ds1.ρ) (h2 : ds1.σ = ds.σ) (h3 : ds1.H = ds.H) (h4 : ds1.nx = ds.nx) (h5 : ds1.nb = ds.nb) : leD ds1 ds :=
  leD_of_get (fun t => by
    cases hl : lk ds1.ρ t with
    | none => exact .inl (by unfold DS.get; rw [hl]; rfl)
    | some x => exact eqR_get h1 (t, x) (lk_some_mem hl)) h2 h3 h4 h5
theorem eqR_nil {ds1 ds : DS} : eqR ds1 ds [] = True := rfl
theorem eqR_cons {ds1 ds : DS} {t : Nat} {x : DSV} {l : List (Nat × DSV)} : eqR ds1 ds ((t, x) :: l) = ((ds1.get t = .unk ∨ ds.get t = ds1.get t) ∧ eqR ds1 ds l) := rfl
attribute [go_sem] eqR_nil eqR_cons

/-- Less may be known of arguments. -/
theorem Con2.args {P : Program} {f : FuncId} {fargs args : List DV} {Q : Res → Prop} (h : Con2 P f fargs Q) (hw : wkDs (fun _ => none) fargs args) : Con2 P f args Q := fun u vs hv => by
  have := wkDs_sound (us := u) (β := noB) fargs args vs hw hv
  exact h u vs this
def wkO (fargs : List DV) : Option (List DV) → Prop
  | some a => wkDs (fun _ => none) fargs a
  | none => False
theorem wkO_some {fargs a : List DV} : wkO fargs (some a) = wkDs (fun _ => none) fargs a := rfl
attribute [go_sem] wkO_some
theorem CallS.eqW {P : Program} {x : Bool} {f : FuncId} {args fargs : List DV} {r : Res} {K : DV → DS → Prop} {ds : DS} (hc : Con2 P f fargs (· = r)) (he : wkO fargs (embDs ds.H args))
    (hp : noPts args = true ∨ plainD r.d = true) (hk : K (bif plainD r.d then r.d else shD ds.nx r.d) (aftC ds args r)) : CallS P x f args ds K := by
  cases ha : embDs ds.H args with
  | none => rw [ha] at he; exact he.elim
  | some a => rw [ha] at he; exact CallS.eq (hc.args he) ha hp hk

/-- A contract's result as nobody writes it any more. -/
theorem Con2.emb {P : Program} {f : FuncId} {args : List DV} {d d' : DV} {H : List (Nat × Row)} {nx : Nat} (h : Con2 P f args (· = ⟨d, H, nx⟩)) (he : embD H d = some d') (hp : noPt d = true) : Con2 P f args (· = plR d') := by
  intro u vs hv
  obtain ⟨hb, hc⟩ := h u vs hv
  refine ⟨hb, fun w hu => (hc w hu).mono ?_⟩
  rintro e' w' ⟨r, u', h1, h2, h3, r2, rfl, β, us, s, hr, hs⟩
  obtain ⟨us', g1, g2, g3⟩ := hr.ros (idsD H d)
  have h0 := hr.slot 0
  rw [hs] at h0
  obtain ⟨w0, e0, hd⟩ : ∃ w, SV.v r = .v w ∧ HV us d β w := h0
  cases e0
  have h4 := embD_sound (H := H) g1 d d' r g3 (.inl hp) hd he
  refine ⟨r, u', h1, h2, h3, _, rfl, noB, us', ⟨[(0, .v r)], []⟩, ⟨⟨hr.base.1.trans g1, hr.base.2.trans g1⟩, g2.sub, fun t => ?_, fun k => rfl, (fun id r hr => by cases hr), fun id _ => rfl, fun id hi => rfl, Nat.le_refl _, (fun i j ri rj b _ hi => by cases hi)⟩, rfl⟩
  show HS us' noB ((lk [(0, DSV.d d')] t).getD DSV.unk) ((lk [(0, SV.v r)] t).getD SV.unk)
  by_cases e : 0 = t
  · subst e; exact ⟨r, rfl, h4⟩
  · rw [lk_cons_ne e]; trivial

theorem setH_self {id : Nat} {r : Row} : ∀ {H : List (Nat × Row)}, lk H id = some r → setH id r H = H
  | [], h => by cases h
  | (i, q) :: l, h => by
    by_cases e : i = id
    · subst e
      rw [lk_cons_eq] at h
      cases h
      simp [setH]
    · have hb : (i == id) = false := by simpa using e
      simp only [setH, hb, cond_false]
      rw [lk_cons_ne e] at h
      rw [setH_self h]
theorem setH_setH {id : Nat} {r r' : Row} : ∀ {H : List (Nat × Row)}, setH id r (setH id r' H) = setH id r H
  | [] => rfl
  | (i, q) :: l => by
    by_cases e : i = id
    · subst e; simp [setH]
    · have hb : (i == id) = false := by simpa using e
      simp only [setH, hb, cond_false, setH_setH]
theorem lk_setH_eq {id : Nat} {r q : Row} {H : List (Nat × Row)} (h : lk H id = some q) : lk (setH id r H) id = some r := by rw [lk_setH h, if_pos rfl]
theorem shDss_map {α : Type} {n : Nat} {f : α → List DV} (h : ∀ x, shDs n (f x) = f x) (l : List α) : (l.map f).map (shDs n) = l.map f := by
  rw [List.map_map]; congr 1; funext x; exact h x
end Go.Eng
