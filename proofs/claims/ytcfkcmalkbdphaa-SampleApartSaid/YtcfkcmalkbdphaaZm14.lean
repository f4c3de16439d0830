/-
  Part 14 of the proof of Zm: the engine and the walks, in their order.
-/
import Derived.Test.YtcfkcmalkbdphaaZm12
set_option linter.unusedSimpArgs false
set_option linter.unusedVariables false
/-
  Engine, part O: cuts of slices by two and three bounds; deleting from a slice of one's own; clear.
-/
set_option linter.unusedSimpArgs false
set_option linter.unusedVariables false
namespace Go.Eng

section
variable {P : Program} {Kv : Value → Prop} {T e sz bytes : Nat} {p : Option Addr} {n c : Nat} {k k2 k3 : IntKind}
theorem slice_loHi {lo hi : Int} {l h : Nat} (hT : elemT P T e sz bytes = true) (hl : lo = (l : Nat)) (hh : hi = (h : Nat)) (h1 : l ≤ h) (h2 : h ≤ c) :
    AtPure P (iSlice T (.slice p n c) (some (.int k lo)) (some (.int k2 hi)) none) Kv = Kv (.slice (cutP p c l sz) (h - l) (c - l)) := by
  obtain ⟨ht, hsz, info, z, hi', rfl, rfl, hz, hzs⟩ := elemT_spec hT
  subst hl
  subst hh
  exact atPure_of fun w => by
    have a1 : (0 : Int) ≤ (h : Int) ∧ (h : Int) ≤ (c : Int) := by omega
    have a2 : (0 : Int) ≤ (l : Int) ∧ (l : Int) ≤ (h : Int) := by omega
    simp [iSlice, Instr.sliceAt, Instr.slice, Instr.sliceBounds, Instr.sliceBound, run_underlying ht, asIntOf, sizeOf, typeInfo, hi', cutP, h1, h2]
theorem slice_3 {lo hi mx : Int} {l h m : Nat} (hT : elemT P T e sz bytes = true) (hl : lo = (l : Nat)) (hh : hi = (h : Nat)) (hm : mx = (m : Nat)) (h1 : l ≤ h) (h2 : h ≤ m) (h3 : m ≤ c) :
    AtPure P (iSlice T (.slice p n c) (some (.int k lo)) (some (.int k2 hi)) (some (.int k3 mx))) Kv = Kv (.slice (cutP p m l sz) (h - l) (m - l)) := by
  obtain ⟨ht, hsz, info, z, hi', rfl, rfl, hz, hzs⟩ := elemT_spec hT
  subst hl
  subst hh
  subst hm
  exact atPure_of fun w => by
    simp [iSlice, Instr.sliceAt, Instr.slice, Instr.sliceBounds, Instr.sliceBound, run_underlying ht, asIntOf, sizeOf, typeInfo, hi', cutP, h1, h2, h3]
end

theorem Own.take {u0 u : World} {e sz : Nat} {p : Option Addr} {n c : Nat} {xs : List (List Value)} (h : Own u0 u e sz p n c xs) {k : Nat} (hk : k ≤ n) : Own u0 u e sz p k c (xs.take k) := by
  have hl := h.len
  refine ⟨by simp; omega, fun x hx => h.each x (List.mem_of_mem_take hx), ?_⟩
  rcases h.at_ with ⟨h1, h2, h3⟩ | ⟨g, cur, h1, h2, h3, h4, h5, h6, h7⟩
  · exact .inl ⟨h1, by omega, h3⟩
  · refine .inr ⟨g, cur, h1, h2, by omega, h4, h5, ?_, h7⟩
    have e1 : cur.toList.take (k * sz) = (cur.toList.take (n * sz)).take (k * sz) := by
      rw [List.take_take, Nat.min_eq_left (Nat.mul_le_mul_right _ hk)]
    rw [e1, h6]
    have hfl : (xs.take k).flatten.length = k * sz := by
      rw [flatten_length (sz := sz) _ (fun x hx => h.each x (List.mem_of_mem_take hx))]
      rw [List.length_take, Nat.min_eq_left (by omega)]
    conv => lhs; rw [← List.take_append_drop k xs, List.flatten_append]
    rw [List.take_append_of_le_length (by omega), List.take_of_length_le (by omega)]

/-- append(s, t...) where there is room: in place. -/
theorem eff_append_room {P : Program} {T e sz bytes ty : Nat} (hT : elemT P T e sz bytes = true) {u0 u : World} {p q : Option Addr} {n c m d : Nat} {xs ys : List (List Value)}
    (ho : Own u0 u e sz p n c xs) (hs : Sl u sz q m d ys) (h1 : allOnes ys) (hroom : n + m ≤ c) {K : Value → World → Prop}
    (hK : ∀ u', Own u0 u' e sz p (n + m) c (xs ++ ys) → SubX p u u' → K (.slice p (n + m) c) u') :
    AtEff false P (bApp #[T, T] ty #[.slice p n c, .slice q m d]) u0 u K := by
  obtain ⟨ht, hsz, i, z, hi, rfl, rfl, hz, hzs⟩ := elemT_spec hT
  unfold bApp
  intro w hu h0
  have hlen : (xs ++ ys).length = n + m := by rw [List.length_append, ho.len, hs.len]
  have heach : ∀ x ∈ xs ++ ys, x.length = i.size := fun x hx => (List.mem_append.1 hx).elim (ho.each x) (hs.each x)
  have hfl : (xs ++ ys).flatten = xs.flatten ++ ys.flatten := by simp
  have hnews : ys.flatten.length = m * i.size := by rw [flatten_length ys hs.each, hs.len]
  have holds : xs.flatten.length = n * i.size := by rw [flatten_length xs ho.each, ho.len]
  cases q with
  | none =>
    obtain ⟨rfl, rfl⟩ := hs.nil rfl
    have hys : ys = [] := List.eq_nil_of_length_eq_zero hs.len
    subst hys
    have hcap : n ≤ c := ho.sl.cap
    refine ⟨.slice p n c, w, u, ?_, ⟨hu, fun b o h => .inl h, fun b _ h => h, ⟨Nat.le_refl _, rfl, rfl⟩⟩, ?_⟩
    · cases p with
      | none => simp [Builtin.append_, run_underlying ht, sizeOf, typeInfo, hi, Builtin.lenOf, Builtin.firstCells, hcap]
      | some a => simp [Builtin.append_, run_underlying ht, sizeOf, typeInfo, hi, Builtin.lenOf, Builtin.firstCells, hcap, storeCells]
    · have := hK u (by simpa using ho) (SubX.of_sub (Sub.refl u))
      simpa using this
  | some a =>
    have hcells : ∀ j v, ys.flatten[j]? = some v → w.cell? (a.add j) = some v := fun j v hv => hu.cell (hs.cells j v hv)
    rcases ho.at_ with ⟨rfl, rfl, rfl⟩ | ⟨g, cur, rfl, hg, hnc, hcm, hcs, htake, hfr⟩
    · have hm0 : m = 0 := by omega
      subst hm0
      have hxs : xs = [] := List.eq_nil_of_length_eq_zero ho.len
      subst hxs
      have hys : ys = [] := List.eq_nil_of_length_eq_zero hs.len
      subst hys
      refine ⟨.slice none 0 0, w, u, ?_, ⟨hu, fun b o h => .inl h, fun b _ h => h, ⟨Nat.le_refl _, rfl, rfl⟩⟩, ?_⟩
      · simp [Builtin.append_, run_underlying ht, sizeOf, typeInfo, hi, Builtin.lenOf, Builtin.firstCells, loadCells, loadCellsFrom]
      · exact hK u (Own.nil_ _ _ _ _) (SubX.of_sub (Sub.refl u))
    · have hgw := hu g _ hg cells_ne_junk
      have hfit : n * i.size + ys.flatten.length ≤ cur.size := by rw [hnews, hcs, ← Nat.add_mul]; exact Nat.mul_le_mul_right _ hroom
      have hr := run_append_room (P := P) w T ty e i ht hi g n c cur hgw a m d ys.flatten hnews hcells (allOnes_flatten h1) hroom hfit
      refine ⟨_, _, _, hr, step_set hu hg hfr, hK _ ⟨hlen, heach, .inr ⟨g, _, rfl, learn_at _ _ _, hroom, hcm, ?_, ?_, hfr⟩⟩ (learn_subX rfl)⟩
      · simp only [List.size_toArray, List.length_append, List.length_take, List.length_drop, Array.length_toList]
        omega
      · simp only []
        rw [htake, hfl, Nat.add_mul, ← holds, ← hnews, ← List.length_append]
        exact List.take_left

theorem zeros_one {z : Array Value} (hz : ∀ v ∈ z.toList, v.oneCell' = true) (n : Nat) : ∀ v ∈ (Builtin.zeroCells z n).toList, v.oneCell' = true := by
  intro v hv
  rw [zeroCells_flatten] at hv
  obtain ⟨l, hl, hv⟩ := List.mem_flatten.1 hv
  rw [(List.mem_replicate.1 hl).2] at hv
  exact hz v hv

/-- clear(s[m:old]) behind the end of a slice of one's own. -/
theorem own_clear {P : Program} {T e sz bytes ty : Nat} (hT : elemT P T e sz bytes = true) {z : List Value} (hz0 : zeroOf P e = some z) (hz1 : allOne z = true) {u0 u : World} {p : Option Addr} {m c old : Nat} {xs : List (List Value)}
    (ho : Own u0 u e sz p m c xs) (h1 : m ≤ old) (h2 : old ≤ c) {K : Value → World → Prop} (hK : ∀ u', Own u0 u' e sz p m c xs → SubX p u u' → K (.tuple #[]) u') :
    AtEff false P (bClr #[T] ty #[.slice (cutP p c m sz) (old - m) (c - m)]) u0 u K := by
  obtain ⟨ht, hsz, i, zv, hi, rfl, rfl, hz, hzs⟩ := elemT_spec hT
  have hzz : zv.cells.toList = z := by
    simp only [zeroOf, hi, hz, Option.map_some, Option.some.injEq] at hz0
    exact hz0
  unfold bClr
  intro w hu h0
  by_cases hmo : old = m
  · subst hmo
    refine ⟨.tuple #[], w, u, ?_, ⟨hu, fun b o h => .inl h, fun b _ h => h, ⟨Nat.le_refl _, rfl, rfl⟩⟩, hK u ho (SubX.of_sub (Sub.refl u))⟩
    simp only [Nat.sub_self]
    cases cutP p c old i.size with
    | none => simp [Builtin.clear_, run_underlying ht]
    | some a => simp [Builtin.clear_, run_underlying ht]
  · rcases ho.at_ with ⟨rfl, rfl, rfl⟩ | ⟨g, cur, rfl, hg, hnc, hcm, hcs, htake, hfr⟩
    · omega
    · have hgw := hu g _ hg cells_ne_junk
      have hcut : cutP (some ⟨g, 0, none⟩) c m i.size = some ⟨g, m * i.size, none⟩ := by rw [cutP_lt (by omega)]; simp
      rw [hcut]
      have hnl : (Builtin.zeroCells zv.cells (old - m)).toList.length = (old - m) * i.size := by
        rw [zeroCells_flatten, flatten_length (sz := i.size) _ (by intro x hx; rw [(List.mem_replicate.1 hx).2]; simpa using hzs)]
        simp
      have hfit : m * i.size + (Builtin.zeroCells zv.cells (old - m)).toList.length ≤ cur.size := by
        rw [hnl, hcs, ← Nat.add_mul]
        exact Nat.mul_le_mul_right _ (by omega)
      have hst := run_storeCells_at P g (m * i.size) e (Builtin.zeroCells zv.cells (old - m)).toList 0 cur w hgw (by simpa using hfit) (zeros_one (by rw [hzz]; exact allOne_mem hz1) _)
      simp only [Nat.add_zero] at hst
      obtain ⟨j, hj⟩ : ∃ j, old - m = j + 1 := ⟨old - m - 1, by omega⟩
      refine ⟨.tuple #[], _, _, ?_, step_set (cs := (cur.toList.take (m * i.size) ++ (Builtin.zeroCells zv.cells (old - m)).toList ++ cur.toList.drop (m * i.size + (Builtin.zeroCells zv.cells (old - m)).toList.length)).toArray) hu hg hfr,
        hK _ ⟨ho.len, ho.each, .inr ⟨g, _, rfl, learn_at _ _ _, hnc, hcm, ?_, ?_, hfr⟩⟩ (learn_subX rfl)⟩
      · rw [hj] at hst ⊢
        simp [Builtin.clear_, run_underlying ht, zeroValue, typeInfo, hi, hz, hst]
      · simp only [List.size_toArray, List.length_append, List.length_take, List.length_drop, Array.length_toList]
        rw [Array.length_toList] at hfit
        omega
      · simp only []
        rw [List.append_assoc, List.take_append_of_le_length (by rw [List.length_take, Array.length_toList, hcs]; have := Nat.mul_le_mul_right i.size hnc; omega), List.take_take, Nat.min_self]
        exact htake

end Go.Eng
