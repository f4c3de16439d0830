/-
  Engine, part J: copy, append of zeros, overlaps.
-/
import Derived.Test.YtcaobkpfafcnjaaEi
import Derived.Lib.Overlaps
set_option linter.unusedSimpArgs false
set_option linter.unusedVariables false
namespace Go.Eng

theorem cutP_lt {g o c l sz : Nat} (h : l < c) : cutP (some ⟨g, o, none⟩) c l sz = some ⟨g, o + l * sz, none⟩ := by
  unfold cutP
  rw [if_neg (by omega)]
  simp [Addr.add_lit]

/-- copy(d, s) into a block of the call's own, cell by cell. -/
theorem eff_copy {P : Program} {T T2 e sz bytes ty : Nat} (hT : elemT P T e sz bytes = true) {u0 u : World} {g o dl dc : Nat} {a : Addr} {sl sc : Nat} {cur : Array Value} {e' : TypeId} {news : List Value}
    (hg : u.heap[g]? = some (.cells cur e' (0, 0))) (hf : Fresh u0 g) (hlen : news.length = Nat.min sl dl * sz) (hsrc : ∀ j v, news[j]? = some v → u.cell? (a.add j) = some v)
    (h1 : ∀ v ∈ news, v.oneCell' = true) (hfit : o + news.length ≤ cur.size) {K : Value → World → Prop}
    (hK : ∀ u', u'.heap[g]? = some (.cells (cur.toList.take o ++ news ++ cur.toList.drop (o + news.length)).toArray e' (0, 0)) → SubX (some ⟨g, 0, none⟩) u u' → K (.int .i64 (Nat.min sl dl : Nat)) u') :
    AtEff false P (bCopy #[T, T2] ty #[.slice (some ⟨g, o, none⟩) dl dc, .slice (some a) sl sc]) u0 u K := by
  obtain ⟨ht, hsz, i, z, hi, rfl, rfl, hz, hzs⟩ := elemT_spec hT
  unfold bCopy
  intro w hu h0
  have hgw := hu g _ hg cells_ne_junk
  have hld := run_loadCells_list (P := P) w a news (fun j v hv => hu.cell (hsrc j v hv))
  have hst := run_storeCells_at P g o e' news 0 cur w hgw (by simpa using hfit) h1
  simp only [Nat.add_zero] at hst
  refine ⟨.int .i64 (Nat.min sl dl : Nat), _, _, ?_, step_set (cs := (cur.toList.take o ++ news ++ cur.toList.drop (o + news.length)).toArray) hu hg hf, hK _ (learn_at _ _ _) (learn_subX rfl)⟩
  rw [hlen] at hld
  simp only [Nat.min_def] at hld ⊢
  simp [Builtin.copy_, run_underlying ht, Builtin.lenOf, Builtin.firstCells, sizeOf, typeInfo, hi, hld, hst, goInt, Nat.min_def]

theorem zeroCells_flatten (z : Array Value) (n : Nat) : (Builtin.zeroCells z n).toList = (List.replicate n z.toList).flatten := by
  have hfl : (List.replicate n z.toList).flatten.length = n * z.size := by
    rw [flatten_length (sz := z.size) _ (by intro x hx; rw [(List.mem_replicate.1 hx).2]; simp), List.length_replicate]
  apply List.ext_getElem?
  intro j
  by_cases hj : j < n * z.size
  · have hs : 0 < z.size := by
      rcases Nat.eq_zero_or_pos z.size with h | h
      · rw [h] at hj; omega
      · exact h
    have hm := Nat.mod_lt j hs
    have hd : j / z.size < n := (Nat.div_lt_iff_lt_mul hs).2 hj
    have h1 := flatten_at (sz := z.size) (List.replicate n z.toList) (by intro x hx; rw [(List.mem_replicate.1 hx).2]; simp) (j / z.size) z.toList (by simp [hd]) (j % z.size) z[j % z.size] (by simp [hm])
    rw [Nat.mul_comm, Nat.div_add_mod] at h1
    rw [h1]
    simp [Builtin.zeroCells, hj, hm]
  · rw [List.getElem?_eq_none (by simp [Builtin.zeroCells]; omega), List.getElem?_eq_none (by rw [hfl]; omega)]

/-- append(s, make([]T, m)...) where it must grow. -/
theorem eff_append_zeros {P : Program} {T T2 e sz bytes ty : Nat} (hT : elemT P T e sz bytes = true) {k2 : IntKind} (h2 : intK P T2 = some k2) {z : List Value} (hz0 : zeroOf P e = some z) {u0 u : World} {p : Option Addr} {n c : Nat} {k : IntKind} {m : Int}
    {xs : List (List Value)} (hs : Sl u sz p n c xs) (hm : 0 < m) (hgrow : c < n + m.toNat) (hb : (n + m.toNat) * bytes ≤ 140737488355328) (hmax : n + m.toNat ≤ 9223372036854775807) {K : Value → World → Prop}
    (hK : ∀ p' c' u', Own u0 u' e sz p' (n + m.toNat) c' (xs ++ List.replicate m.toNat z) → Sub u u' → FreshP u p' → K (.slice p' (n + m.toNat) c') u') :
    AtEff false P (bApp #[T, T2] ty #[.slice p n c, .int k m]) u0 u K := by
  obtain ⟨ht, hsz, i, zv, hi, rfl, rfl, hz, hzs⟩ := elemT_spec hT
  have hzz : zv.cells.toList = z := by simp [zeroOf, hi, hz] at hz0; exact hz0
  unfold bApp
  intro w hu h0
  obtain ⟨q, hq⟩ : ∃ q : Nat, m = q := ⟨m.toNat, by omega⟩
  subst hq
  simp only [Int.toNat_natCast] at *
  have hw : IntKind.i64.wrap (q : Int) = q := IntWalk.i64_in _ (by omega)
  have hn : ¬ (n + q ≤ c) := by omega
  have hq0 : ¬ (q = 0) := by omega
  have h63' : ¬ (9223372036854775807 < ((n : Int) + (q : Int))) := by omega
  have hgs := growslice_fits (need := n + q) (old := c) (by omega) hb
  have h48' : ¬ (281474976710656 < Builtin.nextslicecap (n + q) c * i.bytes) := by omega
  have hqb : ¬ ((281474976710656 : Int) < (q : Int) * (i.bytes : Int)) := by
    have : q * i.bytes ≤ (n + q) * i.bytes := Nat.mul_le_mul_right _ (by omega)
    have h3 : q * i.bytes ≤ 140737488355328 := Nat.le_trans this hb
    have h4 : ((q * i.bytes : Nat) : Int) ≤ 140737488355328 := by omega
    rw [Int.natCast_mul] at h4
    omega
  have hneg : ¬ ((q : Int) < 0) := by omega
  have hqs : ¬ (q * i.size = 0) := by
    intro h
    rcases Nat.mul_eq_zero.1 h with h | h <;> omega
  have hfl : xs.flatten.length = n * i.size := by rw [flatten_length xs hs.each, hs.len]
  have hfirst : (Builtin.firstCells i.size n (.slice p n c)).run P w.drew = .ok xs.flatten.toArray w.drew := by
    cases p with
    | none =>
      obtain ⟨rfl, rfl⟩ := hs.nil rfl
      have : xs = [] := List.eq_nil_of_length_eq_zero hs.len
      subst this
      simp [Builtin.firstCells]
    | some a =>
      have := run_loadCells_list (P := P) w.drew a xs.flatten (fun j v hv => hu.cell (hs.cells j v hv))
      rw [hfl] at this
      simpa [Builtin.firstCells] using this
  have hge := grownCap_ge w (n + q) c e
  have hrun : (Builtin.append_ #[T, T2] ty #[.slice p n c, .int k (q : Int)]).run P w = .ok (.slice (some ⟨w.heap.size, 0, none⟩) (n + q) (grownCap w (n + q) c e))
      (w.drew.alloc (.cells (xs.flatten.toArray ++ Builtin.zeroCells zv.cells q ++ Builtin.zeroCells zv.cells (grownCap w (n + q) c e - (n + q))) e)) := by
    simp [Builtin.append_, run_underlying ht, run_underlying (intK_spec h2), sizeOf, typeInfo, zeroValue, hi, hz, asInt, asIntOf, hw, hqb, hn, h63', h48', hq0, hneg, hfirst, hqs, Question.forced, newRow, grownCap]
    try (congr 2; apply Array.ext'; simp [List.append_assoc])
  refine ⟨_, _, _, hrun, step_new hu rfl, hK _ _ _ ⟨by simp [hs.len], ?_, .inr ⟨w.heap.size, _, rfl, learn_at _ _ _, hge, grownCap_le_maxLen w (n + q) c e (by simp only [maxLen]; omega), ?_, ?_, fresh_of_ge h0 (Nat.le_refl _)⟩⟩ (learn_sub (fresh_of_ge hu (Nat.le_refl _))) (fun a ha => by cases ha; exact fresh_of_ge hu (Nat.le_refl _))⟩
  · intro x hx
    rcases List.mem_append.1 hx with hx | hx
    · exact hs.each x hx
    · rw [(List.mem_replicate.1 hx).2, ← hzz]; simpa using hzs
  · simp only [Array.size_append, List.size_toArray, size_zeroCells, hzs, hfl, ← Nat.add_mul]
    congr 1
    omega
  · simp only [Array.toList_append, zeroCells_flatten, hzz]
    rw [List.flatten_append]
    have hl2 : (xs.flatten ++ (List.replicate q z).flatten).length = (n + q) * i.size := by
      rw [List.length_append, hfl, flatten_length (sz := i.size) _ (by intro x hx; rw [(List.mem_replicate.1 hx).2, ← hzz]; simpa using hzs), List.length_replicate, Nat.add_mul]
    rw [← hl2]
    exact List.take_left

/-- slices.overlaps of two slices in two blocks. -/
theorem ext_overlaps {P : Program} {f : FuncId} {T R e sz bytes : Nat} (hT : elemT P T e sz bytes = true) (hf : extOf P f = some (Extern.SlicesOverlaps.overlaps #[T, T] #[R])) {x : Bool} {u0 u : World} {a b : Addr} {la ca lb cb : Nat} {cA cB : Array Value} {tA tB : TypeId}
    (hne : a.block ≠ b.block) (hA : u.heap[a.block]? = some (.cells cA tA (0, 0))) (hB : u.heap[b.block]? = some (.cells cB tB (0, 0))) (hk : cB.size ≠ 0) {K : Value → World → Prop} (hK : K (.bool false) u) :
    AtCall x P f [.slice (some a) la ca, .slice (some b) lb cb] u0 u K := by
  obtain ⟨ht, hsz, i, zv, hi, rfl, rfl, hz, hzs⟩ := elemT_spec hT
  refine .inr ⟨_, hf, fun w hu h0 => ?_⟩
  have hAw := hu _ _ hA cells_ne_junk
  have hBw := hu _ _ hB cells_ne_junk
  have hr := Lib.run_overlaps_apart (P := P) w T R e ht i.size (fun w => by simp [sizeOf, typeInfo, hi]) a b la ca lb cb hne tA tB cA.size cB.size (by simp [World.shape?, hAw]) (by simp [World.shape?, hBw]) hk
    (by simp [World.frozen?, hAw]) (by simp [World.frozen?, hAw])
  exact ⟨_, w, u, hr, ⟨hu, fun b o h => .inl h, fun b _ h => h, ⟨Nat.le_refl _, rfl, rfl⟩⟩, hK⟩


section
variable {P : Program} {Kv : Value → Prop} {T e sz bytes : Nat} {p : Option Addr} {n c : Nat} {k : IntKind} {i : Int}
theorem slice_toE (hT : elemT P T e sz bytes = true) (h0 : 0 ≤ i) (h1 : i ≤ c) : AtPure P (iSlice T (.slice p n c) none (some (.int k i)) none) Kv = Kv (.slice p i.toNat c) := by
  obtain ⟨ht, hsz, info, z, hi, rfl, rfl, hz, hzs⟩ := elemT_spec hT
  exact slice_to ht hi h0 h1
theorem slice_fromE (hT : elemT P T e sz bytes = true) (h0 : 0 ≤ i) (h1 : i ≤ n) : AtPure P (iSlice T (.slice p n c) (some (.int k i)) none none) Kv = Kv (.slice (cutP p c i.toNat sz) (n - i.toNat) (c - i.toNat)) := by
  obtain ⟨ht, hsz, info, z, hi, rfl, rfl, hz, hzs⟩ := elemT_spec hT
  exact slice_from ht hi h0 h1
end

theorem Sl.subX {u u' : World} {sz : Nat} {p q : Option Addr} {n c : Nat} {xs : List (List Value)} (hs : SubX q u u') (hne : ∀ a b, p = some a → q = some b → a.block ≠ b.block) (h : Sl u sz p n c xs) : Sl u' sz p n c xs :=
  ⟨h.len, h.cap, h.each, h.nil, fun a ha => ⟨(h.at_ a ha).1, fun i x hx j v hv => by
    obtain ⟨c', t, f, hb, hsp, hv'⟩ := cell?_some ((h.at_ a ha).2 i x hx j v hv)
    exact cell?_of (hs _ _ (fun b hq => hne a b ha hq) hb cells_ne_junk) hv'⟩⟩

/-- The cells behind the element's insertion, in place. -/
theorem ins_in {l A B x : List Value} {a s b : Nat} (hA : l.take a = A) (ha : A.length = a) (hx : x.length = s) (hB : B.length = b) (hl : a + s + b ≤ l.length) :
    ((l.take (a + s) ++ B ++ l.drop (a + s + b)).take a ++ x ++ (l.take (a + s) ++ B ++ l.drop (a + s + b)).drop (a + s)).take (a + s + b) = A ++ x ++ B := by
  have e1 : (l.take (a + s) ++ B ++ l.drop (a + s + b)).take a = A := by
    rw [List.append_assoc, List.take_append_of_le_length (by simp; omega), List.take_take, Nat.min_eq_left (by omega)]; exact hA
  have e2 : (l.take (a + s) ++ B ++ l.drop (a + s + b)).drop (a + s) = B ++ l.drop (a + s + b) := by
    rw [List.append_assoc]
    apply List.drop_left'
    simp; omega
  rw [e1, e2, ← List.append_assoc]
  apply List.take_left'
  simp; omega

/-- The cells behind the element's insertion, in a new block. -/
theorem ins_new {l A B x : List Value} {a s b : Nat} (hA : l.take a = A) (ha : A.length = a) (hx : x.length = s) (hB : B.length = b) (hl : a + s + b ≤ l.length) :
    ((l.take a ++ x ++ l.drop (a + s)).take (a + s) ++ B ++ (l.take a ++ x ++ l.drop (a + s)).drop (a + s + b)).take (a + s + b) = A ++ x ++ B := by
  have e1 : (l.take a ++ x ++ l.drop (a + s)).take (a + s) = A ++ x := by
    rw [hA]
    apply List.take_left'
    simp; omega
  rw [e1]
  apply List.take_left'
  simp; omega


theorem Own.one {u0 u : World} {e sz : Nat} {q : Option Addr} {x : List Value} (h : Own u0 u e sz q 1 1 [x]) : ∃ g, q = some ⟨g, 0, none⟩ ∧ u.heap[g]? = some (.cells x.toArray e (0, 0)) := by
  rcases h.at_ with ⟨_, h1, _⟩ | ⟨g, cur, rfl, hg, h1, h2, h3, h4, h5⟩
  · omega
  · refine ⟨g, rfl, ?_⟩
    rw [hg]
    congr 2
    apply Array.ext'
    rw [List.take_of_length_le (by simp [h3])] at h4
    simpa using h4

end Go.Eng
