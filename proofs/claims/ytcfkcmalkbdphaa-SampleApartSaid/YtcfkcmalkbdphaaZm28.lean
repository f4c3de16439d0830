/-
  Part 28 of the proof of Zm: the engine and the walks, in their order.
-/
import Derived.Test.YtcfkcmalkbdphaaZm19
import Derived.Test.YtcfkcmalkbdphaaZm27
set_option linter.unusedSimpArgs false
set_option linter.unusedVariables false
/-
  The walk of DescBounds.
-/
set_option linter.unusedSimpArgs false
set_option linter.unusedVariables false
namespace Go.Eng
def enc8 (b : UInt8) : List Value := [.int .u8 b.toNat]
end Go.Eng
namespace Go.Proofs.Ytcfkcmalkbdphaa
open Go.Eng
attribute [local go_sem] GSpan.val GSpan.enc PD.val PD.enc enc8

theorem small_of {l : List PD} {m : List PD} {x : PD} {u : World} {k : Nat} (h : ∀ d ∈ ds m, d ∈ ds l ∨ d = x.d) (hm : ∀ y ∈ m, Fl u y) (hl : ∀ y ∈ l, y.d.filter.length ≤ k) (hx : x.d.filter.length ≤ k) : ∀ y ∈ m, y.n ≤ k := by
  intro y hy
  rw [← (hm y hy).len]
  rcases h y.d (List.mem_map_of_mem hy) with h1 | h1
  · obtain ⟨z, hz, e⟩ := List.mem_map.1 h1
    rw [← e]; exact hl z hz
  · rw [h1]; exact hx

/-- A view in memory, small. -/
structure VL (u : World) (me : UInt8) (N : Nat) (g : Option Addr × Nat × Nat) (l : List PD) : Prop where
  dl : DL u g.1 g.2.1 g.2.2 l
  vw : Vw me (ds l)
  len : g.2.1 ≤ N
  small : ∀ d ∈ ds l, d.filter.length ≤ 8

theorem VL.mono {u u' : World} {self : UInt8} {N : Nat} {g : Option Addr × Nat × Nat} {l : List PD} (hs : Sub u u') (h : VL u self N g l) : VL u' self N g l := ⟨h.dl.mono hs, h.vw, h.len, h.small⟩
theorem VL.sm {u : World} {self : UInt8} {N : Nat} {g : Option Addr × Nat × Nat} {l : List PD} (h : VL u self N g l) : ∀ x ∈ l, x.n ≤ 8 := fun x hx => by
  rw [← (h.dl.fl x hx).len]; exact h.small x.d (List.mem_map_of_mem hx)

theorem put_mem {l : List GDesc} {x : GDesc} {self : UInt8} {room : Int} : ∀ d ∈ (dPut l x self room).1, d ∈ l ∨ d = x := by
  unfold dPut
  intro d hd
  split at hd
  · exact .inl hd
  · split at hd
    · split at hd
      · split at hd
        · exact List.mem_or_eq_of_mem_set hd
        · exact .inl hd
      · exact .inl hd
    · split at hd
      · exact .inl hd
      · exact (mem_kIns.1 hd).symm

theorem vl_of_back {u u' : World} {v : Value} {L : List GDesc} {self : UInt8} {N : Nat} (h : Back u u' v L) (hv : Vw self L) (hN : L.length ≤ N) (h8 : ∀ d ∈ L, d.filter.length ≤ 8) :
    ∃ p n c l, v = .slice p n c ∧ VL u' self N (p, n, c) l ∧ ds l = L := by
  obtain ⟨p, n, c, l, rfl, o, rfl⟩ := h
  exact ⟨p, n, c, l, rfl, ⟨o.dl, hv, by have := o.len; simp at hN; simp only; omega, h8⟩, rfl⟩

end Go.Proofs.Ytcfkcmalkbdphaa
