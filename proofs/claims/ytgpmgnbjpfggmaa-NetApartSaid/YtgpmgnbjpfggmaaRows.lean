/-
  No cell of these rows narrows 'for every input' (looked for: loops, veiled, ifaces, maps, wideKeys, modest, calm, conditions, laid).
  DERIVED. THE GIVEN ROWS OF THIS SEAT. 4 by the template 'for every input the law returns true; each argument reads behind the call as it read before'; 0 by the template 'total and deterministic' (their statements: YtgpmgnbjpfggmaaTotals.lean).
  GIVEN WITH THE SEED: the statements are not yours to turn. If you find one false, say at which input.
  Laid BY PROGRAM, IN A SANDBOX (cutbox-rows.mjs): the forced cells as the released guide's own fill.sh prints them over the translation 6db86bb403f47cd7… (all of the seat's roots in one cut). By AI agents, Wed Nov 11 2026. No macro, syntax, notation, axiom, sorry.
-/
import Derived.Test.YtgpmgnbjpfggmaaChecked
import GoSem.Claim
import GoSem.ClaimJoined
import GoSem.ClaimMapViews
import Derived.JoinedTies
import Derived.KernelRfl
namespace Go.Proofs.Ytgpmgnbjpfggmaa
/- THE CELL 'sum', in the pinned program and in every row, IS THE sha256 OF THE DUMP (.gsa) THAT YtgpmgnbjpfggmaaProg.lean LOADS. Nothing in Lean hashes anything: it is a label: what it is worth is what the hold of that sum in a sandbox is worth. -/
noncomputable def Try.pinned : Pinned := { name := "ytgpmgnbjpfggmaa", sum := "6db86bb403f47cd7d254b722efe66fb0eae63f98c534c978603be1645a7ad1f0", checked := Try.checked }
namespace Rows
def none {H : Type} : Left H := { results := [], args := [] }

/-- 'grapevinelaw22.NetRoom': WHATEVER THE INPUT: true; the input reads as it did. -/
def netRoomSpec : ChangeSpec := { name := "netRoom", fn := fun _ => fun
  | [d1, d2] => { results := [.lit (.bool true)], args := [d1, d2] }
  | _ => none }
def netRoomRow : OpenClaim := { program := "ytgpmgnbjpfggmaa", sum := "6db86bb403f47cd7d254b722efe66fb0eae63f98c534c978603be1645a7ad1f0", func := "grapevine/grapevinelaw22.NetRoom", spec := "netRoom", inPlace := ["slices.overlaps[grapevine/api.Parcel]"], unfollowed := true, recurses := true, apart := false }
def NetRoomSaid : Prop := netRoomRow.holds Try.pinned (OpenSpec.ofChange netRoomSpec)

/-- ITS FALSE NEIGHBOUR: 'it returns false'. Refute it at one input. -/
def netRoomWrong : ChangeSpec := { name := "netRoom", fn := fun _ => fun
  | [d1, d2] => { results := [.lit (.bool false)], args := [d1, d2] }
  | _ => none }
def NetRoomWrongFalsely : Prop := netRoomRow.holds Try.pinned (OpenSpec.ofChange netRoomWrong)

/-- 'grapevinelaw22.NetTells': WHATEVER THE INPUT: true; the input reads as it did. -/
def netTellsSpec : ChangeSpec := { name := "netTells", fn := fun _ => fun
  | [d1, d2, d3, d4, d5, d6, d7, d8] => { results := [.lit (.bool true)], args := [d1, d2, d3, d4, d5, d6, d7, d8] }
  | _ => none }
def netTellsRow : OpenClaim := { program := "ytgpmgnbjpfggmaa", sum := "6db86bb403f47cd7d254b722efe66fb0eae63f98c534c978603be1645a7ad1f0", func := "grapevine/grapevinelaw22.NetTells", spec := "netTells", inPlace := ["slices.overlaps[grapevine/api.Parcel]"], unfollowed := true, recurses := true, apart := false }
def NetTellsSaid : Prop := netTellsRow.holds Try.pinned (OpenSpec.ofChange netTellsSpec)

/-- ITS FALSE NEIGHBOUR: 'it returns false'. Refute it at one input. -/
def netTellsWrong : ChangeSpec := { name := "netTells", fn := fun _ => fun
  | [d1, d2, d3, d4, d5, d6, d7, d8] => { results := [.lit (.bool false)], args := [d1, d2, d3, d4, d5, d6, d7, d8] }
  | _ => none }
def NetTellsWrongFalsely : Prop := netTellsRow.holds Try.pinned (OpenSpec.ofChange netTellsWrong)

/-- 'grapevinelaw22.NetStays': WHATEVER THE INPUT: true; the input reads as it did. -/
def netStaysSpec : ChangeSpec := { name := "netStays", fn := fun _ => fun
  | [d1, d2, d3, d4, d5] => { results := [.lit (.bool true)], args := [d1, d2, d3, d4, d5] }
  | _ => none }
def netStaysRow : OpenClaim := { program := "ytgpmgnbjpfggmaa", sum := "6db86bb403f47cd7d254b722efe66fb0eae63f98c534c978603be1645a7ad1f0", func := "grapevine/grapevinelaw22.NetStays", spec := "netStays", inPlace := ["slices.overlaps[grapevine/api.Parcel]"], unfollowed := true, recurses := true, apart := false }
def NetStaysSaid : Prop := netStaysRow.holds Try.pinned (OpenSpec.ofChange netStaysSpec)

/-- ITS FALSE NEIGHBOUR: 'it returns false'. Refute it at one input. -/
def netStaysWrong : ChangeSpec := { name := "netStays", fn := fun _ => fun
  | [d1, d2, d3, d4, d5] => { results := [.lit (.bool false)], args := [d1, d2, d3, d4, d5] }
  | _ => none }
def NetStaysWrongFalsely : Prop := netStaysRow.holds Try.pinned (OpenSpec.ofChange netStaysWrong)

/-- 'grapevinelaw22.NetApart': WHATEVER THE INPUT: true; the input reads as it did. -/
def netApartSpec : ChangeSpec := { name := "netApart", fn := fun _ => fun
  | [d1, d2, d3] => { results := [.lit (.bool true)], args := [d1, d2, d3] }
  | _ => none }
def netApartRow : OpenClaim := { program := "ytgpmgnbjpfggmaa", sum := "6db86bb403f47cd7d254b722efe66fb0eae63f98c534c978603be1645a7ad1f0", func := "grapevine/grapevinelaw22.NetApart", spec := "netApart", inPlace := ["slices.overlaps[grapevine/api.Parcel]"], unfollowed := true, recurses := true, apart := false }
def NetApartSaid : Prop := netApartRow.holds Try.pinned (OpenSpec.ofChange netApartSpec)

/-- ITS FALSE NEIGHBOUR: 'it returns false'. Refute it at one input. -/
def netApartWrong : ChangeSpec := { name := "netApart", fn := fun _ => fun
  | [d1, d2, d3] => { results := [.lit (.bool false)], args := [d1, d2, d3] }
  | _ => none }
def NetApartWrongFalsely : Prop := netApartRow.holds Try.pinned (OpenSpec.ofChange netApartWrong)

/- THE SECOND FORM. 'bulk': how many values and letters a reading holds, each counted each time it is reached (what is shared counts as often as it is met; a slice's spare places count too). A statement '..UptoSaid' is the law's where the arguments, and the package variables that the reading takes, are together of bulk at most 1048576: NARROWER than '..Said'. Prove '..Said' where nothing that the law and all that it calls make is longer than what came in: it says more and counts as full. Else prove '..UptoSaid'. A law counts once. -/
mutual
def uptoBulk {H : Type} : DataW H → Nat
  | .lit (.string bytes) => bytes.length + 1
  | .lit _ => 1
  | .nil => 1
  | .ptr d => uptoBulk d + 1
  | .slice elems spare => uptoBulkAll elems + uptoBulkAll spare + 1
  | .agg parts => uptoBulkAll parts + 1
  | .iface _ d => uptoBulk d + 1
  | .map entries => uptoBulkEntries entries + 1
  | .held _ => 1
def uptoBulkAll {H : Type} : List (DataW H) → Nat
  | [] => 0
  | d :: r => uptoBulk d + uptoBulkAll r
def uptoBulkEntries {H : Type} : List (Lit × DataW H) → Nat
  | [] => 0
  | x :: r => uptoBulkEntry x + uptoBulkEntries r
def uptoBulkEntry {H : Type} : Lit × DataW H → Nat
  | (.string bytes, d) => bytes.length + uptoBulk d + 1
  | (_, d) => uptoBulk d + 1
 end
def uptoSmall : (H : Type) → List (DataW H) → Bool := fun _ ds => decide (uptoBulkAll ds ≤ 1048576)
def OpenSpec.upto (s : _root_.Go.ChangeSpec) : _root_.Go.OpenSpec := { _root_.Go.OpenSpec.ofChange s with cond := some uptoSmall }

/-- 'grapevinelaw22.NetRoom', WHERE WHAT IT READS IS OF BULK AT MOST 1048576: true; the input reads as it did. -/
def netRoomUptoRow : OpenClaim := { program := "ytgpmgnbjpfggmaa", sum := "6db86bb403f47cd7d254b722efe66fb0eae63f98c534c978603be1645a7ad1f0", func := "grapevine/grapevinelaw22.NetRoom", spec := "netRoom", inPlace := ["slices.overlaps[grapevine/api.Parcel]"], unfollowed := true, recurses := true, apart := false, narrowed := true }
def NetRoomUptoSaid : Prop := netRoomUptoRow.holds Try.pinned (OpenSpec.upto netRoomSpec)

/-- 'grapevinelaw22.NetTells', WHERE WHAT IT READS IS OF BULK AT MOST 1048576: true; the input reads as it did. -/
def netTellsUptoRow : OpenClaim := { program := "ytgpmgnbjpfggmaa", sum := "6db86bb403f47cd7d254b722efe66fb0eae63f98c534c978603be1645a7ad1f0", func := "grapevine/grapevinelaw22.NetTells", spec := "netTells", inPlace := ["slices.overlaps[grapevine/api.Parcel]"], unfollowed := true, recurses := true, apart := false, narrowed := true }
def NetTellsUptoSaid : Prop := netTellsUptoRow.holds Try.pinned (OpenSpec.upto netTellsSpec)

/-- 'grapevinelaw22.NetStays', WHERE WHAT IT READS IS OF BULK AT MOST 1048576: true; the input reads as it did. -/
def netStaysUptoRow : OpenClaim := { program := "ytgpmgnbjpfggmaa", sum := "6db86bb403f47cd7d254b722efe66fb0eae63f98c534c978603be1645a7ad1f0", func := "grapevine/grapevinelaw22.NetStays", spec := "netStays", inPlace := ["slices.overlaps[grapevine/api.Parcel]"], unfollowed := true, recurses := true, apart := false, narrowed := true }
def NetStaysUptoSaid : Prop := netStaysUptoRow.holds Try.pinned (OpenSpec.upto netStaysSpec)

/-- 'grapevinelaw22.NetApart', WHERE WHAT IT READS IS OF BULK AT MOST 1048576: true; the input reads as it did. -/
def netApartUptoRow : OpenClaim := { program := "ytgpmgnbjpfggmaa", sum := "6db86bb403f47cd7d254b722efe66fb0eae63f98c534c978603be1645a7ad1f0", func := "grapevine/grapevinelaw22.NetApart", spec := "netApart", inPlace := ["slices.overlaps[grapevine/api.Parcel]"], unfollowed := true, recurses := true, apart := false, narrowed := true }
def NetApartUptoSaid : Prop := netApartUptoRow.holds Try.pinned (OpenSpec.upto netApartSpec)

end Rows
end Go.Proofs.Ytgpmgnbjpfggmaa
