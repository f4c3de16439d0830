/-
  No cell of these rows narrows 'for every input' (looked for: loops, veiled, ifaces, maps, wideKeys, modest, calm, conditions, laid).
  DERIVED. THE GIVEN ROWS OF THIS SEAT. 5 by the template 'for every input the law returns true; each argument reads behind the call as it read before'; 0 by the template 'total and deterministic' (their statements: YtcaobkpfafcnjaaTotals.lean).
  GIVEN WITH THE SEED: the statements are not yours to turn. If you find one false, say at which input.
  Laid BY PROGRAM, IN A SANDBOX (cutbox-rows.mjs): the forced cells as the released guide's own fill.sh prints them over the translation 88dea1c5f32ba98f… (all of the seat's roots in one cut). By AI agents, Wed Nov 11 2026. No macro, syntax, notation, axiom, sorry.
-/
import Derived.Test.YtcaobkpfafcnjaaChecked
import GoSem.Claim
import GoSem.ClaimJoined
import GoSem.ClaimMapViews
import Derived.JoinedTies
import Derived.KernelRfl
namespace Go.Proofs.Ytcaobkpfafcnjaa
/- THE CELL 'sum', in the pinned program and in every row, IS THE sha256 OF THE DUMP (.gsa) THAT YtcaobkpfafcnjaaProg.lean LOADS. Nothing in Lean hashes anything: it is a label: what it is worth is what the hold of that sum in a sandbox is worth. -/
noncomputable def Try.pinned : Pinned := { name := "ytcaobkpfafcnjaa", sum := "88dea1c5f32ba98f893d6e1ff8c34474878bda4974d130fbb193cbf3eee9d8d6", checked := Try.checked }
namespace Rows
def none {H : Type} : Left H := { results := [], args := [] }

/-- 'grapevinelaw15.BufferEvicts': WHATEVER THE INPUT: true; the input reads as it did. -/
def bufferEvictsSpec : ChangeSpec := { name := "bufferEvicts", fn := fun _ => fun
  | [d1, d2, d3] => { results := [.lit (.bool true)], args := [d1, d2, d3] }
  | _ => none }
def bufferEvictsRow : OpenClaim := { program := "ytcaobkpfafcnjaa", sum := "88dea1c5f32ba98f893d6e1ff8c34474878bda4974d130fbb193cbf3eee9d8d6", func := "grapevine/grapevinelaw15.BufferEvicts", spec := "bufferEvicts", inPlace := ["slices.overlaps[grapevine/api.Event]"], unfollowed := true, recurses := true, plainKeys := false, apart := false }
def BufferEvictsSaid : Prop := bufferEvictsRow.holds Try.pinned (OpenSpec.ofChange bufferEvictsSpec)

/-- ITS FALSE NEIGHBOUR: 'it returns false'. Refute it at one input. -/
def bufferEvictsWrong : ChangeSpec := { name := "bufferEvicts", fn := fun _ => fun
  | [d1, d2, d3] => { results := [.lit (.bool false)], args := [d1, d2, d3] }
  | _ => none }
def BufferEvictsWrongFalsely : Prop := bufferEvictsRow.holds Try.pinned (OpenSpec.ofChange bufferEvictsWrong)

/-- 'grapevinelaw15.BufferApart': WHATEVER THE INPUT: true; the input reads as it did. -/
def bufferApartSpec : ChangeSpec := { name := "bufferApart", fn := fun _ => fun
  | [d1, d2] => { results := [.lit (.bool true)], args := [d1, d2] }
  | _ => none }
def bufferApartRow : OpenClaim := { program := "ytcaobkpfafcnjaa", sum := "88dea1c5f32ba98f893d6e1ff8c34474878bda4974d130fbb193cbf3eee9d8d6", func := "grapevine/grapevinelaw15.BufferApart", spec := "bufferApart", inPlace := ["slices.overlaps[grapevine/api.Event]"], unfollowed := true, recurses := true, plainKeys := false, apart := false }
def BufferApartSaid : Prop := bufferApartRow.holds Try.pinned (OpenSpec.ofChange bufferApartSpec)

/-- ITS FALSE NEIGHBOUR: 'it returns false'. Refute it at one input. -/
def bufferApartWrong : ChangeSpec := { name := "bufferApart", fn := fun _ => fun
  | [d1, d2] => { results := [.lit (.bool false)], args := [d1, d2] }
  | _ => none }
def BufferApartWrongFalsely : Prop := bufferApartRow.holds Try.pinned (OpenSpec.ofChange bufferApartWrong)

/-- 'grapevinelaw15.BufferAny': WHATEVER THE INPUT: true; the input reads as it did. -/
def bufferAnySpec : ChangeSpec := { name := "bufferAny", fn := fun _ => fun
  | [d1, d2, d3] => { results := [.lit (.bool true)], args := [d1, d2, d3] }
  | _ => none }
def bufferAnyRow : OpenClaim := { program := "ytcaobkpfafcnjaa", sum := "88dea1c5f32ba98f893d6e1ff8c34474878bda4974d130fbb193cbf3eee9d8d6", func := "grapevine/grapevinelaw15.BufferAny", spec := "bufferAny", inPlace := ["slices.overlaps[grapevine/api.Event]"], unfollowed := true, recurses := true, plainKeys := false, apart := false }
def BufferAnySaid : Prop := bufferAnyRow.holds Try.pinned (OpenSpec.ofChange bufferAnySpec)

/-- ITS FALSE NEIGHBOUR: 'it returns false'. Refute it at one input. -/
def bufferAnyWrong : ChangeSpec := { name := "bufferAny", fn := fun _ => fun
  | [d1, d2, d3] => { results := [.lit (.bool false)], args := [d1, d2, d3] }
  | _ => none }
def BufferAnyWrongFalsely : Prop := bufferAnyRow.holds Try.pinned (OpenSpec.ofChange bufferAnyWrong)

/-- 'grapevinelaw15.BufferTells': WHATEVER THE INPUT: true; the input reads as it did. -/
def bufferTellsSpec : ChangeSpec := { name := "bufferTells", fn := fun _ => fun
  | [d1, d2, d3, d4, d5] => { results := [.lit (.bool true)], args := [d1, d2, d3, d4, d5] }
  | _ => none }
def bufferTellsRow : OpenClaim := { program := "ytcaobkpfafcnjaa", sum := "88dea1c5f32ba98f893d6e1ff8c34474878bda4974d130fbb193cbf3eee9d8d6", func := "grapevine/grapevinelaw15.BufferTells", spec := "bufferTells", inPlace := ["slices.overlaps[grapevine/api.Event]"], unfollowed := true, recurses := true, plainKeys := false, apart := false }
def BufferTellsSaid : Prop := bufferTellsRow.holds Try.pinned (OpenSpec.ofChange bufferTellsSpec)

/-- ITS FALSE NEIGHBOUR: 'it returns false'. Refute it at one input. -/
def bufferTellsWrong : ChangeSpec := { name := "bufferTells", fn := fun _ => fun
  | [d1, d2, d3, d4, d5] => { results := [.lit (.bool false)], args := [d1, d2, d3, d4, d5] }
  | _ => none }
def BufferTellsWrongFalsely : Prop := bufferTellsRow.holds Try.pinned (OpenSpec.ofChange bufferTellsWrong)

/-- 'grapevinelaw15.BufferKeeps': WHATEVER THE INPUT: true; the input reads as it did. -/
def bufferKeepsSpec : ChangeSpec := { name := "bufferKeeps", fn := fun _ => fun
  | [d1, d2] => { results := [.lit (.bool true)], args := [d1, d2] }
  | _ => none }
def bufferKeepsRow : OpenClaim := { program := "ytcaobkpfafcnjaa", sum := "88dea1c5f32ba98f893d6e1ff8c34474878bda4974d130fbb193cbf3eee9d8d6", func := "grapevine/grapevinelaw15.BufferKeeps", spec := "bufferKeeps", inPlace := ["slices.overlaps[grapevine/api.Event]"], unfollowed := true, recurses := true, plainKeys := false, apart := false }
def BufferKeepsSaid : Prop := bufferKeepsRow.holds Try.pinned (OpenSpec.ofChange bufferKeepsSpec)

/-- ITS FALSE NEIGHBOUR: 'it returns false'. Refute it at one input. -/
def bufferKeepsWrong : ChangeSpec := { name := "bufferKeeps", fn := fun _ => fun
  | [d1, d2] => { results := [.lit (.bool false)], args := [d1, d2] }
  | _ => none }
def BufferKeepsWrongFalsely : Prop := bufferKeepsRow.holds Try.pinned (OpenSpec.ofChange bufferKeepsWrong)

/- THE SECOND FORM. 'bulk': how many values and letters a reading holds, each counted each time it is reached (what is shared counts as often as it is met; a slice's spare places count too). A statement '..UptoSaid' is the law's where the arguments, and the package variables that the reading takes, are together of bulk at most 1048576: NARROWER than '..Said'. Prove '..Said' where nothing that the law and all that it calls make is longer than what came in: it says more and counts as full. Else prove '..UptoSaid'. A law counts once. -/
mutual
def uptoBulk {H : Type} : DataW H → Nat
  | .lit (.string bytes) => bytes.length + 1
  | .lit _ => 1
  | .nil => 1
  | .ptr d => uptoBulk d + 1
  | .slice elems spare => uptoBulkAll elems + uptoBulkAll spare + 1
  | .agg parts => uptoBulkAll parts + 1
  | .iface _ d => uptoBulk d + 1
  | .map entries => uptoBulkEntries entries + 1
  | .held _ => 1
def uptoBulkAll {H : Type} : List (DataW H) → Nat
  | [] => 0
  | d :: r => uptoBulk d + uptoBulkAll r
def uptoBulkEntries {H : Type} : List (Lit × DataW H) → Nat
  | [] => 0
  | x :: r => uptoBulkEntry x + uptoBulkEntries r
def uptoBulkEntry {H : Type} : Lit × DataW H → Nat
  | (.string bytes, d) => bytes.length + uptoBulk d + 1
  | (_, d) => uptoBulk d + 1
 end
def uptoSmall : (H : Type) → List (DataW H) → Bool := fun _ ds => decide (uptoBulkAll ds ≤ 1048576)
def OpenSpec.upto (s : _root_.Go.ChangeSpec) : _root_.Go.OpenSpec := { _root_.Go.OpenSpec.ofChange s with cond := some uptoSmall }

/-- 'grapevinelaw15.BufferEvicts', WHERE WHAT IT READS IS OF BULK AT MOST 1048576: true; the input reads as it did. -/
def bufferEvictsUptoRow : OpenClaim := { program := "ytcaobkpfafcnjaa", sum := "88dea1c5f32ba98f893d6e1ff8c34474878bda4974d130fbb193cbf3eee9d8d6", func := "grapevine/grapevinelaw15.BufferEvicts", spec := "bufferEvicts", inPlace := ["slices.overlaps[grapevine/api.Event]"], unfollowed := true, recurses := true, plainKeys := false, apart := false, narrowed := true }
def BufferEvictsUptoSaid : Prop := bufferEvictsUptoRow.holds Try.pinned (OpenSpec.upto bufferEvictsSpec)

/-- 'grapevinelaw15.BufferApart', WHERE WHAT IT READS IS OF BULK AT MOST 1048576: true; the input reads as it did. -/
def bufferApartUptoRow : OpenClaim := { program := "ytcaobkpfafcnjaa", sum := "88dea1c5f32ba98f893d6e1ff8c34474878bda4974d130fbb193cbf3eee9d8d6", func := "grapevine/grapevinelaw15.BufferApart", spec := "bufferApart", inPlace := ["slices.overlaps[grapevine/api.Event]"], unfollowed := true, recurses := true, plainKeys := false, apart := false, narrowed := true }
def BufferApartUptoSaid : Prop := bufferApartUptoRow.holds Try.pinned (OpenSpec.upto bufferApartSpec)

/-- 'grapevinelaw15.BufferAny', WHERE WHAT IT READS IS OF BULK AT MOST 1048576: true; the input reads as it did. -/
def bufferAnyUptoRow : OpenClaim := { program := "ytcaobkpfafcnjaa", sum := "88dea1c5f32ba98f893d6e1ff8c34474878bda4974d130fbb193cbf3eee9d8d6", func := "grapevine/grapevinelaw15.BufferAny", spec := "bufferAny", inPlace := ["slices.overlaps[grapevine/api.Event]"], unfollowed := true, recurses := true, plainKeys := false, apart := false, narrowed := true }
def BufferAnyUptoSaid : Prop := bufferAnyUptoRow.holds Try.pinned (OpenSpec.upto bufferAnySpec)

/-- 'grapevinelaw15.BufferTells', WHERE WHAT IT READS IS OF BULK AT MOST 1048576: true; the input reads as it did. -/
def bufferTellsUptoRow : OpenClaim := { program := "ytcaobkpfafcnjaa", sum := "88dea1c5f32ba98f893d6e1ff8c34474878bda4974d130fbb193cbf3eee9d8d6", func := "grapevine/grapevinelaw15.BufferTells", spec := "bufferTells", inPlace := ["slices.overlaps[grapevine/api.Event]"], unfollowed := true, recurses := true, plainKeys := false, apart := false, narrowed := true }
def BufferTellsUptoSaid : Prop := bufferTellsUptoRow.holds Try.pinned (OpenSpec.upto bufferTellsSpec)

/-- 'grapevinelaw15.BufferKeeps', WHERE WHAT IT READS IS OF BULK AT MOST 1048576: true; the input reads as it did. -/
def bufferKeepsUptoRow : OpenClaim := { program := "ytcaobkpfafcnjaa", sum := "88dea1c5f32ba98f893d6e1ff8c34474878bda4974d130fbb193cbf3eee9d8d6", func := "grapevine/grapevinelaw15.BufferKeeps", spec := "bufferKeeps", inPlace := ["slices.overlaps[grapevine/api.Event]"], unfollowed := true, recurses := true, plainKeys := false, apart := false, narrowed := true }
def BufferKeepsUptoSaid : Prop := bufferKeepsUptoRow.holds Try.pinned (OpenSpec.upto bufferKeepsSpec)

end Rows
end Go.Proofs.Ytcaobkpfafcnjaa
