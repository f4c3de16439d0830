/-
  No cell of these rows narrows 'for every input' (looked for: loops, veiled, ifaces, maps, wideKeys, modest, calm, conditions, laid).
  DERIVED. THE GIVEN ROWS OF THIS SEAT. 5 by the template 'for every input the law returns true; each argument reads behind the call as it read before'; 0 by the template 'total and deterministic' (their statements: YtlaefellhnkfbaaGreatTotals.lean).
  GIVEN WITH THE SEED: the statements are not yours to turn. If you find one false, say at which input.
  Laid BY PROGRAM, IN A SANDBOX (cutbox-rows.mjs): the forced cells as the released guide's own fill.sh prints them over the translation 5914e179d41e89c4… (all of the seat's roots in one cut). By AI agents, Wed Nov 11 2026. No macro, syntax, notation, axiom, sorry.
-/
import Derived.Test.YtlaefellhnkfbaaGreatChecked
import GoSem.Claim
import GoSem.ClaimJoined
import GoSem.ClaimMapViews
import Derived.JoinedTies
import Derived.KernelRfl
namespace Go.Proofs.YtlaefellhnkfbaaGreat
/- THE CELL 'sum', in the pinned program and in every row, IS THE sha256 OF THE DUMP (.gsa) THAT YtlaefellhnkfbaaGreatProg.lean LOADS. Nothing in Lean hashes anything: it is a label: what it is worth is what the hold of that sum in a sandbox is worth. -/
noncomputable def Tryz.pinned : Pinned := { name := "ytlaefellhnkfbaagreat", sum := "5914e179d41e89c4107fc677528235395164cc0e59370bec41d9a1b4ea4f2f74", checked := Tryz.checked }
namespace Rows
def none {H : Type} : Left H := { results := [], args := [] }

/-- 'grapevinelaw24.PeerLeaves': WHATEVER THE INPUT: true; the input reads as it did. -/
def peerLeavesSpec : ChangeSpec := { name := "peerLeaves", fn := fun _ => fun
  | [d1, d2] => { results := [.lit (.bool true)], args := [d1, d2] }
  | _ => none }
def peerLeavesRow : OpenClaim := { program := "ytlaefellhnkfbaagreat", sum := "5914e179d41e89c4107fc677528235395164cc0e59370bec41d9a1b4ea4f2f74", func := "grapevine/grapevinelaw24.PeerLeaves", spec := "peerLeaves", inPlace := ["slices.overlaps[grapevine/api.Desc]"], unfollowed := true, recurses := true, apart := false }
def PeerLeavesSaid : Prop := peerLeavesRow.holds Tryz.pinned (OpenSpec.ofChange peerLeavesSpec)

/-- ITS FALSE NEIGHBOUR: 'it returns false'. Refute it at one input. -/
def peerLeavesWrong : ChangeSpec := { name := "peerLeaves", fn := fun _ => fun
  | [d1, d2] => { results := [.lit (.bool false)], args := [d1, d2] }
  | _ => none }
def PeerLeavesWrongFalsely : Prop := peerLeavesRow.holds Tryz.pinned (OpenSpec.ofChange peerLeavesWrong)

/-- 'grapevinelaw24.PeerDown': WHATEVER THE INPUT: true; the input reads as it did. -/
def peerDownSpec : ChangeSpec := { name := "peerDown", fn := fun _ => fun
  | [d1, d2, d3, d4] => { results := [.lit (.bool true)], args := [d1, d2, d3, d4] }
  | _ => none }
def peerDownRow : OpenClaim := { program := "ytlaefellhnkfbaagreat", sum := "5914e179d41e89c4107fc677528235395164cc0e59370bec41d9a1b4ea4f2f74", func := "grapevine/grapevinelaw24.PeerDown", spec := "peerDown", inPlace := ["slices.overlaps[grapevine/api.Desc]"], unfollowed := true, recurses := true, apart := false }
def PeerDownSaid : Prop := peerDownRow.holds Tryz.pinned (OpenSpec.ofChange peerDownSpec)

/-- ITS FALSE NEIGHBOUR: 'it returns false'. Refute it at one input. -/
def peerDownWrong : ChangeSpec := { name := "peerDown", fn := fun _ => fun
  | [d1, d2, d3, d4] => { results := [.lit (.bool false)], args := [d1, d2, d3, d4] }
  | _ => none }
def PeerDownWrongFalsely : Prop := peerDownRow.holds Tryz.pinned (OpenSpec.ofChange peerDownWrong)

/-- 'grapevinelaw24.PeerTells': WHATEVER THE INPUT: true; the input reads as it did. -/
def peerTellsSpec : ChangeSpec := { name := "peerTells", fn := fun _ => fun
  | [d1, d2, d3] => { results := [.lit (.bool true)], args := [d1, d2, d3] }
  | _ => none }
def peerTellsRow : OpenClaim := { program := "ytlaefellhnkfbaagreat", sum := "5914e179d41e89c4107fc677528235395164cc0e59370bec41d9a1b4ea4f2f74", func := "grapevine/grapevinelaw24.PeerTells", spec := "peerTells", inPlace := ["slices.overlaps[grapevine/api.Desc]"], unfollowed := true, recurses := true, apart := false }
def PeerTellsSaid : Prop := peerTellsRow.holds Tryz.pinned (OpenSpec.ofChange peerTellsSpec)

/-- ITS FALSE NEIGHBOUR: 'it returns false'. Refute it at one input. -/
def peerTellsWrong : ChangeSpec := { name := "peerTells", fn := fun _ => fun
  | [d1, d2, d3] => { results := [.lit (.bool false)], args := [d1, d2, d3] }
  | _ => none }
def PeerTellsWrongFalsely : Prop := peerTellsRow.holds Tryz.pinned (OpenSpec.ofChange peerTellsWrong)

/-- 'grapevinelaw24.PeerBounds': WHATEVER THE INPUT: true; the input reads as it did. -/
def peerBoundsSpec : ChangeSpec := { name := "peerBounds", fn := fun _ => fun
  | [d1, d2, d3] => { results := [.lit (.bool true)], args := [d1, d2, d3] }
  | _ => none }
def peerBoundsRow : OpenClaim := { program := "ytlaefellhnkfbaagreat", sum := "5914e179d41e89c4107fc677528235395164cc0e59370bec41d9a1b4ea4f2f74", func := "grapevine/grapevinelaw24.PeerBounds", spec := "peerBounds", inPlace := ["slices.overlaps[grapevine/api.Desc]"], unfollowed := true, recurses := true, apart := false }
def PeerBoundsSaid : Prop := peerBoundsRow.holds Tryz.pinned (OpenSpec.ofChange peerBoundsSpec)

/-- ITS FALSE NEIGHBOUR: 'it returns false'. Refute it at one input. -/
def peerBoundsWrong : ChangeSpec := { name := "peerBounds", fn := fun _ => fun
  | [d1, d2, d3] => { results := [.lit (.bool false)], args := [d1, d2, d3] }
  | _ => none }
def PeerBoundsWrongFalsely : Prop := peerBoundsRow.holds Tryz.pinned (OpenSpec.ofChange peerBoundsWrong)

/-- 'grapevinelaw24.PeerJoins': WHATEVER THE INPUT: true; the input reads as it did. -/
def peerJoinsSpec : ChangeSpec := { name := "peerJoins", fn := fun _ => fun
  | [d1, d2, d3, d4] => { results := [.lit (.bool true)], args := [d1, d2, d3, d4] }
  | _ => none }
def peerJoinsRow : OpenClaim := { program := "ytlaefellhnkfbaagreat", sum := "5914e179d41e89c4107fc677528235395164cc0e59370bec41d9a1b4ea4f2f74", func := "grapevine/grapevinelaw24.PeerJoins", spec := "peerJoins", inPlace := ["slices.overlaps[grapevine/api.Desc]"], unfollowed := true, recurses := true, apart := false }
def PeerJoinsSaid : Prop := peerJoinsRow.holds Tryz.pinned (OpenSpec.ofChange peerJoinsSpec)

/-- ITS FALSE NEIGHBOUR: 'it returns false'. Refute it at one input. -/
def peerJoinsWrong : ChangeSpec := { name := "peerJoins", fn := fun _ => fun
  | [d1, d2, d3, d4] => { results := [.lit (.bool false)], args := [d1, d2, d3, d4] }
  | _ => none }
def PeerJoinsWrongFalsely : Prop := peerJoinsRow.holds Tryz.pinned (OpenSpec.ofChange peerJoinsWrong)

/- THE SECOND FORM. 'bulk': how many values and letters a reading holds, each counted each time it is reached (what is shared counts as often as it is met; a slice's spare places count too). A statement '..UptoSaid' is the law's where the arguments, and the package variables that the reading takes, are together of bulk at most 1048576: NARROWER than '..Said'. Prove '..Said' where nothing that the law and all that it calls make is longer than what came in: it says more and counts as full. Else prove '..UptoSaid'. A law counts once. -/
mutual
def uptoBulk {H : Type} : DataW H → Nat
  | .lit (.string bytes) => bytes.length + 1
  | .lit _ => 1
  | .nil => 1
  | .ptr d => uptoBulk d + 1
  | .slice elems spare => uptoBulkAll elems + uptoBulkAll spare + 1
  | .agg parts => uptoBulkAll parts + 1
  | .iface _ d => uptoBulk d + 1
  | .map entries => uptoBulkEntries entries + 1
  | .held _ => 1
def uptoBulkAll {H : Type} : List (DataW H) → Nat
  | [] => 0
  | d :: r => uptoBulk d + uptoBulkAll r
def uptoBulkEntries {H : Type} : List (Lit × DataW H) → Nat
  | [] => 0
  | x :: r => uptoBulkEntry x + uptoBulkEntries r
def uptoBulkEntry {H : Type} : Lit × DataW H → Nat
  | (.string bytes, d) => bytes.length + uptoBulk d + 1
  | (_, d) => uptoBulk d + 1
 end
def uptoSmall : (H : Type) → List (DataW H) → Bool := fun _ ds => decide (uptoBulkAll ds ≤ 1048576)
def OpenSpec.upto (s : _root_.Go.ChangeSpec) : _root_.Go.OpenSpec := { _root_.Go.OpenSpec.ofChange s with cond := some uptoSmall }

/-- 'grapevinelaw24.PeerLeaves', WHERE WHAT IT READS IS OF BULK AT MOST 1048576: true; the input reads as it did. -/
def peerLeavesUptoRow : OpenClaim := { program := "ytlaefellhnkfbaagreat", sum := "5914e179d41e89c4107fc677528235395164cc0e59370bec41d9a1b4ea4f2f74", func := "grapevine/grapevinelaw24.PeerLeaves", spec := "peerLeaves", inPlace := ["slices.overlaps[grapevine/api.Desc]"], unfollowed := true, recurses := true, apart := false, narrowed := true }
def PeerLeavesUptoSaid : Prop := peerLeavesUptoRow.holds Tryz.pinned (OpenSpec.upto peerLeavesSpec)

/-- 'grapevinelaw24.PeerDown', WHERE WHAT IT READS IS OF BULK AT MOST 1048576: true; the input reads as it did. -/
def peerDownUptoRow : OpenClaim := { program := "ytlaefellhnkfbaagreat", sum := "5914e179d41e89c4107fc677528235395164cc0e59370bec41d9a1b4ea4f2f74", func := "grapevine/grapevinelaw24.PeerDown", spec := "peerDown", inPlace := ["slices.overlaps[grapevine/api.Desc]"], unfollowed := true, recurses := true, apart := false, narrowed := true }
def PeerDownUptoSaid : Prop := peerDownUptoRow.holds Tryz.pinned (OpenSpec.upto peerDownSpec)

/-- 'grapevinelaw24.PeerTells', WHERE WHAT IT READS IS OF BULK AT MOST 1048576: true; the input reads as it did. -/
def peerTellsUptoRow : OpenClaim := { program := "ytlaefellhnkfbaagreat", sum := "5914e179d41e89c4107fc677528235395164cc0e59370bec41d9a1b4ea4f2f74", func := "grapevine/grapevinelaw24.PeerTells", spec := "peerTells", inPlace := ["slices.overlaps[grapevine/api.Desc]"], unfollowed := true, recurses := true, apart := false, narrowed := true }
def PeerTellsUptoSaid : Prop := peerTellsUptoRow.holds Tryz.pinned (OpenSpec.upto peerTellsSpec)

/-- 'grapevinelaw24.PeerBounds', WHERE WHAT IT READS IS OF BULK AT MOST 1048576: true; the input reads as it did. -/
def peerBoundsUptoRow : OpenClaim := { program := "ytlaefellhnkfbaagreat", sum := "5914e179d41e89c4107fc677528235395164cc0e59370bec41d9a1b4ea4f2f74", func := "grapevine/grapevinelaw24.PeerBounds", spec := "peerBounds", inPlace := ["slices.overlaps[grapevine/api.Desc]"], unfollowed := true, recurses := true, apart := false, narrowed := true }
def PeerBoundsUptoSaid : Prop := peerBoundsUptoRow.holds Tryz.pinned (OpenSpec.upto peerBoundsSpec)

/-- 'grapevinelaw24.PeerJoins', WHERE WHAT IT READS IS OF BULK AT MOST 1048576: true; the input reads as it did. -/
def peerJoinsUptoRow : OpenClaim := { program := "ytlaefellhnkfbaagreat", sum := "5914e179d41e89c4107fc677528235395164cc0e59370bec41d9a1b4ea4f2f74", func := "grapevine/grapevinelaw24.PeerJoins", spec := "peerJoins", inPlace := ["slices.overlaps[grapevine/api.Desc]"], unfollowed := true, recurses := true, apart := false, narrowed := true }
def PeerJoinsUptoSaid : Prop := peerJoinsUptoRow.holds Tryz.pinned (OpenSpec.upto peerJoinsSpec)

end Rows
end Go.Proofs.YtlaefellhnkfbaaGreat
