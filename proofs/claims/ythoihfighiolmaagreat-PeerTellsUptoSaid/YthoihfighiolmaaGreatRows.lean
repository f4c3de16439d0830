/-
  No cell of these rows narrows 'for every input' (looked for: loops, veiled, ifaces, maps, wideKeys, modest, calm, conditions, laid).
  DERIVED. THE GIVEN ROWS OF THIS SEAT. 3 by the template 'for every input the law returns true; each argument reads behind the call as it read before'; 0 by the template 'total and deterministic' (their statements: YthoihfighiolmaaGreatTotals.lean).
  GIVEN WITH THE SEED: the statements are not yours to turn. If you find one false, say at which input.
  Laid BY PROGRAM, IN A SANDBOX (cutbox-rows.mjs): the forced cells as the released guide's own fill.sh prints them over the translation 357c9ccce1314fa6… (all of the seat's roots in one cut). By AI agents, Wed Nov 11 2026. No macro, syntax, notation, axiom, sorry.
-/
import Derived.Test.YthoihfighiolmaaGreatChecked
import GoSem.Claim
import GoSem.ClaimJoined
import GoSem.ClaimMapViews
import Derived.JoinedTies
import Derived.KernelRfl
namespace Go.Proofs.YthoihfighiolmaaGreat
/- THE CELL 'sum', in the pinned program and in every row, IS THE sha256 OF THE DUMP (.gsa) THAT YthoihfighiolmaaGreatProg.lean LOADS. Nothing in Lean hashes anything: it is a label: what it is worth is what the hold of that sum in a sandbox is worth. -/
noncomputable def Tryz.pinned : Pinned := { name := "ythoihfighiolmaagreat", sum := "357c9ccce1314fa60d821383d731591d0efaac01d392df3aedfa7f79e4ea1355", checked := Tryz.checked }
namespace Rows
def none {H : Type} : Left H := { results := [], args := [] }

/-- 'grapevinelaw24.PeerTells': WHATEVER THE INPUT: true; the input reads as it did. -/
def peerTellsSpec : ChangeSpec := { name := "peerTells", fn := fun _ => fun
  | [d1, d2, d3] => { results := [.lit (.bool true)], args := [d1, d2, d3] }
  | _ => none }
def peerTellsRow : OpenClaim := { program := "ythoihfighiolmaagreat", sum := "357c9ccce1314fa60d821383d731591d0efaac01d392df3aedfa7f79e4ea1355", func := "grapevine/grapevinelaw24.PeerTells", spec := "peerTells", inPlace := ["slices.overlaps[grapevine/api.Desc]"], unfollowed := true, recurses := true, plainKeys := false, apart := false }
def PeerTellsSaid : Prop := peerTellsRow.holds Tryz.pinned (OpenSpec.ofChange peerTellsSpec)

/-- ITS FALSE NEIGHBOUR: 'it returns false'. Refute it at one input. -/
def peerTellsWrong : ChangeSpec := { name := "peerTells", fn := fun _ => fun
  | [d1, d2, d3] => { results := [.lit (.bool false)], args := [d1, d2, d3] }
  | _ => none }
def PeerTellsWrongFalsely : Prop := peerTellsRow.holds Tryz.pinned (OpenSpec.ofChange peerTellsWrong)

/-- 'grapevinelaw25.NodeTells': WHATEVER THE INPUT: true; the input reads as it did. -/
def nodeTellsSpec : ChangeSpec := { name := "nodeTells", fn := fun _ => fun
  | [d1, d2, d3] => { results := [.lit (.bool true)], args := [d1, d2, d3] }
  | _ => none }
def nodeTellsRow : OpenClaim := { program := "ythoihfighiolmaagreat", sum := "357c9ccce1314fa60d821383d731591d0efaac01d392df3aedfa7f79e4ea1355", func := "grapevine/grapevinelaw25.NodeTells", spec := "nodeTells", inPlace := ["slices.overlaps[grapevine/api.Event]", "slices.overlaps[grapevine/api.Ask]", "slices.overlaps[grapevine/api.Desc]"], unfollowed := true, recurses := true, plainKeys := false, apart := false }
def NodeTellsSaid : Prop := nodeTellsRow.holds Tryz.pinned (OpenSpec.ofChange nodeTellsSpec)

/-- ITS FALSE NEIGHBOUR: 'it returns false'. Refute it at one input. -/
def nodeTellsWrong : ChangeSpec := { name := "nodeTells", fn := fun _ => fun
  | [d1, d2, d3] => { results := [.lit (.bool false)], args := [d1, d2, d3] }
  | _ => none }
def NodeTellsWrongFalsely : Prop := nodeTellsRow.holds Tryz.pinned (OpenSpec.ofChange nodeTellsWrong)

/-- 'grapevinelaw25.NodeRepairs': WHATEVER THE INPUT: true; the input reads as it did. -/
def nodeRepairsSpec : ChangeSpec := { name := "nodeRepairs", fn := fun _ => fun
  | [d1, d2, d3] => { results := [.lit (.bool true)], args := [d1, d2, d3] }
  | _ => none }
def nodeRepairsRow : OpenClaim := { program := "ythoihfighiolmaagreat", sum := "357c9ccce1314fa60d821383d731591d0efaac01d392df3aedfa7f79e4ea1355", func := "grapevine/grapevinelaw25.NodeRepairs", spec := "nodeRepairs", inPlace := ["slices.overlaps[grapevine/api.Event]", "slices.overlaps[grapevine/api.Ask]", "slices.overlaps[grapevine/api.Desc]"], unfollowed := true, recurses := true, plainKeys := false, apart := false }
def NodeRepairsSaid : Prop := nodeRepairsRow.holds Tryz.pinned (OpenSpec.ofChange nodeRepairsSpec)

/-- ITS FALSE NEIGHBOUR: 'it returns false'. Refute it at one input. -/
def nodeRepairsWrong : ChangeSpec := { name := "nodeRepairs", fn := fun _ => fun
  | [d1, d2, d3] => { results := [.lit (.bool false)], args := [d1, d2, d3] }
  | _ => none }
def NodeRepairsWrongFalsely : Prop := nodeRepairsRow.holds Tryz.pinned (OpenSpec.ofChange nodeRepairsWrong)

/- THE SECOND FORM. 'bulk': how many values and letters a reading holds, each counted each time it is reached (what is shared counts as often as it is met; a slice's spare places count too). A statement '..UptoSaid' is the law's where the arguments, and the package variables that the reading takes, are together of bulk at most 1048576: NARROWER than '..Said'. Prove '..Said' where nothing that the law and all that it calls make is longer than what came in: it says more and counts as full. Else prove '..UptoSaid'. A law counts once. -/
mutual
def uptoBulk {H : Type} : DataW H → Nat
  | .lit (.string bytes) => bytes.length + 1
  | .lit _ => 1
  | .nil => 1
  | .ptr d => uptoBulk d + 1
  | .slice elems spare => uptoBulkAll elems + uptoBulkAll spare + 1
  | .agg parts => uptoBulkAll parts + 1
  | .iface _ d => uptoBulk d + 1
  | .map entries => uptoBulkEntries entries + 1
  | .held _ => 1
def uptoBulkAll {H : Type} : List (DataW H) → Nat
  | [] => 0
  | d :: r => uptoBulk d + uptoBulkAll r
def uptoBulkEntries {H : Type} : List (Lit × DataW H) → Nat
  | [] => 0
  | x :: r => uptoBulkEntry x + uptoBulkEntries r
def uptoBulkEntry {H : Type} : Lit × DataW H → Nat
  | (.string bytes, d) => bytes.length + uptoBulk d + 1
  | (_, d) => uptoBulk d + 1
 end
def uptoSmall : (H : Type) → List (DataW H) → Bool := fun _ ds => decide (uptoBulkAll ds ≤ 1048576)
def OpenSpec.upto (s : _root_.Go.ChangeSpec) : _root_.Go.OpenSpec := { _root_.Go.OpenSpec.ofChange s with cond := some uptoSmall }

/-- 'grapevinelaw24.PeerTells', WHERE WHAT IT READS IS OF BULK AT MOST 1048576: true; the input reads as it did. -/
def peerTellsUptoRow : OpenClaim := { program := "ythoihfighiolmaagreat", sum := "357c9ccce1314fa60d821383d731591d0efaac01d392df3aedfa7f79e4ea1355", func := "grapevine/grapevinelaw24.PeerTells", spec := "peerTells", inPlace := ["slices.overlaps[grapevine/api.Desc]"], unfollowed := true, recurses := true, plainKeys := false, apart := false, narrowed := true }
def PeerTellsUptoSaid : Prop := peerTellsUptoRow.holds Tryz.pinned (OpenSpec.upto peerTellsSpec)

/-- 'grapevinelaw25.NodeTells', WHERE WHAT IT READS IS OF BULK AT MOST 1048576: true; the input reads as it did. -/
def nodeTellsUptoRow : OpenClaim := { program := "ythoihfighiolmaagreat", sum := "357c9ccce1314fa60d821383d731591d0efaac01d392df3aedfa7f79e4ea1355", func := "grapevine/grapevinelaw25.NodeTells", spec := "nodeTells", inPlace := ["slices.overlaps[grapevine/api.Event]", "slices.overlaps[grapevine/api.Ask]", "slices.overlaps[grapevine/api.Desc]"], unfollowed := true, recurses := true, plainKeys := false, apart := false, narrowed := true }
def NodeTellsUptoSaid : Prop := nodeTellsUptoRow.holds Tryz.pinned (OpenSpec.upto nodeTellsSpec)

/-- 'grapevinelaw25.NodeRepairs', WHERE WHAT IT READS IS OF BULK AT MOST 1048576: true; the input reads as it did. -/
def nodeRepairsUptoRow : OpenClaim := { program := "ythoihfighiolmaagreat", sum := "357c9ccce1314fa60d821383d731591d0efaac01d392df3aedfa7f79e4ea1355", func := "grapevine/grapevinelaw25.NodeRepairs", spec := "nodeRepairs", inPlace := ["slices.overlaps[grapevine/api.Event]", "slices.overlaps[grapevine/api.Ask]", "slices.overlaps[grapevine/api.Desc]"], unfollowed := true, recurses := true, plainKeys := false, apart := false, narrowed := true }
def NodeRepairsUptoSaid : Prop := nodeRepairsUptoRow.holds Tryz.pinned (OpenSpec.upto nodeRepairsSpec)

end Rows
end Go.Proofs.YthoihfighiolmaaGreat
