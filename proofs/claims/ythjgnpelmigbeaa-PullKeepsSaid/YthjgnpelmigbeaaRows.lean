/-
  No cell of these rows narrows 'for every input' (looked for: loops, veiled, ifaces, maps, wideKeys, modest, calm, conditions, laid).
  DERIVED. THE GIVEN ROWS OF THIS SEAT. 5 by the template 'for every input the law returns true; each argument reads behind the call as it read before'; 0 by the template 'total and deterministic' (their statements: YthjgnpelmigbeaaTotals.lean).
  GIVEN WITH THE SEED: the statements are not yours to turn. If you find one false, say at which input.
  Laid BY PROGRAM, IN A SANDBOX (cutbox-rows.mjs): the forced cells as the released guide's own fill.sh prints them over the translation 3d0e32acf837b52c… (all of the seat's roots in one cut). By AI agents, Wed Nov 11 2026. No macro, syntax, notation, axiom, sorry.
-/
import Derived.Test.YthjgnpelmigbeaaChecked
import GoSem.Claim
import GoSem.ClaimJoined
import GoSem.ClaimMapViews
import Derived.JoinedTies
import Derived.KernelRfl
namespace Go.Proofs.Ythjgnpelmigbeaa
/- THE CELL 'sum', in the pinned program and in every row, IS THE sha256 OF THE DUMP (.gsa) THAT YthjgnpelmigbeaaProg.lean LOADS. Nothing in Lean hashes anything: it is a label: what it is worth is what the hold of that sum in a sandbox is worth. -/
noncomputable def Try.pinned : Pinned := { name := "ythjgnpelmigbeaa", sum := "3d0e32acf837b52c537ee7d84e497b26871fb372fd1670e6c1cc660a56c1871f", checked := Try.checked }
namespace Rows
def none {H : Type} : Left H := { results := [], args := [] }

/-- 'grapevinelaw18.PullEnds': WHATEVER THE INPUT: true; the input reads as it did. -/
def pullEndsSpec : ChangeSpec := { name := "pullEnds", fn := fun _ => fun
  | [d] => { results := [.lit (.bool true)], args := [d] }
  | _ => none }
def pullEndsRow : OpenClaim := { program := "ythjgnpelmigbeaa", sum := "3d0e32acf837b52c537ee7d84e497b26871fb372fd1670e6c1cc660a56c1871f", func := "grapevine/grapevinelaw18.PullEnds", spec := "pullEnds", inPlace := ["slices.overlaps[grapevine/api.Ask]"], unfollowed := true, recurses := true, plainKeys := false, apart := false }
def PullEndsSaid : Prop := pullEndsRow.holds Try.pinned (OpenSpec.ofChange pullEndsSpec)

/-- ITS FALSE NEIGHBOUR: 'it returns false'. Refute it at one input. -/
def pullEndsWrong : ChangeSpec := { name := "pullEnds", fn := fun _ => fun
  | [d] => { results := [.lit (.bool false)], args := [d] }
  | _ => none }
def PullEndsWrongFalsely : Prop := pullEndsRow.holds Try.pinned (OpenSpec.ofChange pullEndsWrong)

/-- 'grapevinelaw18.PullAny': WHATEVER THE INPUT: true; the input reads as it did. -/
def pullAnySpec : ChangeSpec := { name := "pullAny", fn := fun _ => fun
  | [d1, d2, d3] => { results := [.lit (.bool true)], args := [d1, d2, d3] }
  | _ => none }
def pullAnyRow : OpenClaim := { program := "ythjgnpelmigbeaa", sum := "3d0e32acf837b52c537ee7d84e497b26871fb372fd1670e6c1cc660a56c1871f", func := "grapevine/grapevinelaw18.PullAny", spec := "pullAny", inPlace := ["slices.overlaps[grapevine/api.Ask]"], unfollowed := true, recurses := true, plainKeys := false, apart := false }
def PullAnySaid : Prop := pullAnyRow.holds Try.pinned (OpenSpec.ofChange pullAnySpec)

/-- ITS FALSE NEIGHBOUR: 'it returns false'. Refute it at one input. -/
def pullAnyWrong : ChangeSpec := { name := "pullAny", fn := fun _ => fun
  | [d1, d2, d3] => { results := [.lit (.bool false)], args := [d1, d2, d3] }
  | _ => none }
def PullAnyWrongFalsely : Prop := pullAnyRow.holds Try.pinned (OpenSpec.ofChange pullAnyWrong)

/-- 'grapevinelaw18.PullTells': WHATEVER THE INPUT: true; the input reads as it did. -/
def pullTellsSpec : ChangeSpec := { name := "pullTells", fn := fun _ => fun
  | [d1, d2, d3] => { results := [.lit (.bool true)], args := [d1, d2, d3] }
  | _ => none }
def pullTellsRow : OpenClaim := { program := "ythjgnpelmigbeaa", sum := "3d0e32acf837b52c537ee7d84e497b26871fb372fd1670e6c1cc660a56c1871f", func := "grapevine/grapevinelaw18.PullTells", spec := "pullTells", inPlace := ["slices.overlaps[grapevine/api.Ask]"], unfollowed := true, recurses := true, plainKeys := false, apart := false }
def PullTellsSaid : Prop := pullTellsRow.holds Try.pinned (OpenSpec.ofChange pullTellsSpec)

/-- ITS FALSE NEIGHBOUR: 'it returns false'. Refute it at one input. -/
def pullTellsWrong : ChangeSpec := { name := "pullTells", fn := fun _ => fun
  | [d1, d2, d3] => { results := [.lit (.bool false)], args := [d1, d2, d3] }
  | _ => none }
def PullTellsWrongFalsely : Prop := pullTellsRow.holds Try.pinned (OpenSpec.ofChange pullTellsWrong)

/-- 'grapevinelaw18.PullKeeps': WHATEVER THE INPUT: true; the input reads as it did. -/
def pullKeepsSpec : ChangeSpec := { name := "pullKeeps", fn := fun _ => fun
  | [d1, d2] => { results := [.lit (.bool true)], args := [d1, d2] }
  | _ => none }
def pullKeepsRow : OpenClaim := { program := "ythjgnpelmigbeaa", sum := "3d0e32acf837b52c537ee7d84e497b26871fb372fd1670e6c1cc660a56c1871f", func := "grapevine/grapevinelaw18.PullKeeps", spec := "pullKeeps", inPlace := ["slices.overlaps[grapevine/api.Ask]"], unfollowed := true, recurses := true, plainKeys := false, apart := false }
def PullKeepsSaid : Prop := pullKeepsRow.holds Try.pinned (OpenSpec.ofChange pullKeepsSpec)

/-- ITS FALSE NEIGHBOUR: 'it returns false'. Refute it at one input. -/
def pullKeepsWrong : ChangeSpec := { name := "pullKeeps", fn := fun _ => fun
  | [d1, d2] => { results := [.lit (.bool false)], args := [d1, d2] }
  | _ => none }
def PullKeepsWrongFalsely : Prop := pullKeepsRow.holds Try.pinned (OpenSpec.ofChange pullKeepsWrong)

/-- 'grapevinelaw18.PullRight': WHATEVER THE INPUT: true; the input reads as it did. -/
def pullRightSpec : ChangeSpec := { name := "pullRight", fn := fun _ => fun
  | [d1, d2, d3] => { results := [.lit (.bool true)], args := [d1, d2, d3] }
  | _ => none }
def pullRightRow : OpenClaim := { program := "ythjgnpelmigbeaa", sum := "3d0e32acf837b52c537ee7d84e497b26871fb372fd1670e6c1cc660a56c1871f", func := "grapevine/grapevinelaw18.PullRight", spec := "pullRight", inPlace := ["slices.overlaps[grapevine/api.Ask]"], unfollowed := true, recurses := true, plainKeys := false, apart := false }
def PullRightSaid : Prop := pullRightRow.holds Try.pinned (OpenSpec.ofChange pullRightSpec)

/-- ITS FALSE NEIGHBOUR: 'it returns false'. Refute it at one input. -/
def pullRightWrong : ChangeSpec := { name := "pullRight", fn := fun _ => fun
  | [d1, d2, d3] => { results := [.lit (.bool false)], args := [d1, d2, d3] }
  | _ => none }
def PullRightWrongFalsely : Prop := pullRightRow.holds Try.pinned (OpenSpec.ofChange pullRightWrong)

/- THE SECOND FORM. 'bulk': how many values and letters a reading holds, each counted each time it is reached (what is shared counts as often as it is met; a slice's spare places count too). A statement '..UptoSaid' is the law's where the arguments, and the package variables that the reading takes, are together of bulk at most 1048576: NARROWER than '..Said'. Prove '..Said' where nothing that the law and all that it calls make is longer than what came in: it says more and counts as full. Else prove '..UptoSaid'. A law counts once. -/
mutual
def uptoBulk {H : Type} : DataW H → Nat
  | .lit (.string bytes) => bytes.length + 1
  | .lit _ => 1
  | .nil => 1
  | .ptr d => uptoBulk d + 1
  | .slice elems spare => uptoBulkAll elems + uptoBulkAll spare + 1
  | .agg parts => uptoBulkAll parts + 1
  | .iface _ d => uptoBulk d + 1
  | .map entries => uptoBulkEntries entries + 1
  | .held _ => 1
def uptoBulkAll {H : Type} : List (DataW H) → Nat
  | [] => 0
  | d :: r => uptoBulk d + uptoBulkAll r
def uptoBulkEntries {H : Type} : List (Lit × DataW H) → Nat
  | [] => 0
  | x :: r => uptoBulkEntry x + uptoBulkEntries r
def uptoBulkEntry {H : Type} : Lit × DataW H → Nat
  | (.string bytes, d) => bytes.length + uptoBulk d + 1
  | (_, d) => uptoBulk d + 1
 end
def uptoSmall : (H : Type) → List (DataW H) → Bool := fun _ ds => decide (uptoBulkAll ds ≤ 1048576)
def OpenSpec.upto (s : _root_.Go.ChangeSpec) : _root_.Go.OpenSpec := { _root_.Go.OpenSpec.ofChange s with cond := some uptoSmall }

/-- 'grapevinelaw18.PullEnds', WHERE WHAT IT READS IS OF BULK AT MOST 1048576: true; the input reads as it did. -/
def pullEndsUptoRow : OpenClaim := { program := "ythjgnpelmigbeaa", sum := "3d0e32acf837b52c537ee7d84e497b26871fb372fd1670e6c1cc660a56c1871f", func := "grapevine/grapevinelaw18.PullEnds", spec := "pullEnds", inPlace := ["slices.overlaps[grapevine/api.Ask]"], unfollowed := true, recurses := true, plainKeys := false, apart := false, narrowed := true }
def PullEndsUptoSaid : Prop := pullEndsUptoRow.holds Try.pinned (OpenSpec.upto pullEndsSpec)

/-- 'grapevinelaw18.PullAny', WHERE WHAT IT READS IS OF BULK AT MOST 1048576: true; the input reads as it did. -/
def pullAnyUptoRow : OpenClaim := { program := "ythjgnpelmigbeaa", sum := "3d0e32acf837b52c537ee7d84e497b26871fb372fd1670e6c1cc660a56c1871f", func := "grapevine/grapevinelaw18.PullAny", spec := "pullAny", inPlace := ["slices.overlaps[grapevine/api.Ask]"], unfollowed := true, recurses := true, plainKeys := false, apart := false, narrowed := true }
def PullAnyUptoSaid : Prop := pullAnyUptoRow.holds Try.pinned (OpenSpec.upto pullAnySpec)

/-- 'grapevinelaw18.PullTells', WHERE WHAT IT READS IS OF BULK AT MOST 1048576: true; the input reads as it did. -/
def pullTellsUptoRow : OpenClaim := { program := "ythjgnpelmigbeaa", sum := "3d0e32acf837b52c537ee7d84e497b26871fb372fd1670e6c1cc660a56c1871f", func := "grapevine/grapevinelaw18.PullTells", spec := "pullTells", inPlace := ["slices.overlaps[grapevine/api.Ask]"], unfollowed := true, recurses := true, plainKeys := false, apart := false, narrowed := true }
def PullTellsUptoSaid : Prop := pullTellsUptoRow.holds Try.pinned (OpenSpec.upto pullTellsSpec)

/-- 'grapevinelaw18.PullKeeps', WHERE WHAT IT READS IS OF BULK AT MOST 1048576: true; the input reads as it did. -/
def pullKeepsUptoRow : OpenClaim := { program := "ythjgnpelmigbeaa", sum := "3d0e32acf837b52c537ee7d84e497b26871fb372fd1670e6c1cc660a56c1871f", func := "grapevine/grapevinelaw18.PullKeeps", spec := "pullKeeps", inPlace := ["slices.overlaps[grapevine/api.Ask]"], unfollowed := true, recurses := true, plainKeys := false, apart := false, narrowed := true }
def PullKeepsUptoSaid : Prop := pullKeepsUptoRow.holds Try.pinned (OpenSpec.upto pullKeepsSpec)

/-- 'grapevinelaw18.PullRight', WHERE WHAT IT READS IS OF BULK AT MOST 1048576: true; the input reads as it did. -/
def pullRightUptoRow : OpenClaim := { program := "ythjgnpelmigbeaa", sum := "3d0e32acf837b52c537ee7d84e497b26871fb372fd1670e6c1cc660a56c1871f", func := "grapevine/grapevinelaw18.PullRight", spec := "pullRight", inPlace := ["slices.overlaps[grapevine/api.Ask]"], unfollowed := true, recurses := true, plainKeys := false, apart := false, narrowed := true }
def PullRightUptoSaid : Prop := pullRightUptoRow.holds Try.pinned (OpenSpec.upto pullRightSpec)

end Rows
end Go.Proofs.Ythjgnpelmigbeaa
