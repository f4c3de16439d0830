/-
  No cell of these rows narrows 'for every input' (looked for: loops, veiled, ifaces, maps, wideKeys, modest, calm, conditions, laid).
  DERIVED. THE GIVEN ROWS OF THIS SEAT. 10 by the template 'for every input the law returns true; each argument reads behind the call as it read before'; 0 by the template 'total and deterministic' (their statements: YtcfkcmalkbdphaaTotals.lean).
  GIVEN WITH THE SEED: the statements are not yours to turn. If you find one false, say at which input.
  Laid BY PROGRAM, IN A SANDBOX (cutbox-rows.mjs): the forced cells as the released guide's own fill.sh prints them over the translation 6b6ec947458233a7… (all of the seat's roots in one cut). By AI agents, Wed Nov 11 2026. No macro, syntax, notation, axiom, sorry.
-/
import Derived.Test.YtcfkcmalkbdphaaChecked
import GoSem.Claim
import GoSem.ClaimJoined
import GoSem.ClaimMapViews
import Derived.JoinedTies
import Derived.KernelRfl
namespace Go.Proofs.Ytcfkcmalkbdphaa
/- THE CELL 'sum', in the pinned program and in every row, IS THE sha256 OF THE DUMP (.gsa) THAT YtcfkcmalkbdphaaProg.lean LOADS. Nothing in Lean hashes anything: it is a label: what it is worth is what the hold of that sum in a sandbox is worth. -/
noncomputable def Try.pinned : Pinned := { name := "ytcfkcmalkbdphaa", sum := "6b6ec947458233a75b673a8d8b0b711739753574139d27786c86526f6ea17b4c", checked := Try.checked }
namespace Rows
def none {H : Type} : Left H := { results := [], args := [] }

/-- 'grapevinelaw09.DescAges': WHATEVER THE INPUT: true; the input reads as it did. -/
def descAgesSpec : ChangeSpec := { name := "descAges", fn := fun _ => fun
  | [d1, d2] => { results := [.lit (.bool true)], args := [d1, d2] }
  | _ => none }
def descAgesRow : OpenClaim := { program := "ytcfkcmalkbdphaa", sum := "6b6ec947458233a75b673a8d8b0b711739753574139d27786c86526f6ea17b4c", func := "grapevine/grapevinelaw09.DescAges", spec := "descAges", inPlace := ["slices.overlaps[grapevine/api.Desc]"], unfollowed := true, recurses := true, apart := false }
def DescAgesSaid : Prop := descAgesRow.holds Try.pinned (OpenSpec.ofChange descAgesSpec)

/-- ITS FALSE NEIGHBOUR: 'it returns false'. Refute it at one input. -/
def descAgesWrong : ChangeSpec := { name := "descAges", fn := fun _ => fun
  | [d1, d2] => { results := [.lit (.bool false)], args := [d1, d2] }
  | _ => none }
def DescAgesWrongFalsely : Prop := descAgesRow.holds Try.pinned (OpenSpec.ofChange descAgesWrong)

/-- 'grapevinelaw09.DescApart': WHATEVER THE INPUT: true; the input reads as it did. -/
def descApartSpec : ChangeSpec := { name := "descApart", fn := fun _ => fun
  | [d1, d2, d3] => { results := [.lit (.bool true)], args := [d1, d2, d3] }
  | _ => none }
def descApartRow : OpenClaim := { program := "ytcfkcmalkbdphaa", sum := "6b6ec947458233a75b673a8d8b0b711739753574139d27786c86526f6ea17b4c", func := "grapevine/grapevinelaw09.DescApart", spec := "descApart", inPlace := ["slices.overlaps[grapevine/api.Desc]"], unfollowed := true, recurses := true, apart := false }
def DescApartSaid : Prop := descApartRow.holds Try.pinned (OpenSpec.ofChange descApartSpec)

/-- ITS FALSE NEIGHBOUR: 'it returns false'. Refute it at one input. -/
def descApartWrong : ChangeSpec := { name := "descApart", fn := fun _ => fun
  | [d1, d2, d3] => { results := [.lit (.bool false)], args := [d1, d2, d3] }
  | _ => none }
def DescApartWrongFalsely : Prop := descApartRow.holds Try.pinned (OpenSpec.ofChange descApartWrong)

/-- 'grapevinelaw09.DescTells': WHATEVER THE INPUT: true; the input reads as it did. -/
def descTellsSpec : ChangeSpec := { name := "descTells", fn := fun _ => fun
  | [d1, d2, d3, d4, d5] => { results := [.lit (.bool true)], args := [d1, d2, d3, d4, d5] }
  | _ => none }
def descTellsRow : OpenClaim := { program := "ytcfkcmalkbdphaa", sum := "6b6ec947458233a75b673a8d8b0b711739753574139d27786c86526f6ea17b4c", func := "grapevine/grapevinelaw09.DescTells", spec := "descTells", inPlace := ["slices.overlaps[grapevine/api.Desc]"], unfollowed := true, recurses := true, apart := false }
def DescTellsSaid : Prop := descTellsRow.holds Try.pinned (OpenSpec.ofChange descTellsSpec)

/-- ITS FALSE NEIGHBOUR: 'it returns false'. Refute it at one input. -/
def descTellsWrong : ChangeSpec := { name := "descTells", fn := fun _ => fun
  | [d1, d2, d3, d4, d5] => { results := [.lit (.bool false)], args := [d1, d2, d3, d4, d5] }
  | _ => none }
def DescTellsWrongFalsely : Prop := descTellsRow.holds Try.pinned (OpenSpec.ofChange descTellsWrong)

/-- 'grapevinelaw09.DescBounds': WHATEVER THE INPUT: true; the input reads as it did. -/
def descBoundsSpec : ChangeSpec := { name := "descBounds", fn := fun _ => fun
  | [d1, d2, d3, d4, d5] => { results := [.lit (.bool true)], args := [d1, d2, d3, d4, d5] }
  | _ => none }
def descBoundsRow : OpenClaim := { program := "ytcfkcmalkbdphaa", sum := "6b6ec947458233a75b673a8d8b0b711739753574139d27786c86526f6ea17b4c", func := "grapevine/grapevinelaw09.DescBounds", spec := "descBounds", inPlace := ["slices.overlaps[grapevine/api.Desc]"], unfollowed := true, recurses := true, apart := false }
def DescBoundsSaid : Prop := descBoundsRow.holds Try.pinned (OpenSpec.ofChange descBoundsSpec)

/-- ITS FALSE NEIGHBOUR: 'it returns false'. Refute it at one input. -/
def descBoundsWrong : ChangeSpec := { name := "descBounds", fn := fun _ => fun
  | [d1, d2, d3, d4, d5] => { results := [.lit (.bool false)], args := [d1, d2, d3, d4, d5] }
  | _ => none }
def DescBoundsWrongFalsely : Prop := descBoundsRow.holds Try.pinned (OpenSpec.ofChange descBoundsWrong)

/-- 'grapevinelaw09.DescNewer': WHATEVER THE INPUT: true; the input reads as it did. -/
def descNewerSpec : ChangeSpec := { name := "descNewer", fn := fun _ => fun
  | [d1, d2, d3, d4] => { results := [.lit (.bool true)], args := [d1, d2, d3, d4] }
  | _ => none }
def descNewerRow : OpenClaim := { program := "ytcfkcmalkbdphaa", sum := "6b6ec947458233a75b673a8d8b0b711739753574139d27786c86526f6ea17b4c", func := "grapevine/grapevinelaw09.DescNewer", spec := "descNewer", inPlace := ["slices.overlaps[grapevine/api.Desc]"], unfollowed := true, recurses := true, apart := false }
def DescNewerSaid : Prop := descNewerRow.holds Try.pinned (OpenSpec.ofChange descNewerSpec)

/-- ITS FALSE NEIGHBOUR: 'it returns false'. Refute it at one input. -/
def descNewerWrong : ChangeSpec := { name := "descNewer", fn := fun _ => fun
  | [d1, d2, d3, d4] => { results := [.lit (.bool false)], args := [d1, d2, d3, d4] }
  | _ => none }
def DescNewerWrongFalsely : Prop := descNewerRow.holds Try.pinned (OpenSpec.ofChange descNewerWrong)

/-- 'grapevinelaw11.SampleTells': WHATEVER THE INPUT: true; the input reads as it did. -/
def sampleTellsSpec : ChangeSpec := { name := "sampleTells", fn := fun _ => fun
  | [d1, d2, d3, d4, d5, d6, d7, d8, d9, d10] => { results := [.lit (.bool true)], args := [d1, d2, d3, d4, d5, d6, d7, d8, d9, d10] }
  | _ => none }
def sampleTellsRow : OpenClaim := { program := "ytcfkcmalkbdphaa", sum := "6b6ec947458233a75b673a8d8b0b711739753574139d27786c86526f6ea17b4c", func := "grapevine/grapevinelaw11.SampleTells", spec := "sampleTells", inPlace := ["slices.overlaps[grapevine/api.Desc]"], unfollowed := true, recurses := true, apart := false }
def SampleTellsSaid : Prop := sampleTellsRow.holds Try.pinned (OpenSpec.ofChange sampleTellsSpec)

/-- ITS FALSE NEIGHBOUR: 'it returns false'. Refute it at one input. -/
def sampleTellsWrong : ChangeSpec := { name := "sampleTells", fn := fun _ => fun
  | [d1, d2, d3, d4, d5, d6, d7, d8, d9, d10] => { results := [.lit (.bool false)], args := [d1, d2, d3, d4, d5, d6, d7, d8, d9, d10] }
  | _ => none }
def SampleTellsWrongFalsely : Prop := sampleTellsRow.holds Try.pinned (OpenSpec.ofChange sampleTellsWrong)

/-- 'grapevinelaw11.SampleWait': WHATEVER THE INPUT: true; the input reads as it did. -/
def sampleWaitSpec : ChangeSpec := { name := "sampleWait", fn := fun _ => fun
  | [d1, d2, d3, d4, d5] => { results := [.lit (.bool true)], args := [d1, d2, d3, d4, d5] }
  | _ => none }
def sampleWaitRow : OpenClaim := { program := "ytcfkcmalkbdphaa", sum := "6b6ec947458233a75b673a8d8b0b711739753574139d27786c86526f6ea17b4c", func := "grapevine/grapevinelaw11.SampleWait", spec := "sampleWait", inPlace := ["slices.overlaps[grapevine/api.Desc]"], unfollowed := true, recurses := true, apart := false }
def SampleWaitSaid : Prop := sampleWaitRow.holds Try.pinned (OpenSpec.ofChange sampleWaitSpec)

/-- ITS FALSE NEIGHBOUR: 'it returns false'. Refute it at one input. -/
def sampleWaitWrong : ChangeSpec := { name := "sampleWait", fn := fun _ => fun
  | [d1, d2, d3, d4, d5] => { results := [.lit (.bool false)], args := [d1, d2, d3, d4, d5] }
  | _ => none }
def SampleWaitWrongFalsely : Prop := sampleWaitRow.holds Try.pinned (OpenSpec.ofChange sampleWaitWrong)

/-- 'grapevinelaw11.SampleApart': WHATEVER THE INPUT: true; the input reads as it did. -/
def sampleApartSpec : ChangeSpec := { name := "sampleApart", fn := fun _ => fun
  | [d1, d2, d3, d4] => { results := [.lit (.bool true)], args := [d1, d2, d3, d4] }
  | _ => none }
def sampleApartRow : OpenClaim := { program := "ytcfkcmalkbdphaa", sum := "6b6ec947458233a75b673a8d8b0b711739753574139d27786c86526f6ea17b4c", func := "grapevine/grapevinelaw11.SampleApart", spec := "sampleApart", inPlace := ["slices.overlaps[grapevine/api.Desc]"], unfollowed := true, recurses := true, apart := false }
def SampleApartSaid : Prop := sampleApartRow.holds Try.pinned (OpenSpec.ofChange sampleApartSpec)

/-- ITS FALSE NEIGHBOUR: 'it returns false'. Refute it at one input. -/
def sampleApartWrong : ChangeSpec := { name := "sampleApart", fn := fun _ => fun
  | [d1, d2, d3, d4] => { results := [.lit (.bool false)], args := [d1, d2, d3, d4] }
  | _ => none }
def SampleApartWrongFalsely : Prop := sampleApartRow.holds Try.pinned (OpenSpec.ofChange sampleApartWrong)

/-- 'grapevinelaw11.SampleAdmit': WHATEVER THE INPUT: true; the input reads as it did. -/
def sampleAdmitSpec : ChangeSpec := { name := "sampleAdmit", fn := fun _ => fun
  | [d1, d2, d3, d4] => { results := [.lit (.bool true)], args := [d1, d2, d3, d4] }
  | _ => none }
def sampleAdmitRow : OpenClaim := { program := "ytcfkcmalkbdphaa", sum := "6b6ec947458233a75b673a8d8b0b711739753574139d27786c86526f6ea17b4c", func := "grapevine/grapevinelaw11.SampleAdmit", spec := "sampleAdmit", inPlace := ["slices.overlaps[grapevine/api.Desc]"], unfollowed := true, recurses := true, apart := false }
def SampleAdmitSaid : Prop := sampleAdmitRow.holds Try.pinned (OpenSpec.ofChange sampleAdmitSpec)

/-- ITS FALSE NEIGHBOUR: 'it returns false'. Refute it at one input. -/
def sampleAdmitWrong : ChangeSpec := { name := "sampleAdmit", fn := fun _ => fun
  | [d1, d2, d3, d4] => { results := [.lit (.bool false)], args := [d1, d2, d3, d4] }
  | _ => none }
def SampleAdmitWrongFalsely : Prop := sampleAdmitRow.holds Try.pinned (OpenSpec.ofChange sampleAdmitWrong)

/-- 'grapevinelaw11.SampleFill': WHATEVER THE INPUT: true; the input reads as it did. -/
def sampleFillSpec : ChangeSpec := { name := "sampleFill", fn := fun _ => fun
  | [d1, d2, d3, d4] => { results := [.lit (.bool true)], args := [d1, d2, d3, d4] }
  | _ => none }
def sampleFillRow : OpenClaim := { program := "ytcfkcmalkbdphaa", sum := "6b6ec947458233a75b673a8d8b0b711739753574139d27786c86526f6ea17b4c", func := "grapevine/grapevinelaw11.SampleFill", spec := "sampleFill", inPlace := ["slices.overlaps[grapevine/api.Desc]"], unfollowed := true, recurses := true, apart := false }
def SampleFillSaid : Prop := sampleFillRow.holds Try.pinned (OpenSpec.ofChange sampleFillSpec)

/-- ITS FALSE NEIGHBOUR: 'it returns false'. Refute it at one input. -/
def sampleFillWrong : ChangeSpec := { name := "sampleFill", fn := fun _ => fun
  | [d1, d2, d3, d4] => { results := [.lit (.bool false)], args := [d1, d2, d3, d4] }
  | _ => none }
def SampleFillWrongFalsely : Prop := sampleFillRow.holds Try.pinned (OpenSpec.ofChange sampleFillWrong)

/- THE SECOND FORM. 'bulk': how many values and letters a reading holds, each counted each time it is reached (what is shared counts as often as it is met; a slice's spare places count too). A statement '..UptoSaid' is the law's where the arguments, and the package variables that the reading takes, are together of bulk at most 1048576: NARROWER than '..Said'. Prove '..Said' where nothing that the law and all that it calls make is longer than what came in: it says more and counts as full. Else prove '..UptoSaid'. A law counts once. -/
mutual
def uptoBulk {H : Type} : DataW H → Nat
  | .lit (.string bytes) => bytes.length + 1
  | .lit _ => 1
  | .nil => 1
  | .ptr d => uptoBulk d + 1
  | .slice elems spare => uptoBulkAll elems + uptoBulkAll spare + 1
  | .agg parts => uptoBulkAll parts + 1
  | .iface _ d => uptoBulk d + 1
  | .map entries => uptoBulkEntries entries + 1
  | .held _ => 1
def uptoBulkAll {H : Type} : List (DataW H) → Nat
  | [] => 0
  | d :: r => uptoBulk d + uptoBulkAll r
def uptoBulkEntries {H : Type} : List (Lit × DataW H) → Nat
  | [] => 0
  | x :: r => uptoBulkEntry x + uptoBulkEntries r
def uptoBulkEntry {H : Type} : Lit × DataW H → Nat
  | (.string bytes, d) => bytes.length + uptoBulk d + 1
  | (_, d) => uptoBulk d + 1
 end
def uptoSmall : (H : Type) → List (DataW H) → Bool := fun _ ds => decide (uptoBulkAll ds ≤ 1048576)
def OpenSpec.upto (s : _root_.Go.ChangeSpec) : _root_.Go.OpenSpec := { _root_.Go.OpenSpec.ofChange s with cond := some uptoSmall }

/-- 'grapevinelaw09.DescAges', WHERE WHAT IT READS IS OF BULK AT MOST 1048576: true; the input reads as it did. -/
def descAgesUptoRow : OpenClaim := { program := "ytcfkcmalkbdphaa", sum := "6b6ec947458233a75b673a8d8b0b711739753574139d27786c86526f6ea17b4c", func := "grapevine/grapevinelaw09.DescAges", spec := "descAges", inPlace := ["slices.overlaps[grapevine/api.Desc]"], unfollowed := true, recurses := true, apart := false, narrowed := true }
def DescAgesUptoSaid : Prop := descAgesUptoRow.holds Try.pinned (OpenSpec.upto descAgesSpec)

/-- 'grapevinelaw09.DescApart', WHERE WHAT IT READS IS OF BULK AT MOST 1048576: true; the input reads as it did. -/
def descApartUptoRow : OpenClaim := { program := "ytcfkcmalkbdphaa", sum := "6b6ec947458233a75b673a8d8b0b711739753574139d27786c86526f6ea17b4c", func := "grapevine/grapevinelaw09.DescApart", spec := "descApart", inPlace := ["slices.overlaps[grapevine/api.Desc]"], unfollowed := true, recurses := true, apart := false, narrowed := true }
def DescApartUptoSaid : Prop := descApartUptoRow.holds Try.pinned (OpenSpec.upto descApartSpec)

/-- 'grapevinelaw09.DescTells', WHERE WHAT IT READS IS OF BULK AT MOST 1048576: true; the input reads as it did. -/
def descTellsUptoRow : OpenClaim := { program := "ytcfkcmalkbdphaa", sum := "6b6ec947458233a75b673a8d8b0b711739753574139d27786c86526f6ea17b4c", func := "grapevine/grapevinelaw09.DescTells", spec := "descTells", inPlace := ["slices.overlaps[grapevine/api.Desc]"], unfollowed := true, recurses := true, apart := false, narrowed := true }
def DescTellsUptoSaid : Prop := descTellsUptoRow.holds Try.pinned (OpenSpec.upto descTellsSpec)

/-- 'grapevinelaw09.DescBounds', WHERE WHAT IT READS IS OF BULK AT MOST 1048576: true; the input reads as it did. -/
def descBoundsUptoRow : OpenClaim := { program := "ytcfkcmalkbdphaa", sum := "6b6ec947458233a75b673a8d8b0b711739753574139d27786c86526f6ea17b4c", func := "grapevine/grapevinelaw09.DescBounds", spec := "descBounds", inPlace := ["slices.overlaps[grapevine/api.Desc]"], unfollowed := true, recurses := true, apart := false, narrowed := true }
def DescBoundsUptoSaid : Prop := descBoundsUptoRow.holds Try.pinned (OpenSpec.upto descBoundsSpec)

/-- 'grapevinelaw09.DescNewer', WHERE WHAT IT READS IS OF BULK AT MOST 1048576: true; the input reads as it did. -/
def descNewerUptoRow : OpenClaim := { program := "ytcfkcmalkbdphaa", sum := "6b6ec947458233a75b673a8d8b0b711739753574139d27786c86526f6ea17b4c", func := "grapevine/grapevinelaw09.DescNewer", spec := "descNewer", inPlace := ["slices.overlaps[grapevine/api.Desc]"], unfollowed := true, recurses := true, apart := false, narrowed := true }
def DescNewerUptoSaid : Prop := descNewerUptoRow.holds Try.pinned (OpenSpec.upto descNewerSpec)

/-- 'grapevinelaw11.SampleTells', WHERE WHAT IT READS IS OF BULK AT MOST 1048576: true; the input reads as it did. -/
def sampleTellsUptoRow : OpenClaim := { program := "ytcfkcmalkbdphaa", sum := "6b6ec947458233a75b673a8d8b0b711739753574139d27786c86526f6ea17b4c", func := "grapevine/grapevinelaw11.SampleTells", spec := "sampleTells", inPlace := ["slices.overlaps[grapevine/api.Desc]"], unfollowed := true, recurses := true, apart := false, narrowed := true }
def SampleTellsUptoSaid : Prop := sampleTellsUptoRow.holds Try.pinned (OpenSpec.upto sampleTellsSpec)

/-- 'grapevinelaw11.SampleWait', WHERE WHAT IT READS IS OF BULK AT MOST 1048576: true; the input reads as it did. -/
def sampleWaitUptoRow : OpenClaim := { program := "ytcfkcmalkbdphaa", sum := "6b6ec947458233a75b673a8d8b0b711739753574139d27786c86526f6ea17b4c", func := "grapevine/grapevinelaw11.SampleWait", spec := "sampleWait", inPlace := ["slices.overlaps[grapevine/api.Desc]"], unfollowed := true, recurses := true, apart := false, narrowed := true }
def SampleWaitUptoSaid : Prop := sampleWaitUptoRow.holds Try.pinned (OpenSpec.upto sampleWaitSpec)

/-- 'grapevinelaw11.SampleApart', WHERE WHAT IT READS IS OF BULK AT MOST 1048576: true; the input reads as it did. -/
def sampleApartUptoRow : OpenClaim := { program := "ytcfkcmalkbdphaa", sum := "6b6ec947458233a75b673a8d8b0b711739753574139d27786c86526f6ea17b4c", func := "grapevine/grapevinelaw11.SampleApart", spec := "sampleApart", inPlace := ["slices.overlaps[grapevine/api.Desc]"], unfollowed := true, recurses := true, apart := false, narrowed := true }
def SampleApartUptoSaid : Prop := sampleApartUptoRow.holds Try.pinned (OpenSpec.upto sampleApartSpec)

/-- 'grapevinelaw11.SampleAdmit', WHERE WHAT IT READS IS OF BULK AT MOST 1048576: true; the input reads as it did. -/
def sampleAdmitUptoRow : OpenClaim := { program := "ytcfkcmalkbdphaa", sum := "6b6ec947458233a75b673a8d8b0b711739753574139d27786c86526f6ea17b4c", func := "grapevine/grapevinelaw11.SampleAdmit", spec := "sampleAdmit", inPlace := ["slices.overlaps[grapevine/api.Desc]"], unfollowed := true, recurses := true, apart := false, narrowed := true }
def SampleAdmitUptoSaid : Prop := sampleAdmitUptoRow.holds Try.pinned (OpenSpec.upto sampleAdmitSpec)

/-- 'grapevinelaw11.SampleFill', WHERE WHAT IT READS IS OF BULK AT MOST 1048576: true; the input reads as it did. -/
def sampleFillUptoRow : OpenClaim := { program := "ytcfkcmalkbdphaa", sum := "6b6ec947458233a75b673a8d8b0b711739753574139d27786c86526f6ea17b4c", func := "grapevine/grapevinelaw11.SampleFill", spec := "sampleFill", inPlace := ["slices.overlaps[grapevine/api.Desc]"], unfollowed := true, recurses := true, apart := false, narrowed := true }
def SampleFillUptoSaid : Prop := sampleFillUptoRow.holds Try.pinned (OpenSpec.upto sampleFillSpec)

end Rows
end Go.Proofs.Ytcfkcmalkbdphaa
