/-
  No cell of these rows narrows 'for every input' (looked for: loops, veiled, ifaces, maps, wideKeys, modest, calm, conditions, laid).
  DERIVED. THE GIVEN ROWS OF THIS SEAT. 6 by the template 'for every input the law returns true; each argument reads behind the call as it read before'; 0 by the template 'total and deterministic' (their statements: YtfffnkgdpbaakaaGreatTotals.lean).
  GIVEN WITH THE SEED: the statements are not yours to turn. If you find one false, say at which input.
  Laid BY PROGRAM, IN A SANDBOX (cutbox-rows.mjs): the forced cells as the released guide's own fill.sh prints them over the translation 756c9f06b2cc095e… (all of the seat's roots in one cut). By AI agents, Wed Nov 11 2026. No macro, syntax, notation, axiom, sorry.
-/
import Derived.Test.YtfffnkgdpbaakaaGreatChecked
import GoSem.Claim
import GoSem.ClaimJoined
import GoSem.ClaimMapViews
import Derived.JoinedTies
import Derived.KernelRfl
namespace Go.Proofs.YtfffnkgdpbaakaaGreat
/- THE CELL 'sum', in the pinned program and in every row, IS THE sha256 OF THE DUMP (.gsa) THAT YtfffnkgdpbaakaaGreatProg.lean LOADS. Nothing in Lean hashes anything: it is a label: what it is worth is what the hold of that sum in a sandbox is worth. -/
noncomputable def Tryz.pinned : Pinned := { name := "ytfffnkgdpbaakaagreat", sum := "756c9f06b2cc095e9b30b1d8bd371e4e520dd8374589c2e69c9b31f4962277ce", checked := Tryz.checked }
namespace Rows
def none {H : Type} : Left H := { results := [], args := [] }

/-- 'hedgerowlaw18.AdjPaths': WHATEVER THE INPUT: true; the input reads as it did. -/
def adjPathsSpec : ChangeSpec := { name := "adjPaths", fn := fun _ => fun
  | [d1, d2, d3] => { results := [.lit (.bool true)], args := [d1, d2, d3] }
  | _ => none }
def adjPathsRow : OpenClaim := { program := "ytfffnkgdpbaakaagreat", sum := "756c9f06b2cc095e9b30b1d8bd371e4e520dd8374589c2e69c9b31f4962277ce", func := "hedgerow/hedgerowlaw18.AdjPaths", spec := "adjPaths", inPlace := ["slices.overlaps[hedgerow/api.Prop]"], unfollowed := true, recurses := true, apart := false }
def AdjPathsSaid : Prop := adjPathsRow.holds Tryz.pinned (OpenSpec.ofChange adjPathsSpec)

/-- ITS FALSE NEIGHBOUR: 'it returns false'. Refute it at one input. -/
def adjPathsWrong : ChangeSpec := { name := "adjPaths", fn := fun _ => fun
  | [d1, d2, d3] => { results := [.lit (.bool false)], args := [d1, d2, d3] }
  | _ => none }
def AdjPathsWrongFalsely : Prop := adjPathsRow.holds Tryz.pinned (OpenSpec.ofChange adjPathsWrong)

/-- 'hedgerowlaw18.AdjGrows': WHATEVER THE INPUT: true; the input reads as it did. -/
def adjGrowsSpec : ChangeSpec := { name := "adjGrows", fn := fun _ => fun
  | [d1, d2, d3] => { results := [.lit (.bool true)], args := [d1, d2, d3] }
  | _ => none }
def adjGrowsRow : OpenClaim := { program := "ytfffnkgdpbaakaagreat", sum := "756c9f06b2cc095e9b30b1d8bd371e4e520dd8374589c2e69c9b31f4962277ce", func := "hedgerow/hedgerowlaw18.AdjGrows", spec := "adjGrows", inPlace := ["slices.overlaps[hedgerow/api.Prop]"], unfollowed := true, recurses := true, apart := false }
def AdjGrowsSaid : Prop := adjGrowsRow.holds Tryz.pinned (OpenSpec.ofChange adjGrowsSpec)

/-- ITS FALSE NEIGHBOUR: 'it returns false'. Refute it at one input. -/
def adjGrowsWrong : ChangeSpec := { name := "adjGrows", fn := fun _ => fun
  | [d1, d2, d3] => { results := [.lit (.bool false)], args := [d1, d2, d3] }
  | _ => none }
def AdjGrowsWrongFalsely : Prop := adjGrowsRow.holds Tryz.pinned (OpenSpec.ofChange adjGrowsWrong)

/-- 'hedgerowlaw18.AdjLeads': WHATEVER THE INPUT: true; the input reads as it did. -/
def adjLeadsSpec : ChangeSpec := { name := "adjLeads", fn := fun _ => fun
  | [d1, d2, d3] => { results := [.lit (.bool true)], args := [d1, d2, d3] }
  | _ => none }
def adjLeadsRow : OpenClaim := { program := "ytfffnkgdpbaakaagreat", sum := "756c9f06b2cc095e9b30b1d8bd371e4e520dd8374589c2e69c9b31f4962277ce", func := "hedgerow/hedgerowlaw18.AdjLeads", spec := "adjLeads", inPlace := ["slices.overlaps[hedgerow/api.Prop]"], unfollowed := true, recurses := true, apart := false }
def AdjLeadsSaid : Prop := adjLeadsRow.holds Tryz.pinned (OpenSpec.ofChange adjLeadsSpec)

/-- ITS FALSE NEIGHBOUR: 'it returns false'. Refute it at one input. -/
def adjLeadsWrong : ChangeSpec := { name := "adjLeads", fn := fun _ => fun
  | [d1, d2, d3] => { results := [.lit (.bool false)], args := [d1, d2, d3] }
  | _ => none }
def AdjLeadsWrongFalsely : Prop := adjLeadsRow.holds Tryz.pinned (OpenSpec.ofChange adjLeadsWrong)

/-- 'hedgerowlaw18.AdjNone': WHATEVER THE INPUT: true; the input reads as it did. -/
def adjNoneSpec : ChangeSpec := { name := "adjNone", fn := fun _ => fun
  | [d] => { results := [.lit (.bool true)], args := [d] }
  | _ => none }
def adjNoneRow : OpenClaim := { program := "ytfffnkgdpbaakaagreat", sum := "756c9f06b2cc095e9b30b1d8bd371e4e520dd8374589c2e69c9b31f4962277ce", func := "hedgerow/hedgerowlaw18.AdjNone", spec := "adjNone", inPlace := ["slices.overlaps[hedgerow/api.Prop]"], unfollowed := true, recurses := true, apart := false }
def AdjNoneSaid : Prop := adjNoneRow.holds Tryz.pinned (OpenSpec.ofChange adjNoneSpec)

/-- ITS FALSE NEIGHBOUR: 'it returns false'. Refute it at one input. -/
def adjNoneWrong : ChangeSpec := { name := "adjNone", fn := fun _ => fun
  | [d] => { results := [.lit (.bool false)], args := [d] }
  | _ => none }
def AdjNoneWrongFalsely : Prop := adjNoneRow.holds Tryz.pinned (OpenSpec.ofChange adjNoneWrong)

/-- 'hedgerowlaw18.AdjDegrees': WHATEVER THE INPUT: true; the input reads as it did. -/
def adjDegreesSpec : ChangeSpec := { name := "adjDegrees", fn := fun _ => fun
  | [d1, d2] => { results := [.lit (.bool true)], args := [d1, d2] }
  | _ => none }
def adjDegreesRow : OpenClaim := { program := "ytfffnkgdpbaakaagreat", sum := "756c9f06b2cc095e9b30b1d8bd371e4e520dd8374589c2e69c9b31f4962277ce", func := "hedgerow/hedgerowlaw18.AdjDegrees", spec := "adjDegrees", inPlace := ["slices.overlaps[hedgerow/api.Prop]"], unfollowed := true, recurses := true, apart := false }
def AdjDegreesSaid : Prop := adjDegreesRow.holds Tryz.pinned (OpenSpec.ofChange adjDegreesSpec)

/-- ITS FALSE NEIGHBOUR: 'it returns false'. Refute it at one input. -/
def adjDegreesWrong : ChangeSpec := { name := "adjDegrees", fn := fun _ => fun
  | [d1, d2] => { results := [.lit (.bool false)], args := [d1, d2] }
  | _ => none }
def AdjDegreesWrongFalsely : Prop := adjDegreesRow.holds Tryz.pinned (OpenSpec.ofChange adjDegreesWrong)

/-- 'hedgerowlaw18.AdjTells': WHATEVER THE INPUT: true; the input reads as it did. -/
def adjTellsSpec : ChangeSpec := { name := "adjTells", fn := fun _ => fun
  | [d1, d2, d3] => { results := [.lit (.bool true)], args := [d1, d2, d3] }
  | _ => none }
def adjTellsRow : OpenClaim := { program := "ytfffnkgdpbaakaagreat", sum := "756c9f06b2cc095e9b30b1d8bd371e4e520dd8374589c2e69c9b31f4962277ce", func := "hedgerow/hedgerowlaw18.AdjTells", spec := "adjTells", inPlace := ["slices.overlaps[hedgerow/api.Prop]"], unfollowed := true, recurses := true, apart := false }
def AdjTellsSaid : Prop := adjTellsRow.holds Tryz.pinned (OpenSpec.ofChange adjTellsSpec)

/-- ITS FALSE NEIGHBOUR: 'it returns false'. Refute it at one input. -/
def adjTellsWrong : ChangeSpec := { name := "adjTells", fn := fun _ => fun
  | [d1, d2, d3] => { results := [.lit (.bool false)], args := [d1, d2, d3] }
  | _ => none }
def AdjTellsWrongFalsely : Prop := adjTellsRow.holds Tryz.pinned (OpenSpec.ofChange adjTellsWrong)

/- THE SECOND FORM. 'bulk': how many values and letters a reading holds, each counted each time it is reached (what is shared counts as often as it is met; a slice's spare places count too). A statement '..UptoSaid' is the law's where the arguments, and the package variables that the reading takes, are together of bulk at most 1048576: NARROWER than '..Said'. Prove '..Said' where nothing that the law and all that it calls make is longer than what came in: it says more and counts as full. Else prove '..UptoSaid'. A law counts once. -/
mutual
def uptoBulk {H : Type} : DataW H → Nat
  | .lit (.string bytes) => bytes.length + 1
  | .lit _ => 1
  | .nil => 1
  | .ptr d => uptoBulk d + 1
  | .slice elems spare => uptoBulkAll elems + uptoBulkAll spare + 1
  | .agg parts => uptoBulkAll parts + 1
  | .iface _ d => uptoBulk d + 1
  | .map entries => uptoBulkEntries entries + 1
  | .held _ => 1
def uptoBulkAll {H : Type} : List (DataW H) → Nat
  | [] => 0
  | d :: r => uptoBulk d + uptoBulkAll r
def uptoBulkEntries {H : Type} : List (Lit × DataW H) → Nat
  | [] => 0
  | x :: r => uptoBulkEntry x + uptoBulkEntries r
def uptoBulkEntry {H : Type} : Lit × DataW H → Nat
  | (.string bytes, d) => bytes.length + uptoBulk d + 1
  | (_, d) => uptoBulk d + 1
 end
def uptoSmall : (H : Type) → List (DataW H) → Bool := fun _ ds => decide (uptoBulkAll ds ≤ 1048576)
def OpenSpec.upto (s : _root_.Go.ChangeSpec) : _root_.Go.OpenSpec := { _root_.Go.OpenSpec.ofChange s with cond := some uptoSmall }

/-- 'hedgerowlaw18.AdjPaths', WHERE WHAT IT READS IS OF BULK AT MOST 1048576: true; the input reads as it did. -/
def adjPathsUptoRow : OpenClaim := { program := "ytfffnkgdpbaakaagreat", sum := "756c9f06b2cc095e9b30b1d8bd371e4e520dd8374589c2e69c9b31f4962277ce", func := "hedgerow/hedgerowlaw18.AdjPaths", spec := "adjPaths", inPlace := ["slices.overlaps[hedgerow/api.Prop]"], unfollowed := true, recurses := true, apart := false, narrowed := true }
def AdjPathsUptoSaid : Prop := adjPathsUptoRow.holds Tryz.pinned (OpenSpec.upto adjPathsSpec)

/-- 'hedgerowlaw18.AdjGrows', WHERE WHAT IT READS IS OF BULK AT MOST 1048576: true; the input reads as it did. -/
def adjGrowsUptoRow : OpenClaim := { program := "ytfffnkgdpbaakaagreat", sum := "756c9f06b2cc095e9b30b1d8bd371e4e520dd8374589c2e69c9b31f4962277ce", func := "hedgerow/hedgerowlaw18.AdjGrows", spec := "adjGrows", inPlace := ["slices.overlaps[hedgerow/api.Prop]"], unfollowed := true, recurses := true, apart := false, narrowed := true }
def AdjGrowsUptoSaid : Prop := adjGrowsUptoRow.holds Tryz.pinned (OpenSpec.upto adjGrowsSpec)

/-- 'hedgerowlaw18.AdjLeads', WHERE WHAT IT READS IS OF BULK AT MOST 1048576: true; the input reads as it did. -/
def adjLeadsUptoRow : OpenClaim := { program := "ytfffnkgdpbaakaagreat", sum := "756c9f06b2cc095e9b30b1d8bd371e4e520dd8374589c2e69c9b31f4962277ce", func := "hedgerow/hedgerowlaw18.AdjLeads", spec := "adjLeads", inPlace := ["slices.overlaps[hedgerow/api.Prop]"], unfollowed := true, recurses := true, apart := false, narrowed := true }
def AdjLeadsUptoSaid : Prop := adjLeadsUptoRow.holds Tryz.pinned (OpenSpec.upto adjLeadsSpec)

/-- 'hedgerowlaw18.AdjNone', WHERE WHAT IT READS IS OF BULK AT MOST 1048576: true; the input reads as it did. -/
def adjNoneUptoRow : OpenClaim := { program := "ytfffnkgdpbaakaagreat", sum := "756c9f06b2cc095e9b30b1d8bd371e4e520dd8374589c2e69c9b31f4962277ce", func := "hedgerow/hedgerowlaw18.AdjNone", spec := "adjNone", inPlace := ["slices.overlaps[hedgerow/api.Prop]"], unfollowed := true, recurses := true, apart := false, narrowed := true }
def AdjNoneUptoSaid : Prop := adjNoneUptoRow.holds Tryz.pinned (OpenSpec.upto adjNoneSpec)

/-- 'hedgerowlaw18.AdjDegrees', WHERE WHAT IT READS IS OF BULK AT MOST 1048576: true; the input reads as it did. -/
def adjDegreesUptoRow : OpenClaim := { program := "ytfffnkgdpbaakaagreat", sum := "756c9f06b2cc095e9b30b1d8bd371e4e520dd8374589c2e69c9b31f4962277ce", func := "hedgerow/hedgerowlaw18.AdjDegrees", spec := "adjDegrees", inPlace := ["slices.overlaps[hedgerow/api.Prop]"], unfollowed := true, recurses := true, apart := false, narrowed := true }
def AdjDegreesUptoSaid : Prop := adjDegreesUptoRow.holds Tryz.pinned (OpenSpec.upto adjDegreesSpec)

/-- 'hedgerowlaw18.AdjTells', WHERE WHAT IT READS IS OF BULK AT MOST 1048576: true; the input reads as it did. -/
def adjTellsUptoRow : OpenClaim := { program := "ytfffnkgdpbaakaagreat", sum := "756c9f06b2cc095e9b30b1d8bd371e4e520dd8374589c2e69c9b31f4962277ce", func := "hedgerow/hedgerowlaw18.AdjTells", spec := "adjTells", inPlace := ["slices.overlaps[hedgerow/api.Prop]"], unfollowed := true, recurses := true, apart := false, narrowed := true }
def AdjTellsUptoSaid : Prop := adjTellsUptoRow.holds Tryz.pinned (OpenSpec.upto adjTellsSpec)

end Rows
end Go.Proofs.YtfffnkgdpbaakaaGreat
