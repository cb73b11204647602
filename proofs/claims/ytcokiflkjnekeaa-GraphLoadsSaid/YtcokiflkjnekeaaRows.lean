/-
  No cell of these rows narrows 'for every input' (looked for: loops, veiled, ifaces, maps, wideKeys, modest, calm, conditions, laid).
  DERIVED. THE GIVEN ROWS OF THIS SEAT. 6 by the template 'for every input the law returns true; each argument reads behind the call as it read before'; 0 by the template 'total and deterministic' (their statements: YtcokiflkjnekeaaTotals.lean).
  GIVEN WITH THE SEED: the statements are not yours to turn. If you find one false, say at which input.
  Laid BY PROGRAM, IN A SANDBOX (cutbox-rows.mjs): the forced cells as the released guide's own fill.sh prints them over the translation ff99f373222b37b3… (all of the seat's roots in one cut). By AI agents, Wed Nov 11 2026. No macro, syntax, notation, axiom, sorry.
-/
import Derived.Test.YtcokiflkjnekeaaChecked
import GoSem.Claim
import GoSem.ClaimJoined
import GoSem.ClaimMapViews
import Derived.JoinedTies
import Derived.KernelRfl
namespace Go.Proofs.Ytcokiflkjnekeaa
/- THE CELL 'sum', in the pinned program and in every row, IS THE sha256 OF THE DUMP (.gsa) THAT YtcokiflkjnekeaaProg.lean LOADS. Nothing in Lean hashes anything: it is a label: what it is worth is what the hold of that sum in a sandbox is worth. -/
noncomputable def Try.pinned : Pinned := { name := "ytcokiflkjnekeaa", sum := "ff99f373222b37b3d656158ddf331e0235eb81b41641c18fafe204f91d17d127", checked := Try.checked }
namespace Rows
def none {H : Type} : Left H := { results := [], args := [] }

/-- 'hedgerowlaw17.GraphEnds': WHATEVER THE INPUT: true; the input reads as it did. -/
def graphEndsSpec : ChangeSpec := { name := "graphEnds", fn := fun _ => fun
  | [d] => { results := [.lit (.bool true)], args := [d] }
  | _ => none }
def graphEndsRow : OpenClaim := { program := "ytcokiflkjnekeaa", sum := "ff99f373222b37b3d656158ddf331e0235eb81b41641c18fafe204f91d17d127", func := "hedgerow/hedgerowlaw17.GraphEnds", spec := "graphEnds", inPlace := ["slices.overlaps[hedgerow/api.Prop]"], unfollowed := true, recurses := true, apart := false }
def GraphEndsSaid : Prop := graphEndsRow.holds Try.pinned (OpenSpec.ofChange graphEndsSpec)

/-- ITS FALSE NEIGHBOUR: 'it returns false'. Refute it at one input. -/
def graphEndsWrong : ChangeSpec := { name := "graphEnds", fn := fun _ => fun
  | [d] => { results := [.lit (.bool false)], args := [d] }
  | _ => none }
def GraphEndsWrongFalsely : Prop := graphEndsRow.holds Try.pinned (OpenSpec.ofChange graphEndsWrong)

/-- 'hedgerowlaw17.GraphCopies': WHATEVER THE INPUT: true; the input reads as it did. -/
def graphCopiesSpec : ChangeSpec := { name := "graphCopies", fn := fun _ => fun
  | [d1, d2] => { results := [.lit (.bool true)], args := [d1, d2] }
  | _ => none }
def graphCopiesRow : OpenClaim := { program := "ytcokiflkjnekeaa", sum := "ff99f373222b37b3d656158ddf331e0235eb81b41641c18fafe204f91d17d127", func := "hedgerow/hedgerowlaw17.GraphCopies", spec := "graphCopies", inPlace := ["slices.overlaps[hedgerow/api.Prop]"], unfollowed := true, recurses := true, apart := false }
def GraphCopiesSaid : Prop := graphCopiesRow.holds Try.pinned (OpenSpec.ofChange graphCopiesSpec)

/-- ITS FALSE NEIGHBOUR: 'it returns false'. Refute it at one input. -/
def graphCopiesWrong : ChangeSpec := { name := "graphCopies", fn := fun _ => fun
  | [d1, d2] => { results := [.lit (.bool false)], args := [d1, d2] }
  | _ => none }
def GraphCopiesWrongFalsely : Prop := graphCopiesRow.holds Try.pinned (OpenSpec.ofChange graphCopiesWrong)

/-- 'hedgerowlaw17.GraphNear': WHATEVER THE INPUT: true; the input reads as it did. -/
def graphNearSpec : ChangeSpec := { name := "graphNear", fn := fun _ => fun
  | [d] => { results := [.lit (.bool true)], args := [d] }
  | _ => none }
def graphNearRow : OpenClaim := { program := "ytcokiflkjnekeaa", sum := "ff99f373222b37b3d656158ddf331e0235eb81b41641c18fafe204f91d17d127", func := "hedgerow/hedgerowlaw17.GraphNear", spec := "graphNear", inPlace := ["slices.overlaps[hedgerow/api.Prop]"], unfollowed := true, recurses := true, apart := false }
def GraphNearSaid : Prop := graphNearRow.holds Try.pinned (OpenSpec.ofChange graphNearSpec)

/-- ITS FALSE NEIGHBOUR: 'it returns false'. Refute it at one input. -/
def graphNearWrong : ChangeSpec := { name := "graphNear", fn := fun _ => fun
  | [d] => { results := [.lit (.bool false)], args := [d] }
  | _ => none }
def GraphNearWrongFalsely : Prop := graphNearRow.holds Try.pinned (OpenSpec.ofChange graphNearWrong)

/-- 'hedgerowlaw17.GraphLoads': WHATEVER THE INPUT: true; the input reads as it did. -/
def graphLoadsSpec : ChangeSpec := { name := "graphLoads", fn := fun _ => fun
  | [d1, d2] => { results := [.lit (.bool true)], args := [d1, d2] }
  | _ => none }
def graphLoadsRow : OpenClaim := { program := "ytcokiflkjnekeaa", sum := "ff99f373222b37b3d656158ddf331e0235eb81b41641c18fafe204f91d17d127", func := "hedgerow/hedgerowlaw17.GraphLoads", spec := "graphLoads", inPlace := ["slices.overlaps[hedgerow/api.Prop]"], unfollowed := true, recurses := true, apart := false }
def GraphLoadsSaid : Prop := graphLoadsRow.holds Try.pinned (OpenSpec.ofChange graphLoadsSpec)

/-- ITS FALSE NEIGHBOUR: 'it returns false'. Refute it at one input. -/
def graphLoadsWrong : ChangeSpec := { name := "graphLoads", fn := fun _ => fun
  | [d1, d2] => { results := [.lit (.bool false)], args := [d1, d2] }
  | _ => none }
def GraphLoadsWrongFalsely : Prop := graphLoadsRow.holds Try.pinned (OpenSpec.ofChange graphLoadsWrong)

/-- 'hedgerowlaw17.GraphFull': WHATEVER THE INPUT: true; the input reads as it did. -/
def graphFullSpec : ChangeSpec := { name := "graphFull", fn := fun _ => fun
  | [d] => { results := [.lit (.bool true)], args := [d] }
  | _ => none }
def graphFullRow : OpenClaim := { program := "ytcokiflkjnekeaa", sum := "ff99f373222b37b3d656158ddf331e0235eb81b41641c18fafe204f91d17d127", func := "hedgerow/hedgerowlaw17.GraphFull", spec := "graphFull", inPlace := ["slices.overlaps[hedgerow/api.Prop]"], unfollowed := true, recurses := true, apart := false }
def GraphFullSaid : Prop := graphFullRow.holds Try.pinned (OpenSpec.ofChange graphFullSpec)

/-- ITS FALSE NEIGHBOUR: 'it returns false'. Refute it at one input. -/
def graphFullWrong : ChangeSpec := { name := "graphFull", fn := fun _ => fun
  | [d] => { results := [.lit (.bool false)], args := [d] }
  | _ => none }
def GraphFullWrongFalsely : Prop := graphFullRow.holds Try.pinned (OpenSpec.ofChange graphFullWrong)

/-- 'hedgerowlaw17.GraphNone': WHATEVER THE INPUT: true; the input reads as it did. -/
def graphNoneSpec : ChangeSpec := { name := "graphNone", fn := fun _ => fun
  | [d] => { results := [.lit (.bool true)], args := [d] }
  | _ => none }
def graphNoneRow : OpenClaim := { program := "ytcokiflkjnekeaa", sum := "ff99f373222b37b3d656158ddf331e0235eb81b41641c18fafe204f91d17d127", func := "hedgerow/hedgerowlaw17.GraphNone", spec := "graphNone", inPlace := ["slices.overlaps[hedgerow/api.Prop]"], unfollowed := true, recurses := true, apart := false }
def GraphNoneSaid : Prop := graphNoneRow.holds Try.pinned (OpenSpec.ofChange graphNoneSpec)

/-- ITS FALSE NEIGHBOUR: 'it returns false'. Refute it at one input. -/
def graphNoneWrong : ChangeSpec := { name := "graphNone", fn := fun _ => fun
  | [d] => { results := [.lit (.bool false)], args := [d] }
  | _ => none }
def GraphNoneWrongFalsely : Prop := graphNoneRow.holds Try.pinned (OpenSpec.ofChange graphNoneWrong)

/- THE SECOND FORM. 'bulk': how many values and letters a reading holds, each counted each time it is reached (what is shared counts as often as it is met; a slice's spare places count too). A statement '..UptoSaid' is the law's where the arguments, and the package variables that the reading takes, are together of bulk at most 1048576: NARROWER than '..Said'. Prove '..Said' where nothing that the law and all that it calls make is longer than what came in: it says more and counts as full. Else prove '..UptoSaid'. A law counts once. -/
mutual
def uptoBulk {H : Type} : DataW H → Nat
  | .lit (.string bytes) => bytes.length + 1
  | .lit _ => 1
  | .nil => 1
  | .ptr d => uptoBulk d + 1
  | .slice elems spare => uptoBulkAll elems + uptoBulkAll spare + 1
  | .agg parts => uptoBulkAll parts + 1
  | .iface _ d => uptoBulk d + 1
  | .map entries => uptoBulkEntries entries + 1
  | .held _ => 1
def uptoBulkAll {H : Type} : List (DataW H) → Nat
  | [] => 0
  | d :: r => uptoBulk d + uptoBulkAll r
def uptoBulkEntries {H : Type} : List (Lit × DataW H) → Nat
  | [] => 0
  | x :: r => uptoBulkEntry x + uptoBulkEntries r
def uptoBulkEntry {H : Type} : Lit × DataW H → Nat
  | (.string bytes, d) => bytes.length + uptoBulk d + 1
  | (_, d) => uptoBulk d + 1
 end
def uptoSmall : (H : Type) → List (DataW H) → Bool := fun _ ds => decide (uptoBulkAll ds ≤ 1048576)
def OpenSpec.upto (s : _root_.Go.ChangeSpec) : _root_.Go.OpenSpec := { _root_.Go.OpenSpec.ofChange s with cond := some uptoSmall }

/-- 'hedgerowlaw17.GraphEnds', WHERE WHAT IT READS IS OF BULK AT MOST 1048576: true; the input reads as it did. -/
def graphEndsUptoRow : OpenClaim := { program := "ytcokiflkjnekeaa", sum := "ff99f373222b37b3d656158ddf331e0235eb81b41641c18fafe204f91d17d127", func := "hedgerow/hedgerowlaw17.GraphEnds", spec := "graphEnds", inPlace := ["slices.overlaps[hedgerow/api.Prop]"], unfollowed := true, recurses := true, apart := false, narrowed := true }
def GraphEndsUptoSaid : Prop := graphEndsUptoRow.holds Try.pinned (OpenSpec.upto graphEndsSpec)

/-- 'hedgerowlaw17.GraphCopies', WHERE WHAT IT READS IS OF BULK AT MOST 1048576: true; the input reads as it did. -/
def graphCopiesUptoRow : OpenClaim := { program := "ytcokiflkjnekeaa", sum := "ff99f373222b37b3d656158ddf331e0235eb81b41641c18fafe204f91d17d127", func := "hedgerow/hedgerowlaw17.GraphCopies", spec := "graphCopies", inPlace := ["slices.overlaps[hedgerow/api.Prop]"], unfollowed := true, recurses := true, apart := false, narrowed := true }
def GraphCopiesUptoSaid : Prop := graphCopiesUptoRow.holds Try.pinned (OpenSpec.upto graphCopiesSpec)

/-- 'hedgerowlaw17.GraphNear', WHERE WHAT IT READS IS OF BULK AT MOST 1048576: true; the input reads as it did. -/
def graphNearUptoRow : OpenClaim := { program := "ytcokiflkjnekeaa", sum := "ff99f373222b37b3d656158ddf331e0235eb81b41641c18fafe204f91d17d127", func := "hedgerow/hedgerowlaw17.GraphNear", spec := "graphNear", inPlace := ["slices.overlaps[hedgerow/api.Prop]"], unfollowed := true, recurses := true, apart := false, narrowed := true }
def GraphNearUptoSaid : Prop := graphNearUptoRow.holds Try.pinned (OpenSpec.upto graphNearSpec)

/-- 'hedgerowlaw17.GraphLoads', WHERE WHAT IT READS IS OF BULK AT MOST 1048576: true; the input reads as it did. -/
def graphLoadsUptoRow : OpenClaim := { program := "ytcokiflkjnekeaa", sum := "ff99f373222b37b3d656158ddf331e0235eb81b41641c18fafe204f91d17d127", func := "hedgerow/hedgerowlaw17.GraphLoads", spec := "graphLoads", inPlace := ["slices.overlaps[hedgerow/api.Prop]"], unfollowed := true, recurses := true, apart := false, narrowed := true }
def GraphLoadsUptoSaid : Prop := graphLoadsUptoRow.holds Try.pinned (OpenSpec.upto graphLoadsSpec)

/-- 'hedgerowlaw17.GraphFull', WHERE WHAT IT READS IS OF BULK AT MOST 1048576: true; the input reads as it did. -/
def graphFullUptoRow : OpenClaim := { program := "ytcokiflkjnekeaa", sum := "ff99f373222b37b3d656158ddf331e0235eb81b41641c18fafe204f91d17d127", func := "hedgerow/hedgerowlaw17.GraphFull", spec := "graphFull", inPlace := ["slices.overlaps[hedgerow/api.Prop]"], unfollowed := true, recurses := true, apart := false, narrowed := true }
def GraphFullUptoSaid : Prop := graphFullUptoRow.holds Try.pinned (OpenSpec.upto graphFullSpec)

/-- 'hedgerowlaw17.GraphNone', WHERE WHAT IT READS IS OF BULK AT MOST 1048576: true; the input reads as it did. -/
def graphNoneUptoRow : OpenClaim := { program := "ytcokiflkjnekeaa", sum := "ff99f373222b37b3d656158ddf331e0235eb81b41641c18fafe204f91d17d127", func := "hedgerow/hedgerowlaw17.GraphNone", spec := "graphNone", inPlace := ["slices.overlaps[hedgerow/api.Prop]"], unfollowed := true, recurses := true, apart := false, narrowed := true }
def GraphNoneUptoSaid : Prop := graphNoneUptoRow.holds Try.pinned (OpenSpec.upto graphNoneSpec)

end Rows
end Go.Proofs.Ytcokiflkjnekeaa
