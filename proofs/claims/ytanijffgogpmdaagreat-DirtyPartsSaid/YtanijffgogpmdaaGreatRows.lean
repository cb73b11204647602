/-
  No cell of these rows narrows 'for every input' (looked for: loops, veiled, ifaces, maps, wideKeys, modest, calm, conditions, laid).
  DERIVED. THE GIVEN ROWS OF THIS SEAT. 9 by the template 'for every input the law returns true; each argument reads behind the call as it read before'; 0 by the template 'total and deterministic' (their statements: YtanijffgogpmdaaGreatTotals.lean).
  GIVEN WITH THE SEED: the statements are not yours to turn. If you find one false, say at which input.
  Laid BY PROGRAM, IN A SANDBOX (cutbox-rows.mjs): the forced cells as the released guide's own fill.sh prints them over the translation 58a273597117312c… (all of the seat's roots in one cut). By AI agents, Wed Nov 11 2026. No macro, syntax, notation, axiom, sorry.
-/
import Derived.Test.YtanijffgogpmdaaGreatChecked
import GoSem.Claim
import GoSem.ClaimJoined
import GoSem.ClaimMapViews
import Derived.JoinedTies
import Derived.KernelRfl
namespace Go.Proofs.YtanijffgogpmdaaGreat
/- THE CELL 'sum', in the pinned program and in every row, IS THE sha256 OF THE DUMP (.gsa) THAT YtanijffgogpmdaaGreatProg.lean LOADS. Nothing in Lean hashes anything: it is a label: what it is worth is what the hold of that sum in a sandbox is worth. -/
noncomputable def Tryz.pinned : Pinned := { name := "ytanijffgogpmdaagreat", sum := "58a273597117312c9f2c038abcd58755309721721f8cc98eba6e518697be2b83", checked := Tryz.checked }
namespace Rows
def none {H : Type} : Left H := { results := [], args := [] }

/-- 'hedgerowlaw21.CheckBreaks': WHATEVER THE INPUT: true; the input reads as it did. -/
def checkBreaksSpec : ChangeSpec := { name := "checkBreaks", fn := fun _ => fun
  | [d1, d2] => { results := [.lit (.bool true)], args := [d1, d2] }
  | _ => none }
def checkBreaksRow : OpenClaim := { program := "ytanijffgogpmdaagreat", sum := "58a273597117312c9f2c038abcd58755309721721f8cc98eba6e518697be2b83", func := "hedgerow/hedgerowlaw21.CheckBreaks", spec := "checkBreaks", inPlace := ["slices.overlaps[hedgerow/api.Prop]"], unfollowed := true, recurses := true, plainKeys := false, apart := false }
def CheckBreaksSaid : Prop := checkBreaksRow.holds Tryz.pinned (OpenSpec.ofChange checkBreaksSpec)

/-- ITS FALSE NEIGHBOUR: 'it returns false'. Refute it at one input. -/
def checkBreaksWrong : ChangeSpec := { name := "checkBreaks", fn := fun _ => fun
  | [d1, d2] => { results := [.lit (.bool false)], args := [d1, d2] }
  | _ => none }
def CheckBreaksWrongFalsely : Prop := checkBreaksRow.holds Tryz.pinned (OpenSpec.ofChange checkBreaksWrong)

/-- 'hedgerowlaw21.CheckAgrees': WHATEVER THE INPUT: true; the input reads as it did. -/
def checkAgreesSpec : ChangeSpec := { name := "checkAgrees", fn := fun _ => fun
  | [d1, d2] => { results := [.lit (.bool true)], args := [d1, d2] }
  | _ => none }
def checkAgreesRow : OpenClaim := { program := "ytanijffgogpmdaagreat", sum := "58a273597117312c9f2c038abcd58755309721721f8cc98eba6e518697be2b83", func := "hedgerow/hedgerowlaw21.CheckAgrees", spec := "checkAgrees", inPlace := ["slices.overlaps[hedgerow/api.Prop]"], unfollowed := true, recurses := true, plainKeys := false, apart := false }
def CheckAgreesSaid : Prop := checkAgreesRow.holds Tryz.pinned (OpenSpec.ofChange checkAgreesSpec)

/-- ITS FALSE NEIGHBOUR: 'it returns false'. Refute it at one input. -/
def checkAgreesWrong : ChangeSpec := { name := "checkAgrees", fn := fun _ => fun
  | [d1, d2] => { results := [.lit (.bool false)], args := [d1, d2] }
  | _ => none }
def CheckAgreesWrongFalsely : Prop := checkAgreesRow.holds Tryz.pinned (OpenSpec.ofChange checkAgreesWrong)

/-- 'hedgerowlaw21.CheckLeast': WHATEVER THE INPUT: true; the input reads as it did. -/
def checkLeastSpec : ChangeSpec := { name := "checkLeast", fn := fun _ => fun
  | [d1, d2] => { results := [.lit (.bool true)], args := [d1, d2] }
  | _ => none }
def checkLeastRow : OpenClaim := { program := "ytanijffgogpmdaagreat", sum := "58a273597117312c9f2c038abcd58755309721721f8cc98eba6e518697be2b83", func := "hedgerow/hedgerowlaw21.CheckLeast", spec := "checkLeast", inPlace := ["slices.overlaps[hedgerow/api.Prop]"], unfollowed := true, recurses := true, plainKeys := false, apart := false }
def CheckLeastSaid : Prop := checkLeastRow.holds Tryz.pinned (OpenSpec.ofChange checkLeastSpec)

/-- ITS FALSE NEIGHBOUR: 'it returns false'. Refute it at one input. -/
def checkLeastWrong : ChangeSpec := { name := "checkLeast", fn := fun _ => fun
  | [d1, d2] => { results := [.lit (.bool false)], args := [d1, d2] }
  | _ => none }
def CheckLeastWrongFalsely : Prop := checkLeastRow.holds Tryz.pinned (OpenSpec.ofChange checkLeastWrong)

/-- 'hedgerowlaw21.CheckTells': WHATEVER THE INPUT: true; the input reads as it did. -/
def checkTellsSpec : ChangeSpec := { name := "checkTells", fn := fun _ => fun
  | [d1, d2, d3] => { results := [.lit (.bool true)], args := [d1, d2, d3] }
  | _ => none }
def checkTellsRow : OpenClaim := { program := "ytanijffgogpmdaagreat", sum := "58a273597117312c9f2c038abcd58755309721721f8cc98eba6e518697be2b83", func := "hedgerow/hedgerowlaw21.CheckTells", spec := "checkTells", inPlace := ["slices.overlaps[hedgerow/api.Prop]"], unfollowed := true, recurses := true, plainKeys := false, apart := false }
def CheckTellsSaid : Prop := checkTellsRow.holds Tryz.pinned (OpenSpec.ofChange checkTellsSpec)

/-- ITS FALSE NEIGHBOUR: 'it returns false'. Refute it at one input. -/
def checkTellsWrong : ChangeSpec := { name := "checkTells", fn := fun _ => fun
  | [d1, d2, d3] => { results := [.lit (.bool false)], args := [d1, d2, d3] }
  | _ => none }
def CheckTellsWrongFalsely : Prop := checkTellsRow.holds Tryz.pinned (OpenSpec.ofChange checkTellsWrong)

/-- 'hedgerowlaw20.DirtyKeeps': WHATEVER THE INPUT: true; the input reads as it did. -/
def dirtyKeepsSpec : ChangeSpec := { name := "dirtyKeeps", fn := fun _ => fun
  | [d1, d2, d3] => { results := [.lit (.bool true)], args := [d1, d2, d3] }
  | _ => none }
def dirtyKeepsRow : OpenClaim := { program := "ytanijffgogpmdaagreat", sum := "58a273597117312c9f2c038abcd58755309721721f8cc98eba6e518697be2b83", func := "hedgerow/hedgerowlaw20.DirtyKeeps", spec := "dirtyKeeps", inPlace := ["slices.overlaps[hedgerow/api.Prop]"], unfollowed := true, recurses := true, plainKeys := false, apart := false }
def DirtyKeepsSaid : Prop := dirtyKeepsRow.holds Tryz.pinned (OpenSpec.ofChange dirtyKeepsSpec)

/-- ITS FALSE NEIGHBOUR: 'it returns false'. Refute it at one input. -/
def dirtyKeepsWrong : ChangeSpec := { name := "dirtyKeeps", fn := fun _ => fun
  | [d1, d2, d3] => { results := [.lit (.bool false)], args := [d1, d2, d3] }
  | _ => none }
def DirtyKeepsWrongFalsely : Prop := dirtyKeepsRow.holds Tryz.pinned (OpenSpec.ofChange dirtyKeepsWrong)

/-- 'hedgerowlaw20.DirtySpots': WHATEVER THE INPUT: true; the input reads as it did. -/
def dirtySpotsSpec : ChangeSpec := { name := "dirtySpots", fn := fun _ => fun
  | [d1, d2] => { results := [.lit (.bool true)], args := [d1, d2] }
  | _ => none }
def dirtySpotsRow : OpenClaim := { program := "ytanijffgogpmdaagreat", sum := "58a273597117312c9f2c038abcd58755309721721f8cc98eba6e518697be2b83", func := "hedgerow/hedgerowlaw20.DirtySpots", spec := "dirtySpots", inPlace := ["slices.overlaps[hedgerow/api.Prop]"], unfollowed := true, recurses := true, plainKeys := false, apart := false }
def DirtySpotsSaid : Prop := dirtySpotsRow.holds Tryz.pinned (OpenSpec.ofChange dirtySpotsSpec)

/-- ITS FALSE NEIGHBOUR: 'it returns false'. Refute it at one input. -/
def dirtySpotsWrong : ChangeSpec := { name := "dirtySpots", fn := fun _ => fun
  | [d1, d2] => { results := [.lit (.bool false)], args := [d1, d2] }
  | _ => none }
def DirtySpotsWrongFalsely : Prop := dirtySpotsRow.holds Tryz.pinned (OpenSpec.ofChange dirtySpotsWrong)

/-- 'hedgerowlaw20.DirtyConcerns': WHATEVER THE INPUT: true; the input reads as it did. -/
def dirtyConcernsSpec : ChangeSpec := { name := "dirtyConcerns", fn := fun _ => fun
  | [d1, d2, d3] => { results := [.lit (.bool true)], args := [d1, d2, d3] }
  | _ => none }
def dirtyConcernsRow : OpenClaim := { program := "ytanijffgogpmdaagreat", sum := "58a273597117312c9f2c038abcd58755309721721f8cc98eba6e518697be2b83", func := "hedgerow/hedgerowlaw20.DirtyConcerns", spec := "dirtyConcerns", inPlace := ["slices.overlaps[hedgerow/api.Prop]"], unfollowed := true, recurses := true, plainKeys := false, apart := false }
def DirtyConcernsSaid : Prop := dirtyConcernsRow.holds Tryz.pinned (OpenSpec.ofChange dirtyConcernsSpec)

/-- ITS FALSE NEIGHBOUR: 'it returns false'. Refute it at one input. -/
def dirtyConcernsWrong : ChangeSpec := { name := "dirtyConcerns", fn := fun _ => fun
  | [d1, d2, d3] => { results := [.lit (.bool false)], args := [d1, d2, d3] }
  | _ => none }
def DirtyConcernsWrongFalsely : Prop := dirtyConcernsRow.holds Tryz.pinned (OpenSpec.ofChange dirtyConcernsWrong)

/-- 'hedgerowlaw20.DirtyParts': WHATEVER THE INPUT: true; the input reads as it did. -/
def dirtyPartsSpec : ChangeSpec := { name := "dirtyParts", fn := fun _ => fun
  | [d1, d2, d3] => { results := [.lit (.bool true)], args := [d1, d2, d3] }
  | _ => none }
def dirtyPartsRow : OpenClaim := { program := "ytanijffgogpmdaagreat", sum := "58a273597117312c9f2c038abcd58755309721721f8cc98eba6e518697be2b83", func := "hedgerow/hedgerowlaw20.DirtyParts", spec := "dirtyParts", inPlace := ["slices.overlaps[hedgerow/api.Prop]"], unfollowed := true, recurses := true, plainKeys := false, apart := false }
def DirtyPartsSaid : Prop := dirtyPartsRow.holds Tryz.pinned (OpenSpec.ofChange dirtyPartsSpec)

/-- ITS FALSE NEIGHBOUR: 'it returns false'. Refute it at one input. -/
def dirtyPartsWrong : ChangeSpec := { name := "dirtyParts", fn := fun _ => fun
  | [d1, d2, d3] => { results := [.lit (.bool false)], args := [d1, d2, d3] }
  | _ => none }
def DirtyPartsWrongFalsely : Prop := dirtyPartsRow.holds Tryz.pinned (OpenSpec.ofChange dirtyPartsWrong)

/-- 'hedgerowlaw21.CheckEnough': WHATEVER THE INPUT: true; the input reads as it did. -/
def checkEnoughSpec : ChangeSpec := { name := "checkEnough", fn := fun _ => fun
  | [d1, d2, d3] => { results := [.lit (.bool true)], args := [d1, d2, d3] }
  | _ => none }
def checkEnoughRow : OpenClaim := { program := "ytanijffgogpmdaagreat", sum := "58a273597117312c9f2c038abcd58755309721721f8cc98eba6e518697be2b83", func := "hedgerow/hedgerowlaw21.CheckEnough", spec := "checkEnough", inPlace := ["slices.overlaps[hedgerow/api.Prop]"], unfollowed := true, recurses := true, plainKeys := false, apart := false }
def CheckEnoughSaid : Prop := checkEnoughRow.holds Tryz.pinned (OpenSpec.ofChange checkEnoughSpec)

/-- ITS FALSE NEIGHBOUR: 'it returns false'. Refute it at one input. -/
def checkEnoughWrong : ChangeSpec := { name := "checkEnough", fn := fun _ => fun
  | [d1, d2, d3] => { results := [.lit (.bool false)], args := [d1, d2, d3] }
  | _ => none }
def CheckEnoughWrongFalsely : Prop := checkEnoughRow.holds Tryz.pinned (OpenSpec.ofChange checkEnoughWrong)

/- THE SECOND FORM. 'bulk': how many values and letters a reading holds, each counted each time it is reached (what is shared counts as often as it is met; a slice's spare places count too). A statement '..UptoSaid' is the law's where the arguments, and the package variables that the reading takes, are together of bulk at most 1048576: NARROWER than '..Said'. Prove '..Said' where nothing that the law and all that it calls make is longer than what came in: it says more and counts as full. Else prove '..UptoSaid'. A law counts once. -/
mutual
def uptoBulk {H : Type} : DataW H → Nat
  | .lit (.string bytes) => bytes.length + 1
  | .lit _ => 1
  | .nil => 1
  | .ptr d => uptoBulk d + 1
  | .slice elems spare => uptoBulkAll elems + uptoBulkAll spare + 1
  | .agg parts => uptoBulkAll parts + 1
  | .iface _ d => uptoBulk d + 1
  | .map entries => uptoBulkEntries entries + 1
  | .held _ => 1
def uptoBulkAll {H : Type} : List (DataW H) → Nat
  | [] => 0
  | d :: r => uptoBulk d + uptoBulkAll r
def uptoBulkEntries {H : Type} : List (Lit × DataW H) → Nat
  | [] => 0
  | x :: r => uptoBulkEntry x + uptoBulkEntries r
def uptoBulkEntry {H : Type} : Lit × DataW H → Nat
  | (.string bytes, d) => bytes.length + uptoBulk d + 1
  | (_, d) => uptoBulk d + 1
 end
def uptoSmall : (H : Type) → List (DataW H) → Bool := fun _ ds => decide (uptoBulkAll ds ≤ 1048576)
def OpenSpec.upto (s : _root_.Go.ChangeSpec) : _root_.Go.OpenSpec := { _root_.Go.OpenSpec.ofChange s with cond := some uptoSmall }

/-- 'hedgerowlaw21.CheckBreaks', WHERE WHAT IT READS IS OF BULK AT MOST 1048576: true; the input reads as it did. -/
def checkBreaksUptoRow : OpenClaim := { program := "ytanijffgogpmdaagreat", sum := "58a273597117312c9f2c038abcd58755309721721f8cc98eba6e518697be2b83", func := "hedgerow/hedgerowlaw21.CheckBreaks", spec := "checkBreaks", inPlace := ["slices.overlaps[hedgerow/api.Prop]"], unfollowed := true, recurses := true, plainKeys := false, apart := false, narrowed := true }
def CheckBreaksUptoSaid : Prop := checkBreaksUptoRow.holds Tryz.pinned (OpenSpec.upto checkBreaksSpec)

/-- 'hedgerowlaw21.CheckAgrees', WHERE WHAT IT READS IS OF BULK AT MOST 1048576: true; the input reads as it did. -/
def checkAgreesUptoRow : OpenClaim := { program := "ytanijffgogpmdaagreat", sum := "58a273597117312c9f2c038abcd58755309721721f8cc98eba6e518697be2b83", func := "hedgerow/hedgerowlaw21.CheckAgrees", spec := "checkAgrees", inPlace := ["slices.overlaps[hedgerow/api.Prop]"], unfollowed := true, recurses := true, plainKeys := false, apart := false, narrowed := true }
def CheckAgreesUptoSaid : Prop := checkAgreesUptoRow.holds Tryz.pinned (OpenSpec.upto checkAgreesSpec)

/-- 'hedgerowlaw21.CheckLeast', WHERE WHAT IT READS IS OF BULK AT MOST 1048576: true; the input reads as it did. -/
def checkLeastUptoRow : OpenClaim := { program := "ytanijffgogpmdaagreat", sum := "58a273597117312c9f2c038abcd58755309721721f8cc98eba6e518697be2b83", func := "hedgerow/hedgerowlaw21.CheckLeast", spec := "checkLeast", inPlace := ["slices.overlaps[hedgerow/api.Prop]"], unfollowed := true, recurses := true, plainKeys := false, apart := false, narrowed := true }
def CheckLeastUptoSaid : Prop := checkLeastUptoRow.holds Tryz.pinned (OpenSpec.upto checkLeastSpec)

/-- 'hedgerowlaw21.CheckTells', WHERE WHAT IT READS IS OF BULK AT MOST 1048576: true; the input reads as it did. -/
def checkTellsUptoRow : OpenClaim := { program := "ytanijffgogpmdaagreat", sum := "58a273597117312c9f2c038abcd58755309721721f8cc98eba6e518697be2b83", func := "hedgerow/hedgerowlaw21.CheckTells", spec := "checkTells", inPlace := ["slices.overlaps[hedgerow/api.Prop]"], unfollowed := true, recurses := true, plainKeys := false, apart := false, narrowed := true }
def CheckTellsUptoSaid : Prop := checkTellsUptoRow.holds Tryz.pinned (OpenSpec.upto checkTellsSpec)

/-- 'hedgerowlaw20.DirtyKeeps', WHERE WHAT IT READS IS OF BULK AT MOST 1048576: true; the input reads as it did. -/
def dirtyKeepsUptoRow : OpenClaim := { program := "ytanijffgogpmdaagreat", sum := "58a273597117312c9f2c038abcd58755309721721f8cc98eba6e518697be2b83", func := "hedgerow/hedgerowlaw20.DirtyKeeps", spec := "dirtyKeeps", inPlace := ["slices.overlaps[hedgerow/api.Prop]"], unfollowed := true, recurses := true, plainKeys := false, apart := false, narrowed := true }
def DirtyKeepsUptoSaid : Prop := dirtyKeepsUptoRow.holds Tryz.pinned (OpenSpec.upto dirtyKeepsSpec)

/-- 'hedgerowlaw20.DirtySpots', WHERE WHAT IT READS IS OF BULK AT MOST 1048576: true; the input reads as it did. -/
def dirtySpotsUptoRow : OpenClaim := { program := "ytanijffgogpmdaagreat", sum := "58a273597117312c9f2c038abcd58755309721721f8cc98eba6e518697be2b83", func := "hedgerow/hedgerowlaw20.DirtySpots", spec := "dirtySpots", inPlace := ["slices.overlaps[hedgerow/api.Prop]"], unfollowed := true, recurses := true, plainKeys := false, apart := false, narrowed := true }
def DirtySpotsUptoSaid : Prop := dirtySpotsUptoRow.holds Tryz.pinned (OpenSpec.upto dirtySpotsSpec)

/-- 'hedgerowlaw20.DirtyConcerns', WHERE WHAT IT READS IS OF BULK AT MOST 1048576: true; the input reads as it did. -/
def dirtyConcernsUptoRow : OpenClaim := { program := "ytanijffgogpmdaagreat", sum := "58a273597117312c9f2c038abcd58755309721721f8cc98eba6e518697be2b83", func := "hedgerow/hedgerowlaw20.DirtyConcerns", spec := "dirtyConcerns", inPlace := ["slices.overlaps[hedgerow/api.Prop]"], unfollowed := true, recurses := true, plainKeys := false, apart := false, narrowed := true }
def DirtyConcernsUptoSaid : Prop := dirtyConcernsUptoRow.holds Tryz.pinned (OpenSpec.upto dirtyConcernsSpec)

/-- 'hedgerowlaw20.DirtyParts', WHERE WHAT IT READS IS OF BULK AT MOST 1048576: true; the input reads as it did. -/
def dirtyPartsUptoRow : OpenClaim := { program := "ytanijffgogpmdaagreat", sum := "58a273597117312c9f2c038abcd58755309721721f8cc98eba6e518697be2b83", func := "hedgerow/hedgerowlaw20.DirtyParts", spec := "dirtyParts", inPlace := ["slices.overlaps[hedgerow/api.Prop]"], unfollowed := true, recurses := true, plainKeys := false, apart := false, narrowed := true }
def DirtyPartsUptoSaid : Prop := dirtyPartsUptoRow.holds Tryz.pinned (OpenSpec.upto dirtyPartsSpec)

/-- 'hedgerowlaw21.CheckEnough', WHERE WHAT IT READS IS OF BULK AT MOST 1048576: true; the input reads as it did. -/
def checkEnoughUptoRow : OpenClaim := { program := "ytanijffgogpmdaagreat", sum := "58a273597117312c9f2c038abcd58755309721721f8cc98eba6e518697be2b83", func := "hedgerow/hedgerowlaw21.CheckEnough", spec := "checkEnough", inPlace := ["slices.overlaps[hedgerow/api.Prop]"], unfollowed := true, recurses := true, plainKeys := false, apart := false, narrowed := true }
def CheckEnoughUptoSaid : Prop := checkEnoughUptoRow.holds Tryz.pinned (OpenSpec.upto checkEnoughSpec)

end Rows
end Go.Proofs.YtanijffgogpmdaaGreat
