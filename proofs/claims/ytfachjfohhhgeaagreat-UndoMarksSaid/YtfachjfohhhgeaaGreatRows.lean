/-
  No cell of these rows narrows 'for every input' (looked for: loops, veiled, ifaces, maps, wideKeys, modest, calm, conditions, laid).
  DERIVED. THE GIVEN ROWS OF THIS SEAT. 6 by the template 'for every input the law returns true; each argument reads behind the call as it read before'; 0 by the template 'total and deterministic' (their statements: YtfachjfohhhgeaaGreatTotals.lean).
  GIVEN WITH THE SEED: the statements are not yours to turn. If you find one false, say at which input.
  Laid BY PROGRAM, IN A SANDBOX (cutbox-rows.mjs): the forced cells as the released guide's own fill.sh prints them over the translation dd6e21a5b0de592f… (all of the seat's roots in one cut). By AI agents, Wed Nov 11 2026. No macro, syntax, notation, axiom, sorry.
-/
import Derived.Test.YtfachjfohhhgeaaGreatChecked
import GoSem.Claim
import GoSem.ClaimJoined
import GoSem.ClaimMapViews
import Derived.JoinedTies
import Derived.KernelRfl
namespace Go.Proofs.YtfachjfohhhgeaaGreat
/- THE CELL 'sum', in the pinned program and in every row, IS THE sha256 OF THE DUMP (.gsa) THAT YtfachjfohhhgeaaGreatProg.lean LOADS. Nothing in Lean hashes anything: it is a label: what it is worth is what the hold of that sum in a sandbox is worth. -/
noncomputable def Tryz.pinned : Pinned := { name := "ytfachjfohhhgeaagreat", sum := "dd6e21a5b0de592f3b1b04f625c21b1f1bd2609c82c45a50c2d44de4e13453da", checked := Tryz.checked }
namespace Rows
def none {H : Type} : Left H := { results := [], args := [] }

/-- 'hedgerowlaw19.UndoRedoes': WHATEVER THE INPUT: true; the input reads as it did. -/
def undoRedoesSpec : ChangeSpec := { name := "undoRedoes", fn := fun _ => fun
  | [d1, d2] => { results := [.lit (.bool true)], args := [d1, d2] }
  | _ => none }
def undoRedoesRow : OpenClaim := { program := "ytfachjfohhhgeaagreat", sum := "dd6e21a5b0de592f3b1b04f625c21b1f1bd2609c82c45a50c2d44de4e13453da", func := "hedgerow/hedgerowlaw19.UndoRedoes", spec := "undoRedoes", inPlace := ["slices.overlaps[hedgerow/api.Prop]"], unfollowed := true, recurses := true, apart := false }
def UndoRedoesSaid : Prop := undoRedoesRow.holds Tryz.pinned (OpenSpec.ofChange undoRedoesSpec)

/-- ITS FALSE NEIGHBOUR: 'it returns false'. Refute it at one input. -/
def undoRedoesWrong : ChangeSpec := { name := "undoRedoes", fn := fun _ => fun
  | [d1, d2] => { results := [.lit (.bool false)], args := [d1, d2] }
  | _ => none }
def UndoRedoesWrongFalsely : Prop := undoRedoesRow.holds Tryz.pinned (OpenSpec.ofChange undoRedoesWrong)

/-- 'hedgerowlaw19.UndoMost': WHATEVER THE INPUT: true; the input reads as it did. -/
def undoMostSpec : ChangeSpec := { name := "undoMost", fn := fun _ => fun
  | [d] => { results := [.lit (.bool true)], args := [d] }
  | _ => none }
def undoMostRow : OpenClaim := { program := "ytfachjfohhhgeaagreat", sum := "dd6e21a5b0de592f3b1b04f625c21b1f1bd2609c82c45a50c2d44de4e13453da", func := "hedgerow/hedgerowlaw19.UndoMost", spec := "undoMost", inPlace := ["slices.overlaps[hedgerow/api.Prop]"], unfollowed := true, recurses := true, apart := false }
def UndoMostSaid : Prop := undoMostRow.holds Tryz.pinned (OpenSpec.ofChange undoMostSpec)

/-- ITS FALSE NEIGHBOUR: 'it returns false'. Refute it at one input. -/
def undoMostWrong : ChangeSpec := { name := "undoMost", fn := fun _ => fun
  | [d] => { results := [.lit (.bool false)], args := [d] }
  | _ => none }
def UndoMostWrongFalsely : Prop := undoMostRow.holds Tryz.pinned (OpenSpec.ofChange undoMostWrong)

/-- 'hedgerowlaw19.UndoMarks': WHATEVER THE INPUT: true; the input reads as it did. -/
def undoMarksSpec : ChangeSpec := { name := "undoMarks", fn := fun _ => fun
  | [d1, d2] => { results := [.lit (.bool true)], args := [d1, d2] }
  | _ => none }
def undoMarksRow : OpenClaim := { program := "ytfachjfohhhgeaagreat", sum := "dd6e21a5b0de592f3b1b04f625c21b1f1bd2609c82c45a50c2d44de4e13453da", func := "hedgerow/hedgerowlaw19.UndoMarks", spec := "undoMarks", inPlace := ["slices.overlaps[hedgerow/api.Prop]"], unfollowed := true, recurses := true, apart := false }
def UndoMarksSaid : Prop := undoMarksRow.holds Tryz.pinned (OpenSpec.ofChange undoMarksSpec)

/-- ITS FALSE NEIGHBOUR: 'it returns false'. Refute it at one input. -/
def undoMarksWrong : ChangeSpec := { name := "undoMarks", fn := fun _ => fun
  | [d1, d2] => { results := [.lit (.bool false)], args := [d1, d2] }
  | _ => none }
def UndoMarksWrongFalsely : Prop := undoMarksRow.holds Tryz.pinned (OpenSpec.ofChange undoMarksWrong)

/-- 'hedgerowlaw19.UndoAll': WHATEVER THE INPUT: true; the input reads as it did. -/
def undoAllSpec : ChangeSpec := { name := "undoAll", fn := fun _ => fun
  | [d1, d2] => { results := [.lit (.bool true)], args := [d1, d2] }
  | _ => none }
def undoAllRow : OpenClaim := { program := "ytfachjfohhhgeaagreat", sum := "dd6e21a5b0de592f3b1b04f625c21b1f1bd2609c82c45a50c2d44de4e13453da", func := "hedgerow/hedgerowlaw19.UndoAll", spec := "undoAll", inPlace := ["slices.overlaps[hedgerow/api.Prop]"], unfollowed := true, recurses := true, apart := false }
def UndoAllSaid : Prop := undoAllRow.holds Tryz.pinned (OpenSpec.ofChange undoAllSpec)

/-- ITS FALSE NEIGHBOUR: 'it returns false'. Refute it at one input. -/
def undoAllWrong : ChangeSpec := { name := "undoAll", fn := fun _ => fun
  | [d1, d2] => { results := [.lit (.bool false)], args := [d1, d2] }
  | _ => none }
def UndoAllWrongFalsely : Prop := undoAllRow.holds Tryz.pinned (OpenSpec.ofChange undoAllWrong)

/-- 'hedgerowlaw19.UndoPlays': WHATEVER THE INPUT: true; the input reads as it did. -/
def undoPlaysSpec : ChangeSpec := { name := "undoPlays", fn := fun _ => fun
  | [d1, d2] => { results := [.lit (.bool true)], args := [d1, d2] }
  | _ => none }
def undoPlaysRow : OpenClaim := { program := "ytfachjfohhhgeaagreat", sum := "dd6e21a5b0de592f3b1b04f625c21b1f1bd2609c82c45a50c2d44de4e13453da", func := "hedgerow/hedgerowlaw19.UndoPlays", spec := "undoPlays", inPlace := ["slices.overlaps[hedgerow/api.Prop]"], unfollowed := true, recurses := true, apart := false }
def UndoPlaysSaid : Prop := undoPlaysRow.holds Tryz.pinned (OpenSpec.ofChange undoPlaysSpec)

/-- ITS FALSE NEIGHBOUR: 'it returns false'. Refute it at one input. -/
def undoPlaysWrong : ChangeSpec := { name := "undoPlays", fn := fun _ => fun
  | [d1, d2] => { results := [.lit (.bool false)], args := [d1, d2] }
  | _ => none }
def UndoPlaysWrongFalsely : Prop := undoPlaysRow.holds Tryz.pinned (OpenSpec.ofChange undoPlaysWrong)

/-- 'hedgerowlaw19.UndoNone': WHATEVER THE INPUT: true; the input reads as it did. -/
def undoNoneSpec : ChangeSpec := { name := "undoNone", fn := fun _ => fun
  | [d] => { results := [.lit (.bool true)], args := [d] }
  | _ => none }
def undoNoneRow : OpenClaim := { program := "ytfachjfohhhgeaagreat", sum := "dd6e21a5b0de592f3b1b04f625c21b1f1bd2609c82c45a50c2d44de4e13453da", func := "hedgerow/hedgerowlaw19.UndoNone", spec := "undoNone", inPlace := ["slices.overlaps[hedgerow/api.Prop]"], unfollowed := true, recurses := true, apart := false }
def UndoNoneSaid : Prop := undoNoneRow.holds Tryz.pinned (OpenSpec.ofChange undoNoneSpec)

/-- ITS FALSE NEIGHBOUR: 'it returns false'. Refute it at one input. -/
def undoNoneWrong : ChangeSpec := { name := "undoNone", fn := fun _ => fun
  | [d] => { results := [.lit (.bool false)], args := [d] }
  | _ => none }
def UndoNoneWrongFalsely : Prop := undoNoneRow.holds Tryz.pinned (OpenSpec.ofChange undoNoneWrong)

/- THE SECOND FORM. 'bulk': how many values and letters a reading holds, each counted each time it is reached (what is shared counts as often as it is met; a slice's spare places count too). A statement '..UptoSaid' is the law's where the arguments, and the package variables that the reading takes, are together of bulk at most 1048576: NARROWER than '..Said'. Prove '..Said' where nothing that the law and all that it calls make is longer than what came in: it says more and counts as full. Else prove '..UptoSaid'. A law counts once. -/
mutual
def uptoBulk {H : Type} : DataW H → Nat
  | .lit (.string bytes) => bytes.length + 1
  | .lit _ => 1
  | .nil => 1
  | .ptr d => uptoBulk d + 1
  | .slice elems spare => uptoBulkAll elems + uptoBulkAll spare + 1
  | .agg parts => uptoBulkAll parts + 1
  | .iface _ d => uptoBulk d + 1
  | .map entries => uptoBulkEntries entries + 1
  | .held _ => 1
def uptoBulkAll {H : Type} : List (DataW H) → Nat
  | [] => 0
  | d :: r => uptoBulk d + uptoBulkAll r
def uptoBulkEntries {H : Type} : List (Lit × DataW H) → Nat
  | [] => 0
  | x :: r => uptoBulkEntry x + uptoBulkEntries r
def uptoBulkEntry {H : Type} : Lit × DataW H → Nat
  | (.string bytes, d) => bytes.length + uptoBulk d + 1
  | (_, d) => uptoBulk d + 1
 end
def uptoSmall : (H : Type) → List (DataW H) → Bool := fun _ ds => decide (uptoBulkAll ds ≤ 1048576)
def OpenSpec.upto (s : _root_.Go.ChangeSpec) : _root_.Go.OpenSpec := { _root_.Go.OpenSpec.ofChange s with cond := some uptoSmall }

/-- 'hedgerowlaw19.UndoRedoes', WHERE WHAT IT READS IS OF BULK AT MOST 1048576: true; the input reads as it did. -/
def undoRedoesUptoRow : OpenClaim := { program := "ytfachjfohhhgeaagreat", sum := "dd6e21a5b0de592f3b1b04f625c21b1f1bd2609c82c45a50c2d44de4e13453da", func := "hedgerow/hedgerowlaw19.UndoRedoes", spec := "undoRedoes", inPlace := ["slices.overlaps[hedgerow/api.Prop]"], unfollowed := true, recurses := true, apart := false, narrowed := true }
def UndoRedoesUptoSaid : Prop := undoRedoesUptoRow.holds Tryz.pinned (OpenSpec.upto undoRedoesSpec)

/-- 'hedgerowlaw19.UndoMost', WHERE WHAT IT READS IS OF BULK AT MOST 1048576: true; the input reads as it did. -/
def undoMostUptoRow : OpenClaim := { program := "ytfachjfohhhgeaagreat", sum := "dd6e21a5b0de592f3b1b04f625c21b1f1bd2609c82c45a50c2d44de4e13453da", func := "hedgerow/hedgerowlaw19.UndoMost", spec := "undoMost", inPlace := ["slices.overlaps[hedgerow/api.Prop]"], unfollowed := true, recurses := true, apart := false, narrowed := true }
def UndoMostUptoSaid : Prop := undoMostUptoRow.holds Tryz.pinned (OpenSpec.upto undoMostSpec)

/-- 'hedgerowlaw19.UndoMarks', WHERE WHAT IT READS IS OF BULK AT MOST 1048576: true; the input reads as it did. -/
def undoMarksUptoRow : OpenClaim := { program := "ytfachjfohhhgeaagreat", sum := "dd6e21a5b0de592f3b1b04f625c21b1f1bd2609c82c45a50c2d44de4e13453da", func := "hedgerow/hedgerowlaw19.UndoMarks", spec := "undoMarks", inPlace := ["slices.overlaps[hedgerow/api.Prop]"], unfollowed := true, recurses := true, apart := false, narrowed := true }
def UndoMarksUptoSaid : Prop := undoMarksUptoRow.holds Tryz.pinned (OpenSpec.upto undoMarksSpec)

/-- 'hedgerowlaw19.UndoAll', WHERE WHAT IT READS IS OF BULK AT MOST 1048576: true; the input reads as it did. -/
def undoAllUptoRow : OpenClaim := { program := "ytfachjfohhhgeaagreat", sum := "dd6e21a5b0de592f3b1b04f625c21b1f1bd2609c82c45a50c2d44de4e13453da", func := "hedgerow/hedgerowlaw19.UndoAll", spec := "undoAll", inPlace := ["slices.overlaps[hedgerow/api.Prop]"], unfollowed := true, recurses := true, apart := false, narrowed := true }
def UndoAllUptoSaid : Prop := undoAllUptoRow.holds Tryz.pinned (OpenSpec.upto undoAllSpec)

/-- 'hedgerowlaw19.UndoPlays', WHERE WHAT IT READS IS OF BULK AT MOST 1048576: true; the input reads as it did. -/
def undoPlaysUptoRow : OpenClaim := { program := "ytfachjfohhhgeaagreat", sum := "dd6e21a5b0de592f3b1b04f625c21b1f1bd2609c82c45a50c2d44de4e13453da", func := "hedgerow/hedgerowlaw19.UndoPlays", spec := "undoPlays", inPlace := ["slices.overlaps[hedgerow/api.Prop]"], unfollowed := true, recurses := true, apart := false, narrowed := true }
def UndoPlaysUptoSaid : Prop := undoPlaysUptoRow.holds Tryz.pinned (OpenSpec.upto undoPlaysSpec)

/-- 'hedgerowlaw19.UndoNone', WHERE WHAT IT READS IS OF BULK AT MOST 1048576: true; the input reads as it did. -/
def undoNoneUptoRow : OpenClaim := { program := "ytfachjfohhhgeaagreat", sum := "dd6e21a5b0de592f3b1b04f625c21b1f1bd2609c82c45a50c2d44de4e13453da", func := "hedgerow/hedgerowlaw19.UndoNone", spec := "undoNone", inPlace := ["slices.overlaps[hedgerow/api.Prop]"], unfollowed := true, recurses := true, apart := false, narrowed := true }
def UndoNoneUptoSaid : Prop := undoNoneUptoRow.holds Tryz.pinned (OpenSpec.upto undoNoneSpec)

end Rows
end Go.Proofs.YtfachjfohhhgeaaGreat
