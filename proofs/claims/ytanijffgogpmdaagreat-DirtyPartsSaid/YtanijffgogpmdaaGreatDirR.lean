/- law21.CheckTells: returns true. Conditions: those that each theorem names. -/
import Derived.WalkKit
import Derived.WalkSpells
import Derived.WalkLawsBesides
import Derived.Lib.Hide
import Derived.BigQuiet
import Derived.Deep.LoopGhost
import Derived.Test.YtanijffgogpmdaaGreatRows
import Derived.Lib.SliceRun
import Derived.WideMake
import Derived.Deep.RegionLaw
import Derived.Lib.Overlaps
import Derived.Deep.RegionHeld3
import Derived.Laws.ResultCell
import Derived.Laws.EntriesVeiled
import Derived.Maps.OwnOps
import Derived.Maps.OwnSet
import Derived.Carry
import Derived.Lib.SlKeysI
import Derived.Maps.RangeWalk
import Derived.Lib.SlMapFilter
import Derived.Deep.DeepCutAuto
import Derived.Shelf.SlIterI.Nil
import Derived.Shelf.SortM.Plain
import Derived.Shelf.SortM.SortNone
import Derived.Shelf.SlMaps.DeleteFunc
import Derived.Shelf.SlSortCmp.WholeK
import Derived.Deep.CutBlock
import Derived.BigRegion
import Derived.Test.YtanijffgogpmdaaGreatDirN
namespace Go.Hg
open Go.RowKit Go.Proofs

abbrev CatCell (w : World) (b : Nat) (nv ev rv iv : Value) (c : PCat) : Prop := b < w.heap.size ∧ w.cell? ⟨b, 0, none⟩ = some nv ∧ w.cell? ⟨b, 1, none⟩ = some ev ∧ w.cell? ⟨b, 2, none⟩ = some rv ∧ w.cell? ⟨b, 3, none⟩ = some iv ∧ w.cell? ⟨b, 4, none⟩ = some (.int .i64 c.nextRule)
theorem catCellAt {w w' : World} {b : Nat} {nv ev rv iv : Value} {c : PCat} (h : w.heap[b]? = some (.cells #[nv, ev, rv, iv, .int .i64 c.nextRule] 52)) (g : Grow w w') : CatCell w' b nv ev rv iv c := by
  have h2 : w'.heap[b]? = _ := (g.heapEq (blk_lt h)).trans h
  exact ⟨blk_lt h2, (blk_cell h2 _).trans rfl, (blk_cell h2 _).trans rfl, (blk_cell h2 _).trans rfl, (blk_cell h2 _).trans rfl, (blk_cell h2 _).trans rfl⟩

end Go.Hg
