/- law20.DirtyKeeps: true; the loop of changes. Conditions: those that each theorem names. -/
import Derived.WalkKit
import Derived.WalkSpells
import Derived.WalkLawsBesides
import Derived.Lib.Hide
import Derived.BigQuiet
import Derived.Deep.LoopGhost
import Derived.Test.YtanijffgogpmdaaGreatRows
import Derived.Lib.SliceRun
import Derived.WideMake
import Derived.Deep.RegionLaw
import Derived.Lib.Overlaps
import Derived.Deep.RegionHeld3
import Derived.Laws.ResultCell
import Derived.Laws.EntriesVeiled
import Derived.Maps.OwnOps
import Derived.Maps.OwnSet
import Derived.Carry
import Derived.Lib.SlKeysI
import Derived.Maps.RangeWalk
import Derived.Lib.SlMapFilter
import Derived.Deep.DeepCutAuto
import Derived.Shelf.SlIterI.Nil
import Derived.Shelf.SortM.Plain
import Derived.Shelf.SortM.SortNone
import Derived.Shelf.SlMaps.DeleteFunc
import Derived.Shelf.SlSortCmp.WholeK
import Derived.Shelf.SlIterI.Collect
import Derived.RangeFuncBox
import Derived.RangeFuncLeaves
import Derived.RangeFuncWrites
import Derived.Maps.AppendAt
import Derived.Deep.CutBlock
import Derived.BigRegion
import Derived.Test.YtanijffgogpmdaaGreatDirN
import Derived.Test.YtanijffgogpmdaaGreatDirO
import Derived.Test.YtanijffgogpmdaaGreatDirQ
import Derived.Test.YtanijffgogpmdaaGreatDirR
import Derived.Test.YtanijffgogpmdaaGreatDirU
import Derived.Test.YtanijffgogpmdaaGreatDirX
namespace Go.Hg
open Go.RowKit Go.Proofs

theorem three3 (W : World) (o1 o2 o3 : Obj) : (((W.alloc o1).alloc o2).alloc o3).heap[W.heap.size]? = some o1 ∧ (((W.alloc o1).alloc o2).alloc o3).heap[W.heap.size + 1]? = some o2 ∧ (((W.alloc o1).alloc o2).alloc o3).heap[W.heap.size + 1 + 1]? = some o3 := by
  have h3 := heap_alloc_new ((W.alloc o1).alloc o2) o3
  rw [World.size_alloc, World.size_alloc] at h3
  obtain ⟨h1, h2⟩ := two2 W o1 o2 (((W.alloc o1).alloc o2).alloc o3) ((Grow.rfl' _).allocd _)
  exact ⟨h1, h2, h3⟩
def CatNew (W : World) (t : ByteArray) (v : Value) (w : World) : Prop := ∃ (b : Nat) (nv ev : Value), v = .pointer (some ⟨b, 0, none⟩) ∧ W.heap.size ≤ b ∧ CatAt w b nv ev (.slice none 0 0) (.slice none 0 0) ⟨[t], [t], [], [], 0⟩ ∧ CatR (fun b => W.heap.size ≤ b) w nv ev (.slice none 0 0) (.slice none 0 0) ⟨[t], [t], [], [], 0⟩ ∧ Grow W w
theorem catNew {W w : World} {b b1 b2 : Nat} {t : ByteArray} (h1 : w.heap[b1]? = some (.cells #[.string t] 9 (0, 0))) (h2 : w.heap[b2]? = some (.cells #[.string t] 9 (0, 0))) (h : w.heap[b]? = some (.cells #[.slice (some ⟨b1, 0, none⟩) 1 1, .slice (some ⟨b2, 0, none⟩) 1 1, .slice none 0 0, .slice none 0 0, .int .i64 0] 52 (0, 0))) (hb1 : W.heap.size ≤ b1) (hb2 : W.heap.size ≤ b2) (hb : W.heap.size ≤ b) (g : Grow W w) : CatNew W t (.pointer (some ⟨b, 0, none⟩)) w :=
  ⟨b, _, _, rfl, hb, h, catOf h1 h2 hb1 hb2, g⟩
end Go.Hg
