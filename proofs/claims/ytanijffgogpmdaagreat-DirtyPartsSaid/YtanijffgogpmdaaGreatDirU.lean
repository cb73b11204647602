/- The graph of wakes, of layer 18; keep.Op, keep.Ops of what is alike. Conditions: those that each theorem names. -/
import Derived.WalkKit
import Derived.WalkSpells
import Derived.WalkLawsBesides
import Derived.Lib.Hide
import Derived.BigQuiet
import Derived.Deep.LoopGhost
import Derived.Test.YtanijffgogpmdaaGreatRows
import Derived.Lib.SliceRun
import Derived.WideMake
import Derived.Deep.RegionLaw
import Derived.Lib.Overlaps
import Derived.Deep.RegionHeld3
import Derived.Laws.ResultCell
import Derived.Laws.EntriesVeiled
import Derived.Test.YtanijffgogpmdaaGreatDirN
import Derived.Test.YtanijffgogpmdaaGreatDirO
import Derived.Test.YtanijffgogpmdaaGreatDirQ
namespace Go.Hg
def wa : POp := ⟨1, 0, sMan, 0, 0, ByteArray.empty, ⟨0, 0, ByteArray.empty⟩, false⟩
end Go.Hg

namespace Go.Hg
open Go.RowKit Go.Proofs

theorem two2 (W : World) (o1 o2 : Obj) (w' : World) (g : Grow ((W.alloc o1).alloc o2) w') : w'.heap[W.heap.size]? = some o1 ∧ w'.heap[W.heap.size + 1]? = some o2 := by
  have h2 := heap_alloc_new (W.alloc o1) o2
  rw [World.size_alloc] at h2
  exact ⟨(g.heapEq (by simp; omega)).trans ((((Grow.rfl' (W.alloc o1)).allocd o2).heapEq (by simp)).trans (heap_alloc_new W o1)), (g.heapEq (by simp)).trans h2⟩

end Go.Hg
