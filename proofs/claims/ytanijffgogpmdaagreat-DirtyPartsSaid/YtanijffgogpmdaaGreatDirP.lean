/- A row of structs of one's own, made since a block: the law of append. Conditions: those that each theorem names. -/
import Derived.WalkKit
import Derived.WalkSpells
import Derived.WalkLawsBesides
import Derived.Lib.Hide
import Derived.BigQuiet
import Derived.Deep.LoopGhost
import Derived.Test.YtanijffgogpmdaaGreatRows
import Derived.Lib.SliceRun
import Derived.WideMake
import Derived.Deep.RegionLaw
import Derived.Lib.Overlaps
import Derived.Deep.RegionHeld3
import Derived.Laws.ResultCell
import Derived.Test.YtanijffgogpmdaaGreatDirN
namespace Go.Hg
open Go.RowKit Go.Proofs

section
variable {α : Type} {e : TypeId} {sz : Nat} {R : α → List Value → Prop} {n : Nat} {w w' : World} {v : Value} {l : List α}
end
theorem rdK (W : World) (cs : Array Value) (E : TypeId) (sz : Nat) (hs : cs.size = sz) {nb : Nat} (h : W.heap.size = nb) : Rd (W.alloc (.cells cs E)) sz (.slice (some ⟨nb, 0, none⟩) 1 1) 1 cs.toList := by
  subst h
  exact Rd.lit W cs E sz 1 (by omega)
end Go.Hg
