/- Worlds that grow, worlds that are changed in a set of blocks alone, slices that read as lists: words for contracts; What changes touch: the plain words; a rule that no spot concerns stays kept. Conditions: those that each theorem names. -/
import Derived.WalkKit
import Derived.WalkSpells
import Derived.WalkLawsBesides
import Derived.Lib.Hide
import Derived.BigQuiet
import Derived.Deep.LoopGhost
import Derived.Test.YtanijffgogpmdaaGreatRows
import Derived.Lib.SliceRun
import Derived.WideMake
import Derived.Deep.RegionLaw
import Derived.Lib.Overlaps
import Derived.Test.YtanijffgogpmdaaGreatDirN
import Derived.Test.YtanijffgogpmdaaGreatDirQ
namespace Go.Hg
open Go.RowKit

theorem calls_gr {P : Program} {f : FuncId} {args : Array Value} {w : World} {g : Gr w} {v : Value}
    (h : Calls P f args g.x fun e w' => e = .returned v ∧ Grow g.x w') : Calls P f args g.x fun e w'' => e = .returned v ∧ ∃ g' : Gr w, w'' = g'.x :=
  h.mono fun _ w'' ⟨he, hw⟩ => ⟨he, ⟨w'', g.h.step hw⟩, rfl⟩

attribute [go_sem] ba_beq

end Go.Hg

namespace Go.Hg

theorem uniq_id {l : List PNode} (hs : (l.map (·.id)).Pairwise (· < ·)) {x y : PNode} (hx : x ∈ l) (hy : y ∈ l) (h : x.id = y.id) : x = y := by
  induction l with
  | nil => cases hx
  | cons a t ih =>
    rw [List.map_cons, List.pairwise_cons] at hs
    rcases List.mem_cons.1 hx with rfl | hx2 <;> rcases List.mem_cons.1 hy with rfl | hy2
    · rfl
    · have := hs.1 _ (List.mem_map_of_mem hy2); omega
    · have := hs.1 _ (List.mem_map_of_mem hx2); omega
    · exact ih hs.2 hx2 hy2
end Go.Hg
