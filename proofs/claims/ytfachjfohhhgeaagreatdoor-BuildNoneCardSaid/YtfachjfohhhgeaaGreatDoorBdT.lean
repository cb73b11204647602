/- hedgerowkeep.Longs, Texts, Rule, Cats of equal ones: true. Conditions: those that each theorem names. -/
import Derived.WalkKit
import Derived.WalkSpells
import Derived.WalkLawsBesides
import Derived.Lib.Hide
import Derived.BigQuiet
import Derived.Deep.LoopGhost
import Derived.Test.YtfachjfohhhgeaaGreatDoorRows
import Derived.Lib.SliceRun
import Derived.WideMake
import Derived.Deep.RegionLaw
import Derived.Lib.Overlaps
import Derived.Deep.RegionHeld3
import Derived.Laws.ResultCell
import Derived.Test.YtfachjfohhhgeaaGreatDoorBdL
import Derived.Test.YtfachjfohhhgeaaGreatDoorBdN
import Derived.Test.YtfachjfohhhgeaaGreatDoorBdP
namespace Go.Hg
open Go.RowKit Go.Proofs

set_option maxRecDepth 100000 in
set_option maxHeartbeats 1000000 in
theorem keepRuleEq (x : PRule) (w : World) : Calls Tryz.prog 33 #[x.args, x.args] w fun e w' => e = .returned (.bool true) ∧ Grow w w' := by
  have HW := Lib.hid (show ∀ o1 o2, Grow w ((w.alloc o1).alloc o2) from fun o1 o2 => ((Grow.rfl' w).allocd o1).allocd o2)
  go_enter Tryz.func33, Tryz.ntmps33
  go_wp2
  go_ret
  exact ⟨rfl, HW.out _ _⟩
end Go.Hg
