/- ref20.of: a change's spots are put into spots in order. Conditions: those that each theorem names. -/
import Derived.WalkKit
import Derived.WalkSpells
import Derived.WalkLawsBesides
import Derived.Lib.Hide
import Derived.BigQuiet
import Derived.Deep.LoopGhost
import Derived.Test.YtanijffgogpmdaaGreatRows
import Derived.Lib.SliceRun
import Derived.WideMake
import Derived.Deep.RegionLaw
import Derived.Lib.Overlaps
import Derived.Deep.RegionHeld3
import Derived.Laws.ResultCell
import Derived.Laws.EntriesVeiled
import Derived.Maps.OwnOps
import Derived.Maps.OwnSet
import Derived.Carry
import Derived.Lib.SlKeysI
import Derived.Maps.RangeWalk
import Derived.Lib.SlMapFilter
import Derived.Deep.DeepCutAuto
import Derived.Shelf.SlIterI.Nil
import Derived.Shelf.SortM.Plain
import Derived.Shelf.SortM.SortNone
import Derived.Shelf.SlMaps.DeleteFunc
import Derived.Shelf.SlSortCmp.WholeK
import Derived.Shelf.SlIterI.Collect
import Derived.RangeFuncBox
import Derived.RangeFuncLeaves
import Derived.RangeFuncWrites
import Derived.Maps.AppendAt
import Derived.Deep.CutBlock
import Derived.Test.YtanijffgogpmdaaGreatDirN
import Derived.Test.YtanijffgogpmdaaGreatDirO
import Derived.Test.YtanijffgogpmdaaGreatDirP
import Derived.Test.YtanijffgogpmdaaGreatDirS
import Derived.Test.YtanijffgogpmdaaGreatDirT
import Derived.Test.YtanijffgogpmdaaGreatDirZ
namespace Go.Hg
open Go.RowKit Go.Proofs

theorem putSp_len (l : List PSpot) (s : PSpot) : (putSp l s).length ≤ l.length + 1 := by
  unfold putSp
  split
  · omega
  · rw [List.length_append, List.length_cons]
    have h := congrArg List.length (List.takeWhile_append_dropWhile (p := fun x => ltSp x s) (l := l))
    rw [List.length_append] at h
    omega
theorem putSp_ne (l : List PSpot) (s : PSpot) : putSp l s ≠ [] := by
  unfold putSp
  split
  · intro h; subst h; rename_i h; cases h
  · simp
theorem ref20PutS {S : Nat → Prop} {n0 : Nat} {lv : Value} {l M : List PSpot} {w : World} (s : PSpot) (hl : SpotsR (fun b => S b ∨ n0 ≤ b) w lv l) (hn : n0 ≤ w.heap.size) (hp : SpSet l M) (h0 : l = [] → lv = .slice none 0 0) (hb : l.length ≤ 65536) :
    Calls Tryz.prog 95 #[lv, s.args] w fun e w' => ∃ v L, e = .returned v ∧ SpSet L (M ++ [s]) ∧ L.length ≤ l.length + 1 ∧ SpotsR (fun b => S b ∨ n0 ≤ b) w' v L ∧ L ≠ [] ∧ Grow w w' :=
  (ref20Put _ lv l s w hl hp.1 hb h0).mono fun _ _ ⟨v, he, hs, hg⟩ => ⟨v, _, he, hp.put s, putSp_len l s, hs.sub (fun _ h => h.elim (fun x => x) fun h => .inr (Nat.le_trans hn h)) (fun _ _ _ h => h), putSp_ne l s, hg⟩

end Go.Hg
