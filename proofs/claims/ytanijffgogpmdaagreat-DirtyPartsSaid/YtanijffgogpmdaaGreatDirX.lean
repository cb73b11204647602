/- law20.DirtyKeeps: true; the loop of changes. Conditions: those that each theorem names. -/
import Derived.WalkKit
import Derived.WalkSpells
import Derived.WalkLawsBesides
import Derived.Lib.Hide
import Derived.BigQuiet
import Derived.Deep.LoopGhost
import Derived.Test.YtanijffgogpmdaaGreatRows
import Derived.Lib.SliceRun
import Derived.WideMake
import Derived.Deep.RegionLaw
import Derived.Lib.Overlaps
import Derived.Deep.RegionHeld3
import Derived.Laws.ResultCell
import Derived.Laws.EntriesVeiled
import Derived.Maps.OwnOps
import Derived.Maps.OwnSet
import Derived.Carry
import Derived.Lib.SlKeysI
import Derived.Maps.RangeWalk
import Derived.Lib.SlMapFilter
import Derived.Deep.DeepCutAuto
import Derived.Shelf.SlIterI.Nil
import Derived.Shelf.SortM.Plain
import Derived.Shelf.SortM.SortNone
import Derived.Shelf.SlMaps.DeleteFunc
import Derived.Shelf.SlSortCmp.WholeK
import Derived.Shelf.SlIterI.Collect
import Derived.RangeFuncBox
import Derived.RangeFuncLeaves
import Derived.RangeFuncWrites
import Derived.Maps.AppendAt
import Derived.Deep.CutBlock
import Derived.BigRegion
import Derived.Test.YtanijffgogpmdaaGreatDirN
import Derived.Test.YtanijffgogpmdaaGreatDirQ
import Derived.Test.YtanijffgogpmdaaGreatDirR
namespace Go.Hg
open Go.RowKit Go.Proofs

theorem strOf {w : World} {b : Nat} {t : ByteArray} (h : w.heap[b]? = some (.cells #[.string t] 9 (0, 0))) {S : Nat → Prop} (hS : S b) : StrsR S w (.slice (some ⟨b, 0, none⟩) 1 1) [t] := by
  refine ⟨_, _, [[.string t]], rfl, by simp, by simp [maxLen], rfl, fun k x r hx hr => ?_, fun _ => ⟨b, 0, rfl, hS, blk_lt h, fun k r j c hr hc => ?_⟩⟩
  · cases k with
    | zero => simp at hx hr; subst hx; subst hr; rfl
    | succ k => simp at hx
  · cases k with
    | zero =>
      simp at hr; subst hr
      cases j with
      | zero => simp at hc; subst hc; exact (blk_cell h _).trans rfl
      | succ j => simp at hc
    | succ k => simp at hr
theorem catOf {W w : World} {b1 b2 : Nat} {t : ByteArray} (h1 : w.heap[b1]? = some (.cells #[.string t] 9 (0, 0))) (h2 : w.heap[b2]? = some (.cells #[.string t] 9 (0, 0))) (hb1 : W.heap.size ≤ b1) (hb2 : W.heap.size ≤ b2) : CatR (fun b => W.heap.size ≤ b) w (.slice (some ⟨b1, 0, none⟩) 1 1) (.slice (some ⟨b2, 0, none⟩) 1 1) (.slice none 0 0) (.slice none 0 0) ⟨[t], [t], [], [], 0⟩ :=
  ⟨strOf h1 hb1, strOf h2 hb2, (OwnL.nil _ 0 _ _).toSl (by simp), (OwnL.nil _ 0 _ _).toSl (by simp)⟩
theorem opcMod {P : Nat → Prop} {W w' : World} {b o : Nat} {x : POp} (h : OpC W b o x) (g : Mod P W w') (hb : b < W.heap.size) (hP : ¬ P b) : OpC w' b o x := by
  have e : ∀ o', w'.cell? ⟨b, o', none⟩ = W.cell? ⟨b, o', none⟩ := fun o' => World.cell?_of_block (w := W) (g.block b hb hP)
  obtain ⟨h0, h1, h2, h3, h4, h5, h6, h7, h8, h9⟩ := h
  exact ⟨(e _).trans h0, (e _).trans h1, (e _).trans h2, (e _).trans h3, (e _).trans h4, (e _).trans h5, (e _).trans h6, (e _).trans h7, (e _).trans h8, (e _).trans h9⟩

end Go.Hg
