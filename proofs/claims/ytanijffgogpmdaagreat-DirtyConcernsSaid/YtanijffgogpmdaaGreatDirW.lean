/- hedgerowkeep.LargeRule, LargeCat, CopyCat; A law's row: nodes, edges, catalogs, opened; Arguments: rules, catalogs (the rules' Ids are numbers of 64 bits), spots. Conditions: those that each theorem names. -/
import Derived.WalkKit
import Derived.WalkSpells
import Derived.WalkLawsBesides
import Derived.Lib.Hide
import Derived.BigQuiet
import Derived.Deep.LoopGhost
import Derived.Test.YtanijffgogpmdaaGreatRows
import Derived.Lib.SliceRun
import Derived.WideMake
import Derived.Deep.RegionLaw
import Derived.Lib.Overlaps
import Derived.Deep.RegionHeld3
import Derived.Laws.ResultCell
import Derived.Laws.EntriesVeiled
import Derived.Maps.OwnOps
import Derived.Maps.OwnSet
import Derived.Carry
import Derived.Lib.SlKeysI
import Derived.Maps.RangeWalk
import Derived.Lib.SlMapFilter
import Derived.Deep.DeepCutAuto
import Derived.RowKit
import Derived.ReadAgain
import Derived.ChangeOld
import Derived.Deep.Slices
import Derived.OpenShut
import Derived.Test.YtanijffgogpmdaaGreatDirN
import Derived.Test.YtanijffgogpmdaaGreatDirR
namespace Go.Hg
open Go.RowKit Go.Proofs

set_option maxRecDepth 100000 in
set_option maxHeartbeats 1000000 in
theorem keepLargeRule (x : PRule) (w : World) : Calls Tryz.prog 13 #[x.args] w fun e w' => ∃ b, e = .returned (.bool b) ∧ Grow w w' := by
  have HW := Lib.hid (show ∀ o1, Grow w (w.alloc o1) from fun o1 => (Grow.rfl' w).allocd o1)
  cases q1 : decide ((1000 : Int) < (x.typ.size : Int))
  rotate_left
  · go_enter Tryz.func13, Tryz.ntmps13
    go_wp2
    go_ret
    exact ⟨_, rfl, HW.out _⟩
  cases q2 : decide ((1000 : Int) < (x.name.size : Int))
  rotate_left
  · go_enter Tryz.func13, Tryz.ntmps13
    go_wp2
    go_ret
    exact ⟨_, rfl, HW.out _⟩
  cases q3 : decide ((1000 : Int) < (x.from_.size : Int))
  rotate_left
  · go_enter Tryz.func13, Tryz.ntmps13
    go_wp2
    go_ret
    exact ⟨_, rfl, HW.out _⟩
  · go_enter Tryz.func13, Tryz.ntmps13
    go_wp2
    go_ret
    exact ⟨_, rfl, HW.out _⟩

end Go.Hg

namespace Go.Hg
open Go.RowKit Go.ChangeShapes Go.WideShapes Go.Deep Go.Proofs

theorem cellsRule : Tryz.prog.cellsOf 24 = 8 := by kernel_rfl
theorem list8 {α : Type} {l : List α} (h : l.length = 8) : ∃ a b c d e f g i, l = [a, b, c, d, e, f, g, i] := by
  match l, h with
  | [a, b, c, d, e, f, g, i], _ => exact ⟨a, b, c, d, e, f, g, i, rfl⟩

section
variable {H : Type} {enc : TypeId × Value → H} {W : World} {base : Nat} {sp : Nat → Bool} {held : Bool}
theorem openRule {n : Nat} {cs : List Value} {x : DataW H × List MemPlace} (h : DataW.trod enc Tryz.prog W base sp held n 24 cs = some x) : ∃ o : PRule, RRule o cs := by
  obtain ⟨xs, m, -, -, hl, hsz, hf⟩ := DataW.trod_struct Tryz.underlying24 h
  rw [cellsRule] at hl
  obtain ⟨c0, c1, c2, c3, c4, c5, c6, c7, rfl⟩ := list8 hl
  obtain ⟨y0, h0⟩ := field_at hsz hf 0 rfl rfl cellsI rfl
  obtain ⟨y1, h1⟩ := field_at hsz hf 1 rfl rfl cellsI rfl
  obtain ⟨y2, h2⟩ := field_at hsz hf 2 rfl rfl cellsStr rfl
  obtain ⟨y3, h3⟩ := field_at hsz hf 3 rfl rfl cellsStr rfl
  obtain ⟨y4, h4⟩ := field_at hsz hf 4 rfl rfl cellsStr rfl
  obtain ⟨y5, h5⟩ := field_at hsz hf 5 rfl rfl cellsStr rfl
  obtain ⟨y6, h6⟩ := field_at hsz hf 6 rfl rfl cellsI rfl
  obtain ⟨y7, h7⟩ := field_at hsz hf 7 rfl rfl cellsI rfl
  obtain ⟨a0, e0, -⟩ := DataW.trod_int Tryz.underlying3 h0
  obtain ⟨a1, e1, -⟩ := DataW.trod_int Tryz.underlying3 h1
  obtain ⟨a2, e2, -⟩ := DataW.trod_string Tryz.underlying9 h2
  obtain ⟨a3, e3, -⟩ := DataW.trod_string Tryz.underlying9 h3
  obtain ⟨a4, e4, -⟩ := DataW.trod_string Tryz.underlying9 h4
  obtain ⟨a5, e5, -⟩ := DataW.trod_string Tryz.underlying9 h5
  obtain ⟨a6, e6, -⟩ := DataW.trod_int Tryz.underlying3 h6
  obtain ⟨a7, e7, -⟩ := DataW.trod_int Tryz.underlying3 h7
  simp at e0 e1 e2 e3 e4 e5 e6 e7
  exact ⟨⟨a0, a1, a2, a3, a4, a5, a6, a7⟩, by unfold RRule; rw [e0, e1, e2, e3, e4, e5, e6, e7]⟩
end
end Go.Hg

namespace Go.Hg
open Go.RowKit Go.ChangeShapes Go.WideShapes Go.Deep Go.Proofs
variable {H : Type} {enc : TypeId × Value → H} {W : World} {base : Nat} {sp : Nat → Bool} {held : Bool}

def WfId (r : PRule) : Prop := (Lit.int .i64 r.id).wf = true
set_option maxRecDepth 100000 in
theorem openRuleW {n : Nat} {cs : List Value} {x : DataW H × List MemPlace} (h : DataW.trod enc Tryz.prog W base sp held n 24 cs = some x) : ∃ o : PRule, RRule o cs ∧ WfId o := by
  have hh := h
  obtain ⟨o, ho⟩ := openRule h
  obtain ⟨xs, m, -, -, hl, hsz, hf⟩ := DataW.trod_struct Tryz.underlying24 hh
  rw [cellsRule] at hl
  obtain ⟨c0, c1, c2, c3, c4, c5, c6, c7, rfl⟩ := list8 hl
  obtain ⟨y0, h0⟩ := field_at hsz hf 0 rfl rfl cellsI rfl
  obtain ⟨a0, e0, -, hw⟩ := DataW.trod_int Tryz.underlying3 h0
  refine ⟨o, ho, ?_⟩
  have e1 : c0 = .int .i64 a0 := by simpa using e0
  unfold RRule at ho
  simp only [List.cons.injEq] at ho
  rw [e1] at ho
  have e2 : a0 = o.id := by have := ho.1; simpa using this
  unfold WfId
  rw [← e2]
  exact hw
end Go.Hg
