/- A job that nobody made; law23.BuildNone. Conditions: those that each theorem names. -/
import Derived.WalkKit
import Derived.WalkSpells
import Derived.WalkLawsBesides
import Derived.Lib.Hide
import Derived.BigQuiet
import Derived.Deep.LoopGhost
import Derived.Test.YtfachjfohhhgeaaGreatDoorRows
import Derived.Lib.SliceRun
import Derived.WideMake
import Derived.Deep.RegionLaw
import Derived.Lib.Overlaps
import Derived.Deep.RegionHeld3
import Derived.Laws.ResultCell
import Derived.Shelf.SortM.Plain
import Derived.Shelf.SortM.SortNone
import Derived.Shelf.SlicesE.DeleteFunc
import Derived.Maps.OwnOps
import Derived.Maps.OwnSet
import Derived.Carry
import Derived.Lib.SlKeysI
import Derived.Shelf.SlIterI.Nil
import Derived.Conc.LoneCalls
import Derived.Conc.SmallLaws
import Derived.Deep.CutBlock
import Derived.Deep.DeepCutAuto
import Derived.Laws.EntriesVeiled
import Derived.Maps.RangeWalk
import Derived.Lib.SlMapFilter
import Derived.Test.YtfachjfohhhgeaaGreatDoorBdL
import Derived.Test.YtfachjfohhhgeaaGreatDoorBdN
import Derived.Test.YtfachjfohhhgeaaGreatDoorBdP
import Derived.Test.YtfachjfohhhgeaaGreatDoorBdT
import Derived.Test.YtfachjfohhhgeaaGreatDoorBdV
namespace Go.Hg
open Go.RowKit Go.Proofs

set_option maxHeartbeats 1000000 in
theorem jobTouchNil (v : Value) (w : World) : Calls Tryz.prog 15 #[.pointer none, v] w fun e w' => e = .returned (.tuple #[]) ∧ w' = w := by
  go_enter Tryz.func15, Tryz.ntmps15
  go_wp2
  refine bodyPost_ret (results_none (by kernel_rfl) _ _ _) rfl ?_
  exact ⟨rfl, rfl⟩
set_option maxHeartbeats 1000000 in
theorem jobVerdictNil (gv : Value) (w : World) : Calls Tryz.prog 16 #[.pointer none, gv] w fun e w' => e = .returned (.tuple #[.bool false, .int .i64 11]) ∧ w' = w := by
  go_enter Tryz.func16, Tryz.ntmps16
  go_wp2
  go_ret2
  exact ⟨rfl, rfl⟩
set_option maxHeartbeats 1000000 in
theorem jobStepNil (gv : Value) (w : World) : Calls Tryz.prog 14 #[.pointer none, gv] w fun e w' => e = .returned (.bool true) ∧ w' = w := by
  go_enter Tryz.func14, Tryz.ntmps14
  go_wp2
  go_ret
  exact ⟨rfl, rfl⟩
set_option maxHeartbeats 1000000 in
theorem jobAtNil (w : World) : Calls Tryz.prog 19 #[.pointer none] w fun e w' => e = .returned (.int .i64 0) ∧ w' = w := by
  go_enter Tryz.func19, Tryz.ntmps19
  go_wp2
  go_ret
  exact ⟨rfl, rfl⟩
set_option maxHeartbeats 1000000 in
theorem jobLeftNil (w : World) : Calls Tryz.prog 22 #[.pointer none] w fun e w' => e = .returned (.int .i64 0) ∧ w' = w := by
  go_enter Tryz.func22, Tryz.ntmps22
  go_wp2
  go_ret
  exact ⟨rfl, rfl⟩
def zR : PRule := ⟨0, 0, ⟨#[]⟩, ⟨#[]⟩, ⟨#[]⟩, ⟨#[]⟩, 0, 0⟩
set_option maxRecDepth 100000 in
set_option maxHeartbeats 2000000 in
theorem jobRuleNil (w : World) : Calls Tryz.prog 34 #[.pointer none] w fun e w' => e = .returned zR.args ∧ Grow w w' := by
  go_enter Tryz.func34, Tryz.ntmps34
  go_wp2
  refine bodyPost_ret (v := zR.args) ?_ rfl ⟨rfl, (Grow.rfl' w).allocd _⟩
  rw [results_cell1 rfl]
  obtain ⟨d0, d1, d2, d3, d4, d5, d6, d7⟩ := ruleB_of (r := zR) (rest := []) (heap_alloc_new w (.cells #[.int .i64 0, .int .i64 0, .string ⟨#[]⟩, .string ⟨#[]⟩, .string ⟨#[]⟩, .string ⟨#[]⟩, .int .i64 0, .int .i64 0] 23))
  go_simp

set_option maxRecDepth 100000 in
set_option maxHeartbeats 4000000 in
theorem law23None (S : Nat → Prop) (v : Value) (l : List Int) (w : World) (hx : ExG w) (hl : IdsR S w v l) : Calls Tryz.prog 7 #[v] w fun e w' => e = .returned (.bool true) ∧ Grow w w' := by
  have HX := Lib.hid hx
  obtain ⟨_, _, rfl, -, -, -⟩ := SlR.open hl
  clear hx hl
  go_enter Tryz.func7, Tryz.ntmps7
  by_cases h100 : (100 : Int) < (l.length : Int)
  · go_wp2_with fail
    refine (law23Wakes w HX.out).mono ?_
    rintro e w2 ⟨rfl, g2⟩
    have HG2 := Lib.hid g2
    clear g2
    go_wp2
    go_ret
    exact ⟨rfl, HG2.out⟩
  · go_wp2_with fail
    refine (jobTouchNil _ w).mono ?_
    rintro e w1 ⟨rfl, hw⟩
    have hw' := hw.symm
    subst hw'
    clear hw
    go_wp2_with fail
    refine (lawMade (fun _ => True) _ [] w ⟨none, 0, [], rfl, by simp, by simp [maxLen], rfl, by simp, by simp⟩).mono ?_
    rintro e w3 h3
    obtain ⟨Bg, Bq, rfl, hpr⟩ : ∃ (B1 B2 : Nat), e = .returned (.tuple #[.pointer (some ⟨B1, 0, none⟩), .pointer (some ⟨B2, 0, none⟩), .bool true]) ∧ Pair 106 42 w w3 B1 B2 (madeG []) (madeG []) := by
      rcases h3 with ⟨h, -⟩ | ⟨-, h⟩
      · exact absurd h (by decide)
      · exact h
    have HG3 := Lib.hid hpr.grown
    clear hpr h3
    go_wp2_with fail
    refine (jobVerdictNil _ w3).mono ?_
    rintro e w4 ⟨rfl, hw⟩
    have hw' := hw.symm
    subst hw'
    clear hw
    go_wp2_with fail
    refine (jobStepNil _ w3).mono ?_
    rintro e w4 ⟨rfl, hw⟩
    have hw' := hw.symm
    subst hw'
    clear hw
    go_wp2_with fail
    refine (jobAtNil w3).mono ?_
    rintro e w4 ⟨rfl, hw⟩
    have hw' := hw.symm
    subst hw'
    clear hw
    go_wp2_with fail
    refine (jobLeftNil w3).mono ?_
    rintro e w4 ⟨rfl, hw⟩
    have hw' := hw.symm
    subst hw'
    clear hw
    go_wp2_with fail
    refine (jobRuleNil w3).mono ?_
    rintro e w4 ⟨rfl, g4⟩
    have HG4 := Lib.hid (HG3.out.step g4)
    clear g4
    go_wp2_with fail
    refine (keepRuleEq zR w4).mono ?_
    rintro e w5 ⟨rfl, g5⟩
    have HG5 := Lib.hid (HG4.out.step g5)
    clear g5
    go_wp2_with fail
    refine (law23Wakes w5 (HX.out.grow HG5.out)).mono ?_
    rintro e w6 ⟨rfl, g6⟩
    have HG6 := Lib.hid (HG5.out.step g6)
    clear g6
    go_wp2
    go_ret
    exact ⟨rfl, HG6.out⟩
end Go.Hg
