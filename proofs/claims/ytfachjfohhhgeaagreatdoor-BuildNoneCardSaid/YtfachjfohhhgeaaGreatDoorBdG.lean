/- graph.acts: a kind's two functions; graph.May, Do; hedgerowkeep.LargeValue, LargeOp; hedgerowlaw17.Fair, Types, wakes; val.Get, hedgerowref02.Get: a property's value. Conditions: those that each theorem names. -/
import Derived.WalkKit
import Derived.WalkSpells
import Derived.WalkLawsBesides
import Derived.Lib.Hide
import Derived.BigQuiet
import Derived.Deep.LoopGhost
import Derived.Test.YtfachjfohhhgeaaGreatDoorRows
import Derived.Lib.SliceRun
import Derived.WideMake
import Derived.Deep.RegionLaw
import Derived.Lib.Overlaps
import Derived.Deep.RegionHeld3
import Derived.Laws.ResultCell
import Derived.Laws.EntriesVeiled
import Derived.Test.YtfachjfohhhgeaaGreatDoorBdF
namespace Go.Hg
open Go.RowKit Go.Proofs

theorem zeroAct (w : World) : (zeroValue 102).run Tryz.prog w = .ok (.agg #[.nilFunc, .nilFunc]) w := by kernel_rfl

set_option maxRecDepth 100000 in
set_option maxHeartbeats 1000000 in
theorem acts1 (w : World) : Calls Tryz.prog 51 #[.int .i64 1] w fun e w' => e = .returned (.tuple #[.agg #[.func (.func 84) #[] #[], .func (.func 85) #[] #[]], .bool true]) ∧ Grow w w' := by
  have hsz : (w.alloc (.cells #[.nilFunc, .nilFunc] 102)).heap.size = w.heap.size + 1 := by simp
  have hT : Tryz.prog.underlying 143 = some (.map 3 102) := Tryz.underlying143
  have hI : Tryz.prog.underlying 3 = some (.int .i64) := Tryz.underlying3
  have i1 := run_ins _ _ hsz hT hI #[] 0 1 (.agg #[.func (.func 84) #[] #[], .func (.func 85) #[] #[]]) rfl
  have i2 := run_ins _ _ hsz hT hI #[{ key := .int .i64 1, val := .agg #[.func (.func 84) #[] #[], .func (.func 85) #[] #[]], born := 0 }] 1 2 (.agg #[.func (.func 86) #[] #[], .func (.func 87) #[] #[]]) rfl
  have i3 := run_ins _ _ hsz hT hI #[{ key := .int .i64 1, val := .agg #[.func (.func 84) #[] #[], .func (.func 85) #[] #[]], born := 0 }, { key := .int .i64 2, val := .agg #[.func (.func 86) #[] #[], .func (.func 87) #[] #[]], born := 1 }] 2 3 (.agg #[.func (.func 88) #[] #[], .func (.func 89) #[] #[]]) rfl
  have i4 := run_ins _ _ hsz hT hI #[{ key := .int .i64 1, val := .agg #[.func (.func 84) #[] #[], .func (.func 85) #[] #[]], born := 0 }, { key := .int .i64 2, val := .agg #[.func (.func 86) #[] #[], .func (.func 87) #[] #[]], born := 1 }, { key := .int .i64 3, val := .agg #[.func (.func 88) #[] #[], .func (.func 89) #[] #[]], born := 2 }] 3 4 (.agg #[.func (.func 90) #[] #[], .func (.func 91) #[] #[]]) rfl
  have i5 := run_ins _ _ hsz hT hI #[{ key := .int .i64 1, val := .agg #[.func (.func 84) #[] #[], .func (.func 85) #[] #[]], born := 0 }, { key := .int .i64 2, val := .agg #[.func (.func 86) #[] #[], .func (.func 87) #[] #[]], born := 1 }, { key := .int .i64 3, val := .agg #[.func (.func 88) #[] #[], .func (.func 89) #[] #[]], born := 2 }, { key := .int .i64 4, val := .agg #[.func (.func 90) #[] #[], .func (.func 91) #[] #[]], born := 3 }] 4 5 (.agg #[.func (.func 92) #[] #[], .func (.func 93) #[] #[]]) rfl
  simp only [List.push_toArray, List.cons_append, List.nil_append, Nat.reduceAdd] at i1 i2 i3 i4 i5
  have hmm := @run_makeMap Tryz.prog
  have HG := Lib.hid (show ∀ o1 o2 o3, Grow w (((w.alloc o1).alloc o2).alloc o3) from fun o1 o2 o3 => (((Grow.rfl' w).allocd o1).allocd o2).allocd o3)
  have lk := run_look_hit _ _ hsz hT hI #[{ key := .int .i64 1, val := .agg #[.func (.func 84) #[] #[], .func (.func 85) #[] #[]], born := 0 }, { key := .int .i64 2, val := .agg #[.func (.func 86) #[] #[], .func (.func 87) #[] #[]], born := 1 }, { key := .int .i64 3, val := .agg #[.func (.func 88) #[] #[], .func (.func 89) #[] #[]], born := 2 }, { key := .int .i64 4, val := .agg #[.func (.func 90) #[] #[], .func (.func 91) #[] #[]], born := 3 }, { key := .int .i64 5, val := .agg #[.func (.func 92) #[] #[], .func (.func 93) #[] #[]], born := 4 }] 5 1 0 _ rfl
  clear hsz
  go_enter Tryz.func51, Tryz.ntmps51
  go_wp2
  refine bodyPost_ret (v := .tuple #[.agg #[.func (.func 84) #[] #[], .func (.func 85) #[] #[]], .bool true]) ?_ rfl ⟨rfl, HG.out _ _ _⟩
  rw [results_cell_tmp rfl]
  go_simp

set_option maxRecDepth 100000 in
set_option maxHeartbeats 1000000 in
theorem acts2 (w : World) : Calls Tryz.prog 51 #[.int .i64 2] w fun e w' => e = .returned (.tuple #[.agg #[.func (.func 86) #[] #[], .func (.func 87) #[] #[]], .bool true]) ∧ Grow w w' := by
  have hsz : (w.alloc (.cells #[.nilFunc, .nilFunc] 102)).heap.size = w.heap.size + 1 := by simp
  have hT : Tryz.prog.underlying 143 = some (.map 3 102) := Tryz.underlying143
  have hI : Tryz.prog.underlying 3 = some (.int .i64) := Tryz.underlying3
  have i1 := run_ins _ _ hsz hT hI #[] 0 1 (.agg #[.func (.func 84) #[] #[], .func (.func 85) #[] #[]]) rfl
  have i2 := run_ins _ _ hsz hT hI #[{ key := .int .i64 1, val := .agg #[.func (.func 84) #[] #[], .func (.func 85) #[] #[]], born := 0 }] 1 2 (.agg #[.func (.func 86) #[] #[], .func (.func 87) #[] #[]]) rfl
  have i3 := run_ins _ _ hsz hT hI #[{ key := .int .i64 1, val := .agg #[.func (.func 84) #[] #[], .func (.func 85) #[] #[]], born := 0 }, { key := .int .i64 2, val := .agg #[.func (.func 86) #[] #[], .func (.func 87) #[] #[]], born := 1 }] 2 3 (.agg #[.func (.func 88) #[] #[], .func (.func 89) #[] #[]]) rfl
  have i4 := run_ins _ _ hsz hT hI #[{ key := .int .i64 1, val := .agg #[.func (.func 84) #[] #[], .func (.func 85) #[] #[]], born := 0 }, { key := .int .i64 2, val := .agg #[.func (.func 86) #[] #[], .func (.func 87) #[] #[]], born := 1 }, { key := .int .i64 3, val := .agg #[.func (.func 88) #[] #[], .func (.func 89) #[] #[]], born := 2 }] 3 4 (.agg #[.func (.func 90) #[] #[], .func (.func 91) #[] #[]]) rfl
  have i5 := run_ins _ _ hsz hT hI #[{ key := .int .i64 1, val := .agg #[.func (.func 84) #[] #[], .func (.func 85) #[] #[]], born := 0 }, { key := .int .i64 2, val := .agg #[.func (.func 86) #[] #[], .func (.func 87) #[] #[]], born := 1 }, { key := .int .i64 3, val := .agg #[.func (.func 88) #[] #[], .func (.func 89) #[] #[]], born := 2 }, { key := .int .i64 4, val := .agg #[.func (.func 90) #[] #[], .func (.func 91) #[] #[]], born := 3 }] 4 5 (.agg #[.func (.func 92) #[] #[], .func (.func 93) #[] #[]]) rfl
  simp only [List.push_toArray, List.cons_append, List.nil_append, Nat.reduceAdd] at i1 i2 i3 i4 i5
  have hmm := @run_makeMap Tryz.prog
  have HG := Lib.hid (show ∀ o1 o2 o3, Grow w (((w.alloc o1).alloc o2).alloc o3) from fun o1 o2 o3 => (((Grow.rfl' w).allocd o1).allocd o2).allocd o3)
  have lk := run_look_hit _ _ hsz hT hI #[{ key := .int .i64 1, val := .agg #[.func (.func 84) #[] #[], .func (.func 85) #[] #[]], born := 0 }, { key := .int .i64 2, val := .agg #[.func (.func 86) #[] #[], .func (.func 87) #[] #[]], born := 1 }, { key := .int .i64 3, val := .agg #[.func (.func 88) #[] #[], .func (.func 89) #[] #[]], born := 2 }, { key := .int .i64 4, val := .agg #[.func (.func 90) #[] #[], .func (.func 91) #[] #[]], born := 3 }, { key := .int .i64 5, val := .agg #[.func (.func 92) #[] #[], .func (.func 93) #[] #[]], born := 4 }] 5 2 1 _ rfl
  clear hsz
  go_enter Tryz.func51, Tryz.ntmps51
  go_wp2
  refine bodyPost_ret (v := .tuple #[.agg #[.func (.func 86) #[] #[], .func (.func 87) #[] #[]], .bool true]) ?_ rfl ⟨rfl, HG.out _ _ _⟩
  rw [results_cell_tmp rfl]
  go_simp

set_option maxRecDepth 100000 in
set_option maxHeartbeats 1000000 in
theorem acts3 (w : World) : Calls Tryz.prog 51 #[.int .i64 3] w fun e w' => e = .returned (.tuple #[.agg #[.func (.func 88) #[] #[], .func (.func 89) #[] #[]], .bool true]) ∧ Grow w w' := by
  have hsz : (w.alloc (.cells #[.nilFunc, .nilFunc] 102)).heap.size = w.heap.size + 1 := by simp
  have hT : Tryz.prog.underlying 143 = some (.map 3 102) := Tryz.underlying143
  have hI : Tryz.prog.underlying 3 = some (.int .i64) := Tryz.underlying3
  have i1 := run_ins _ _ hsz hT hI #[] 0 1 (.agg #[.func (.func 84) #[] #[], .func (.func 85) #[] #[]]) rfl
  have i2 := run_ins _ _ hsz hT hI #[{ key := .int .i64 1, val := .agg #[.func (.func 84) #[] #[], .func (.func 85) #[] #[]], born := 0 }] 1 2 (.agg #[.func (.func 86) #[] #[], .func (.func 87) #[] #[]]) rfl
  have i3 := run_ins _ _ hsz hT hI #[{ key := .int .i64 1, val := .agg #[.func (.func 84) #[] #[], .func (.func 85) #[] #[]], born := 0 }, { key := .int .i64 2, val := .agg #[.func (.func 86) #[] #[], .func (.func 87) #[] #[]], born := 1 }] 2 3 (.agg #[.func (.func 88) #[] #[], .func (.func 89) #[] #[]]) rfl
  have i4 := run_ins _ _ hsz hT hI #[{ key := .int .i64 1, val := .agg #[.func (.func 84) #[] #[], .func (.func 85) #[] #[]], born := 0 }, { key := .int .i64 2, val := .agg #[.func (.func 86) #[] #[], .func (.func 87) #[] #[]], born := 1 }, { key := .int .i64 3, val := .agg #[.func (.func 88) #[] #[], .func (.func 89) #[] #[]], born := 2 }] 3 4 (.agg #[.func (.func 90) #[] #[], .func (.func 91) #[] #[]]) rfl
  have i5 := run_ins _ _ hsz hT hI #[{ key := .int .i64 1, val := .agg #[.func (.func 84) #[] #[], .func (.func 85) #[] #[]], born := 0 }, { key := .int .i64 2, val := .agg #[.func (.func 86) #[] #[], .func (.func 87) #[] #[]], born := 1 }, { key := .int .i64 3, val := .agg #[.func (.func 88) #[] #[], .func (.func 89) #[] #[]], born := 2 }, { key := .int .i64 4, val := .agg #[.func (.func 90) #[] #[], .func (.func 91) #[] #[]], born := 3 }] 4 5 (.agg #[.func (.func 92) #[] #[], .func (.func 93) #[] #[]]) rfl
  simp only [List.push_toArray, List.cons_append, List.nil_append, Nat.reduceAdd] at i1 i2 i3 i4 i5
  have hmm := @run_makeMap Tryz.prog
  have HG := Lib.hid (show ∀ o1 o2 o3, Grow w (((w.alloc o1).alloc o2).alloc o3) from fun o1 o2 o3 => (((Grow.rfl' w).allocd o1).allocd o2).allocd o3)
  have lk := run_look_hit _ _ hsz hT hI #[{ key := .int .i64 1, val := .agg #[.func (.func 84) #[] #[], .func (.func 85) #[] #[]], born := 0 }, { key := .int .i64 2, val := .agg #[.func (.func 86) #[] #[], .func (.func 87) #[] #[]], born := 1 }, { key := .int .i64 3, val := .agg #[.func (.func 88) #[] #[], .func (.func 89) #[] #[]], born := 2 }, { key := .int .i64 4, val := .agg #[.func (.func 90) #[] #[], .func (.func 91) #[] #[]], born := 3 }, { key := .int .i64 5, val := .agg #[.func (.func 92) #[] #[], .func (.func 93) #[] #[]], born := 4 }] 5 3 2 _ rfl
  clear hsz
  go_enter Tryz.func51, Tryz.ntmps51
  go_wp2
  refine bodyPost_ret (v := .tuple #[.agg #[.func (.func 88) #[] #[], .func (.func 89) #[] #[]], .bool true]) ?_ rfl ⟨rfl, HG.out _ _ _⟩
  rw [results_cell_tmp rfl]
  go_simp

set_option maxRecDepth 100000 in
set_option maxHeartbeats 1000000 in
theorem acts4 (w : World) : Calls Tryz.prog 51 #[.int .i64 4] w fun e w' => e = .returned (.tuple #[.agg #[.func (.func 90) #[] #[], .func (.func 91) #[] #[]], .bool true]) ∧ Grow w w' := by
  have hsz : (w.alloc (.cells #[.nilFunc, .nilFunc] 102)).heap.size = w.heap.size + 1 := by simp
  have hT : Tryz.prog.underlying 143 = some (.map 3 102) := Tryz.underlying143
  have hI : Tryz.prog.underlying 3 = some (.int .i64) := Tryz.underlying3
  have i1 := run_ins _ _ hsz hT hI #[] 0 1 (.agg #[.func (.func 84) #[] #[], .func (.func 85) #[] #[]]) rfl
  have i2 := run_ins _ _ hsz hT hI #[{ key := .int .i64 1, val := .agg #[.func (.func 84) #[] #[], .func (.func 85) #[] #[]], born := 0 }] 1 2 (.agg #[.func (.func 86) #[] #[], .func (.func 87) #[] #[]]) rfl
  have i3 := run_ins _ _ hsz hT hI #[{ key := .int .i64 1, val := .agg #[.func (.func 84) #[] #[], .func (.func 85) #[] #[]], born := 0 }, { key := .int .i64 2, val := .agg #[.func (.func 86) #[] #[], .func (.func 87) #[] #[]], born := 1 }] 2 3 (.agg #[.func (.func 88) #[] #[], .func (.func 89) #[] #[]]) rfl
  have i4 := run_ins _ _ hsz hT hI #[{ key := .int .i64 1, val := .agg #[.func (.func 84) #[] #[], .func (.func 85) #[] #[]], born := 0 }, { key := .int .i64 2, val := .agg #[.func (.func 86) #[] #[], .func (.func 87) #[] #[]], born := 1 }, { key := .int .i64 3, val := .agg #[.func (.func 88) #[] #[], .func (.func 89) #[] #[]], born := 2 }] 3 4 (.agg #[.func (.func 90) #[] #[], .func (.func 91) #[] #[]]) rfl
  have i5 := run_ins _ _ hsz hT hI #[{ key := .int .i64 1, val := .agg #[.func (.func 84) #[] #[], .func (.func 85) #[] #[]], born := 0 }, { key := .int .i64 2, val := .agg #[.func (.func 86) #[] #[], .func (.func 87) #[] #[]], born := 1 }, { key := .int .i64 3, val := .agg #[.func (.func 88) #[] #[], .func (.func 89) #[] #[]], born := 2 }, { key := .int .i64 4, val := .agg #[.func (.func 90) #[] #[], .func (.func 91) #[] #[]], born := 3 }] 4 5 (.agg #[.func (.func 92) #[] #[], .func (.func 93) #[] #[]]) rfl
  simp only [List.push_toArray, List.cons_append, List.nil_append, Nat.reduceAdd] at i1 i2 i3 i4 i5
  have hmm := @run_makeMap Tryz.prog
  have HG := Lib.hid (show ∀ o1 o2 o3, Grow w (((w.alloc o1).alloc o2).alloc o3) from fun o1 o2 o3 => (((Grow.rfl' w).allocd o1).allocd o2).allocd o3)
  have lk := run_look_hit _ _ hsz hT hI #[{ key := .int .i64 1, val := .agg #[.func (.func 84) #[] #[], .func (.func 85) #[] #[]], born := 0 }, { key := .int .i64 2, val := .agg #[.func (.func 86) #[] #[], .func (.func 87) #[] #[]], born := 1 }, { key := .int .i64 3, val := .agg #[.func (.func 88) #[] #[], .func (.func 89) #[] #[]], born := 2 }, { key := .int .i64 4, val := .agg #[.func (.func 90) #[] #[], .func (.func 91) #[] #[]], born := 3 }, { key := .int .i64 5, val := .agg #[.func (.func 92) #[] #[], .func (.func 93) #[] #[]], born := 4 }] 5 4 3 _ rfl
  clear hsz
  go_enter Tryz.func51, Tryz.ntmps51
  go_wp2
  refine bodyPost_ret (v := .tuple #[.agg #[.func (.func 90) #[] #[], .func (.func 91) #[] #[]], .bool true]) ?_ rfl ⟨rfl, HG.out _ _ _⟩
  rw [results_cell_tmp rfl]
  go_simp

set_option maxRecDepth 100000 in
set_option maxHeartbeats 1000000 in
theorem acts5 (w : World) : Calls Tryz.prog 51 #[.int .i64 5] w fun e w' => e = .returned (.tuple #[.agg #[.func (.func 92) #[] #[], .func (.func 93) #[] #[]], .bool true]) ∧ Grow w w' := by
  have hsz : (w.alloc (.cells #[.nilFunc, .nilFunc] 102)).heap.size = w.heap.size + 1 := by simp
  have hT : Tryz.prog.underlying 143 = some (.map 3 102) := Tryz.underlying143
  have hI : Tryz.prog.underlying 3 = some (.int .i64) := Tryz.underlying3
  have i1 := run_ins _ _ hsz hT hI #[] 0 1 (.agg #[.func (.func 84) #[] #[], .func (.func 85) #[] #[]]) rfl
  have i2 := run_ins _ _ hsz hT hI #[{ key := .int .i64 1, val := .agg #[.func (.func 84) #[] #[], .func (.func 85) #[] #[]], born := 0 }] 1 2 (.agg #[.func (.func 86) #[] #[], .func (.func 87) #[] #[]]) rfl
  have i3 := run_ins _ _ hsz hT hI #[{ key := .int .i64 1, val := .agg #[.func (.func 84) #[] #[], .func (.func 85) #[] #[]], born := 0 }, { key := .int .i64 2, val := .agg #[.func (.func 86) #[] #[], .func (.func 87) #[] #[]], born := 1 }] 2 3 (.agg #[.func (.func 88) #[] #[], .func (.func 89) #[] #[]]) rfl
  have i4 := run_ins _ _ hsz hT hI #[{ key := .int .i64 1, val := .agg #[.func (.func 84) #[] #[], .func (.func 85) #[] #[]], born := 0 }, { key := .int .i64 2, val := .agg #[.func (.func 86) #[] #[], .func (.func 87) #[] #[]], born := 1 }, { key := .int .i64 3, val := .agg #[.func (.func 88) #[] #[], .func (.func 89) #[] #[]], born := 2 }] 3 4 (.agg #[.func (.func 90) #[] #[], .func (.func 91) #[] #[]]) rfl
  have i5 := run_ins _ _ hsz hT hI #[{ key := .int .i64 1, val := .agg #[.func (.func 84) #[] #[], .func (.func 85) #[] #[]], born := 0 }, { key := .int .i64 2, val := .agg #[.func (.func 86) #[] #[], .func (.func 87) #[] #[]], born := 1 }, { key := .int .i64 3, val := .agg #[.func (.func 88) #[] #[], .func (.func 89) #[] #[]], born := 2 }, { key := .int .i64 4, val := .agg #[.func (.func 90) #[] #[], .func (.func 91) #[] #[]], born := 3 }] 4 5 (.agg #[.func (.func 92) #[] #[], .func (.func 93) #[] #[]]) rfl
  simp only [List.push_toArray, List.cons_append, List.nil_append, Nat.reduceAdd] at i1 i2 i3 i4 i5
  have hmm := @run_makeMap Tryz.prog
  have HG := Lib.hid (show ∀ o1 o2 o3, Grow w (((w.alloc o1).alloc o2).alloc o3) from fun o1 o2 o3 => (((Grow.rfl' w).allocd o1).allocd o2).allocd o3)
  have lk := run_look_hit _ _ hsz hT hI #[{ key := .int .i64 1, val := .agg #[.func (.func 84) #[] #[], .func (.func 85) #[] #[]], born := 0 }, { key := .int .i64 2, val := .agg #[.func (.func 86) #[] #[], .func (.func 87) #[] #[]], born := 1 }, { key := .int .i64 3, val := .agg #[.func (.func 88) #[] #[], .func (.func 89) #[] #[]], born := 2 }, { key := .int .i64 4, val := .agg #[.func (.func 90) #[] #[], .func (.func 91) #[] #[]], born := 3 }, { key := .int .i64 5, val := .agg #[.func (.func 92) #[] #[], .func (.func 93) #[] #[]], born := 4 }] 5 5 4 _ rfl
  clear hsz
  go_enter Tryz.func51, Tryz.ntmps51
  go_wp2
  refine bodyPost_ret (v := .tuple #[.agg #[.func (.func 92) #[] #[], .func (.func 93) #[] #[]], .bool true]) ?_ rfl ⟨rfl, HG.out _ _ _⟩
  rw [results_cell_tmp rfl]
  go_simp

set_option maxRecDepth 100000 in
set_option maxHeartbeats 1000000 in
theorem acts0 (k : Int) (w : World) (h1 : k ≠ 1) (h2 : k ≠ 2) (h3 : k ≠ 3) (h4 : k ≠ 4) (h5 : k ≠ 5) : Calls Tryz.prog 51 #[.int .i64 k] w fun e w' => e = .returned (.tuple #[.agg #[.nilFunc, .nilFunc], .bool false]) ∧ Grow w w' := by
  have hsz : (w.alloc (.cells #[.nilFunc, .nilFunc] 102)).heap.size = w.heap.size + 1 := by simp
  have hT : Tryz.prog.underlying 143 = some (.map 3 102) := Tryz.underlying143
  have hI : Tryz.prog.underlying 3 = some (.int .i64) := Tryz.underlying3
  have i1 := run_ins _ _ hsz hT hI #[] 0 1 (.agg #[.func (.func 84) #[] #[], .func (.func 85) #[] #[]]) rfl
  have i2 := run_ins _ _ hsz hT hI #[{ key := .int .i64 1, val := .agg #[.func (.func 84) #[] #[], .func (.func 85) #[] #[]], born := 0 }] 1 2 (.agg #[.func (.func 86) #[] #[], .func (.func 87) #[] #[]]) rfl
  have i3 := run_ins _ _ hsz hT hI #[{ key := .int .i64 1, val := .agg #[.func (.func 84) #[] #[], .func (.func 85) #[] #[]], born := 0 }, { key := .int .i64 2, val := .agg #[.func (.func 86) #[] #[], .func (.func 87) #[] #[]], born := 1 }] 2 3 (.agg #[.func (.func 88) #[] #[], .func (.func 89) #[] #[]]) rfl
  have i4 := run_ins _ _ hsz hT hI #[{ key := .int .i64 1, val := .agg #[.func (.func 84) #[] #[], .func (.func 85) #[] #[]], born := 0 }, { key := .int .i64 2, val := .agg #[.func (.func 86) #[] #[], .func (.func 87) #[] #[]], born := 1 }, { key := .int .i64 3, val := .agg #[.func (.func 88) #[] #[], .func (.func 89) #[] #[]], born := 2 }] 3 4 (.agg #[.func (.func 90) #[] #[], .func (.func 91) #[] #[]]) rfl
  have i5 := run_ins _ _ hsz hT hI #[{ key := .int .i64 1, val := .agg #[.func (.func 84) #[] #[], .func (.func 85) #[] #[]], born := 0 }, { key := .int .i64 2, val := .agg #[.func (.func 86) #[] #[], .func (.func 87) #[] #[]], born := 1 }, { key := .int .i64 3, val := .agg #[.func (.func 88) #[] #[], .func (.func 89) #[] #[]], born := 2 }, { key := .int .i64 4, val := .agg #[.func (.func 90) #[] #[], .func (.func 91) #[] #[]], born := 3 }] 4 5 (.agg #[.func (.func 92) #[] #[], .func (.func 93) #[] #[]]) rfl
  simp only [List.push_toArray, List.cons_append, List.nil_append, Nat.reduceAdd] at i1 i2 i3 i4 i5
  have hmm := @run_makeMap Tryz.prog
  have HG := Lib.hid (show ∀ o1 o2 o3, Grow w (((w.alloc o1).alloc o2).alloc o3) from fun o1 o2 o3 => (((Grow.rfl' w).allocd o1).allocd o2).allocd o3)
  have lk := run_look_miss _ _ hsz hT hI #[{ key := .int .i64 1, val := .agg #[.func (.func 84) #[] #[], .func (.func 85) #[] #[]], born := 0 }, { key := .int .i64 2, val := .agg #[.func (.func 86) #[] #[], .func (.func 87) #[] #[]], born := 1 }, { key := .int .i64 3, val := .agg #[.func (.func 88) #[] #[], .func (.func 89) #[] #[]], born := 2 }, { key := .int .i64 4, val := .agg #[.func (.func 90) #[] #[], .func (.func 91) #[] #[]], born := 3 }, { key := .int .i64 5, val := .agg #[.func (.func 92) #[] #[], .func (.func 93) #[] #[]], born := 4 }] 5 k _ zeroAct (by simp [Instr.findNow, Instr.sameNow, beq_eq_false_iff_ne.2 h1, beq_eq_false_iff_ne.2 h2, beq_eq_false_iff_ne.2 h3, beq_eq_false_iff_ne.2 h4, beq_eq_false_iff_ne.2 h5])
  clear hsz h1 h2 h3 h4 h5
  go_enter Tryz.func51, Tryz.ntmps51
  go_wp2
  refine bodyPost_ret (v := .tuple #[.agg #[.nilFunc, .nilFunc], .bool false]) ?_ rfl ⟨rfl, HG.out _ _ _⟩
  rw [results_cell_tmp rfl]
  go_simp
end Go.Hg

namespace Go.Hg
open Go.RowKit Go.Proofs

def CatAt (w : World) (b : Nat) (nv ev rv iv : Value) (c : PCat) : Prop := w.heap[b]? = some (.cells #[nv, ev, rv, iv, .int .i64 c.nextRule] 59 (0, 0))
theorem CatAt.grow {w w' : World} {b : Nat} {nv ev rv iv : Value} {c : PCat} (h : CatAt w b nv ev rv iv c) (g : Grow w w') : CatAt w' b nv ev rv iv c := (g.heapEq (blk_lt h)).trans h
theorem CatAt.at {w : World} {b : Nat} {nv ev rv iv : Value} {c : PCat} (h : CatAt w b nv ev rv iv c) : b < w.heap.size ∧ w.cell? ⟨b, 0, none⟩ = some nv ∧ w.cell? ⟨b, 1, none⟩ = some ev ∧ w.cell? ⟨b, 2, none⟩ = some rv ∧ w.cell? ⟨b, 3, none⟩ = some iv ∧ w.cell? ⟨b, 4, none⟩ = some (.int .i64 c.nextRule) :=
  ⟨blk_lt h, by rw [blk_cell h]; rfl, by rw [blk_cell h]; rfl, by rw [blk_cell h]; rfl, by rw [blk_cell h]; rfl, by rw [blk_cell h]; rfl⟩
theorem boxes (w : World) (nv ev rv iv : Value) (c : PCat) (o : POp) : CatAt ((w.alloc (.cells #[nv, ev, rv, iv, .int .i64 c.nextRule] 59)).alloc (.cells o.cells.toArray 50)) w.heap.size nv ev rv iv c ∧ OpAt ((w.alloc (.cells #[nv, ev, rv, iv, .int .i64 c.nextRule] 59)).alloc (.cells o.cells.toArray 50)) (w.heap.size + 1) o := by
  constructor
  · unfold CatAt
    rw [heap_alloc_old _ _ (by simp)]
    exact heap_alloc_new w _
  · have := heap_alloc_new (w.alloc (.cells #[nv, ev, rv, iv, .int .i64 c.nextRule] 59)) (.cells o.cells.toArray 50)
    rw [World.size_alloc] at this
    exact this

set_option maxRecDepth 100000 in
set_option maxHeartbeats 1000000 in
theorem may1 (S SC : Nat → Prop) (B : Nat) (G : PGraph) (nv ev rv iv : Value) (c : PCat) (o : POp) (w : World) (h : GraphOk 106 S w B G) (hG : GInv G) (hc : CatR SC w nv ev rv iv c) (hk : o.kind = 1) :
    Calls Tryz.prog 50 #[.pointer (some ⟨B, 0, none⟩), c.arg nv ev rv iv, o.args] w fun e w' => e = .returned (.int .i64 (mayG c o G)) ∧ Grow w w' := by
  have HGR := Lib.hid h; have HI := Lib.hid hG; have HC := Lib.hid hc
  obtain ⟨kind, id, typ, from_, to_, name, v, cascade⟩ := o
  subst hk
  obtain ⟨na, nc, ea, ec, ra, rc, ia, ic, rfl, rfl, rfl, rfl⟩ := hc.slices
  have HW := Lib.hid (show ∀ o1 o2, Grow w ((w.alloc o1).alloc o2) from fun o1 o2 => ((Grow.rfl' w).allocd o1).allocd o2)
  have HBX := Lib.hid (boxes w (.slice na c.nodes.length nc) (.slice ea c.edges.length ec) (.slice ra c.rules.length rc) (.slice ia c.indexes.length ic) c ⟨1, id, typ, from_, to_, name, v, cascade⟩)
  clear h hc hG
  go_enter Tryz.func50, Tryz.ntmps50
  go_wp2_with fail
  refine (acts1 _).mono ?_
  rintro e w2 ⟨rfl, hg⟩
  have HG2 := Lib.hid ((HW.out _ _).step hg)
  obtain ⟨hl1, k0, k1, k2, k3, k4⟩ := (HBX.out.1.grow hg).at
  obtain ⟨hl2, c0, c1, c2, c3, c4, c5, c6, c7, c8, c9⟩ := (HBX.out.2.grow hg).at
  clear hg
  go_wp2_with fail
  refine (mayAddNode S SC B G _ _ _ _ c ⟨1, id, typ, from_, to_, name, v, cascade⟩ _ (HGR.out.grow (HG2.out.allocd _)) HI.out (HC.out.grow (HG2.out.allocd _)) rfl).mono ?_
  rintro e w3 ⟨rfl, hg⟩
  have HG3 := Lib.hid ((HG2.out.allocd _).step hg)
  clear hg k0 k1 k2 k3 k4 c0 c1 c2 c3 c4 c5 c6 c7 c8 c9
  go_wp2
  go_ret
  exact ⟨rfl, HG3.out⟩

set_option maxRecDepth 100000 in
set_option maxHeartbeats 1000000 in
theorem may2 (S SC : Nat → Prop) (B : Nat) (G : PGraph) (nv ev rv iv : Value) (c : PCat) (o : POp) (w : World) (h : GraphOk 106 S w B G) (hG : GInv G) (hc : CatR SC w nv ev rv iv c) (hk : o.kind = 2) :
    Calls Tryz.prog 50 #[.pointer (some ⟨B, 0, none⟩), c.arg nv ev rv iv, o.args] w fun e w' => e = .returned (.int .i64 (mayG c o G)) ∧ Grow w w' := by
  have HGR := Lib.hid h; have HI := Lib.hid hG; have HC := Lib.hid hc
  obtain ⟨kind, id, typ, from_, to_, name, v, cascade⟩ := o
  subst hk
  obtain ⟨na, nc, ea, ec, ra, rc, ia, ic, rfl, rfl, rfl, rfl⟩ := hc.slices
  have HW := Lib.hid (show ∀ o1 o2, Grow w ((w.alloc o1).alloc o2) from fun o1 o2 => ((Grow.rfl' w).allocd o1).allocd o2)
  have HBX := Lib.hid (boxes w (.slice na c.nodes.length nc) (.slice ea c.edges.length ec) (.slice ra c.rules.length rc) (.slice ia c.indexes.length ic) c ⟨2, id, typ, from_, to_, name, v, cascade⟩)
  clear h hc hG
  go_enter Tryz.func50, Tryz.ntmps50
  go_wp2_with fail
  refine (acts2 _).mono ?_
  rintro e w2 ⟨rfl, hg⟩
  have HG2 := Lib.hid ((HW.out _ _).step hg)
  obtain ⟨hl1, k0, k1, k2, k3, k4⟩ := (HBX.out.1.grow hg).at
  obtain ⟨hl2, c0, c1, c2, c3, c4, c5, c6, c7, c8, c9⟩ := (HBX.out.2.grow hg).at
  clear hg
  go_wp2_with fail
  refine (mayDropNode S SC B G _ _ _ _ c ⟨2, id, typ, from_, to_, name, v, cascade⟩ _ (HGR.out.grow (HG2.out.allocd _)) HI.out (HC.out.grow (HG2.out.allocd _)) rfl).mono ?_
  rintro e w3 ⟨rfl, hg⟩
  have HG3 := Lib.hid ((HG2.out.allocd _).step hg)
  clear hg k0 k1 k2 k3 k4 c0 c1 c2 c3 c4 c5 c6 c7 c8 c9
  go_wp2
  go_ret
  exact ⟨rfl, HG3.out⟩

set_option maxRecDepth 100000 in
set_option maxHeartbeats 1000000 in
theorem may3 (S SC : Nat → Prop) (B : Nat) (G : PGraph) (nv ev rv iv : Value) (c : PCat) (o : POp) (w : World) (h : GraphOk 106 S w B G) (hG : GInv G) (hc : CatR SC w nv ev rv iv c) (hk : o.kind = 3) :
    Calls Tryz.prog 50 #[.pointer (some ⟨B, 0, none⟩), c.arg nv ev rv iv, o.args] w fun e w' => e = .returned (.int .i64 (mayG c o G)) ∧ Grow w w' := by
  have HGR := Lib.hid h; have HI := Lib.hid hG; have HC := Lib.hid hc
  obtain ⟨kind, id, typ, from_, to_, name, v, cascade⟩ := o
  subst hk
  obtain ⟨na, nc, ea, ec, ra, rc, ia, ic, rfl, rfl, rfl, rfl⟩ := hc.slices
  have HW := Lib.hid (show ∀ o1 o2, Grow w ((w.alloc o1).alloc o2) from fun o1 o2 => ((Grow.rfl' w).allocd o1).allocd o2)
  have HBX := Lib.hid (boxes w (.slice na c.nodes.length nc) (.slice ea c.edges.length ec) (.slice ra c.rules.length rc) (.slice ia c.indexes.length ic) c ⟨3, id, typ, from_, to_, name, v, cascade⟩)
  clear h hc hG
  go_enter Tryz.func50, Tryz.ntmps50
  go_wp2_with fail
  refine (acts3 _).mono ?_
  rintro e w2 ⟨rfl, hg⟩
  have HG2 := Lib.hid ((HW.out _ _).step hg)
  obtain ⟨hl1, k0, k1, k2, k3, k4⟩ := (HBX.out.1.grow hg).at
  obtain ⟨hl2, c0, c1, c2, c3, c4, c5, c6, c7, c8, c9⟩ := (HBX.out.2.grow hg).at
  clear hg
  go_wp2_with fail
  refine (mayAddEdge S SC B G _ _ _ _ c ⟨3, id, typ, from_, to_, name, v, cascade⟩ _ (HGR.out.grow (HG2.out.allocd _)) HI.out (HC.out.grow (HG2.out.allocd _)) rfl).mono ?_
  rintro e w3 ⟨rfl, hg⟩
  have HG3 := Lib.hid ((HG2.out.allocd _).step hg)
  clear hg k0 k1 k2 k3 k4 c0 c1 c2 c3 c4 c5 c6 c7 c8 c9
  go_wp2
  go_ret
  exact ⟨rfl, HG3.out⟩

set_option maxRecDepth 100000 in
set_option maxHeartbeats 1000000 in
theorem may4 (S SC : Nat → Prop) (B : Nat) (G : PGraph) (nv ev rv iv : Value) (c : PCat) (o : POp) (w : World) (h : GraphOk 106 S w B G) (hG : GInv G) (hc : CatR SC w nv ev rv iv c) (hk : o.kind = 4) :
    Calls Tryz.prog 50 #[.pointer (some ⟨B, 0, none⟩), c.arg nv ev rv iv, o.args] w fun e w' => e = .returned (.int .i64 (mayG c o G)) ∧ Grow w w' := by
  have HGR := Lib.hid h; have HI := Lib.hid hG; have HC := Lib.hid hc
  obtain ⟨kind, id, typ, from_, to_, name, v, cascade⟩ := o
  subst hk
  obtain ⟨na, nc, ea, ec, ra, rc, ia, ic, rfl, rfl, rfl, rfl⟩ := hc.slices
  have HW := Lib.hid (show ∀ o1 o2, Grow w ((w.alloc o1).alloc o2) from fun o1 o2 => ((Grow.rfl' w).allocd o1).allocd o2)
  have HBX := Lib.hid (boxes w (.slice na c.nodes.length nc) (.slice ea c.edges.length ec) (.slice ra c.rules.length rc) (.slice ia c.indexes.length ic) c ⟨4, id, typ, from_, to_, name, v, cascade⟩)
  clear h hc hG
  go_enter Tryz.func50, Tryz.ntmps50
  go_wp2_with fail
  refine (acts4 _).mono ?_
  rintro e w2 ⟨rfl, hg⟩
  have HG2 := Lib.hid ((HW.out _ _).step hg)
  obtain ⟨hl1, k0, k1, k2, k3, k4⟩ := (HBX.out.1.grow hg).at
  obtain ⟨hl2, c0, c1, c2, c3, c4, c5, c6, c7, c8, c9⟩ := (HBX.out.2.grow hg).at
  clear hg
  go_wp2_with fail
  refine (mayDropEdge S SC B G _ _ _ _ c ⟨4, id, typ, from_, to_, name, v, cascade⟩ _ (HGR.out.grow (HG2.out.allocd _)) HI.out (HC.out.grow (HG2.out.allocd _)) rfl).mono ?_
  rintro e w3 ⟨rfl, hg⟩
  have HG3 := Lib.hid ((HG2.out.allocd _).step hg)
  clear hg k0 k1 k2 k3 k4 c0 c1 c2 c3 c4 c5 c6 c7 c8 c9
  go_wp2
  go_ret
  exact ⟨rfl, HG3.out⟩

set_option maxRecDepth 100000 in
set_option maxHeartbeats 1000000 in
theorem may5 (S SC : Nat → Prop) (B : Nat) (G : PGraph) (nv ev rv iv : Value) (c : PCat) (o : POp) (w : World) (h : GraphOk 106 S w B G) (hG : GInv G) (hc : CatR SC w nv ev rv iv c) (hk : o.kind = 5) :
    Calls Tryz.prog 50 #[.pointer (some ⟨B, 0, none⟩), c.arg nv ev rv iv, o.args] w fun e w' => e = .returned (.int .i64 (mayG c o G)) ∧ Grow w w' := by
  have HGR := Lib.hid h; have HI := Lib.hid hG; have HC := Lib.hid hc
  obtain ⟨kind, id, typ, from_, to_, name, v, cascade⟩ := o
  subst hk
  obtain ⟨na, nc, ea, ec, ra, rc, ia, ic, rfl, rfl, rfl, rfl⟩ := hc.slices
  have HW := Lib.hid (show ∀ o1 o2, Grow w ((w.alloc o1).alloc o2) from fun o1 o2 => ((Grow.rfl' w).allocd o1).allocd o2)
  have HBX := Lib.hid (boxes w (.slice na c.nodes.length nc) (.slice ea c.edges.length ec) (.slice ra c.rules.length rc) (.slice ia c.indexes.length ic) c ⟨5, id, typ, from_, to_, name, v, cascade⟩)
  clear h hc hG
  go_enter Tryz.func50, Tryz.ntmps50
  go_wp2_with fail
  refine (acts5 _).mono ?_
  rintro e w2 ⟨rfl, hg⟩
  have HG2 := Lib.hid ((HW.out _ _).step hg)
  obtain ⟨hl1, k0, k1, k2, k3, k4⟩ := (HBX.out.1.grow hg).at
  obtain ⟨hl2, c0, c1, c2, c3, c4, c5, c6, c7, c8, c9⟩ := (HBX.out.2.grow hg).at
  clear hg
  go_wp2_with fail
  refine (maySetProp S SC B G _ _ _ _ c ⟨5, id, typ, from_, to_, name, v, cascade⟩ _ (HGR.out.grow (HG2.out.allocd _)) HI.out (HC.out.grow (HG2.out.allocd _)) rfl).mono ?_
  rintro e w3 ⟨rfl, hg⟩
  have HG3 := Lib.hid ((HG2.out.allocd _).step hg)
  clear hg k0 k1 k2 k3 k4 c0 c1 c2 c3 c4 c5 c6 c7 c8 c9
  go_wp2
  go_ret
  exact ⟨rfl, HG3.out⟩

set_option maxRecDepth 100000 in
set_option maxHeartbeats 1000000 in
theorem may0 (SC : Nat → Prop) (B : Nat) (G : PGraph) (nv ev rv iv : Value) (c : PCat) (o : POp) (w : World) (hc : CatR SC w nv ev rv iv c) (h1 : o.kind ≠ 1) (h2 : o.kind ≠ 2) (h3 : o.kind ≠ 3) (h4 : o.kind ≠ 4) (h5 : o.kind ≠ 5) :
    Calls Tryz.prog 50 #[.pointer (some ⟨B, 0, none⟩), c.arg nv ev rv iv, o.args] w fun e w' => e = .returned (.int .i64 (mayG c o G)) ∧ Grow w w' := by
  have HM := Lib.hid (show mayG c o G = 150 by unfold mayG; rw [if_neg h1, if_neg h2, if_neg h3, if_neg h4, if_neg h5])
  have HA := Lib.hid (fun w => acts0 o.kind w h1 h2 h3 h4 h5)
  obtain ⟨na, nc, ea, ec, ra, rc, ia, ic, rfl, rfl, rfl, rfl⟩ := hc.slices
  have HW := Lib.hid (show ∀ o1 o2, Grow w ((w.alloc o1).alloc o2) from fun o1 o2 => ((Grow.rfl' w).allocd o1).allocd o2)
  clear hc h1 h2 h3 h4 h5
  go_enter Tryz.func50, Tryz.ntmps50
  go_wp2_with fail
  refine (HA.out _).mono ?_
  rintro e w2 ⟨rfl, hg⟩
  have HG2 := Lib.hid ((HW.out _ _).step hg)
  clear hg
  go_wp2
  go_ret
  exact ⟨by rw [HM.out]; rfl, HG2.out.allocd _⟩

theorem graphMay (S SC : Nat → Prop) (B : Nat) (G : PGraph) (nv ev rv iv : Value) (c : PCat) (o : POp) (w : World) (h : GraphOk 106 S w B G) (hG : GInv G) (hc : CatR SC w nv ev rv iv c) :
    Calls Tryz.prog 50 #[.pointer (some ⟨B, 0, none⟩), c.arg nv ev rv iv, o.args] w fun e w' => e = .returned (.int .i64 (mayG c o G)) ∧ Grow w w' := by
  by_cases h1 : o.kind = 1
  · exact may1 S SC B G nv ev rv iv c o w h hG hc h1
  by_cases h2 : o.kind = 2
  · exact may2 S SC B G nv ev rv iv c o w h hG hc h2
  by_cases h3 : o.kind = 3
  · exact may3 S SC B G nv ev rv iv c o w h hG hc h3
  by_cases h4 : o.kind = 4
  · exact may4 S SC B G nv ev rv iv c o w h hG hc h4
  by_cases h5 : o.kind = 5
  · exact may5 S SC B G nv ev rv iv c o w h hG hc h5
  exact may0 SC B G nv ev rv iv c o w hc h1 h2 h3 h4 h5

def DoPost (S : Nat → Prop) (B : Nat) (G : PGraph) (c : PCat) (o : POp) (w : World) (e : Ending) (w' : World) : Prop :=
  e = .returned (.tuple #[.int .i64 (if mayG c o G = 0 then idG o G else 0), .int .i64 (mayG c o G)]) ∧ GraphOk 106 (fun b => S b ∨ w.heap.size ≤ b) w' B (stepG c o G) ∧ Mod S w w'

set_option maxRecDepth 100000 in
set_option maxHeartbeats 1000000 in
theorem doNo (S SC : Nat → Prop) (B : Nat) (G : PGraph) (nv ev rv iv : Value) (c : PCat) (o : POp) (w : World) (h : GraphOk 106 S w B G) (hG : GInv G) (hc : CatR SC w nv ev rv iv c) (hm : ¬ mayG c o G = 0) :
    Calls Tryz.prog 20 #[.pointer (some ⟨B, 0, none⟩), c.arg nv ev rv iv, o.args] w (DoPost S B G c o w) := by
  have HGR := Lib.hid h; have HI := Lib.hid hG; have HC := Lib.hid hc; have HM := Lib.hid hm
  obtain ⟨na, nc, ea, ec, ra, rc, ia, ic, rfl, rfl, rfl, rfl⟩ := hc.slices
  have HW := Lib.hid (show ∀ o1 o2, Grow w ((w.alloc o1).alloc o2) from fun o1 o2 => ((Grow.rfl' w).allocd o1).allocd o2)
  have hmb : (mayG c o G == 0) = false := by simpa using hm
  clear h hc hG
  go_enter Tryz.func20, Tryz.ntmps20
  go_wp2_with fail
  refine (graphMay S SC B G _ _ _ _ c o _ (HGR.out.grow (HW.out _ _)) HI.out (HC.out.grow (HW.out _ _))).mono ?_
  rintro e w2 ⟨rfl, hg⟩
  have HG2 := Lib.hid ((HW.out _ _).step hg)
  clear hg
  go_wp2
  go_ret2
  refine ⟨by rw [if_neg HM.out]; rfl, ?_, Mod.of_grow HG2.out⟩
  unfold stepG
  rw [if_neg HM.out]
  exact (HGR.out.grow HG2.out).sub (fun b hb => .inl hb)

theorem may_full1 {c : PCat} {G : PGraph} {id from_ to_ : Int} {typ name : ByteArray} {v : PVal} {cascade : Bool} (h : mayG c ⟨1, id, typ, from_, to_, name, v, cascade⟩ G = 0) : fullG G = false := by
  unfold mayG at h
  cases hf : fullG G
  · rfl
  · simp only [hf] at h
    simp at h
    split at h <;> simp at h
set_option maxRecDepth 100000 in
set_option maxHeartbeats 1000000 in
theorem do1 (S SC : Nat → Prop) (B : Nat) (G : PGraph) (nv ev rv iv : Value) (c : PCat) (o : POp) (w : World) (h : GraphOk 106 S w B G) (hG : GInv G) (hc : CatR SC w nv ev rv iv c) (hm : mayG c o G = 0) (hk : o.kind = 1) :
    Calls Tryz.prog 20 #[.pointer (some ⟨B, 0, none⟩), c.arg nv ev rv iv, o.args] w (DoPost S B G c o w) := by
  have HGR := Lib.hid h; have HI := Lib.hid hG; have HC := Lib.hid hc
  obtain ⟨kind, id, typ, from_, to_, name, v, cascade⟩ := o
  subst hk
  have HM := Lib.hid hm
  obtain ⟨na, nc, ea, ec, ra, rc, ia, ic, rfl, rfl, rfl, rfl⟩ := hc.slices
  have HW := Lib.hid (show ∀ o1 o2, Grow w ((w.alloc o1).alloc o2) from fun o1 o2 => ((Grow.rfl' w).allocd o1).allocd o2)
  have HBX := Lib.hid (boxes w (.slice na c.nodes.length nc) (.slice ea c.edges.length ec) (.slice ra c.rules.length rc) (.slice ia c.indexes.length ic) c ⟨1, id, typ, from_, to_, name, v, cascade⟩)
  clear h hc hG hm
  go_enter Tryz.func20, Tryz.ntmps20
  go_wp2_with fail
  refine (graphMay S SC B G _ _ _ _ c ⟨1, id, typ, from_, to_, name, v, cascade⟩ _ (HGR.out.grow (HW.out _ _)) HI.out (HC.out.grow (HW.out _ _))).mono ?_
  rintro e w2 ⟨rfl, hg⟩
  rw [HM.out]
  have HG2 := Lib.hid ((HW.out _ _).step hg)
  have HOP2 := Lib.hid (HBX.out.2.grow hg)
  obtain ⟨hl2, c0, -⟩ := HOP2.out.at
  clear hg
  go_wp2_with fail
  refine (acts1 _).mono ?_
  rintro e w3 ⟨rfl, hg⟩
  have HG3 := Lib.hid (HG2.out.step hg)
  clear hl2 c0
  obtain ⟨hl2, c0, c1, c2, c3, c4, c5, c6, c7, c8, c9⟩ := (HOP2.out.grow hg).at
  clear hg
  go_wp2_with fail
  refine (addNode S B G ⟨1, id, typ, from_, to_, name, v, cascade⟩ _ (HGR.out.grow (HG3.out.allocd _)) HI.out (may_full1 HM.out)).mono ?_
  rintro e w4 ⟨rfl, hgr, hmd⟩
  have HGR4 := Lib.hid hgr; have HMD := Lib.hid ((Mod.of_grow (HG3.out.allocd _)).step hmd)
  clear hgr hmd c0 c1 c2 c3 c4 c5 c6 c7 c8 c9
  go_wp2
  go_ret2
  refine ⟨by rw [if_pos HM.out, HM.out]; rfl, ?_, HMD.out⟩
  unfold stepG
  rw [if_pos HM.out]
  exact HGR4.out.sub (fun b hb => hb.imp (fun x => x) (fun h => Nat.le_trans (HG3.out.allocd _).size h))

theorem may_has2 {c : PCat} {G : PGraph} {id from_ to_ : Int} {typ name : ByteArray} {v : PVal} {cascade : Bool} (h : mayG c ⟨2, id, typ, from_, to_, name, v, cascade⟩ G = 0) : hasN G id = true := by
  unfold mayG at h
  cases hf : hasN G id
  · simp [hf] at h
  · rfl
set_option maxRecDepth 100000 in
set_option maxHeartbeats 1000000 in
theorem do2 (S SC : Nat → Prop) (B : Nat) (G : PGraph) (nv ev rv iv : Value) (c : PCat) (o : POp) (w : World) (h : GraphOk 106 S w B G) (hG : GInv G) (hc : CatR SC w nv ev rv iv c) (hm : mayG c o G = 0) (hk : o.kind = 2) :
    Calls Tryz.prog 20 #[.pointer (some ⟨B, 0, none⟩), c.arg nv ev rv iv, o.args] w (DoPost S B G c o w) := by
  have HGR := Lib.hid h; have HI := Lib.hid hG; have HC := Lib.hid hc
  obtain ⟨kind, id, typ, from_, to_, name, v, cascade⟩ := o
  subst hk
  have HM := Lib.hid hm
  obtain ⟨na, nc, ea, ec, ra, rc, ia, ic, rfl, rfl, rfl, rfl⟩ := hc.slices
  have HW := Lib.hid (show ∀ o1 o2, Grow w ((w.alloc o1).alloc o2) from fun o1 o2 => ((Grow.rfl' w).allocd o1).allocd o2)
  have HBX := Lib.hid (boxes w (.slice na c.nodes.length nc) (.slice ea c.edges.length ec) (.slice ra c.rules.length rc) (.slice ia c.indexes.length ic) c ⟨2, id, typ, from_, to_, name, v, cascade⟩)
  clear h hc hG hm
  go_enter Tryz.func20, Tryz.ntmps20
  go_wp2_with fail
  refine (graphMay S SC B G _ _ _ _ c ⟨2, id, typ, from_, to_, name, v, cascade⟩ _ (HGR.out.grow (HW.out _ _)) HI.out (HC.out.grow (HW.out _ _))).mono ?_
  rintro e w2 ⟨rfl, hg⟩
  rw [HM.out]
  have HG2 := Lib.hid ((HW.out _ _).step hg)
  have HOP2 := Lib.hid (HBX.out.2.grow hg)
  obtain ⟨hl2, c0, -⟩ := HOP2.out.at
  clear hg
  go_wp2_with fail
  refine (acts2 _).mono ?_
  rintro e w3 ⟨rfl, hg⟩
  have HG3 := Lib.hid (HG2.out.step hg)
  clear hl2 c0
  obtain ⟨hl2, c0, c1, c2, c3, c4, c5, c6, c7, c8, c9⟩ := (HOP2.out.grow hg).at
  clear hg
  go_wp2_with fail
  refine (dropNode S B G ⟨2, id, typ, from_, to_, name, v, cascade⟩ _ (HGR.out.grow (HG3.out.allocd _)) HI.out (may_has2 HM.out)).mono ?_
  rintro e w4 ⟨rfl, hgr, hmd⟩
  have HGR4 := Lib.hid hgr; have HMD := Lib.hid ((Mod.of_grow (HG3.out.allocd _)).step hmd)
  clear hgr hmd c0 c1 c2 c3 c4 c5 c6 c7 c8 c9
  go_wp2
  go_ret2
  refine ⟨by rw [if_pos HM.out, HM.out]; rfl, ?_, HMD.out⟩
  unfold stepG
  rw [if_pos HM.out]
  exact HGR4.out.sub (fun b hb => .inl hb)

theorem may_full3 {c : PCat} {G : PGraph} {id from_ to_ : Int} {typ name : ByteArray} {v : PVal} {cascade : Bool} (h : mayG c ⟨3, id, typ, from_, to_, name, v, cascade⟩ G = 0) : fullG G = false := by
  unfold mayG at h
  cases hf : fullG G
  · rfl
  · simp only [hf] at h
    simp at h
    repeat (first | (split at h) | (simp at h))
set_option maxRecDepth 100000 in
set_option maxHeartbeats 1000000 in
theorem do3 (S SC : Nat → Prop) (B : Nat) (G : PGraph) (nv ev rv iv : Value) (c : PCat) (o : POp) (w : World) (h : GraphOk 106 S w B G) (hG : GInv G) (hc : CatR SC w nv ev rv iv c) (hm : mayG c o G = 0) (hk : o.kind = 3) :
    Calls Tryz.prog 20 #[.pointer (some ⟨B, 0, none⟩), c.arg nv ev rv iv, o.args] w (DoPost S B G c o w) := by
  have HGR := Lib.hid h; have HI := Lib.hid hG; have HC := Lib.hid hc
  obtain ⟨kind, id, typ, from_, to_, name, v, cascade⟩ := o
  subst hk
  have HM := Lib.hid hm
  obtain ⟨na, nc, ea, ec, ra, rc, ia, ic, rfl, rfl, rfl, rfl⟩ := hc.slices
  have HW := Lib.hid (show ∀ o1 o2, Grow w ((w.alloc o1).alloc o2) from fun o1 o2 => ((Grow.rfl' w).allocd o1).allocd o2)
  have HBX := Lib.hid (boxes w (.slice na c.nodes.length nc) (.slice ea c.edges.length ec) (.slice ra c.rules.length rc) (.slice ia c.indexes.length ic) c ⟨3, id, typ, from_, to_, name, v, cascade⟩)
  clear h hc hG hm
  go_enter Tryz.func20, Tryz.ntmps20
  go_wp2_with fail
  refine (graphMay S SC B G _ _ _ _ c ⟨3, id, typ, from_, to_, name, v, cascade⟩ _ (HGR.out.grow (HW.out _ _)) HI.out (HC.out.grow (HW.out _ _))).mono ?_
  rintro e w2 ⟨rfl, hg⟩
  rw [HM.out]
  have HG2 := Lib.hid ((HW.out _ _).step hg)
  have HOP2 := Lib.hid (HBX.out.2.grow hg)
  obtain ⟨hl2, c0, -⟩ := HOP2.out.at
  clear hg
  go_wp2_with fail
  refine (acts3 _).mono ?_
  rintro e w3 ⟨rfl, hg⟩
  have HG3 := Lib.hid (HG2.out.step hg)
  clear hl2 c0
  obtain ⟨hl2, c0, c1, c2, c3, c4, c5, c6, c7, c8, c9⟩ := (HOP2.out.grow hg).at
  clear hg
  go_wp2_with fail
  refine (addEdge S B G ⟨3, id, typ, from_, to_, name, v, cascade⟩ _ (HGR.out.grow (HG3.out.allocd _)) HI.out (may_full3 HM.out)).mono ?_
  rintro e w4 ⟨rfl, hgr, hmd⟩
  have HGR4 := Lib.hid hgr; have HMD := Lib.hid ((Mod.of_grow (HG3.out.allocd _)).step hmd)
  clear hgr hmd c0 c1 c2 c3 c4 c5 c6 c7 c8 c9
  go_wp2
  go_ret2
  refine ⟨by rw [if_pos HM.out, HM.out]; rfl, ?_, HMD.out⟩
  unfold stepG
  rw [if_pos HM.out]
  exact HGR4.out.sub (fun b hb => hb.imp (fun x => x) (fun h => Nat.le_trans (HG3.out.allocd _).size h))

theorem may_has4 {c : PCat} {G : PGraph} {id from_ to_ : Int} {typ name : ByteArray} {v : PVal} {cascade : Bool} (h : mayG c ⟨4, id, typ, from_, to_, name, v, cascade⟩ G = 0) : hasE G id = true := by
  unfold mayG at h
  cases hf : hasE G id
  · simp [hf] at h
  · rfl
set_option maxRecDepth 100000 in
set_option maxHeartbeats 1000000 in
theorem do4 (S SC : Nat → Prop) (B : Nat) (G : PGraph) (nv ev rv iv : Value) (c : PCat) (o : POp) (w : World) (h : GraphOk 106 S w B G) (hG : GInv G) (hc : CatR SC w nv ev rv iv c) (hm : mayG c o G = 0) (hk : o.kind = 4) :
    Calls Tryz.prog 20 #[.pointer (some ⟨B, 0, none⟩), c.arg nv ev rv iv, o.args] w (DoPost S B G c o w) := by
  have HGR := Lib.hid h; have HI := Lib.hid hG; have HC := Lib.hid hc
  obtain ⟨kind, id, typ, from_, to_, name, v, cascade⟩ := o
  subst hk
  have HM := Lib.hid hm
  obtain ⟨na, nc, ea, ec, ra, rc, ia, ic, rfl, rfl, rfl, rfl⟩ := hc.slices
  have HW := Lib.hid (show ∀ o1 o2, Grow w ((w.alloc o1).alloc o2) from fun o1 o2 => ((Grow.rfl' w).allocd o1).allocd o2)
  have HBX := Lib.hid (boxes w (.slice na c.nodes.length nc) (.slice ea c.edges.length ec) (.slice ra c.rules.length rc) (.slice ia c.indexes.length ic) c ⟨4, id, typ, from_, to_, name, v, cascade⟩)
  clear h hc hG hm
  go_enter Tryz.func20, Tryz.ntmps20
  go_wp2_with fail
  refine (graphMay S SC B G _ _ _ _ c ⟨4, id, typ, from_, to_, name, v, cascade⟩ _ (HGR.out.grow (HW.out _ _)) HI.out (HC.out.grow (HW.out _ _))).mono ?_
  rintro e w2 ⟨rfl, hg⟩
  rw [HM.out]
  have HG2 := Lib.hid ((HW.out _ _).step hg)
  have HOP2 := Lib.hid (HBX.out.2.grow hg)
  obtain ⟨hl2, c0, -⟩ := HOP2.out.at
  clear hg
  go_wp2_with fail
  refine (acts4 _).mono ?_
  rintro e w3 ⟨rfl, hg⟩
  have HG3 := Lib.hid (HG2.out.step hg)
  clear hl2 c0
  obtain ⟨hl2, c0, c1, c2, c3, c4, c5, c6, c7, c8, c9⟩ := (HOP2.out.grow hg).at
  clear hg
  go_wp2_with fail
  refine (dropEdge S B G ⟨4, id, typ, from_, to_, name, v, cascade⟩ _ (HGR.out.grow (HG3.out.allocd _)) HI.out (may_has4 HM.out)).mono ?_
  rintro e w4 ⟨rfl, hgr, hmd⟩
  have HGR4 := Lib.hid hgr; have HMD := Lib.hid ((Mod.of_grow (HG3.out.allocd _)).step hmd)
  clear hgr hmd c0 c1 c2 c3 c4 c5 c6 c7 c8 c9
  go_wp2
  go_ret2
  refine ⟨by rw [if_pos HM.out, HM.out]; rfl, ?_, HMD.out⟩
  unfold stepG
  rw [if_pos HM.out]
  exact HGR4.out.sub (fun b hb => .inl hb)

theorem may_find5 {c : PCat} {G : PGraph} {id from_ to_ : Int} {typ name : ByteArray} {v : PVal} {cascade : Bool} (h : mayG c ⟨5, id, typ, from_, to_, name, v, cascade⟩ G = 0) : ∃ ps, findP G id = some ps := by
  unfold mayG at h
  cases hf : findP G id
  · simp [hf] at h
    split at h <;> simp at h
  · exact ⟨_, rfl⟩
set_option maxRecDepth 100000 in
set_option maxHeartbeats 1000000 in
theorem do5 (S SC : Nat → Prop) (B : Nat) (G : PGraph) (nv ev rv iv : Value) (c : PCat) (o : POp) (w : World) (h : GraphOk 106 S w B G) (hG : GInv G) (hc : CatR SC w nv ev rv iv c) (hm : mayG c o G = 0) (hk : o.kind = 5) :
    Calls Tryz.prog 20 #[.pointer (some ⟨B, 0, none⟩), c.arg nv ev rv iv, o.args] w (DoPost S B G c o w) := by
  have HGR := Lib.hid h; have HI := Lib.hid hG; have HC := Lib.hid hc
  obtain ⟨kind, id, typ, from_, to_, name, v, cascade⟩ := o
  subst hk
  have HM := Lib.hid hm
  obtain ⟨ps, hps⟩ := may_find5 hm
  have HPS := Lib.hid hps; clear hps
  obtain ⟨na, nc, ea, ec, ra, rc, ia, ic, rfl, rfl, rfl, rfl⟩ := hc.slices
  have HW := Lib.hid (show ∀ o1 o2, Grow w ((w.alloc o1).alloc o2) from fun o1 o2 => ((Grow.rfl' w).allocd o1).allocd o2)
  have HBX := Lib.hid (boxes w (.slice na c.nodes.length nc) (.slice ea c.edges.length ec) (.slice ra c.rules.length rc) (.slice ia c.indexes.length ic) c ⟨5, id, typ, from_, to_, name, v, cascade⟩)
  clear h hc hG hm
  go_enter Tryz.func20, Tryz.ntmps20
  go_wp2_with fail
  refine (graphMay S SC B G _ _ _ _ c ⟨5, id, typ, from_, to_, name, v, cascade⟩ _ (HGR.out.grow (HW.out _ _)) HI.out (HC.out.grow (HW.out _ _))).mono ?_
  rintro e w2 ⟨rfl, hg⟩
  rw [HM.out]
  have HG2 := Lib.hid ((HW.out _ _).step hg)
  have HOP2 := Lib.hid (HBX.out.2.grow hg)
  obtain ⟨hl2, c0, -⟩ := HOP2.out.at
  clear hg
  go_wp2_with fail
  refine (acts5 _).mono ?_
  rintro e w3 ⟨rfl, hg⟩
  have HG3 := Lib.hid (HG2.out.step hg)
  clear hl2 c0
  obtain ⟨hl2, c0, c1, c2, c3, c4, c5, c6, c7, c8, c9⟩ := (HOP2.out.grow hg).at
  clear hg
  go_wp2_with fail
  refine (setProp S B G ⟨5, id, typ, from_, to_, name, v, cascade⟩ ps _ (HGR.out.grow (HG3.out.allocd _)) HI.out HPS.out).mono ?_
  rintro e w4 ⟨rfl, hgr, hmd⟩
  have HGR4 := Lib.hid hgr; have HMD := Lib.hid ((Mod.of_grow (HG3.out.allocd _)).step hmd)
  clear hgr hmd c0 c1 c2 c3 c4 c5 c6 c7 c8 c9
  go_wp2
  go_ret2
  refine ⟨by rw [if_pos HM.out, HM.out]; rfl, ?_, HMD.out⟩
  unfold stepG
  rw [if_pos HM.out]
  exact HGR4.out.sub (fun b hb => hb.imp (fun x => x) (fun h => Nat.le_trans (HG3.out.allocd _).size h))

theorem may_kind {c : PCat} {o : POp} {G : PGraph} (h : mayG c o G = 0) : o.kind = 1 ∨ o.kind = 2 ∨ o.kind = 3 ∨ o.kind = 4 ∨ o.kind = 5 := by
  by_cases h1 : o.kind = 1
  · exact .inl h1
  by_cases h2 : o.kind = 2
  · exact .inr (.inl h2)
  by_cases h3 : o.kind = 3
  · exact .inr (.inr (.inl h3))
  by_cases h4 : o.kind = 4
  · exact .inr (.inr (.inr (.inl h4)))
  by_cases h5 : o.kind = 5
  · exact .inr (.inr (.inr (.inr h5)))
  unfold mayG at h
  rw [if_neg h1, if_neg h2, if_neg h3, if_neg h4, if_neg h5] at h
  simp at h
theorem graphDo (S SC : Nat → Prop) (B : Nat) (G : PGraph) (nv ev rv iv : Value) (c : PCat) (o : POp) (w : World) (h : GraphOk 106 S w B G) (hG : GInv G) (hc : CatR SC w nv ev rv iv c) :
    Calls Tryz.prog 20 #[.pointer (some ⟨B, 0, none⟩), c.arg nv ev rv iv, o.args] w (DoPost S B G c o w) := by
  by_cases hm : mayG c o G = 0
  · rcases may_kind hm with hk | hk | hk | hk | hk
    · exact do1 S SC B G nv ev rv iv c o w h hG hc hm hk
    · exact do2 S SC B G nv ev rv iv c o w h hG hc hm hk
    · exact do3 S SC B G nv ev rv iv c o w h hG hc hm hk
    · exact do4 S SC B G nv ev rv iv c o w h hG hc hm hk
    · exact do5 S SC B G nv ev rv iv c o w h hG hc hm hk
  · exact doNo S SC B G nv ev rv iv c o w h hG hc hm
end Go.Hg

namespace Go.Hg
open Go.RowKit Go.Proofs

abbrev OpsR (S : Nat → Prop) (w : World) (v : Value) (l : List POp) : Prop := SlR S w 10 (fun o r => r = POp.cells o) v l
def largeV (v : PVal) : Bool := decide (5000 < v.s.size)
def largeO (o : POp) : Bool := decide (1000 < o.typ.size) || (decide (1000 < o.name.size) || largeV o.v)
def fairOps (l : List POp) : Bool := (l.all fun o => !largeO o) && decide (l.length ≤ 200)

set_option maxHeartbeats 400000 in
theorem keepLargeValue (v : PVal) (w : World) : Calls Tryz.prog 49 #[.agg #[.int .i64 v.kind, .int .i64 v.n, .string v.s]] w fun e w' => e = .returned (.bool (largeV v)) ∧ Grow w w' := by
  have HW := Lib.hid (show ∀ o1, Grow w (w.alloc o1) from fun o1 => (Grow.rfl' w).allocd o1)
  have hd : decide ((5000 : Int) < (v.s.size : Int)) = largeV v := by unfold largeV; by_cases h : 5000 < v.s.size <;> simp [h] <;> omega
  go_enter Tryz.func49, Tryz.ntmps49
  go_wp2
  go_ret
  exact ⟨by first | (rw [← hd]; rfl) | rfl, HW.out _⟩

set_option maxRecDepth 100000 in
set_option maxHeartbeats 1000000 in
theorem keepLargeOp (o : POp) (w : World) : Calls Tryz.prog 18 #[o.args] w fun e w' => e = .returned (.bool (largeO o)) ∧ Grow w w' := by
  have HW := Lib.hid (show ∀ o1, Grow w (w.alloc o1) from fun o1 => (Grow.rfl' w).allocd o1)
  have HX := Lib.hid (show largeO o = (decide (1000 < o.typ.size) || (decide (1000 < o.name.size) || largeV o.v)) from rfl)
  have hd1 : decide ((1000 : Int) < (o.typ.size : Int)) = decide (1000 < o.typ.size) := by by_cases h : 1000 < o.typ.size <;> simp [h] <;> omega
  have hd2 : decide ((1000 : Int) < (o.name.size : Int)) = decide (1000 < o.name.size) := by by_cases h : 1000 < o.name.size <;> simp [h] <;> omega
  cases q1 : decide (1000 < o.typ.size)
  · rw [q1] at hd1
    cases q2 : decide (1000 < o.name.size)
    · rw [q2] at hd2
      have HY := Lib.hid (show largeO o = largeV o.v by rw [HX.out, q1, q2]; rfl)
      clear q1 q2
      go_enter Tryz.func18, Tryz.ntmps18
      go_wp2_with fail
      refine (keepLargeValue o.v _).mono ?_
      rintro e w2 ⟨rfl, hg⟩
      have HG := Lib.hid ((HW.out _).step hg); clear hg
      go_wp2
      go_ret
      exact ⟨by rw [HY.out]; rfl, HG.out⟩
    · rw [q2] at hd2
      have HY := Lib.hid (show largeO o = true by rw [HX.out, q1, q2]; rfl)
      clear q1 q2
      go_enter Tryz.func18, Tryz.ntmps18
      go_wp2
      go_ret
      exact ⟨by rw [HY.out]; rfl, HW.out _⟩
  · rw [q1] at hd1
    have HY := Lib.hid (show largeO o = true by rw [HX.out, q1]; rfl)
    clear q1
    go_enter Tryz.func18, Tryz.ntmps18
    go_wp2
    go_ret
    exact ⟨by rw [HY.out]; rfl, HW.out _⟩

theorem opCells {w wr : World} {o : POp} {r : List Value} {b off : Nat} (h : r = o.cells) (hb : b < w.heap.size) (g : Grow w wr) (hc : ∀ (j : Nat) c, r[j]? = some c → w.cell? ⟨b, off + j, none⟩ = some c) :
    b < wr.heap.size ∧ wr.cell? ⟨b, off, none⟩ = some (.int .i64 o.kind) ∧ wr.cell? ⟨b, off + 1, none⟩ = some (.int .i64 o.id) ∧ wr.cell? ⟨b, off + 2, none⟩ = some (.string o.typ) ∧
    wr.cell? ⟨b, off + 3, none⟩ = some (.int .i64 o.from_) ∧ wr.cell? ⟨b, off + 4, none⟩ = some (.int .i64 o.to_) ∧ wr.cell? ⟨b, off + 5, none⟩ = some (.string o.name) ∧ wr.cell? ⟨b, off + 6, none⟩ = some (.int .i64 o.v.kind) ∧
    wr.cell? ⟨b, off + 7, none⟩ = some (.int .i64 o.v.n) ∧ wr.cell? ⟨b, off + 8, none⟩ = some (.string o.v.s) ∧ wr.cell? ⟨b, off + 9, none⟩ = some (.bool o.cascade) := by
  subst h
  have e : ∀ o', wr.cell? ⟨b, o', none⟩ = w.cell? ⟨b, o', none⟩ := fun o' => World.cell?_of_block (w := w) (g.heapEq hb)
  have hs := g.size
  refine ⟨by omega, ?_, ?_, ?_, ?_, ?_, ?_, ?_, ?_, ?_, ?_⟩ <;> rw [e]
  · exact hc 0 _ rfl
  · exact hc 1 _ rfl
  · exact hc 2 _ rfl
  · exact hc 3 _ rfl
  · exact hc 4 _ rfl
  · exact hc 5 _ rfl
  · exact hc 6 _ rfl
  · exact hc 7 _ rfl
  · exact hc 8 _ rfl
  · exact hc 9 _ rfl

set_option maxRecDepth 100000 in
set_option maxHeartbeats 1000000 in
theorem lawFair (S : Nat → Prop) (v : Value) (l : List POp) (w : World) (hl : OpsR S w v l) :
    Calls Tryz.prog 37 #[v] w fun e w' => e = .returned (.bool (fairOps l)) ∧ Grow w w' := by
  obtain ⟨aa, ca, rfl, hal, hac, hA⟩ := SlR.open hl
  clear hl
  unfold maxLen at hac
  have HA := Lib.hid hA; clear hA
  have hd : decide ((l.length : Int) ≤ 200) = decide (l.length ≤ 200) := by by_cases h : l.length ≤ 200 <;> simp [h] <;> omega
  have HDD := Lib.hid hd; clear hd
  go_enter Tryz.func37, Tryz.ntmps37
  go_wp2
  go_loopg [3] l.length (fun g i wr => ∃ k : Nat, k ≤ l.length ∧ g = l.length - k ∧ i = .int .i64 k ∧ (∀ y ∈ l.take k, largeO y = false) ∧ Grow w wr)
  case atStart => exact ⟨0, by omega, by omega, rfl, by simp, Grow.rfl' w⟩
  case round =>
    obtain ⟨k, hk, rfl, rfl, hall, hgr⟩ := hrel
    have HALL := Lib.hid hall; have HGR := Lib.hid hgr; clear hall
    by_cases hkl : k < l.length
    · obtain ⟨ba, oa, ra, rfl, hSa, hba, hRa, hca⟩ := HA.out k l[k] (List.getElem?_eq_getElem hkl)
      obtain ⟨hba', a0, a1, a2, a3, a4, a5, a6, a7, a8, a9⟩ := opCells hRa hba hgr hca
      clear hca hRa hSa hba hgr
      have HM := Lib.hid (show l[k] ∈ l from List.getElem_mem hkl)
      have HT := Lib.hid (show l.take (k + 1) = l.take k ++ [l[k]] from List.take_succ_eq_append_getElem hkl)
      generalize l[k] = x at *
      go_wp2_with fail
      refine (keepLargeOp x _).mono ?_
      rintro e w2 ⟨rfl, hg⟩
      have HG := Lib.hid (HGR.out.step hg); clear hg
      cases hx : largeO x
      · go_wp2_with fail
        go_roundg (l.length - (k + 1))
        case measure => omega
        case rel => exact ⟨k + 1, by omega, rfl, by go_num, by rw [HT.out]; intro y hy; rcases List.mem_append.1 hy with h | h; exact HALL.out y h; simp at h; subst h; exact hx, HG.out⟩
      · have HF := Lib.hid (show fairOps l = false by unfold fairOps; rw [List.all_eq_false.2 ⟨x, HM.out, by rw [hx]; simp⟩]; rfl)
        go_wp2
        go_ret
        exact ⟨by rw [HF.out]; rfl, HG.out⟩
    · have HF := Lib.hid (show fairOps l = decide (l.length ≤ 200) by
        have h1 : l.take k = l := List.take_of_length_le (by omega)
        have h2 := HALL.out
        rw [h1] at h2
        unfold fairOps
        rw [List.all_eq_true.2 (fun y hy => by rw [h2 y hy]; rfl)]
        rfl)
      have hd := HDD.out
      clear hgr
      go_wp2
      go_ret
      exact ⟨by rw [HF.out]; first | rfl | (rw [← hd]; rfl), HGR.out⟩

theorem results_cell1 {fn : Func} {p : Tmp} {ty : TypeId} (h : fn.results = #[.cell p ty]) (tmps : Array Value) (P : Program) (w : World) :
    (results fn tmps).run P w = ((asAddr (tmps.getD p undef)).run P w).andThen fun a w₁ => (loadVar ty a).run P w₁ := by
  simp only [results, h]
  simp [Sem.run_bind, Result.andThen]

def sCity : ByteArray := ⟨#[99, 105, 116, 121]⟩
def sMan : ByteArray := ⟨#[109, 97, 110]⟩
def sZoo : ByteArray := ⟨#[122, 111, 111]⟩
def sKnows : ByteArray := ⟨#[107, 110, 111, 119, 115]⟩
def sRoad : ByteArray := ⟨#[114, 111, 97, 100]⟩
def typesC : PCat := ⟨[sCity, sMan, sZoo], [sKnows, sRoad], [], [], 1⟩

theorem strsLit (w : World) (l : List ByteArray) (E : TypeId) (hm : l.length ≤ maxLen) : StrsR (fun b => w.heap.size ≤ b) (w.alloc (.cells (l.map Value.string).toArray E)) (.slice (some ⟨w.heap.size, 0, none⟩) l.length l.length) l := by
  have h := OwnS.lit w (l.map Value.string).toArray E 1 l.length hm (by simp)
  have h2 : OwnL (w.alloc (.cells (l.map Value.string).toArray E)) E 1 RStr (.slice (some ⟨w.heap.size, 0, none⟩) l.length l.length) l (some w.heap.size) := ⟨l.map (fun s => [.string s]), by simp, fun k x r hx hr => by
    rw [List.getElem?_map, hx] at hr
    simp only [Option.map_some, Option.some.injEq] at hr
    subst hr
    exact ⟨rfl, rfl⟩, by
    have e : (l.map fun s => [Value.string s]).flatten = (l.map Value.string).toArray.toList := by
      rw [List.toList_toArray]
      clear h hm
      induction l with
      | nil => rfl
      | cons a t ih => simp [ih]
    rw [e]; exact h⟩
  exact h2.toSl (fun g hg => by cases hg; exact Nat.le_refl _)

set_option maxRecDepth 100000 in
set_option maxHeartbeats 1000000 in
theorem lawTypes (w : World) : Calls Tryz.prog 21 #[] w fun e w' => ∃ nv ev, e = .returned (typesC.arg nv ev (.slice none 0 0) (.slice none 0 0)) ∧ CatR (fun b => w.heap.size ≤ b) w' nv ev (.slice none 0 0) (.slice none 0 0) typesC ∧ Grow w w' := by
  have H0 := Lib.hid (show ∀ o1, Grow w (w.alloc o1) from fun o1 => (Grow.rfl' w).allocd o1)
  go_enter Tryz.func21, Tryz.ntmps21
  go_wp2
  refine bodyPost_ret (v := typesC.arg (.slice (some ⟨w.heap.size + 1, 0, none⟩) 3 3) (.slice (some ⟨w.heap.size + 1 + 1, 0, none⟩) 2 2) (.slice none 0 0) (.slice none 0 0)) ?_ rfl ⟨_, _, rfl, ?_, ?_⟩
  · rw [results_cell1 rfl]
    go_simp
    rfl
  · have q1 := strsLit (w.alloc (.cells #[.slice (some ⟨w.heap.size + 1, 0, none⟩) 3 3, .slice (some ⟨w.heap.size + 1 + 1, 0, none⟩) 2 2, .slice none 0 0, .slice none 0 0, .int .i64 1] 59)) [sCity, sMan, sZoo] 9 (by simp [maxLen])
    have q2 := strsLit ((w.alloc (.cells #[.slice (some ⟨w.heap.size + 1, 0, none⟩) 3 3, .slice (some ⟨w.heap.size + 1 + 1, 0, none⟩) 2 2, .slice none 0 0, .slice none 0 0, .int .i64 1] 59)).alloc (.cells #[.string sCity, .string sMan, .string sZoo] 9)) [sKnows, sRoad] 9 (by simp [maxLen])
    simp only [World.size_alloc] at q1 q2
    refine ⟨SlR.sub (q1.growS ((Grow.rfl' _).allocd _)) (fun b hb => by omega) (fun _ _ _ h => h), SlR.sub q2 (fun b hb => by omega) (fun _ _ _ h => h), ?_, ?_⟩
    · exact (OwnL.nil _ 0 _ _).toSl (by simp)
    · exact (OwnL.nil _ 0 _ _).toSl (by simp)
  · exact (((Grow.rfl' w).allocd _).allocd _).allocd _
end Go.Hg

namespace Go.Hg
open Go.RowKit Go.Proofs

def getV (ps : List PProp) (name : ByteArray) : PVal := (getP ps name).getD ⟨0, 0, ByteArray.empty⟩
abbrev PVal.args (v : PVal) : Value := .agg #[.int .i64 v.kind, .int .i64 v.n, .string v.s]

set_option maxRecDepth 100000 in
set_option maxHeartbeats 2000000 in
theorem valGet (S : Nat → Prop) (v : Value) (ps : List PProp) (name : ByteArray) (w : World) (h : PropsR S w v ps) :
    Calls Tryz.prog 72 #[v, .string name] w fun e w' => e = .returned (.tuple #[(getV ps name).args, .bool (getP ps name).isSome]) ∧ Grow w w' := by
  obtain ⟨aa, ca, rfl, hal, hac, hA⟩ := SlR.open h
  clear h
  unfold maxLen at hac
  have HA := Lib.hid hA; clear hA
  have HNB := Lib.hid (show ∀ o1, (w.alloc o1).heap[w.heap.size]? = some o1 from fun o1 => heap_alloc_new w _)
  have HW := Lib.hid (show ∀ o1, Grow w (w.alloc o1) from fun o1 => (Grow.rfl' w).allocd o1)
  go_enter Tryz.func72, Tryz.ntmps72
  go_wp2
  go_loopg [10] ps.length (fun g i wr => ∃ k : Nat, k ≤ ps.length ∧ g = ps.length - k ∧ i = .int .i64 k ∧ (∀ y ∈ ps.take k, y.name ≠ name) ∧ Grow w wr ∧ wr.heap[w.heap.size]? = some (.cells #[.int .i64 0, .int .i64 0, .string ByteArray.empty] 48 (0, 0)))
  case atStart => exact ⟨0, by omega, by omega, rfl, by simp, HW.out _, HNB.out _⟩
  case round =>
    obtain ⟨k, hk, rfl, rfl, hall, hgr, hnb⟩ := hrel
    have hnl := blk_lt hnb
    have HALL := Lib.hid hall; have HG := Lib.hid hgr; have HB := Lib.hid hnb
    have z0 : wr.cell? ⟨w.heap.size, 0, none⟩ = some (.int .i64 0) := by rw [blk_cell hnb]; rfl
    have zf0 := blk_free hnb 0
    have z1 : wr.cell? ⟨w.heap.size, 1, none⟩ = some (.int .i64 0) := by rw [blk_cell hnb]; rfl
    have zf1 := blk_free hnb 1
    have z2 : wr.cell? ⟨w.heap.size, 2, none⟩ = some (.string ByteArray.empty) := by rw [blk_cell hnb]; rfl
    have zf2 := blk_free hnb 2
    clear hall hnb
    by_cases hkl : k < ps.length
    · obtain ⟨ba, oa, ra, rfl, hSa, hba, hRa, hca⟩ := HA.out k ps[k] (List.getElem?_eq_getElem hkl)
      obtain ⟨hba', a0, a1, a2, a3⟩ := hRa.at hba hgr hca
      clear hca hRa hSa hba hgr
      have HE := Lib.hid (show ps[k]? = some ps[k] from List.getElem?_eq_getElem hkl)
      have HT := Lib.hid (show ps.take (k + 1) = ps.take k ++ [ps[k]] from List.take_succ_eq_append_getElem hkl)
      generalize ps[k] = x at *
      by_cases hx : x.name = name
      · have HF := Lib.hid (getP_take HE.out hx HALL.out)
        go_wp2
        refine bodyPost_ret (v := .tuple #[x.v.args, .bool true]) ?_ rfl ⟨by unfold getV; rw [HF.out]; rfl, ?_⟩
        · rw [results_cell_tmp rfl]
          go_simp
        · exact ((((HG.out).setd (p := ⟨w.heap.size, 0, none⟩) (Nat.le_refl _) _).setd (p := ⟨w.heap.size, 1, none⟩) (Nat.le_refl _) _).setd (p := ⟨w.heap.size, 2, none⟩) (Nat.le_refl _) _).allocd _
      · have HX := Lib.hid hx
        go_wp2
        go_roundg (ps.length - (k + 1))
        case measure => omega
        case rel =>
          refine ⟨k + 1, by omega, rfl, by go_num, ?_, HG.out.allocd _, ?_⟩
          · rw [HT.out]
            intro y hy
            rcases List.mem_append.1 hy with h | h
            · exact HALL.out y h
            · rw [List.mem_singleton] at h
              subst h
              exact HX.out
          · exact (((Grow.rfl' wr).allocd _).heapEq hnl).trans HB.out
    · have hkk : ps.take k = ps := List.take_of_length_le (by omega)
      rw [hkk] at HALL
      have HF := Lib.hid (getP_none HALL.out)
      clear hkk
      go_wp2
      refine bodyPost_ret (v := .tuple #[.agg #[.int .i64 0, .int .i64 0, .string ByteArray.empty], .bool false]) ?_ rfl ⟨by unfold getV; rw [HF.out]; rfl, ?_⟩
      · rw [results_cell_tmp rfl]
        go_simp
        rfl
      · exact (((HG.out).setd (p := ⟨w.heap.size, 0, none⟩) (Nat.le_refl _) _).setd (p := ⟨w.heap.size, 1, none⟩) (Nat.le_refl _) _).setd (p := ⟨w.heap.size, 2, none⟩) (Nat.le_refl _) _
theorem find_take {α : Type} {p : α → Bool} {l : List α} {k : Nat} {x : α} (hk : l[k]? = some x) (hp : p x = true) (hall : ∀ y ∈ l.take k, p y = false) : l.find? p = some x := by
  induction l generalizing k with
  | nil => simp at hk
  | cons a t ih =>
    cases k with
    | zero =>
      simp at hk
      subst hk
      rw [List.find?_cons_of_pos hp]
    | succ k =>
      rw [List.find?_cons_of_neg (by rw [hall a (by simp)]; simp)]
      exact ih (k := k) (by simpa using hk) (fun y hy => hall y (by simp [hy]))
theorem typeN_take {nodes : List PNode} {id : Int} {k : Nat} {x : PNode} (hk : nodes[k]? = some x) (hx : x.id = id) (hall : ∀ y ∈ nodes.take k, y.id ≠ id) : typeN nodes id = some x.typ := by
  unfold typeN
  rw [find_take hk (by simpa using hx) (fun y hy => by simpa using hall y hy)]
  rfl
theorem typeN_none {nodes : List PNode} {id : Int} (hall : ∀ y ∈ nodes, y.id ≠ id) : typeN nodes id = none := by
  unfold typeN
  rw [List.find?_eq_none.2 (fun y hy => by simpa using hall y hy)]
  rfl

set_option maxRecDepth 100000 in
set_option maxHeartbeats 2000000 in
theorem ruleTypeOf (S : Nat → Prop) (v : Value) (nodes : List PNode) (id : Int) (w : World) (h : NodesR S w v nodes) :
    Calls Tryz.prog 76 #[v, .int .i64 id] w fun e w' => e = .returned (.tuple #[.string ((typeN nodes id).getD ByteArray.empty), .bool (typeN nodes id).isSome]) ∧ Grow w w' := by
  obtain ⟨aa, ca, rfl, hal, hac, hA⟩ := SlR.open h
  clear h
  unfold maxLen at hac
  have HA := Lib.hid hA; clear hA
  go_enter Tryz.func76, Tryz.ntmps76
  go_wp2
  go_loopg [10] nodes.length (fun g i wr => ∃ k : Nat, k ≤ nodes.length ∧ g = nodes.length - k ∧ i = .int .i64 k ∧ (∀ y ∈ nodes.take k, y.id ≠ id) ∧ Grow w wr)
  case atStart => exact ⟨0, by omega, by omega, rfl, by simp, Grow.rfl' w⟩
  case round =>
    obtain ⟨k, hk, rfl, rfl, hall, hgr⟩ := hrel
    have HALL := Lib.hid hall; have HG := Lib.hid hgr
    clear hall
    by_cases hkl : k < nodes.length
    · obtain ⟨ba, oa, ra, rfl, hSa, hba, hRa, hca⟩ := HA.out k nodes[k] (List.getElem?_eq_getElem hkl)
      obtain ⟨pva, hba', a0, a1, a2, hpa⟩ := hRa.at hba hgr hca
      clear hca hRa hSa hba hgr
      have HE := Lib.hid (show nodes[k]? = some nodes[k] from List.getElem?_eq_getElem hkl)
      have HT := Lib.hid (show nodes.take (k + 1) = nodes.take k ++ [nodes[k]] from List.take_succ_eq_append_getElem hkl)
      generalize nodes[k] = x at *
      obtain ⟨_, _, rfl⟩ := hpa.isSlice
      clear hpa
      by_cases hx : x.id = id
      · have HF := Lib.hid (typeN_take HE.out hx HALL.out)
        go_wp2
        go_ret2
        exact ⟨by rw [HF.out]; rfl, HG.out.allocd _⟩
      · have HX := Lib.hid hx
        go_wp2
        go_roundg (nodes.length - (k + 1))
        case measure => omega
        case rel =>
          refine ⟨k + 1, by omega, rfl, by go_num, ?_, HG.out.allocd _⟩
          · rw [HT.out]
            intro y hy
            rcases List.mem_append.1 hy with h | h
            · exact HALL.out y h
            · rw [List.mem_singleton] at h
              subst h
              exact HX.out
    · have hkk : nodes.take k = nodes := List.take_of_length_le (by omega)
      rw [hkk] at HALL
      have HF := Lib.hid (typeN_none HALL.out)
      clear hkk
      go_wp2
      go_ret2
      exact ⟨by rw [HF.out]; rfl, HG.out⟩

end Go.Hg
