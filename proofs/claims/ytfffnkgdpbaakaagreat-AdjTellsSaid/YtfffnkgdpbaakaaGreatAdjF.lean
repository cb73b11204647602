/- graph.acts: a kind's two functions; graph.May, Do; hedgerowref17.May: the same error. Conditions: those that each theorem names. -/
import Derived.Test.YtfffnkgdpbaakaaGreatAdjB
import Derived.Test.YtfffnkgdpbaakaaGreatAdjA
import Derived.Laws.ResultCell
import Derived.Laws.EntriesVeiled
import Derived.Test.YtfffnkgdpbaakaaGreatAdjD
import Derived.Test.YtfffnkgdpbaakaaGreatAdjE
namespace Go.Hg
open Go.RowKit Go.Proofs

theorem zeroAct (w : World) : (zeroValue 113).run Tryz.prog w = .ok (.agg #[.nilFunc, .nilFunc]) w := by kernel_rfl

set_option maxRecDepth 100000 in
set_option maxHeartbeats 1000000 in
theorem acts1 (w : World) : Calls Tryz.prog 53 #[.int .i64 1] w fun e w' => e = .returned (.tuple #[.agg #[.func (.func 71) #[] #[], .func (.func 72) #[] #[]], .bool true]) ∧ Grow w w' := by
  have hsz : (w.alloc (.cells #[.nilFunc, .nilFunc] 113)).heap.size = w.heap.size + 1 := by simp
  have hT : Tryz.prog.underlying 131 = some (.map 3 113) := Tryz.underlying131
  have hI : Tryz.prog.underlying 3 = some (.int .i64) := Tryz.underlying3
  have i1 := run_ins _ _ hsz hT hI #[] 0 1 (.agg #[.func (.func 71) #[] #[], .func (.func 72) #[] #[]]) rfl
  have i2 := run_ins _ _ hsz hT hI #[{ key := .int .i64 1, val := .agg #[.func (.func 71) #[] #[], .func (.func 72) #[] #[]], born := 0 }] 1 2 (.agg #[.func (.func 73) #[] #[], .func (.func 74) #[] #[]]) rfl
  have i3 := run_ins _ _ hsz hT hI #[{ key := .int .i64 1, val := .agg #[.func (.func 71) #[] #[], .func (.func 72) #[] #[]], born := 0 }, { key := .int .i64 2, val := .agg #[.func (.func 73) #[] #[], .func (.func 74) #[] #[]], born := 1 }] 2 3 (.agg #[.func (.func 75) #[] #[], .func (.func 76) #[] #[]]) rfl
  have i4 := run_ins _ _ hsz hT hI #[{ key := .int .i64 1, val := .agg #[.func (.func 71) #[] #[], .func (.func 72) #[] #[]], born := 0 }, { key := .int .i64 2, val := .agg #[.func (.func 73) #[] #[], .func (.func 74) #[] #[]], born := 1 }, { key := .int .i64 3, val := .agg #[.func (.func 75) #[] #[], .func (.func 76) #[] #[]], born := 2 }] 3 4 (.agg #[.func (.func 77) #[] #[], .func (.func 78) #[] #[]]) rfl
  have i5 := run_ins _ _ hsz hT hI #[{ key := .int .i64 1, val := .agg #[.func (.func 71) #[] #[], .func (.func 72) #[] #[]], born := 0 }, { key := .int .i64 2, val := .agg #[.func (.func 73) #[] #[], .func (.func 74) #[] #[]], born := 1 }, { key := .int .i64 3, val := .agg #[.func (.func 75) #[] #[], .func (.func 76) #[] #[]], born := 2 }, { key := .int .i64 4, val := .agg #[.func (.func 77) #[] #[], .func (.func 78) #[] #[]], born := 3 }] 4 5 (.agg #[.func (.func 79) #[] #[], .func (.func 80) #[] #[]]) rfl
  simp only [List.push_toArray, List.cons_append, List.nil_append, Nat.reduceAdd] at i1 i2 i3 i4 i5
  have hmm := @run_makeMap Tryz.prog
  have HG := Lib.hid (show ∀ o1 o2 o3, Grow w (((w.alloc o1).alloc o2).alloc o3) from fun o1 o2 o3 => (((Grow.rfl' w).allocd o1).allocd o2).allocd o3)
  have lk := run_look_hit _ _ hsz hT hI #[{ key := .int .i64 1, val := .agg #[.func (.func 71) #[] #[], .func (.func 72) #[] #[]], born := 0 }, { key := .int .i64 2, val := .agg #[.func (.func 73) #[] #[], .func (.func 74) #[] #[]], born := 1 }, { key := .int .i64 3, val := .agg #[.func (.func 75) #[] #[], .func (.func 76) #[] #[]], born := 2 }, { key := .int .i64 4, val := .agg #[.func (.func 77) #[] #[], .func (.func 78) #[] #[]], born := 3 }, { key := .int .i64 5, val := .agg #[.func (.func 79) #[] #[], .func (.func 80) #[] #[]], born := 4 }] 5 1 0 _ rfl
  clear hsz
  go_enter Tryz.func53, Tryz.ntmps53
  go_wp2
  refine bodyPost_ret (v := .tuple #[.agg #[.func (.func 71) #[] #[], .func (.func 72) #[] #[]], .bool true]) ?_ rfl ⟨rfl, HG.out _ _ _⟩
  rw [results_cell_tmp rfl]
  go_simp

set_option maxRecDepth 100000 in
set_option maxHeartbeats 1000000 in
theorem acts2 (w : World) : Calls Tryz.prog 53 #[.int .i64 2] w fun e w' => e = .returned (.tuple #[.agg #[.func (.func 73) #[] #[], .func (.func 74) #[] #[]], .bool true]) ∧ Grow w w' := by
  have hsz : (w.alloc (.cells #[.nilFunc, .nilFunc] 113)).heap.size = w.heap.size + 1 := by simp
  have hT : Tryz.prog.underlying 131 = some (.map 3 113) := Tryz.underlying131
  have hI : Tryz.prog.underlying 3 = some (.int .i64) := Tryz.underlying3
  have i1 := run_ins _ _ hsz hT hI #[] 0 1 (.agg #[.func (.func 71) #[] #[], .func (.func 72) #[] #[]]) rfl
  have i2 := run_ins _ _ hsz hT hI #[{ key := .int .i64 1, val := .agg #[.func (.func 71) #[] #[], .func (.func 72) #[] #[]], born := 0 }] 1 2 (.agg #[.func (.func 73) #[] #[], .func (.func 74) #[] #[]]) rfl
  have i3 := run_ins _ _ hsz hT hI #[{ key := .int .i64 1, val := .agg #[.func (.func 71) #[] #[], .func (.func 72) #[] #[]], born := 0 }, { key := .int .i64 2, val := .agg #[.func (.func 73) #[] #[], .func (.func 74) #[] #[]], born := 1 }] 2 3 (.agg #[.func (.func 75) #[] #[], .func (.func 76) #[] #[]]) rfl
  have i4 := run_ins _ _ hsz hT hI #[{ key := .int .i64 1, val := .agg #[.func (.func 71) #[] #[], .func (.func 72) #[] #[]], born := 0 }, { key := .int .i64 2, val := .agg #[.func (.func 73) #[] #[], .func (.func 74) #[] #[]], born := 1 }, { key := .int .i64 3, val := .agg #[.func (.func 75) #[] #[], .func (.func 76) #[] #[]], born := 2 }] 3 4 (.agg #[.func (.func 77) #[] #[], .func (.func 78) #[] #[]]) rfl
  have i5 := run_ins _ _ hsz hT hI #[{ key := .int .i64 1, val := .agg #[.func (.func 71) #[] #[], .func (.func 72) #[] #[]], born := 0 }, { key := .int .i64 2, val := .agg #[.func (.func 73) #[] #[], .func (.func 74) #[] #[]], born := 1 }, { key := .int .i64 3, val := .agg #[.func (.func 75) #[] #[], .func (.func 76) #[] #[]], born := 2 }, { key := .int .i64 4, val := .agg #[.func (.func 77) #[] #[], .func (.func 78) #[] #[]], born := 3 }] 4 5 (.agg #[.func (.func 79) #[] #[], .func (.func 80) #[] #[]]) rfl
  simp only [List.push_toArray, List.cons_append, List.nil_append, Nat.reduceAdd] at i1 i2 i3 i4 i5
  have hmm := @run_makeMap Tryz.prog
  have HG := Lib.hid (show ∀ o1 o2 o3, Grow w (((w.alloc o1).alloc o2).alloc o3) from fun o1 o2 o3 => (((Grow.rfl' w).allocd o1).allocd o2).allocd o3)
  have lk := run_look_hit _ _ hsz hT hI #[{ key := .int .i64 1, val := .agg #[.func (.func 71) #[] #[], .func (.func 72) #[] #[]], born := 0 }, { key := .int .i64 2, val := .agg #[.func (.func 73) #[] #[], .func (.func 74) #[] #[]], born := 1 }, { key := .int .i64 3, val := .agg #[.func (.func 75) #[] #[], .func (.func 76) #[] #[]], born := 2 }, { key := .int .i64 4, val := .agg #[.func (.func 77) #[] #[], .func (.func 78) #[] #[]], born := 3 }, { key := .int .i64 5, val := .agg #[.func (.func 79) #[] #[], .func (.func 80) #[] #[]], born := 4 }] 5 2 1 _ rfl
  clear hsz
  go_enter Tryz.func53, Tryz.ntmps53
  go_wp2
  refine bodyPost_ret (v := .tuple #[.agg #[.func (.func 73) #[] #[], .func (.func 74) #[] #[]], .bool true]) ?_ rfl ⟨rfl, HG.out _ _ _⟩
  rw [results_cell_tmp rfl]
  go_simp

set_option maxRecDepth 100000 in
set_option maxHeartbeats 1000000 in
theorem acts3 (w : World) : Calls Tryz.prog 53 #[.int .i64 3] w fun e w' => e = .returned (.tuple #[.agg #[.func (.func 75) #[] #[], .func (.func 76) #[] #[]], .bool true]) ∧ Grow w w' := by
  have hsz : (w.alloc (.cells #[.nilFunc, .nilFunc] 113)).heap.size = w.heap.size + 1 := by simp
  have hT : Tryz.prog.underlying 131 = some (.map 3 113) := Tryz.underlying131
  have hI : Tryz.prog.underlying 3 = some (.int .i64) := Tryz.underlying3
  have i1 := run_ins _ _ hsz hT hI #[] 0 1 (.agg #[.func (.func 71) #[] #[], .func (.func 72) #[] #[]]) rfl
  have i2 := run_ins _ _ hsz hT hI #[{ key := .int .i64 1, val := .agg #[.func (.func 71) #[] #[], .func (.func 72) #[] #[]], born := 0 }] 1 2 (.agg #[.func (.func 73) #[] #[], .func (.func 74) #[] #[]]) rfl
  have i3 := run_ins _ _ hsz hT hI #[{ key := .int .i64 1, val := .agg #[.func (.func 71) #[] #[], .func (.func 72) #[] #[]], born := 0 }, { key := .int .i64 2, val := .agg #[.func (.func 73) #[] #[], .func (.func 74) #[] #[]], born := 1 }] 2 3 (.agg #[.func (.func 75) #[] #[], .func (.func 76) #[] #[]]) rfl
  have i4 := run_ins _ _ hsz hT hI #[{ key := .int .i64 1, val := .agg #[.func (.func 71) #[] #[], .func (.func 72) #[] #[]], born := 0 }, { key := .int .i64 2, val := .agg #[.func (.func 73) #[] #[], .func (.func 74) #[] #[]], born := 1 }, { key := .int .i64 3, val := .agg #[.func (.func 75) #[] #[], .func (.func 76) #[] #[]], born := 2 }] 3 4 (.agg #[.func (.func 77) #[] #[], .func (.func 78) #[] #[]]) rfl
  have i5 := run_ins _ _ hsz hT hI #[{ key := .int .i64 1, val := .agg #[.func (.func 71) #[] #[], .func (.func 72) #[] #[]], born := 0 }, { key := .int .i64 2, val := .agg #[.func (.func 73) #[] #[], .func (.func 74) #[] #[]], born := 1 }, { key := .int .i64 3, val := .agg #[.func (.func 75) #[] #[], .func (.func 76) #[] #[]], born := 2 }, { key := .int .i64 4, val := .agg #[.func (.func 77) #[] #[], .func (.func 78) #[] #[]], born := 3 }] 4 5 (.agg #[.func (.func 79) #[] #[], .func (.func 80) #[] #[]]) rfl
  simp only [List.push_toArray, List.cons_append, List.nil_append, Nat.reduceAdd] at i1 i2 i3 i4 i5
  have hmm := @run_makeMap Tryz.prog
  have HG := Lib.hid (show ∀ o1 o2 o3, Grow w (((w.alloc o1).alloc o2).alloc o3) from fun o1 o2 o3 => (((Grow.rfl' w).allocd o1).allocd o2).allocd o3)
  have lk := run_look_hit _ _ hsz hT hI #[{ key := .int .i64 1, val := .agg #[.func (.func 71) #[] #[], .func (.func 72) #[] #[]], born := 0 }, { key := .int .i64 2, val := .agg #[.func (.func 73) #[] #[], .func (.func 74) #[] #[]], born := 1 }, { key := .int .i64 3, val := .agg #[.func (.func 75) #[] #[], .func (.func 76) #[] #[]], born := 2 }, { key := .int .i64 4, val := .agg #[.func (.func 77) #[] #[], .func (.func 78) #[] #[]], born := 3 }, { key := .int .i64 5, val := .agg #[.func (.func 79) #[] #[], .func (.func 80) #[] #[]], born := 4 }] 5 3 2 _ rfl
  clear hsz
  go_enter Tryz.func53, Tryz.ntmps53
  go_wp2
  refine bodyPost_ret (v := .tuple #[.agg #[.func (.func 75) #[] #[], .func (.func 76) #[] #[]], .bool true]) ?_ rfl ⟨rfl, HG.out _ _ _⟩
  rw [results_cell_tmp rfl]
  go_simp

set_option maxRecDepth 100000 in
set_option maxHeartbeats 1000000 in
theorem acts4 (w : World) : Calls Tryz.prog 53 #[.int .i64 4] w fun e w' => e = .returned (.tuple #[.agg #[.func (.func 77) #[] #[], .func (.func 78) #[] #[]], .bool true]) ∧ Grow w w' := by
  have hsz : (w.alloc (.cells #[.nilFunc, .nilFunc] 113)).heap.size = w.heap.size + 1 := by simp
  have hT : Tryz.prog.underlying 131 = some (.map 3 113) := Tryz.underlying131
  have hI : Tryz.prog.underlying 3 = some (.int .i64) := Tryz.underlying3
  have i1 := run_ins _ _ hsz hT hI #[] 0 1 (.agg #[.func (.func 71) #[] #[], .func (.func 72) #[] #[]]) rfl
  have i2 := run_ins _ _ hsz hT hI #[{ key := .int .i64 1, val := .agg #[.func (.func 71) #[] #[], .func (.func 72) #[] #[]], born := 0 }] 1 2 (.agg #[.func (.func 73) #[] #[], .func (.func 74) #[] #[]]) rfl
  have i3 := run_ins _ _ hsz hT hI #[{ key := .int .i64 1, val := .agg #[.func (.func 71) #[] #[], .func (.func 72) #[] #[]], born := 0 }, { key := .int .i64 2, val := .agg #[.func (.func 73) #[] #[], .func (.func 74) #[] #[]], born := 1 }] 2 3 (.agg #[.func (.func 75) #[] #[], .func (.func 76) #[] #[]]) rfl
  have i4 := run_ins _ _ hsz hT hI #[{ key := .int .i64 1, val := .agg #[.func (.func 71) #[] #[], .func (.func 72) #[] #[]], born := 0 }, { key := .int .i64 2, val := .agg #[.func (.func 73) #[] #[], .func (.func 74) #[] #[]], born := 1 }, { key := .int .i64 3, val := .agg #[.func (.func 75) #[] #[], .func (.func 76) #[] #[]], born := 2 }] 3 4 (.agg #[.func (.func 77) #[] #[], .func (.func 78) #[] #[]]) rfl
  have i5 := run_ins _ _ hsz hT hI #[{ key := .int .i64 1, val := .agg #[.func (.func 71) #[] #[], .func (.func 72) #[] #[]], born := 0 }, { key := .int .i64 2, val := .agg #[.func (.func 73) #[] #[], .func (.func 74) #[] #[]], born := 1 }, { key := .int .i64 3, val := .agg #[.func (.func 75) #[] #[], .func (.func 76) #[] #[]], born := 2 }, { key := .int .i64 4, val := .agg #[.func (.func 77) #[] #[], .func (.func 78) #[] #[]], born := 3 }] 4 5 (.agg #[.func (.func 79) #[] #[], .func (.func 80) #[] #[]]) rfl
  simp only [List.push_toArray, List.cons_append, List.nil_append, Nat.reduceAdd] at i1 i2 i3 i4 i5
  have hmm := @run_makeMap Tryz.prog
  have HG := Lib.hid (show ∀ o1 o2 o3, Grow w (((w.alloc o1).alloc o2).alloc o3) from fun o1 o2 o3 => (((Grow.rfl' w).allocd o1).allocd o2).allocd o3)
  have lk := run_look_hit _ _ hsz hT hI #[{ key := .int .i64 1, val := .agg #[.func (.func 71) #[] #[], .func (.func 72) #[] #[]], born := 0 }, { key := .int .i64 2, val := .agg #[.func (.func 73) #[] #[], .func (.func 74) #[] #[]], born := 1 }, { key := .int .i64 3, val := .agg #[.func (.func 75) #[] #[], .func (.func 76) #[] #[]], born := 2 }, { key := .int .i64 4, val := .agg #[.func (.func 77) #[] #[], .func (.func 78) #[] #[]], born := 3 }, { key := .int .i64 5, val := .agg #[.func (.func 79) #[] #[], .func (.func 80) #[] #[]], born := 4 }] 5 4 3 _ rfl
  clear hsz
  go_enter Tryz.func53, Tryz.ntmps53
  go_wp2
  refine bodyPost_ret (v := .tuple #[.agg #[.func (.func 77) #[] #[], .func (.func 78) #[] #[]], .bool true]) ?_ rfl ⟨rfl, HG.out _ _ _⟩
  rw [results_cell_tmp rfl]
  go_simp

set_option maxRecDepth 100000 in
set_option maxHeartbeats 1000000 in
theorem acts5 (w : World) : Calls Tryz.prog 53 #[.int .i64 5] w fun e w' => e = .returned (.tuple #[.agg #[.func (.func 79) #[] #[], .func (.func 80) #[] #[]], .bool true]) ∧ Grow w w' := by
  have hsz : (w.alloc (.cells #[.nilFunc, .nilFunc] 113)).heap.size = w.heap.size + 1 := by simp
  have hT : Tryz.prog.underlying 131 = some (.map 3 113) := Tryz.underlying131
  have hI : Tryz.prog.underlying 3 = some (.int .i64) := Tryz.underlying3
  have i1 := run_ins _ _ hsz hT hI #[] 0 1 (.agg #[.func (.func 71) #[] #[], .func (.func 72) #[] #[]]) rfl
  have i2 := run_ins _ _ hsz hT hI #[{ key := .int .i64 1, val := .agg #[.func (.func 71) #[] #[], .func (.func 72) #[] #[]], born := 0 }] 1 2 (.agg #[.func (.func 73) #[] #[], .func (.func 74) #[] #[]]) rfl
  have i3 := run_ins _ _ hsz hT hI #[{ key := .int .i64 1, val := .agg #[.func (.func 71) #[] #[], .func (.func 72) #[] #[]], born := 0 }, { key := .int .i64 2, val := .agg #[.func (.func 73) #[] #[], .func (.func 74) #[] #[]], born := 1 }] 2 3 (.agg #[.func (.func 75) #[] #[], .func (.func 76) #[] #[]]) rfl
  have i4 := run_ins _ _ hsz hT hI #[{ key := .int .i64 1, val := .agg #[.func (.func 71) #[] #[], .func (.func 72) #[] #[]], born := 0 }, { key := .int .i64 2, val := .agg #[.func (.func 73) #[] #[], .func (.func 74) #[] #[]], born := 1 }, { key := .int .i64 3, val := .agg #[.func (.func 75) #[] #[], .func (.func 76) #[] #[]], born := 2 }] 3 4 (.agg #[.func (.func 77) #[] #[], .func (.func 78) #[] #[]]) rfl
  have i5 := run_ins _ _ hsz hT hI #[{ key := .int .i64 1, val := .agg #[.func (.func 71) #[] #[], .func (.func 72) #[] #[]], born := 0 }, { key := .int .i64 2, val := .agg #[.func (.func 73) #[] #[], .func (.func 74) #[] #[]], born := 1 }, { key := .int .i64 3, val := .agg #[.func (.func 75) #[] #[], .func (.func 76) #[] #[]], born := 2 }, { key := .int .i64 4, val := .agg #[.func (.func 77) #[] #[], .func (.func 78) #[] #[]], born := 3 }] 4 5 (.agg #[.func (.func 79) #[] #[], .func (.func 80) #[] #[]]) rfl
  simp only [List.push_toArray, List.cons_append, List.nil_append, Nat.reduceAdd] at i1 i2 i3 i4 i5
  have hmm := @run_makeMap Tryz.prog
  have HG := Lib.hid (show ∀ o1 o2 o3, Grow w (((w.alloc o1).alloc o2).alloc o3) from fun o1 o2 o3 => (((Grow.rfl' w).allocd o1).allocd o2).allocd o3)
  have lk := run_look_hit _ _ hsz hT hI #[{ key := .int .i64 1, val := .agg #[.func (.func 71) #[] #[], .func (.func 72) #[] #[]], born := 0 }, { key := .int .i64 2, val := .agg #[.func (.func 73) #[] #[], .func (.func 74) #[] #[]], born := 1 }, { key := .int .i64 3, val := .agg #[.func (.func 75) #[] #[], .func (.func 76) #[] #[]], born := 2 }, { key := .int .i64 4, val := .agg #[.func (.func 77) #[] #[], .func (.func 78) #[] #[]], born := 3 }, { key := .int .i64 5, val := .agg #[.func (.func 79) #[] #[], .func (.func 80) #[] #[]], born := 4 }] 5 5 4 _ rfl
  clear hsz
  go_enter Tryz.func53, Tryz.ntmps53
  go_wp2
  refine bodyPost_ret (v := .tuple #[.agg #[.func (.func 79) #[] #[], .func (.func 80) #[] #[]], .bool true]) ?_ rfl ⟨rfl, HG.out _ _ _⟩
  rw [results_cell_tmp rfl]
  go_simp

set_option maxRecDepth 100000 in
set_option maxHeartbeats 1000000 in
theorem acts0 (k : Int) (w : World) (h1 : k ≠ 1) (h2 : k ≠ 2) (h3 : k ≠ 3) (h4 : k ≠ 4) (h5 : k ≠ 5) : Calls Tryz.prog 53 #[.int .i64 k] w fun e w' => e = .returned (.tuple #[.agg #[.nilFunc, .nilFunc], .bool false]) ∧ Grow w w' := by
  have hsz : (w.alloc (.cells #[.nilFunc, .nilFunc] 113)).heap.size = w.heap.size + 1 := by simp
  have hT : Tryz.prog.underlying 131 = some (.map 3 113) := Tryz.underlying131
  have hI : Tryz.prog.underlying 3 = some (.int .i64) := Tryz.underlying3
  have i1 := run_ins _ _ hsz hT hI #[] 0 1 (.agg #[.func (.func 71) #[] #[], .func (.func 72) #[] #[]]) rfl
  have i2 := run_ins _ _ hsz hT hI #[{ key := .int .i64 1, val := .agg #[.func (.func 71) #[] #[], .func (.func 72) #[] #[]], born := 0 }] 1 2 (.agg #[.func (.func 73) #[] #[], .func (.func 74) #[] #[]]) rfl
  have i3 := run_ins _ _ hsz hT hI #[{ key := .int .i64 1, val := .agg #[.func (.func 71) #[] #[], .func (.func 72) #[] #[]], born := 0 }, { key := .int .i64 2, val := .agg #[.func (.func 73) #[] #[], .func (.func 74) #[] #[]], born := 1 }] 2 3 (.agg #[.func (.func 75) #[] #[], .func (.func 76) #[] #[]]) rfl
  have i4 := run_ins _ _ hsz hT hI #[{ key := .int .i64 1, val := .agg #[.func (.func 71) #[] #[], .func (.func 72) #[] #[]], born := 0 }, { key := .int .i64 2, val := .agg #[.func (.func 73) #[] #[], .func (.func 74) #[] #[]], born := 1 }, { key := .int .i64 3, val := .agg #[.func (.func 75) #[] #[], .func (.func 76) #[] #[]], born := 2 }] 3 4 (.agg #[.func (.func 77) #[] #[], .func (.func 78) #[] #[]]) rfl
  have i5 := run_ins _ _ hsz hT hI #[{ key := .int .i64 1, val := .agg #[.func (.func 71) #[] #[], .func (.func 72) #[] #[]], born := 0 }, { key := .int .i64 2, val := .agg #[.func (.func 73) #[] #[], .func (.func 74) #[] #[]], born := 1 }, { key := .int .i64 3, val := .agg #[.func (.func 75) #[] #[], .func (.func 76) #[] #[]], born := 2 }, { key := .int .i64 4, val := .agg #[.func (.func 77) #[] #[], .func (.func 78) #[] #[]], born := 3 }] 4 5 (.agg #[.func (.func 79) #[] #[], .func (.func 80) #[] #[]]) rfl
  simp only [List.push_toArray, List.cons_append, List.nil_append, Nat.reduceAdd] at i1 i2 i3 i4 i5
  have hmm := @run_makeMap Tryz.prog
  have HG := Lib.hid (show ∀ o1 o2 o3, Grow w (((w.alloc o1).alloc o2).alloc o3) from fun o1 o2 o3 => (((Grow.rfl' w).allocd o1).allocd o2).allocd o3)
  have lk := run_look_miss _ _ hsz hT hI #[{ key := .int .i64 1, val := .agg #[.func (.func 71) #[] #[], .func (.func 72) #[] #[]], born := 0 }, { key := .int .i64 2, val := .agg #[.func (.func 73) #[] #[], .func (.func 74) #[] #[]], born := 1 }, { key := .int .i64 3, val := .agg #[.func (.func 75) #[] #[], .func (.func 76) #[] #[]], born := 2 }, { key := .int .i64 4, val := .agg #[.func (.func 77) #[] #[], .func (.func 78) #[] #[]], born := 3 }, { key := .int .i64 5, val := .agg #[.func (.func 79) #[] #[], .func (.func 80) #[] #[]], born := 4 }] 5 k _ zeroAct (by simp [Instr.findNow, Instr.sameNow, beq_eq_false_iff_ne.2 h1, beq_eq_false_iff_ne.2 h2, beq_eq_false_iff_ne.2 h3, beq_eq_false_iff_ne.2 h4, beq_eq_false_iff_ne.2 h5])
  clear hsz h1 h2 h3 h4 h5
  go_enter Tryz.func53, Tryz.ntmps53
  go_wp2
  refine bodyPost_ret (v := .tuple #[.agg #[.nilFunc, .nilFunc], .bool false]) ?_ rfl ⟨rfl, HG.out _ _ _⟩
  rw [results_cell_tmp rfl]
  go_simp
end Go.Hg

namespace Go.Hg
open Go.RowKit Go.Proofs

/-- a catalog that lies in a block -/
def CatAt (w : World) (b : Nat) (nv ev rv iv : Value) (c : PCat) : Prop := w.heap[b]? = some (.cells #[nv, ev, rv, iv, .int .i64 c.nextRule] 74 (0, 0))
theorem CatAt.grow {w w' : World} {b : Nat} {nv ev rv iv : Value} {c : PCat} (h : CatAt w b nv ev rv iv c) (g : Grow w w') : CatAt w' b nv ev rv iv c := (g.heapEq (blk_lt h)).trans h
theorem CatAt.at {w : World} {b : Nat} {nv ev rv iv : Value} {c : PCat} (h : CatAt w b nv ev rv iv c) : b < w.heap.size ∧ w.cell? ⟨b, 0, none⟩ = some nv ∧ w.cell? ⟨b, 1, none⟩ = some ev ∧ w.cell? ⟨b, 2, none⟩ = some rv ∧ w.cell? ⟨b, 3, none⟩ = some iv ∧ w.cell? ⟨b, 4, none⟩ = some (.int .i64 c.nextRule) :=
  ⟨blk_lt h, by rw [blk_cell h]; rfl, by rw [blk_cell h]; rfl, by rw [blk_cell h]; rfl, by rw [blk_cell h]; rfl, by rw [blk_cell h]; rfl⟩
theorem boxes (w : World) (nv ev rv iv : Value) (c : PCat) (o : POp) : CatAt ((w.alloc (.cells #[nv, ev, rv, iv, .int .i64 c.nextRule] 74)).alloc (.cells o.cells.toArray 63)) w.heap.size nv ev rv iv c ∧ OpAt ((w.alloc (.cells #[nv, ev, rv, iv, .int .i64 c.nextRule] 74)).alloc (.cells o.cells.toArray 63)) (w.heap.size + 1) o := by
  constructor
  · unfold CatAt
    rw [heap_alloc_old _ _ (by simp)]
    exact heap_alloc_new w _
  · have := heap_alloc_new (w.alloc (.cells #[nv, ev, rv, iv, .int .i64 c.nextRule] 74)) (.cells o.cells.toArray 63)
    rw [World.size_alloc] at this
    exact this

set_option maxRecDepth 100000 in
set_option maxHeartbeats 1000000 in
/-- the graph that nobody made -/
theorem graphMayNil (nv ev rv iv : Value) (c : PCat) (o : POp) (SC : Nat → Prop) (w : World) (hc : CatR SC w nv ev rv iv c) :
    Calls Tryz.prog 52 #[.pointer none, c.arg nv ev rv iv, o.args] w fun e w' => e = .returned (.int .i64 1) ∧ Grow w w' := by
  obtain ⟨na, nc, ea, ec, ra, rc, ia, ic, rfl, rfl, rfl, rfl⟩ := hc.slices
  have HW := Lib.hid (show ∀ o1 o2, Grow w ((w.alloc o1).alloc o2) from fun o1 o2 => ((Grow.rfl' w).allocd o1).allocd o2)
  clear hc
  go_enter Tryz.func52, Tryz.ntmps52
  go_wp2
  go_ret
  exact ⟨rfl, HW.out _ _⟩

set_option maxRecDepth 100000 in
set_option maxHeartbeats 1000000 in
theorem may1 (S SC : Nat → Prop) (B : Nat) (G : PGraph) (nv ev rv iv : Value) (c : PCat) (o : POp) (w : World) (h : GraphOk 98 S w B G) (hG : GInv G) (hc : CatR SC w nv ev rv iv c) (hk : o.kind = 1) :
    Calls Tryz.prog 52 #[.pointer (some ⟨B, 0, none⟩), c.arg nv ev rv iv, o.args] w fun e w' => e = .returned (.int .i64 (mayG c o G)) ∧ Grow w w' := by
  have HGR := Lib.hid h; have HI := Lib.hid hG; have HC := Lib.hid hc
  obtain ⟨kind, id, typ, from_, to_, name, v, cascade⟩ := o
  subst hk
  obtain ⟨na, nc, ea, ec, ra, rc, ia, ic, rfl, rfl, rfl, rfl⟩ := hc.slices
  have HW := Lib.hid (show ∀ o1 o2, Grow w ((w.alloc o1).alloc o2) from fun o1 o2 => ((Grow.rfl' w).allocd o1).allocd o2)
  have HBX := Lib.hid (boxes w (.slice na c.nodes.length nc) (.slice ea c.edges.length ec) (.slice ra c.rules.length rc) (.slice ia c.indexes.length ic) c ⟨1, id, typ, from_, to_, name, v, cascade⟩)
  clear h hc hG
  go_enter Tryz.func52, Tryz.ntmps52
  go_wp2_with fail
  refine (acts1 _).mono ?_
  rintro e w2 ⟨rfl, hg⟩
  have HG2 := Lib.hid ((HW.out _ _).step hg)
  obtain ⟨hl1, k0, k1, k2, k3, k4⟩ := (HBX.out.1.grow hg).at
  obtain ⟨hl2, c0, c1, c2, c3, c4, c5, c6, c7, c8, c9⟩ := (HBX.out.2.grow hg).at
  clear hg
  go_wp2_with fail
  refine (mayAddNode S SC B G _ _ _ _ c ⟨1, id, typ, from_, to_, name, v, cascade⟩ _ (HGR.out.grow (HG2.out.allocd _)) HI.out (HC.out.grow (HG2.out.allocd _)) rfl).mono ?_
  rintro e w3 ⟨rfl, hg⟩
  have HG3 := Lib.hid ((HG2.out.allocd _).step hg)
  clear hg k0 k1 k2 k3 k4 c0 c1 c2 c3 c4 c5 c6 c7 c8 c9
  go_wp2
  go_ret
  exact ⟨rfl, HG3.out⟩

set_option maxRecDepth 100000 in
set_option maxHeartbeats 1000000 in
theorem may2 (S SC : Nat → Prop) (B : Nat) (G : PGraph) (nv ev rv iv : Value) (c : PCat) (o : POp) (w : World) (h : GraphOk 98 S w B G) (hG : GInv G) (hc : CatR SC w nv ev rv iv c) (hk : o.kind = 2) :
    Calls Tryz.prog 52 #[.pointer (some ⟨B, 0, none⟩), c.arg nv ev rv iv, o.args] w fun e w' => e = .returned (.int .i64 (mayG c o G)) ∧ Grow w w' := by
  have HGR := Lib.hid h; have HI := Lib.hid hG; have HC := Lib.hid hc
  obtain ⟨kind, id, typ, from_, to_, name, v, cascade⟩ := o
  subst hk
  obtain ⟨na, nc, ea, ec, ra, rc, ia, ic, rfl, rfl, rfl, rfl⟩ := hc.slices
  have HW := Lib.hid (show ∀ o1 o2, Grow w ((w.alloc o1).alloc o2) from fun o1 o2 => ((Grow.rfl' w).allocd o1).allocd o2)
  have HBX := Lib.hid (boxes w (.slice na c.nodes.length nc) (.slice ea c.edges.length ec) (.slice ra c.rules.length rc) (.slice ia c.indexes.length ic) c ⟨2, id, typ, from_, to_, name, v, cascade⟩)
  clear h hc hG
  go_enter Tryz.func52, Tryz.ntmps52
  go_wp2_with fail
  refine (acts2 _).mono ?_
  rintro e w2 ⟨rfl, hg⟩
  have HG2 := Lib.hid ((HW.out _ _).step hg)
  obtain ⟨hl1, k0, k1, k2, k3, k4⟩ := (HBX.out.1.grow hg).at
  obtain ⟨hl2, c0, c1, c2, c3, c4, c5, c6, c7, c8, c9⟩ := (HBX.out.2.grow hg).at
  clear hg
  go_wp2_with fail
  refine (mayDropNode S SC B G _ _ _ _ c ⟨2, id, typ, from_, to_, name, v, cascade⟩ _ (HGR.out.grow (HG2.out.allocd _)) HI.out (HC.out.grow (HG2.out.allocd _)) rfl).mono ?_
  rintro e w3 ⟨rfl, hg⟩
  have HG3 := Lib.hid ((HG2.out.allocd _).step hg)
  clear hg k0 k1 k2 k3 k4 c0 c1 c2 c3 c4 c5 c6 c7 c8 c9
  go_wp2
  go_ret
  exact ⟨rfl, HG3.out⟩

set_option maxRecDepth 100000 in
set_option maxHeartbeats 1000000 in
theorem may3 (S SC : Nat → Prop) (B : Nat) (G : PGraph) (nv ev rv iv : Value) (c : PCat) (o : POp) (w : World) (h : GraphOk 98 S w B G) (hG : GInv G) (hc : CatR SC w nv ev rv iv c) (hk : o.kind = 3) :
    Calls Tryz.prog 52 #[.pointer (some ⟨B, 0, none⟩), c.arg nv ev rv iv, o.args] w fun e w' => e = .returned (.int .i64 (mayG c o G)) ∧ Grow w w' := by
  have HGR := Lib.hid h; have HI := Lib.hid hG; have HC := Lib.hid hc
  obtain ⟨kind, id, typ, from_, to_, name, v, cascade⟩ := o
  subst hk
  obtain ⟨na, nc, ea, ec, ra, rc, ia, ic, rfl, rfl, rfl, rfl⟩ := hc.slices
  have HW := Lib.hid (show ∀ o1 o2, Grow w ((w.alloc o1).alloc o2) from fun o1 o2 => ((Grow.rfl' w).allocd o1).allocd o2)
  have HBX := Lib.hid (boxes w (.slice na c.nodes.length nc) (.slice ea c.edges.length ec) (.slice ra c.rules.length rc) (.slice ia c.indexes.length ic) c ⟨3, id, typ, from_, to_, name, v, cascade⟩)
  clear h hc hG
  go_enter Tryz.func52, Tryz.ntmps52
  go_wp2_with fail
  refine (acts3 _).mono ?_
  rintro e w2 ⟨rfl, hg⟩
  have HG2 := Lib.hid ((HW.out _ _).step hg)
  obtain ⟨hl1, k0, k1, k2, k3, k4⟩ := (HBX.out.1.grow hg).at
  obtain ⟨hl2, c0, c1, c2, c3, c4, c5, c6, c7, c8, c9⟩ := (HBX.out.2.grow hg).at
  clear hg
  go_wp2_with fail
  refine (mayAddEdge S SC B G _ _ _ _ c ⟨3, id, typ, from_, to_, name, v, cascade⟩ _ (HGR.out.grow (HG2.out.allocd _)) HI.out (HC.out.grow (HG2.out.allocd _)) rfl).mono ?_
  rintro e w3 ⟨rfl, hg⟩
  have HG3 := Lib.hid ((HG2.out.allocd _).step hg)
  clear hg k0 k1 k2 k3 k4 c0 c1 c2 c3 c4 c5 c6 c7 c8 c9
  go_wp2
  go_ret
  exact ⟨rfl, HG3.out⟩

set_option maxRecDepth 100000 in
set_option maxHeartbeats 1000000 in
theorem may4 (S SC : Nat → Prop) (B : Nat) (G : PGraph) (nv ev rv iv : Value) (c : PCat) (o : POp) (w : World) (h : GraphOk 98 S w B G) (hG : GInv G) (hc : CatR SC w nv ev rv iv c) (hk : o.kind = 4) :
    Calls Tryz.prog 52 #[.pointer (some ⟨B, 0, none⟩), c.arg nv ev rv iv, o.args] w fun e w' => e = .returned (.int .i64 (mayG c o G)) ∧ Grow w w' := by
  have HGR := Lib.hid h; have HI := Lib.hid hG; have HC := Lib.hid hc
  obtain ⟨kind, id, typ, from_, to_, name, v, cascade⟩ := o
  subst hk
  obtain ⟨na, nc, ea, ec, ra, rc, ia, ic, rfl, rfl, rfl, rfl⟩ := hc.slices
  have HW := Lib.hid (show ∀ o1 o2, Grow w ((w.alloc o1).alloc o2) from fun o1 o2 => ((Grow.rfl' w).allocd o1).allocd o2)
  have HBX := Lib.hid (boxes w (.slice na c.nodes.length nc) (.slice ea c.edges.length ec) (.slice ra c.rules.length rc) (.slice ia c.indexes.length ic) c ⟨4, id, typ, from_, to_, name, v, cascade⟩)
  clear h hc hG
  go_enter Tryz.func52, Tryz.ntmps52
  go_wp2_with fail
  refine (acts4 _).mono ?_
  rintro e w2 ⟨rfl, hg⟩
  have HG2 := Lib.hid ((HW.out _ _).step hg)
  obtain ⟨hl1, k0, k1, k2, k3, k4⟩ := (HBX.out.1.grow hg).at
  obtain ⟨hl2, c0, c1, c2, c3, c4, c5, c6, c7, c8, c9⟩ := (HBX.out.2.grow hg).at
  clear hg
  go_wp2_with fail
  refine (mayDropEdge S SC B G _ _ _ _ c ⟨4, id, typ, from_, to_, name, v, cascade⟩ _ (HGR.out.grow (HG2.out.allocd _)) HI.out (HC.out.grow (HG2.out.allocd _)) rfl).mono ?_
  rintro e w3 ⟨rfl, hg⟩
  have HG3 := Lib.hid ((HG2.out.allocd _).step hg)
  clear hg k0 k1 k2 k3 k4 c0 c1 c2 c3 c4 c5 c6 c7 c8 c9
  go_wp2
  go_ret
  exact ⟨rfl, HG3.out⟩

set_option maxRecDepth 100000 in
set_option maxHeartbeats 1000000 in
theorem may5 (S SC : Nat → Prop) (B : Nat) (G : PGraph) (nv ev rv iv : Value) (c : PCat) (o : POp) (w : World) (h : GraphOk 98 S w B G) (hG : GInv G) (hc : CatR SC w nv ev rv iv c) (hk : o.kind = 5) :
    Calls Tryz.prog 52 #[.pointer (some ⟨B, 0, none⟩), c.arg nv ev rv iv, o.args] w fun e w' => e = .returned (.int .i64 (mayG c o G)) ∧ Grow w w' := by
  have HGR := Lib.hid h; have HI := Lib.hid hG; have HC := Lib.hid hc
  obtain ⟨kind, id, typ, from_, to_, name, v, cascade⟩ := o
  subst hk
  obtain ⟨na, nc, ea, ec, ra, rc, ia, ic, rfl, rfl, rfl, rfl⟩ := hc.slices
  have HW := Lib.hid (show ∀ o1 o2, Grow w ((w.alloc o1).alloc o2) from fun o1 o2 => ((Grow.rfl' w).allocd o1).allocd o2)
  have HBX := Lib.hid (boxes w (.slice na c.nodes.length nc) (.slice ea c.edges.length ec) (.slice ra c.rules.length rc) (.slice ia c.indexes.length ic) c ⟨5, id, typ, from_, to_, name, v, cascade⟩)
  clear h hc hG
  go_enter Tryz.func52, Tryz.ntmps52
  go_wp2_with fail
  refine (acts5 _).mono ?_
  rintro e w2 ⟨rfl, hg⟩
  have HG2 := Lib.hid ((HW.out _ _).step hg)
  obtain ⟨hl1, k0, k1, k2, k3, k4⟩ := (HBX.out.1.grow hg).at
  obtain ⟨hl2, c0, c1, c2, c3, c4, c5, c6, c7, c8, c9⟩ := (HBX.out.2.grow hg).at
  clear hg
  go_wp2_with fail
  refine (maySetProp S SC B G _ _ _ _ c ⟨5, id, typ, from_, to_, name, v, cascade⟩ _ (HGR.out.grow (HG2.out.allocd _)) HI.out (HC.out.grow (HG2.out.allocd _)) rfl).mono ?_
  rintro e w3 ⟨rfl, hg⟩
  have HG3 := Lib.hid ((HG2.out.allocd _).step hg)
  clear hg k0 k1 k2 k3 k4 c0 c1 c2 c3 c4 c5 c6 c7 c8 c9
  go_wp2
  go_ret
  exact ⟨rfl, HG3.out⟩

set_option maxRecDepth 100000 in
set_option maxHeartbeats 1000000 in
theorem may0 (SC : Nat → Prop) (B : Nat) (G : PGraph) (nv ev rv iv : Value) (c : PCat) (o : POp) (w : World) (hc : CatR SC w nv ev rv iv c) (h1 : o.kind ≠ 1) (h2 : o.kind ≠ 2) (h3 : o.kind ≠ 3) (h4 : o.kind ≠ 4) (h5 : o.kind ≠ 5) :
    Calls Tryz.prog 52 #[.pointer (some ⟨B, 0, none⟩), c.arg nv ev rv iv, o.args] w fun e w' => e = .returned (.int .i64 (mayG c o G)) ∧ Grow w w' := by
  have HM := Lib.hid (show mayG c o G = 150 by unfold mayG; rw [if_neg h1, if_neg h2, if_neg h3, if_neg h4, if_neg h5])
  have HA := Lib.hid (fun w => acts0 o.kind w h1 h2 h3 h4 h5)
  obtain ⟨na, nc, ea, ec, ra, rc, ia, ic, rfl, rfl, rfl, rfl⟩ := hc.slices
  have HW := Lib.hid (show ∀ o1 o2, Grow w ((w.alloc o1).alloc o2) from fun o1 o2 => ((Grow.rfl' w).allocd o1).allocd o2)
  clear hc h1 h2 h3 h4 h5
  go_enter Tryz.func52, Tryz.ntmps52
  go_wp2_with fail
  refine (HA.out _).mono ?_
  rintro e w2 ⟨rfl, hg⟩
  have HG2 := Lib.hid ((HW.out _ _).step hg)
  clear hg
  go_wp2
  go_ret
  exact ⟨by rw [HM.out]; rfl, HG2.out.allocd _⟩

theorem graphMay (S SC : Nat → Prop) (B : Nat) (G : PGraph) (nv ev rv iv : Value) (c : PCat) (o : POp) (w : World) (h : GraphOk 98 S w B G) (hG : GInv G) (hc : CatR SC w nv ev rv iv c) :
    Calls Tryz.prog 52 #[.pointer (some ⟨B, 0, none⟩), c.arg nv ev rv iv, o.args] w fun e w' => e = .returned (.int .i64 (mayG c o G)) ∧ Grow w w' := by
  by_cases h1 : o.kind = 1
  · exact may1 S SC B G nv ev rv iv c o w h hG hc h1
  by_cases h2 : o.kind = 2
  · exact may2 S SC B G nv ev rv iv c o w h hG hc h2
  by_cases h3 : o.kind = 3
  · exact may3 S SC B G nv ev rv iv c o w h hG hc h3
  by_cases h4 : o.kind = 4
  · exact may4 S SC B G nv ev rv iv c o w h hG hc h4
  by_cases h5 : o.kind = 5
  · exact may5 S SC B G nv ev rv iv c o w h hG hc h5
  exact may0 SC B G nv ev rv iv c o w hc h1 h2 h3 h4 h5

set_option maxRecDepth 100000 in
set_option maxHeartbeats 1000000 in
theorem graphDoNil (nv ev rv iv : Value) (c : PCat) (o : POp) (SC : Nat → Prop) (w : World) (hc : CatR SC w nv ev rv iv c) :
    Calls Tryz.prog 29 #[.pointer none, c.arg nv ev rv iv, o.args] w fun e w' => e = .returned (.tuple #[.int .i64 0, .int .i64 1]) ∧ Grow w w' := by
  have HC := Lib.hid hc
  obtain ⟨na, nc, ea, ec, ra, rc, ia, ic, rfl, rfl, rfl, rfl⟩ := hc.slices
  have HW := Lib.hid (show ∀ o1 o2, Grow w ((w.alloc o1).alloc o2) from fun o1 o2 => ((Grow.rfl' w).allocd o1).allocd o2)
  clear hc
  go_enter Tryz.func29, Tryz.ntmps29
  go_wp2_with fail
  refine (graphMayNil _ _ _ _ c o SC _ (HC.out.grow (HW.out _ _))).mono ?_
  rintro e w2 ⟨rfl, hg⟩
  have HG2 := Lib.hid ((HW.out _ _).step hg)
  clear hg
  go_wp2
  go_ret2
  exact ⟨rfl, HG2.out⟩

/-- what Do leaves -/
def DoPost (S : Nat → Prop) (B : Nat) (G : PGraph) (c : PCat) (o : POp) (w : World) (e : Ending) (w' : World) : Prop :=
  e = .returned (.tuple #[.int .i64 (if mayG c o G = 0 then idG o G else 0), .int .i64 (mayG c o G)]) ∧ GraphOk 98 (fun b => S b ∨ w.heap.size ≤ b) w' B (stepG c o G) ∧ Mod S w w'

set_option maxRecDepth 100000 in
set_option maxHeartbeats 1000000 in
theorem doNo (S SC : Nat → Prop) (B : Nat) (G : PGraph) (nv ev rv iv : Value) (c : PCat) (o : POp) (w : World) (h : GraphOk 98 S w B G) (hG : GInv G) (hc : CatR SC w nv ev rv iv c) (hm : ¬ mayG c o G = 0) :
    Calls Tryz.prog 29 #[.pointer (some ⟨B, 0, none⟩), c.arg nv ev rv iv, o.args] w (DoPost S B G c o w) := by
  have HGR := Lib.hid h; have HI := Lib.hid hG; have HC := Lib.hid hc; have HM := Lib.hid hm
  obtain ⟨na, nc, ea, ec, ra, rc, ia, ic, rfl, rfl, rfl, rfl⟩ := hc.slices
  have HW := Lib.hid (show ∀ o1 o2, Grow w ((w.alloc o1).alloc o2) from fun o1 o2 => ((Grow.rfl' w).allocd o1).allocd o2)
  have hmb : (mayG c o G == 0) = false := by simpa using hm
  clear h hc hG
  go_enter Tryz.func29, Tryz.ntmps29
  go_wp2_with fail
  refine (graphMay S SC B G _ _ _ _ c o _ (HGR.out.grow (HW.out _ _)) HI.out (HC.out.grow (HW.out _ _))).mono ?_
  rintro e w2 ⟨rfl, hg⟩
  have HG2 := Lib.hid ((HW.out _ _).step hg)
  clear hg
  go_wp2
  go_ret2
  refine ⟨by rw [if_neg HM.out]; rfl, ?_, Mod.of_grow HG2.out⟩
  unfold stepG
  rw [if_neg HM.out]
  exact (HGR.out.grow HG2.out).sub (fun b hb => .inl hb)

theorem may_full1 {c : PCat} {G : PGraph} {id from_ to_ : Int} {typ name : ByteArray} {v : PVal} {cascade : Bool} (h : mayG c ⟨1, id, typ, from_, to_, name, v, cascade⟩ G = 0) : fullG G = false := by
  unfold mayG at h
  cases hf : fullG G
  · rfl
  · simp only [hf] at h
    simp at h
    split at h <;> simp at h
set_option maxRecDepth 100000 in
set_option maxHeartbeats 1000000 in
theorem do1 (S SC : Nat → Prop) (B : Nat) (G : PGraph) (nv ev rv iv : Value) (c : PCat) (o : POp) (w : World) (h : GraphOk 98 S w B G) (hG : GInv G) (hc : CatR SC w nv ev rv iv c) (hm : mayG c o G = 0) (hk : o.kind = 1) :
    Calls Tryz.prog 29 #[.pointer (some ⟨B, 0, none⟩), c.arg nv ev rv iv, o.args] w (DoPost S B G c o w) := by
  have HGR := Lib.hid h; have HI := Lib.hid hG; have HC := Lib.hid hc
  obtain ⟨kind, id, typ, from_, to_, name, v, cascade⟩ := o
  subst hk
  have HM := Lib.hid hm
  obtain ⟨na, nc, ea, ec, ra, rc, ia, ic, rfl, rfl, rfl, rfl⟩ := hc.slices
  have HW := Lib.hid (show ∀ o1 o2, Grow w ((w.alloc o1).alloc o2) from fun o1 o2 => ((Grow.rfl' w).allocd o1).allocd o2)
  have HBX := Lib.hid (boxes w (.slice na c.nodes.length nc) (.slice ea c.edges.length ec) (.slice ra c.rules.length rc) (.slice ia c.indexes.length ic) c ⟨1, id, typ, from_, to_, name, v, cascade⟩)
  clear h hc hG hm
  go_enter Tryz.func29, Tryz.ntmps29
  go_wp2_with fail
  refine (graphMay S SC B G _ _ _ _ c ⟨1, id, typ, from_, to_, name, v, cascade⟩ _ (HGR.out.grow (HW.out _ _)) HI.out (HC.out.grow (HW.out _ _))).mono ?_
  rintro e w2 ⟨rfl, hg⟩
  rw [HM.out]
  have HG2 := Lib.hid ((HW.out _ _).step hg)
  have HOP2 := Lib.hid (HBX.out.2.grow hg)
  obtain ⟨hl2, c0, -⟩ := HOP2.out.at
  clear hg
  go_wp2_with fail
  refine (acts1 _).mono ?_
  rintro e w3 ⟨rfl, hg⟩
  have HG3 := Lib.hid (HG2.out.step hg)
  clear hl2 c0
  obtain ⟨hl2, c0, c1, c2, c3, c4, c5, c6, c7, c8, c9⟩ := (HOP2.out.grow hg).at
  clear hg
  go_wp2_with fail
  refine (addNode S B G ⟨1, id, typ, from_, to_, name, v, cascade⟩ _ (HGR.out.grow (HG3.out.allocd _)) HI.out (may_full1 HM.out)).mono ?_
  rintro e w4 ⟨rfl, hgr, hmd⟩
  have HGR4 := Lib.hid hgr; have HMD := Lib.hid ((Mod.of_grow (HG3.out.allocd _)).step hmd)
  clear hgr hmd c0 c1 c2 c3 c4 c5 c6 c7 c8 c9
  go_wp2
  go_ret2
  refine ⟨by rw [if_pos HM.out, HM.out]; rfl, ?_, HMD.out⟩
  unfold stepG
  rw [if_pos HM.out]
  exact HGR4.out.sub (fun b hb => hb.imp (fun x => x) (fun h => Nat.le_trans (HG3.out.allocd _).size h))

theorem may_has2 {c : PCat} {G : PGraph} {id from_ to_ : Int} {typ name : ByteArray} {v : PVal} {cascade : Bool} (h : mayG c ⟨2, id, typ, from_, to_, name, v, cascade⟩ G = 0) : hasN G id = true := by
  unfold mayG at h
  cases hf : hasN G id
  · simp [hf] at h
  · rfl
set_option maxRecDepth 100000 in
set_option maxHeartbeats 1000000 in
theorem do2 (S SC : Nat → Prop) (B : Nat) (G : PGraph) (nv ev rv iv : Value) (c : PCat) (o : POp) (w : World) (h : GraphOk 98 S w B G) (hG : GInv G) (hc : CatR SC w nv ev rv iv c) (hm : mayG c o G = 0) (hk : o.kind = 2) :
    Calls Tryz.prog 29 #[.pointer (some ⟨B, 0, none⟩), c.arg nv ev rv iv, o.args] w (DoPost S B G c o w) := by
  have HGR := Lib.hid h; have HI := Lib.hid hG; have HC := Lib.hid hc
  obtain ⟨kind, id, typ, from_, to_, name, v, cascade⟩ := o
  subst hk
  have HM := Lib.hid hm
  obtain ⟨na, nc, ea, ec, ra, rc, ia, ic, rfl, rfl, rfl, rfl⟩ := hc.slices
  have HW := Lib.hid (show ∀ o1 o2, Grow w ((w.alloc o1).alloc o2) from fun o1 o2 => ((Grow.rfl' w).allocd o1).allocd o2)
  have HBX := Lib.hid (boxes w (.slice na c.nodes.length nc) (.slice ea c.edges.length ec) (.slice ra c.rules.length rc) (.slice ia c.indexes.length ic) c ⟨2, id, typ, from_, to_, name, v, cascade⟩)
  clear h hc hG hm
  go_enter Tryz.func29, Tryz.ntmps29
  go_wp2_with fail
  refine (graphMay S SC B G _ _ _ _ c ⟨2, id, typ, from_, to_, name, v, cascade⟩ _ (HGR.out.grow (HW.out _ _)) HI.out (HC.out.grow (HW.out _ _))).mono ?_
  rintro e w2 ⟨rfl, hg⟩
  rw [HM.out]
  have HG2 := Lib.hid ((HW.out _ _).step hg)
  have HOP2 := Lib.hid (HBX.out.2.grow hg)
  obtain ⟨hl2, c0, -⟩ := HOP2.out.at
  clear hg
  go_wp2_with fail
  refine (acts2 _).mono ?_
  rintro e w3 ⟨rfl, hg⟩
  have HG3 := Lib.hid (HG2.out.step hg)
  clear hl2 c0
  obtain ⟨hl2, c0, c1, c2, c3, c4, c5, c6, c7, c8, c9⟩ := (HOP2.out.grow hg).at
  clear hg
  go_wp2_with fail
  refine (dropNode S B G ⟨2, id, typ, from_, to_, name, v, cascade⟩ _ (HGR.out.grow (HG3.out.allocd _)) HI.out (may_has2 HM.out)).mono ?_
  rintro e w4 ⟨rfl, hgr, hmd⟩
  have HGR4 := Lib.hid hgr; have HMD := Lib.hid ((Mod.of_grow (HG3.out.allocd _)).step hmd)
  clear hgr hmd c0 c1 c2 c3 c4 c5 c6 c7 c8 c9
  go_wp2
  go_ret2
  refine ⟨by rw [if_pos HM.out, HM.out]; rfl, ?_, HMD.out⟩
  unfold stepG
  rw [if_pos HM.out]
  exact HGR4.out.sub (fun b hb => .inl hb)

theorem may_full3 {c : PCat} {G : PGraph} {id from_ to_ : Int} {typ name : ByteArray} {v : PVal} {cascade : Bool} (h : mayG c ⟨3, id, typ, from_, to_, name, v, cascade⟩ G = 0) : fullG G = false := by
  unfold mayG at h
  cases hf : fullG G
  · rfl
  · simp only [hf] at h
    simp at h
    repeat (first | (split at h) | (simp at h))
set_option maxRecDepth 100000 in
set_option maxHeartbeats 1000000 in
theorem do3 (S SC : Nat → Prop) (B : Nat) (G : PGraph) (nv ev rv iv : Value) (c : PCat) (o : POp) (w : World) (h : GraphOk 98 S w B G) (hG : GInv G) (hc : CatR SC w nv ev rv iv c) (hm : mayG c o G = 0) (hk : o.kind = 3) :
    Calls Tryz.prog 29 #[.pointer (some ⟨B, 0, none⟩), c.arg nv ev rv iv, o.args] w (DoPost S B G c o w) := by
  have HGR := Lib.hid h; have HI := Lib.hid hG; have HC := Lib.hid hc
  obtain ⟨kind, id, typ, from_, to_, name, v, cascade⟩ := o
  subst hk
  have HM := Lib.hid hm
  obtain ⟨na, nc, ea, ec, ra, rc, ia, ic, rfl, rfl, rfl, rfl⟩ := hc.slices
  have HW := Lib.hid (show ∀ o1 o2, Grow w ((w.alloc o1).alloc o2) from fun o1 o2 => ((Grow.rfl' w).allocd o1).allocd o2)
  have HBX := Lib.hid (boxes w (.slice na c.nodes.length nc) (.slice ea c.edges.length ec) (.slice ra c.rules.length rc) (.slice ia c.indexes.length ic) c ⟨3, id, typ, from_, to_, name, v, cascade⟩)
  clear h hc hG hm
  go_enter Tryz.func29, Tryz.ntmps29
  go_wp2_with fail
  refine (graphMay S SC B G _ _ _ _ c ⟨3, id, typ, from_, to_, name, v, cascade⟩ _ (HGR.out.grow (HW.out _ _)) HI.out (HC.out.grow (HW.out _ _))).mono ?_
  rintro e w2 ⟨rfl, hg⟩
  rw [HM.out]
  have HG2 := Lib.hid ((HW.out _ _).step hg)
  have HOP2 := Lib.hid (HBX.out.2.grow hg)
  obtain ⟨hl2, c0, -⟩ := HOP2.out.at
  clear hg
  go_wp2_with fail
  refine (acts3 _).mono ?_
  rintro e w3 ⟨rfl, hg⟩
  have HG3 := Lib.hid (HG2.out.step hg)
  clear hl2 c0
  obtain ⟨hl2, c0, c1, c2, c3, c4, c5, c6, c7, c8, c9⟩ := (HOP2.out.grow hg).at
  clear hg
  go_wp2_with fail
  refine (addEdge S B G ⟨3, id, typ, from_, to_, name, v, cascade⟩ _ (HGR.out.grow (HG3.out.allocd _)) HI.out (may_full3 HM.out)).mono ?_
  rintro e w4 ⟨rfl, hgr, hmd⟩
  have HGR4 := Lib.hid hgr; have HMD := Lib.hid ((Mod.of_grow (HG3.out.allocd _)).step hmd)
  clear hgr hmd c0 c1 c2 c3 c4 c5 c6 c7 c8 c9
  go_wp2
  go_ret2
  refine ⟨by rw [if_pos HM.out, HM.out]; rfl, ?_, HMD.out⟩
  unfold stepG
  rw [if_pos HM.out]
  exact HGR4.out.sub (fun b hb => hb.imp (fun x => x) (fun h => Nat.le_trans (HG3.out.allocd _).size h))

theorem may_has4 {c : PCat} {G : PGraph} {id from_ to_ : Int} {typ name : ByteArray} {v : PVal} {cascade : Bool} (h : mayG c ⟨4, id, typ, from_, to_, name, v, cascade⟩ G = 0) : hasE G id = true := by
  unfold mayG at h
  cases hf : hasE G id
  · simp [hf] at h
  · rfl
set_option maxRecDepth 100000 in
set_option maxHeartbeats 1000000 in
theorem do4 (S SC : Nat → Prop) (B : Nat) (G : PGraph) (nv ev rv iv : Value) (c : PCat) (o : POp) (w : World) (h : GraphOk 98 S w B G) (hG : GInv G) (hc : CatR SC w nv ev rv iv c) (hm : mayG c o G = 0) (hk : o.kind = 4) :
    Calls Tryz.prog 29 #[.pointer (some ⟨B, 0, none⟩), c.arg nv ev rv iv, o.args] w (DoPost S B G c o w) := by
  have HGR := Lib.hid h; have HI := Lib.hid hG; have HC := Lib.hid hc
  obtain ⟨kind, id, typ, from_, to_, name, v, cascade⟩ := o
  subst hk
  have HM := Lib.hid hm
  obtain ⟨na, nc, ea, ec, ra, rc, ia, ic, rfl, rfl, rfl, rfl⟩ := hc.slices
  have HW := Lib.hid (show ∀ o1 o2, Grow w ((w.alloc o1).alloc o2) from fun o1 o2 => ((Grow.rfl' w).allocd o1).allocd o2)
  have HBX := Lib.hid (boxes w (.slice na c.nodes.length nc) (.slice ea c.edges.length ec) (.slice ra c.rules.length rc) (.slice ia c.indexes.length ic) c ⟨4, id, typ, from_, to_, name, v, cascade⟩)
  clear h hc hG hm
  go_enter Tryz.func29, Tryz.ntmps29
  go_wp2_with fail
  refine (graphMay S SC B G _ _ _ _ c ⟨4, id, typ, from_, to_, name, v, cascade⟩ _ (HGR.out.grow (HW.out _ _)) HI.out (HC.out.grow (HW.out _ _))).mono ?_
  rintro e w2 ⟨rfl, hg⟩
  rw [HM.out]
  have HG2 := Lib.hid ((HW.out _ _).step hg)
  have HOP2 := Lib.hid (HBX.out.2.grow hg)
  obtain ⟨hl2, c0, -⟩ := HOP2.out.at
  clear hg
  go_wp2_with fail
  refine (acts4 _).mono ?_
  rintro e w3 ⟨rfl, hg⟩
  have HG3 := Lib.hid (HG2.out.step hg)
  clear hl2 c0
  obtain ⟨hl2, c0, c1, c2, c3, c4, c5, c6, c7, c8, c9⟩ := (HOP2.out.grow hg).at
  clear hg
  go_wp2_with fail
  refine (dropEdge S B G ⟨4, id, typ, from_, to_, name, v, cascade⟩ _ (HGR.out.grow (HG3.out.allocd _)) HI.out (may_has4 HM.out)).mono ?_
  rintro e w4 ⟨rfl, hgr, hmd⟩
  have HGR4 := Lib.hid hgr; have HMD := Lib.hid ((Mod.of_grow (HG3.out.allocd _)).step hmd)
  clear hgr hmd c0 c1 c2 c3 c4 c5 c6 c7 c8 c9
  go_wp2
  go_ret2
  refine ⟨by rw [if_pos HM.out, HM.out]; rfl, ?_, HMD.out⟩
  unfold stepG
  rw [if_pos HM.out]
  exact HGR4.out.sub (fun b hb => .inl hb)

theorem may_find5 {c : PCat} {G : PGraph} {id from_ to_ : Int} {typ name : ByteArray} {v : PVal} {cascade : Bool} (h : mayG c ⟨5, id, typ, from_, to_, name, v, cascade⟩ G = 0) : ∃ ps, findP G id = some ps := by
  unfold mayG at h
  cases hf : findP G id
  · simp [hf] at h
    split at h <;> simp at h
  · exact ⟨_, rfl⟩
set_option maxRecDepth 100000 in
set_option maxHeartbeats 1000000 in
theorem do5 (S SC : Nat → Prop) (B : Nat) (G : PGraph) (nv ev rv iv : Value) (c : PCat) (o : POp) (w : World) (h : GraphOk 98 S w B G) (hG : GInv G) (hc : CatR SC w nv ev rv iv c) (hm : mayG c o G = 0) (hk : o.kind = 5) :
    Calls Tryz.prog 29 #[.pointer (some ⟨B, 0, none⟩), c.arg nv ev rv iv, o.args] w (DoPost S B G c o w) := by
  have HGR := Lib.hid h; have HI := Lib.hid hG; have HC := Lib.hid hc
  obtain ⟨kind, id, typ, from_, to_, name, v, cascade⟩ := o
  subst hk
  have HM := Lib.hid hm
  obtain ⟨ps, hps⟩ := may_find5 hm
  have HPS := Lib.hid hps; clear hps
  obtain ⟨na, nc, ea, ec, ra, rc, ia, ic, rfl, rfl, rfl, rfl⟩ := hc.slices
  have HW := Lib.hid (show ∀ o1 o2, Grow w ((w.alloc o1).alloc o2) from fun o1 o2 => ((Grow.rfl' w).allocd o1).allocd o2)
  have HBX := Lib.hid (boxes w (.slice na c.nodes.length nc) (.slice ea c.edges.length ec) (.slice ra c.rules.length rc) (.slice ia c.indexes.length ic) c ⟨5, id, typ, from_, to_, name, v, cascade⟩)
  clear h hc hG hm
  go_enter Tryz.func29, Tryz.ntmps29
  go_wp2_with fail
  refine (graphMay S SC B G _ _ _ _ c ⟨5, id, typ, from_, to_, name, v, cascade⟩ _ (HGR.out.grow (HW.out _ _)) HI.out (HC.out.grow (HW.out _ _))).mono ?_
  rintro e w2 ⟨rfl, hg⟩
  rw [HM.out]
  have HG2 := Lib.hid ((HW.out _ _).step hg)
  have HOP2 := Lib.hid (HBX.out.2.grow hg)
  obtain ⟨hl2, c0, -⟩ := HOP2.out.at
  clear hg
  go_wp2_with fail
  refine (acts5 _).mono ?_
  rintro e w3 ⟨rfl, hg⟩
  have HG3 := Lib.hid (HG2.out.step hg)
  clear hl2 c0
  obtain ⟨hl2, c0, c1, c2, c3, c4, c5, c6, c7, c8, c9⟩ := (HOP2.out.grow hg).at
  clear hg
  go_wp2_with fail
  refine (setProp S B G ⟨5, id, typ, from_, to_, name, v, cascade⟩ ps _ (HGR.out.grow (HG3.out.allocd _)) HI.out HPS.out).mono ?_
  rintro e w4 ⟨rfl, hgr, hmd⟩
  have HGR4 := Lib.hid hgr; have HMD := Lib.hid ((Mod.of_grow (HG3.out.allocd _)).step hmd)
  clear hgr hmd c0 c1 c2 c3 c4 c5 c6 c7 c8 c9
  go_wp2
  go_ret2
  refine ⟨by rw [if_pos HM.out, HM.out]; rfl, ?_, HMD.out⟩
  unfold stepG
  rw [if_pos HM.out]
  exact HGR4.out.sub (fun b hb => hb.imp (fun x => x) (fun h => Nat.le_trans (HG3.out.allocd _).size h))

theorem may_kind {c : PCat} {o : POp} {G : PGraph} (h : mayG c o G = 0) : o.kind = 1 ∨ o.kind = 2 ∨ o.kind = 3 ∨ o.kind = 4 ∨ o.kind = 5 := by
  by_cases h1 : o.kind = 1
  · exact .inl h1
  by_cases h2 : o.kind = 2
  · exact .inr (.inl h2)
  by_cases h3 : o.kind = 3
  · exact .inr (.inr (.inl h3))
  by_cases h4 : o.kind = 4
  · exact .inr (.inr (.inr (.inl h4)))
  by_cases h5 : o.kind = 5
  · exact .inr (.inr (.inr (.inr h5)))
  unfold mayG at h
  rw [if_neg h1, if_neg h2, if_neg h3, if_neg h4, if_neg h5] at h
  simp at h
theorem graphDo (S SC : Nat → Prop) (B : Nat) (G : PGraph) (nv ev rv iv : Value) (c : PCat) (o : POp) (w : World) (h : GraphOk 98 S w B G) (hG : GInv G) (hc : CatR SC w nv ev rv iv c) :
    Calls Tryz.prog 29 #[.pointer (some ⟨B, 0, none⟩), c.arg nv ev rv iv, o.args] w (DoPost S B G c o w) := by
  by_cases hm : mayG c o G = 0
  · rcases may_kind hm with hk | hk | hk | hk | hk
    · exact do1 S SC B G nv ev rv iv c o w h hG hc hm hk
    · exact do2 S SC B G nv ev rv iv c o w h hG hc hm hk
    · exact do3 S SC B G nv ev rv iv c o w h hG hc hm hk
    · exact do4 S SC B G nv ev rv iv c o w h hG hc hm hk
    · exact do5 S SC B G nv ev rv iv c o w h hG hc hm hk
  · exact doNo S SC B G nv ev rv iv c o w h hG hc hm
end Go.Hg

namespace Go.Hg
open Go.RowKit Go.Proofs

theorem mayG_1 {c : PCat} {o : POp} {G : PGraph} (h : o.kind = 1) : mayG c o G = if memS o.typ c.nodes = false then 140 else if fullG G = true then 50 else 0 := by unfold mayG; rw [if_pos h]
theorem mayG_2 {c : PCat} {o : POp} {G : PGraph} (h : o.kind = 2) : mayG c o G = if hasN G o.id = false then 60 else if o.cascade = false ∧ (G.edges.any fun x => atE x o.id) = true then 160 else 0 := by
  unfold mayG; rw [if_neg (by omega), if_pos h]
theorem mayG_3 {c : PCat} {o : POp} {G : PGraph} (h : o.kind = 3) : mayG c o G = if memS o.typ c.edges = false then 140 else if hasN G o.from_ = false ∨ hasN G o.to_ = false then 141 else if fullG G = true then 50 else 0 := by
  unfold mayG; rw [if_neg (by omega), if_neg (by omega), if_pos h]
theorem mayG_4 {c : PCat} {o : POp} {G : PGraph} (h : o.kind = 4) : mayG c o G = if hasE G o.id = false then 60 else 0 := by
  unfold mayG; rw [if_neg (by omega), if_neg (by omega), if_neg (by omega), if_pos h]
theorem mayG_5b {c : PCat} {o : POp} {G : PGraph} (h : o.kind = 5) (hn : ¬ NameOk o.name ∨ (¬ GoodV o.v ∧ ¬ BlankV o.v)) : mayG c o G = 142 := by
  unfold mayG; rw [if_neg (by omega), if_neg (by omega), if_neg (by omega), if_neg (by omega), if_pos h, if_pos hn]
theorem mayG_5n {c : PCat} {o : POp} {G : PGraph} (h : o.kind = 5) (hn : ¬ (¬ NameOk o.name ∨ (¬ GoodV o.v ∧ ¬ BlankV o.v))) (hf : findP G o.id = none) : mayG c o G = 60 := by
  unfold mayG; rw [if_neg (by omega), if_neg (by omega), if_neg (by omega), if_neg (by omega), if_pos h, if_neg hn, hf]
theorem mayG_5s {c : PCat} {o : POp} {G : PGraph} {ps : List PProp} (h : o.kind = 5) (hn : ¬ (¬ NameOk o.name ∨ (¬ GoodV o.v ∧ ¬ BlankV o.v))) (hf : findP G o.id = some ps) : mayG c o G = if 8 < (setP ps o.name o.v).length then 3 else 0 := by
  unfold mayG; rw [if_neg (by omega), if_neg (by omega), if_neg (by omega), if_neg (by omega), if_pos h, if_neg hn, hf]
theorem mayG_0 {c : PCat} {o : POp} {G : PGraph} (h1 : o.kind ≠ 1) (h2 : o.kind ≠ 2) (h3 : o.kind ≠ 3) (h4 : o.kind ≠ 4) (h5 : o.kind ≠ 5) : mayG c o G = 150 := by
  unfold mayG; rw [if_neg h1, if_neg h2, if_neg h3, if_neg h4, if_neg h5]
theorem atG_pos (G : PGraph) (id : Int) : decide (0 < ((atG G id).length : Int)) = G.edges.any fun x => atE x id := by
  unfold atG
  rw [List.length_map]
  cases h : G.edges.any fun x => atE x id
  · rw [List.filter_eq_nil_iff.2 (fun x hx => by have := List.any_eq_false.1 h x hx; exact this)]; rfl
  · obtain ⟨x, hx, hp⟩ := List.any_eq_true.1 h
    have : x ∈ G.edges.filter fun x => atE x id := List.mem_filter.2 ⟨hx, hp⟩
    exact decide_eq_true (by have := List.length_pos_of_mem this; omega)
set_option maxRecDepth 100000 in
set_option maxHeartbeats 4000000 in
theorem rmay1 (S SC : Nat → Prop) (B : Nat) (G : PGraph) (nv ev rv iv : Value) (c : PCat) (o : POp) (w : World) (h : GraphRd 89 S w B G) (hG : GInv G) (hc : CatR SC w nv ev rv iv c) (hk : o.kind = 1) :
    Calls Tryz.prog 54 #[.pointer (some ⟨B, 0, none⟩), c.arg nv ev rv iv, o.args] w fun e w' => e = .returned (.int .i64 (mayG c o G)) ∧ Grow w w' := by
  have HGR := Lib.hid h; have HI := Lib.hid hG; have HC := Lib.hid hc
  have HM := Lib.hid (mayG_1 (c := c) (G := G) hk)
  obtain ⟨kind, id, typ, from_, to_, name, v, cascade⟩ := o
  subst hk
  obtain ⟨na, nc, ea, ec, ra, rc, ia, ic, rfl, rfl, rfl, rfl⟩ := hc.slices
  have HW := Lib.hid (show ∀ o1 o2, Grow w ((w.alloc o1).alloc o2) from fun o1 o2 => ((Grow.rfl' w).allocd o1).allocd o2)
  have HBX := Lib.hid (boxes w (.slice na c.nodes.length nc) (.slice ea c.edges.length ec) (.slice ra c.rules.length rc) (.slice ia c.indexes.length ic) c ⟨1, id, typ, from_, to_, name, v, cascade⟩)
  obtain ⟨gna, gnc, gea, gec, hB, g0, g1, g2, -, -⟩ := h.read
  have hB2 : B < w.heap.size + 1 + 1 := by omega
  have HLN := Lib.hid hG.items
  have hwr : IntKind.i64.wrap ((G.nodes.length : Int) + (G.edges.length : Int)) = (G.nodes.length : Int) + (G.edges.length : Int) := by have := hG.items; rw [IntKind.wrap_i64]; omega
  clear h hc hG
  go_enter Tryz.func54, Tryz.ntmps54
  obtain ⟨f, hfd⟩ : ∃ f, f = fullG G := ⟨_, rfl⟩
  have HF := Lib.hid hfd
  by_cases hs : 1024 ≤ G.nodes.length + G.edges.length
  case' pos =>
    have hd : decide (1024 ≤ (G.nodes.length : Int) + (G.edges.length : Int)) = true := decide_eq_true (by omega)
    obtain rfl : f = true := by rw [hfd]; unfold fullG; rw [decide_eq_true hs]; rfl
  case' neg =>
    have hd : decide (1024 ≤ (G.nodes.length : Int) + (G.edges.length : Int)) = false := decide_eq_false (by omega)
    have hf2 : decide (4611686018427387903 < G.next) = f := by rw [hfd]; unfold fullG; rw [decide_eq_false hs]; rfl
  all_goals
    clear hs hfd
    go_wp2_with fail
    refine wp_region_grow (by kernel_rfl) (by kernel_rfl) ?_
    repeat (go_big_quiet_step (fail))
    refine wpQuiet_nil ?_
    intro w2 hg2
    have HG2 := Lib.hid ((HW.out _ _).step hg2); have HA2 := Lib.hid hg2
    obtain ⟨hl1, k0, k1, k2, k3, k4⟩ := (HBX.out.1.grow hg2).at
    obtain ⟨hl2, c0, c1, c2, c3, c4, c5, c6, c7, c8, c9⟩ := (HBX.out.2.grow hg2).at
    clear hg2 g0 g1 g2 hB hB2 hd
    try clear hf2
    go_wp2_with fail
    refine (refHas SC _ _ _ _ c 1 typ _ (HC.out.grow (HG2.out))).mono ?_
    rintro e w3 ⟨rfl, hg⟩
    have HG3 := Lib.hid (HG2.out.step hg); clear hg
    cases ht : memS typ (c.typesOf 1)
    · have HX := Lib.hid (show mayG c ⟨1, id, typ, from_, to_, name, v, cascade⟩ G = 140 by rw [HM.out, if_pos (show memS typ c.nodes = false from ht)]); clear ht
      go_wp2
      go_ret
      exact ⟨by rw [HX.out]; rfl, HG3.out⟩
    · have HFX := Lib.hid (show ∀ b, fullG G = b → mayG c ⟨1, id, typ, from_, to_, name, v, cascade⟩ G = if b = true then 50 else 0 from fun b hb => by rw [HM.out, if_neg (by rw [show memS typ c.nodes = true from ht]; simp), hb]); clear ht
      first
      | (cases f
         · have HX := Lib.hid (HFX.out false HF.out.symm)
           go_wp2
           go_ret
           exact ⟨by rw [HX.out]; rfl, HG3.out⟩
         · have HX := Lib.hid (HFX.out true HF.out.symm)
           go_wp2
           go_ret
           exact ⟨by rw [HX.out]; rfl, HG3.out⟩)
      | (have HX := Lib.hid (HFX.out true HF.out.symm)
         go_wp2
         go_ret
         exact ⟨by rw [HX.out]; rfl, HG3.out⟩)

set_option maxRecDepth 100000 in
set_option maxHeartbeats 4000000 in
theorem rmay2 (S SC : Nat → Prop) (B : Nat) (G : PGraph) (nv ev rv iv : Value) (c : PCat) (o : POp) (w : World) (h : GraphRd 89 S w B G) (hG : GInv G) (hc : CatR SC w nv ev rv iv c) (hk : o.kind = 2) :
    Calls Tryz.prog 54 #[.pointer (some ⟨B, 0, none⟩), c.arg nv ev rv iv, o.args] w fun e w' => e = .returned (.int .i64 (mayG c o G)) ∧ Grow w w' := by
  have HGR := Lib.hid h; have HI := Lib.hid hG; have HC := Lib.hid hc
  have HM := Lib.hid (mayG_2 (c := c) (G := G) hk)
  obtain ⟨kind, id, typ, from_, to_, name, v, cascade⟩ := o
  subst hk
  obtain ⟨na, nc, ea, ec, ra, rc, ia, ic, rfl, rfl, rfl, rfl⟩ := hc.slices
  have HW := Lib.hid (show ∀ o1 o2, Grow w ((w.alloc o1).alloc o2) from fun o1 o2 => ((Grow.rfl' w).allocd o1).allocd o2)
  have HBX := Lib.hid (boxes w (.slice na c.nodes.length nc) (.slice ea c.edges.length ec) (.slice ra c.rules.length rc) (.slice ia c.indexes.length ic) c ⟨2, id, typ, from_, to_, name, v, cascade⟩)
  obtain ⟨gna, gnc, gea, gec, hB, g0, g1, g2, -, -⟩ := h.read
  have hB2 : B < w.heap.size + 1 + 1 := by omega
  have HLN := Lib.hid hG.items
  have hwr : IntKind.i64.wrap ((G.nodes.length : Int) + (G.edges.length : Int)) = (G.nodes.length : Int) + (G.edges.length : Int) := by have := hG.items; rw [IntKind.wrap_i64]; omega
  clear h hc hG
  go_enter Tryz.func54, Tryz.ntmps54
  obtain ⟨f, hfd⟩ : ∃ f, f = fullG G := ⟨_, rfl⟩
  have HF := Lib.hid hfd
  by_cases hs : 1024 ≤ G.nodes.length + G.edges.length
  case' pos =>
    have hd : decide (1024 ≤ (G.nodes.length : Int) + (G.edges.length : Int)) = true := decide_eq_true (by omega)
    obtain rfl : f = true := by rw [hfd]; unfold fullG; rw [decide_eq_true hs]; rfl
  case' neg =>
    have hd : decide (1024 ≤ (G.nodes.length : Int) + (G.edges.length : Int)) = false := decide_eq_false (by omega)
    have hf2 : decide (4611686018427387903 < G.next) = f := by rw [hfd]; unfold fullG; rw [decide_eq_false hs]; rfl
  all_goals
    clear hs hfd
    go_wp2_with fail
    refine wp_region_grow (by kernel_rfl) (by kernel_rfl) ?_
    repeat (go_big_quiet_step (fail))
    refine wpQuiet_nil ?_
    intro w2 hg2
    have HG2 := Lib.hid ((HW.out _ _).step hg2); have HA2 := Lib.hid hg2
    obtain ⟨hl1, k0, k1, k2, k3, k4⟩ := (HBX.out.1.grow hg2).at
    obtain ⟨hl2, c0, c1, c2, c3, c4, c5, c6, c7, c8, c9⟩ := (HBX.out.2.grow hg2).at
    clear hg2 g0 g1 g2 hB hB2 hd
    try clear hf2
    go_wp2_with fail
    refine (refNode S B G id _ (HGR.out.grow HG2.out)).mono ?_
    rintro e w3 ⟨rfl, rfl⟩
    cases hN : hasN G id
    · have HX := Lib.hid (show mayG c ⟨2, id, typ, from_, to_, name, v, cascade⟩ G = 60 by rw [HM.out, if_pos hN])
      rw [idxZ_none (f := fun x : PNode => x.id) hN]
      clear hN
      go_wp2
      go_ret
      exact ⟨by rw [HX.out]; rfl, HG2.out⟩
    · have HNN := Lib.hid hN
      obtain ⟨k, x, hz, hkl, hx, hid⟩ := idxZ_some (f := fun x : PNode => x.id) hN
      rw [hz]
      have hk0 : decide ((k : Int) < 0) = false := decide_eq_false (by omega)
      clear hN hz hkl hx hid
      go_wp2_with fail
      refine (refAt S B G id _ (HGR.out.grow HG2.out) (by have := HLN.out; omega)).mono ?_
      rintro e w4 ⟨v4, ob4, rfl, ho4, -, hg4⟩
      have HG4 := Lib.hid (HG2.out.step hg4)
      obtain ⟨o4, co4, rfl, -, -⟩ := ho4.isSlice
      obtain ⟨hl2', d0, d1, d2, d3, d4, d5, d6, d7, d8, d9⟩ := ((HBX.out.2.grow HA2.out).grow hg4).at
      have hpos := atG_pos G id
      have hposN : decide (0 < (atG G id).length) = G.edges.any fun x => atE x id := by rw [← hpos]; simp
      clear ho4 hg4 c0 c1 c2 c3 c4 c5 c6 c7 c8 c9
      cases ha : G.edges.any fun x => atE x id
      · rw [ha] at hpos hposN
        have HX := Lib.hid (show mayG c ⟨2, id, typ, from_, to_, name, v, cascade⟩ G = 0 by rw [HM.out, if_neg (by rw [HNN.out]; simp), if_neg (by rintro ⟨-, h⟩; rw [show (G.edges.any fun x => atE x id) = false from ha] at h; cases h)]); clear ha
        go_wp2
        go_ret
        exact ⟨by rw [HX.out]; rfl, HG4.out⟩
      · rw [ha] at hpos hposN
        cases hcs : cascade
        · subst hcs
          have HX := Lib.hid (show mayG c ⟨2, id, typ, from_, to_, name, v, false⟩ G = 160 by rw [HM.out, if_neg (by rw [HNN.out]; simp), if_pos ⟨rfl, ha⟩]); clear ha
          go_wp2
          go_ret
          exact ⟨by rw [HX.out]; rfl, HG4.out⟩
        · subst hcs
          have HX := Lib.hid (show mayG c ⟨2, id, typ, from_, to_, name, v, true⟩ G = 0 by rw [HM.out, if_neg (by rw [HNN.out]; simp), if_neg (by simp)]); clear ha
          go_wp2
          go_ret
          exact ⟨by rw [HX.out]; rfl, HG4.out⟩

set_option maxRecDepth 100000 in
set_option maxHeartbeats 4000000 in
theorem rmay3 (S SC : Nat → Prop) (B : Nat) (G : PGraph) (nv ev rv iv : Value) (c : PCat) (o : POp) (w : World) (h : GraphRd 89 S w B G) (hG : GInv G) (hc : CatR SC w nv ev rv iv c) (hk : o.kind = 3) :
    Calls Tryz.prog 54 #[.pointer (some ⟨B, 0, none⟩), c.arg nv ev rv iv, o.args] w fun e w' => e = .returned (.int .i64 (mayG c o G)) ∧ Grow w w' := by
  have HGR := Lib.hid h; have HI := Lib.hid hG; have HC := Lib.hid hc
  have HM := Lib.hid (mayG_3 (c := c) (G := G) hk)
  obtain ⟨kind, id, typ, from_, to_, name, v, cascade⟩ := o
  subst hk
  obtain ⟨na, nc, ea, ec, ra, rc, ia, ic, rfl, rfl, rfl, rfl⟩ := hc.slices
  have HW := Lib.hid (show ∀ o1 o2, Grow w ((w.alloc o1).alloc o2) from fun o1 o2 => ((Grow.rfl' w).allocd o1).allocd o2)
  have HBX := Lib.hid (boxes w (.slice na c.nodes.length nc) (.slice ea c.edges.length ec) (.slice ra c.rules.length rc) (.slice ia c.indexes.length ic) c ⟨3, id, typ, from_, to_, name, v, cascade⟩)
  obtain ⟨gna, gnc, gea, gec, hB, g0, g1, g2, -, -⟩ := h.read
  have hB2 : B < w.heap.size + 1 + 1 := by omega
  have HLN := Lib.hid hG.items
  have hwr : IntKind.i64.wrap ((G.nodes.length : Int) + (G.edges.length : Int)) = (G.nodes.length : Int) + (G.edges.length : Int) := by have := hG.items; rw [IntKind.wrap_i64]; omega
  clear h hc hG
  go_enter Tryz.func54, Tryz.ntmps54
  obtain ⟨f, hfd⟩ : ∃ f, f = fullG G := ⟨_, rfl⟩
  have HF := Lib.hid hfd
  by_cases hs : 1024 ≤ G.nodes.length + G.edges.length
  case' pos =>
    have hd : decide (1024 ≤ (G.nodes.length : Int) + (G.edges.length : Int)) = true := decide_eq_true (by omega)
    obtain rfl : f = true := by rw [hfd]; unfold fullG; rw [decide_eq_true hs]; rfl
  case' neg =>
    have hd : decide (1024 ≤ (G.nodes.length : Int) + (G.edges.length : Int)) = false := decide_eq_false (by omega)
    have hf2 : decide (4611686018427387903 < G.next) = f := by rw [hfd]; unfold fullG; rw [decide_eq_false hs]; rfl
  all_goals
    clear hs hfd
    go_wp2_with fail
    refine wp_region_grow (by kernel_rfl) (by kernel_rfl) ?_
    repeat (go_big_quiet_step (fail))
    refine wpQuiet_nil ?_
    intro w2 hg2
    have HG2 := Lib.hid ((HW.out _ _).step hg2); have HA2 := Lib.hid hg2
    obtain ⟨hl1, k0, k1, k2, k3, k4⟩ := (HBX.out.1.grow hg2).at
    obtain ⟨hl2, c0, c1, c2, c3, c4, c5, c6, c7, c8, c9⟩ := (HBX.out.2.grow hg2).at
    clear hg2 g0 g1 g2 hB hB2 hd
    try clear hf2
    go_wp2_with fail
    refine (refHas SC _ _ _ _ c 2 typ _ (HC.out.grow (HG2.out))).mono ?_
    rintro e w3 ⟨rfl, hg⟩
    have HG3 := Lib.hid (HG2.out.step hg); have HA3 := Lib.hid hg
    obtain ⟨hl2', d0, d1, d2, d3, d4, d5, d6, d7, d8, d9⟩ := ((HBX.out.2.grow HA2.out).grow hg).at
    clear hg c0 c1 c2 c3 c4 c5 c6 c7 c8 c9
    cases ht : memS typ (c.typesOf 2)
    · have HX := Lib.hid (show mayG c ⟨3, id, typ, from_, to_, name, v, cascade⟩ G = 140 by rw [HM.out, if_pos (show memS typ c.edges = false from ht)]); clear ht
      go_wp2
      go_ret
      exact ⟨by rw [HX.out]; rfl, HG3.out⟩
    · have HT := Lib.hid (show memS typ c.edges = true from ht); clear ht
      go_wp2_with fail
      refine (refNode S B G from_ _ (HGR.out.grow HG3.out)).mono ?_
      rintro e w4 ⟨rfl, rfl⟩
      cases hN : hasN G from_
      · have HX := Lib.hid (show mayG c ⟨3, id, typ, from_, to_, name, v, cascade⟩ G = 141 by rw [HM.out, if_neg (by rw [HT.out]; simp), if_pos (.inl hN)])
        rw [idxZ_none (f := fun x : PNode => x.id) hN]
        clear hN
        go_wp2
        go_ret
        exact ⟨by rw [HX.out]; rfl, HG3.out⟩
      · have HNN := Lib.hid hN
        obtain ⟨k, x, hz, hkl, hx, hid⟩ := idxZ_some (f := fun x : PNode => x.id) hN
        rw [hz]
        have hk0 : decide ((k : Int) < 0) = false := decide_eq_false (by omega)
        clear hN hz hkl hx hid
        go_wp2_with fail
        refine (refNode S B G to_ _ (HGR.out.grow HG3.out)).mono ?_
        rintro e w4 ⟨rfl, rfl⟩
        cases hN : hasN G to_
        · have HX := Lib.hid (show mayG c ⟨3, id, typ, from_, to_, name, v, cascade⟩ G = 141 by rw [HM.out, if_neg (by rw [HT.out]; simp), if_pos (.inr hN)])
          rw [idxZ_none (f := fun x : PNode => x.id) hN]
          clear hN
          go_wp2
          go_ret
          exact ⟨by rw [HX.out]; rfl, HG3.out⟩
        · have HFX := Lib.hid (show ∀ b, fullG G = b → mayG c ⟨3, id, typ, from_, to_, name, v, cascade⟩ G = if b = true then 50 else 0 from fun b hb => by rw [HM.out, if_neg (by rw [HT.out]; simp), if_neg (by rw [HNN.out, hN]; simp), hb])
          obtain ⟨k', x', hz, hkl, hx, hid⟩ := idxZ_some (f := fun x : PNode => x.id) hN
          rw [hz]
          have hk0' : decide ((k' : Int) < 0) = false := decide_eq_false (by omega)
          clear hN hz hkl hx hid
          first
          | (cases f
             · have HX := Lib.hid (HFX.out false HF.out.symm)
               go_wp2
               go_ret
               exact ⟨by rw [HX.out]; rfl, HG3.out⟩
             · have HX := Lib.hid (HFX.out true HF.out.symm)
               go_wp2
               go_ret
               exact ⟨by rw [HX.out]; rfl, HG3.out⟩)
          | (have HX := Lib.hid (HFX.out true HF.out.symm)
             go_wp2
             go_ret
             exact ⟨by rw [HX.out]; rfl, HG3.out⟩)

set_option maxRecDepth 100000 in
set_option maxHeartbeats 4000000 in
theorem rmay4 (S SC : Nat → Prop) (B : Nat) (G : PGraph) (nv ev rv iv : Value) (c : PCat) (o : POp) (w : World) (h : GraphRd 89 S w B G) (hG : GInv G) (hc : CatR SC w nv ev rv iv c) (hk : o.kind = 4) :
    Calls Tryz.prog 54 #[.pointer (some ⟨B, 0, none⟩), c.arg nv ev rv iv, o.args] w fun e w' => e = .returned (.int .i64 (mayG c o G)) ∧ Grow w w' := by
  have HGR := Lib.hid h; have HI := Lib.hid hG; have HC := Lib.hid hc
  have HM := Lib.hid (mayG_4 (c := c) (G := G) hk)
  obtain ⟨kind, id, typ, from_, to_, name, v, cascade⟩ := o
  subst hk
  obtain ⟨na, nc, ea, ec, ra, rc, ia, ic, rfl, rfl, rfl, rfl⟩ := hc.slices
  have HW := Lib.hid (show ∀ o1 o2, Grow w ((w.alloc o1).alloc o2) from fun o1 o2 => ((Grow.rfl' w).allocd o1).allocd o2)
  have HBX := Lib.hid (boxes w (.slice na c.nodes.length nc) (.slice ea c.edges.length ec) (.slice ra c.rules.length rc) (.slice ia c.indexes.length ic) c ⟨4, id, typ, from_, to_, name, v, cascade⟩)
  obtain ⟨gna, gnc, gea, gec, hB, g0, g1, g2, -, -⟩ := h.read
  have hB2 : B < w.heap.size + 1 + 1 := by omega
  have HLN := Lib.hid hG.items
  have hwr : IntKind.i64.wrap ((G.nodes.length : Int) + (G.edges.length : Int)) = (G.nodes.length : Int) + (G.edges.length : Int) := by have := hG.items; rw [IntKind.wrap_i64]; omega
  clear h hc hG
  go_enter Tryz.func54, Tryz.ntmps54
  obtain ⟨f, hfd⟩ : ∃ f, f = fullG G := ⟨_, rfl⟩
  have HF := Lib.hid hfd
  by_cases hs : 1024 ≤ G.nodes.length + G.edges.length
  case' pos =>
    have hd : decide (1024 ≤ (G.nodes.length : Int) + (G.edges.length : Int)) = true := decide_eq_true (by omega)
    obtain rfl : f = true := by rw [hfd]; unfold fullG; rw [decide_eq_true hs]; rfl
  case' neg =>
    have hd : decide (1024 ≤ (G.nodes.length : Int) + (G.edges.length : Int)) = false := decide_eq_false (by omega)
    have hf2 : decide (4611686018427387903 < G.next) = f := by rw [hfd]; unfold fullG; rw [decide_eq_false hs]; rfl
  all_goals
    clear hs hfd
    go_wp2_with fail
    refine wp_region_grow (by kernel_rfl) (by kernel_rfl) ?_
    repeat (go_big_quiet_step (fail))
    refine wpQuiet_nil ?_
    intro w2 hg2
    have HG2 := Lib.hid ((HW.out _ _).step hg2); have HA2 := Lib.hid hg2
    obtain ⟨hl1, k0, k1, k2, k3, k4⟩ := (HBX.out.1.grow hg2).at
    obtain ⟨hl2, c0, c1, c2, c3, c4, c5, c6, c7, c8, c9⟩ := (HBX.out.2.grow hg2).at
    clear hg2 g0 g1 g2 hB hB2 hd
    try clear hf2
    go_wp2_with fail
    refine (refEdge S B G id _ (HGR.out.grow HG2.out)).mono ?_
    rintro e w3 ⟨rfl, rfl⟩
    cases hN : hasE G id
    · have HX := Lib.hid (show mayG c ⟨4, id, typ, from_, to_, name, v, cascade⟩ G = 60 by rw [HM.out, if_pos hN])
      rw [idxZ_none (f := fun x : PEdge => x.id) hN]
      clear hN
      go_wp2
      go_ret
      exact ⟨by rw [HX.out]; rfl, HG2.out⟩
    · have HX := Lib.hid (show mayG c ⟨4, id, typ, from_, to_, name, v, cascade⟩ G = 0 by rw [HM.out, if_neg (by rw [show hasE G id = true from hN]; simp)])
      obtain ⟨k, x, hz, hkl, hx, hid⟩ := idxZ_some (f := fun x : PEdge => x.id) hN
      rw [hz]
      have hk0 : decide ((k : Int) < 0) = false := decide_eq_false (by omega)
      clear hN hz hkl hx hid
      go_wp2
      go_ret
      exact ⟨by rw [HX.out]; rfl, HG2.out⟩

theorem findP_len {G : PGraph} {id : Int} {ps : List PProp} (hG : GInv G) (h : findP G id = some ps) : ps.length ≤ 8 := by
  unfold findP at h
  cases hn : G.nodes.find? fun x => decide (x.id = id) with
  | some x => rw [hn] at h; simp only [Option.some.injEq] at h; subst h; exact (hG.nodesB x (List.mem_of_find?_eq_some hn)).2.2
  | none =>
    rw [hn] at h
    cases he : G.edges.find? fun x => decide (x.id = id) with
    | some x => rw [he] at h; simp only [Option.some.injEq] at h; subst h; exact (hG.edgesB x (List.mem_of_find?_eq_some he)).2.2
    | none => rw [he] at h; simp at h
set_option maxRecDepth 100000 in
set_option maxHeartbeats 4000000 in
theorem rmay5 (S SC : Nat → Prop) (B : Nat) (G : PGraph) (nv ev rv iv : Value) (c : PCat) (o : POp) (w : World) (h : GraphRd 89 S w B G) (hG : GInv G) (hc : CatR SC w nv ev rv iv c) (hk : o.kind = 5) :
    Calls Tryz.prog 54 #[.pointer (some ⟨B, 0, none⟩), c.arg nv ev rv iv, o.args] w fun e w' => e = .returned (.int .i64 (mayG c o G)) ∧ Grow w w' := by
  have HGR := Lib.hid h; have HI := Lib.hid hG; have HC := Lib.hid hc
  obtain ⟨kind, id, typ, from_, to_, name, v, cascade⟩ := o
  subst hk
  obtain ⟨na, nc, ea, ec, ra, rc, ia, ic, rfl, rfl, rfl, rfl⟩ := hc.slices
  have HW := Lib.hid (show ∀ o1 o2, Grow w ((w.alloc o1).alloc o2) from fun o1 o2 => ((Grow.rfl' w).allocd o1).allocd o2)
  have HBX := Lib.hid (boxes w (.slice na c.nodes.length nc) (.slice ea c.edges.length ec) (.slice ra c.rules.length rc) (.slice ia c.indexes.length ic) c ⟨5, id, typ, from_, to_, name, v, cascade⟩)
  obtain ⟨gna, gnc, gea, gec, hB, g0, g1, g2, -, -⟩ := h.read
  have hB2 : B < w.heap.size + 1 + 1 := by omega
  have HLN := Lib.hid hG.items
  have hwr : IntKind.i64.wrap ((G.nodes.length : Int) + (G.edges.length : Int)) = (G.nodes.length : Int) + (G.edges.length : Int) := by have := hG.items; rw [IntKind.wrap_i64]; omega
  clear h hc hG
  go_enter Tryz.func54, Tryz.ntmps54
  obtain ⟨f, hfd⟩ : ∃ f, f = fullG G := ⟨_, rfl⟩
  have HF := Lib.hid hfd
  by_cases hs : 1024 ≤ G.nodes.length + G.edges.length
  case' pos =>
    have hd : decide (1024 ≤ (G.nodes.length : Int) + (G.edges.length : Int)) = true := decide_eq_true (by omega)
    obtain rfl : f = true := by rw [hfd]; unfold fullG; rw [decide_eq_true hs]; rfl
  case' neg =>
    have hd : decide (1024 ≤ (G.nodes.length : Int) + (G.edges.length : Int)) = false := decide_eq_false (by omega)
    have hf2 : decide (4611686018427387903 < G.next) = f := by rw [hfd]; unfold fullG; rw [decide_eq_false hs]; rfl
  all_goals
    clear hs hfd
    go_wp2_with fail
    refine wp_region_grow (by kernel_rfl) (by kernel_rfl) ?_
    repeat (go_big_quiet_step (fail))
    refine wpQuiet_nil ?_
    intro w2 hg2
    have HG2 := Lib.hid ((HW.out _ _).step hg2); have HA2 := Lib.hid hg2
    obtain ⟨hl1, k0, k1, k2, k3, k4⟩ := (HBX.out.1.grow hg2).at
    obtain ⟨hl2, c0, c1, c2, c3, c4, c5, c6, c7, c8, c9⟩ := (HBX.out.2.grow hg2).at
    clear hg2 g0 g1 g2 hB hB2 hd
    try clear hf2
    go_wp2_with fail
    refine (refName name _).mono ?_
    rintro e w3 ⟨rfl, rfl⟩
    cases hN : decide (NameOk name)
    · have HX := Lib.hid (show mayG c ⟨5, id, typ, from_, to_, name, v, cascade⟩ G = 142 from mayG_5b rfl (.inl (of_decide_eq_false hN))); clear hN
      go_wp2
      go_ret
      exact ⟨by rw [HX.out]; rfl, HG2.out⟩
    · have HNN := Lib.hid (of_decide_eq_true hN); clear hN
      go_wp2_with fail
      refine (refGoodV v _).mono ?_
      rintro e w4 ⟨rfl, hg⟩
      have HG4 := Lib.hid (HG2.out.step hg); have HA4 := Lib.hid (HA2.out.step hg)
      obtain ⟨hl2', d0, d1, d2, d3, d4, d5, d6, d7, d8, d9⟩ := ((HBX.out.2.grow HA2.out).grow hg).at
      clear hg c0 c1 c2 c3 c4 c5 c6 c7 c8 c9
      cases hgd : decide (GoodV v)
      · have HGD := Lib.hid (of_decide_eq_false hgd); clear hgd
        go_wp2_with fail
        refine (refBlank v _).mono ?_
        rintro e w5 ⟨rfl, hg⟩
        have HG5 := Lib.hid (HG4.out.step hg)
        obtain ⟨hl3', e0, e1, e2, e3, e4, e5, e6, e7, e8, e9⟩ := ((HBX.out.2.grow HA4.out).grow hg).at
        clear hg d0 d1 d2 d3 d4 d5 d6 d7 d8 d9
        cases hbl : decide (BlankV v)
        · have HX := Lib.hid (show mayG c ⟨5, id, typ, from_, to_, name, v, cascade⟩ G = 142 from mayG_5b rfl (.inr ⟨HGD.out, of_decide_eq_false hbl⟩)); clear hbl
          go_wp2
          go_ret
          exact ⟨by rw [HX.out]; rfl, HG5.out⟩
        · have HBL := Lib.hid (of_decide_eq_true hbl); clear hbl
          have HIF := Lib.hid (show ¬ (¬ NameOk name ∨ (¬ GoodV v ∧ ¬ BlankV v)) from fun h => h.elim (fun h => h HNN.out) (fun h => h.2 HBL.out))
          go_wp2_with fail
          refine (refProps S B G id _ (HGR.out.grow HG5.out) HI.out.nodes HI.out.edges).mono ?_
          rintro e w6 ⟨hp, rfl⟩
          rcases hp with ⟨hf, rfl⟩ | ⟨ps, pv, hf, rfl, hp⟩
          · have HX := Lib.hid (show mayG c ⟨5, id, typ, from_, to_, name, v, cascade⟩ G = 60 from mayG_5n rfl HIF.out hf); clear hf
            go_wp2
            go_ret
            exact ⟨by rw [HX.out]; rfl, HG5.out⟩
          · have HP := Lib.hid hp
            obtain ⟨pa, pc, rfl⟩ := hp.isSlice
            have HL8 := Lib.hid (findP_len HI.out hf)
            have HX0 := Lib.hid (show mayG c ⟨5, id, typ, from_, to_, name, v, cascade⟩ G = if 8 < (setP ps name v).length then 3 else 0 from mayG_5s rfl HIF.out hf)
            clear hf hp
            go_wp2_with fail
            refine (refSet S _ ps name v _ HP.out (by have := HL8.out; omega)).mono ?_
            rintro e w7 ⟨v7, rfl, h7, hg7⟩
            have HG7 := Lib.hid (HG5.out.step hg7)
            obtain ⟨a7, k7, rfl⟩ := h7.isSlice
            clear h7 hg7
            by_cases h8 : 8 < (setP ps name v).length
            · have hd8 : decide ((8 : Int) < ((setP ps name v).length : Int)) = true := decide_eq_true (by omega)
              have HX := Lib.hid (show mayG c ⟨5, id, typ, from_, to_, name, v, cascade⟩ G = 3 by rw [HX0.out, if_pos h8]); clear h8
              go_wp2
              go_ret
              exact ⟨by rw [HX.out]; rfl, HG7.out⟩
            · have hd8 : decide ((8 : Int) < ((setP ps name v).length : Int)) = false := decide_eq_false (by omega)
              have HX := Lib.hid (show mayG c ⟨5, id, typ, from_, to_, name, v, cascade⟩ G = 0 by rw [HX0.out, if_neg h8]); clear h8
              go_wp2
              go_ret
              exact ⟨by rw [HX.out]; rfl, HG7.out⟩
      · have HGD := Lib.hid (of_decide_eq_true hgd); clear hgd
        have HIF := Lib.hid (show ¬ (¬ NameOk name ∨ (¬ GoodV v ∧ ¬ BlankV v)) from fun h => h.elim (fun h => h HNN.out) (fun h => h.1 HGD.out))
        go_wp2_with fail
        refine (refProps S B G id _ (HGR.out.grow HG4.out) HI.out.nodes HI.out.edges).mono ?_
        rintro e w6 ⟨hp, rfl⟩
        rcases hp with ⟨hf, rfl⟩ | ⟨ps, pv, hf, rfl, hp⟩
        · have HX := Lib.hid (show mayG c ⟨5, id, typ, from_, to_, name, v, cascade⟩ G = 60 from mayG_5n rfl HIF.out hf); clear hf
          go_wp2
          go_ret
          exact ⟨by rw [HX.out]; rfl, HG4.out⟩
        · have HP := Lib.hid hp
          obtain ⟨pa, pc, rfl⟩ := hp.isSlice
          have HL8 := Lib.hid (findP_len HI.out hf)
          have HX0 := Lib.hid (show mayG c ⟨5, id, typ, from_, to_, name, v, cascade⟩ G = if 8 < (setP ps name v).length then 3 else 0 from mayG_5s rfl HIF.out hf)
          clear hf hp
          go_wp2_with fail
          refine (refSet S _ ps name v _ HP.out (by have := HL8.out; omega)).mono ?_
          rintro e w7 ⟨v7, rfl, h7, hg7⟩
          have HG7 := Lib.hid (HG4.out.step hg7)
          obtain ⟨a7, k7, rfl⟩ := h7.isSlice
          clear h7 hg7
          by_cases h8 : 8 < (setP ps name v).length
          · have hd8 : decide ((8 : Int) < ((setP ps name v).length : Int)) = true := decide_eq_true (by omega)
            have HX := Lib.hid (show mayG c ⟨5, id, typ, from_, to_, name, v, cascade⟩ G = 3 by rw [HX0.out, if_pos h8]); clear h8
            go_wp2
            go_ret
            exact ⟨by rw [HX.out]; rfl, HG7.out⟩
          · have hd8 : decide ((8 : Int) < ((setP ps name v).length : Int)) = false := decide_eq_false (by omega)
            have HX := Lib.hid (show mayG c ⟨5, id, typ, from_, to_, name, v, cascade⟩ G = 0 by rw [HX0.out, if_neg h8]); clear h8
            go_wp2
            go_ret
            exact ⟨by rw [HX.out]; rfl, HG7.out⟩

set_option maxRecDepth 100000 in
set_option maxHeartbeats 4000000 in
theorem rmay0 (S SC : Nat → Prop) (B : Nat) (G : PGraph) (nv ev rv iv : Value) (c : PCat) (o : POp) (w : World) (h : GraphRd 89 S w B G) (hG : GInv G) (hc : CatR SC w nv ev rv iv c) (h1 : o.kind ≠ 1) (h2 : o.kind ≠ 2) (h3 : o.kind ≠ 3) (h4 : o.kind ≠ 4) (h5 : o.kind ≠ 5) :
    Calls Tryz.prog 54 #[.pointer (some ⟨B, 0, none⟩), c.arg nv ev rv iv, o.args] w fun e w' => e = .returned (.int .i64 (mayG c o G)) ∧ Grow w w' := by
  have HGR := Lib.hid h; have HI := Lib.hid hG; have HC := Lib.hid hc
  have HM := Lib.hid (mayG_0 (c := c) (G := G) h1 h2 h3 h4 h5)
  obtain ⟨kind, id, typ, from_, to_, name, v, cascade⟩ := o
  obtain ⟨na, nc, ea, ec, ra, rc, ia, ic, rfl, rfl, rfl, rfl⟩ := hc.slices
  have HW := Lib.hid (show ∀ o1 o2, Grow w ((w.alloc o1).alloc o2) from fun o1 o2 => ((Grow.rfl' w).allocd o1).allocd o2)
  have HBX := Lib.hid (boxes w (.slice na c.nodes.length nc) (.slice ea c.edges.length ec) (.slice ra c.rules.length rc) (.slice ia c.indexes.length ic) c ⟨kind, id, typ, from_, to_, name, v, cascade⟩)
  obtain ⟨gna, gnc, gea, gec, hB, g0, g1, g2, -, -⟩ := h.read
  have hB2 : B < w.heap.size + 1 + 1 := by omega
  have q1 : (kind == 1) = false := by simpa using h1
  have q2 : (kind == 2) = false := by simpa using h2
  have q3 : (kind == 3) = false := by simpa using h3
  have q4 : (kind == 4) = false := by simpa using h4
  have q5 : (kind == 5) = false := by simpa using h5
  have HLN := Lib.hid hG.items
  have hwr : IntKind.i64.wrap ((G.nodes.length : Int) + (G.edges.length : Int)) = (G.nodes.length : Int) + (G.edges.length : Int) := by have := hG.items; rw [IntKind.wrap_i64]; omega
  clear h hc hG h1 h2 h3 h4 h5
  go_enter Tryz.func54, Tryz.ntmps54
  obtain ⟨f, hfd⟩ : ∃ f, f = fullG G := ⟨_, rfl⟩
  have HF := Lib.hid hfd
  by_cases hs : 1024 ≤ G.nodes.length + G.edges.length
  case' pos =>
    have hd : decide (1024 ≤ (G.nodes.length : Int) + (G.edges.length : Int)) = true := decide_eq_true (by omega)
    obtain rfl : f = true := by rw [hfd]; unfold fullG; rw [decide_eq_true hs]; rfl
  case' neg =>
    have hd : decide (1024 ≤ (G.nodes.length : Int) + (G.edges.length : Int)) = false := decide_eq_false (by omega)
    have hf2 : decide (4611686018427387903 < G.next) = f := by rw [hfd]; unfold fullG; rw [decide_eq_false hs]; rfl
  all_goals
    clear hs hfd
    go_wp2_with fail
    refine wp_region_grow (by kernel_rfl) (by kernel_rfl) ?_
    repeat (go_big_quiet_step (fail))
    refine wpQuiet_nil ?_
    intro w2 hg2
    have HG2 := Lib.hid ((HW.out _ _).step hg2); have HA2 := Lib.hid hg2
    obtain ⟨hl1, k0, k1, k2, k3, k4⟩ := (HBX.out.1.grow hg2).at
    obtain ⟨hl2, c0, c1, c2, c3, c4, c5, c6, c7, c8, c9⟩ := (HBX.out.2.grow hg2).at
    clear hg2 g0 g1 g2 hB hB2 hd
    try clear hf2
    go_wp2
    go_ret
    exact ⟨by rw [HM.out]; rfl, HG2.out⟩

theorem refMay (S SC : Nat → Prop) (B : Nat) (G : PGraph) (nv ev rv iv : Value) (c : PCat) (o : POp) (w : World) (h : GraphRd 89 S w B G) (hG : GInv G) (hc : CatR SC w nv ev rv iv c) :
    Calls Tryz.prog 54 #[.pointer (some ⟨B, 0, none⟩), c.arg nv ev rv iv, o.args] w fun e w' => e = .returned (.int .i64 (mayG c o G)) ∧ Grow w w' := by
  by_cases h1 : o.kind = 1
  · exact rmay1 S SC B G nv ev rv iv c o w h hG hc h1
  by_cases h2 : o.kind = 2
  · exact rmay2 S SC B G nv ev rv iv c o w h hG hc h2
  by_cases h3 : o.kind = 3
  · exact rmay3 S SC B G nv ev rv iv c o w h hG hc h3
  by_cases h4 : o.kind = 4
  · exact rmay4 S SC B G nv ev rv iv c o w h hG hc h4
  by_cases h5 : o.kind = 5
  · exact rmay5 S SC B G nv ev rv iv c o w h hG hc h5
  exact rmay0 S SC B G nv ev rv iv c o w h hG hc h1 h2 h3 h4 h5
end Go.Hg
