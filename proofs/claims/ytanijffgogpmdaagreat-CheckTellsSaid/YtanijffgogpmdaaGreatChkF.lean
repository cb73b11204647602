/- graph.acts: a kind's two functions; graph.May, Do; hedgerowkeep.LargeValue, LargeOp; hedgerowlaw17.Fair, Types, wakes; val.Get, hedgerowref02.Get: a property's value; The closures of rule.Keeps but unique and most: of, exists, ends; slices.ContainsFunc at nodes and edges, with any captured variables. Conditions: those that each theorem names. -/
import Derived.Test.YtanijffgogpmdaaGreatChkB
import Derived.Test.YtanijffgogpmdaaGreatChkA
import Derived.Laws.ResultCell
import Derived.Laws.EntriesVeiled
import Derived.Test.YtanijffgogpmdaaGreatChkD
import Derived.Test.YtanijffgogpmdaaGreatChkE
import Derived.Test.YtanijffgogpmdaaGreatChkC
namespace Go.Hg
open Go.RowKit Go.Proofs

theorem zeroAct (w : World) : (zeroValue 129).run Tryz.prog w = .ok (.agg #[.nilFunc, .nilFunc]) w := by kernel_rfl

set_option maxRecDepth 100000 in
set_option maxHeartbeats 1000000 in
theorem acts1 (w : World) : Calls Tryz.prog 75 #[.int .i64 1] w fun e w' => e = .returned (.tuple #[.agg #[.func (.func 112) #[] #[], .func (.func 113) #[] #[]], .bool true]) ∧ Grow w w' := by
  have hsz : (w.alloc (.cells #[.nilFunc, .nilFunc] 129)).heap.size = w.heap.size + 1 := by simp
  have hT : Tryz.prog.underlying 178 = some (.map 3 129) := Tryz.underlying178
  have hI : Tryz.prog.underlying 3 = some (.int .i64) := Tryz.underlying3
  have i1 := run_ins _ _ hsz hT hI #[] 0 1 (.agg #[.func (.func 112) #[] #[], .func (.func 113) #[] #[]]) rfl
  have i2 := run_ins _ _ hsz hT hI #[{ key := .int .i64 1, val := .agg #[.func (.func 112) #[] #[], .func (.func 113) #[] #[]], born := 0 }] 1 2 (.agg #[.func (.func 114) #[] #[], .func (.func 115) #[] #[]]) rfl
  have i3 := run_ins _ _ hsz hT hI #[{ key := .int .i64 1, val := .agg #[.func (.func 112) #[] #[], .func (.func 113) #[] #[]], born := 0 }, { key := .int .i64 2, val := .agg #[.func (.func 114) #[] #[], .func (.func 115) #[] #[]], born := 1 }] 2 3 (.agg #[.func (.func 116) #[] #[], .func (.func 117) #[] #[]]) rfl
  have i4 := run_ins _ _ hsz hT hI #[{ key := .int .i64 1, val := .agg #[.func (.func 112) #[] #[], .func (.func 113) #[] #[]], born := 0 }, { key := .int .i64 2, val := .agg #[.func (.func 114) #[] #[], .func (.func 115) #[] #[]], born := 1 }, { key := .int .i64 3, val := .agg #[.func (.func 116) #[] #[], .func (.func 117) #[] #[]], born := 2 }] 3 4 (.agg #[.func (.func 118) #[] #[], .func (.func 119) #[] #[]]) rfl
  have i5 := run_ins _ _ hsz hT hI #[{ key := .int .i64 1, val := .agg #[.func (.func 112) #[] #[], .func (.func 113) #[] #[]], born := 0 }, { key := .int .i64 2, val := .agg #[.func (.func 114) #[] #[], .func (.func 115) #[] #[]], born := 1 }, { key := .int .i64 3, val := .agg #[.func (.func 116) #[] #[], .func (.func 117) #[] #[]], born := 2 }, { key := .int .i64 4, val := .agg #[.func (.func 118) #[] #[], .func (.func 119) #[] #[]], born := 3 }] 4 5 (.agg #[.func (.func 120) #[] #[], .func (.func 121) #[] #[]]) rfl
  simp only [List.push_toArray, List.cons_append, List.nil_append, Nat.reduceAdd] at i1 i2 i3 i4 i5
  have hmm := @run_makeMap Tryz.prog
  have HG := Lib.hid (show ∀ o1 o2 o3, Grow w (((w.alloc o1).alloc o2).alloc o3) from fun o1 o2 o3 => (((Grow.rfl' w).allocd o1).allocd o2).allocd o3)
  have lk := run_look_hit _ _ hsz hT hI #[{ key := .int .i64 1, val := .agg #[.func (.func 112) #[] #[], .func (.func 113) #[] #[]], born := 0 }, { key := .int .i64 2, val := .agg #[.func (.func 114) #[] #[], .func (.func 115) #[] #[]], born := 1 }, { key := .int .i64 3, val := .agg #[.func (.func 116) #[] #[], .func (.func 117) #[] #[]], born := 2 }, { key := .int .i64 4, val := .agg #[.func (.func 118) #[] #[], .func (.func 119) #[] #[]], born := 3 }, { key := .int .i64 5, val := .agg #[.func (.func 120) #[] #[], .func (.func 121) #[] #[]], born := 4 }] 5 1 0 _ rfl
  clear hsz
  go_enter Tryz.func75, Tryz.ntmps75
  go_wp2
  refine bodyPost_ret (v := .tuple #[.agg #[.func (.func 112) #[] #[], .func (.func 113) #[] #[]], .bool true]) ?_ rfl ⟨rfl, HG.out _ _ _⟩
  rw [results_cell_tmp rfl]
  go_simp

set_option maxRecDepth 100000 in
set_option maxHeartbeats 1000000 in
theorem acts2 (w : World) : Calls Tryz.prog 75 #[.int .i64 2] w fun e w' => e = .returned (.tuple #[.agg #[.func (.func 114) #[] #[], .func (.func 115) #[] #[]], .bool true]) ∧ Grow w w' := by
  have hsz : (w.alloc (.cells #[.nilFunc, .nilFunc] 129)).heap.size = w.heap.size + 1 := by simp
  have hT : Tryz.prog.underlying 178 = some (.map 3 129) := Tryz.underlying178
  have hI : Tryz.prog.underlying 3 = some (.int .i64) := Tryz.underlying3
  have i1 := run_ins _ _ hsz hT hI #[] 0 1 (.agg #[.func (.func 112) #[] #[], .func (.func 113) #[] #[]]) rfl
  have i2 := run_ins _ _ hsz hT hI #[{ key := .int .i64 1, val := .agg #[.func (.func 112) #[] #[], .func (.func 113) #[] #[]], born := 0 }] 1 2 (.agg #[.func (.func 114) #[] #[], .func (.func 115) #[] #[]]) rfl
  have i3 := run_ins _ _ hsz hT hI #[{ key := .int .i64 1, val := .agg #[.func (.func 112) #[] #[], .func (.func 113) #[] #[]], born := 0 }, { key := .int .i64 2, val := .agg #[.func (.func 114) #[] #[], .func (.func 115) #[] #[]], born := 1 }] 2 3 (.agg #[.func (.func 116) #[] #[], .func (.func 117) #[] #[]]) rfl
  have i4 := run_ins _ _ hsz hT hI #[{ key := .int .i64 1, val := .agg #[.func (.func 112) #[] #[], .func (.func 113) #[] #[]], born := 0 }, { key := .int .i64 2, val := .agg #[.func (.func 114) #[] #[], .func (.func 115) #[] #[]], born := 1 }, { key := .int .i64 3, val := .agg #[.func (.func 116) #[] #[], .func (.func 117) #[] #[]], born := 2 }] 3 4 (.agg #[.func (.func 118) #[] #[], .func (.func 119) #[] #[]]) rfl
  have i5 := run_ins _ _ hsz hT hI #[{ key := .int .i64 1, val := .agg #[.func (.func 112) #[] #[], .func (.func 113) #[] #[]], born := 0 }, { key := .int .i64 2, val := .agg #[.func (.func 114) #[] #[], .func (.func 115) #[] #[]], born := 1 }, { key := .int .i64 3, val := .agg #[.func (.func 116) #[] #[], .func (.func 117) #[] #[]], born := 2 }, { key := .int .i64 4, val := .agg #[.func (.func 118) #[] #[], .func (.func 119) #[] #[]], born := 3 }] 4 5 (.agg #[.func (.func 120) #[] #[], .func (.func 121) #[] #[]]) rfl
  simp only [List.push_toArray, List.cons_append, List.nil_append, Nat.reduceAdd] at i1 i2 i3 i4 i5
  have hmm := @run_makeMap Tryz.prog
  have HG := Lib.hid (show ∀ o1 o2 o3, Grow w (((w.alloc o1).alloc o2).alloc o3) from fun o1 o2 o3 => (((Grow.rfl' w).allocd o1).allocd o2).allocd o3)
  have lk := run_look_hit _ _ hsz hT hI #[{ key := .int .i64 1, val := .agg #[.func (.func 112) #[] #[], .func (.func 113) #[] #[]], born := 0 }, { key := .int .i64 2, val := .agg #[.func (.func 114) #[] #[], .func (.func 115) #[] #[]], born := 1 }, { key := .int .i64 3, val := .agg #[.func (.func 116) #[] #[], .func (.func 117) #[] #[]], born := 2 }, { key := .int .i64 4, val := .agg #[.func (.func 118) #[] #[], .func (.func 119) #[] #[]], born := 3 }, { key := .int .i64 5, val := .agg #[.func (.func 120) #[] #[], .func (.func 121) #[] #[]], born := 4 }] 5 2 1 _ rfl
  clear hsz
  go_enter Tryz.func75, Tryz.ntmps75
  go_wp2
  refine bodyPost_ret (v := .tuple #[.agg #[.func (.func 114) #[] #[], .func (.func 115) #[] #[]], .bool true]) ?_ rfl ⟨rfl, HG.out _ _ _⟩
  rw [results_cell_tmp rfl]
  go_simp

set_option maxRecDepth 100000 in
set_option maxHeartbeats 1000000 in
theorem acts3 (w : World) : Calls Tryz.prog 75 #[.int .i64 3] w fun e w' => e = .returned (.tuple #[.agg #[.func (.func 116) #[] #[], .func (.func 117) #[] #[]], .bool true]) ∧ Grow w w' := by
  have hsz : (w.alloc (.cells #[.nilFunc, .nilFunc] 129)).heap.size = w.heap.size + 1 := by simp
  have hT : Tryz.prog.underlying 178 = some (.map 3 129) := Tryz.underlying178
  have hI : Tryz.prog.underlying 3 = some (.int .i64) := Tryz.underlying3
  have i1 := run_ins _ _ hsz hT hI #[] 0 1 (.agg #[.func (.func 112) #[] #[], .func (.func 113) #[] #[]]) rfl
  have i2 := run_ins _ _ hsz hT hI #[{ key := .int .i64 1, val := .agg #[.func (.func 112) #[] #[], .func (.func 113) #[] #[]], born := 0 }] 1 2 (.agg #[.func (.func 114) #[] #[], .func (.func 115) #[] #[]]) rfl
  have i3 := run_ins _ _ hsz hT hI #[{ key := .int .i64 1, val := .agg #[.func (.func 112) #[] #[], .func (.func 113) #[] #[]], born := 0 }, { key := .int .i64 2, val := .agg #[.func (.func 114) #[] #[], .func (.func 115) #[] #[]], born := 1 }] 2 3 (.agg #[.func (.func 116) #[] #[], .func (.func 117) #[] #[]]) rfl
  have i4 := run_ins _ _ hsz hT hI #[{ key := .int .i64 1, val := .agg #[.func (.func 112) #[] #[], .func (.func 113) #[] #[]], born := 0 }, { key := .int .i64 2, val := .agg #[.func (.func 114) #[] #[], .func (.func 115) #[] #[]], born := 1 }, { key := .int .i64 3, val := .agg #[.func (.func 116) #[] #[], .func (.func 117) #[] #[]], born := 2 }] 3 4 (.agg #[.func (.func 118) #[] #[], .func (.func 119) #[] #[]]) rfl
  have i5 := run_ins _ _ hsz hT hI #[{ key := .int .i64 1, val := .agg #[.func (.func 112) #[] #[], .func (.func 113) #[] #[]], born := 0 }, { key := .int .i64 2, val := .agg #[.func (.func 114) #[] #[], .func (.func 115) #[] #[]], born := 1 }, { key := .int .i64 3, val := .agg #[.func (.func 116) #[] #[], .func (.func 117) #[] #[]], born := 2 }, { key := .int .i64 4, val := .agg #[.func (.func 118) #[] #[], .func (.func 119) #[] #[]], born := 3 }] 4 5 (.agg #[.func (.func 120) #[] #[], .func (.func 121) #[] #[]]) rfl
  simp only [List.push_toArray, List.cons_append, List.nil_append, Nat.reduceAdd] at i1 i2 i3 i4 i5
  have hmm := @run_makeMap Tryz.prog
  have HG := Lib.hid (show ∀ o1 o2 o3, Grow w (((w.alloc o1).alloc o2).alloc o3) from fun o1 o2 o3 => (((Grow.rfl' w).allocd o1).allocd o2).allocd o3)
  have lk := run_look_hit _ _ hsz hT hI #[{ key := .int .i64 1, val := .agg #[.func (.func 112) #[] #[], .func (.func 113) #[] #[]], born := 0 }, { key := .int .i64 2, val := .agg #[.func (.func 114) #[] #[], .func (.func 115) #[] #[]], born := 1 }, { key := .int .i64 3, val := .agg #[.func (.func 116) #[] #[], .func (.func 117) #[] #[]], born := 2 }, { key := .int .i64 4, val := .agg #[.func (.func 118) #[] #[], .func (.func 119) #[] #[]], born := 3 }, { key := .int .i64 5, val := .agg #[.func (.func 120) #[] #[], .func (.func 121) #[] #[]], born := 4 }] 5 3 2 _ rfl
  clear hsz
  go_enter Tryz.func75, Tryz.ntmps75
  go_wp2
  refine bodyPost_ret (v := .tuple #[.agg #[.func (.func 116) #[] #[], .func (.func 117) #[] #[]], .bool true]) ?_ rfl ⟨rfl, HG.out _ _ _⟩
  rw [results_cell_tmp rfl]
  go_simp

set_option maxRecDepth 100000 in
set_option maxHeartbeats 1000000 in
theorem acts4 (w : World) : Calls Tryz.prog 75 #[.int .i64 4] w fun e w' => e = .returned (.tuple #[.agg #[.func (.func 118) #[] #[], .func (.func 119) #[] #[]], .bool true]) ∧ Grow w w' := by
  have hsz : (w.alloc (.cells #[.nilFunc, .nilFunc] 129)).heap.size = w.heap.size + 1 := by simp
  have hT : Tryz.prog.underlying 178 = some (.map 3 129) := Tryz.underlying178
  have hI : Tryz.prog.underlying 3 = some (.int .i64) := Tryz.underlying3
  have i1 := run_ins _ _ hsz hT hI #[] 0 1 (.agg #[.func (.func 112) #[] #[], .func (.func 113) #[] #[]]) rfl
  have i2 := run_ins _ _ hsz hT hI #[{ key := .int .i64 1, val := .agg #[.func (.func 112) #[] #[], .func (.func 113) #[] #[]], born := 0 }] 1 2 (.agg #[.func (.func 114) #[] #[], .func (.func 115) #[] #[]]) rfl
  have i3 := run_ins _ _ hsz hT hI #[{ key := .int .i64 1, val := .agg #[.func (.func 112) #[] #[], .func (.func 113) #[] #[]], born := 0 }, { key := .int .i64 2, val := .agg #[.func (.func 114) #[] #[], .func (.func 115) #[] #[]], born := 1 }] 2 3 (.agg #[.func (.func 116) #[] #[], .func (.func 117) #[] #[]]) rfl
  have i4 := run_ins _ _ hsz hT hI #[{ key := .int .i64 1, val := .agg #[.func (.func 112) #[] #[], .func (.func 113) #[] #[]], born := 0 }, { key := .int .i64 2, val := .agg #[.func (.func 114) #[] #[], .func (.func 115) #[] #[]], born := 1 }, { key := .int .i64 3, val := .agg #[.func (.func 116) #[] #[], .func (.func 117) #[] #[]], born := 2 }] 3 4 (.agg #[.func (.func 118) #[] #[], .func (.func 119) #[] #[]]) rfl
  have i5 := run_ins _ _ hsz hT hI #[{ key := .int .i64 1, val := .agg #[.func (.func 112) #[] #[], .func (.func 113) #[] #[]], born := 0 }, { key := .int .i64 2, val := .agg #[.func (.func 114) #[] #[], .func (.func 115) #[] #[]], born := 1 }, { key := .int .i64 3, val := .agg #[.func (.func 116) #[] #[], .func (.func 117) #[] #[]], born := 2 }, { key := .int .i64 4, val := .agg #[.func (.func 118) #[] #[], .func (.func 119) #[] #[]], born := 3 }] 4 5 (.agg #[.func (.func 120) #[] #[], .func (.func 121) #[] #[]]) rfl
  simp only [List.push_toArray, List.cons_append, List.nil_append, Nat.reduceAdd] at i1 i2 i3 i4 i5
  have hmm := @run_makeMap Tryz.prog
  have HG := Lib.hid (show ∀ o1 o2 o3, Grow w (((w.alloc o1).alloc o2).alloc o3) from fun o1 o2 o3 => (((Grow.rfl' w).allocd o1).allocd o2).allocd o3)
  have lk := run_look_hit _ _ hsz hT hI #[{ key := .int .i64 1, val := .agg #[.func (.func 112) #[] #[], .func (.func 113) #[] #[]], born := 0 }, { key := .int .i64 2, val := .agg #[.func (.func 114) #[] #[], .func (.func 115) #[] #[]], born := 1 }, { key := .int .i64 3, val := .agg #[.func (.func 116) #[] #[], .func (.func 117) #[] #[]], born := 2 }, { key := .int .i64 4, val := .agg #[.func (.func 118) #[] #[], .func (.func 119) #[] #[]], born := 3 }, { key := .int .i64 5, val := .agg #[.func (.func 120) #[] #[], .func (.func 121) #[] #[]], born := 4 }] 5 4 3 _ rfl
  clear hsz
  go_enter Tryz.func75, Tryz.ntmps75
  go_wp2
  refine bodyPost_ret (v := .tuple #[.agg #[.func (.func 118) #[] #[], .func (.func 119) #[] #[]], .bool true]) ?_ rfl ⟨rfl, HG.out _ _ _⟩
  rw [results_cell_tmp rfl]
  go_simp

set_option maxRecDepth 100000 in
set_option maxHeartbeats 1000000 in
theorem acts5 (w : World) : Calls Tryz.prog 75 #[.int .i64 5] w fun e w' => e = .returned (.tuple #[.agg #[.func (.func 120) #[] #[], .func (.func 121) #[] #[]], .bool true]) ∧ Grow w w' := by
  have hsz : (w.alloc (.cells #[.nilFunc, .nilFunc] 129)).heap.size = w.heap.size + 1 := by simp
  have hT : Tryz.prog.underlying 178 = some (.map 3 129) := Tryz.underlying178
  have hI : Tryz.prog.underlying 3 = some (.int .i64) := Tryz.underlying3
  have i1 := run_ins _ _ hsz hT hI #[] 0 1 (.agg #[.func (.func 112) #[] #[], .func (.func 113) #[] #[]]) rfl
  have i2 := run_ins _ _ hsz hT hI #[{ key := .int .i64 1, val := .agg #[.func (.func 112) #[] #[], .func (.func 113) #[] #[]], born := 0 }] 1 2 (.agg #[.func (.func 114) #[] #[], .func (.func 115) #[] #[]]) rfl
  have i3 := run_ins _ _ hsz hT hI #[{ key := .int .i64 1, val := .agg #[.func (.func 112) #[] #[], .func (.func 113) #[] #[]], born := 0 }, { key := .int .i64 2, val := .agg #[.func (.func 114) #[] #[], .func (.func 115) #[] #[]], born := 1 }] 2 3 (.agg #[.func (.func 116) #[] #[], .func (.func 117) #[] #[]]) rfl
  have i4 := run_ins _ _ hsz hT hI #[{ key := .int .i64 1, val := .agg #[.func (.func 112) #[] #[], .func (.func 113) #[] #[]], born := 0 }, { key := .int .i64 2, val := .agg #[.func (.func 114) #[] #[], .func (.func 115) #[] #[]], born := 1 }, { key := .int .i64 3, val := .agg #[.func (.func 116) #[] #[], .func (.func 117) #[] #[]], born := 2 }] 3 4 (.agg #[.func (.func 118) #[] #[], .func (.func 119) #[] #[]]) rfl
  have i5 := run_ins _ _ hsz hT hI #[{ key := .int .i64 1, val := .agg #[.func (.func 112) #[] #[], .func (.func 113) #[] #[]], born := 0 }, { key := .int .i64 2, val := .agg #[.func (.func 114) #[] #[], .func (.func 115) #[] #[]], born := 1 }, { key := .int .i64 3, val := .agg #[.func (.func 116) #[] #[], .func (.func 117) #[] #[]], born := 2 }, { key := .int .i64 4, val := .agg #[.func (.func 118) #[] #[], .func (.func 119) #[] #[]], born := 3 }] 4 5 (.agg #[.func (.func 120) #[] #[], .func (.func 121) #[] #[]]) rfl
  simp only [List.push_toArray, List.cons_append, List.nil_append, Nat.reduceAdd] at i1 i2 i3 i4 i5
  have hmm := @run_makeMap Tryz.prog
  have HG := Lib.hid (show ∀ o1 o2 o3, Grow w (((w.alloc o1).alloc o2).alloc o3) from fun o1 o2 o3 => (((Grow.rfl' w).allocd o1).allocd o2).allocd o3)
  have lk := run_look_hit _ _ hsz hT hI #[{ key := .int .i64 1, val := .agg #[.func (.func 112) #[] #[], .func (.func 113) #[] #[]], born := 0 }, { key := .int .i64 2, val := .agg #[.func (.func 114) #[] #[], .func (.func 115) #[] #[]], born := 1 }, { key := .int .i64 3, val := .agg #[.func (.func 116) #[] #[], .func (.func 117) #[] #[]], born := 2 }, { key := .int .i64 4, val := .agg #[.func (.func 118) #[] #[], .func (.func 119) #[] #[]], born := 3 }, { key := .int .i64 5, val := .agg #[.func (.func 120) #[] #[], .func (.func 121) #[] #[]], born := 4 }] 5 5 4 _ rfl
  clear hsz
  go_enter Tryz.func75, Tryz.ntmps75
  go_wp2
  refine bodyPost_ret (v := .tuple #[.agg #[.func (.func 120) #[] #[], .func (.func 121) #[] #[]], .bool true]) ?_ rfl ⟨rfl, HG.out _ _ _⟩
  rw [results_cell_tmp rfl]
  go_simp

set_option maxRecDepth 100000 in
set_option maxHeartbeats 1000000 in
theorem acts0 (k : Int) (w : World) (h1 : k ≠ 1) (h2 : k ≠ 2) (h3 : k ≠ 3) (h4 : k ≠ 4) (h5 : k ≠ 5) : Calls Tryz.prog 75 #[.int .i64 k] w fun e w' => e = .returned (.tuple #[.agg #[.nilFunc, .nilFunc], .bool false]) ∧ Grow w w' := by
  have hsz : (w.alloc (.cells #[.nilFunc, .nilFunc] 129)).heap.size = w.heap.size + 1 := by simp
  have hT : Tryz.prog.underlying 178 = some (.map 3 129) := Tryz.underlying178
  have hI : Tryz.prog.underlying 3 = some (.int .i64) := Tryz.underlying3
  have i1 := run_ins _ _ hsz hT hI #[] 0 1 (.agg #[.func (.func 112) #[] #[], .func (.func 113) #[] #[]]) rfl
  have i2 := run_ins _ _ hsz hT hI #[{ key := .int .i64 1, val := .agg #[.func (.func 112) #[] #[], .func (.func 113) #[] #[]], born := 0 }] 1 2 (.agg #[.func (.func 114) #[] #[], .func (.func 115) #[] #[]]) rfl
  have i3 := run_ins _ _ hsz hT hI #[{ key := .int .i64 1, val := .agg #[.func (.func 112) #[] #[], .func (.func 113) #[] #[]], born := 0 }, { key := .int .i64 2, val := .agg #[.func (.func 114) #[] #[], .func (.func 115) #[] #[]], born := 1 }] 2 3 (.agg #[.func (.func 116) #[] #[], .func (.func 117) #[] #[]]) rfl
  have i4 := run_ins _ _ hsz hT hI #[{ key := .int .i64 1, val := .agg #[.func (.func 112) #[] #[], .func (.func 113) #[] #[]], born := 0 }, { key := .int .i64 2, val := .agg #[.func (.func 114) #[] #[], .func (.func 115) #[] #[]], born := 1 }, { key := .int .i64 3, val := .agg #[.func (.func 116) #[] #[], .func (.func 117) #[] #[]], born := 2 }] 3 4 (.agg #[.func (.func 118) #[] #[], .func (.func 119) #[] #[]]) rfl
  have i5 := run_ins _ _ hsz hT hI #[{ key := .int .i64 1, val := .agg #[.func (.func 112) #[] #[], .func (.func 113) #[] #[]], born := 0 }, { key := .int .i64 2, val := .agg #[.func (.func 114) #[] #[], .func (.func 115) #[] #[]], born := 1 }, { key := .int .i64 3, val := .agg #[.func (.func 116) #[] #[], .func (.func 117) #[] #[]], born := 2 }, { key := .int .i64 4, val := .agg #[.func (.func 118) #[] #[], .func (.func 119) #[] #[]], born := 3 }] 4 5 (.agg #[.func (.func 120) #[] #[], .func (.func 121) #[] #[]]) rfl
  simp only [List.push_toArray, List.cons_append, List.nil_append, Nat.reduceAdd] at i1 i2 i3 i4 i5
  have hmm := @run_makeMap Tryz.prog
  have HG := Lib.hid (show ∀ o1 o2 o3, Grow w (((w.alloc o1).alloc o2).alloc o3) from fun o1 o2 o3 => (((Grow.rfl' w).allocd o1).allocd o2).allocd o3)
  have lk := run_look_miss _ _ hsz hT hI #[{ key := .int .i64 1, val := .agg #[.func (.func 112) #[] #[], .func (.func 113) #[] #[]], born := 0 }, { key := .int .i64 2, val := .agg #[.func (.func 114) #[] #[], .func (.func 115) #[] #[]], born := 1 }, { key := .int .i64 3, val := .agg #[.func (.func 116) #[] #[], .func (.func 117) #[] #[]], born := 2 }, { key := .int .i64 4, val := .agg #[.func (.func 118) #[] #[], .func (.func 119) #[] #[]], born := 3 }, { key := .int .i64 5, val := .agg #[.func (.func 120) #[] #[], .func (.func 121) #[] #[]], born := 4 }] 5 k _ zeroAct (by simp [Instr.findNow, Instr.sameNow, beq_eq_false_iff_ne.2 h1, beq_eq_false_iff_ne.2 h2, beq_eq_false_iff_ne.2 h3, beq_eq_false_iff_ne.2 h4, beq_eq_false_iff_ne.2 h5])
  clear hsz h1 h2 h3 h4 h5
  go_enter Tryz.func75, Tryz.ntmps75
  go_wp2
  refine bodyPost_ret (v := .tuple #[.agg #[.nilFunc, .nilFunc], .bool false]) ?_ rfl ⟨rfl, HG.out _ _ _⟩
  rw [results_cell_tmp rfl]
  go_simp
end Go.Hg

namespace Go.Hg
open Go.RowKit Go.Proofs

/-- a catalog that lies in a block -/
def CatAt (w : World) (b : Nat) (nv ev rv iv : Value) (c : PCat) : Prop := w.heap[b]? = some (.cells #[nv, ev, rv, iv, .int .i64 c.nextRule] 52 (0, 0))
theorem CatAt.grow {w w' : World} {b : Nat} {nv ev rv iv : Value} {c : PCat} (h : CatAt w b nv ev rv iv c) (g : Grow w w') : CatAt w' b nv ev rv iv c := (g.heapEq (blk_lt h)).trans h
theorem CatAt.at {w : World} {b : Nat} {nv ev rv iv : Value} {c : PCat} (h : CatAt w b nv ev rv iv c) : b < w.heap.size ∧ w.cell? ⟨b, 0, none⟩ = some nv ∧ w.cell? ⟨b, 1, none⟩ = some ev ∧ w.cell? ⟨b, 2, none⟩ = some rv ∧ w.cell? ⟨b, 3, none⟩ = some iv ∧ w.cell? ⟨b, 4, none⟩ = some (.int .i64 c.nextRule) :=
  ⟨blk_lt h, by rw [blk_cell h]; rfl, by rw [blk_cell h]; rfl, by rw [blk_cell h]; rfl, by rw [blk_cell h]; rfl, by rw [blk_cell h]; rfl⟩
theorem boxes (w : World) (nv ev rv iv : Value) (c : PCat) (o : POp) : CatAt ((w.alloc (.cells #[nv, ev, rv, iv, .int .i64 c.nextRule] 52)).alloc (.cells o.cells.toArray 44)) w.heap.size nv ev rv iv c ∧ OpAt ((w.alloc (.cells #[nv, ev, rv, iv, .int .i64 c.nextRule] 52)).alloc (.cells o.cells.toArray 44)) (w.heap.size + 1) o := by
  constructor
  · unfold CatAt
    rw [heap_alloc_old _ _ (by simp)]
    exact heap_alloc_new w _
  · have := heap_alloc_new (w.alloc (.cells #[nv, ev, rv, iv, .int .i64 c.nextRule] 52)) (.cells o.cells.toArray 44)
    rw [World.size_alloc] at this
    exact this

set_option maxRecDepth 100000 in
set_option maxHeartbeats 1000000 in
/-- the graph that nobody made -/
theorem graphMayNil (nv ev rv iv : Value) (c : PCat) (o : POp) (SC : Nat → Prop) (w : World) (hc : CatR SC w nv ev rv iv c) :
    Calls Tryz.prog 74 #[.pointer none, c.arg nv ev rv iv, o.args] w fun e w' => e = .returned (.int .i64 1) ∧ Grow w w' := by
  obtain ⟨na, nc, ea, ec, ra, rc, ia, ic, rfl, rfl, rfl, rfl⟩ := hc.slices
  have HW := Lib.hid (show ∀ o1 o2, Grow w ((w.alloc o1).alloc o2) from fun o1 o2 => ((Grow.rfl' w).allocd o1).allocd o2)
  clear hc
  go_enter Tryz.func74, Tryz.ntmps74
  go_wp2
  go_ret
  exact ⟨rfl, HW.out _ _⟩

set_option maxRecDepth 100000 in
set_option maxHeartbeats 1000000 in
theorem may1 (S SC : Nat → Prop) (B : Nat) (G : PGraph) (nv ev rv iv : Value) (c : PCat) (o : POp) (w : World) (h : GraphOk 120 S w B G) (hG : GInv G) (hc : CatR SC w nv ev rv iv c) (hk : o.kind = 1) :
    Calls Tryz.prog 74 #[.pointer (some ⟨B, 0, none⟩), c.arg nv ev rv iv, o.args] w fun e w' => e = .returned (.int .i64 (mayG c o G)) ∧ Grow w w' := by
  have HGR := Lib.hid h; have HI := Lib.hid hG; have HC := Lib.hid hc
  obtain ⟨kind, id, typ, from_, to_, name, v, cascade⟩ := o
  subst hk
  obtain ⟨na, nc, ea, ec, ra, rc, ia, ic, rfl, rfl, rfl, rfl⟩ := hc.slices
  have HW := Lib.hid (show ∀ o1 o2, Grow w ((w.alloc o1).alloc o2) from fun o1 o2 => ((Grow.rfl' w).allocd o1).allocd o2)
  have HBX := Lib.hid (boxes w (.slice na c.nodes.length nc) (.slice ea c.edges.length ec) (.slice ra c.rules.length rc) (.slice ia c.indexes.length ic) c ⟨1, id, typ, from_, to_, name, v, cascade⟩)
  clear h hc hG
  go_enter Tryz.func74, Tryz.ntmps74
  go_wp2_with fail
  refine (acts1 _).mono ?_
  rintro e w2 ⟨rfl, hg⟩
  have HG2 := Lib.hid ((HW.out _ _).step hg)
  obtain ⟨hl1, k0, k1, k2, k3, k4⟩ := (HBX.out.1.grow hg).at
  obtain ⟨hl2, c0, c1, c2, c3, c4, c5, c6, c7, c8, c9⟩ := (HBX.out.2.grow hg).at
  clear hg
  go_wp2_with fail
  refine (mayAddNode S SC B G _ _ _ _ c ⟨1, id, typ, from_, to_, name, v, cascade⟩ _ (HGR.out.grow (HG2.out.allocd _)) HI.out (HC.out.grow (HG2.out.allocd _)) rfl).mono ?_
  rintro e w3 ⟨rfl, hg⟩
  have HG3 := Lib.hid ((HG2.out.allocd _).step hg)
  clear hg k0 k1 k2 k3 k4 c0 c1 c2 c3 c4 c5 c6 c7 c8 c9
  go_wp2
  go_ret
  exact ⟨rfl, HG3.out⟩

set_option maxRecDepth 100000 in
set_option maxHeartbeats 1000000 in
theorem may2 (S SC : Nat → Prop) (B : Nat) (G : PGraph) (nv ev rv iv : Value) (c : PCat) (o : POp) (w : World) (h : GraphOk 120 S w B G) (hG : GInv G) (hc : CatR SC w nv ev rv iv c) (hk : o.kind = 2) :
    Calls Tryz.prog 74 #[.pointer (some ⟨B, 0, none⟩), c.arg nv ev rv iv, o.args] w fun e w' => e = .returned (.int .i64 (mayG c o G)) ∧ Grow w w' := by
  have HGR := Lib.hid h; have HI := Lib.hid hG; have HC := Lib.hid hc
  obtain ⟨kind, id, typ, from_, to_, name, v, cascade⟩ := o
  subst hk
  obtain ⟨na, nc, ea, ec, ra, rc, ia, ic, rfl, rfl, rfl, rfl⟩ := hc.slices
  have HW := Lib.hid (show ∀ o1 o2, Grow w ((w.alloc o1).alloc o2) from fun o1 o2 => ((Grow.rfl' w).allocd o1).allocd o2)
  have HBX := Lib.hid (boxes w (.slice na c.nodes.length nc) (.slice ea c.edges.length ec) (.slice ra c.rules.length rc) (.slice ia c.indexes.length ic) c ⟨2, id, typ, from_, to_, name, v, cascade⟩)
  clear h hc hG
  go_enter Tryz.func74, Tryz.ntmps74
  go_wp2_with fail
  refine (acts2 _).mono ?_
  rintro e w2 ⟨rfl, hg⟩
  have HG2 := Lib.hid ((HW.out _ _).step hg)
  obtain ⟨hl1, k0, k1, k2, k3, k4⟩ := (HBX.out.1.grow hg).at
  obtain ⟨hl2, c0, c1, c2, c3, c4, c5, c6, c7, c8, c9⟩ := (HBX.out.2.grow hg).at
  clear hg
  go_wp2_with fail
  refine (mayDropNode S SC B G _ _ _ _ c ⟨2, id, typ, from_, to_, name, v, cascade⟩ _ (HGR.out.grow (HG2.out.allocd _)) HI.out (HC.out.grow (HG2.out.allocd _)) rfl).mono ?_
  rintro e w3 ⟨rfl, hg⟩
  have HG3 := Lib.hid ((HG2.out.allocd _).step hg)
  clear hg k0 k1 k2 k3 k4 c0 c1 c2 c3 c4 c5 c6 c7 c8 c9
  go_wp2
  go_ret
  exact ⟨rfl, HG3.out⟩

set_option maxRecDepth 100000 in
set_option maxHeartbeats 1000000 in
theorem may3 (S SC : Nat → Prop) (B : Nat) (G : PGraph) (nv ev rv iv : Value) (c : PCat) (o : POp) (w : World) (h : GraphOk 120 S w B G) (hG : GInv G) (hc : CatR SC w nv ev rv iv c) (hk : o.kind = 3) :
    Calls Tryz.prog 74 #[.pointer (some ⟨B, 0, none⟩), c.arg nv ev rv iv, o.args] w fun e w' => e = .returned (.int .i64 (mayG c o G)) ∧ Grow w w' := by
  have HGR := Lib.hid h; have HI := Lib.hid hG; have HC := Lib.hid hc
  obtain ⟨kind, id, typ, from_, to_, name, v, cascade⟩ := o
  subst hk
  obtain ⟨na, nc, ea, ec, ra, rc, ia, ic, rfl, rfl, rfl, rfl⟩ := hc.slices
  have HW := Lib.hid (show ∀ o1 o2, Grow w ((w.alloc o1).alloc o2) from fun o1 o2 => ((Grow.rfl' w).allocd o1).allocd o2)
  have HBX := Lib.hid (boxes w (.slice na c.nodes.length nc) (.slice ea c.edges.length ec) (.slice ra c.rules.length rc) (.slice ia c.indexes.length ic) c ⟨3, id, typ, from_, to_, name, v, cascade⟩)
  clear h hc hG
  go_enter Tryz.func74, Tryz.ntmps74
  go_wp2_with fail
  refine (acts3 _).mono ?_
  rintro e w2 ⟨rfl, hg⟩
  have HG2 := Lib.hid ((HW.out _ _).step hg)
  obtain ⟨hl1, k0, k1, k2, k3, k4⟩ := (HBX.out.1.grow hg).at
  obtain ⟨hl2, c0, c1, c2, c3, c4, c5, c6, c7, c8, c9⟩ := (HBX.out.2.grow hg).at
  clear hg
  go_wp2_with fail
  refine (mayAddEdge S SC B G _ _ _ _ c ⟨3, id, typ, from_, to_, name, v, cascade⟩ _ (HGR.out.grow (HG2.out.allocd _)) HI.out (HC.out.grow (HG2.out.allocd _)) rfl).mono ?_
  rintro e w3 ⟨rfl, hg⟩
  have HG3 := Lib.hid ((HG2.out.allocd _).step hg)
  clear hg k0 k1 k2 k3 k4 c0 c1 c2 c3 c4 c5 c6 c7 c8 c9
  go_wp2
  go_ret
  exact ⟨rfl, HG3.out⟩

set_option maxRecDepth 100000 in
set_option maxHeartbeats 1000000 in
theorem may4 (S SC : Nat → Prop) (B : Nat) (G : PGraph) (nv ev rv iv : Value) (c : PCat) (o : POp) (w : World) (h : GraphOk 120 S w B G) (hG : GInv G) (hc : CatR SC w nv ev rv iv c) (hk : o.kind = 4) :
    Calls Tryz.prog 74 #[.pointer (some ⟨B, 0, none⟩), c.arg nv ev rv iv, o.args] w fun e w' => e = .returned (.int .i64 (mayG c o G)) ∧ Grow w w' := by
  have HGR := Lib.hid h; have HI := Lib.hid hG; have HC := Lib.hid hc
  obtain ⟨kind, id, typ, from_, to_, name, v, cascade⟩ := o
  subst hk
  obtain ⟨na, nc, ea, ec, ra, rc, ia, ic, rfl, rfl, rfl, rfl⟩ := hc.slices
  have HW := Lib.hid (show ∀ o1 o2, Grow w ((w.alloc o1).alloc o2) from fun o1 o2 => ((Grow.rfl' w).allocd o1).allocd o2)
  have HBX := Lib.hid (boxes w (.slice na c.nodes.length nc) (.slice ea c.edges.length ec) (.slice ra c.rules.length rc) (.slice ia c.indexes.length ic) c ⟨4, id, typ, from_, to_, name, v, cascade⟩)
  clear h hc hG
  go_enter Tryz.func74, Tryz.ntmps74
  go_wp2_with fail
  refine (acts4 _).mono ?_
  rintro e w2 ⟨rfl, hg⟩
  have HG2 := Lib.hid ((HW.out _ _).step hg)
  obtain ⟨hl1, k0, k1, k2, k3, k4⟩ := (HBX.out.1.grow hg).at
  obtain ⟨hl2, c0, c1, c2, c3, c4, c5, c6, c7, c8, c9⟩ := (HBX.out.2.grow hg).at
  clear hg
  go_wp2_with fail
  refine (mayDropEdge S SC B G _ _ _ _ c ⟨4, id, typ, from_, to_, name, v, cascade⟩ _ (HGR.out.grow (HG2.out.allocd _)) HI.out (HC.out.grow (HG2.out.allocd _)) rfl).mono ?_
  rintro e w3 ⟨rfl, hg⟩
  have HG3 := Lib.hid ((HG2.out.allocd _).step hg)
  clear hg k0 k1 k2 k3 k4 c0 c1 c2 c3 c4 c5 c6 c7 c8 c9
  go_wp2
  go_ret
  exact ⟨rfl, HG3.out⟩

set_option maxRecDepth 100000 in
set_option maxHeartbeats 1000000 in
theorem may5 (S SC : Nat → Prop) (B : Nat) (G : PGraph) (nv ev rv iv : Value) (c : PCat) (o : POp) (w : World) (h : GraphOk 120 S w B G) (hG : GInv G) (hc : CatR SC w nv ev rv iv c) (hk : o.kind = 5) :
    Calls Tryz.prog 74 #[.pointer (some ⟨B, 0, none⟩), c.arg nv ev rv iv, o.args] w fun e w' => e = .returned (.int .i64 (mayG c o G)) ∧ Grow w w' := by
  have HGR := Lib.hid h; have HI := Lib.hid hG; have HC := Lib.hid hc
  obtain ⟨kind, id, typ, from_, to_, name, v, cascade⟩ := o
  subst hk
  obtain ⟨na, nc, ea, ec, ra, rc, ia, ic, rfl, rfl, rfl, rfl⟩ := hc.slices
  have HW := Lib.hid (show ∀ o1 o2, Grow w ((w.alloc o1).alloc o2) from fun o1 o2 => ((Grow.rfl' w).allocd o1).allocd o2)
  have HBX := Lib.hid (boxes w (.slice na c.nodes.length nc) (.slice ea c.edges.length ec) (.slice ra c.rules.length rc) (.slice ia c.indexes.length ic) c ⟨5, id, typ, from_, to_, name, v, cascade⟩)
  clear h hc hG
  go_enter Tryz.func74, Tryz.ntmps74
  go_wp2_with fail
  refine (acts5 _).mono ?_
  rintro e w2 ⟨rfl, hg⟩
  have HG2 := Lib.hid ((HW.out _ _).step hg)
  obtain ⟨hl1, k0, k1, k2, k3, k4⟩ := (HBX.out.1.grow hg).at
  obtain ⟨hl2, c0, c1, c2, c3, c4, c5, c6, c7, c8, c9⟩ := (HBX.out.2.grow hg).at
  clear hg
  go_wp2_with fail
  refine (maySetProp S SC B G _ _ _ _ c ⟨5, id, typ, from_, to_, name, v, cascade⟩ _ (HGR.out.grow (HG2.out.allocd _)) HI.out (HC.out.grow (HG2.out.allocd _)) rfl).mono ?_
  rintro e w3 ⟨rfl, hg⟩
  have HG3 := Lib.hid ((HG2.out.allocd _).step hg)
  clear hg k0 k1 k2 k3 k4 c0 c1 c2 c3 c4 c5 c6 c7 c8 c9
  go_wp2
  go_ret
  exact ⟨rfl, HG3.out⟩

set_option maxRecDepth 100000 in
set_option maxHeartbeats 1000000 in
theorem may0 (SC : Nat → Prop) (B : Nat) (G : PGraph) (nv ev rv iv : Value) (c : PCat) (o : POp) (w : World) (hc : CatR SC w nv ev rv iv c) (h1 : o.kind ≠ 1) (h2 : o.kind ≠ 2) (h3 : o.kind ≠ 3) (h4 : o.kind ≠ 4) (h5 : o.kind ≠ 5) :
    Calls Tryz.prog 74 #[.pointer (some ⟨B, 0, none⟩), c.arg nv ev rv iv, o.args] w fun e w' => e = .returned (.int .i64 (mayG c o G)) ∧ Grow w w' := by
  have HM := Lib.hid (show mayG c o G = 150 by unfold mayG; rw [if_neg h1, if_neg h2, if_neg h3, if_neg h4, if_neg h5])
  have HA := Lib.hid (fun w => acts0 o.kind w h1 h2 h3 h4 h5)
  obtain ⟨na, nc, ea, ec, ra, rc, ia, ic, rfl, rfl, rfl, rfl⟩ := hc.slices
  have HW := Lib.hid (show ∀ o1 o2, Grow w ((w.alloc o1).alloc o2) from fun o1 o2 => ((Grow.rfl' w).allocd o1).allocd o2)
  clear hc h1 h2 h3 h4 h5
  go_enter Tryz.func74, Tryz.ntmps74
  go_wp2_with fail
  refine (HA.out _).mono ?_
  rintro e w2 ⟨rfl, hg⟩
  have HG2 := Lib.hid ((HW.out _ _).step hg)
  clear hg
  go_wp2
  go_ret
  exact ⟨by rw [HM.out]; rfl, HG2.out.allocd _⟩

theorem graphMay (S SC : Nat → Prop) (B : Nat) (G : PGraph) (nv ev rv iv : Value) (c : PCat) (o : POp) (w : World) (h : GraphOk 120 S w B G) (hG : GInv G) (hc : CatR SC w nv ev rv iv c) :
    Calls Tryz.prog 74 #[.pointer (some ⟨B, 0, none⟩), c.arg nv ev rv iv, o.args] w fun e w' => e = .returned (.int .i64 (mayG c o G)) ∧ Grow w w' := by
  by_cases h1 : o.kind = 1
  · exact may1 S SC B G nv ev rv iv c o w h hG hc h1
  by_cases h2 : o.kind = 2
  · exact may2 S SC B G nv ev rv iv c o w h hG hc h2
  by_cases h3 : o.kind = 3
  · exact may3 S SC B G nv ev rv iv c o w h hG hc h3
  by_cases h4 : o.kind = 4
  · exact may4 S SC B G nv ev rv iv c o w h hG hc h4
  by_cases h5 : o.kind = 5
  · exact may5 S SC B G nv ev rv iv c o w h hG hc h5
  exact may0 SC B G nv ev rv iv c o w hc h1 h2 h3 h4 h5

set_option maxRecDepth 100000 in
set_option maxHeartbeats 1000000 in
theorem graphDoNil (nv ev rv iv : Value) (c : PCat) (o : POp) (SC : Nat → Prop) (w : World) (hc : CatR SC w nv ev rv iv c) :
    Calls Tryz.prog 22 #[.pointer none, c.arg nv ev rv iv, o.args] w fun e w' => e = .returned (.tuple #[.int .i64 0, .int .i64 1]) ∧ Grow w w' := by
  have HC := Lib.hid hc
  obtain ⟨na, nc, ea, ec, ra, rc, ia, ic, rfl, rfl, rfl, rfl⟩ := hc.slices
  have HW := Lib.hid (show ∀ o1 o2, Grow w ((w.alloc o1).alloc o2) from fun o1 o2 => ((Grow.rfl' w).allocd o1).allocd o2)
  clear hc
  go_enter Tryz.func22, Tryz.ntmps22
  go_wp2_with fail
  refine (graphMayNil _ _ _ _ c o SC _ (HC.out.grow (HW.out _ _))).mono ?_
  rintro e w2 ⟨rfl, hg⟩
  have HG2 := Lib.hid ((HW.out _ _).step hg)
  clear hg
  go_wp2
  go_ret2
  exact ⟨rfl, HG2.out⟩

/-- what Do leaves -/
def DoPost (S : Nat → Prop) (B : Nat) (G : PGraph) (c : PCat) (o : POp) (w : World) (e : Ending) (w' : World) : Prop :=
  e = .returned (.tuple #[.int .i64 (if mayG c o G = 0 then idG o G else 0), .int .i64 (mayG c o G)]) ∧ GraphOk 120 (fun b => S b ∨ w.heap.size ≤ b) w' B (stepG c o G) ∧ Mod S w w'

set_option maxRecDepth 100000 in
set_option maxHeartbeats 1000000 in
theorem doNo (S SC : Nat → Prop) (B : Nat) (G : PGraph) (nv ev rv iv : Value) (c : PCat) (o : POp) (w : World) (h : GraphOk 120 S w B G) (hG : GInv G) (hc : CatR SC w nv ev rv iv c) (hm : ¬ mayG c o G = 0) :
    Calls Tryz.prog 22 #[.pointer (some ⟨B, 0, none⟩), c.arg nv ev rv iv, o.args] w (DoPost S B G c o w) := by
  have HGR := Lib.hid h; have HI := Lib.hid hG; have HC := Lib.hid hc; have HM := Lib.hid hm
  obtain ⟨na, nc, ea, ec, ra, rc, ia, ic, rfl, rfl, rfl, rfl⟩ := hc.slices
  have HW := Lib.hid (show ∀ o1 o2, Grow w ((w.alloc o1).alloc o2) from fun o1 o2 => ((Grow.rfl' w).allocd o1).allocd o2)
  have hmb : (mayG c o G == 0) = false := by simpa using hm
  clear h hc hG
  go_enter Tryz.func22, Tryz.ntmps22
  go_wp2_with fail
  refine (graphMay S SC B G _ _ _ _ c o _ (HGR.out.grow (HW.out _ _)) HI.out (HC.out.grow (HW.out _ _))).mono ?_
  rintro e w2 ⟨rfl, hg⟩
  have HG2 := Lib.hid ((HW.out _ _).step hg)
  clear hg
  go_wp2
  go_ret2
  refine ⟨by rw [if_neg HM.out]; rfl, ?_, Mod.of_grow HG2.out⟩
  unfold stepG
  rw [if_neg HM.out]
  exact (HGR.out.grow HG2.out).sub (fun b hb => .inl hb)

theorem may_full1 {c : PCat} {G : PGraph} {id from_ to_ : Int} {typ name : ByteArray} {v : PVal} {cascade : Bool} (h : mayG c ⟨1, id, typ, from_, to_, name, v, cascade⟩ G = 0) : fullG G = false := by
  unfold mayG at h
  cases hf : fullG G
  · rfl
  · simp only [hf] at h
    simp at h
    split at h <;> simp at h
set_option maxRecDepth 100000 in
set_option maxHeartbeats 1000000 in
theorem do1 (S SC : Nat → Prop) (B : Nat) (G : PGraph) (nv ev rv iv : Value) (c : PCat) (o : POp) (w : World) (h : GraphOk 120 S w B G) (hG : GInv G) (hc : CatR SC w nv ev rv iv c) (hm : mayG c o G = 0) (hk : o.kind = 1) :
    Calls Tryz.prog 22 #[.pointer (some ⟨B, 0, none⟩), c.arg nv ev rv iv, o.args] w (DoPost S B G c o w) := by
  have HGR := Lib.hid h; have HI := Lib.hid hG; have HC := Lib.hid hc
  obtain ⟨kind, id, typ, from_, to_, name, v, cascade⟩ := o
  subst hk
  have HM := Lib.hid hm
  obtain ⟨na, nc, ea, ec, ra, rc, ia, ic, rfl, rfl, rfl, rfl⟩ := hc.slices
  have HW := Lib.hid (show ∀ o1 o2, Grow w ((w.alloc o1).alloc o2) from fun o1 o2 => ((Grow.rfl' w).allocd o1).allocd o2)
  have HBX := Lib.hid (boxes w (.slice na c.nodes.length nc) (.slice ea c.edges.length ec) (.slice ra c.rules.length rc) (.slice ia c.indexes.length ic) c ⟨1, id, typ, from_, to_, name, v, cascade⟩)
  clear h hc hG hm
  go_enter Tryz.func22, Tryz.ntmps22
  go_wp2_with fail
  refine (graphMay S SC B G _ _ _ _ c ⟨1, id, typ, from_, to_, name, v, cascade⟩ _ (HGR.out.grow (HW.out _ _)) HI.out (HC.out.grow (HW.out _ _))).mono ?_
  rintro e w2 ⟨rfl, hg⟩
  rw [HM.out]
  have HG2 := Lib.hid ((HW.out _ _).step hg)
  have HOP2 := Lib.hid (HBX.out.2.grow hg)
  obtain ⟨hl2, c0, -⟩ := HOP2.out.at
  clear hg
  go_wp2_with fail
  refine (acts1 _).mono ?_
  rintro e w3 ⟨rfl, hg⟩
  have HG3 := Lib.hid (HG2.out.step hg)
  clear hl2 c0
  obtain ⟨hl2, c0, c1, c2, c3, c4, c5, c6, c7, c8, c9⟩ := (HOP2.out.grow hg).at
  clear hg
  go_wp2_with fail
  refine (addNode S B G ⟨1, id, typ, from_, to_, name, v, cascade⟩ _ (HGR.out.grow (HG3.out.allocd _)) HI.out (may_full1 HM.out)).mono ?_
  rintro e w4 ⟨rfl, hgr, hmd⟩
  have HGR4 := Lib.hid hgr; have HMD := Lib.hid ((Mod.of_grow (HG3.out.allocd _)).step hmd)
  clear hgr hmd c0 c1 c2 c3 c4 c5 c6 c7 c8 c9
  go_wp2
  go_ret2
  refine ⟨by rw [if_pos HM.out, HM.out]; rfl, ?_, HMD.out⟩
  unfold stepG
  rw [if_pos HM.out]
  exact HGR4.out.sub (fun b hb => hb.imp (fun x => x) (fun h => Nat.le_trans (HG3.out.allocd _).size h))

theorem may_has2 {c : PCat} {G : PGraph} {id from_ to_ : Int} {typ name : ByteArray} {v : PVal} {cascade : Bool} (h : mayG c ⟨2, id, typ, from_, to_, name, v, cascade⟩ G = 0) : hasN G id = true := by
  unfold mayG at h
  cases hf : hasN G id
  · simp [hf] at h
  · rfl
set_option maxRecDepth 100000 in
set_option maxHeartbeats 1000000 in
theorem do2 (S SC : Nat → Prop) (B : Nat) (G : PGraph) (nv ev rv iv : Value) (c : PCat) (o : POp) (w : World) (h : GraphOk 120 S w B G) (hG : GInv G) (hc : CatR SC w nv ev rv iv c) (hm : mayG c o G = 0) (hk : o.kind = 2) :
    Calls Tryz.prog 22 #[.pointer (some ⟨B, 0, none⟩), c.arg nv ev rv iv, o.args] w (DoPost S B G c o w) := by
  have HGR := Lib.hid h; have HI := Lib.hid hG; have HC := Lib.hid hc
  obtain ⟨kind, id, typ, from_, to_, name, v, cascade⟩ := o
  subst hk
  have HM := Lib.hid hm
  obtain ⟨na, nc, ea, ec, ra, rc, ia, ic, rfl, rfl, rfl, rfl⟩ := hc.slices
  have HW := Lib.hid (show ∀ o1 o2, Grow w ((w.alloc o1).alloc o2) from fun o1 o2 => ((Grow.rfl' w).allocd o1).allocd o2)
  have HBX := Lib.hid (boxes w (.slice na c.nodes.length nc) (.slice ea c.edges.length ec) (.slice ra c.rules.length rc) (.slice ia c.indexes.length ic) c ⟨2, id, typ, from_, to_, name, v, cascade⟩)
  clear h hc hG hm
  go_enter Tryz.func22, Tryz.ntmps22
  go_wp2_with fail
  refine (graphMay S SC B G _ _ _ _ c ⟨2, id, typ, from_, to_, name, v, cascade⟩ _ (HGR.out.grow (HW.out _ _)) HI.out (HC.out.grow (HW.out _ _))).mono ?_
  rintro e w2 ⟨rfl, hg⟩
  rw [HM.out]
  have HG2 := Lib.hid ((HW.out _ _).step hg)
  have HOP2 := Lib.hid (HBX.out.2.grow hg)
  obtain ⟨hl2, c0, -⟩ := HOP2.out.at
  clear hg
  go_wp2_with fail
  refine (acts2 _).mono ?_
  rintro e w3 ⟨rfl, hg⟩
  have HG3 := Lib.hid (HG2.out.step hg)
  clear hl2 c0
  obtain ⟨hl2, c0, c1, c2, c3, c4, c5, c6, c7, c8, c9⟩ := (HOP2.out.grow hg).at
  clear hg
  go_wp2_with fail
  refine (dropNode S B G ⟨2, id, typ, from_, to_, name, v, cascade⟩ _ (HGR.out.grow (HG3.out.allocd _)) HI.out (may_has2 HM.out)).mono ?_
  rintro e w4 ⟨rfl, hgr, hmd⟩
  have HGR4 := Lib.hid hgr; have HMD := Lib.hid ((Mod.of_grow (HG3.out.allocd _)).step hmd)
  clear hgr hmd c0 c1 c2 c3 c4 c5 c6 c7 c8 c9
  go_wp2
  go_ret2
  refine ⟨by rw [if_pos HM.out, HM.out]; rfl, ?_, HMD.out⟩
  unfold stepG
  rw [if_pos HM.out]
  exact HGR4.out.sub (fun b hb => .inl hb)

theorem may_full3 {c : PCat} {G : PGraph} {id from_ to_ : Int} {typ name : ByteArray} {v : PVal} {cascade : Bool} (h : mayG c ⟨3, id, typ, from_, to_, name, v, cascade⟩ G = 0) : fullG G = false := by
  unfold mayG at h
  cases hf : fullG G
  · rfl
  · simp only [hf] at h
    simp at h
    repeat (first | (split at h) | (simp at h))
set_option maxRecDepth 100000 in
set_option maxHeartbeats 1000000 in
theorem do3 (S SC : Nat → Prop) (B : Nat) (G : PGraph) (nv ev rv iv : Value) (c : PCat) (o : POp) (w : World) (h : GraphOk 120 S w B G) (hG : GInv G) (hc : CatR SC w nv ev rv iv c) (hm : mayG c o G = 0) (hk : o.kind = 3) :
    Calls Tryz.prog 22 #[.pointer (some ⟨B, 0, none⟩), c.arg nv ev rv iv, o.args] w (DoPost S B G c o w) := by
  have HGR := Lib.hid h; have HI := Lib.hid hG; have HC := Lib.hid hc
  obtain ⟨kind, id, typ, from_, to_, name, v, cascade⟩ := o
  subst hk
  have HM := Lib.hid hm
  obtain ⟨na, nc, ea, ec, ra, rc, ia, ic, rfl, rfl, rfl, rfl⟩ := hc.slices
  have HW := Lib.hid (show ∀ o1 o2, Grow w ((w.alloc o1).alloc o2) from fun o1 o2 => ((Grow.rfl' w).allocd o1).allocd o2)
  have HBX := Lib.hid (boxes w (.slice na c.nodes.length nc) (.slice ea c.edges.length ec) (.slice ra c.rules.length rc) (.slice ia c.indexes.length ic) c ⟨3, id, typ, from_, to_, name, v, cascade⟩)
  clear h hc hG hm
  go_enter Tryz.func22, Tryz.ntmps22
  go_wp2_with fail
  refine (graphMay S SC B G _ _ _ _ c ⟨3, id, typ, from_, to_, name, v, cascade⟩ _ (HGR.out.grow (HW.out _ _)) HI.out (HC.out.grow (HW.out _ _))).mono ?_
  rintro e w2 ⟨rfl, hg⟩
  rw [HM.out]
  have HG2 := Lib.hid ((HW.out _ _).step hg)
  have HOP2 := Lib.hid (HBX.out.2.grow hg)
  obtain ⟨hl2, c0, -⟩ := HOP2.out.at
  clear hg
  go_wp2_with fail
  refine (acts3 _).mono ?_
  rintro e w3 ⟨rfl, hg⟩
  have HG3 := Lib.hid (HG2.out.step hg)
  clear hl2 c0
  obtain ⟨hl2, c0, c1, c2, c3, c4, c5, c6, c7, c8, c9⟩ := (HOP2.out.grow hg).at
  clear hg
  go_wp2_with fail
  refine (addEdge S B G ⟨3, id, typ, from_, to_, name, v, cascade⟩ _ (HGR.out.grow (HG3.out.allocd _)) HI.out (may_full3 HM.out)).mono ?_
  rintro e w4 ⟨rfl, hgr, hmd⟩
  have HGR4 := Lib.hid hgr; have HMD := Lib.hid ((Mod.of_grow (HG3.out.allocd _)).step hmd)
  clear hgr hmd c0 c1 c2 c3 c4 c5 c6 c7 c8 c9
  go_wp2
  go_ret2
  refine ⟨by rw [if_pos HM.out, HM.out]; rfl, ?_, HMD.out⟩
  unfold stepG
  rw [if_pos HM.out]
  exact HGR4.out.sub (fun b hb => hb.imp (fun x => x) (fun h => Nat.le_trans (HG3.out.allocd _).size h))

theorem may_has4 {c : PCat} {G : PGraph} {id from_ to_ : Int} {typ name : ByteArray} {v : PVal} {cascade : Bool} (h : mayG c ⟨4, id, typ, from_, to_, name, v, cascade⟩ G = 0) : hasE G id = true := by
  unfold mayG at h
  cases hf : hasE G id
  · simp [hf] at h
  · rfl
set_option maxRecDepth 100000 in
set_option maxHeartbeats 1000000 in
theorem do4 (S SC : Nat → Prop) (B : Nat) (G : PGraph) (nv ev rv iv : Value) (c : PCat) (o : POp) (w : World) (h : GraphOk 120 S w B G) (hG : GInv G) (hc : CatR SC w nv ev rv iv c) (hm : mayG c o G = 0) (hk : o.kind = 4) :
    Calls Tryz.prog 22 #[.pointer (some ⟨B, 0, none⟩), c.arg nv ev rv iv, o.args] w (DoPost S B G c o w) := by
  have HGR := Lib.hid h; have HI := Lib.hid hG; have HC := Lib.hid hc
  obtain ⟨kind, id, typ, from_, to_, name, v, cascade⟩ := o
  subst hk
  have HM := Lib.hid hm
  obtain ⟨na, nc, ea, ec, ra, rc, ia, ic, rfl, rfl, rfl, rfl⟩ := hc.slices
  have HW := Lib.hid (show ∀ o1 o2, Grow w ((w.alloc o1).alloc o2) from fun o1 o2 => ((Grow.rfl' w).allocd o1).allocd o2)
  have HBX := Lib.hid (boxes w (.slice na c.nodes.length nc) (.slice ea c.edges.length ec) (.slice ra c.rules.length rc) (.slice ia c.indexes.length ic) c ⟨4, id, typ, from_, to_, name, v, cascade⟩)
  clear h hc hG hm
  go_enter Tryz.func22, Tryz.ntmps22
  go_wp2_with fail
  refine (graphMay S SC B G _ _ _ _ c ⟨4, id, typ, from_, to_, name, v, cascade⟩ _ (HGR.out.grow (HW.out _ _)) HI.out (HC.out.grow (HW.out _ _))).mono ?_
  rintro e w2 ⟨rfl, hg⟩
  rw [HM.out]
  have HG2 := Lib.hid ((HW.out _ _).step hg)
  have HOP2 := Lib.hid (HBX.out.2.grow hg)
  obtain ⟨hl2, c0, -⟩ := HOP2.out.at
  clear hg
  go_wp2_with fail
  refine (acts4 _).mono ?_
  rintro e w3 ⟨rfl, hg⟩
  have HG3 := Lib.hid (HG2.out.step hg)
  clear hl2 c0
  obtain ⟨hl2, c0, c1, c2, c3, c4, c5, c6, c7, c8, c9⟩ := (HOP2.out.grow hg).at
  clear hg
  go_wp2_with fail
  refine (dropEdge S B G ⟨4, id, typ, from_, to_, name, v, cascade⟩ _ (HGR.out.grow (HG3.out.allocd _)) HI.out (may_has4 HM.out)).mono ?_
  rintro e w4 ⟨rfl, hgr, hmd⟩
  have HGR4 := Lib.hid hgr; have HMD := Lib.hid ((Mod.of_grow (HG3.out.allocd _)).step hmd)
  clear hgr hmd c0 c1 c2 c3 c4 c5 c6 c7 c8 c9
  go_wp2
  go_ret2
  refine ⟨by rw [if_pos HM.out, HM.out]; rfl, ?_, HMD.out⟩
  unfold stepG
  rw [if_pos HM.out]
  exact HGR4.out.sub (fun b hb => .inl hb)

theorem may_find5 {c : PCat} {G : PGraph} {id from_ to_ : Int} {typ name : ByteArray} {v : PVal} {cascade : Bool} (h : mayG c ⟨5, id, typ, from_, to_, name, v, cascade⟩ G = 0) : ∃ ps, findP G id = some ps := by
  unfold mayG at h
  cases hf : findP G id
  · simp [hf] at h
    split at h <;> simp at h
  · exact ⟨_, rfl⟩
set_option maxRecDepth 100000 in
set_option maxHeartbeats 1000000 in
theorem do5 (S SC : Nat → Prop) (B : Nat) (G : PGraph) (nv ev rv iv : Value) (c : PCat) (o : POp) (w : World) (h : GraphOk 120 S w B G) (hG : GInv G) (hc : CatR SC w nv ev rv iv c) (hm : mayG c o G = 0) (hk : o.kind = 5) :
    Calls Tryz.prog 22 #[.pointer (some ⟨B, 0, none⟩), c.arg nv ev rv iv, o.args] w (DoPost S B G c o w) := by
  have HGR := Lib.hid h; have HI := Lib.hid hG; have HC := Lib.hid hc
  obtain ⟨kind, id, typ, from_, to_, name, v, cascade⟩ := o
  subst hk
  have HM := Lib.hid hm
  obtain ⟨ps, hps⟩ := may_find5 hm
  have HPS := Lib.hid hps; clear hps
  obtain ⟨na, nc, ea, ec, ra, rc, ia, ic, rfl, rfl, rfl, rfl⟩ := hc.slices
  have HW := Lib.hid (show ∀ o1 o2, Grow w ((w.alloc o1).alloc o2) from fun o1 o2 => ((Grow.rfl' w).allocd o1).allocd o2)
  have HBX := Lib.hid (boxes w (.slice na c.nodes.length nc) (.slice ea c.edges.length ec) (.slice ra c.rules.length rc) (.slice ia c.indexes.length ic) c ⟨5, id, typ, from_, to_, name, v, cascade⟩)
  clear h hc hG hm
  go_enter Tryz.func22, Tryz.ntmps22
  go_wp2_with fail
  refine (graphMay S SC B G _ _ _ _ c ⟨5, id, typ, from_, to_, name, v, cascade⟩ _ (HGR.out.grow (HW.out _ _)) HI.out (HC.out.grow (HW.out _ _))).mono ?_
  rintro e w2 ⟨rfl, hg⟩
  rw [HM.out]
  have HG2 := Lib.hid ((HW.out _ _).step hg)
  have HOP2 := Lib.hid (HBX.out.2.grow hg)
  obtain ⟨hl2, c0, -⟩ := HOP2.out.at
  clear hg
  go_wp2_with fail
  refine (acts5 _).mono ?_
  rintro e w3 ⟨rfl, hg⟩
  have HG3 := Lib.hid (HG2.out.step hg)
  clear hl2 c0
  obtain ⟨hl2, c0, c1, c2, c3, c4, c5, c6, c7, c8, c9⟩ := (HOP2.out.grow hg).at
  clear hg
  go_wp2_with fail
  refine (setProp S B G ⟨5, id, typ, from_, to_, name, v, cascade⟩ ps _ (HGR.out.grow (HG3.out.allocd _)) HI.out HPS.out).mono ?_
  rintro e w4 ⟨rfl, hgr, hmd⟩
  have HGR4 := Lib.hid hgr; have HMD := Lib.hid ((Mod.of_grow (HG3.out.allocd _)).step hmd)
  clear hgr hmd c0 c1 c2 c3 c4 c5 c6 c7 c8 c9
  go_wp2
  go_ret2
  refine ⟨by rw [if_pos HM.out, HM.out]; rfl, ?_, HMD.out⟩
  unfold stepG
  rw [if_pos HM.out]
  exact HGR4.out.sub (fun b hb => hb.imp (fun x => x) (fun h => Nat.le_trans (HG3.out.allocd _).size h))

theorem may_kind {c : PCat} {o : POp} {G : PGraph} (h : mayG c o G = 0) : o.kind = 1 ∨ o.kind = 2 ∨ o.kind = 3 ∨ o.kind = 4 ∨ o.kind = 5 := by
  by_cases h1 : o.kind = 1
  · exact .inl h1
  by_cases h2 : o.kind = 2
  · exact .inr (.inl h2)
  by_cases h3 : o.kind = 3
  · exact .inr (.inr (.inl h3))
  by_cases h4 : o.kind = 4
  · exact .inr (.inr (.inr (.inl h4)))
  by_cases h5 : o.kind = 5
  · exact .inr (.inr (.inr (.inr h5)))
  unfold mayG at h
  rw [if_neg h1, if_neg h2, if_neg h3, if_neg h4, if_neg h5] at h
  simp at h
theorem graphDo (S SC : Nat → Prop) (B : Nat) (G : PGraph) (nv ev rv iv : Value) (c : PCat) (o : POp) (w : World) (h : GraphOk 120 S w B G) (hG : GInv G) (hc : CatR SC w nv ev rv iv c) :
    Calls Tryz.prog 22 #[.pointer (some ⟨B, 0, none⟩), c.arg nv ev rv iv, o.args] w (DoPost S B G c o w) := by
  by_cases hm : mayG c o G = 0
  · rcases may_kind hm with hk | hk | hk | hk | hk
    · exact do1 S SC B G nv ev rv iv c o w h hG hc hm hk
    · exact do2 S SC B G nv ev rv iv c o w h hG hc hm hk
    · exact do3 S SC B G nv ev rv iv c o w h hG hc hm hk
    · exact do4 S SC B G nv ev rv iv c o w h hG hc hm hk
    · exact do5 S SC B G nv ev rv iv c o w h hG hc hm hk
  · exact doNo S SC B G nv ev rv iv c o w h hG hc hm
end Go.Hg

namespace Go.Hg
open Go.RowKit Go.Proofs

abbrev OpsR (S : Nat → Prop) (w : World) (v : Value) (l : List POp) : Prop := SlR S w 10 (fun o r => r = POp.cells o) v l
def largeV (v : PVal) : Bool := decide (5000 < v.s.size)
def largeO (o : POp) : Bool := decide (1000 < o.typ.size) || (decide (1000 < o.name.size) || largeV o.v)
def fairOps (l : List POp) : Bool := (l.all fun o => !largeO o) && decide (l.length ≤ 200)

set_option maxHeartbeats 400000 in
theorem keepLargeValue (v : PVal) (w : World) : Calls Tryz.prog 126 #[.agg #[.int .i64 v.kind, .int .i64 v.n, .string v.s]] w fun e w' => e = .returned (.bool (largeV v)) ∧ Grow w w' := by
  have HW := Lib.hid (show ∀ o1, Grow w (w.alloc o1) from fun o1 => (Grow.rfl' w).allocd o1)
  have hd : decide ((5000 : Int) < (v.s.size : Int)) = largeV v := by unfold largeV; by_cases h : 5000 < v.s.size <;> simp [h] <;> omega
  go_enter Tryz.func126, Tryz.ntmps126
  go_wp2
  go_ret
  exact ⟨by first | (rw [← hd]; rfl) | rfl, HW.out _⟩

set_option maxRecDepth 100000 in
set_option maxHeartbeats 1000000 in
theorem keepLargeOp (o : POp) (w : World) : Calls Tryz.prog 84 #[o.args] w fun e w' => e = .returned (.bool (largeO o)) ∧ Grow w w' := by
  have HW := Lib.hid (show ∀ o1, Grow w (w.alloc o1) from fun o1 => (Grow.rfl' w).allocd o1)
  have HX := Lib.hid (show largeO o = (decide (1000 < o.typ.size) || (decide (1000 < o.name.size) || largeV o.v)) from rfl)
  have hd1 : decide ((1000 : Int) < (o.typ.size : Int)) = decide (1000 < o.typ.size) := by by_cases h : 1000 < o.typ.size <;> simp [h] <;> omega
  have hd2 : decide ((1000 : Int) < (o.name.size : Int)) = decide (1000 < o.name.size) := by by_cases h : 1000 < o.name.size <;> simp [h] <;> omega
  cases q1 : decide (1000 < o.typ.size)
  · rw [q1] at hd1
    cases q2 : decide (1000 < o.name.size)
    · rw [q2] at hd2
      have HY := Lib.hid (show largeO o = largeV o.v by rw [HX.out, q1, q2]; rfl)
      clear q1 q2
      go_enter Tryz.func84, Tryz.ntmps84
      go_wp2_with fail
      refine (keepLargeValue o.v _).mono ?_
      rintro e w2 ⟨rfl, hg⟩
      have HG := Lib.hid ((HW.out _).step hg); clear hg
      go_wp2
      go_ret
      exact ⟨by rw [HY.out]; rfl, HG.out⟩
    · rw [q2] at hd2
      have HY := Lib.hid (show largeO o = true by rw [HX.out, q1, q2]; rfl)
      clear q1 q2
      go_enter Tryz.func84, Tryz.ntmps84
      go_wp2
      go_ret
      exact ⟨by rw [HY.out]; rfl, HW.out _⟩
  · rw [q1] at hd1
    have HY := Lib.hid (show largeO o = true by rw [HX.out, q1]; rfl)
    clear q1
    go_enter Tryz.func84, Tryz.ntmps84
    go_wp2
    go_ret
    exact ⟨by rw [HY.out]; rfl, HW.out _⟩

/-- an operation's cells, read -/
theorem opCells {w wr : World} {o : POp} {r : List Value} {b off : Nat} (h : r = o.cells) (hb : b < w.heap.size) (g : Grow w wr) (hc : ∀ (j : Nat) c, r[j]? = some c → w.cell? ⟨b, off + j, none⟩ = some c) :
    b < wr.heap.size ∧ wr.cell? ⟨b, off, none⟩ = some (.int .i64 o.kind) ∧ wr.cell? ⟨b, off + 1, none⟩ = some (.int .i64 o.id) ∧ wr.cell? ⟨b, off + 2, none⟩ = some (.string o.typ) ∧
    wr.cell? ⟨b, off + 3, none⟩ = some (.int .i64 o.from_) ∧ wr.cell? ⟨b, off + 4, none⟩ = some (.int .i64 o.to_) ∧ wr.cell? ⟨b, off + 5, none⟩ = some (.string o.name) ∧ wr.cell? ⟨b, off + 6, none⟩ = some (.int .i64 o.v.kind) ∧
    wr.cell? ⟨b, off + 7, none⟩ = some (.int .i64 o.v.n) ∧ wr.cell? ⟨b, off + 8, none⟩ = some (.string o.v.s) ∧ wr.cell? ⟨b, off + 9, none⟩ = some (.bool o.cascade) := by
  subst h
  have e : ∀ o', wr.cell? ⟨b, o', none⟩ = w.cell? ⟨b, o', none⟩ := fun o' => World.cell?_of_block (w := w) (g.heapEq hb)
  have hs := g.size
  refine ⟨by omega, ?_, ?_, ?_, ?_, ?_, ?_, ?_, ?_, ?_, ?_⟩ <;> rw [e]
  · exact hc 0 _ rfl
  · exact hc 1 _ rfl
  · exact hc 2 _ rfl
  · exact hc 3 _ rfl
  · exact hc 4 _ rfl
  · exact hc 5 _ rfl
  · exact hc 6 _ rfl
  · exact hc 7 _ rfl
  · exact hc 8 _ rfl
  · exact hc 9 _ rfl

set_option maxRecDepth 100000 in
set_option maxHeartbeats 1000000 in
theorem lawFair (S : Nat → Prop) (v : Value) (l : List POp) (w : World) (hl : OpsR S w v l) :
    Calls Tryz.prog 36 #[v] w fun e w' => e = .returned (.bool (fairOps l)) ∧ Grow w w' := by
  obtain ⟨aa, ca, rfl, hal, hac, hA⟩ := SlR.open hl
  clear hl
  unfold maxLen at hac
  have HA := Lib.hid hA; clear hA
  have hd : decide ((l.length : Int) ≤ 200) = decide (l.length ≤ 200) := by by_cases h : l.length ≤ 200 <;> simp [h] <;> omega
  have HDD := Lib.hid hd; clear hd
  go_enter Tryz.func36, Tryz.ntmps36
  go_wp2
  go_loopg [3] l.length (fun g i wr => ∃ k : Nat, k ≤ l.length ∧ g = l.length - k ∧ i = .int .i64 k ∧ (∀ y ∈ l.take k, largeO y = false) ∧ Grow w wr)
  case atStart => exact ⟨0, by omega, by omega, rfl, by simp, Grow.rfl' w⟩
  case round =>
    obtain ⟨k, hk, rfl, rfl, hall, hgr⟩ := hrel
    have HALL := Lib.hid hall; have HGR := Lib.hid hgr; clear hall
    by_cases hkl : k < l.length
    · obtain ⟨ba, oa, ra, rfl, hSa, hba, hRa, hca⟩ := HA.out k l[k] (List.getElem?_eq_getElem hkl)
      obtain ⟨hba', a0, a1, a2, a3, a4, a5, a6, a7, a8, a9⟩ := opCells hRa hba hgr hca
      clear hca hRa hSa hba hgr
      have HM := Lib.hid (show l[k] ∈ l from List.getElem_mem hkl)
      have HT := Lib.hid (show l.take (k + 1) = l.take k ++ [l[k]] from List.take_succ_eq_append_getElem hkl)
      generalize l[k] = x at *
      go_wp2_with fail
      refine (keepLargeOp x _).mono ?_
      rintro e w2 ⟨rfl, hg⟩
      have HG := Lib.hid (HGR.out.step hg); clear hg
      cases hx : largeO x
      · go_wp2_with fail
        go_roundg (l.length - (k + 1))
        case measure => omega
        case rel => exact ⟨k + 1, by omega, rfl, by go_num, by rw [HT.out]; intro y hy; rcases List.mem_append.1 hy with h | h; exact HALL.out y h; simp at h; subst h; exact hx, HG.out⟩
      · have HF := Lib.hid (show fairOps l = false by unfold fairOps; rw [List.all_eq_false.2 ⟨x, HM.out, by rw [hx]; simp⟩]; rfl)
        go_wp2
        go_ret
        exact ⟨by rw [HF.out]; rfl, HG.out⟩
    · have HF := Lib.hid (show fairOps l = decide (l.length ≤ 200) by
        have h1 : l.take k = l := List.take_of_length_le (by omega)
        have h2 := HALL.out
        rw [h1] at h2
        unfold fairOps
        rw [List.all_eq_true.2 (fun y hy => by rw [h2 y hy]; rfl)]
        rfl)
      have hd := HDD.out
      clear hgr
      go_wp2
      go_ret
      exact ⟨by rw [HF.out]; first | rfl | (rw [← hd]; rfl), HGR.out⟩

theorem results_cell1 {fn : Func} {p : Tmp} {ty : TypeId} (h : fn.results = #[.cell p ty]) (tmps : Array Value) (P : Program) (w : World) :
    (results fn tmps).run P w = ((asAddr (tmps.getD p undef)).run P w).andThen fun a w₁ => (loadVar ty a).run P w₁ := by
  simp only [results, h]
  simp [Sem.run_bind, Result.andThen]

def sCity : ByteArray := ⟨#[99, 105, 116, 121]⟩
def sMan : ByteArray := ⟨#[109, 97, 110]⟩
def sZoo : ByteArray := ⟨#[122, 111, 111]⟩
def sKnows : ByteArray := ⟨#[107, 110, 111, 119, 115]⟩
def sRoad : ByteArray := ⟨#[114, 111, 97, 100]⟩
def typesC : PCat := ⟨[sCity, sMan, sZoo], [sKnows, sRoad], [], [], 1⟩

theorem strsLit (w : World) (l : List ByteArray) (E : TypeId) (hm : l.length ≤ maxLen) : StrsR (fun b => w.heap.size ≤ b) (w.alloc (.cells (l.map Value.string).toArray E)) (.slice (some ⟨w.heap.size, 0, none⟩) l.length l.length) l := by
  have h := OwnS.lit w (l.map Value.string).toArray E 1 l.length hm (by simp)
  have h2 : OwnL (w.alloc (.cells (l.map Value.string).toArray E)) E 1 RStr (.slice (some ⟨w.heap.size, 0, none⟩) l.length l.length) l (some w.heap.size) := ⟨l.map (fun s => [.string s]), by simp, fun k x r hx hr => by
    rw [List.getElem?_map, hx] at hr
    simp only [Option.map_some, Option.some.injEq] at hr
    subst hr
    exact ⟨rfl, rfl⟩, by
    have e : (l.map fun s => [Value.string s]).flatten = (l.map Value.string).toArray.toList := by
      rw [List.toList_toArray]
      clear h hm
      induction l with
      | nil => rfl
      | cons a t ih => simp [ih]
    rw [e]; exact h⟩
  exact h2.toSl (fun g hg => by cases hg; exact Nat.le_refl _)

set_option maxRecDepth 100000 in
set_option maxHeartbeats 1000000 in
theorem lawTypes (w : World) : Calls Tryz.prog 23 #[] w fun e w' => ∃ nv ev, e = .returned (typesC.arg nv ev (.slice none 0 0) (.slice none 0 0)) ∧ CatR (fun b => w.heap.size ≤ b) w' nv ev (.slice none 0 0) (.slice none 0 0) typesC ∧ Grow w w' := by
  have H0 := Lib.hid (show ∀ o1, Grow w (w.alloc o1) from fun o1 => (Grow.rfl' w).allocd o1)
  go_enter Tryz.func23, Tryz.ntmps23
  go_wp2
  refine bodyPost_ret (v := typesC.arg (.slice (some ⟨w.heap.size + 1, 0, none⟩) 3 3) (.slice (some ⟨w.heap.size + 1 + 1, 0, none⟩) 2 2) (.slice none 0 0) (.slice none 0 0)) ?_ rfl ⟨_, _, rfl, ?_, ?_⟩
  · rw [results_cell1 rfl]
    go_simp
    rfl
  · have q1 := strsLit (w.alloc (.cells #[.slice (some ⟨w.heap.size + 1, 0, none⟩) 3 3, .slice (some ⟨w.heap.size + 1 + 1, 0, none⟩) 2 2, .slice none 0 0, .slice none 0 0, .int .i64 1] 52)) [sCity, sMan, sZoo] 9 (by simp [maxLen])
    have q2 := strsLit ((w.alloc (.cells #[.slice (some ⟨w.heap.size + 1, 0, none⟩) 3 3, .slice (some ⟨w.heap.size + 1 + 1, 0, none⟩) 2 2, .slice none 0 0, .slice none 0 0, .int .i64 1] 52)).alloc (.cells #[.string sCity, .string sMan, .string sZoo] 9)) [sKnows, sRoad] 9 (by simp [maxLen])
    simp only [World.size_alloc] at q1 q2
    refine ⟨SlR.sub (q1.growS ((Grow.rfl' _).allocd _)) (fun b hb => by omega) (fun _ _ _ h => h), SlR.sub q2 (fun b hb => by omega) (fun _ _ _ h => h), ?_, ?_⟩
    · exact (OwnL.nil _ 0 _ _).toSl (by simp)
    · exact (OwnL.nil _ 0 _ _).toSl (by simp)
  · exact (((Grow.rfl' w).allocd _).allocd _).allocd _
end Go.Hg

namespace Go.Hg
open Go.RowKit Go.Proofs

def getV (ps : List PProp) (name : ByteArray) : PVal := (getP ps name).getD ⟨0, 0, ByteArray.empty⟩
abbrev PVal.args (v : PVal) : Value := .agg #[.int .i64 v.kind, .int .i64 v.n, .string v.s]

set_option maxRecDepth 100000 in
set_option maxHeartbeats 2000000 in
theorem valGet (S : Nat → Prop) (v : Value) (ps : List PProp) (name : ByteArray) (w : World) (h : PropsR S w v ps) :
    Calls Tryz.prog 52 #[v, .string name] w fun e w' => e = .returned (.tuple #[(getV ps name).args, .bool (getP ps name).isSome]) ∧ Grow w w' := by
  obtain ⟨aa, ca, rfl, hal, hac, hA⟩ := SlR.open h
  clear h
  unfold maxLen at hac
  have HA := Lib.hid hA; clear hA
  have HNB := Lib.hid (show ∀ o1, (w.alloc o1).heap[w.heap.size]? = some o1 from fun o1 => heap_alloc_new w _)
  have HW := Lib.hid (show ∀ o1, Grow w (w.alloc o1) from fun o1 => (Grow.rfl' w).allocd o1)
  go_enter Tryz.func52, Tryz.ntmps52
  go_wp2
  go_loopg [10] ps.length (fun g i wr => ∃ k : Nat, k ≤ ps.length ∧ g = ps.length - k ∧ i = .int .i64 k ∧ (∀ y ∈ ps.take k, y.name ≠ name) ∧ Grow w wr ∧ wr.heap[w.heap.size]? = some (.cells #[.int .i64 0, .int .i64 0, .string ByteArray.empty] 42 (0, 0)))
  case atStart => exact ⟨0, by omega, by omega, rfl, by simp, HW.out _, HNB.out _⟩
  case round =>
    obtain ⟨k, hk, rfl, rfl, hall, hgr, hnb⟩ := hrel
    have hnl := blk_lt hnb
    have HALL := Lib.hid hall; have HG := Lib.hid hgr; have HB := Lib.hid hnb
    have z0 : wr.cell? ⟨w.heap.size, 0, none⟩ = some (.int .i64 0) := by rw [blk_cell hnb]; rfl
    have zf0 := blk_free hnb 0
    have z1 : wr.cell? ⟨w.heap.size, 1, none⟩ = some (.int .i64 0) := by rw [blk_cell hnb]; rfl
    have zf1 := blk_free hnb 1
    have z2 : wr.cell? ⟨w.heap.size, 2, none⟩ = some (.string ByteArray.empty) := by rw [blk_cell hnb]; rfl
    have zf2 := blk_free hnb 2
    clear hall hnb
    by_cases hkl : k < ps.length
    · obtain ⟨ba, oa, ra, rfl, hSa, hba, hRa, hca⟩ := HA.out k ps[k] (List.getElem?_eq_getElem hkl)
      obtain ⟨hba', a0, a1, a2, a3⟩ := hRa.at hba hgr hca
      clear hca hRa hSa hba hgr
      have HE := Lib.hid (show ps[k]? = some ps[k] from List.getElem?_eq_getElem hkl)
      have HT := Lib.hid (show ps.take (k + 1) = ps.take k ++ [ps[k]] from List.take_succ_eq_append_getElem hkl)
      generalize ps[k] = x at *
      by_cases hx : x.name = name
      · have HF := Lib.hid (getP_take HE.out hx HALL.out)
        go_wp2
        refine bodyPost_ret (v := .tuple #[x.v.args, .bool true]) ?_ rfl ⟨by unfold getV; rw [HF.out]; rfl, ?_⟩
        · rw [results_cell_tmp rfl]
          go_simp
        · exact ((((HG.out).setd (p := ⟨w.heap.size, 0, none⟩) (Nat.le_refl _) _).setd (p := ⟨w.heap.size, 1, none⟩) (Nat.le_refl _) _).setd (p := ⟨w.heap.size, 2, none⟩) (Nat.le_refl _) _).allocd _
      · have HX := Lib.hid hx
        go_wp2
        go_roundg (ps.length - (k + 1))
        case measure => omega
        case rel =>
          refine ⟨k + 1, by omega, rfl, by go_num, ?_, HG.out.allocd _, ?_⟩
          · rw [HT.out]
            intro y hy
            rcases List.mem_append.1 hy with h | h
            · exact HALL.out y h
            · rw [List.mem_singleton] at h
              subst h
              exact HX.out
          · exact (((Grow.rfl' wr).allocd _).heapEq hnl).trans HB.out
    · have hkk : ps.take k = ps := List.take_of_length_le (by omega)
      rw [hkk] at HALL
      have HF := Lib.hid (getP_none HALL.out)
      clear hkk
      go_wp2
      refine bodyPost_ret (v := .tuple #[.agg #[.int .i64 0, .int .i64 0, .string ByteArray.empty], .bool false]) ?_ rfl ⟨by unfold getV; rw [HF.out]; rfl, ?_⟩
      · rw [results_cell_tmp rfl]
        go_simp
        rfl
      · exact (((HG.out).setd (p := ⟨w.heap.size, 0, none⟩) (Nat.le_refl _) _).setd (p := ⟨w.heap.size, 1, none⟩) (Nat.le_refl _) _).setd (p := ⟨w.heap.size, 2, none⟩) (Nat.le_refl _) _
theorem find_take {α : Type} {p : α → Bool} {l : List α} {k : Nat} {x : α} (hk : l[k]? = some x) (hp : p x = true) (hall : ∀ y ∈ l.take k, p y = false) : l.find? p = some x := by
  induction l generalizing k with
  | nil => simp at hk
  | cons a t ih =>
    cases k with
    | zero =>
      simp at hk
      subst hk
      rw [List.find?_cons_of_pos hp]
    | succ k =>
      rw [List.find?_cons_of_neg (by rw [hall a (by simp)]; simp)]
      exact ih (k := k) (by simpa using hk) (fun y hy => hall y (by simp [hy]))
theorem typeN_take {nodes : List PNode} {id : Int} {k : Nat} {x : PNode} (hk : nodes[k]? = some x) (hx : x.id = id) (hall : ∀ y ∈ nodes.take k, y.id ≠ id) : typeN nodes id = some x.typ := by
  unfold typeN
  rw [find_take hk (by simpa using hx) (fun y hy => by simpa using hall y hy)]
  rfl
theorem typeN_none {nodes : List PNode} {id : Int} (hall : ∀ y ∈ nodes, y.id ≠ id) : typeN nodes id = none := by
  unfold typeN
  rw [List.find?_eq_none.2 (fun y hy => by simpa using hall y hy)]
  rfl

set_option maxRecDepth 100000 in
set_option maxHeartbeats 2000000 in
theorem refGet (S : Nat → Prop) (v : Value) (ps : List PProp) (name : ByteArray) (w : World) (h : PropsR S w v ps) :
    Calls Tryz.prog 107 #[v, .string name] w fun e w' => e = .returned (.agg #[.int .i64 (getV ps name).kind, .int .i64 (getV ps name).n, .string (getV ps name).s, .bool (getP ps name).isSome]) ∧ Grow w w' := by
  obtain ⟨aa, ca, rfl, hal, hac, hA⟩ := SlR.open h
  clear h
  unfold maxLen at hac
  have HA := Lib.hid hA; clear hA
  have HNB := Lib.hid (show ∀ o1, (w.alloc o1).heap[w.heap.size]? = some o1 from fun o1 => heap_alloc_new w _)
  have HW := Lib.hid (show ∀ o1, Grow w (w.alloc o1) from fun o1 => (Grow.rfl' w).allocd o1)
  go_enter Tryz.func107, Tryz.ntmps107
  go_wp2
  go_loopg [5] ps.length (fun g i wr => ∃ k : Nat, k ≤ ps.length ∧ g = ps.length - k ∧ i = .int .i64 k ∧ (∀ y ∈ ps.take k, y.name ≠ name) ∧ Grow w wr ∧ wr.heap[w.heap.size]? = some (.cells #[.int .i64 0, .int .i64 0, .string ByteArray.empty, .bool false] 171 (0, 0)))
  case atStart => exact ⟨0, by omega, by omega, rfl, by simp, HW.out _, HNB.out _⟩
  case round =>
    obtain ⟨k, hk, rfl, rfl, hall, hgr, hnb⟩ := hrel
    have hnl := blk_lt hnb
    have HALL := Lib.hid hall; have HG := Lib.hid hgr; have HB := Lib.hid hnb
    have z0 : wr.cell? ⟨w.heap.size, 0, none⟩ = some (.int .i64 0) := by rw [blk_cell hnb]; rfl
    have zf0 := blk_free hnb 0
    have z1 : wr.cell? ⟨w.heap.size, 1, none⟩ = some (.int .i64 0) := by rw [blk_cell hnb]; rfl
    have zf1 := blk_free hnb 1
    have z2 : wr.cell? ⟨w.heap.size, 2, none⟩ = some (.string ByteArray.empty) := by rw [blk_cell hnb]; rfl
    have zf2 := blk_free hnb 2
    have z3 : wr.cell? ⟨w.heap.size, 3, none⟩ = some (.bool false) := by rw [blk_cell hnb]; rfl
    have zf3 := blk_free hnb 3
    clear hall hnb
    by_cases hkl : k < ps.length
    · obtain ⟨ba, oa, ra, rfl, hSa, hba, hRa, hca⟩ := HA.out k ps[k] (List.getElem?_eq_getElem hkl)
      obtain ⟨hba', a0, a1, a2, a3⟩ := hRa.at hba hgr hca
      clear hca hRa hSa hba hgr
      have HE := Lib.hid (show ps[k]? = some ps[k] from List.getElem?_eq_getElem hkl)
      have HT := Lib.hid (show ps.take (k + 1) = ps.take k ++ [ps[k]] from List.take_succ_eq_append_getElem hkl)
      generalize ps[k] = x at *
      by_cases hx : x.name = name
      · have HF := Lib.hid (getP_take HE.out hx HALL.out)
        go_wp2
        refine bodyPost_ret (v := .agg #[.int .i64 x.v.kind, .int .i64 x.v.n, .string x.v.s, .bool true]) ?_ rfl ⟨by unfold getV; rw [HF.out]; rfl, ?_⟩
        · rw [results_cell1 rfl]
          go_simp
        · exact ((((HG.out).setd (p := ⟨w.heap.size, 0, none⟩) (Nat.le_refl _) _).setd (p := ⟨w.heap.size, 1, none⟩) (Nat.le_refl _) _).setd (p := ⟨w.heap.size, 2, none⟩) (Nat.le_refl _) _).setd (p := ⟨w.heap.size, 3, none⟩) (Nat.le_refl _) _
      · have HX := Lib.hid hx
        go_wp2
        go_roundg (ps.length - (k + 1))
        case measure => omega
        case rel =>
          refine ⟨k + 1, by omega, rfl, by go_num, ?_, HG.out, HB.out⟩
          · rw [HT.out]
            intro y hy
            rcases List.mem_append.1 hy with h | h
            · exact HALL.out y h
            · rw [List.mem_singleton] at h
              subst h
              exact HX.out
    · have hkk : ps.take k = ps := List.take_of_length_le (by omega)
      rw [hkk] at HALL
      have HF := Lib.hid (getP_none HALL.out)
      clear hkk
      go_wp2
      refine bodyPost_ret (v := .agg #[.int .i64 0, .int .i64 0, .string ByteArray.empty, .bool false]) ?_ rfl ⟨by unfold getV; rw [HF.out]; rfl, ?_⟩
      · rw [results_cell1 rfl]
        go_simp
        rfl
      · exact ((((HG.out).setd (p := ⟨w.heap.size, 0, none⟩) (Nat.le_refl _) _).setd (p := ⟨w.heap.size, 1, none⟩) (Nat.le_refl _) _).setd (p := ⟨w.heap.size, 2, none⟩) (Nat.le_refl _) _).setd (p := ⟨w.heap.size, 3, none⟩) (Nat.le_refl _) _

set_option maxRecDepth 100000 in
set_option maxHeartbeats 2000000 in
theorem ruleTypeOf (S : Nat → Prop) (v : Value) (nodes : List PNode) (id : Int) (w : World) (h : NodesR S w v nodes) :
    Calls Tryz.prog 69 #[v, .int .i64 id] w fun e w' => e = .returned (.tuple #[.string ((typeN nodes id).getD ByteArray.empty), .bool (typeN nodes id).isSome]) ∧ Grow w w' := by
  obtain ⟨aa, ca, rfl, hal, hac, hA⟩ := SlR.open h
  clear h
  unfold maxLen at hac
  have HA := Lib.hid hA; clear hA
  go_enter Tryz.func69, Tryz.ntmps69
  go_wp2
  go_loopg [10] nodes.length (fun g i wr => ∃ k : Nat, k ≤ nodes.length ∧ g = nodes.length - k ∧ i = .int .i64 k ∧ (∀ y ∈ nodes.take k, y.id ≠ id) ∧ Grow w wr)
  case atStart => exact ⟨0, by omega, by omega, rfl, by simp, Grow.rfl' w⟩
  case round =>
    obtain ⟨k, hk, rfl, rfl, hall, hgr⟩ := hrel
    have HALL := Lib.hid hall; have HG := Lib.hid hgr
    clear hall
    by_cases hkl : k < nodes.length
    · obtain ⟨ba, oa, ra, rfl, hSa, hba, hRa, hca⟩ := HA.out k nodes[k] (List.getElem?_eq_getElem hkl)
      obtain ⟨pva, hba', a0, a1, a2, hpa⟩ := hRa.at hba hgr hca
      clear hca hRa hSa hba hgr
      have HE := Lib.hid (show nodes[k]? = some nodes[k] from List.getElem?_eq_getElem hkl)
      have HT := Lib.hid (show nodes.take (k + 1) = nodes.take k ++ [nodes[k]] from List.take_succ_eq_append_getElem hkl)
      generalize nodes[k] = x at *
      obtain ⟨_, _, rfl⟩ := hpa.isSlice
      clear hpa
      by_cases hx : x.id = id
      · have HF := Lib.hid (typeN_take HE.out hx HALL.out)
        go_wp2
        go_ret2
        exact ⟨by rw [HF.out]; rfl, HG.out.allocd _⟩
      · have HX := Lib.hid hx
        go_wp2
        go_roundg (nodes.length - (k + 1))
        case measure => omega
        case rel =>
          refine ⟨k + 1, by omega, rfl, by go_num, ?_, HG.out.allocd _⟩
          · rw [HT.out]
            intro y hy
            rcases List.mem_append.1 hy with h | h
            · exact HALL.out y h
            · rw [List.mem_singleton] at h
              subst h
              exact HX.out
    · have hkk : nodes.take k = nodes := List.take_of_length_le (by omega)
      rw [hkk] at HALL
      have HF := Lib.hid (typeN_none HALL.out)
      clear hkk
      go_wp2
      go_ret2
      exact ⟨by rw [HF.out]; rfl, HG.out⟩

set_option maxRecDepth 100000 in
set_option maxHeartbeats 2000000 in
theorem refIs (S : Nat → Prop) (v : Value) (nodes : List PNode) (id : Int) (typ : ByteArray) (w : World) (h : NodesR S w v nodes) :
    Calls Tryz.prog 109 #[v, .int .i64 id, .string typ] w fun e w' => e = .returned (.bool (isT nodes id typ)) ∧ w = w' := by
  obtain ⟨aa, ca, rfl, hal, hac, hA⟩ := SlR.open h
  clear h
  unfold maxLen at hac
  have HA := Lib.hid hA; clear hA
  go_enter Tryz.func109, Tryz.ntmps109
  go_wp2
  go_loopg [7] nodes.length (fun g i wr => ∃ k : Nat, k ≤ nodes.length ∧ g = nodes.length - k ∧ i = .int .i64 k ∧ (∀ y ∈ nodes.take k, y.id ≠ id) ∧ w = wr)
  case atStart => exact ⟨0, by omega, by omega, rfl, by simp, rfl⟩
  case round =>
    obtain ⟨k, hk, rfl, rfl, hall, rfl⟩ := hrel
    have HALL := Lib.hid hall
    clear hall
    by_cases hkl : k < nodes.length
    · obtain ⟨ba, oa, ra, rfl, hSa, hba, hRa, hca⟩ := HA.out k nodes[k] (List.getElem?_eq_getElem hkl)
      obtain ⟨pva, hba', a0, a1, a2, hpa⟩ := hRa.at hba (Grow.rfl' w) hca
      clear hca hRa hSa hba hpa
      have HE := Lib.hid (show nodes[k]? = some nodes[k] from List.getElem?_eq_getElem hkl)
      have HT := Lib.hid (show nodes.take (k + 1) = nodes.take k ++ [nodes[k]] from List.take_succ_eq_append_getElem hkl)
      generalize nodes[k] = x at *
      by_cases hx : x.id = id
      · have HF := Lib.hid (typeN_take HE.out hx HALL.out)
        go_wp2
        go_ret
        exact ⟨by unfold isT; rw [HF.out]; simp, rfl⟩
      · have HX := Lib.hid hx
        go_wp2
        go_roundg (nodes.length - (k + 1))
        case measure => omega
        case rel =>
          refine ⟨k + 1, by omega, rfl, by go_num, ?_, rfl⟩
          · rw [HT.out]
            intro y hy
            rcases List.mem_append.1 hy with h | h
            · exact HALL.out y h
            · rw [List.mem_singleton] at h
              subst h
              exact HX.out
    · have hkk : nodes.take k = nodes := List.take_of_length_le (by omega)
      rw [hkk] at HALL
      have HF := Lib.hid (typeN_none HALL.out)
      clear hkk
      go_wp2
      go_ret
      exact ⟨by unfold isT; rw [HF.out]; rfl, rfl⟩
end Go.Hg

namespace Go.Hg
open Go.RowKit Go.Proofs

/-- a rule in a block -/
def RuleBox (w : World) (b : Nat) (r : PRule) : Prop := w.heap[b]? = some (.cells #[.int .i64 r.id, .int .i64 r.kind, .string r.typ, .string r.name, .string r.from_, .string r.to_, .int .i64 r.n, .int .i64 r.state] 24 (0, 0))
theorem RuleBox.grow {w w' : World} {b : Nat} {r : PRule} (h : RuleBox w b r) (g : Grow w w') : RuleBox w' b r := (g.heapEq (blk_lt h)).trans h
theorem RuleBox.cells {w : World} {b : Nat} {r : PRule} (h : RuleBox w b r) : b < w.heap.size ∧ w.cell? ⟨b, 1, none⟩ = some (.int .i64 r.kind) ∧ w.cell? ⟨b, 2, none⟩ = some (.string r.typ) ∧ w.cell? ⟨b, 3, none⟩ = some (.string r.name) ∧
    w.cell? ⟨b, 4, none⟩ = some (.string r.from_) ∧ w.cell? ⟨b, 5, none⟩ = some (.string r.to_) ∧ w.cell? ⟨b, 6, none⟩ = some (.int .i64 r.n) ∧ w.cell? ⟨b, 7, none⟩ = some (.int .i64 r.state) ∧ w.cell? ⟨b, 0, none⟩ = some (.int .i64 r.id) := by
  unfold RuleBox at h
  exact ⟨blk_lt h, by rw [blk_cell h]; rfl, by rw [blk_cell h]; rfl, by rw [blk_cell h]; rfl, by rw [blk_cell h]; rfl, by rw [blk_cell h]; rfl, by rw [blk_cell h]; rfl, by rw [blk_cell h]; rfl, by rw [blk_cell h]; rfl⟩
/-- one cell in a block -/
def OneBox (w : World) (b : Nat) (v : Value) : Prop := ∃ T, w.heap[b]? = some (.cells #[v] T (0, 0))
theorem OneBox.grow {w w' : World} {b : Nat} {v : Value} (h : OneBox w b v) (g : Grow w w') : OneBox w' b v := by
  obtain ⟨T, h⟩ := h
  exact ⟨T, (g.heapEq (blk_lt h)).trans h⟩
theorem OneBox.cell {w : World} {b : Nat} {v : Value} (h : OneBox w b v) : b < w.heap.size ∧ w.cell? ⟨b, 0, none⟩ = some v := by
  obtain ⟨T, h⟩ := h
  exact ⟨blk_lt h, by rw [blk_cell h]; rfl⟩
abbrev ofV (rb : Nat) : Value := .func (.func 60) #[] #[.pointer (some ⟨rb, 0, none⟩)]

theorem entersOf : ∀ args w, (callFunc 60 args).run Tryz.prog w = .ok (.enter 60 args) w := fun args w => enterF Tryz.func60 (by kernel_rfl) rfl args w
theorem entersNo : ∀ args w, (callFunc 65 args).run Tryz.prog w = .ok (.enter 65 args) w := fun args w => enterF Tryz.func65 (by kernel_rfl) rfl args w
theorem entersEnd : ∀ args w, (callFunc 68 args).run Tryz.prog w = .ok (.enter 68 args) w := fun args w => enterF Tryz.func68 (by kernel_rfl) rfl args w

set_option maxHeartbeats 400000 in
theorem keepsOf {t : ByteArray} {rb : Nat} {r : PRule} {w : World} (h : RuleBox w rb r) {b : Bool} (hb : decide (t = r.typ) = b) :
    Calls Tryz.prog 60 #[.string t, .pointer (some ⟨rb, 0, none⟩)] w fun e w' => e = .returned (.bool b) ∧ w' = w := by
  obtain ⟨hl, c1, c2, c3, c4, c5, c6, c7, c0⟩ := h.cells
  clear h
  go_enter Tryz.func60, Tryz.ntmps60
  go_wp2
  go_ret
  exact ⟨rfl, rfl⟩

theorem app1 (a : Value) (l : List Value) : #[a] ++ l.toArray = (a :: l).toArray := by simp
/-- a closure that asks of a node -/
def AsksN (f : Nat) (caps : Array Value) (p : PNode → Bool) (S : Nat → Prop) (w : World) : Prop :=
  (∀ args w, (callFunc f args).run Tryz.prog w = .ok (.enter f args) w) ∧ ∀ (x : PNode) (pv : Value) (w' : World), Grow w w' → PropsR S w' pv x.props → Calls Tryz.prog f (#[.agg #[.int .i64 x.id, .string x.typ, pv]] ++ caps) w' fun e w2 => e = .returned (.bool (p x)) ∧ Grow w' w2
theorem AsksN.grow {f : Nat} {c : Array Value} {p : PNode → Bool} {S : Nat → Prop} {w w' : World} (h : AsksN f c p S w) (g : Grow w w') : AsksN f c p S w' := ⟨h.1, fun x pv w2 g2 hp => h.2 x pv w2 (g.step g2) hp⟩
/-- .. of an edge -/
def AsksF (f : Nat) (caps : Array Value) (p : PEdge → Bool) (S : Nat → Prop) (w : World) : Prop :=
  (∀ args w, (callFunc f args).run Tryz.prog w = .ok (.enter f args) w) ∧ ∀ (x : PEdge) (pv : Value) (w' : World), Grow w w' → PropsR S w' pv x.props → Calls Tryz.prog f (#[x.args pv] ++ caps) w' fun e w2 => e = .returned (.bool (p x)) ∧ Grow w' w2
theorem AsksF.grow {f : Nat} {c : Array Value} {p : PEdge → Bool} {S : Nat → Prop} {w w' : World} (h : AsksF f c p S w) (g : Grow w w') : AsksF f c p S w' := ⟨h.1, fun x pv w2 g2 hp => h.2 x pv w2 (g.step g2) hp⟩
def IdxA {α : Type} (l : List α) (p : α → Bool) (r : Int) : Prop :=
  (r = -1 ∧ ∀ x ∈ l, p x = false) ∨ ∃ (k : Nat) (x : α), r = k ∧ l[k]? = some x ∧ p x = true ∧ ∀ y ∈ l.take k, p y = false

set_option maxRecDepth 100000 in
set_option maxHeartbeats 1000000 in
theorem indexNodeA (S : Nat → Prop) (v : Value) (l : List PNode) (f : Nat) (caps : Array Value) (p : PNode → Bool) (w : World) (hl : NodesR S w v l) (hp : AsksN f caps p S w) :
    Calls Tryz.prog 110 #[v, .func (.func f) #[] caps] w fun e w' => ∃ r : Int, e = .returned (.int .i64 r) ∧ IdxA l p r ∧ Grow w w' := by
  obtain ⟨aa, ca, rfl, hal, hac, hA⟩ := SlR.open hl
  clear hl
  unfold maxLen at hac
  have HA := Lib.hid hA; clear hA
  have HP := Lib.hid hp.2; have hcf := hp.1; clear hp
  go_enter Tryz.func110, Tryz.ntmps110
  go_wp2
  go_loopg [8] l.length (fun g i wr => ∃ k : Nat, k ≤ l.length ∧ g = l.length - k ∧ i = .int .i64 k ∧ (∀ y ∈ l.take k, p y = false) ∧ Grow w wr)
  case atStart => exact ⟨0, by omega, by omega, rfl, by simp, Grow.rfl' w⟩
  case round =>
    obtain ⟨k, hk, rfl, rfl, hall, hgr⟩ := hrel
    have HALL := Lib.hid hall; clear hall
    by_cases hkl : k < l.length
    · obtain ⟨ba, oa, ra, rfl, hSa, hba, hRa, hca⟩ := HA.out k l[k] (List.getElem?_eq_getElem hkl)
      obtain ⟨pva, hba', a0, a1, a2, hpa⟩ := hRa.at hba hgr hca
      clear hca hRa hSa hba
      have HE := Lib.hid (show l[k]? = some l[k] from List.getElem?_eq_getElem hkl)
      have HT := Lib.hid (show l.take (k + 1) = l.take k ++ [l[k]] from List.take_succ_eq_append_getElem hkl)
      generalize l[k] = x at *
      have HPA := Lib.hid hpa
      obtain ⟨_, _, rfl⟩ := hpa.isSlice
      clear hpa
      cases hn : p x
      all_goals
        go_wp2_with fail
        refine (HP.out x _ _ hgr HPA.out).mono ?_
        rintro e w2 ⟨rfl, hw2⟩
        rw [hn]
        go_wp2
      · go_roundg (l.length - (k + 1))
        case measure => omega
        case rel => exact ⟨k + 1, by omega, rfl, by go_num, by rw [HT.out]; intro y hy; rcases List.mem_append.1 hy with h | h; exact HALL.out y h; simp at h; subst h; exact hn, hgr.step hw2⟩
      · go_ret
        exact ⟨_, rfl, .inr ⟨k, x, rfl, HE.out, hn, HALL.out⟩, hgr.step hw2⟩
    · have HX := Lib.hid (show l.take k = l from List.take_of_length_le (by omega))
      go_wp2
      go_ret
      exact ⟨_, rfl, .inl ⟨rfl, by rw [← HX.out]; exact HALL.out⟩, hgr⟩

set_option maxHeartbeats 400000 in
theorem containsNodeA (S : Nat → Prop) (v : Value) (l : List PNode) (f : Nat) (caps : Array Value) (p : PNode → Bool) (w : World) (hl : NodesR S w v l) (hp : AsksN f caps p S w) :
    Calls Tryz.prog 64 #[v, .func (.func f) #[] caps] w fun e w' => e = .returned (.bool (l.any p)) ∧ Grow w w' := by
  have HL := Lib.hid hl; have HP := Lib.hid hp
  obtain ⟨_, _, rfl, _⟩ := SlR.open hl
  clear hl hp
  go_enter Tryz.func64, Tryz.ntmps64
  go_wp2_with fail
  refine (indexNodeA S _ l f caps p _ HL.out HP.out).mono ?_
  rintro e w2 ⟨r, rfl, hr, hw2⟩
  rcases hr with ⟨rfl, hall⟩ | ⟨k, x, rfl, hx, hpx, hk⟩
  · have HA := Lib.hid (show l.any p = false from List.any_eq_false.2 (fun x hx => by rw [hall x hx]; simp))
    clear hall
    go_wp2
    go_ret
    exact ⟨by rw [HA.out]; rfl, hw2⟩
  · have HA := Lib.hid (show l.any p = true from List.any_eq_true.2 ⟨x, List.mem_of_getElem? hx, hpx⟩)
    clear hx hpx hk
    go_wp2
    go_ret
    exact ⟨by rw [HA.out]; simp, hw2⟩

set_option maxRecDepth 100000 in
set_option maxHeartbeats 1000000 in
theorem indexEdgeA (S : Nat → Prop) (v : Value) (l : List PEdge) (f : Nat) (caps : Array Value) (p : PEdge → Bool) (w : World) (hl : EdgesR S w v l) (hp : AsksF f caps p S w) :
    Calls Tryz.prog 111 #[v, .func (.func f) #[] caps] w fun e w' => ∃ r : Int, e = .returned (.int .i64 r) ∧ IdxA l p r ∧ Grow w w' := by
  obtain ⟨aa, ca, rfl, hal, hac, hA⟩ := SlR.open hl
  clear hl
  unfold maxLen at hac
  have HA := Lib.hid hA; clear hA
  have HP := Lib.hid hp.2; have hcf := hp.1; clear hp
  go_enter Tryz.func111, Tryz.ntmps111
  go_wp2
  go_loopg [8] l.length (fun g i wr => ∃ k : Nat, k ≤ l.length ∧ g = l.length - k ∧ i = .int .i64 k ∧ (∀ y ∈ l.take k, p y = false) ∧ Grow w wr)
  case atStart => exact ⟨0, by omega, by omega, rfl, by simp, Grow.rfl' w⟩
  case round =>
    obtain ⟨k, hk, rfl, rfl, hall, hgr⟩ := hrel
    have HALL := Lib.hid hall; clear hall
    by_cases hkl : k < l.length
    · obtain ⟨ba, oa, ra, rfl, hSa, hba, hRa, hca⟩ := HA.out k l[k] (List.getElem?_eq_getElem hkl)
      obtain ⟨pva, hba', a0, a1, a2, a3, a4, hpa⟩ := hRa.at hba hgr hca
      clear hca hRa hSa hba
      have HE := Lib.hid (show l[k]? = some l[k] from List.getElem?_eq_getElem hkl)
      have HT := Lib.hid (show l.take (k + 1) = l.take k ++ [l[k]] from List.take_succ_eq_append_getElem hkl)
      generalize l[k] = x at *
      have HPA := Lib.hid hpa
      obtain ⟨_, _, rfl⟩ := hpa.isSlice
      clear hpa
      cases hn : p x
      all_goals
        go_wp2_with fail
        refine (HP.out x _ _ hgr HPA.out).mono ?_
        rintro e w2 ⟨rfl, hw2⟩
        rw [hn]
        go_wp2
      · go_roundg (l.length - (k + 1))
        case measure => omega
        case rel => exact ⟨k + 1, by omega, rfl, by go_num, by rw [HT.out]; intro y hy; rcases List.mem_append.1 hy with h | h; exact HALL.out y h; simp at h; subst h; exact hn, hgr.step hw2⟩
      · go_ret
        exact ⟨_, rfl, .inr ⟨k, x, rfl, HE.out, hn, HALL.out⟩, hgr.step hw2⟩
    · have HX := Lib.hid (show l.take k = l from List.take_of_length_le (by omega))
      go_wp2
      go_ret
      exact ⟨_, rfl, .inl ⟨rfl, by rw [← HX.out]; exact HALL.out⟩, hgr⟩

set_option maxHeartbeats 400000 in
theorem containsEdgeA (S : Nat → Prop) (v : Value) (l : List PEdge) (f : Nat) (caps : Array Value) (p : PEdge → Bool) (w : World) (hl : EdgesR S w v l) (hp : AsksF f caps p S w) :
    Calls Tryz.prog 67 #[v, .func (.func f) #[] caps] w fun e w' => e = .returned (.bool (l.any p)) ∧ Grow w w' := by
  have HL := Lib.hid hl; have HP := Lib.hid hp
  obtain ⟨_, _, rfl, _⟩ := SlR.open hl
  clear hl hp
  go_enter Tryz.func67, Tryz.ntmps67
  go_wp2_with fail
  refine (indexEdgeA S _ l f caps p _ HL.out HP.out).mono ?_
  rintro e w2 ⟨r, rfl, hr, hw2⟩
  rcases hr with ⟨rfl, hall⟩ | ⟨k, x, rfl, hx, hpx, hk⟩
  · have HA := Lib.hid (show l.any p = false from List.any_eq_false.2 (fun x hx => by rw [hall x hx]; simp))
    clear hall
    go_wp2
    go_ret
    exact ⟨by rw [HA.out]; rfl, hw2⟩
  · have HA := Lib.hid (show l.any p = true from List.any_eq_true.2 ⟨x, List.mem_of_getElem? hx, hpx⟩)
    clear hx hpx hk
    go_wp2
    go_ret
    exact ⟨by rw [HA.out]; simp, hw2⟩

set_option maxRecDepth 100000 in
set_option maxHeartbeats 1000000 in
/-- the node lacks the property -/
theorem keepsNo (x : PNode) (pv : Value) (rb fb : Nat) (r : PRule) (w : World) (S : Nat → Prop) (hp : PropsR S w pv x.props) (hr : RuleBox w rb r) (hf : OneBox w fb (ofV rb)) :
    Calls Tryz.prog 65 #[.agg #[.int .i64 x.id, .string x.typ, pv], .pointer (some ⟨rb, 0, none⟩), .pointer (some ⟨fb, 0, none⟩)] w fun e w' => e = .returned (.bool (lacksR r x)) ∧ Grow w w' := by
  have HP := Lib.hid hp; have HR := Lib.hid hr; have HF := Lib.hid hf
  obtain ⟨_, _, rfl⟩ := hp.isSlice
  have HG := Lib.hid (show ∀ o1, Grow w (w.alloc o1) from fun o1 => (Grow.rfl' w).allocd o1)
  have HNB := Lib.hid (show ∀ o1 w', Grow (w.alloc o1) w' → w'.heap[w.heap.size]? = some o1 from fun o1 w' hg => by rw [hg.heapEq (by simp)]; exact heap_alloc_new w _)
  obtain ⟨hrl, c1, c2, c3, c4, c5, c6, c7, c0⟩ := hr.cells
  obtain ⟨hfl, d0⟩ := hf.cell
  have entersOf := entersOf
  obtain ⟨bt, hbt⟩ : ∃ b, decide (x.typ = r.typ) = b := ⟨_, rfl⟩
  have HBT := Lib.hid hbt
  obtain ⟨bo, hbo⟩ : ∃ b, (getP x.props r.name).isSome = b := ⟨_, rfl⟩
  have HBO := Lib.hid hbo
  have HX := Lib.hid (show lacksR r x = (bt && !bo) by unfold lacksR; rw [hbt, ← hbo]; cases getP x.props r.name <;> rfl)
  clear hp hr hf c1 c2 c4 c5 c6 c7 c0 hbt hbo
  go_enter Tryz.func65, Tryz.ntmps65
  go_wp2_with fail
  refine (valGet S _ x.props r.name _ (HP.out.grow (HG.out _))).mono ?_
  rintro e w2 ⟨rfl, hw2⟩
  have HG2 := Lib.hid ((HG.out _).step hw2)
  have HG3 := Lib.hid (show ∀ o1, Grow w (w2.alloc o1) from fun o1 => HG2.out.allocd o1)
  have hnb := HNB.out _ w2 hw2
  have hnl := blk_lt hnb
  have n1 : w2.cell? ⟨w.heap.size, 1, none⟩ = some (.string x.typ) := by rw [blk_cell hnb]; rfl
  obtain ⟨hfl2, d2⟩ := (HF.out.grow HG2.out).cell
  clear hnb hw2
  rw [HBO.out]
  cases bo <;> cases bt
  all_goals
    go_wp2_with fail
    refine (keepsOf (HR.out.grow (HG3.out _)) HBT.out).mono ?_
    rintro e w3 ⟨rfl, rfl⟩
    go_wp2
    go_ret
    exact ⟨by rw [HX.out]; rfl, HG3.out _⟩

set_option maxRecDepth 100000 in
set_option maxHeartbeats 1000000 in
/-- rule 'exists' -/
theorem keepsExists (nodes : List PNode) (nv : Value) (nb rb fb : Nat) (r : PRule) (w : World) (S : Nat → Prop) (hn : NodesR S w nv nodes) (hnb : OneBox w nb nv) (hr : RuleBox w rb r) (hf : OneBox w fb (ofV rb)) :
    Calls Tryz.prog 63 #[.pointer (some ⟨nb, 0, none⟩), .pointer (some ⟨rb, 0, none⟩), .pointer (some ⟨fb, 0, none⟩)] w fun e w' => e = .returned (.bool (!nodes.any (lacksR r))) ∧ Grow w w' := by
  have HN := Lib.hid hn; have HR := Lib.hid hr; have HF := Lib.hid hf
  obtain ⟨hnl, d0⟩ := hnb.cell
  obtain ⟨_, _, rfl, _⟩ := SlR.open hn
  clear hn hr hf hnb
  go_enter Tryz.func63, Tryz.ntmps63
  go_wp2_with fail
  refine (containsNodeA S _ nodes 65 #[.pointer (some ⟨rb, 0, none⟩), .pointer (some ⟨fb, 0, none⟩)] (lacksR r) _ HN.out ⟨entersNo, fun x pv w' hg hp => by rw [app1]; exact keepsNo x pv rb fb r w' S hp (HR.out.grow hg) (HF.out.grow hg)⟩).mono ?_
  rintro e w2 ⟨rfl, hw2⟩
  obtain ⟨b, hb⟩ : ∃ b, nodes.any (lacksR r) = b := ⟨_, rfl⟩
  have HX := Lib.hid hb
  rw [hb]
  clear hb
  go_wp2
  go_ret
  exact ⟨by rw [HX.out]; rfl, hw2⟩

set_option maxRecDepth 100000 in
set_option maxHeartbeats 1000000 in
/-- the edge's ends are wrong -/
theorem keepsEnd (x : PEdge) (pv : Value) (nodes : List PNode) (nv : Value) (nb rb fb : Nat) (r : PRule) (w : World) (S : Nat → Prop) (hp : PropsR S w pv x.props) (hn : NodesR S w nv nodes) (hnb : OneBox w nb nv) (hr : RuleBox w rb r) (hf : OneBox w fb (ofV rb)) :
    Calls Tryz.prog 68 #[x.args pv, .pointer (some ⟨nb, 0, none⟩), .pointer (some ⟨fb, 0, none⟩), .pointer (some ⟨rb, 0, none⟩)] w fun e w' => e = .returned (.bool (wrongR nodes r x)) ∧ Grow w w' := by
  have HN := Lib.hid hn; have HR := Lib.hid hr; have HF := Lib.hid hf; have HNV := Lib.hid hnb
  obtain ⟨_, _, rfl⟩ := hp.isSlice
  obtain ⟨_, _, rfl, _⟩ := SlR.open hn
  have HG := Lib.hid (show ∀ o1, Grow w (w.alloc o1) from fun o1 => (Grow.rfl' w).allocd o1)
  have HNB := Lib.hid (show ∀ o1 w', Grow (w.alloc o1) w' → w'.heap[w.heap.size]? = some o1 from fun o1 w' hg => by rw [hg.heapEq (by simp)]; exact heap_alloc_new w _)
  obtain ⟨hnl, d0⟩ := hnb.cell
  have entersOf := entersOf
  clear hp hn hr hf hnb
  go_enter Tryz.func68, Tryz.ntmps68
  go_wp2_with fail
  refine (ruleTypeOf S _ nodes x.from_ _ (HN.out.grow (HG.out _))).mono ?_
  rintro e w2 ⟨rfl, hw2⟩
  have HG2 := Lib.hid ((HG.out _).step hw2)
  have HX2 := Lib.hid (HNB.out _ w2 hw2)
  have hnb2 := HX2.out
  have hnl2 := blk_lt hnb2
  have m3 : w2.cell? ⟨w.heap.size, 3, none⟩ = some (.int .i64 x.to_) := by rw [blk_cell hnb2]; rfl
  obtain ⟨hnl3, d2⟩ := (HNV.out.grow HG2.out).cell
  clear hnb2 hw2 d0 hnl
  obtain ⟨ta, hta⟩ : ∃ t, typeN nodes x.from_ = t := ⟨_, rfl⟩
  have HTA := Lib.hid hta
  rw [hta]
  clear hta
  go_wp2_with fail
  refine (ruleTypeOf S _ nodes x.to_ _ (HN.out.grow HG2.out)).mono ?_
  rintro e w3 ⟨rfl, hw3⟩
  have HG3 := Lib.hid (HG2.out.step hw3)
  have hnb3 := (hw3.heapEq hnl2).trans HX2.out
  have hnl4 := blk_lt hnb3
  have m1 : w3.cell? ⟨w.heap.size, 1, none⟩ = some (.string x.typ) := by rw [blk_cell hnb3]; rfl
  obtain ⟨hfl3, f3⟩ := (HF.out.grow HG3.out).cell
  obtain ⟨hrl, c1, c2, c3, c4, c5, c6, c7, c0⟩ := (HR.out.grow HG3.out).cells
  obtain ⟨tb, htb⟩ : ∃ t, typeN nodes x.to_ = t := ⟨_, rfl⟩
  have HTB := Lib.hid htb
  rw [htb]
  clear htb hnb3 hw3 c1 c2 c3 c6 c7 c0
  obtain ⟨bt, hbt⟩ : ∃ b, decide (x.typ = r.typ) = b := ⟨_, rfl⟩
  have HBT := Lib.hid hbt
  clear hbt
  go_wp2_with fail
  refine (keepsOf (HR.out.grow HG3.out) HBT.out).mono ?_
  rintro e w4 ⟨rfl, rfl⟩
  have HX := Lib.hid (show wrongR nodes r x = (bt && !(decide (ta = some r.from_) && decide (tb = some r.to_))) by unfold wrongR isT; rw [HBT.out, HTA.out, HTB.out])
  cases bt
  · go_wp2
    go_ret
    exact ⟨by rw [HX.out]; rfl, HG3.out⟩
  · cases ta with
    | none =>
      have HX2 := Lib.hid (show wrongR nodes r x = true by rw [HX.out]; simp)
      cases tb
      all_goals
        simp only [Option.isSome, Option.getD] at *
        go_wp2
        go_ret
        exact ⟨by rw [HX2.out]; rfl, HG3.out⟩
    | some ta =>
      simp only [Option.isSome, Option.getD] at *
      cases tb with
      | none =>
        simp only
        go_wp2
        go_ret
        exact ⟨by rw [HX.out]; simp, HG3.out⟩
      | some tb =>
        simp only at *
        by_cases ha : ta = r.from_
        · by_cases hb : tb = r.to_
          · have HX2 := Lib.hid (show wrongR nodes r x = false by rw [HX.out, ha, hb]; simp)
            go_wp2
            go_ret
            exact ⟨by rw [HX2.out]; simp [hb], HG3.out⟩
          · have HX2 := Lib.hid (show wrongR nodes r x = true by rw [HX.out]; simp [hb])
            go_wp2
            go_ret
            exact ⟨by rw [HX2.out]; simp, HG3.out⟩
        · have HX2 := Lib.hid (show wrongR nodes r x = true by rw [HX.out]; simp [ha])
          go_wp2
          go_ret
          exact ⟨by rw [HX2.out]; rfl, HG3.out⟩

set_option maxRecDepth 100000 in
set_option maxHeartbeats 1000000 in
/-- rule 'ends' -/
theorem keepsEnds (nodes : List PNode) (edges : List PEdge) (nv ev : Value) (eb nb rb fb : Nat) (r : PRule) (w : World) (S : Nat → Prop) (hn : NodesR S w nv nodes) (he : EdgesR S w ev edges) (hnb : OneBox w nb nv) (heb : OneBox w eb ev) (hr : RuleBox w rb r) (hf : OneBox w fb (ofV rb)) :
    Calls Tryz.prog 66 #[.pointer (some ⟨eb, 0, none⟩), .pointer (some ⟨nb, 0, none⟩), .pointer (some ⟨fb, 0, none⟩), .pointer (some ⟨rb, 0, none⟩)] w fun e w' => e = .returned (.bool (!edges.any (wrongR nodes r))) ∧ Grow w w' := by
  have HN := Lib.hid hn; have HE := Lib.hid he; have HR := Lib.hid hr; have HF := Lib.hid hf; have HNB := Lib.hid hnb
  obtain ⟨hnl, d0⟩ := heb.cell
  obtain ⟨_, _, rfl, _⟩ := SlR.open he
  clear hn he hr hf hnb heb
  go_enter Tryz.func66, Tryz.ntmps66
  go_wp2_with fail
  refine (containsEdgeA S _ edges 68 #[.pointer (some ⟨nb, 0, none⟩), .pointer (some ⟨fb, 0, none⟩), .pointer (some ⟨rb, 0, none⟩)] (wrongR nodes r) _ HE.out ⟨entersEnd, fun x pv w' hg hp => by rw [app1]; exact keepsEnd x pv nodes nv nb rb fb r w' S hp (HN.out.grow hg) (HNB.out.grow hg) (HR.out.grow hg) (HF.out.grow hg)⟩).mono ?_
  rintro e w2 ⟨rfl, hw2⟩
  obtain ⟨b, hb⟩ : ∃ b, edges.any (wrongR nodes r) = b := ⟨_, rfl⟩
  have HX := Lib.hid hb
  rw [hb]
  clear hb
  go_wp2
  go_ret
  exact ⟨by rw [HX.out]; rfl, hw2⟩
end Go.Hg
