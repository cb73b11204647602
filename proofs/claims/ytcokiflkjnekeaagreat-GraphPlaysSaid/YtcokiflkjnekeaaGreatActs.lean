/- graph.acts: a kind's two functions. No condition. Printed by genacts.py. -/
import Derived.Test.YtcokiflkjnekeaaGreatMaps
import Derived.Test.YtcokiflkjnekeaaGreatDeep
import Derived.Laws.ResultCell
import Derived.Laws.EntriesVeiled
namespace Go.Hg
open Go.RowKit Go.Proofs

theorem zeroAct (w : World) : (zeroValue 74).run Tryz.prog w = .ok (.agg #[.nilFunc, .nilFunc]) w := by kernel_rfl

set_option maxRecDepth 100000 in
set_option maxHeartbeats 1000000 in
theorem acts1 (w : World) : Calls Tryz.prog 22 #[.int .i64 1] w fun e w' => e = .returned (.tuple #[.agg #[.func (.func 49) #[] #[], .func (.func 50) #[] #[]], .bool true]) ∧ Grow w w' := by
  have hsz : (w.alloc (.cells #[.nilFunc, .nilFunc] 74)).heap.size = w.heap.size + 1 := by simp
  have hT : Tryz.prog.underlying 105 = some (.map 3 74) := Tryz.underlying105
  have hI : Tryz.prog.underlying 3 = some (.int .i64) := Tryz.underlying3
  have i1 := run_ins _ _ hsz hT hI #[] 0 1 (.agg #[.func (.func 49) #[] #[], .func (.func 50) #[] #[]]) rfl
  have i2 := run_ins _ _ hsz hT hI #[{ key := .int .i64 1, val := .agg #[.func (.func 49) #[] #[], .func (.func 50) #[] #[]], born := 0 }] 1 2 (.agg #[.func (.func 51) #[] #[], .func (.func 52) #[] #[]]) rfl
  have i3 := run_ins _ _ hsz hT hI #[{ key := .int .i64 1, val := .agg #[.func (.func 49) #[] #[], .func (.func 50) #[] #[]], born := 0 }, { key := .int .i64 2, val := .agg #[.func (.func 51) #[] #[], .func (.func 52) #[] #[]], born := 1 }] 2 3 (.agg #[.func (.func 53) #[] #[], .func (.func 54) #[] #[]]) rfl
  have i4 := run_ins _ _ hsz hT hI #[{ key := .int .i64 1, val := .agg #[.func (.func 49) #[] #[], .func (.func 50) #[] #[]], born := 0 }, { key := .int .i64 2, val := .agg #[.func (.func 51) #[] #[], .func (.func 52) #[] #[]], born := 1 }, { key := .int .i64 3, val := .agg #[.func (.func 53) #[] #[], .func (.func 54) #[] #[]], born := 2 }] 3 4 (.agg #[.func (.func 55) #[] #[], .func (.func 56) #[] #[]]) rfl
  have i5 := run_ins _ _ hsz hT hI #[{ key := .int .i64 1, val := .agg #[.func (.func 49) #[] #[], .func (.func 50) #[] #[]], born := 0 }, { key := .int .i64 2, val := .agg #[.func (.func 51) #[] #[], .func (.func 52) #[] #[]], born := 1 }, { key := .int .i64 3, val := .agg #[.func (.func 53) #[] #[], .func (.func 54) #[] #[]], born := 2 }, { key := .int .i64 4, val := .agg #[.func (.func 55) #[] #[], .func (.func 56) #[] #[]], born := 3 }] 4 5 (.agg #[.func (.func 57) #[] #[], .func (.func 58) #[] #[]]) rfl
  simp only [List.push_toArray, List.cons_append, List.nil_append, Nat.reduceAdd] at i1 i2 i3 i4 i5
  have hmm := @run_makeMap Tryz.prog
  have HG := Lib.hid (show ∀ o1 o2 o3, Grow w (((w.alloc o1).alloc o2).alloc o3) from fun o1 o2 o3 => (((Grow.rfl' w).allocd o1).allocd o2).allocd o3)
  have lk := run_look_hit _ _ hsz hT hI #[{ key := .int .i64 1, val := .agg #[.func (.func 49) #[] #[], .func (.func 50) #[] #[]], born := 0 }, { key := .int .i64 2, val := .agg #[.func (.func 51) #[] #[], .func (.func 52) #[] #[]], born := 1 }, { key := .int .i64 3, val := .agg #[.func (.func 53) #[] #[], .func (.func 54) #[] #[]], born := 2 }, { key := .int .i64 4, val := .agg #[.func (.func 55) #[] #[], .func (.func 56) #[] #[]], born := 3 }, { key := .int .i64 5, val := .agg #[.func (.func 57) #[] #[], .func (.func 58) #[] #[]], born := 4 }] 5 1 0 _ rfl
  clear hsz
  go_enter Tryz.func22, Tryz.ntmps22
  go_wp2
  refine bodyPost_ret (v := .tuple #[.agg #[.func (.func 49) #[] #[], .func (.func 50) #[] #[]], .bool true]) ?_ rfl ⟨rfl, HG.out _ _ _⟩
  rw [results_cell_tmp rfl]
  go_simp

set_option maxRecDepth 100000 in
set_option maxHeartbeats 1000000 in
theorem acts2 (w : World) : Calls Tryz.prog 22 #[.int .i64 2] w fun e w' => e = .returned (.tuple #[.agg #[.func (.func 51) #[] #[], .func (.func 52) #[] #[]], .bool true]) ∧ Grow w w' := by
  have hsz : (w.alloc (.cells #[.nilFunc, .nilFunc] 74)).heap.size = w.heap.size + 1 := by simp
  have hT : Tryz.prog.underlying 105 = some (.map 3 74) := Tryz.underlying105
  have hI : Tryz.prog.underlying 3 = some (.int .i64) := Tryz.underlying3
  have i1 := run_ins _ _ hsz hT hI #[] 0 1 (.agg #[.func (.func 49) #[] #[], .func (.func 50) #[] #[]]) rfl
  have i2 := run_ins _ _ hsz hT hI #[{ key := .int .i64 1, val := .agg #[.func (.func 49) #[] #[], .func (.func 50) #[] #[]], born := 0 }] 1 2 (.agg #[.func (.func 51) #[] #[], .func (.func 52) #[] #[]]) rfl
  have i3 := run_ins _ _ hsz hT hI #[{ key := .int .i64 1, val := .agg #[.func (.func 49) #[] #[], .func (.func 50) #[] #[]], born := 0 }, { key := .int .i64 2, val := .agg #[.func (.func 51) #[] #[], .func (.func 52) #[] #[]], born := 1 }] 2 3 (.agg #[.func (.func 53) #[] #[], .func (.func 54) #[] #[]]) rfl
  have i4 := run_ins _ _ hsz hT hI #[{ key := .int .i64 1, val := .agg #[.func (.func 49) #[] #[], .func (.func 50) #[] #[]], born := 0 }, { key := .int .i64 2, val := .agg #[.func (.func 51) #[] #[], .func (.func 52) #[] #[]], born := 1 }, { key := .int .i64 3, val := .agg #[.func (.func 53) #[] #[], .func (.func 54) #[] #[]], born := 2 }] 3 4 (.agg #[.func (.func 55) #[] #[], .func (.func 56) #[] #[]]) rfl
  have i5 := run_ins _ _ hsz hT hI #[{ key := .int .i64 1, val := .agg #[.func (.func 49) #[] #[], .func (.func 50) #[] #[]], born := 0 }, { key := .int .i64 2, val := .agg #[.func (.func 51) #[] #[], .func (.func 52) #[] #[]], born := 1 }, { key := .int .i64 3, val := .agg #[.func (.func 53) #[] #[], .func (.func 54) #[] #[]], born := 2 }, { key := .int .i64 4, val := .agg #[.func (.func 55) #[] #[], .func (.func 56) #[] #[]], born := 3 }] 4 5 (.agg #[.func (.func 57) #[] #[], .func (.func 58) #[] #[]]) rfl
  simp only [List.push_toArray, List.cons_append, List.nil_append, Nat.reduceAdd] at i1 i2 i3 i4 i5
  have hmm := @run_makeMap Tryz.prog
  have HG := Lib.hid (show ∀ o1 o2 o3, Grow w (((w.alloc o1).alloc o2).alloc o3) from fun o1 o2 o3 => (((Grow.rfl' w).allocd o1).allocd o2).allocd o3)
  have lk := run_look_hit _ _ hsz hT hI #[{ key := .int .i64 1, val := .agg #[.func (.func 49) #[] #[], .func (.func 50) #[] #[]], born := 0 }, { key := .int .i64 2, val := .agg #[.func (.func 51) #[] #[], .func (.func 52) #[] #[]], born := 1 }, { key := .int .i64 3, val := .agg #[.func (.func 53) #[] #[], .func (.func 54) #[] #[]], born := 2 }, { key := .int .i64 4, val := .agg #[.func (.func 55) #[] #[], .func (.func 56) #[] #[]], born := 3 }, { key := .int .i64 5, val := .agg #[.func (.func 57) #[] #[], .func (.func 58) #[] #[]], born := 4 }] 5 2 1 _ rfl
  clear hsz
  go_enter Tryz.func22, Tryz.ntmps22
  go_wp2
  refine bodyPost_ret (v := .tuple #[.agg #[.func (.func 51) #[] #[], .func (.func 52) #[] #[]], .bool true]) ?_ rfl ⟨rfl, HG.out _ _ _⟩
  rw [results_cell_tmp rfl]
  go_simp

set_option maxRecDepth 100000 in
set_option maxHeartbeats 1000000 in
theorem acts3 (w : World) : Calls Tryz.prog 22 #[.int .i64 3] w fun e w' => e = .returned (.tuple #[.agg #[.func (.func 53) #[] #[], .func (.func 54) #[] #[]], .bool true]) ∧ Grow w w' := by
  have hsz : (w.alloc (.cells #[.nilFunc, .nilFunc] 74)).heap.size = w.heap.size + 1 := by simp
  have hT : Tryz.prog.underlying 105 = some (.map 3 74) := Tryz.underlying105
  have hI : Tryz.prog.underlying 3 = some (.int .i64) := Tryz.underlying3
  have i1 := run_ins _ _ hsz hT hI #[] 0 1 (.agg #[.func (.func 49) #[] #[], .func (.func 50) #[] #[]]) rfl
  have i2 := run_ins _ _ hsz hT hI #[{ key := .int .i64 1, val := .agg #[.func (.func 49) #[] #[], .func (.func 50) #[] #[]], born := 0 }] 1 2 (.agg #[.func (.func 51) #[] #[], .func (.func 52) #[] #[]]) rfl
  have i3 := run_ins _ _ hsz hT hI #[{ key := .int .i64 1, val := .agg #[.func (.func 49) #[] #[], .func (.func 50) #[] #[]], born := 0 }, { key := .int .i64 2, val := .agg #[.func (.func 51) #[] #[], .func (.func 52) #[] #[]], born := 1 }] 2 3 (.agg #[.func (.func 53) #[] #[], .func (.func 54) #[] #[]]) rfl
  have i4 := run_ins _ _ hsz hT hI #[{ key := .int .i64 1, val := .agg #[.func (.func 49) #[] #[], .func (.func 50) #[] #[]], born := 0 }, { key := .int .i64 2, val := .agg #[.func (.func 51) #[] #[], .func (.func 52) #[] #[]], born := 1 }, { key := .int .i64 3, val := .agg #[.func (.func 53) #[] #[], .func (.func 54) #[] #[]], born := 2 }] 3 4 (.agg #[.func (.func 55) #[] #[], .func (.func 56) #[] #[]]) rfl
  have i5 := run_ins _ _ hsz hT hI #[{ key := .int .i64 1, val := .agg #[.func (.func 49) #[] #[], .func (.func 50) #[] #[]], born := 0 }, { key := .int .i64 2, val := .agg #[.func (.func 51) #[] #[], .func (.func 52) #[] #[]], born := 1 }, { key := .int .i64 3, val := .agg #[.func (.func 53) #[] #[], .func (.func 54) #[] #[]], born := 2 }, { key := .int .i64 4, val := .agg #[.func (.func 55) #[] #[], .func (.func 56) #[] #[]], born := 3 }] 4 5 (.agg #[.func (.func 57) #[] #[], .func (.func 58) #[] #[]]) rfl
  simp only [List.push_toArray, List.cons_append, List.nil_append, Nat.reduceAdd] at i1 i2 i3 i4 i5
  have hmm := @run_makeMap Tryz.prog
  have HG := Lib.hid (show ∀ o1 o2 o3, Grow w (((w.alloc o1).alloc o2).alloc o3) from fun o1 o2 o3 => (((Grow.rfl' w).allocd o1).allocd o2).allocd o3)
  have lk := run_look_hit _ _ hsz hT hI #[{ key := .int .i64 1, val := .agg #[.func (.func 49) #[] #[], .func (.func 50) #[] #[]], born := 0 }, { key := .int .i64 2, val := .agg #[.func (.func 51) #[] #[], .func (.func 52) #[] #[]], born := 1 }, { key := .int .i64 3, val := .agg #[.func (.func 53) #[] #[], .func (.func 54) #[] #[]], born := 2 }, { key := .int .i64 4, val := .agg #[.func (.func 55) #[] #[], .func (.func 56) #[] #[]], born := 3 }, { key := .int .i64 5, val := .agg #[.func (.func 57) #[] #[], .func (.func 58) #[] #[]], born := 4 }] 5 3 2 _ rfl
  clear hsz
  go_enter Tryz.func22, Tryz.ntmps22
  go_wp2
  refine bodyPost_ret (v := .tuple #[.agg #[.func (.func 53) #[] #[], .func (.func 54) #[] #[]], .bool true]) ?_ rfl ⟨rfl, HG.out _ _ _⟩
  rw [results_cell_tmp rfl]
  go_simp

set_option maxRecDepth 100000 in
set_option maxHeartbeats 1000000 in
theorem acts4 (w : World) : Calls Tryz.prog 22 #[.int .i64 4] w fun e w' => e = .returned (.tuple #[.agg #[.func (.func 55) #[] #[], .func (.func 56) #[] #[]], .bool true]) ∧ Grow w w' := by
  have hsz : (w.alloc (.cells #[.nilFunc, .nilFunc] 74)).heap.size = w.heap.size + 1 := by simp
  have hT : Tryz.prog.underlying 105 = some (.map 3 74) := Tryz.underlying105
  have hI : Tryz.prog.underlying 3 = some (.int .i64) := Tryz.underlying3
  have i1 := run_ins _ _ hsz hT hI #[] 0 1 (.agg #[.func (.func 49) #[] #[], .func (.func 50) #[] #[]]) rfl
  have i2 := run_ins _ _ hsz hT hI #[{ key := .int .i64 1, val := .agg #[.func (.func 49) #[] #[], .func (.func 50) #[] #[]], born := 0 }] 1 2 (.agg #[.func (.func 51) #[] #[], .func (.func 52) #[] #[]]) rfl
  have i3 := run_ins _ _ hsz hT hI #[{ key := .int .i64 1, val := .agg #[.func (.func 49) #[] #[], .func (.func 50) #[] #[]], born := 0 }, { key := .int .i64 2, val := .agg #[.func (.func 51) #[] #[], .func (.func 52) #[] #[]], born := 1 }] 2 3 (.agg #[.func (.func 53) #[] #[], .func (.func 54) #[] #[]]) rfl
  have i4 := run_ins _ _ hsz hT hI #[{ key := .int .i64 1, val := .agg #[.func (.func 49) #[] #[], .func (.func 50) #[] #[]], born := 0 }, { key := .int .i64 2, val := .agg #[.func (.func 51) #[] #[], .func (.func 52) #[] #[]], born := 1 }, { key := .int .i64 3, val := .agg #[.func (.func 53) #[] #[], .func (.func 54) #[] #[]], born := 2 }] 3 4 (.agg #[.func (.func 55) #[] #[], .func (.func 56) #[] #[]]) rfl
  have i5 := run_ins _ _ hsz hT hI #[{ key := .int .i64 1, val := .agg #[.func (.func 49) #[] #[], .func (.func 50) #[] #[]], born := 0 }, { key := .int .i64 2, val := .agg #[.func (.func 51) #[] #[], .func (.func 52) #[] #[]], born := 1 }, { key := .int .i64 3, val := .agg #[.func (.func 53) #[] #[], .func (.func 54) #[] #[]], born := 2 }, { key := .int .i64 4, val := .agg #[.func (.func 55) #[] #[], .func (.func 56) #[] #[]], born := 3 }] 4 5 (.agg #[.func (.func 57) #[] #[], .func (.func 58) #[] #[]]) rfl
  simp only [List.push_toArray, List.cons_append, List.nil_append, Nat.reduceAdd] at i1 i2 i3 i4 i5
  have hmm := @run_makeMap Tryz.prog
  have HG := Lib.hid (show ∀ o1 o2 o3, Grow w (((w.alloc o1).alloc o2).alloc o3) from fun o1 o2 o3 => (((Grow.rfl' w).allocd o1).allocd o2).allocd o3)
  have lk := run_look_hit _ _ hsz hT hI #[{ key := .int .i64 1, val := .agg #[.func (.func 49) #[] #[], .func (.func 50) #[] #[]], born := 0 }, { key := .int .i64 2, val := .agg #[.func (.func 51) #[] #[], .func (.func 52) #[] #[]], born := 1 }, { key := .int .i64 3, val := .agg #[.func (.func 53) #[] #[], .func (.func 54) #[] #[]], born := 2 }, { key := .int .i64 4, val := .agg #[.func (.func 55) #[] #[], .func (.func 56) #[] #[]], born := 3 }, { key := .int .i64 5, val := .agg #[.func (.func 57) #[] #[], .func (.func 58) #[] #[]], born := 4 }] 5 4 3 _ rfl
  clear hsz
  go_enter Tryz.func22, Tryz.ntmps22
  go_wp2
  refine bodyPost_ret (v := .tuple #[.agg #[.func (.func 55) #[] #[], .func (.func 56) #[] #[]], .bool true]) ?_ rfl ⟨rfl, HG.out _ _ _⟩
  rw [results_cell_tmp rfl]
  go_simp

set_option maxRecDepth 100000 in
set_option maxHeartbeats 1000000 in
theorem acts5 (w : World) : Calls Tryz.prog 22 #[.int .i64 5] w fun e w' => e = .returned (.tuple #[.agg #[.func (.func 57) #[] #[], .func (.func 58) #[] #[]], .bool true]) ∧ Grow w w' := by
  have hsz : (w.alloc (.cells #[.nilFunc, .nilFunc] 74)).heap.size = w.heap.size + 1 := by simp
  have hT : Tryz.prog.underlying 105 = some (.map 3 74) := Tryz.underlying105
  have hI : Tryz.prog.underlying 3 = some (.int .i64) := Tryz.underlying3
  have i1 := run_ins _ _ hsz hT hI #[] 0 1 (.agg #[.func (.func 49) #[] #[], .func (.func 50) #[] #[]]) rfl
  have i2 := run_ins _ _ hsz hT hI #[{ key := .int .i64 1, val := .agg #[.func (.func 49) #[] #[], .func (.func 50) #[] #[]], born := 0 }] 1 2 (.agg #[.func (.func 51) #[] #[], .func (.func 52) #[] #[]]) rfl
  have i3 := run_ins _ _ hsz hT hI #[{ key := .int .i64 1, val := .agg #[.func (.func 49) #[] #[], .func (.func 50) #[] #[]], born := 0 }, { key := .int .i64 2, val := .agg #[.func (.func 51) #[] #[], .func (.func 52) #[] #[]], born := 1 }] 2 3 (.agg #[.func (.func 53) #[] #[], .func (.func 54) #[] #[]]) rfl
  have i4 := run_ins _ _ hsz hT hI #[{ key := .int .i64 1, val := .agg #[.func (.func 49) #[] #[], .func (.func 50) #[] #[]], born := 0 }, { key := .int .i64 2, val := .agg #[.func (.func 51) #[] #[], .func (.func 52) #[] #[]], born := 1 }, { key := .int .i64 3, val := .agg #[.func (.func 53) #[] #[], .func (.func 54) #[] #[]], born := 2 }] 3 4 (.agg #[.func (.func 55) #[] #[], .func (.func 56) #[] #[]]) rfl
  have i5 := run_ins _ _ hsz hT hI #[{ key := .int .i64 1, val := .agg #[.func (.func 49) #[] #[], .func (.func 50) #[] #[]], born := 0 }, { key := .int .i64 2, val := .agg #[.func (.func 51) #[] #[], .func (.func 52) #[] #[]], born := 1 }, { key := .int .i64 3, val := .agg #[.func (.func 53) #[] #[], .func (.func 54) #[] #[]], born := 2 }, { key := .int .i64 4, val := .agg #[.func (.func 55) #[] #[], .func (.func 56) #[] #[]], born := 3 }] 4 5 (.agg #[.func (.func 57) #[] #[], .func (.func 58) #[] #[]]) rfl
  simp only [List.push_toArray, List.cons_append, List.nil_append, Nat.reduceAdd] at i1 i2 i3 i4 i5
  have hmm := @run_makeMap Tryz.prog
  have HG := Lib.hid (show ∀ o1 o2 o3, Grow w (((w.alloc o1).alloc o2).alloc o3) from fun o1 o2 o3 => (((Grow.rfl' w).allocd o1).allocd o2).allocd o3)
  have lk := run_look_hit _ _ hsz hT hI #[{ key := .int .i64 1, val := .agg #[.func (.func 49) #[] #[], .func (.func 50) #[] #[]], born := 0 }, { key := .int .i64 2, val := .agg #[.func (.func 51) #[] #[], .func (.func 52) #[] #[]], born := 1 }, { key := .int .i64 3, val := .agg #[.func (.func 53) #[] #[], .func (.func 54) #[] #[]], born := 2 }, { key := .int .i64 4, val := .agg #[.func (.func 55) #[] #[], .func (.func 56) #[] #[]], born := 3 }, { key := .int .i64 5, val := .agg #[.func (.func 57) #[] #[], .func (.func 58) #[] #[]], born := 4 }] 5 5 4 _ rfl
  clear hsz
  go_enter Tryz.func22, Tryz.ntmps22
  go_wp2
  refine bodyPost_ret (v := .tuple #[.agg #[.func (.func 57) #[] #[], .func (.func 58) #[] #[]], .bool true]) ?_ rfl ⟨rfl, HG.out _ _ _⟩
  rw [results_cell_tmp rfl]
  go_simp

set_option maxRecDepth 100000 in
set_option maxHeartbeats 1000000 in
theorem acts0 (k : Int) (w : World) (h1 : k ≠ 1) (h2 : k ≠ 2) (h3 : k ≠ 3) (h4 : k ≠ 4) (h5 : k ≠ 5) : Calls Tryz.prog 22 #[.int .i64 k] w fun e w' => e = .returned (.tuple #[.agg #[.nilFunc, .nilFunc], .bool false]) ∧ Grow w w' := by
  have hsz : (w.alloc (.cells #[.nilFunc, .nilFunc] 74)).heap.size = w.heap.size + 1 := by simp
  have hT : Tryz.prog.underlying 105 = some (.map 3 74) := Tryz.underlying105
  have hI : Tryz.prog.underlying 3 = some (.int .i64) := Tryz.underlying3
  have i1 := run_ins _ _ hsz hT hI #[] 0 1 (.agg #[.func (.func 49) #[] #[], .func (.func 50) #[] #[]]) rfl
  have i2 := run_ins _ _ hsz hT hI #[{ key := .int .i64 1, val := .agg #[.func (.func 49) #[] #[], .func (.func 50) #[] #[]], born := 0 }] 1 2 (.agg #[.func (.func 51) #[] #[], .func (.func 52) #[] #[]]) rfl
  have i3 := run_ins _ _ hsz hT hI #[{ key := .int .i64 1, val := .agg #[.func (.func 49) #[] #[], .func (.func 50) #[] #[]], born := 0 }, { key := .int .i64 2, val := .agg #[.func (.func 51) #[] #[], .func (.func 52) #[] #[]], born := 1 }] 2 3 (.agg #[.func (.func 53) #[] #[], .func (.func 54) #[] #[]]) rfl
  have i4 := run_ins _ _ hsz hT hI #[{ key := .int .i64 1, val := .agg #[.func (.func 49) #[] #[], .func (.func 50) #[] #[]], born := 0 }, { key := .int .i64 2, val := .agg #[.func (.func 51) #[] #[], .func (.func 52) #[] #[]], born := 1 }, { key := .int .i64 3, val := .agg #[.func (.func 53) #[] #[], .func (.func 54) #[] #[]], born := 2 }] 3 4 (.agg #[.func (.func 55) #[] #[], .func (.func 56) #[] #[]]) rfl
  have i5 := run_ins _ _ hsz hT hI #[{ key := .int .i64 1, val := .agg #[.func (.func 49) #[] #[], .func (.func 50) #[] #[]], born := 0 }, { key := .int .i64 2, val := .agg #[.func (.func 51) #[] #[], .func (.func 52) #[] #[]], born := 1 }, { key := .int .i64 3, val := .agg #[.func (.func 53) #[] #[], .func (.func 54) #[] #[]], born := 2 }, { key := .int .i64 4, val := .agg #[.func (.func 55) #[] #[], .func (.func 56) #[] #[]], born := 3 }] 4 5 (.agg #[.func (.func 57) #[] #[], .func (.func 58) #[] #[]]) rfl
  simp only [List.push_toArray, List.cons_append, List.nil_append, Nat.reduceAdd] at i1 i2 i3 i4 i5
  have hmm := @run_makeMap Tryz.prog
  have HG := Lib.hid (show ∀ o1 o2 o3, Grow w (((w.alloc o1).alloc o2).alloc o3) from fun o1 o2 o3 => (((Grow.rfl' w).allocd o1).allocd o2).allocd o3)
  have lk := run_look_miss _ _ hsz hT hI #[{ key := .int .i64 1, val := .agg #[.func (.func 49) #[] #[], .func (.func 50) #[] #[]], born := 0 }, { key := .int .i64 2, val := .agg #[.func (.func 51) #[] #[], .func (.func 52) #[] #[]], born := 1 }, { key := .int .i64 3, val := .agg #[.func (.func 53) #[] #[], .func (.func 54) #[] #[]], born := 2 }, { key := .int .i64 4, val := .agg #[.func (.func 55) #[] #[], .func (.func 56) #[] #[]], born := 3 }, { key := .int .i64 5, val := .agg #[.func (.func 57) #[] #[], .func (.func 58) #[] #[]], born := 4 }] 5 k _ zeroAct (by simp [Instr.findNow, Instr.sameNow, beq_eq_false_iff_ne.2 h1, beq_eq_false_iff_ne.2 h2, beq_eq_false_iff_ne.2 h3, beq_eq_false_iff_ne.2 h4, beq_eq_false_iff_ne.2 h5])
  clear hsz h1 h2 h3 h4 h5
  go_enter Tryz.func22, Tryz.ntmps22
  go_wp2
  refine bodyPost_ret (v := .tuple #[.agg #[.nilFunc, .nilFunc], .bool false]) ?_ rfl ⟨rfl, HG.out _ _ _⟩
  rw [results_cell_tmp rfl]
  go_simp
end Go.Hg
