/- val.Good, hedgerowref02.Good, Blank. No condition. -/
import Derived.Test.YtcokiflkjnekeaaGreatValA
import Derived.Test.YtcokiflkjnekeaaGreatMaps
namespace Go.Hg
open Go.RowKit Go.Proofs

theorem isEmpty_iff (s : ByteArray) : s.toList.isEmpty = decide (s = ByteArray.empty) := by
  rw [ByteArray.toList_eq]
  by_cases h : s = ByteArray.empty
  · subst h; rfl
  · rw [decide_eq_false h]
    cases h2 : s.data.toList with
    | nil => exact absurd (ByteArray.ext (Array.toList_inj.1 (by rw [h2]; rfl))) h
    | cons => rfl
attribute [go_sem] isEmpty_iff

set_option maxHeartbeats 400000 in
theorem ownBool (k n : Int) (s : ByteArray) (w : World) :
    Calls Tryz.prog 93 #[.agg #[.int .i64 k, .int .i64 n, .string s]] w fun e w' => e = .returned (.bool (decide ((n = 0 ∨ n = 1) ∧ s = ByteArray.empty))) ∧ Grow w w' := by
  have hg : ∀ o1, Grow w (w.alloc o1) := fun o1 => (Grow.rfl' w).allocd o1
  go_enter Tryz.func93, Tryz.ntmps93
  go_wp2
  all_goals
    go_ret
    refine ⟨?_, hg _⟩
    simp [*]
set_option maxHeartbeats 400000 in
theorem ownInt (k n : Int) (s : ByteArray) (w : World) :
    Calls Tryz.prog 94 #[.agg #[.int .i64 k, .int .i64 n, .string s]] w fun e w' => e = .returned (.bool (decide (s = ByteArray.empty))) ∧ Grow w w' := by
  have hg : ∀ o1, Grow w (w.alloc o1) := fun o1 => (Grow.rfl' w).allocd o1
  go_enter Tryz.func94, Tryz.ntmps94
  go_wp2
  all_goals
    go_ret
    refine ⟨?_, hg _⟩
    simp [*]
set_option maxHeartbeats 400000 in
theorem ownText (k n : Int) (s : ByteArray) (w : World) :
    Calls Tryz.prog 95 #[.agg #[.int .i64 k, .int .i64 n, .string s]] w fun e w' => e = .returned (.bool (decide (n = 0 ∧ s.size ≤ 1024))) ∧ Grow w w' := by
  have hg : ∀ o1, Grow w (w.alloc o1) := fun o1 => (Grow.rfl' w).allocd o1
  go_enter Tryz.func95, Tryz.ntmps95
  go_wp2
  all_goals
    go_ret
    refine ⟨?_, hg _⟩
    simp [*]
    try omega
set_option maxHeartbeats 400000 in
theorem refBlank (v : PVal) (w : World) :
    Calls Tryz.prog 62 #[.agg #[.int .i64 v.kind, .int .i64 v.n, .string v.s]] w fun e w' => e = .returned (.bool (decide (BlankV v))) ∧ Grow w w' := by
  obtain ⟨k, n, s⟩ := v
  unfold BlankV
  have hg : ∀ o1, Grow w (w.alloc o1) := fun o1 => (Grow.rfl' w).allocd o1
  go_enter Tryz.func62, Tryz.ntmps62
  go_wp2
  all_goals
    go_ret
    refine ⟨?_, hg _⟩
    simp [*]
set_option maxHeartbeats 400000 in
theorem refGoodV (v : PVal) (w : World) :
    Calls Tryz.prog 61 #[.agg #[.int .i64 v.kind, .int .i64 v.n, .string v.s]] w fun e w' => e = .returned (.bool (decide (GoodV v))) ∧ Grow w w' := by
  obtain ⟨k, n, s⟩ := v
  unfold GoodV
  have hg : ∀ o1, Grow w (w.alloc o1) := fun o1 => (Grow.rfl' w).allocd o1
  go_enter Tryz.func61, Tryz.ntmps61
  go_wp2
  all_goals
    (try simp only [beq_iff_eq, beq_eq_false_iff_ne, ne_eq] at *)
    go_ret
    refine ⟨?_, hg _⟩
    simp [*]
    try omega

theorem zeroOwn (w : World) : (zeroValue 133).run Tryz.prog w = .ok .nilFunc w := by kernel_rfl
set_option maxRecDepth 100000 in
set_option maxHeartbeats 1000000 in
theorem valGood (v : PVal) (w : World) :
    Calls Tryz.prog 84 #[.agg #[.int .i64 v.kind, .int .i64 v.n, .string v.s]] w fun e w' => e = .returned (.bool (decide (GoodV v))) ∧ Grow w w' := by
  obtain ⟨k, n, s⟩ := v
  have hsz : (w.alloc (.cells #[.int .i64 k, .int .i64 n, .string s] 39)).heap.size = w.heap.size + 1 := by simp
  have hT : Tryz.prog.underlying 136 = some (.map 3 133) := Tryz.underlying136
  have hI : Tryz.prog.underlying 3 = some (.int .i64) := Tryz.underlying3
  have i1 := run_ins _ _ hsz hT hI #[] 0 1 (.func (.func 93) #[] #[]) rfl
  have i2 := run_ins _ _ hsz hT hI #[{ key := .int .i64 1, val := .func (.func 93) #[] #[], born := 0 }] 1 2 (.func (.func 94) #[] #[]) rfl
  have i3 := run_ins _ _ hsz hT hI #[{ key := .int .i64 1, val := .func (.func 93) #[] #[], born := 0 }, { key := .int .i64 2, val := .func (.func 94) #[] #[], born := 1 }] 2 3 (.func (.func 95) #[] #[]) rfl
  simp only [List.push_toArray, List.cons_append, List.nil_append, Nat.reduceAdd] at i1 i2 i3
  have hmm := @run_makeMap Tryz.prog
  have hg : ∀ o1 o2, Grow w ((w.alloc o1).alloc o2) := fun o1 o2 => ((Grow.rfl' w).allocd o1).allocd o2
  have HG := Lib.hid hg; clear hg
  by_cases h1 : k = 1
  · subst h1
    have lk := run_look_hit _ _ hsz hT hI #[{ key := .int .i64 1, val := .func (.func 93) #[] #[], born := 0 }, { key := .int .i64 2, val := .func (.func 94) #[] #[], born := 1 }, { key := .int .i64 3, val := .func (.func 95) #[] #[], born := 2 }] 3 1 0 _ rfl
    clear hsz
    go_enter Tryz.func84, Tryz.ntmps84
    go_wp2_with (go_at_call 93; (with_reducible refine (ownBool _ _ _ _).mono ?_); rintro e w2 ⟨rfl, hw2⟩)
    go_ret
    exact ⟨by simp [GoodV], (HG.out _ _).step hw2⟩
  · by_cases h2 : k = 2
    · subst h2
      have lk := run_look_hit _ _ hsz hT hI #[{ key := .int .i64 1, val := .func (.func 93) #[] #[], born := 0 }, { key := .int .i64 2, val := .func (.func 94) #[] #[], born := 1 }, { key := .int .i64 3, val := .func (.func 95) #[] #[], born := 2 }] 3 2 1 _ rfl
      clear hsz h1
      go_enter Tryz.func84, Tryz.ntmps84
      go_wp2_with (go_at_call 94; (with_reducible refine (ownInt _ _ _ _).mono ?_); rintro e w2 ⟨rfl, hw2⟩)
      go_ret
      exact ⟨by simp [GoodV], (HG.out _ _).step hw2⟩
    · by_cases h3 : k = 3
      · subst h3
        have lk := run_look_hit _ _ hsz hT hI #[{ key := .int .i64 1, val := .func (.func 93) #[] #[], born := 0 }, { key := .int .i64 2, val := .func (.func 94) #[] #[], born := 1 }, { key := .int .i64 3, val := .func (.func 95) #[] #[], born := 2 }] 3 3 2 _ rfl
        clear hsz h1 h2
        go_enter Tryz.func84, Tryz.ntmps84
        go_wp2_with (go_at_call 95; (with_reducible refine (ownText _ _ _ _).mono ?_); rintro e w2 ⟨rfl, hw2⟩)
        go_ret
        exact ⟨by simp [GoodV], (HG.out _ _).step hw2⟩
      · have lk := run_look_miss _ _ hsz hT hI #[{ key := .int .i64 1, val := .func (.func 93) #[] #[], born := 0 }, { key := .int .i64 2, val := .func (.func 94) #[] #[], born := 1 }, { key := .int .i64 3, val := .func (.func 95) #[] #[], born := 2 }] 3 k .nilFunc zeroOwn (by simp [Instr.findNow, Instr.sameNow, beq_eq_false_iff_ne.2 h1, beq_eq_false_iff_ne.2 h2, beq_eq_false_iff_ne.2 h3])
        have HN := Lib.hid (show ¬ GoodV ⟨k, n, s⟩ by simp [GoodV, h1, h2, h3])
        clear hsz h1 h2 h3
        go_enter Tryz.func84, Tryz.ntmps84
        go_wp2
        go_ret
        exact ⟨by rw [decide_eq_false HN.out]; rfl, HG.out _ _⟩
end Go.Hg
