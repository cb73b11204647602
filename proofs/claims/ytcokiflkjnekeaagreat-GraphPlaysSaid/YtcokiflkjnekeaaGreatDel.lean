/- slices.Delete of one element at nodes and edges whose row is one's own. Condition: at most 2^40 elements. Printed by gendel.py. -/
import Derived.Test.YtcokiflkjnekeaaGreatBOps
import Derived.Test.YtcokiflkjnekeaaGreatDeep
import Derived.Test.YtcokiflkjnekeaaGreatKeepC
namespace Go.Hg
open Go.RowKit Go.Proofs

theorem del_take {α : Type} (sz : Nat) (cur xs cs : List α) (i n cap : Nat) (h1 : cur.length = cap * sz) (h2 : cur.take (n * sz) = xs) (h3 : i < n) (h4 : n ≤ cap) (h5 : cs.length = 1 * sz) (cur1 cur2 : List α)
    (e1 : cur1 = cur.take (i * sz) ++ xs.drop ((i + 1) * sz) ++ cur.drop (i * sz + (xs.drop ((i + 1) * sz)).length)) (e2 : cur2 = cur1.take ((n - 1) * sz) ++ cs ++ cur1.drop ((n - 1) * sz + cs.length)) :
    cur1.length = cap * sz ∧ cur2.length = cap * sz ∧ cur2.take ((n - 1) * sz) = xs.take (i * sz) ++ xs.drop ((i + 1) * sz) ∧ (xs.drop ((i + 1) * sz)).length = (n - i - 1) * sz := by
  have hnc : n * sz ≤ cap * sz := Nat.mul_le_mul_right _ h4
  have hxs : xs.length = n * sz := by rw [← h2, List.length_take]; omega
  obtain ⟨m, rfl⟩ : ∃ m, n = i + 1 + m := ⟨n - (i + 1), by omega⟩
  obtain ⟨c, rfl⟩ : ∃ c, cap = i + 1 + m + c := ⟨cap - (i + 1 + m), by omega⟩
  have hB : (xs.drop ((i + 1) * sz)).length = m * sz := by rw [List.length_drop, hxs, Nat.add_mul (i + 1) m sz]; omega
  have q1 : (i + 1) * sz = i * sz + sz := Nat.succ_mul i sz
  have q2 : (i + 1 + m) * sz = i * sz + sz + m * sz := by rw [Nat.add_mul, q1]
  have q3 : (i + 1 + m + c) * sz = i * sz + sz + m * sz + c * sz := by rw [Nat.add_mul, q2]
  have q4 : (i + 1 + m - 1) * sz = i * sz + m * sz := by rw [show i + 1 + m - 1 = i + m by omega, Nat.add_mul]
  have q5 : (i + 1 + m - i - 1) = m := by omega
  have hA : (cur.take (i * sz)).length = i * sz := by rw [List.length_take]; omega
  have l1 : cur1.length = (i + 1 + m + c) * sz := by
    rw [e1, List.length_append, List.length_append, hA, hB, List.length_drop, h1]; omega
  have t1 : cur1.take ((i + 1 + m - 1) * sz) = cur.take (i * sz) ++ xs.drop ((i + 1) * sz) := by
    rw [e1]
    have : (i + 1 + m - 1) * sz = (cur.take (i * sz) ++ xs.drop ((i + 1) * sz)).length := by rw [List.length_append, hA, hB]; omega
    rw [this, List.take_left]
  have t0 : cur.take (i * sz) = xs.take (i * sz) := by
    rw [← h2, List.take_take]; congr 1; omega
  refine ⟨l1, ?_, ?_, by rw [q5]; exact hB⟩
  · rw [e2, t1, List.length_append, List.length_append, List.length_append, hA, hB, List.length_drop, l1]; omega
  · rw [e2, t1, t0, List.append_assoc]
    have : (i + 1 + m - 1) * sz = (xs.take (i * sz) ++ xs.drop ((i + 1) * sz)).length := by rw [List.length_append, ← t0, hA, hB]; omega
    rw [this, List.take_left]

set_option maxRecDepth 100000 in
set_option maxHeartbeats 2000000 in
theorem deleteNode (v : Value) (n : Nat) (xs : List Value) (ob : Option Nat) (i : Nat) (w : World) (hown : OwnS w 59 3 v n xs ob) (hn : n ≤ 1099511627776)
    (hi : i < n) (h1x : ∀ u ∈ xs, u.oneCell' = true) :
    Calls Tryz.prog 78 #[v, .int .i64 i, .int .i64 (i + 1)] w fun e w' =>
      ∃ v', e = .returned v' ∧ OwnS w' 59 3 v' (n - 1) (xs.take (i * 3) ++ xs.drop ((i + 1) * 3)) ob ∧ Mod (fun k => ob = some k) w w' := by
  obtain ⟨iP, hiP, hzP0, hzP1, hzP2⟩ := info_parts infoNode
  have hxl := hown.1
  rcases hown.2 with ⟨_, _, h, _⟩ | ⟨g, cap, cur, rfl, rfl, hblk, hnc, hcm, hcs, htk⟩
  · omega
  have hTP : Tryz.prog.underlying 65 = some (.slice 59) := Tryz.underlying65
  have hlt : g < w.heap.size := blk_lt hblk
  have hlc : cur.toList.length = cap * 3 := by simpa using hcs
  unfold maxLen at hcm
  obtain ⟨cur1, hcur1⟩ : ∃ c1, c1 = cur.toList.take (i * 3) ++ xs.drop ((i + 1) * 3) ++ cur.toList.drop (i * 3 + (xs.drop ((i + 1) * 3)).length) := ⟨_, rfl⟩
  have hrd : ∀ o : Nat, (cap = i + 1 ∨ o = (i + 1) * 3) → ∀ w' : World, w'.heap[g]? = w.heap[g]? → ∀ j u, (xs.drop ((i + 1) * 3))[j]? = some u → w'.cell? ((⟨g, o, none⟩ : Addr).add j) = some u := by
    intro o ho w' hw' j u hu
    rcases ho with ho | rfl
    · rw [List.drop_of_length_le (by omega)] at hu
      cases hu
    rw [Addr.add_lit, blk_cell (hw'.trans hblk), ← Array.getElem?_toList]
    rw [← htk, List.getElem?_drop, List.getElem?_take] at hu
    split at hu
    · exact hu
    · cases hu
  have hd0 := del_take 3 cur.toList xs (List.replicate (1 * 3) (Value.bool false)) i n cap hlc htk hi hnc (by simp) cur1 _ hcur1 rfl
  have hnl := hd0.2.2.2
  have hl1 := hd0.1
  clear hd0
  have hap : ∀ ty c o, (cap = i + 1 ∨ o = (i + 1) * 3) → (Builtin.append_ #[65, 65] ty #[.slice (some ⟨g, 0, none⟩) i cap, .slice (some ⟨g, o, none⟩) (n - (i + 1)) c]).run Tryz.prog w.drew =
      .ok (.slice (some ⟨g, 0, none⟩) (n - 1) cap) (w.drew.setRow g cur1.toArray) := fun ty c o ho => by
    have hr := run_append_room (P := Tryz.prog) w.drew 65 ty 59 iP hTP hiP g i cap cur (by exact hblk) ⟨g, o, none⟩ (n - (i + 1)) c (xs.drop ((i + 1) * 3)) (by rw [hzP1, hnl]; congr 1) (hrd o ho _ rfl) (fun u hu => h1x u (List.mem_of_mem_drop hu)) (by omega) (by rw [hzP1, hnl, hcs]; omega)
    rw [hr, hzP1, ← hcur1, show i + (n - (i + 1)) = n - 1 by omega]
  have hb1 : (w.drew.setRow g cur1.toArray).heap[g]? = some (.cells cur1.toArray 59 (0, 0)) := setRow_heap w.drew g cur cur1.toArray 59 (0, 0) hblk
  obtain ⟨z, hz, hzs, hz1⟩ : ∃ z, (∀ w, (zeroValue 59).run Tryz.prog w = .ok z w) ∧ z.cells.size = 3 ∧ (∀ u ∈ z.cells.toList, u.oneCell' = true) := ⟨.agg #[.int .i64 0, .string ByteArray.empty, .slice none 0 0], fun w => by kernel_rfl, rfl, by decide⟩
  obtain ⟨cs, hcsl, hcl⟩ := run_clear_row (P := Tryz.prog) (w.drew.setRow g cur1.toArray) 65 0 59 z hTP hz g ((n - 1) * 3) 1 (cap - (n - 1)) cur1.toArray 59 hb1 (by rw [hzs]; simp [hl1]; omega) hz1
  rw [hzs] at hcsl
  obtain ⟨cur2, hcur2⟩ : ∃ c2, c2 = cur1.take ((n - 1) * 3) ++ cs ++ cur1.drop ((n - 1) * 3 + cs.length) := ⟨_, rfl⟩
  have hd := del_take 3 cur.toList xs cs i n cap hlc htk hi hnc (by simpa using hcsl) cur1 cur2 hcur1 hcur2
  have hb2 : ((w.drew.setRow g cur1.toArray).setRow g cur2.toArray).heap[g]? = some (.cells cur2.toArray 59 (0, 0)) := setRow_heap _ g _ cur2.toArray 59 (0, 0) hb1
  have HFIN := Lib.hid (show OwnS ((w.drew.setRow g cur1.toArray).setRow g cur2.toArray) 59 3 (.slice (some ⟨g, 0, none⟩) (n - 1) cap) (n - 1) (xs.take (i * 3) ++ xs.drop ((i + 1) * 3)) (some g) from
    ⟨by rw [← hd.2.2.1, List.length_take, hd.2.1]; omega, .inr ⟨g, cap, cur2.toArray, rfl, rfl, hb2, by omega, by unfold maxLen; omega, by simpa using hd.2.1, hd.2.2.1⟩⟩)
  have HMOD := Lib.hid (show Mod (fun k => some g = some k) w ((w.drew.setRow g cur1.toArray).setRow g cur2.toArray) from
    ⟨rfl, rfl, rfl, by simp, fun k hk hh => by rw [setRow_other _ _ _ _ (fun e => hh (by rw [e])), setRow_other _ _ _ _ (fun e => hh (by rw [e]))]; rfl⟩)
  have hcl' : ∀ ty, (Builtin.clear_ #[65] ty #[.slice (some ⟨g, (n - 1) * 3, none⟩) 1 (cap - (n - 1))]).run Tryz.prog (w.drew.setRow g cur1.toArray) = .ok (.tuple #[]) ((w.drew.setRow g cur1.toArray).setRow g cur2.toArray) := by
    intro ty
    rw [hcur2]
    exact hcl
  have HAP := Lib.hid hap
  have hr1 : ¬ n = i := by omega
  have hr3 : ¬ cap = n - 1 := by omega
  have hne : ((i : Int) == (i : Int) + 1) = false := by simp; omega
  have hq1 : (0 : Int) ≤ (i : Int) + 1 := by omega
  have hq2 : (i : Int) ≤ (i : Int) + 1 := by omega
  have hq3 : (i : Int) + 1 ≤ (n : Int) := by omega
  have hq4 : ((i : Int) + 1).toNat = i + 1 := by omega
  have hq5 : (n : Int) ≤ (cap : Int) := by omega
  have hq6 : (i : Int) ≤ (cap : Int) := by omega
  have hq7 : (((n - 1 : Nat) : Int)) ≤ (n : Int) := by omega
  have hq8 : n - (n - 1) = 1 := by omega
  have HSELF := Lib.hid (show cap = i + 1 → w.drew.setRow g cur1.toArray = w.drew by
    intro hce
    have e : cur1.toArray = cur := by
      rw [hcur1, List.drop_of_length_le (by omega)]
      simp
    rw [e]
    exact setRow_self w.drew g cur 59 (0, 0) hblk)
  clear hown hblk hxl htk hlc hcur1 hrd hnl hl1 hap hb1 hz hzs hz1 hcsl hcl hcur2 hd hb2 hcs h1x
  by_cases hce : cap = i + 1
  · have hself := HSELF.out hce
    clear HAP HSELF
    rw [hself] at hcl' HFIN HMOD
    obtain rfl : n = i + 1 := by omega
    subst hce
    simp only [Nat.add_sub_cancel, Nat.add_sub_cancel_left] at *
    go_enter Tryz.func78, Tryz.ntmps78
    go_wp2_with fail
    go_region
    go_wp2
    go_ret
    exact ⟨_, rfl, HFIN.out, HMOD.out⟩
  · have HAP2 := Lib.hid (fun ty c => HAP.out ty c _ (.inr rfl))
    clear HAP
    go_enter Tryz.func78, Tryz.ntmps78
    go_wp2_with fail
    go_region_law (refine step_run rfl (exec_append _ (.tmp 22) (.tmp 25) 65 65 rfl (by simp [Act.eval, Act.put]) (show _ = Value.slice (some ⟨g, (i + 1) * 3, none⟩) (n - (i + 1)) (cap - (i + 1)) by simp [Act.eval, Act.put]) (fun ty => HAP2.out ty _)) ?_)
    go_wp2
    go_ret
    exact ⟨_, rfl, HFIN.out, HMOD.out⟩

set_option maxRecDepth 100000 in
set_option maxHeartbeats 2000000 in
theorem deleteEdge (v : Value) (n : Nat) (xs : List Value) (ob : Option Nat) (i : Nat) (w : World) (hown : OwnS w 79 5 v n xs ob) (hn : n ≤ 1099511627776)
    (hi : i < n) (h1x : ∀ u ∈ xs, u.oneCell' = true) :
    Calls Tryz.prog 81 #[v, .int .i64 i, .int .i64 (i + 1)] w fun e w' =>
      ∃ v', e = .returned v' ∧ OwnS w' 79 5 v' (n - 1) (xs.take (i * 5) ++ xs.drop ((i + 1) * 5)) ob ∧ Mod (fun k => ob = some k) w w' := by
  obtain ⟨iP, hiP, hzP0, hzP1, hzP2⟩ := info_parts infoEdge
  have hxl := hown.1
  rcases hown.2 with ⟨_, _, h, _⟩ | ⟨g, cap, cur, rfl, rfl, hblk, hnc, hcm, hcs, htk⟩
  · omega
  have hTP : Tryz.prog.underlying 66 = some (.slice 79) := Tryz.underlying66
  have hlt : g < w.heap.size := blk_lt hblk
  have hlc : cur.toList.length = cap * 5 := by simpa using hcs
  unfold maxLen at hcm
  obtain ⟨cur1, hcur1⟩ : ∃ c1, c1 = cur.toList.take (i * 5) ++ xs.drop ((i + 1) * 5) ++ cur.toList.drop (i * 5 + (xs.drop ((i + 1) * 5)).length) := ⟨_, rfl⟩
  have hrd : ∀ o : Nat, (cap = i + 1 ∨ o = (i + 1) * 5) → ∀ w' : World, w'.heap[g]? = w.heap[g]? → ∀ j u, (xs.drop ((i + 1) * 5))[j]? = some u → w'.cell? ((⟨g, o, none⟩ : Addr).add j) = some u := by
    intro o ho w' hw' j u hu
    rcases ho with ho | rfl
    · rw [List.drop_of_length_le (by omega)] at hu
      cases hu
    rw [Addr.add_lit, blk_cell (hw'.trans hblk), ← Array.getElem?_toList]
    rw [← htk, List.getElem?_drop, List.getElem?_take] at hu
    split at hu
    · exact hu
    · cases hu
  have hd0 := del_take 5 cur.toList xs (List.replicate (1 * 5) (Value.bool false)) i n cap hlc htk hi hnc (by simp) cur1 _ hcur1 rfl
  have hnl := hd0.2.2.2
  have hl1 := hd0.1
  clear hd0
  have hap : ∀ ty c o, (cap = i + 1 ∨ o = (i + 1) * 5) → (Builtin.append_ #[66, 66] ty #[.slice (some ⟨g, 0, none⟩) i cap, .slice (some ⟨g, o, none⟩) (n - (i + 1)) c]).run Tryz.prog w.drew =
      .ok (.slice (some ⟨g, 0, none⟩) (n - 1) cap) (w.drew.setRow g cur1.toArray) := fun ty c o ho => by
    have hr := run_append_room (P := Tryz.prog) w.drew 66 ty 79 iP hTP hiP g i cap cur (by exact hblk) ⟨g, o, none⟩ (n - (i + 1)) c (xs.drop ((i + 1) * 5)) (by rw [hzP1, hnl]; congr 1) (hrd o ho _ rfl) (fun u hu => h1x u (List.mem_of_mem_drop hu)) (by omega) (by rw [hzP1, hnl, hcs]; omega)
    rw [hr, hzP1, ← hcur1, show i + (n - (i + 1)) = n - 1 by omega]
  have hb1 : (w.drew.setRow g cur1.toArray).heap[g]? = some (.cells cur1.toArray 79 (0, 0)) := setRow_heap w.drew g cur cur1.toArray 79 (0, 0) hblk
  obtain ⟨z, hz, hzs, hz1⟩ : ∃ z, (∀ w, (zeroValue 79).run Tryz.prog w = .ok z w) ∧ z.cells.size = 5 ∧ (∀ u ∈ z.cells.toList, u.oneCell' = true) := ⟨.agg #[.int .i64 0, .string ByteArray.empty, .int .i64 0, .int .i64 0, .slice none 0 0], fun w => by kernel_rfl, rfl, by decide⟩
  obtain ⟨cs, hcsl, hcl⟩ := run_clear_row (P := Tryz.prog) (w.drew.setRow g cur1.toArray) 66 0 79 z hTP hz g ((n - 1) * 5) 1 (cap - (n - 1)) cur1.toArray 79 hb1 (by rw [hzs]; simp [hl1]; omega) hz1
  rw [hzs] at hcsl
  obtain ⟨cur2, hcur2⟩ : ∃ c2, c2 = cur1.take ((n - 1) * 5) ++ cs ++ cur1.drop ((n - 1) * 5 + cs.length) := ⟨_, rfl⟩
  have hd := del_take 5 cur.toList xs cs i n cap hlc htk hi hnc (by simpa using hcsl) cur1 cur2 hcur1 hcur2
  have hb2 : ((w.drew.setRow g cur1.toArray).setRow g cur2.toArray).heap[g]? = some (.cells cur2.toArray 79 (0, 0)) := setRow_heap _ g _ cur2.toArray 79 (0, 0) hb1
  have HFIN := Lib.hid (show OwnS ((w.drew.setRow g cur1.toArray).setRow g cur2.toArray) 79 5 (.slice (some ⟨g, 0, none⟩) (n - 1) cap) (n - 1) (xs.take (i * 5) ++ xs.drop ((i + 1) * 5)) (some g) from
    ⟨by rw [← hd.2.2.1, List.length_take, hd.2.1]; omega, .inr ⟨g, cap, cur2.toArray, rfl, rfl, hb2, by omega, by unfold maxLen; omega, by simpa using hd.2.1, hd.2.2.1⟩⟩)
  have HMOD := Lib.hid (show Mod (fun k => some g = some k) w ((w.drew.setRow g cur1.toArray).setRow g cur2.toArray) from
    ⟨rfl, rfl, rfl, by simp, fun k hk hh => by rw [setRow_other _ _ _ _ (fun e => hh (by rw [e])), setRow_other _ _ _ _ (fun e => hh (by rw [e]))]; rfl⟩)
  have hcl' : ∀ ty, (Builtin.clear_ #[66] ty #[.slice (some ⟨g, (n - 1) * 5, none⟩) 1 (cap - (n - 1))]).run Tryz.prog (w.drew.setRow g cur1.toArray) = .ok (.tuple #[]) ((w.drew.setRow g cur1.toArray).setRow g cur2.toArray) := by
    intro ty
    rw [hcur2]
    exact hcl
  have HAP := Lib.hid hap
  have hr1 : ¬ n = i := by omega
  have hr3 : ¬ cap = n - 1 := by omega
  have hne : ((i : Int) == (i : Int) + 1) = false := by simp; omega
  have hq1 : (0 : Int) ≤ (i : Int) + 1 := by omega
  have hq2 : (i : Int) ≤ (i : Int) + 1 := by omega
  have hq3 : (i : Int) + 1 ≤ (n : Int) := by omega
  have hq4 : ((i : Int) + 1).toNat = i + 1 := by omega
  have hq5 : (n : Int) ≤ (cap : Int) := by omega
  have hq6 : (i : Int) ≤ (cap : Int) := by omega
  have hq7 : (((n - 1 : Nat) : Int)) ≤ (n : Int) := by omega
  have hq8 : n - (n - 1) = 1 := by omega
  have HSELF := Lib.hid (show cap = i + 1 → w.drew.setRow g cur1.toArray = w.drew by
    intro hce
    have e : cur1.toArray = cur := by
      rw [hcur1, List.drop_of_length_le (by omega)]
      simp
    rw [e]
    exact setRow_self w.drew g cur 79 (0, 0) hblk)
  clear hown hblk hxl htk hlc hcur1 hrd hnl hl1 hap hb1 hz hzs hz1 hcsl hcl hcur2 hd hb2 hcs h1x
  by_cases hce : cap = i + 1
  · have hself := HSELF.out hce
    clear HAP HSELF
    rw [hself] at hcl' HFIN HMOD
    obtain rfl : n = i + 1 := by omega
    subst hce
    simp only [Nat.add_sub_cancel, Nat.add_sub_cancel_left] at *
    go_enter Tryz.func81, Tryz.ntmps81
    go_wp2_with fail
    go_region
    go_wp2
    go_ret
    exact ⟨_, rfl, HFIN.out, HMOD.out⟩
  · have HAP2 := Lib.hid (fun ty c => HAP.out ty c _ (.inr rfl))
    clear HAP
    go_enter Tryz.func81, Tryz.ntmps81
    go_wp2_with fail
    go_region_law (refine step_run rfl (exec_append _ (.tmp 22) (.tmp 25) 66 66 rfl (by simp [Act.eval, Act.put]) (show _ = Value.slice (some ⟨g, (i + 1) * 5, none⟩) (n - (i + 1)) (cap - (i + 1)) by simp [Act.eval, Act.put]) (fun ty => HAP2.out ty _)) ?_)
    go_wp2
    go_ret
    exact ⟨_, rfl, HFIN.out, HMOD.out⟩
end Go.Hg
